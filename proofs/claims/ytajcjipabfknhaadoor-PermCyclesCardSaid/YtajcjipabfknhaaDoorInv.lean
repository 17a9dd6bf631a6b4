/- A statement whose order is open, walked by an invariant of one's own: of what is done, what was yielded and the world. Conditions: none. -/
import Derived.Test.YtajcjipabfknhaaDoorFunnel
set_option linter.unusedSimpArgs false
set_option linter.unusedVariables false
namespace Go.Proofs.YtajcjipabfknhaaDoor
open Go Go.RowKit

section
variable {P : Program} {ops : Array Oper} {Q : Exit → Act → World → Prop} {md : Region.Mode}

/-- All edges that bind lead back. -/
def backB (md : Region.Mode) (ops : Array Oper) : Bool :=
  (List.range ops.size).all fun i => match ops[i]? with | some o => o.after.all fun e => !Region.binds md e || decide (e.on < i) | none => false

theorem back_lt (h : backB md ops = true) {i : Nat} {o : Oper} (ho : ops[i]? = some o) {e : Edge} (he : e ∈ o.after) (hb : Region.binds md e = true) : e.on < i := by
  have hi := (Array.getElem?_eq_some_iff.1 ho).1
  have h1 := List.all_eq_true.1 h i (List.mem_range.2 hi)
  rw [ho] at h1
  have h2 := Array.all_eq_true_iff_forall_mem.1 h1 e he
  simpa [hb] using h2

/-- What is done, one more. -/
def did (done : Nat → Bool) (i : Nat) : Nat → Bool := fun j => if j = i then true else done j
theorem did_same (done : Nat → Bool) (i : Nat) : did done i i = true := if_pos rfl
theorem did_other (done : Nat → Bool) {i j : Nat} (h : j ≠ i) : did done i j = done j := if_neg h

theorem wpAny_inv (I : (Nat → Bool) → (Nat → Value) → World → Prop) (mk : (Nat → Value) → Act) (hf : backB md ops = true)
    (hput : ∀ i o, ops[i]? = some o → ∀ u v, (mk u).put o.dst v = mk (upd u i v))
    (step : ∀ i o, ops[i]? = some o → ∀ done u w, done i = false → (∀ e ∈ o.after, Region.binds md e = true → done e.on = true) → I done u w →
      ∀ K : Act → World → Prop, (∀ v w', I (did done i) (upd u i v) w' → K ((mk u).put o.dst v) w') → wpOp P ops Q i K (mk u) w)
    (fin : ∀ done u w, (∀ i, i < ops.size → done i = true) → I done u w → Q .normal (mk u) w) :
    ∀ (fuel : Nat) (listed : Array Bool) (done : Nat → Bool) (u : Nat → Value) (w : World), listed.size = ops.size → toCome ops.size listed ≤ fuel → (∀ i, i < ops.size → listed.getD i true = done i) → I done u w → wpAny P md ops Q fuel listed (mk u) w := by
  have none_ready : ∀ (listed : Array Bool), listed.size = ops.size → Region.ready md ops listed = [] → ∀ m i, i < m → i < ops.size → listed.getD i true = true := by
    intro listed hs hr m
    induction m with
    | zero => intro i h; omega
    | succ m ihm =>
      intro i him hi
      rcases hl : listed.getD i true with _ | _
      · exfalso
        have ho : ops[i]? = some ops[i] := Array.getElem?_eq_getElem hi
        have : i ∈ Region.ready md ops listed := ready_iff.2 ⟨hi, hl, _, ho, fun e he hbn => by
          have hlt := back_lt hf ho he hbn
          have h1 := ihm e.on (by omega) (by omega)
          rw [Array.getD_eq_getD_getElem?, Array.getElem?_eq_getElem (by omega)] at h1 ⊢
          simpa using h1⟩
        rw [hr] at this
        cases this
      · rfl
  intro fuel
  induction fuel with
  | zero =>
    intro listed done u w hs hc hd hI
    have hz : ∀ i, i < ops.size → listed.getD i true = true := fun i hi => by
      rcases hl : listed.getD i true with _ | _
      · have := toCome_pos (n := ops.size) (listed := listed) hi hl
        omega
      · rfl
    refine ⟨?_, fin done u w (fun i hi => by rw [← hd i hi]; exact hz i hi) hI⟩
    rw [List.eq_nil_iff_forall_not_mem]
    intro j hj
    obtain ⟨hjn, hju, _⟩ := ready_iff.1 hj
    rw [hz j hjn] at hju
    cases hju
  | succ fuel ih =>
    intro listed done u w hs hc hd hI
    refine ⟨fun hr => fin done u w (fun i hi => by rw [← hd i hi]; exact none_ready listed hs hr ops.size i hi hi) hI, fun i hrd => ?_⟩
    obtain ⟨hin, hun, o, ho, hdep⟩ := ready_iff.1 hrd
    refine step i o ho done u w (by rw [← hd i hin]; exact hun) (fun e he hbn => ?_) hI _ fun v w' hI' => ?_
    · have hlt := back_lt hf ho he hbn
      have h1 := hdep e he hbn
      rw [← hd e.on (by omega)]
      rw [Array.getD_eq_getD_getElem?, Array.getElem?_eq_getElem (by omega)] at h1 ⊢
      simpa using h1
    · rw [hput i o ho]
      refine ih _ (did done i) _ _ (by simpa using hs) ?_ (fun j hj => ?_) hI'
      · have := toCome_set (n := ops.size) hin hs hun
        omega
      · by_cases hji : j = i
        · subst hji
          rw [did_same, getD_set_eq (by omega)]
        · rw [did_other _ hji, getD_set_other (Ne.symm hji)]
          exact hd j hj

/-- THE RULE, its frame made by program. -/
theorem wp_region_inv {id : Nat} {l : List Oper} {a : Act} {w : World} (I : (Nat → Bool) → (Nat → Value) → World → Prop)
    (hm : P.follows .mixedOrders = true) (hf : (backB .any l.toArray && apartB l) = true) (hs : slotsB a.tmps.size l = true)
    (start : ∀ u, I (fun _ => false) u w.drew)
    (step : ∀ i o, l[i]? = some o → ∀ done u wr, done i = false → (∀ e ∈ o.after, Region.binds .any e = true → done e.on = true) → I done u wr →
      ∀ K : Act → World → Prop, (∀ v w', I (did done i) (upd u i v) w' → K ((putAll u 0 l a).put o.dst v) w') → wpOp P l.toArray Q i K (putAll u 0 l a) wr)
    (fin : ∀ done u wr, (∀ i, i < l.length → done i = true) → I done u wr → Q .normal (putAll u 0 l a) wr) :
    (Code.region id l.toArray true).wp P Q a w := by
  rw [Bool.and_eq_true] at hf
  obtain ⟨h1, h2⟩ := hf
  have hsl : ∀ o ∈ l, ∀ t, o.dst = some t → t < a.tmps.size := fun o ho t ht => by
    have := List.all_eq_true.1 hs o ho
    rw [ht] at this
    exact of_decide_eq_true this
  obtain ⟨u0, hu0⟩ := putAll_self l 0 a hsl h2
  refine wp_region_any hm ?_
  have key := wpAny_inv (P := P) (ops := l.toArray) (Q := Q) (md := .any) I (fun u => putAll u 0 l a) h1
    (fun i o ho u v => by
      have := putAll_at u v l 0 i a o h2 (by simpa using ho)
      rw [Nat.zero_add] at this
      exact this)
    (fun i o ho => step i o (by simpa using ho)) (fun done u wr hd hI => fin done u wr (fun i hi => hd i (by simpa using hi)) hI) l.toArray.size (Array.replicate l.toArray.size false) (fun _ => false) u0 w.drew
    (by simp) (by unfold toCome; exact Nat.le_trans List.countP_le_length (by simp))
    (fun i hi => by
      rw [Array.getD_eq_getD_getElem?, Array.getElem?_eq_getElem (by simpa using hi)]
      simp)
    (start u0)
  have hk : putAll u0 0 l a = a := hu0
  rw [hk] at key
  exact key
end

end Go.Proofs.YtajcjipabfknhaaDoor
