/- A statement whose order is open up to an operation, and forced from it on: the operations ahead are walked once each, the tail in its one order. Conditions: none. -/
import Derived.Test.YtojeggeimnenbaaDoorFunnel
set_option linter.unusedSimpArgs false
set_option linter.unusedVariables false
namespace Go.Proofs.YtojeggeimnenbaaDoor
open Go Go.RowKit

section
variable {P : Program} {ops : Array Oper} {Q : Exit → Act → World → Prop} {md : Region.Mode}

/-- All edges lead back; ahead of n each operation has one that waits for it, no later than n; behind n each waits for the one ahead of it. -/
def gateB (md : Region.Mode) (ops : Array Oper) (n : Nat) : Bool :=
  (List.range ops.size).all fun i =>
    (match ops[i]? with | some o => o.after.all fun e => decide (e.on < i) | none => false) &&
    (if i < n then (List.range (n + 1)).any fun k => decide (i < k) && (match ops[k]? with | some o => o.after.any fun e => Region.binds md e && decide (e.on = i) | none => false)
     else decide (i = n) || (match ops[i]? with | some o => o.after.any fun e => Region.binds md e && decide (e.on + 1 = i) | none => false))

theorem gate_back {n : Nat} (h : gateB md ops n = true) {i : Nat} {o : Oper} (ho : ops[i]? = some o) {e : Edge} (he : e ∈ o.after) : e.on < i := by
  have hi := (Array.getElem?_eq_some_iff.1 ho).1
  have h1 := List.all_eq_true.1 h i (List.mem_range.2 hi)
  rw [ho, Bool.and_eq_true] at h1
  have h2 := Array.all_eq_true_iff_forall_mem.1 h1.1 e he
  simpa using h2

theorem gate_next {n : Nat} (h : gateB md ops n = true) {i : Nat} (hi : i < n) (hn : n < ops.size) :
    ∃ k o e, i < k ∧ k ≤ n ∧ ops[k]? = some o ∧ e ∈ o.after ∧ Region.binds md e = true ∧ e.on = i := by
  have h1 := List.all_eq_true.1 h i (List.mem_range.2 (by omega))
  rw [Bool.and_eq_true] at h1
  have h2 := h1.2
  rw [if_pos hi] at h2
  obtain ⟨k, hkn, hk⟩ := List.any_eq_true.1 h2
  have hkn' := List.mem_range.1 hkn
  rw [Bool.and_eq_true] at hk
  have hik := of_decide_eq_true hk.1
  rcases ho : ops[k]? with _ | o
  · rw [ho] at hk; simp at hk
  · rw [ho] at hk
    obtain ⟨e, he, hb⟩ := Array.any_eq_true'.1 hk.2
    rw [Bool.and_eq_true] at hb
    exact ⟨k, o, e, hik, by omega, ho, he, hb.1, of_decide_eq_true hb.2⟩

theorem gate_tail {n : Nat} (h : gateB md ops n = true) {i : Nat} (hi : n < i) {o : Oper} (ho : ops[i]? = some o) : ∃ e ∈ o.after, Region.binds md e = true ∧ e.on + 1 = i := by
  have hs := (Array.getElem?_eq_some_iff.1 ho).1
  have h1 := List.all_eq_true.1 h i (List.mem_range.2 hs)
  rw [Bool.and_eq_true] at h1
  have h2 := h1.2
  rw [if_neg (by omega), Bool.or_eq_true] at h2
  rcases h2 with h2 | h2
  · have := of_decide_eq_true h2
    omega
  · rw [ho] at h2
    obtain ⟨e, he, hb⟩ := Array.any_eq_true'.1 h2
    rw [Bool.and_eq_true] at hb
    exact ⟨e, he, hb.1, of_decide_eq_true hb.2⟩

/-- The tail, in its one order. -/
def tailWp (P : Program) (ops : Array Oper) (Q : Exit → Act → World → Prop) : Nat → Nat → Act → World → Prop
  | 0, k, a, w => wpOp P ops Q k (Q .normal) a w
  | m + 1, k, a, w => wpOp P ops Q k (tailWp P ops Q m (k + 1)) a w

theorem getD_default {listed : Array Bool} {i : Nat} (h : i < listed.size) (d d' : Bool) : listed.getD i d = listed.getD i d' := by
  rw [Array.getD_eq_getD_getElem?, Array.getD_eq_getD_getElem?, Array.getElem?_eq_getElem h]
  rfl

theorem tail_ready {n : Nat} (hf : gateB md ops n = true) {k : Nat} {listed : Array Bool} (hs : listed.size = ops.size) (hk : k < ops.size) (hnk : n ≤ k)
    (h1 : ∀ j, j < k → listed.getD j true = true) (h2 : ∀ j, k ≤ j → j < ops.size → listed.getD j true = false) {i : Nat} : i ∈ Region.ready md ops listed ↔ i = k := by
  rw [ready_iff]
  constructor
  · rintro ⟨hi, hun, o, ho, hdep⟩
    by_cases hik : i < k
    · rw [h1 i hik] at hun
      cases hun
    · by_cases hik' : i = k
      · exact hik'
      · exfalso
        obtain ⟨e, he, hb, heq⟩ := gate_tail hf (by omega) ho
        have := hdep e he hb
        rw [getD_default (by omega) false true, h2 e.on (by omega) (by omega)] at this
        cases this
  · rintro rfl
    refine ⟨hk, h2 i (Nat.le_refl _) hk, ops[i], Array.getElem?_eq_getElem hk, fun e he hb => ?_⟩
    have hlt := gate_back hf (Array.getElem?_eq_getElem hk) he
    rw [getD_default (by omega) false true]
    exact h1 _ hlt

theorem tail_any {n : Nat} (hf : gateB md ops n = true) : ∀ (m k fuel : Nat) (listed : Array Bool) (a : Act) (w : World), listed.size = ops.size → k + m + 1 = ops.size → n ≤ k → m + 1 ≤ fuel →
    (∀ j, j < k → listed.getD j true = true) → (∀ j, k ≤ j → j < ops.size → listed.getD j true = false) → tailWp P ops Q m k a w → wpAny P md ops Q fuel listed a w
  | m, k, 0, listed, a, w, _, _, _, hfu, _, _, _ => by omega
  | m, k, fuel + 1, listed, a, w, hs, hm, hnk, hfu, h1, h2, h => by
    have hrd := fun i => tail_ready (i := i) hf hs (by omega) hnk h1 h2
    refine ⟨fun hr => ?_, fun i hi => ?_⟩
    · have := (hrd k).2 rfl
      rw [hr] at this
      cases this
    · rw [hrd] at hi
      subst hi
      have hset1 : ∀ j, j < i + 1 → (listed.setIfInBounds i true).getD j true = true := fun j hj => by
        by_cases hji : i = j
        · subst hji
          exact getD_set_eq (by omega) _
        · rw [getD_set_other hji]
          exact h1 j (by omega)
      have hset2 : ∀ j, i + 1 ≤ j → j < ops.size → (listed.setIfInBounds i true).getD j true = false := fun j hj hjs => by
        rw [getD_set_other (by omega)]
        exact h2 j (by omega) hjs
      match m, h with
      | 0, h =>
        refine wpOp_mono (fun a' w' hq => wpAny_done ?_ hq fuel) h
        rw [List.eq_nil_iff_forall_not_mem]
        intro j hj
        obtain ⟨hjn, hju, _⟩ := ready_iff.1 hj
        rw [hset1 j (by omega)] at hju
        cases hju
      | m + 1, h =>
        exact wpOp_mono (fun a' w' hq => tail_any hf m (i + 1) fuel _ a' w' (by simpa using hs) (by omega) (by omega) (by omega) hset1 hset2 hq) h

theorem wpAny_gate (W0 : World) (V : Nat → Value → Nat → Nat → World → Prop) (mk : (Nat → Value) → Act) (n m : Nat) (hn : n + m + 1 = ops.size) (hf : gateB md ops n = true)
    (hV : ∀ i v lo hi w w', V i v lo hi w → Below w.heap.size w w' → V i v lo hi w')
    (hput : ∀ i o, ops[i]? = some o → i < n → ∀ u v, (mk u).put o.dst v = mk (upd u i v))
    (step : ∀ i o, ops[i]? = some o → i < n → ∀ u (lo hi : Nat → Nat) w, Below W0.heap.size W0 w → (∀ e ∈ o.after, Region.binds md e = true → V e.on (u e.on) (lo e.on) (hi e.on) w) →
      (∀ e ∈ o.after, ∀ e' ∈ o.after, Region.binds md e = true → Region.binds md e' = true → e.on ≠ e'.on → hi e.on ≤ lo e'.on ∨ hi e'.on ≤ lo e.on) →
      ∀ K : Act → World → Prop, (∀ v w', Below w.heap.size w w' → V i v w.heap.size w'.heap.size w' → K ((mk u).put o.dst v) w') → wpOp P ops Q i K (mk u) w)
    (last : ∀ u w (lo hi : Nat → Nat), Below W0.heap.size W0 w → (∀ i, i < n → V i (u i) (lo i) (hi i) w) → (∀ i j, i < n → j < n → i ≠ j → hi i ≤ lo j ∨ hi j ≤ lo i) →
      tailWp P ops Q m n (mk u) w) :
    ∀ (fuel : Nat) (listed : Array Bool) (u : Nat → Value) (lo hi : Nat → Nat) (w : World), listed.size = ops.size → Below W0.heap.size W0 w → toCome ops.size listed ≤ fuel → (∀ j, n ≤ j → j < ops.size → listed.getD j true = false) →
      (∀ i o, ops[i]? = some o → listed.getD i true = true → ∀ e ∈ o.after, Region.binds md e = true → listed.getD e.on false = true) →
      (∀ i, i < n → listed.getD i true = true → V i (u i) (lo i) (hi i) w ∧ hi i ≤ w.heap.size) →
      (∀ i j, i < n → j < n → listed.getD i true = true → listed.getD j true = true → i ≠ j → hi i ≤ lo j ∨ hi j ≤ lo i) → wpAny P md ops Q fuel listed (mk u) w := by
  intro fuel
  induction fuel with
  | zero =>
    intro listed u lo hi w _ _ hc hz _ _ _
    have := toCome_pos (n := ops.size) (listed := listed) (i := n) (by omega) (hz n (Nat.le_refl _) (by omega))
    omega
  | succ fuel ih =>
    intro listed u lo hi w hs hb hc hz hcl hv hdj
    by_cases hall : ∀ j, j < n → listed.getD j true = true
    · -- all that lies ahead is done
      have hle : m + 1 ≤ fuel + 1 := by
        refine Nat.le_trans ?_ hc
        unfold toCome
        have hsub : ((List.range (m + 1)).map (fun j => n + j)).Sublist (List.range ops.size) := by
          have e : List.range ops.size = List.range n ++ (List.range (m + 1)).map (fun j => n + j) := by
            rw [← hn, show n + m + 1 = n + (m + 1) by omega]
            exact List.range_add
          rw [e]
          exact List.sublist_append_right _ _
        have h1 := hsub.countP_le (p := fun i => !listed.getD i true)
        have h2 : ((List.range (m + 1)).map (fun j => n + j)).countP (fun i => !listed.getD i true) = m + 1 := by
          have := List.countP_eq_length (p := fun i => !listed.getD i true) (l := (List.range (m + 1)).map (fun j => n + j))
          rw [this.2 ?_]
          · simp
          · intro x hx
            obtain ⟨j, hj, rfl⟩ := List.mem_map.1 hx
            have hj' := List.mem_range.1 hj
            rw [hz (n + j) (by omega) (by omega)]
            rfl
        omega
      exact tail_any hf m n (fuel + 1) listed (mk u) w hs hn (Nat.le_refl _) hle hall hz
        (last u w lo hi hb (fun j hj => (hv j hj (hall j hj)).1) fun j k hj hk hjk => hdj j k hj hk (hall j hj) (hall k hk) hjk)
    · have hsome : ∀ i, i < ops.size → ∃ o, ops[i]? = some o := fun i hi => ⟨ops[i], Array.getElem?_eq_getElem hi⟩
      have hgn : ∀ i, listed.getD i true = true → i < ops.size → i < n := fun i hl hi => by
        by_cases h : i < n
        · exact h
        · rw [hz i (by omega) hi] at hl
          cases hl
      refine ⟨fun hr => ?_, fun i hrd => ?_⟩
      · exfalso
        have all : ∀ m i, i < m → i < ops.size → listed.getD i true = true := by
          intro m
          induction m with
          | zero => intro i h; omega
          | succ m ihm =>
            intro i him hi
            rcases hl : listed.getD i true with _ | _
            · exfalso
              obtain ⟨o, ho⟩ := hsome i hi
              have : i ∈ Region.ready md ops listed := ready_iff.2 ⟨hi, hl, o, ho, fun e he _ => by
                have hlt := gate_back hf ho he
                rw [getD_default (by omega) false true]
                exact ihm e.on (by omega) (by omega)⟩
              rw [hr] at this
              cases this
            · rfl
        exact hall fun j hj => all ops.size j (by omega) (by omega)
      · obtain ⟨hin, hun, o, ho, hdep⟩ := ready_iff.1 hrd
        have hlast : i < n := by
          by_cases h : i < n
          · exact h
          · exfalso
            by_cases hie : i = n
            · subst hie
              refine hall fun j hj => ?_
              have all : ∀ q j, i - j ≤ q → j < i → listed.getD j true = true := by
                intro q
                induction q with
                | zero => intro j h1 h2; omega
                | succ q ihq =>
                  intro j h1 h2
                  obtain ⟨k, ok, e, hjk, hkn, hok, he, hbn, heq⟩ := gate_next hf h2 hin
                  have h3 : listed.getD e.on false = true := by
                    by_cases hkz : k = i
                    · subst hkz
                      rw [ho] at hok
                      cases hok
                      exact hdep e he hbn
                    · exact hcl k ok hok (ihq k (by omega) (by omega)) e he hbn
                  rw [heq] at h3
                  rw [getD_default (by omega) true false]
                  exact h3
              exact all _ j (Nat.le_refl _) hj
            · obtain ⟨e, he, hbn, heq⟩ := gate_tail hf (by omega) ho
              have := hdep e he hbn
              rw [getD_default (by omega) false true, hz e.on (by omega) (by omega)] at this
              cases this
        have hlisted : ∀ e ∈ o.after, Region.binds md e = true → e.on < n ∧ listed.getD e.on true = true := fun e he hbn => by
          have hlt := gate_back hf ho he
          have h1 := hdep e he hbn
          rw [getD_default (by omega) false true] at h1
          exact ⟨by omega, h1⟩
        refine step i o ho hlast u lo hi w hb (fun e he hbn => (hv e.on (hlisted e he hbn).1 (hlisted e he hbn).2).1)
          (fun e he e' he' hbn hbn' hne => hdj e.on e'.on (hlisted e he hbn).1 (hlisted e' he' hbn').1 (hlisted e he hbn).2 (hlisted e' he' hbn').2 hne) _ fun v w' hbw hvi => ?_
        rw [hput i o ho hlast]
        have hb' : Below W0.heap.size W0 w' := hb.trans (hbw.mono hb.size)
        refine ih _ _ (fun j => if j = i then w.heap.size else lo j) (fun j => if j = i then w'.heap.size else hi j) _ (by simpa using hs) hb' ?_ ?_ ?_ ?_ ?_
        · have := toCome_set (n := ops.size) hin hs hun
          omega
        · intro j hj hjs
          rw [getD_set_other (by omega)]
          exact hz j hj hjs
        · intro j oj hoj hlj e he hbn
          by_cases hij : i = e.on
          · rw [← hij, getD_set_eq (by omega)]
          · rw [getD_set_other hij]
            by_cases hji : i = j
            · subst hji
              rw [ho] at hoj
              cases hoj
              exact hdep e he hbn
            · rw [getD_set_other hji] at hlj
              exact hcl j oj hoj hlj e he hbn
        · intro j hj hlj
          by_cases hji : j = i
          · subst hji
            rw [upd_same, if_pos rfl, if_pos rfl]
            exact ⟨hvi, Nat.le_refl _⟩
          · rw [upd_other _ _ hji, if_neg hji, if_neg hji]
            rw [getD_set_other (Ne.symm hji)] at hlj
            have := hv j hj hlj
            exact ⟨hV _ _ _ _ _ _ this.1 hbw, Nat.le_trans this.2 hbw.size⟩
        · intro j k hj hk hlj hlk hjk
          by_cases hji : j = i
          · subst hji
            rw [getD_set_other hjk] at hlk
            rw [if_pos rfl, if_pos rfl, if_neg (Ne.symm hjk), if_neg (Ne.symm hjk)]
            exact .inr (hv k hk hlk).2
          · rw [getD_set_other (Ne.symm hji)] at hlj
            by_cases hki : k = i
            · subst hki
              rw [if_neg hji, if_neg hji, if_pos rfl, if_pos rfl]
              exact .inl (hv j hj hlj).2
            · rw [getD_set_other (Ne.symm hki)] at hlk
              rw [if_neg hji, if_neg hji, if_neg hki, if_neg hki]
              exact hdj j k hj hk hlj hlk hjk


/-- THE RULE, its frame made by program: the first n operations in whatever order, then the tail. -/
theorem wp_region_gate {id : Nat} {l : List Oper} {a : Act} {w : World} (n m : Nat) (V : Nat → Value → Nat → Nat → World → Prop)
    (hm : P.follows .mixedOrders = true) (hf : (gateB .any l.toArray n && apartB (l.take n) && decide (n + m + 1 = l.length)) = true) (hs : slotsB a.tmps.size (l.take n) = true)
    (hV : ∀ i v lo hi w w', V i v lo hi w → Below w.heap.size w w' → V i v lo hi w')
    (step : ∀ i o, l[i]? = some o → i < n → ∀ u (lo hi : Nat → Nat) wr, Below w.heap.size w wr → (∀ e ∈ o.after, Region.binds .any e = true → V e.on (u e.on) (lo e.on) (hi e.on) wr) →
      (∀ e ∈ o.after, ∀ e' ∈ o.after, Region.binds .any e = true → Region.binds .any e' = true → e.on ≠ e'.on → hi e.on ≤ lo e'.on ∨ hi e'.on ≤ lo e.on) →
      ∀ K : Act → World → Prop, (∀ v w', Below wr.heap.size wr w' → V i v wr.heap.size w'.heap.size w' → K ((putAll u 0 (l.take n) a).put o.dst v) w') → wpOp P l.toArray Q i K (putAll u 0 (l.take n) a) wr)
    (last : ∀ u wr (lo hi : Nat → Nat), Below w.heap.size w wr → (∀ i, i < n → V i (u i) (lo i) (hi i) wr) → (∀ i j, i < n → j < n → i ≠ j → hi i ≤ lo j ∨ hi j ≤ lo i) →
      tailWp P l.toArray Q m n (putAll u 0 (l.take n) a) wr) :
    (Code.region id l.toArray true).wp P Q a w := by
  rw [Bool.and_eq_true, Bool.and_eq_true] at hf
  obtain ⟨⟨h1, h2⟩, h3⟩ := hf
  have h3 := of_decide_eq_true h3
  have hsl : ∀ o ∈ l.take n, ∀ t, o.dst = some t → t < a.tmps.size := fun o ho t ht => by
    have := List.all_eq_true.1 hs o ho
    rw [ht] at this
    exact of_decide_eq_true this
  obtain ⟨u0, hu0⟩ := putAll_self (l.take n) 0 a hsl h2
  have e1 : l.toArray.size = l.length := by simp
  refine wp_region_any hm ?_
  have key := wpAny_gate (P := P) (ops := l.toArray) (Q := Q) (md := .any) w V (fun u => putAll u 0 (l.take n) a) n m (by rw [e1]; exact h3) h1 hV
    (fun i o ho hi u v => by
      have ho' : (l.take n)[i]? = some o := by rw [List.getElem?_take_of_lt hi]; simpa using ho
      have := putAll_at u v (l.take n) 0 i a o h2 ho'
      rw [Nat.zero_add] at this
      exact this)
    (fun i o ho hi => step i o (by simpa using ho) hi) last l.toArray.size (Array.replicate l.toArray.size false) u0 (fun _ => 0) (fun _ => 0) { w with drawn := w.drawn + 1 }
    (by simp) ((Below.refl _ _).drew) (by unfold toCome; exact Nat.le_trans List.countP_le_length (by simp))
    (fun j _ hj => by
      rw [Array.getD_eq_getD_getElem?, Array.getElem?_eq_getElem (by simpa using hj)]
      simp)
    (fun i o ho hl => by
      have := (Array.getElem?_eq_some_iff.1 ho).1
      simp at this
      simp [Array.getD_eq_getD_getElem?, this] at hl)
    (fun i hi hl => by
      have : i < l.length := by omega
      simp [Array.getD_eq_getD_getElem?, this] at hl)
    (fun i j _ _ _ _ _ => .inl (Nat.le_refl _))
  have hk : putAll u0 0 (l.take n) a = a := hu0
  rw [hk] at key
  exact key
end

end Go.Proofs.YtojeggeimnenbaaDoor
