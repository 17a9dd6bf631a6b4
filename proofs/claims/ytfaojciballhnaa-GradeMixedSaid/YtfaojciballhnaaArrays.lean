/- Lists of arrays in memory: what came in, what the call itself made; append. Conditions: none. -/
import Derived.Test.YtfaojciballhnaaOwn
import Derived.Test.YtfaojciballhnaaList
set_option linter.unusedSimpArgs false
set_option linter.unusedVariables false
namespace Go.Proofs.Ytfaojciballhnaa
open Go Go.RowKit Go.Proofs.Ytfaojciballhnaa.P

theorem arr_info : (Try.prog.info? 24).map (fun i => (i.zero, i.size, i.bytes)) = some (some (.agg #[.bool false, .slice none 0 0, .slice none 0 0]), 3, 56) := by kernel_rfl

/-- The three cells of an array's struct. -/
def ArrCells (w : World) (us : List Value) (k : Nat) (b : Arr) : Prop :=
  ∃ S cs D cd, us[k * 3]? = some (.bool b.ch) ∧ us[k * 3 + 1]? = some (.slice S b.sh.length cs) ∧ us[k * 3 + 2]? = some (.slice D b.da.length cd) ∧ IsInts w (.slice S b.sh.length cs) b.sh ∧ IsInts w (.slice D b.da.length cd) b.da
theorem ArrCells.mono {w w' : World} {us : List Value} {k : Nat} {b : Arr} (h : ArrCells w us k b) (hb : Below w.heap.size w w') : ArrCells w' us k b := by
  obtain ⟨S, cs, D, cd, h1, h2, h3, h4, h5⟩ := h
  exact ⟨S, cs, D, cd, h1, h2, h3, h4.mono hb, h5.mono hb⟩
/-- These cells are those of these arrays. -/
def AllCells (w : World) (us : List Value) (bs : List Arr) : Prop := us.length = bs.length * 3 ∧ (∀ u ∈ us, u.oneCell' = true) ∧ ∀ (k : Nat) (b : Arr), bs[k]? = some b → ArrCells w us k b
theorem AllCells.mono {w w' : World} {us : List Value} {bs : List Arr} (h : AllCells w us bs) (hb : Below w.heap.size w w') : AllCells w' us bs := ⟨h.1, h.2.1, fun k b hk => (h.2.2 k b hk).mono hb⟩

/-- The cells that lie at an address. -/
def CellsAt (w : World) (A : Option Addr) (us : List Value) : Prop := ∀ (j : Nat) (u : Value), us[j]? = some u → ∃ ad, A = some ad ∧ ad.block < w.heap.size ∧ w.cell? (ad.add j) = some u
theorem CellsAt.mono {w w' : World} {A : Option Addr} {us : List Value} (h : CellsAt w A us) (hb : Below w.heap.size w w') : CellsAt w' A us := by
  intro j u hj
  obtain ⟨ad, e, hl, hc⟩ := h j u hj
  have hs := hb.size
  exact ⟨ad, e, by omega, (hb.cell (by rw [addr_block_add]; exact hl)).trans hc⟩

/-- A value stands for a list of arrays. -/
def IsArrs (w : World) (v : Value) (bs : List Arr) : Prop :=
  ∃ A c us, v = .slice A bs.length c ∧ bs.length ≤ c ∧ c ≤ 9223372036854775807 ∧ bs.length ≤ 2513169434843 ∧ (A = none → c = 0) ∧ AllCells w us bs ∧ CellsAt w A us
theorem IsArrs.mono {w w' : World} {v : Value} {bs : List Arr} (h : IsArrs w v bs) (hb : Below w.heap.size w w') : IsArrs w' v bs := by
  obtain ⟨A, c, us, e, h1, h2, h3, h4, h5, h6⟩ := h
  exact ⟨A, c, us, e, h1, h2, h3, h4, h5.mono hb, h6.mono hb⟩

/-- A list of arrays that the call itself made. -/
def OwnsA (w : World) (B : Nat) (v : Value) (n : Nat) (us : List Value) : Prop := w.ownsRow B 24 3 v n us
theorem OwnsA.one {w : World} {g : Nat} {c0 c1 c2 : Value} (h : Box w g 24 #[c0, c1, c2]) : OwnsA w g (.slice (some ⟨g, 0, none⟩) 1 1) 1 [c0, c1, c2] :=
  ⟨rfl, .inr ⟨g, 1, #[c0, c1, c2], rfl, Nat.le_refl _, h, Nat.le_refl _, by unfold maxLen; omega, rfl, rfl⟩⟩
theorem OwnsA.form {w : World} {B : Nat} {v : Value} {n : Nat} {us : List Value} (h : OwnsA w B v n us) :
    ∃ A c, v = .slice A n c ∧ n ≤ c ∧ c ≤ 9223372036854775807 ∧ (A = none → c = 0) ∧ CellsAt w A us ∧ ∀ k, v.ownBlock = some k → B ≤ k := by
  rcases h.2 with ⟨rfl, rfl⟩ | ⟨g, cap, cur, rfl, hb, hg, hn, hm, hs, ht⟩
  · refine ⟨none, 0, rfl, by omega, by omega, fun _ => rfl, fun j u hj => ?_, fun k e => by cases e⟩
    have := h.1
    simp at this
    subst this
    simp at hj
  · refine ⟨some ⟨g, 0, none⟩, cap, rfl, hn, by unfold maxLen at hm; omega, (fun e => by cases e), fun j u hj => ?_, fun k e => by cases e; exact hb⟩
    exact ⟨_, rfl, (Array.getElem?_eq_some_iff.1 hg).1, h.cells (g := g) rfl j u hj⟩

section
variable {P : Program} (w : World)

theorem run_append_arrs (ty : TypeId) (hB0 : P = Try.prog) (B n : Nat) (v : Value) (us : List Value) (hown : OwnsA w B v n us) (A : Option Addr) (m c : Nat) (ws : List Value) (hA : A = none → c = 0) (hmc : m ≤ c) (hy : CellsAt w A ws)
    (h1 : ∀ u ∈ ws, u.oneCell' = true) (hm : ws.length = m * 3) (h : n + m ≤ 2513169434916) (hB : B ≤ w.heap.size) :
    ∃ A' c' w', (Builtin.append_ #[42, 42] ty #[v, .slice A m c]).run P w = .ok (.slice A' (n + m) c') w' ∧ OwnsA w' B (.slice A' (n + m) c') (n + m) (us ++ ws) ∧ w.grownBy w' v.ownBlock ∧
      ((Value.slice A' (n + m) c').ownBlock = v.ownBlock ∨ (Value.slice A' (n + m) c').ownBlock = some w.heap.size) := by
  subst hB0
  obtain ⟨i0, hi, hz0, hz1, hz2⟩ := info_parts arr_info
  rcases A with _ | ad
  · have hc := hA rfl
    have hm0 : m = 0 := by omega
    subst hm0 hc
    have hws : ws = [] := List.eq_nil_of_length_eq_zero (by omega)
    subst hws
    obtain ⟨A', c', rfl, -⟩ := hown.form
    have hr := run_append_owned_none (P := Try.prog) (w := w) B 42 ty 24 i0 3 Try.underlying42 hi _ n us hown
    exact ⟨A', c', w, hr, by simpa using hown, World.grownBy.refl _ _, .inl rfl⟩
  · obtain ⟨v', w', hr, h2, h3, _, h5⟩ := run_append_own_at (P := Try.prog) w B 42 ty 24 i0 _ 3 56 Try.underlying42 hi hz0 hz1 hz2 rfl (by omega) v n us hown ad m c ws hm
      (fun j u hu => by
        obtain ⟨ad', e, _, hc⟩ := hy j u hu
        cases e
        exact hc) h1 (by unfold maxLen; omega) (by omega) hB
    obtain ⟨A', c', rfl, -⟩ := OwnsA.form h2
    exact ⟨A', c', w', hr, h2, h3, h5⟩

theorem wpList_append_arrs {ops : Array Oper} {rest : List Oper} {o : Oper} {a : Act} {Q : Exit → Act → World → Prop} (hgd : o.guard = none) (hP : P = Try.prog) (s x : Operand)
    (ho : o.op = .call { callee := .builtin .append, args := #[s, x], argTypes := #[42, 42] })
    (B n : Nat) (v : Value) (us : List Value) (hs : a.eval s = v) (hown : OwnsA w B v n us) (A : Option Addr) (m c : Nat) (ws : List Value) (hx : a.eval x = .slice A m c) (hA : A = none → c = 0) (hmc : m ≤ c) (hy : CellsAt w A ws)
    (h1 : ∀ u ∈ ws, u.oneCell' = true) (hm : ws.length = m * 3) (h : n + m ≤ 2513169434916) (hB : B ≤ w.heap.size)
    (hK : ∀ A' c' w', OwnsA w' B (.slice A' (n + m) c') (n + m) (us ++ ws) → w.grownBy w' v.ownBlock →
      ((Value.slice A' (n + m) c').ownBlock = v.ownBlock ∨ (Value.slice A' (n + m) c').ownBlock = some w.heap.size) → wpList P ops Q rest (a.put o.dst (.slice A' (n + m) c')) w') : wpList P ops Q (o :: rest) a w := by
  refine wpList_plain hgd fun K' hK' => ?_
  obtain ⟨A', c', w', hr, h2, h3, h4⟩ := run_append_arrs w o.type hP B n v us hown A m c ws hA hmc hy h1 hm h hB
  unfold Oper.wp execOp
  simp only [ho, resolve, invoke, builtin, Sem.run_bind, Sem.run_pure, Result.andThen_ok, List.map_toArray, List.map_cons, List.map_nil, hs, hx, hr]
  exact hK' _ _ (hK A' c' w' h2 h3 h4)
end

end Go.Proofs.Ytfaojciballhnaa
