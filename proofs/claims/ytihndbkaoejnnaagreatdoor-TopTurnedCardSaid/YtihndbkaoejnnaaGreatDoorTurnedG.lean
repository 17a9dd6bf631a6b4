/- What the card TopTurned leans on: Make, Turn. Conditions: none but those of its theorems. -/
import Derived.Deep.RegionHeld3
import Derived.Deep.RegionLaw
import Derived.Test.YtihndbkaoejnnaaGreatDoorTurnedC
import Derived.Test.YtihndbkaoejnnaaGreatDoorTurnedE
set_option linter.unusedSimpArgs false
set_option linter.unusedVariables false
namespace Go.Proofs.YtihndbkaoejnnaaGreatDoor
open Go Go.RowKit Go.Proofs.YtihndbkaoejnnaaGreatDoor.P

/-- A call tells a new list. -/
def Lists (xs : List Int) (w : World) (e : Ending) (w' : World) : Prop :=
  ∃ A c, e = .returned (.slice A xs.length c) ∧ Owns w' w.heap.size (.slice A xs.length c) xs.length xs ∧ Below w.heap.size w w'

theorem below_grown {w w1 w' : World} {v : Value} {n : Nat} {xs : List Int} (h : Below w.heap.size w w1) (ho : Owns w1 w.heap.size v n xs) (hg : w1.grownBy w' v.ownBlock) : Below w.heap.size w w' :=
  h.grown hg h.size fun _ hk => (ho.lt hk).1

set_option maxHeartbeats 400000 in
theorem clone_any (v : Value) (xs : List Int) (w : World) (ha : IsInts w v xs) : Calls Tryz.prog 24 #[v] w (Lists xs w) := by
  obtain ⟨A, c, rfl, a1, a2, a3, a0, a4⟩ := ha
  rcases A with _ | ad
  · have hc := a0 rfl
    subst hc
    have hx : xs = [] := List.eq_nil_of_length_eq_zero (by omega)
    subst hx
    clear a4 a0 a1 a2 a3
    have he := fun w => Lib.run_eql_slice_nil (P := Tryz.prog) w 23 3 none 0 0 0 0 Tryz.underlying23
    simp only [List.length_nil]
    go_enter Tryz.func24, Tryz.ntmps24
    go_wp2_with fail
    go_ret
    exact ⟨none, 0, rfl, Owns.nil _ _, Below.refl _ _⟩
  · have he := fun w => Lib.run_eql_slice_nil (P := Tryz.prog) w 23 3 (some ad) xs.length c 0 0 Tryz.underlying23
    have h4 := Lib.hid a4
    have h0 := Lib.hid a0
    have hown : Owns (w.alloc (.cells #[] 3)) w.heap.size (.slice (some ⟨w.heap.size, 0, none⟩) 0 0) 0 [] := ⟨World.ownsRow_made _ _ _ (Nat.le_refl _) (by unfold maxLen; omega) rfl, by omega⟩
    clear a4 a0
    go_enter Tryz.func24, Tryz.ntmps24
    go_wp2_with (at_builtin; refine wpList_append_ints _ rfl rfl _ _ rfl w.heap.size 0 _ [] rfl hown (some ad) xs.length c xs rfl h0.out (Elems.mono h4.out (below_one _ _)) rfl (by omega) (by simp) ?_; intro A' c' w' hown' hgrow hat)
    simp only [Nat.zero_add, List.nil_append] at hown'
    go_ret
    exact ⟨A', c', by simp, hown', below_grown (below_one _ _) hown hgrow⟩

theorem take_at {xs : List Int} {k : Nat} {x : Int} (h : xs[k]? = some x) : xs.take k ++ [x] = xs.take (k + 1) := by rw [List.take_add_one, h]; rfl

end Go.Proofs.YtihndbkaoejnnaaGreatDoor

namespace Go.Proofs.YtihndbkaoejnnaaGreatDoor
open Go Go.RowKit Go.Proofs.YtihndbkaoejnnaaGreatDoor.P

/-- So many lengths multiplied. -/
def ProdTo (t : List Nat) (j : Nat) (q : Int) : Prop := q = (prod (t.take j) : Int)
theorem ProdTo.zero (t : List Nat) : ProdTo t 0 1 := by simp [ProdTo, prod]
theorem prod_take_le {t : List Nat} (h : prod t ≠ 0) (j : Nat) : prod (t.take j) ≤ prod t := by
  have e : prod t = prod (t.take j) * prod (t.drop j) := by rw [← prod_append, List.take_append_drop]
  rw [e] at h ⊢
  have : 0 < prod (t.drop j) := by
    rcases Nat.eq_zero_or_pos (prod (t.drop j)) with h0 | h0
    · rw [h0] at h; simp at h
    · exact h0
  exact Nat.le_mul_of_pos_right _ this
theorem prod_take_succ {t : List Nat} {j n : Nat} (h : t[j]? = some n) : prod (t.take (j + 1)) = prod (t.take j) * n := by
  rw [List.take_add_one, h, prod_append]
  simp [prod]
theorem ints_at {t : List Nat} {j : Nat} {x : Int} (h : (ints t)[j]? = some x) : ∃ n : Nat, t[j]? = some n ∧ x = n := by
  rw [getElem?_ints, Option.map_eq_some_iff] at h
  obtain ⟨n, hn, e⟩ := h
  exact ⟨n, hn, e.symm⟩
theorem ProdTo.next {t : List Nat} {j : Nat} {q x : Int} (hp : ProdTo t j q) (h : prod t ≤ 4096) (h0 : prod t ≠ 0) (hx : (ints t)[j]? = some x) : 0 ≤ q * x ∧ q * x ≤ 4096 ∧ ProdTo t (j + 1) (q * x) := by
  obtain ⟨n, hn, rfl⟩ := ints_at hx
  have e : q * (n : Int) = ((prod (t.take (j + 1)) : Nat) : Int) := by
    rw [prod_take_succ hn, hp]
    simp
  have := prod_take_le h0 (j + 1)
  exact ⟨by rw [e]; omega, by rw [e]; omega, e⟩
theorem ProdTo.step {a : Arr} {t : List Nat} {j : Nat} {q x : Int} (hp : ProdTo t j q) (h : Ok a t) (h0 : prod t ≠ 0) (hx : a.sh[j]? = some x) : 0 ≤ q * x ∧ q * x ≤ 4096 ∧ ProdTo t (j + 1) (q * x) := by
  rw [h.sh] at hx
  exact hp.next h.good.2.2 h0 hx

def lineV (p : Nat × Nat × Nat) : Value := .agg #[.int .i64 p.1, .int .i64 p.2.1, .int .i64 p.2.2]

def GivesLine (p : Nat × Nat × Nat) (w : World) (e : Ending) (w' : World) : Prop := e = .returned (.tuple #[lineV p, .nilIface]) ∧ Below w.heap.size w w'

end Go.Proofs.YtihndbkaoejnnaaGreatDoor
