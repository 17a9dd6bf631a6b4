/- The walks of package turn: along, moved, Reverse, Rotate. Conditions: none. -/
import Derived.Test.YtajcjipabfknhaaDoorCount
import Derived.Test.YtajcjipabfknhaaDoorMake
set_option linter.unusedSimpArgs false
set_option linter.unusedVariables false
namespace Go.Proofs.YtajcjipabfknhaaDoor
open Go Go.RowKit Go.Proofs.YtajcjipabfknhaaDoor.P

/-- So many lengths multiplied. -/
def ProdTo (t : List Nat) (j : Nat) (q : Int) : Prop := q = (prod (t.take j) : Int)
theorem ProdTo.zero (t : List Nat) : ProdTo t 0 1 := by simp [ProdTo, prod]
theorem prod_take_le {t : List Nat} (h : prod t ≠ 0) (j : Nat) : prod (t.take j) ≤ prod t := by
  have e : prod t = prod (t.take j) * prod (t.drop j) := by rw [← prod_append, List.take_append_drop]
  rw [e] at h ⊢
  have : 0 < prod (t.drop j) := by
    rcases Nat.eq_zero_or_pos (prod (t.drop j)) with h0 | h0
    · rw [h0] at h; simp at h
    · exact h0
  exact Nat.le_mul_of_pos_right _ this
theorem prod_drop_le {t : List Nat} (h : prod t ≠ 0) (j : Nat) : prod (t.drop j) ≤ prod t := by
  have e : prod t = prod (t.take j) * prod (t.drop j) := by rw [← prod_append, List.take_append_drop]
  rw [e] at h ⊢
  have : 0 < prod (t.take j) := by
    rcases Nat.eq_zero_or_pos (prod (t.take j)) with h0 | h0
    · rw [h0] at h; simp at h
    · exact h0
  exact Nat.le_mul_of_pos_left _ this
theorem prod_drop_ne {t : List Nat} (h : prod t ≠ 0) (j : Nat) : prod (t.drop j) ≠ 0 := by
  have e : prod t = prod (t.take j) * prod (t.drop j) := by rw [← prod_append, List.take_append_drop]
  intro h0
  rw [e, h0] at h
  simp at h
theorem prod_take_succ {t : List Nat} {j n : Nat} (h : t[j]? = some n) : prod (t.take (j + 1)) = prod (t.take j) * n := by
  rw [List.take_add_one, h, prod_append]
  simp [prod]
theorem ints_at {t : List Nat} {j : Nat} {x : Int} (h : (ints t)[j]? = some x) : ∃ n : Nat, t[j]? = some n ∧ x = n := by
  rw [getElem?_ints, Option.map_eq_some_iff] at h
  obtain ⟨n, hn, e⟩ := h
  exact ⟨n, hn, e.symm⟩
theorem ProdTo.next {t : List Nat} {j : Nat} {q x : Int} (hp : ProdTo t j q) (h : prod t ≤ 4096) (h0 : prod t ≠ 0) (hx : (ints t)[j]? = some x) : 0 ≤ q * x ∧ q * x ≤ 4096 ∧ ProdTo t (j + 1) (q * x) := by
  obtain ⟨n, hn, rfl⟩ := ints_at hx
  have e : q * (n : Int) = ((prod (t.take (j + 1)) : Nat) : Int) := by
    rw [prod_take_succ hn, hp]
    simp
  have := prod_take_le h0 (j + 1)
  exact ⟨by rw [e]; omega, by rw [e]; omega, e⟩
theorem ProdTo.step {a : Arr} {t : List Nat} {j : Nat} {q x : Int} (hp : ProdTo t j q) (h : Ok a t) (h0 : prod t ≠ 0) (hx : a.sh[j]? = some x) : 0 ≤ q * x ∧ q * x ≤ 4096 ∧ ProdTo t (j + 1) (q * x) := by
  rw [h.sh] at hx
  exact hp.next h.good.2.2 h0 hx

theorem ProdTo.stepDrop {a : Arr} {t : List Nat} {j m : Nat} {q x : Int} (hp : ProdTo (t.drop m) j q) (h : Ok a t) (h0 : prod t ≠ 0) (hx : (a.sh.drop m)[j]? = some x) : 0 ≤ q * x ∧ q * x ≤ 4096 ∧ ProdTo (t.drop m) (j + 1) (q * x) := by
  rw [h.sh] at hx
  have e : (ints t).drop m = ints (t.drop m) := by simp [ints]
  rw [e] at hx
  have h1 := prod_drop_le h0 m
  exact hp.next (by have := h.good.2.2; omega) (prod_drop_ne h0 m) hx

/-- An axis in parts. -/
def lineOf (t : List Nat) (k : Nat) : Nat × Nat × Nat := if prod t = 0 then (0, 0, 0) else (outerOf t k, t.getD k 0, innerOf t k)
def lineV (p : Nat × Nat × Nat) : Value := .agg #[.int .i64 p.1, .int .i64 p.2.1, .int .i64 p.2.2]

def GivesLine (p : Nat × Nat × Nat) (w : World) (e : Ending) (w' : World) : Prop := e = .returned (.tuple #[lineV p, .nilIface]) ∧ Below w.heap.size w w'

end Go.Proofs.YtajcjipabfknhaaDoor
