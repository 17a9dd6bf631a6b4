/- The k-th of some numbers, in plain Lean. Conditions: none. -/
import Derived.Test.YtajcjipabfknhaaDoorArr
set_option linter.unusedSimpArgs false
set_option linter.unusedVariables false
namespace Go.Proofs.YtajcjipabfknhaaDoor.P

theorem ints_getD {s : List Nat} {k : Nat} {x : Int} (h : (ints s)[k]? = some x) : x = (s.getD k 0 : Nat) ∧ k < s.length := by
  rw [getElem?_ints, Option.map_eq_some_iff] at h
  obtain ⟨n, hn, rfl⟩ := h
  have := (List.getElem?_eq_some_iff.1 hn).1
  exact ⟨by rw [List.getD_eq_getElem?_getD, hn]; rfl, this⟩
theorem ints_get {s : List Nat} {k : Nat} (h : k < s.length) : (ints s)[k]? = some ((s.getD k 0 : Nat) : Int) := by
  rw [getElem?_ints, List.getD_eq_getElem?_getD, List.getElem?_eq_getElem h]
  rfl
end Go.Proofs.YtajcjipabfknhaaDoor.P
