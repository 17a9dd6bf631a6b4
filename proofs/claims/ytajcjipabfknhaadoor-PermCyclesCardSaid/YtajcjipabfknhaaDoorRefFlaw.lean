/- The walks of the references' Flaw, Flaws, Axis, Fill; what a reference tells. Conditions: none but these. -/
import Derived.Test.YtajcjipabfknhaaDoorRefLow
import Derived.Test.YtajcjipabfknhaaDoorPair
import Derived.Test.YtajcjipabfknhaaDoorRev
set_option linter.unusedSimpArgs false
set_option linter.unusedVariables false
namespace Go.Proofs.YtajcjipabfknhaaDoor.P
/-- What stands beside an error: nothing. -/
def ans (a : Arr) (k : Int) : Arr := if k = 0 then a else Arr.nil
theorem rune_parts {c : Int} : badRune c = false ↔ (0 ≤ c ∧ c < 55296) ∨ (57343 < c ∧ c ≤ 1114111) := by
  unfold badRune
  simp only [Bool.or_eq_false_iff, Bool.and_eq_false_iff, decide_eq_false_iff_not]
  omega
end Go.Proofs.YtajcjipabfknhaaDoor.P
namespace Go.Proofs.YtajcjipabfknhaaDoor
open Go Go.RowKit Go.Proofs.YtajcjipabfknhaaDoor.P

theorem IsInts.eq' {w : World} {v : Value} {xs ys : List Int} (h : IsInts w v xs) (e : xs = ys) : IsInts w v ys := e ▸ h

/-- A reference tells an array and a number. -/
def RTold (a : Arr) (k : Int) (w : World) (e : Ending) (w' : World) : Prop := ∃ r, e = .returned (.tuple #[r, .int .i64 k]) ∧ IsArr w' r (ans a k) ∧ Below w.heap.size w w'
/-- The program tells an array and an error. -/
def PTold (a : Arr) (k : Int) (w : World) (e : Ending) (w' : World) : Prop := ∃ r, e = .returned (.tuple #[r, errV k]) ∧ IsArr w' r (ans a k) ∧ Below w.heap.size w w'
theorem Told.p {a : Arr} {k : Int} {w w' : World} {e : Ending} (h : Told a k w e w') : PTold a k w e w' := by
  rcases h with ⟨rfl, r, he, hr, hb⟩ | ⟨hk, he, hb⟩
  · exact ⟨r, he, by unfold ans; rw [if_pos rfl]; exact hr, hb⟩
  · exact ⟨_, by rw [he, errV_ne hk], by unfold ans; rw [if_neg hk]; exact isArr_zero w', hb⟩
theorem RTold.bad {a : Arr} {k : Int} {w w' : World} (hk : k ≠ 0) (hb : Below w.heap.size w w') : RTold a k w (.returned (.tuple #[zeroArr, .int .i64 k])) w' :=
  ⟨_, rfl, by unfold ans; rw [if_neg hk]; exact isArr_zero w', hb⟩
theorem RTold.ok {a : Arr} {k : Int} {w w' : World} {r : Value} (hk : k = 0) (hr : IsArr w' r a) (hb : Below w.heap.size w w') : RTold a k w (.returned (.tuple #[r, .int .i64 0])) w' := by
  subst hk
  exact ⟨_, rfl, by unfold ans; rw [if_pos rfl]; exact hr, hb⟩

end Go.Proofs.YtajcjipabfknhaaDoor
