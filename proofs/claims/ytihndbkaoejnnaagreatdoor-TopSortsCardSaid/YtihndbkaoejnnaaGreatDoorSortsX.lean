/- What the card TopSorts leans on: Moved, Rev. Conditions: none but those of its theorems. -/
import Derived.Deep.DeepCutAuto
import Derived.Test.YtihndbkaoejnnaaGreatDoorSortsG
import Derived.Test.YtihndbkaoejnnaaGreatDoorSortsR
import Derived.Test.YtihndbkaoejnnaaGreatDoorSortsC
set_option linter.unusedSimpArgs false
set_option linter.unusedVariables false
namespace Go.Proofs.YtihndbkaoejnnaaGreatDoor
open Go Go.RowKit Go.Proofs.YtihndbkaoejnnaaGreatDoor.P

/-- make([]int, 0, n), made known ahead of the walk. -/
theorem run_make_ints (n : Nat) (hn : n ≤ 35184372088832) (w : World) :
    (Instr.makeSlice 23 (.int .i64 0) (.int .i64 n)).run Tryz.prog w = .ok (.slice (some ⟨w.heap.size, 0, none⟩) 0 n) (w.alloc (.cells (madeCells #[.int .i64 0] n) 3)) := by
  obtain ⟨i0, hi, hz0, hz1, hz2⟩ := info_parts int_info
  have hr := run_make (P := Tryz.prog) w 23 3 i0 (.int .i64 0) Tryz.underlying23 hi hz0 .i64 .i64 0 n (by omega) (by omega) (by rw [hz2]; omega) (by omega)
  rw [hz1] at hr
  simp only [Int.toNat_natCast, Int.toNat_zero, Nat.mul_one] at hr
  exact hr

end Go.Proofs.YtihndbkaoejnnaaGreatDoor

namespace Go.Proofs.YtihndbkaoejnnaaGreatDoor
open Go Go.RowKit Go.Proofs.YtihndbkaoejnnaaGreatDoor.P

theorem Fails.nil {k : Int} {w w' : World} {e : Ending} (h : Fails zeroArr k w e w') : e = .returned (.tuple #[zeroArr, .iface 54 (.int .i64 k)]) := h.1

/-- A call tells some array and some error. -/
def GivesSome (w : World) (e : Ending) (w' : World) : Prop := ∃ r ev b, e = .returned (.tuple #[r, ev]) ∧ IsArr w' r b ∧ Below w.heap.size w w'
theorem isArr_zero (w : World) : IsArr w zeroArr Arr.nil := ⟨_, _, rfl, (Owns.nil w 0).isInts, (Owns.nil w 0).isInts⟩
theorem GivesOk.some {a : Arr} {w w' : World} {e : Ending} (h : GivesOk a w e w') : GivesSome w e w' := by
  obtain ⟨r, he, hr, hb⟩ := h
  exact ⟨r, _, a, he, hr, hb⟩
theorem Fails.some {k : Int} {w w' : World} {e : Ending} (h : Fails zeroArr k w e w') : GivesSome w e w' := ⟨_, _, Arr.nil, h.1, isArr_zero w', h.2⟩

end Go.Proofs.YtihndbkaoejnnaaGreatDoor
