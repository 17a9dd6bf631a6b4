/- What the card TopProduct leans on: Moved, Rev. Conditions: none but those of its theorems. -/
import Derived.Deep.DeepCutAuto
import Derived.Test.YtihndbkaoejnnaaGreatDoorProductG
import Derived.Test.YtihndbkaoejnnaaGreatDoorProductR
import Derived.Test.YtihndbkaoejnnaaGreatDoorProductC
set_option linter.unusedSimpArgs false
set_option linter.unusedVariables false
namespace Go.Proofs.YtihndbkaoejnnaaGreatDoor
open Go Go.RowKit Go.Proofs.YtihndbkaoejnnaaGreatDoor.P

theorem quiet_call {P : Program} {f : FuncId} {args : Array Value} {w : World} {v : Value} (h : Calls P f args w fun e w' => e = .returned v ∧ w = w') : Calls P f args w fun e w' => e = .returned v ∧ w' = w := h.mono fun _ _ ⟨he, hw⟩ => ⟨he, hw.symm⟩

end Go.Proofs.YtihndbkaoejnnaaGreatDoor

namespace Go.Proofs.YtihndbkaoejnnaaGreatDoor
open Go Go.RowKit Go.Proofs.YtihndbkaoejnnaaGreatDoor.P

theorem Fails.nil {k : Int} {w w' : World} {e : Ending} (h : Fails zeroArr k w e w') : e = .returned (.tuple #[zeroArr, .iface 54 (.int .i64 k)]) := h.1

/-- A call tells some array and some error. -/
def GivesSome (w : World) (e : Ending) (w' : World) : Prop := ∃ r ev b, e = .returned (.tuple #[r, ev]) ∧ IsArr w' r b ∧ Below w.heap.size w w'
theorem isArr_zero (w : World) : IsArr w zeroArr Arr.nil := ⟨_, _, rfl, (Owns.nil w 0).isInts, (Owns.nil w 0).isInts⟩
theorem GivesOk.some {a : Arr} {w w' : World} {e : Ending} (h : GivesOk a w e w') : GivesSome w e w' := by
  obtain ⟨r, he, hr, hb⟩ := h
  exact ⟨r, _, a, he, hr, hb⟩
theorem Fails.some {k : Int} {w w' : World} {e : Ending} (h : Fails zeroArr k w e w') : GivesSome w e w' := ⟨_, _, Arr.nil, h.1, isArr_zero w', h.2⟩

end Go.Proofs.YtihndbkaoejnnaaGreatDoor
