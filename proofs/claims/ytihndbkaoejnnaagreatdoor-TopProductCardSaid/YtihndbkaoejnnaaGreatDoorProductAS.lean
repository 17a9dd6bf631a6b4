/- What the card TopProduct leans on: ActFold. Conditions: none but those of its theorems. -/
import Derived.Test.YtihndbkaoejnnaaGreatDoorProductAR
import Derived.Test.YtihndbkaoejnnaaGreatDoorProductAB
import Derived.Test.YtihndbkaoejnnaaGreatDoorProductAO
set_option linter.unusedSimpArgs false
set_option linter.unusedVariables false
namespace Go.Proofs.YtihndbkaoejnnaaGreatDoor
open Go Go.RowKit Go.Proofs.YtihndbkaoejnnaaGreatDoor.P

theorem act_fold {f : Int} {a : Arr} {n : Nat} (hf : f = 1 ∨ f = 2 ∨ f = 3 ∨ f = 8) (h : Ok a [n]) (hc : a.ch = false) (hw : Wf a.da) (ho : (ofR f a.da).2 = 0) : ActOne 1 f 0 a ⟨false, [], [(ofR f a.da).1]⟩ :=
  one_over h (fun W => known_over (.inl rfl) hf 0 W) (fun W v hv => reduce_vec_new hv h (twoE_ok (by omega) (by omega) (by omega) (by omega)) ho hc hw)

end Go.Proofs.YtihndbkaoejnnaaGreatDoor
