/- What the card TopProduct leans on: RowWf. Conditions: none but those of its theorems. -/
import Derived.Test.YtihndbkaoejnnaaGreatDoorProductF
import Derived.Test.YtihndbkaoejnnaaGreatDoorProductH
set_option linter.unusedSimpArgs false
set_option linter.unusedVariables false
namespace Go.Proofs.YtihndbkaoejnnaaGreatDoor
open Go Go.RowKit Go.ChangeShapes Go.WideShapes Go.ChangeAt Go.Proofs.YtihndbkaoejnnaaGreatDoor.P
variable {H : Type} {enc : TypeId × Value → H}

end Go.Proofs.YtihndbkaoejnnaaGreatDoor
