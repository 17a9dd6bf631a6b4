/- What the card TopOnce leans on: PairWalk, PairBad. Conditions: none but those of its theorems. -/
import Derived.Test.YtihndbkaoejnnaaGreatDoorOnceI
import Derived.Test.YtihndbkaoejnnaaGreatDoorOnceZ
import Derived.Test.YtihndbkaoejnnaaGreatDoorOnceY
import Derived.Test.YtihndbkaoejnnaaGreatDoorOnceB
set_option linter.unusedSimpArgs false
set_option linter.unusedVariables false
namespace Go.Proofs.YtihndbkaoejnnaaGreatDoor
open Go Go.RowKit Go.Proofs.YtihndbkaoejnnaaGreatDoor.P

end Go.Proofs.YtihndbkaoejnnaaGreatDoor

namespace Go.Proofs.YtihndbkaoejnnaaGreatDoor
open Go Go.RowKit Go.Proofs.YtihndbkaoejnnaaGreatDoor.P

end Go.Proofs.YtihndbkaoejnnaaGreatDoor
