/- What the card TopProduct leans on: ActIota. Conditions: none but those of its theorems. -/
import Derived.Test.YtihndbkaoejnnaaGreatDoorProductAB
import Derived.Test.YtihndbkaoejnnaaGreatDoorProductAO
set_option linter.unusedSimpArgs false
set_option linter.unusedVariables false
namespace Go.Proofs.YtihndbkaoejnnaaGreatDoor
open Go Go.RowKit Go.Proofs.YtihndbkaoejnnaaGreatDoor.P

theorem act_iota {n : Nat} (hn : n ≤ 4096) : ActOne 0 24 0 ⟨false, [], [(n : Int)]⟩ (firstNums n) := one_plain (arrErr_ok (ok_num _)) (.inl rfl) (fun W => known_plain (by omega) 0 W) (plain_iota hn)
end Go.Proofs.YtihndbkaoejnnaaGreatDoor
