/- What the card TopOnce leans on: ActIndex. Conditions: none but those of its theorems. -/
import Derived.Test.YtihndbkaoejnnaaGreatDoorOnceAQ
import Derived.Test.YtihndbkaoejnnaaGreatDoorOnceAB
set_option linter.unusedSimpArgs false
set_option linter.unusedVariables false
namespace Go.Proofs.YtihndbkaoejnnaaGreatDoor
open Go Go.RowKit Go.Proofs.YtihndbkaoejnnaaGreatDoor.P

/-- Where cells are. -/
theorem act_index {a b : Arr} {n m : Nat} (ha : Ok a [n]) (hb : Ok b [m]) (hwa : Wf a.da) (hwb : Wf b.da) : ActTwo 0 24 0 a b (index a b) := by
  have he : indexErr a b = 0 := by
    unfold indexErr twoErr
    rw [if_neg (by rw [if_neg (by rw [arrErr_ok ha]; simp), arrErr_ok hb]; simp), if_neg (by rw [rank_one ha]; simp)]
  exact two_both (arrErr_ok ha) (arrErr_ok hb) (by omega) (fun W => known_list (.inr (.inr (.inl rfl))) 0 W) (both_index fun W v1 v2 h1 h2 => index_new h1 h2 hwa hwb he)

end Go.Proofs.YtihndbkaoejnnaaGreatDoor
