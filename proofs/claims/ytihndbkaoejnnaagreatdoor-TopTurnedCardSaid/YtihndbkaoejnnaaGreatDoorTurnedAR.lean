/- What the card TopTurned leans on: ActZip. Conditions: none but those of its theorems. -/
import Derived.Test.YtihndbkaoejnnaaGreatDoorTurnedAQ
import Derived.Test.YtihndbkaoejnnaaGreatDoorTurnedAA
import Derived.Test.YtihndbkaoejnnaaGreatDoorTurnedAN
set_option linter.unusedSimpArgs false
set_option linter.unusedVariables false
namespace Go.Proofs.YtihndbkaoejnnaaGreatDoor
open Go Go.RowKit Go.Proofs.YtihndbkaoejnnaaGreatDoor.P

theorem cell_no_err {f : Int} (hf : f = 1 ∨ f = 2 ∨ f = 3 ∨ f = 8) (ca cb : Bool) (x y : Int) : cellE ca cb f x y = 0 := by
  unfold cellE
  split
  · rfl
  · exact twoE_ok (by omega) (by omega) (by omega) (by omega)
theorem eachErr_same {f : Int} {a b : Arr} {t : List Nat} (hf : f = 1 ∨ f = 2 ∨ f = 3 ∨ f = 8) (ha : Ok a t) (hb : Ok b t) (hc : f = 8 ∨ (a.ch = false ∧ b.ch = false)) : eachErr f a b = 0 := by
  have hs : a.sh = b.sh := by rw [ha.sh, hb.sh]
  unfold eachErr
  rw [if_neg (by rw [twoE_ok (by omega) (by omega) (by omega) (by omega)]; simp), if_neg (by rw [arrErr_ok ha]; simp), if_neg (by rw [arrErr_ok hb]; simp)]
  rw [hs]
  simp only [ne_eq, not_true_eq_false, if_false]
  rcases hc with rfl | ⟨h1, h2⟩
  · simp
  · simp [h1, h2]
theorem act_zip {f : Int} {a b : Arr} {t : List Nat} (hf : f = 1 ∨ f = 2 ∨ f = 3 ∨ f = 8) (ha : Ok a t) (hb : Ok b t) (hc : f = 8 ∨ (a.ch = false ∧ b.ch = false)) (hwb : Wf b.da) : ActTwo 0 f 0 a b (zipA f a b) :=
  two_both (arrErr_ok ha) (arrErr_ok hb) (by omega) (fun W => known_cells hf 0 W) (both_cells hf (fun W v1 v2 h1 h2 => each_zip_new h1 h2 hwb ha hb ⟨eachErr_same hf ha hb hc, fun i _ => cell_no_err hf _ _ _ _⟩))

end Go.Proofs.YtihndbkaoejnnaaGreatDoor
