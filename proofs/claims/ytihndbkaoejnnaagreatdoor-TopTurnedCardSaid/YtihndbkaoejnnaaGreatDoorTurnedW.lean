/- What the card TopTurned leans on: WalkTurn. Conditions: none but those of its theorems. -/
import Derived.Test.YtihndbkaoejnnaaGreatDoorTurnedT
import Derived.Test.YtihndbkaoejnnaaGreatDoorTurnedU
set_option linter.unusedSimpArgs false
set_option linter.unusedVariables false
namespace Go.Proofs.YtihndbkaoejnnaaGreatDoor
open Go Go.RowKit Go.Proofs.YtihndbkaoejnnaaGreatDoor.P

theorem walk_turn6 (ns : List Nd) (t0 : ns[0]? = some ⟨7, 4, 1, 3, 0, [], ⟨#[]⟩⟩) (t1 : ns[1]? = some ⟨1, 0, 0, 0, 0, [1, 2, 3], ⟨#[]⟩⟩) (t2 : ns[2]? = some ⟨1, 0, 0, 0, 0, [4, 5, 6], ⟨#[]⟩⟩) : WExpr ns 0 0 3 := by
  have e_1 : WExpr ns 1 0 2 := w_nums t1 (rightNd_nums (by decide))
  have e_2 : WExpr ns 2 0 3 := w_nums t2 (rightNd_nums (by decide))
  have e_3 : WExpr ns 0 0 3 := w_two (m := 2) (q := 2) t0 (rightNd_act (by decide) (by unfold ActOk; decide) (by decide) (by decide)) e_1 (wfnAt_plain (by decide) (by decide)) e_2
  exact e_3
theorem walked_turn6 : Walked nodes_turn6 := ⟨walk_turn6 nodes_turn6 rfl rfl rfl, ⟨_, rfl, by decide⟩, by decide⟩

theorem walk_turnp (ns : List Nd) (t0 : ns[0]? = some ⟨6, 0, 21, 0, 0, [], ⟨#[]⟩⟩) (t1 : ns[1]? = some ⟨7, 4, 1, 3, 0, [], ⟨#[]⟩⟩) (t2 : ns[2]? = some ⟨3, 0, 0, 0, 0, [], ⟨#[109]⟩⟩) (t3 : ns[3]? = some ⟨3, 0, 0, 0, 0, [], ⟨#[110]⟩⟩) : WExpr ns 0 0 4 := by
  have e_1 : WExpr ns 2 0 3 := w_var t2 (rightNd_var (nameOk_of (by decide +kernel)))
  have e_2 : WExpr ns 3 0 4 := w_var t3 (rightNd_var (nameOk_of (by decide +kernel)))
  have e_3 : WExpr ns 1 0 4 := w_two (m := 3) (q := 3) t1 (rightNd_act (by decide) (by unfold ActOk; decide) (by decide) (by decide)) e_1 (wfnAt_plain (by decide) (by decide)) e_2
  have e_4 : WExpr ns 0 0 4 := w_one (q := 1) t0 (rightNd_act (by decide) (by unfold ActOk; decide) (by decide) (by decide)) (wfnAt_plain (by decide) (by decide)) e_3
  exact e_4
theorem walked_turnp : Walked nodes_turnp := ⟨walk_turnp nodes_turnp rfl rfl rfl rfl, ⟨_, rfl, by decide⟩, by decide⟩

theorem walk_turnq (ns : List Nd) (t0 : ns[0]? = some ⟨7, 4, 1, 3, 0, [], ⟨#[]⟩⟩) (t1 : ns[1]? = some ⟨6, 0, 21, 0, 0, [], ⟨#[]⟩⟩) (t2 : ns[2]? = some ⟨3, 0, 0, 0, 0, [], ⟨#[110]⟩⟩) (t3 : ns[3]? = some ⟨6, 0, 21, 0, 0, [], ⟨#[]⟩⟩) (t4 : ns[4]? = some ⟨3, 0, 0, 0, 0, [], ⟨#[109]⟩⟩) : WExpr ns 0 0 5 := by
  have e_1 : WExpr ns 2 0 3 := w_var t2 (rightNd_var (nameOk_of (by decide +kernel)))
  have e_2 : WExpr ns 1 0 3 := w_one (q := 2) t1 (rightNd_act (by decide) (by unfold ActOk; decide) (by decide) (by decide)) (wfnAt_plain (by decide) (by decide)) e_1
  have e_3 : WExpr ns 4 0 5 := w_var t4 (rightNd_var (nameOk_of (by decide +kernel)))
  have e_4 : WExpr ns 3 0 5 := w_one (q := 4) t3 (rightNd_act (by decide) (by unfold ActOk; decide) (by decide) (by decide)) (wfnAt_plain (by decide) (by decide)) e_3
  have e_5 : WExpr ns 0 0 5 := w_two (m := 3) (q := 3) t0 (rightNd_act (by decide) (by unfold ActOk; decide) (by decide) (by decide)) e_2 (wfnAt_plain (by decide) (by decide)) e_4
  exact e_5
theorem walked_turnq : Walked nodes_turnq := ⟨walk_turnq nodes_turnq rfl rfl rfl rfl rfl, ⟨_, rfl, by decide⟩, by decide⟩

theorem walk_turni (ns : List Nd) (t0 : ns[0]? = some ⟨7, 4, 1, 3, 0, [], ⟨#[]⟩⟩) (t1 : ns[1]? = some ⟨3, 0, 0, 0, 0, [], ⟨#[109]⟩⟩) (t2 : ns[2]? = some ⟨3, 0, 0, 0, 0, [], ⟨#[110]⟩⟩) : WExpr ns 0 0 3 := by
  have e_1 : WExpr ns 1 0 2 := w_var t1 (rightNd_var (nameOk_of (by decide +kernel)))
  have e_2 : WExpr ns 2 0 3 := w_var t2 (rightNd_var (nameOk_of (by decide +kernel)))
  have e_3 : WExpr ns 0 0 3 := w_two (m := 2) (q := 2) t0 (rightNd_act (by decide) (by unfold ActOk; decide) (by decide) (by decide)) e_1 (wfnAt_plain (by decide) (by decide)) e_2
  exact e_3
theorem walked_turni : Walked nodes_turni := ⟨walk_turni nodes_turni rfl rfl rfl, ⟨_, rfl, by decide⟩, by decide⟩

theorem walk_turns (ns : List Nd) (t0 : ns[0]? = some ⟨6, 1, 1, 0, 0, [], ⟨#[]⟩⟩) (t1 : ns[1]? = some ⟨7, 0, 3, 0, 0, [], ⟨#[]⟩⟩) (t2 : ns[2]? = some ⟨3, 0, 0, 0, 0, [], ⟨#[109]⟩⟩) (t3 : ns[3]? = some ⟨3, 0, 0, 0, 0, [], ⟨#[110]⟩⟩) : WExpr ns 0 0 4 := by
  have e_1 : WExpr ns 2 0 3 := w_var t2 (rightNd_var (nameOk_of (by decide +kernel)))
  have e_2 : WExpr ns 3 0 4 := w_var t3 (rightNd_var (nameOk_of (by decide +kernel)))
  have e_3 : WExpr ns 1 0 4 := w_two (m := 3) (q := 3) t1 (rightNd_act (by decide) (by unfold ActOk; decide) (by decide) (by decide)) e_1 (wfnAt_plain (by decide) (by decide)) e_2
  have e_4 : WExpr ns 0 0 4 := w_one (q := 1) t0 (rightNd_act (by decide) (by unfold ActOk; decide) (by decide) (by decide)) (wfnAt_plain (by decide) (by decide)) e_3
  exact e_4
theorem walked_turns : Walked nodes_turns := ⟨walk_turns nodes_turns rfl rfl rfl rfl, ⟨_, rfl, by decide⟩, by decide⟩

end Go.Proofs.YtihndbkaoejnnaaGreatDoor
