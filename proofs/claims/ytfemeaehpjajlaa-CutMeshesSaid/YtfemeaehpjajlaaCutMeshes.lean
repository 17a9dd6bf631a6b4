/- The law CutMeshes, proved as its row says it. Conditions: none. -/
import Derived.Test.YtfemeaehpjajlaaRow
import Derived.Test.YtfemeaehpjajlaaRowWf
import Derived.Test.YtfemeaehpjajlaaCutMeshesWalk
namespace Go.Proofs.Ytfemeaehpjajlaa
open Go Go.RowKit Go.ChangeShapes Go.WideShapes Go.ChangeAt Go.Proofs.Ytfemeaehpjajlaa.P

set_option maxHeartbeats 1600000 in
set_option maxRecDepth 100000 in
theorem cutMeshes_lifted (os : Os) (started : os.Started) (H : Type) (enc : TypeId × Value → H) :
    ReturnsInHanded {} Try.checked os 22 .any (Rows.cutMeshesSpec.pre6 enc Try.prog Try.f22 Rows.cutMeshesRow.domain false) (Rows.cutMeshesSpec.post enc Try.prog Try.f22 false true false false) := by
  refine returnsInHanded_of_change_sized (C := Try.checked) Try.own started (by kernel_rfl) Try.func22
    (ChangeSpec.witness6 (enc := enc) (C := Try.checked) false ⟨#[], #[.slice none 0 0, .int .i64 0, .agg #[.bool false, .slice none 0 0, .slice none 0 0]], []⟩ 8 (by kernel_rfl) (by kernel_rfl) (by kernel_rfl) (by kernel_rfl)) ?_
  intro W base args ds gs before hval0 hW _ hsz0 _
  have hsz : (DataW.weightsEach Try.prog (Try.f22.params.toList ++ Rows.cutMeshesSpec.plain.varTypes Try.prog) (ds ++ gs)).all (· ≤ reachBytes) = true := hsz0
  clear hsz0
  have hval : ∀ (j : Nat) t v, Try.f22.params[j]? = some t → args[j]? = some v → Value.okWide Try.prog W .any base t v := hval0
  have hW' := hW
  obtain ⟨p, q, hA0, hV, rfl, hfz, hnd⟩ := hW
  have hA : DataW.TrodAll enc Try.prog W 0 (fun _ => true) true Try.f22.params.toList args.toList ds p := hA0
  rw [Try.params22] at hA hval hsz
  obtain ⟨V0, V1, V2, d0, d1, d2, p0, p1, p2, rfl, rfl, rfl, h0, h1, h2⟩ := trodAll_three hA
  obtain ⟨rfl, rfl⟩ := trodVars_none hV
  clear hA0 hval0
  obtain ⟨x0, hx0⟩ := list_in (j := 0) (hval 0 22 V0 rfl rfl) h0 hsz rfl rfl
  obtain ⟨i1, hv1, hd1, -, hw1⟩ := open_int Try.underlying3 (hval 1 3 V1 rfl rfl) h1
  obtain ⟨a2, ha2, wf2⟩ := arr_in_wf (j := 2) (hval 2 24 V2 rfl rfl) h2 hsz rfl rfl
  subst hv1
  refine (cutMeshes_walk i1 V0 V2 x0 a2 W hx0 ha2 wf2).mono fun e W' h => ?_
  obtain ⟨rfl, hb⟩ := h
  exact ⟨_, rfl, law_post (F := Try.f22) rfl (by kernel_rfl) (by kernel_rfl) (by kernel_rfl) hW' rfl hb⟩

theorem cutMeshes_holds : Rows.CutMeshesSaid :=
  OpenClaim.holds_of_wide 22 Try.f22 rfl rfl rfl rfl rfl rfl rfl ⟨rfl, rfl, rfl, rfl, rfl⟩ rfl rfl rfl rfl rfl (by kernel_rfl) Try.func22 (by kernel_rfl)
    (of_decide_eq_true (by kernel_rfl)) (by unfold Func.isWrapper; rw [if_neg (by decide +kernel)]; exact ⟨rfl, rfl⟩)
    (fun os started H enc _ => cutMeshes_lifted os started H enc)

end Go.Proofs.Ytfemeaehpjajlaa
