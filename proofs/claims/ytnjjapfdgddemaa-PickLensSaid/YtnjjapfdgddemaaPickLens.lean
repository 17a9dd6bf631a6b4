/- The law PickLens, proved as its row says it. Conditions: none. -/
import Derived.Test.YtnjjapfdgddemaaRow
import Derived.Test.YtnjjapfdgddemaaRowArrs
import Derived.Test.YtnjjapfdgddemaaPickLensWalk
namespace Go.Proofs.Ytnjjapfdgddemaa
open Go Go.RowKit Go.ChangeShapes Go.WideShapes Go.ChangeAt Go.Proofs.Ytnjjapfdgddemaa.P

set_option maxHeartbeats 1600000 in
set_option maxRecDepth 100000 in
theorem pickLens_lifted (os : Os) (started : os.Started) (H : Type) (enc : TypeId × Value → H) :
    ReturnsInHanded {} Try.checked os 4 .any (Rows.pickLensSpec.pre6 enc Try.prog Try.f4 Rows.pickLensRow.domain false) (Rows.pickLensSpec.post enc Try.prog Try.f4 false true false false) := by
  refine returnsInHanded_of_change_sized (C := Try.checked) Try.own started (by kernel_rfl) Try.func4
    (ChangeSpec.witness6 (enc := enc) (C := Try.checked) false ⟨#[], #[.agg #[.bool false, .slice none 0 0, .slice none 0 0], .slice none 0 0, .agg #[.bool false, .slice none 0 0, .slice none 0 0], .agg #[.bool false, .slice none 0 0, .slice none 0 0]], []⟩ 8 (by kernel_rfl) (by kernel_rfl) (by kernel_rfl) (by kernel_rfl)) ?_
  intro W base args ds gs before hval0 hW _ hsz0 _
  have hsz : (DataW.weightsEach Try.prog (Try.f4.params.toList ++ Rows.pickLensSpec.plain.varTypes Try.prog) (ds ++ gs)).all (· ≤ reachBytes) = true := hsz0
  clear hsz0
  have hval : ∀ (j : Nat) t v, Try.f4.params[j]? = some t → args[j]? = some v → Value.okWide Try.prog W .any base t v := hval0
  have hW' := hW
  obtain ⟨p, q, hA0, hV, rfl, hfz, hnd⟩ := hW
  have hA : DataW.TrodAll enc Try.prog W 0 (fun _ => true) true Try.f4.params.toList args.toList ds p := hA0
  rw [Try.params4] at hA hval hsz
  obtain ⟨V0, V1, V2, V3, d0, d1, d2, d3, p0, p1, p2, p3, rfl, rfl, rfl, h0, h1, h2, h3⟩ := trodAll_four hA
  obtain ⟨rfl, rfl⟩ := trodVars_none hV
  clear hA0 hval0
  obtain ⟨a0, ha0⟩ := arr_in (j := 0) (hval 0 24 V0 rfl rfl) h0 hsz rfl rfl
  obtain ⟨bs1, hbs1⟩ := arrs_in (j := 1) (hval 1 30 V1 rfl rfl) h1 hsz rfl rfl
  obtain ⟨a2, ha2⟩ := arr_in (j := 2) (hval 2 24 V2 rfl rfl) h2 hsz rfl rfl
  obtain ⟨a3, ha3⟩ := arr_in (j := 3) (hval 3 24 V3 rfl rfl) h3 hsz rfl rfl
  refine (pickLens_walk V0 V1 V2 V3 a0 a2 a3 bs1 W ha0 hbs1 ha2 ha3).mono fun e W' h => ?_
  obtain ⟨rfl, hb⟩ := h
  exact ⟨_, rfl, law_post (F := Try.f4) rfl (by kernel_rfl) (by kernel_rfl) (by kernel_rfl) hW' rfl hb⟩

theorem pickLens_holds : Rows.PickLensSaid :=
  OpenClaim.holds_of_wide 4 Try.f4 rfl rfl rfl rfl rfl rfl rfl ⟨rfl, rfl, rfl, rfl, rfl⟩ rfl rfl rfl rfl rfl (by kernel_rfl) Try.func4 (by kernel_rfl)
    (of_decide_eq_true (by kernel_rfl)) (by unfold Func.isWrapper; rw [if_neg (by decide +kernel)]; exact ⟨rfl, rfl⟩)
    (fun os started H enc _ => pickLens_lifted os started H enc)

end Go.Proofs.Ytnjjapfdgddemaa
