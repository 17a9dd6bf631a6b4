/- The law CutWhole, proved as its row says it. Conditions: none. -/
import Derived.Test.YtfemeaehpjajlaaRow
import Derived.Test.YtfemeaehpjajlaaCutWholeWalk
namespace Go.Proofs.Ytfemeaehpjajlaa
open Go Go.RowKit Go.ChangeShapes Go.WideShapes Go.ChangeAt Go.Proofs.Ytfemeaehpjajlaa.P

set_option maxHeartbeats 1600000 in
set_option maxRecDepth 100000 in
theorem cutWhole_lifted (os : Os) (started : os.Started) (H : Type) (enc : TypeId × Value → H) :
    ReturnsInHanded {} Try.checked os 16 .any (Rows.cutWholeSpec.pre6 enc Try.prog Try.f16 Rows.cutWholeRow.domain false) (Rows.cutWholeSpec.post enc Try.prog Try.f16 false true false false) := by
  refine returnsInHanded_of_change_sized (C := Try.checked) Try.own started (by kernel_rfl) Try.func16
    (ChangeSpec.witness6 (enc := enc) (C := Try.checked) false ⟨#[], #[.int .i64 0, .int .i64 0, .agg #[.bool false, .slice none 0 0, .slice none 0 0]], []⟩ 8 (by kernel_rfl) (by kernel_rfl) (by kernel_rfl) (by kernel_rfl)) ?_
  intro W base args ds gs before hval0 hW _ hsz0 _
  have hsz : (DataW.weightsEach Try.prog (Try.f16.params.toList ++ Rows.cutWholeSpec.plain.varTypes Try.prog) (ds ++ gs)).all (· ≤ reachBytes) = true := hsz0
  clear hsz0
  have hval : ∀ (j : Nat) t v, Try.f16.params[j]? = some t → args[j]? = some v → Value.okWide Try.prog W .any base t v := hval0
  have hW' := hW
  obtain ⟨p, q, hA0, hV, rfl, hfz, hnd⟩ := hW
  have hA : DataW.TrodAll enc Try.prog W 0 (fun _ => true) true Try.f16.params.toList args.toList ds p := hA0
  rw [Try.params16] at hA hval hsz
  obtain ⟨V0, V1, V2, d0, d1, d2, p0, p1, p2, rfl, rfl, rfl, h0, h1, h2⟩ := trodAll_three hA
  obtain ⟨rfl, rfl⟩ := trodVars_none hV
  clear hA0 hval0
  obtain ⟨i0, hv0, hd0, -, hw0⟩ := open_int Try.underlying3 (hval 0 3 V0 rfl rfl) h0
  obtain ⟨i1, hv1, hd1, -, hw1⟩ := open_int Try.underlying3 (hval 1 3 V1 rfl rfl) h1
  obtain ⟨a2, ha2⟩ := arr_in (j := 2) (hval 2 24 V2 rfl rfl) h2 hsz rfl rfl
  subst hv0 hv1
  refine (cutWhole_walk i0 i1 V2 a2 W ha2).mono fun e W' h => ?_
  obtain ⟨rfl, hb⟩ := h
  exact ⟨_, rfl, law_post (F := Try.f16) rfl (by kernel_rfl) (by kernel_rfl) (by kernel_rfl) hW' rfl hb⟩

theorem cutWhole_holds : Rows.CutWholeSaid :=
  OpenClaim.holds_of_wide 16 Try.f16 rfl rfl rfl rfl rfl rfl rfl ⟨rfl, rfl, rfl, rfl, rfl⟩ rfl rfl rfl rfl rfl (by kernel_rfl) Try.func16 (by kernel_rfl)
    (of_decide_eq_true (by kernel_rfl)) (by unfold Func.isWrapper; rw [if_neg (by decide +kernel)]; exact ⟨rfl, rfl⟩)
    (fun os started H enc _ => cutWhole_lifted os started H enc)

end Go.Proofs.Ytfemeaehpjajlaa
