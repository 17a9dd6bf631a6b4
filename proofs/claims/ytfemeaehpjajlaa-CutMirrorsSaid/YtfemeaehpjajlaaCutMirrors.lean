/- The law CutMirrors, proved as its row says it. Conditions: none. -/
import Derived.Test.YtfemeaehpjajlaaRow
import Derived.Test.YtfemeaehpjajlaaCutMirrorsWalk
namespace Go.Proofs.Ytfemeaehpjajlaa
open Go Go.RowKit Go.ChangeShapes Go.WideShapes Go.ChangeAt Go.Proofs.Ytfemeaehpjajlaa.P

set_option maxHeartbeats 1600000 in
set_option maxRecDepth 100000 in
theorem cutMirrors_lifted (os : Os) (started : os.Started) (H : Type) (enc : TypeId × Value → H) :
    ReturnsInHanded {} Try.checked os 17 .any (Rows.cutMirrorsSpec.pre6 enc Try.prog Try.f17 Rows.cutMirrorsRow.domain false) (Rows.cutMirrorsSpec.post enc Try.prog Try.f17 false true false false) := by
  refine returnsInHanded_of_change_sized (C := Try.checked) Try.own started (by kernel_rfl) Try.func17
    (ChangeSpec.witness6 (enc := enc) (C := Try.checked) false ⟨#[], #[.int .i64 0, .agg #[.bool false, .slice none 0 0, .slice none 0 0], .agg #[.bool false, .slice none 0 0, .slice none 0 0], .int .i64 0], []⟩ 8 (by kernel_rfl) (by kernel_rfl) (by kernel_rfl) (by kernel_rfl)) ?_
  intro W base args ds gs before hval0 hW _ hsz0 _
  have hsz : (DataW.weightsEach Try.prog (Try.f17.params.toList ++ Rows.cutMirrorsSpec.plain.varTypes Try.prog) (ds ++ gs)).all (· ≤ reachBytes) = true := hsz0
  clear hsz0
  have hval : ∀ (j : Nat) t v, Try.f17.params[j]? = some t → args[j]? = some v → Value.okWide Try.prog W .any base t v := hval0
  have hW' := hW
  obtain ⟨p, q, hA0, hV, rfl, hfz, hnd⟩ := hW
  have hA : DataW.TrodAll enc Try.prog W 0 (fun _ => true) true Try.f17.params.toList args.toList ds p := hA0
  rw [Try.params17] at hA hval hsz
  obtain ⟨V0, V1, V2, V3, d0, d1, d2, d3, p0, p1, p2, p3, rfl, rfl, rfl, h0, h1, h2, h3⟩ := trodAll_four hA
  obtain ⟨rfl, rfl⟩ := trodVars_none hV
  clear hA0 hval0
  obtain ⟨i0, hv0, hd0, -, hw0⟩ := open_int Try.underlying3 (hval 0 3 V0 rfl rfl) h0
  obtain ⟨a1, ha1⟩ := arr_in (j := 1) (hval 1 24 V1 rfl rfl) h1 hsz rfl rfl
  obtain ⟨a2, ha2⟩ := arr_in (j := 2) (hval 2 24 V2 rfl rfl) h2 hsz rfl rfl
  obtain ⟨i3, hv3, hd3, -, hw3⟩ := open_int Try.underlying3 (hval 3 3 V3 rfl rfl) h3
  subst hv0 hv3
  refine (cutMirrors_walk i0 i3 V1 V2 a1 a2 W ha1 ha2).mono fun e W' h => ?_
  obtain ⟨rfl, hb⟩ := h
  exact ⟨_, rfl, law_post (F := Try.f17) rfl (by kernel_rfl) (by kernel_rfl) (by kernel_rfl) hW' rfl hb⟩

theorem cutMirrors_holds : Rows.CutMirrorsSaid :=
  OpenClaim.holds_of_wide 17 Try.f17 rfl rfl rfl rfl rfl rfl rfl ⟨rfl, rfl, rfl, rfl, rfl⟩ rfl rfl rfl rfl rfl (by kernel_rfl) Try.func17 (by kernel_rfl)
    (of_decide_eq_true (by kernel_rfl)) (by unfold Func.isWrapper; rw [if_neg (by decide +kernel)]; exact ⟨rfl, rfl⟩)
    (fun os started H enc _ => cutMirrors_lifted os started H enc)

end Go.Proofs.Ytfemeaehpjajlaa
