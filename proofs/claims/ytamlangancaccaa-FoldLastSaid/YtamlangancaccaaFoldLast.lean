/- The law FoldLast, proved as its row says it. Conditions: none. -/
import Derived.Test.YtamlangancaccaaRow
import Derived.Test.YtamlangancaccaaRowWf
import Derived.Test.YtamlangancaccaaFoldLastWalk
set_option linter.unusedSimpArgs false
set_option linter.unusedVariables false
namespace Go.Proofs.Ytamlangancaccaa
open Go Go.RowKit Go.ChangeShapes Go.WideShapes Go.ChangeAt Go.Proofs.Ytamlangancaccaa.P

set_option maxHeartbeats 1600000 in
set_option maxRecDepth 100000 in
theorem foldLast_lifted (os : Os) (started : os.Started) (H : Type) (enc : TypeId × Value → H) :
    ReturnsInHanded {} Try.checked os 4 .any (Rows.foldLastSpec.pre6 enc Try.prog Try.f4 Rows.foldLastRow.domain false) (Rows.foldLastSpec.post enc Try.prog Try.f4 false true false false) := by
  refine returnsInHanded_of_change_sized (C := Try.checked) Try.own started (by kernel_rfl) Try.func4
    (ChangeSpec.witness6 (enc := enc) (C := Try.checked) false ⟨#[], #[.int .i64 0, .int .i64 0, .agg #[.bool false, .slice none 0 0, .slice none 0 0]], []⟩ 8 (by kernel_rfl) (by kernel_rfl) (by kernel_rfl) (by kernel_rfl)) ?_
  intro W base args ds gs before hval0 hW _ hsz0 _
  have hsz : (DataW.weightsEach Try.prog (Try.f4.params.toList ++ Rows.foldLastSpec.plain.varTypes Try.prog) (ds ++ gs)).all (· ≤ reachBytes) = true := hsz0
  clear hsz0
  have hval : ∀ (j : Nat) t v, Try.f4.params[j]? = some t → args[j]? = some v → Value.okWide Try.prog W .any base t v := hval0
  have hW' := hW
  obtain ⟨p, q, hA0, hV, rfl, hfz, hnd⟩ := hW
  have hA : DataW.TrodAll enc Try.prog W 0 (fun _ => true) true Try.f4.params.toList args.toList ds p := hA0
  rw [Try.params4] at hA hval hsz
  obtain ⟨V0, V1, V2, d0, d1, d2, p0, p1, p2, rfl, rfl, rfl, h0, h1, h2⟩ := trodAll_three hA
  obtain ⟨rfl, rfl⟩ := trodVars_none hV
  clear hA0 hval0
  obtain ⟨i0, hv0, hd0, -, hw0⟩ := open_int Try.underlying22 (hval 0 22 V0 rfl rfl) h0
  obtain ⟨i1, hv1, hd1, -, hw1⟩ := open_int Try.underlying3 (hval 1 3 V1 rfl rfl) h1
  obtain ⟨a2, ha2, wf2⟩ := arr_in_wf (j := 2) (hval 2 25 V2 rfl rfl) h2 hsz rfl rfl
  subst hv0 hv1
  refine (foldLast_walk i0 i1 V2 a2 W ha2 wf2).mono fun e W' h => ?_
  obtain ⟨rfl, hb⟩ := h
  exact ⟨_, rfl, law_post (F := Try.f4) rfl (by kernel_rfl) (by kernel_rfl) (by kernel_rfl) hW' rfl hb⟩

theorem foldLast_holds : Rows.FoldLastSaid :=
  OpenClaim.holds_of_wide 4 Try.f4 rfl rfl rfl rfl rfl rfl rfl ⟨rfl, rfl, rfl, rfl, rfl⟩ rfl rfl rfl rfl rfl (by kernel_rfl) Try.func4 (by kernel_rfl)
    (of_decide_eq_true (by kernel_rfl)) (by unfold Func.isWrapper; rw [if_neg (by decide +kernel)]; exact ⟨rfl, rfl⟩)
    (fun os started H enc _ => foldLast_lifted os started H enc)

end Go.Proofs.Ytamlangancaccaa
