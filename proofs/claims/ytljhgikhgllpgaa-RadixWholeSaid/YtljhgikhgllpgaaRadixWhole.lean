/- The law RadixWhole, proved as its row says it. Conditions: none. -/
import Derived.Test.YtljhgikhgllpgaaRow
import Derived.Test.YtljhgikhgllpgaaRadixWholeWalk
namespace Go.Proofs.Ytljhgikhgllpgaa
open Go Go.RowKit Go.ChangeShapes Go.WideShapes Go.ChangeAt Go.Proofs.Ytljhgikhgllpgaa.P

set_option maxHeartbeats 1600000 in
set_option maxRecDepth 100000 in
theorem radixWhole_lifted (os : Os) (started : os.Started) (H : Type) (enc : TypeId × Value → H) :
    ReturnsInHanded {} Try.checked os 8 .any (Rows.radixWholeSpec.pre6 enc Try.prog Try.f8 Rows.radixWholeRow.domain false) (Rows.radixWholeSpec.post enc Try.prog Try.f8 false true false false) := by
  refine returnsInHanded_of_change_sized (C := Try.checked) Try.own started (by kernel_rfl) Try.func8
    (ChangeSpec.witness6 (enc := enc) (C := Try.checked) false ⟨#[], #[.slice none 0 0, .int .i64 0], []⟩ 8 (by kernel_rfl) (by kernel_rfl) (by kernel_rfl) (by kernel_rfl)) ?_
  intro W base args ds gs before hval0 hW _ hsz0 _
  have hsz : (DataW.weightsEach Try.prog (Try.f8.params.toList ++ Rows.radixWholeSpec.plain.varTypes Try.prog) (ds ++ gs)).all (· ≤ reachBytes) = true := hsz0
  clear hsz0
  have hval : ∀ (j : Nat) t v, Try.f8.params[j]? = some t → args[j]? = some v → Value.okWide Try.prog W .any base t v := hval0
  have hW' := hW
  obtain ⟨p, q, hA0, hV, rfl, hfz, hnd⟩ := hW
  have hA : DataW.TrodAll enc Try.prog W 0 (fun _ => true) true Try.f8.params.toList args.toList ds p := hA0
  rw [Try.params8] at hA hval hsz
  obtain ⟨V0, V1, d0, d1, p0, p1, rfl, rfl, rfl, h0, h1⟩ := trodAll_two hA
  obtain ⟨rfl, rfl⟩ := trodVars_none hV
  clear hA0 hval0
  obtain ⟨x0, hx0⟩ := list_in (j := 0) (hval 0 22 V0 rfl rfl) h0 hsz rfl rfl
  obtain ⟨i1, hv1, hd1, -, hw1⟩ := open_int Try.underlying3 (hval 1 3 V1 rfl rfl) h1
  subst hv1
  refine (radixWhole_walk V0 i1 x0 W hx0 hw1).mono fun e W' h => ?_
  obtain ⟨rfl, hb⟩ := h
  exact ⟨_, rfl, law_post (F := Try.f8) rfl (by kernel_rfl) (by kernel_rfl) (by kernel_rfl) hW' rfl hb⟩

theorem radixWhole_holds : Rows.RadixWholeSaid :=
  OpenClaim.holds_of_wide 8 Try.f8 rfl rfl rfl rfl rfl rfl rfl ⟨rfl, rfl, rfl, rfl, rfl⟩ rfl rfl rfl rfl rfl (by kernel_rfl) Try.func8 (by kernel_rfl)
    (of_decide_eq_true (by kernel_rfl)) (by unfold Func.isWrapper; rw [if_neg (by decide +kernel)]; exact ⟨rfl, rfl⟩)
    (fun os started H enc _ => radixWhole_lifted os started H enc)

end Go.Proofs.Ytljhgikhgllpgaa
