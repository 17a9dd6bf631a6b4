/- The law PermLehmer, proved as its row says it. Conditions: none. -/
import Derived.Test.YtljhgikhgllpgaaRow
import Derived.Test.YtljhgikhgllpgaaPermLehmerWalk
namespace Go.Proofs.Ytljhgikhgllpgaa
open Go Go.RowKit Go.ChangeShapes Go.WideShapes Go.ChangeAt Go.Proofs.Ytljhgikhgllpgaa.P

set_option maxHeartbeats 1600000 in
set_option maxRecDepth 100000 in
theorem permLehmer_lifted (os : Os) (started : os.Started) (H : Type) (enc : TypeId × Value → H) :
    ReturnsInHanded {} Try.checked os 9 .any (Rows.permLehmerSpec.pre6 enc Try.prog Try.f9 Rows.permLehmerRow.domain false) (Rows.permLehmerSpec.post enc Try.prog Try.f9 false true false false) := by
  refine returnsInHanded_of_change_sized (C := Try.checked) Try.own started (by kernel_rfl) Try.func9
    (ChangeSpec.witness6 (enc := enc) (C := Try.checked) false ⟨#[], #[.slice none 0 0, .slice none 0 0, .int .i64 0, .int .i64 0], []⟩ 8 (by kernel_rfl) (by kernel_rfl) (by kernel_rfl) (by kernel_rfl)) ?_
  intro W base args ds gs before hval0 hW _ hsz0 _
  have hsz : (DataW.weightsEach Try.prog (Try.f9.params.toList ++ Rows.permLehmerSpec.plain.varTypes Try.prog) (ds ++ gs)).all (· ≤ reachBytes) = true := hsz0
  clear hsz0
  have hval : ∀ (j : Nat) t v, Try.f9.params[j]? = some t → args[j]? = some v → Value.okWide Try.prog W .any base t v := hval0
  have hW' := hW
  obtain ⟨p, q, hA0, hV, rfl, hfz, hnd⟩ := hW
  have hA : DataW.TrodAll enc Try.prog W 0 (fun _ => true) true Try.f9.params.toList args.toList ds p := hA0
  rw [Try.params9] at hA hval hsz
  obtain ⟨V0, V1, V2, V3, d0, d1, d2, d3, p0, p1, p2, p3, rfl, rfl, rfl, h0, h1, h2, h3⟩ := trodAll_four hA
  obtain ⟨rfl, rfl⟩ := trodVars_none hV
  clear hA0 hval0
  obtain ⟨x0, hx0⟩ := list_in (j := 0) (hval 0 22 V0 rfl rfl) h0 hsz rfl rfl
  obtain ⟨x1, hx1⟩ := list_in (j := 1) (hval 1 22 V1 rfl rfl) h1 hsz rfl rfl
  obtain ⟨i2, hv2, hd2, -, hw2⟩ := open_int Try.underlying3 (hval 2 3 V2 rfl rfl) h2
  obtain ⟨i3, hv3, hd3, -, hw3⟩ := open_int Try.underlying3 (hval 3 3 V3 rfl rfl) h3
  subst hv2 hv3
  refine (permLehmer_walk V0 V1 i2 i3 x0 x1 W hx0 hx1).mono fun e W' h => ?_
  obtain ⟨rfl, hb⟩ := h
  exact ⟨_, rfl, law_post (F := Try.f9) rfl (by kernel_rfl) (by kernel_rfl) (by kernel_rfl) hW' rfl hb⟩

theorem permLehmer_holds : Rows.PermLehmerSaid :=
  OpenClaim.holds_of_wide 9 Try.f9 rfl rfl rfl rfl rfl rfl rfl ⟨rfl, rfl, rfl, rfl, rfl⟩ rfl rfl rfl rfl rfl (by kernel_rfl) Try.func9 (by kernel_rfl)
    (of_decide_eq_true (by kernel_rfl)) (by unfold Func.isWrapper; rw [if_neg (by decide +kernel)]; exact ⟨rfl, rfl⟩)
    (fun os started H enc _ => permLehmer_lifted os started H enc)

end Go.Proofs.Ytljhgikhgllpgaa
