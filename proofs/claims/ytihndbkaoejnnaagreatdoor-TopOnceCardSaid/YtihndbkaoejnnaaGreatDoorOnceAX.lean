/- What the card TopOnce leans on: TopOnceWalk. Conditions: none but those of its theorems. -/
import Derived.Test.YtihndbkaoejnnaaGreatDoorOnceAB
import Derived.Test.YtihndbkaoejnnaaGreatDoorOnceW
import Derived.Test.YtihndbkaoejnnaaGreatDoorOnceAM
import Derived.Test.YtihndbkaoejnnaaGreatDoorOnceAP
import Derived.Test.YtihndbkaoejnnaaGreatDoorOnceAW
set_option linter.unusedSimpArgs false
set_option linter.unusedVariables false
namespace Go.Proofs.YtihndbkaoejnnaaGreatDoor
open Go Go.RowKit Go.Proofs.YtihndbkaoejnnaaGreatDoor.P

theorem wf_index (a b : Arr) (h : a.da.length ≤ 4096) : Wf (index a b).da := by
  intro x hx
  simp only [index, List.mem_map] at hx
  obtain ⟨y, -, rfl⟩ := hx
  have := findN_le a b.ch y
  simp [Lit.wf, IntKind.min, IntKind.max, IntKind.bits, IntKind.signed]
  omega
theorem nub_313 : nub ⟨false, [3], [3, 1, 3]⟩ = ⟨false, [2], [3, 1]⟩ := by
  have e : nubD [3, 1, 3] = [3, 1] := by decide +kernel
  unfold nub
  rw [show (⟨false, [3], [3, 1, 3]⟩ : Arr).da = [3, 1, 3] from rfl, e]
  rfl
theorem line_once3_is : LineOf line_once3 [] ⟨false, [2], [3, 1]⟩ :=
  have h : Ok ⟨false, [3], [3, 1, 3]⟩ [3] := ⟨rfl, ⟨by simp, by simp, by simp [prod]⟩, by simp [prod], fun e => by cases e⟩
  ⟨by decide, toks_once3, nodes_once3, 2, lexes_once3, by decide, parsed_once3, walked_once3, val_once3 (nub_313 ▸ act_cup h (by intro x hx; simp at hx; rcases hx with rfl | rfl | rfl <;> decide)), by decide⟩
theorem line_oncev_is {a : Arr} {n : Nat} (h : Ok a [n]) (hw : Wf a.da) : LineOf line_oncev [(⟨#[118]⟩, a)] (nub a) :=
  ⟨by decide, toks_oncev, nodes_oncev, 2, lexes_oncev, by decide, parsed_oncev, walked_oncev, val_oncev (bd_one _ a) (act_cup h hw), by decide⟩
theorem line_oncek_is {a : Arr} {n : Nat} (h : Ok a [n]) (hw : Wf a.da) : LineOf line_oncek [(⟨#[118]⟩, a)] (nub a) := by
  have hl : a.da.length = n := by rw [h.len]; simp [prod]
  have hn : n ≤ 4096 := h.good.2.1 n (by simp)
  have h1 : Ok ⟨false, [1], [(n : Int)]⟩ [1] := ⟨rfl, ⟨by simp, by simp, by simp [prod]⟩, by simp [prod], fun e => by cases e⟩
  have a3 := act_fold (f := 1) (.inl rfl) h1 rfl (by intro x hx; simp at hx; subst hx; simp [Lit.wf, IntKind.min, IntKind.max, IntKind.bits, IntKind.signed]; omega) rfl
  have hix : Ok (index a a) [n] := ⟨h.sh, h.good, by simp [index, hl, prod], fun e => by cases e⟩
  have a1 := act_zip (f := 8) (by omega) (firstNums_ok hn) hix (.inl rfl) (wf_index a a (by omega))
  rw [index_mask h] at a1
  have hmo : Ok ⟨false, [(n : Int)], maskFrom (firstB a.da) 0 a.da⟩ [n] := ⟨rfl, h.good, by rw [maskFrom_len, hl]; simp [prod], fun e => by cases e⟩
  have a0 := act_keep hmo rfl h (mask_keepErr h)
  rw [show (⟨false, [(n : Int)], maskFrom (firstB a.da) 0 a.da⟩ : Arr).da = maskFrom (firstB a.da) 0 a.da from rfl, once_keep h] at a0
  exact ⟨by decide, toks_oncek, nodes_oncek, 10, lexes_oncek, by decide, parsed_oncek, walked_oncek, val_oncek (bd_one _ a) (act_rho h) a3 (act_iota hn) (act_index h h hw hw) a1 a0, by decide⟩

set_option maxRecDepth 100000 in
set_option maxHeartbeats 8000000 in
theorem topOnce_walk (V : Value) (a : Arr) (W : World) (hst : Std W) (ha : IsArr W V a) (hw : Wf a.da) : Calls Tryz.prog 4 #[V] W (TrueB W) := by
  obtain ⟨A, ca, D, cd, rfl, -, -⟩ := ha.open_
  obtain ⟨n, hn⟩ : ∃ n, n = a.sh.length := ⟨_, rfl⟩
  obtain ⟨m, hm⟩ : ∃ m, m = a.da.length := ⟨_, rfl⟩
  rw [← hn, ← hm] at ha ⊢
  have HA := Lib.hid ha
  have HN := Lib.hid hn
  have HM := Lib.hid hm
  have HST := Lib.hid hst
  have HW := Lib.hid hw
  have hmx := mixedZ
  clear ha hn hm hst hw
  have hb0 := below_two W (.cells #[.bool a.ch, .slice A n ca, .slice D m cd] 25) (.cells #[.int .i64 3, .int .i64 1] 3)
  have hx := (Box.new W 25 #[.bool a.ch, .slice A n ca, .slice D m cd]).alloc (.cells #[.int .i64 3, .int .i64 1] 3)
  have hy := Box.new (W.alloc (.cells #[.bool a.ch, .slice A n ca, .slice D m cd] 25)) 3 #[.int .i64 3, .int .i64 1]
  have hi : IsInts _ (.slice (some ⟨W.heap.size + 1, 0, none⟩) 2 2) [3, 1] := Box.isInts (xs := [3, 1]) (by simpa using hy) rfl (by omega)
  have HI := Lib.hid hi
  clear hi hy
  go_enter Tryz.func4, Tryz.ntmps4
  go_wp2_with fail
  refine (vector_any false _ _ _ HI.out).mono ?_
  rintro e w1 ⟨r, rfl, hr, hb1⟩
  have HR := Lib.hid hr
  have hbw1 := hb0.trans (hb1.mono hb0.size)
  have x1 := hx.below hb1
  obtain ⟨A2, c2, D2, d2, rfl, -, -⟩ := hr.open_
  clear hb1 hr hx hb0
  go_wp2_with fail
  refine (tells_true (HST.out.below hbw1) (wsAt_nil _) wsOk_nil line_once3_is HR.out rfl).mono ?_
  rintro e w2 ⟨rfl, hb2⟩
  have x2 := x1.below hb2
  have hbw2 := hbw1.trans (hb2.mono hbw1.size)
  obtain ⟨z0, z1, z2⟩ := x2.three
  have zl := x2.lt
  clear hb2 x1 hbw1
  go_wp2_with fail
  refine (list_is (HA.out.mono hbw2)).mono ?_
  rintro e w3 ⟨rfl, hb3⟩
  have x3 := x2.below hb3
  have hbw3 := hbw2.trans (hb3.mono hbw2.size)
  clear hb3 x2 hbw2 z0 z1 z2 zl
  obtain ⟨z0, z1, z2⟩ := x3.three
  have zl := x3.lt
  by_cases hL : arrErr a = 0 ∧ a.sh.length = 1
  case neg =>
    have e1 : decide (arrErr a = 0 ∧ a.sh.length = 1) = false := by simpa using hL
    rw [e1]
    clear hL e1
    go_wp2_with fail
    go_ret
    exact ⟨rfl, hbw3⟩
  have e1 : decide (arrErr a = 0 ∧ a.sh.length = 1) = true := by simpa using hL
  rw [e1]
  have HL := Lib.hid hL
  clear hL e1
  obtain ⟨k, hk⟩ : ∃ k, Ok a [k] := by
    obtain ⟨t, ht⟩ := ok_of_arrErr HL.out.1
    have hlt : t.length = 1 := by rw [← length_ints, ← ht.sh]; exact HL.out.2
    obtain ⟨k, rfl⟩ := List.length_eq_one_iff.1 hlt
    exact ⟨k, ht⟩
  have HOK := Lib.hid hk
  clear hk
  have HE := Lib.hid (show nubErr a = 0 by unfold nubErr; rw [if_neg (by rw [HL.out.1]; simp), if_neg (by rw [HL.out.2]; simp)])
  obtain ⟨b, hbn⟩ : ∃ b, b = nub a := ⟨_, rfl⟩
  have HC := Lib.hid (show Calls Tryz.prog 15 #[.agg #[.bool a.ch, .slice A n ca, .slice D m cd]] w3 (GivesOk b w3) by rw [hbn]; exact nub_gives (HA.out.mono hbw3) HW.out HE.out)
  have HLK := Lib.hid (show LineOf line_oncek [(⟨#[118]⟩, a)] b by rw [hbn]; exact line_oncek_is HOK.out HW.out)
  have HLV := Lib.hid (show LineOf line_oncev [(⟨#[118]⟩, a)] b by rw [hbn]; exact line_oncev_is HOK.out HW.out)
  have HWO := Lib.hid (wsOk_one (s := ⟨#[118]⟩) (nameOk_of (by decide +kernel)) HOK.out)
  clear hbn
  go_wp2_with fail
  refine HC.out.mono ?_
  rintro e w4 ⟨r, rfl, hr, hb4⟩
  obtain ⟨A4, c4, D4, d4, rfl, -, -⟩ := hr.open_
  have HB := Lib.hid (IsArr.mono hr (below_one w4 (.cells #[.bool b.ch, .slice A4 b.sh.length c4, .slice D4 b.da.length d4] 25)))
  have x4 := (x3.below hb4).alloc (.cells #[.bool b.ch, .slice A4 b.sh.length c4, .slice D4 b.da.length d4] 25)
  have x5 := Box.new w4 25 #[.bool b.ch, .slice A4 b.sh.length c4, .slice D4 b.da.length d4]
  have hbw4 := (hbw3.trans (hb4.mono hbw3.size)).alloc (by have := hbw3.size; have := hb4.size; omega) (.cells #[.bool b.ch, .slice A4 b.sh.length c4, .slice D4 b.da.length d4] 25)
  clear hb4 hr x3 hbw3 z0 z1 z2 zl
  obtain ⟨z0, z1, z2⟩ := x4.three
  have zl := x4.lt
  go_wp2_with fail
  refine bind_any.mono ?_
  rintro e w5 ⟨rfl, hb5⟩
  have y5 := x5.below hb5
  have HB5 := Lib.hid (HB.out.mono hb5)
  have hbw5 := hbw4.trans (hb5.mono hbw4.size)
  clear hb5 x4 x5 hbw4 z0 z1 z2 zl HB
  have y6 := y5.alloc (.cells #[.string ⟨#[118]⟩, .bool a.ch, .slice A n ca, .slice D m cd] 35)
  have hws := wsAt_one (Box.new w5 35 #[.string ⟨#[118]⟩, .bool a.ch, .slice A n ca, .slice D m cd]) (HA.out.mono (hbw5.alloc hbw5.size (.cells #[.string ⟨#[118]⟩, .bool a.ch, .slice A n ca, .slice D m cd] 35)))
  have HWS := Lib.hid hws
  have HB6 := Lib.hid (IsArr.mono HB5.out (below_one w5 (.cells #[.string ⟨#[118]⟩, .bool a.ch, .slice A n ca, .slice D m cd] 35)))
  have hbw6 := hbw5.alloc hbw5.size (.cells #[.string ⟨#[118]⟩, .bool a.ch, .slice A n ca, .slice D m cd] 35)
  obtain ⟨z0, z1, z2⟩ := y6.three
  have zl := y6.lt
  clear y5 hbw5 hws
  go_wp2_with fail
  refine (tells_true (HST.out.below hbw6) HWS.out HWO.out HLK.out HB6.out rfl).mono ?_
  rintro e w7 ⟨rfl, hb7⟩
  have y7 := y6.below hb7
  have HWS7 := Lib.hid (HWS.out.below hb7)
  have HB7 := Lib.hid (HB6.out.mono hb7)
  have hbw7 := hbw6.trans (hb7.mono hbw6.size)
  clear hb7 y6 hbw6 z0 z1 z2 zl
  obtain ⟨z0, z1, z2⟩ := y7.three
  have zl := y7.lt
  go_wp2_with fail
  refine (tells_true (HST.out.below hbw7) HWS7.out HWO.out HLV.out HB7.out rfl).mono ?_
  rintro e w8 ⟨rfl, hb8⟩
  have hbw8 := hbw7.trans (hb8.mono hbw7.size)
  clear hb8 y7 hbw7 z0 z1 z2 zl
  go_wp2_with fail
  go_ret
  exact ⟨rfl, hbw8⟩

end Go.Proofs.YtihndbkaoejnnaaGreatDoor
