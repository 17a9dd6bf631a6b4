/- What the card TopSorts leans on: TopSortsWalk. Conditions: none but those of its theorems. -/
import Derived.Test.YtihndbkaoejnnaaGreatDoorSortsAA
import Derived.Test.YtihndbkaoejnnaaGreatDoorSortsW
import Derived.Test.YtihndbkaoejnnaaGreatDoorSortsAH
import Derived.Test.YtihndbkaoejnnaaGreatDoorSortsAI
import Derived.Test.YtihndbkaoejnnaaGreatDoorSortsH
set_option linter.unusedSimpArgs false
set_option linter.unusedVariables false
namespace Go.Proofs.YtihndbkaoejnnaaGreatDoor
open Go Go.RowKit Go.Proofs.YtihndbkaoejnnaaGreatDoor.P

theorem up_line {a : Arr} {n : Nat} (h : Ok a [n]) : ActOne 0 26 0 a ⟨false, [(n : Int)], ints (gradeA a n)⟩ := by
  have e := act_up h
  rw [long_line h, rows_line h] at e
  exact e
theorem pick_line {a : Arr} {n : Nat} (h : Ok a [n]) : ActPick a ⟨false, [(n : Int)], ints (gradeA a n)⟩ (sortOf a) := by
  have e := act_pick (sorts_at h).1
  rw [(sorts_at h).2] at e
  exact e
theorem sort_312 : sortOf ⟨false, [3], [3, 1, 2]⟩ = ⟨false, [3], [1, 2, 3]⟩ := by
  have h : Ok ⟨false, [3], [3, 1, 2]⟩ [3] := ⟨rfl, ⟨by simp, by simp, by simp [prod]⟩, by simp [prod], fun e => by cases e⟩
  rw [sortOf_mix h, show gradeOf false (rowOf [3, 1, 2] (prod [])) 3 = [1, 2, 0] from ord_small (cOf_swo false _) (by decide) (by decide)]
  rfl
theorem line_sort3_is : LineOf line_sort3 [] ⟨false, [3], [1, 2, 3]⟩ :=
  have h : Ok ⟨false, [3], [3, 1, 2]⟩ [3] := ⟨rfl, ⟨by simp, by simp, by simp [prod]⟩, by simp [prod], fun e => by cases e⟩
  ⟨by decide, toks_sort3, nodes_sort3, 4, lexes_sort3, by decide, parsed_sort3, walked_sort3, val_sort3 (up_line h) (sort_312 ▸ pick_line h), by decide⟩
theorem line_sortv_is {a : Arr} {n : Nat} (h : Ok a [n]) : LineOf line_sortv [(⟨#[118]⟩, a)] (sortOf a) :=
  ⟨by decide, toks_sortv, nodes_sortv, 4, lexes_sortv, by decide, parsed_sortv, walked_sortv, val_sortv (bd_one _ a) (up_line h) (pick_line h), by decide⟩
theorem line_sortg_is {a : Arr} {n : Nat} (h : Ok a [n]) : LineOf line_sortg [(⟨#[118]⟩, a)] (firstNums n) := by
  have hn : n ≤ 4096 := h.good.2.1 n (by simp)
  have hp := gradeA_perm a n
  have hl := gradeA_length a n
  have hp' : (gradeA a n).Perm (List.range (gradeA a n).length) := by rw [hl]; exact hp
  have a3 := up_line (ok_idx hl hn)
  have e : gradeA ⟨false, [(n : Int)], ints (gradeA a n)⟩ n = invOf (gradeA a n) := by
    have h2 := gradeOf_perm hp'
    rw [hl] at h2
    exact h2
  rw [e] at a3
  have a0 := act_pick (back_all hp hn).1
  rw [(back_all hp hn).2] at a0
  exact ⟨by decide, toks_sortg, nodes_sortg, 6, lexes_sortg, by decide, parsed_sortg, walked_sortg, val_sortg (bd_one _ a) (up_line h) (up_line h) a3 a0, by decide⟩

set_option maxRecDepth 100000 in
set_option maxHeartbeats 8000000 in
theorem topSorts_walk (V : Value) (a : Arr) (W : World) (hst : Std W) (ha : IsArr W V a) (hw : Wf a.da) : Calls Tryz.prog 7 #[V] W (TrueB W) := by
  obtain ⟨A, ca, D, cd, rfl, -, -⟩ := ha.open_
  obtain ⟨n, hn⟩ : ∃ n, n = a.sh.length := ⟨_, rfl⟩
  obtain ⟨m, hm⟩ : ∃ m, m = a.da.length := ⟨_, rfl⟩
  rw [← hn, ← hm] at ha ⊢
  have HA := Lib.hid ha
  have HN := Lib.hid hn
  have HM := Lib.hid hm
  have HST := Lib.hid hst
  have HW := Lib.hid hw
  have hmx := mixedZ
  clear ha hn hm hst hw
  have hb0 := below_two W (.cells #[.bool a.ch, .slice A n ca, .slice D m cd] 25) (.cells #[.int .i64 1, .int .i64 2, .int .i64 3] 3)
  have hx := (Box.new W 25 #[.bool a.ch, .slice A n ca, .slice D m cd]).alloc (.cells #[.int .i64 1, .int .i64 2, .int .i64 3] 3)
  have hy := Box.new (W.alloc (.cells #[.bool a.ch, .slice A n ca, .slice D m cd] 25)) 3 #[.int .i64 1, .int .i64 2, .int .i64 3]
  have hi : IsInts _ (.slice (some ⟨W.heap.size + 1, 0, none⟩) 3 3) [1, 2, 3] := Box.isInts (xs := [1, 2, 3]) (by simpa using hy) rfl (by omega)
  have HI := Lib.hid hi
  clear hi hy
  go_enter Tryz.func7, Tryz.ntmps7
  go_wp2_with fail
  refine (vector_any false _ _ _ HI.out).mono ?_
  rintro e w1 ⟨r, rfl, hr, hb1⟩
  have HR := Lib.hid hr
  have hbw1 := hb0.trans (hb1.mono hb0.size)
  have x1 := hx.below hb1
  obtain ⟨A2, c2, D2, d2, rfl, -, -⟩ := hr.open_
  clear hb1 hr hx hb0
  go_wp2_with fail
  refine (tells_true (HST.out.below hbw1) (wsAt_nil _) wsOk_nil line_sort3_is HR.out rfl).mono ?_
  rintro e w2 ⟨rfl, hb2⟩
  have x2 := x1.below hb2
  have hbw2 := hbw1.trans (hb2.mono hbw1.size)
  obtain ⟨z0, z1, z2⟩ := x2.three
  have zl := x2.lt
  clear hb2 x1 hbw1
  go_wp2_with fail
  refine (list_is (HA.out.mono hbw2)).mono ?_
  rintro e w3 ⟨rfl, hb3⟩
  have x3 := x2.below hb3
  have hbw3 := hbw2.trans (hb3.mono hbw2.size)
  clear hb3 x2 hbw2 z0 z1 z2 zl
  obtain ⟨z0, z1, z2⟩ := x3.three
  have zl := x3.lt
  by_cases hL : arrErr a = 0 ∧ a.sh.length = 1
  case neg =>
    have e1 : decide (arrErr a = 0 ∧ a.sh.length = 1) = false := by simpa using hL
    rw [e1]
    clear hL e1
    go_wp2_with fail
    go_ret
    exact ⟨rfl, hbw3⟩
  have e1 : decide (arrErr a = 0 ∧ a.sh.length = 1) = true := by simpa using hL
  rw [e1]
  have HL := Lib.hid hL
  clear hL e1
  obtain ⟨k, hk⟩ : ∃ k, Ok a [k] := by
    obtain ⟨t, ht⟩ := ok_of_arrErr HL.out.1
    have hlt : t.length = 1 := by rw [← length_ints, ← ht.sh]; exact HL.out.2
    obtain ⟨k, rfl⟩ := List.length_eq_one_iff.1 hlt
    exact ⟨k, ht⟩
  have HOK := Lib.hid hk
  clear hk
  obtain ⟨b, hbn⟩ : ∃ b, b = sortOf a := ⟨_, rfl⟩
  obtain ⟨i, hin⟩ : ∃ i, i = firstNums k := ⟨_, rfl⟩
  have hmk : m = k := by rw [HM.out, HOK.out.len]; simp [prod]
  have hk4 : k ≤ 4096 := HOK.out.good.2.1 k (by simp)
  have HC := Lib.hid (fun (W' : World) (h : Below W.heap.size W W') => (show Calls Tryz.prog 18 #[.agg #[.bool a.ch, .slice A n ca, .slice D m cd]] W' (GivesOk b W') by rw [hbn]; exact sort_any (HA.out.mono h) HOK.out))
  have HCI := Lib.hid (fun (W' : World) => (show Calls Tryz.prog 19 #[.int .i64 m] W' (GivesOk i W') by rw [hin, hmk]; exact iota_ok k W' hk4))
  have HLV := Lib.hid (show LineOf line_sortv [(⟨#[118]⟩, a)] b by rw [hbn]; exact line_sortv_is HOK.out)
  have HLG := Lib.hid (show LineOf line_sortg [(⟨#[118]⟩, a)] i by rw [hin]; exact line_sortg_is HOK.out)
  have HWO := Lib.hid (wsOk_one (s := ⟨#[118]⟩) (nameOk_of (by decide +kernel)) HOK.out)
  clear hbn hin hmk hk4
  go_wp2_with fail
  refine bind_any.mono ?_
  rintro e w5 ⟨rfl, hb5⟩
  have y5 := x3.below hb5
  have hbw5 := hbw3.trans (hb5.mono hbw3.size)
  clear hb5 x3 hbw3 z0 z1 z2 zl
  have y6 := y5.alloc (.cells #[.string ⟨#[118]⟩, .bool a.ch, .slice A n ca, .slice D m cd] 35)
  have HWS := Lib.hid (wsAt_one (Box.new w5 35 #[.string ⟨#[118]⟩, .bool a.ch, .slice A n ca, .slice D m cd]) (HA.out.mono (hbw5.alloc hbw5.size (.cells #[.string ⟨#[118]⟩, .bool a.ch, .slice A n ca, .slice D m cd] 35))))
  have hbw6 := hbw5.alloc hbw5.size (.cells #[.string ⟨#[118]⟩, .bool a.ch, .slice A n ca, .slice D m cd] 35)
  obtain ⟨z0, z1, z2⟩ := y6.three
  have zl := y6.lt
  clear y5 hbw5
  go_wp2_with fail
  refine (HC.out _ hbw6).mono ?_
  rintro e w7 ⟨r, rfl, hr, hb7⟩
  obtain ⟨A4, c4, D4, d4, rfl, -, -⟩ := hr.open_
  have HB := Lib.hid (IsArr.mono hr (below_one w7 (.cells #[.bool b.ch, .slice A4 b.sh.length c4, .slice D4 b.da.length d4] 25)))
  have y7 := (y6.below hb7).alloc (.cells #[.bool b.ch, .slice A4 b.sh.length c4, .slice D4 b.da.length d4] 25)
  have HWS7 := Lib.hid ((HWS.out.below hb7).below (below_one w7 (.cells #[.bool b.ch, .slice A4 b.sh.length c4, .slice D4 b.da.length d4] 25)))
  have hbw7 := (hbw6.trans (hb7.mono hbw6.size)).alloc (by have := hbw6.size; have := hb7.size; omega) (.cells #[.bool b.ch, .slice A4 b.sh.length c4, .slice D4 b.da.length d4] 25)
  clear hb7 hr y6 hbw6 z0 z1 z2 zl
  obtain ⟨z0, z1, z2⟩ := y7.three
  have zl := y7.lt
  go_wp2_with fail
  refine (tells_true (HST.out.below hbw7) HWS7.out HWO.out HLV.out HB.out rfl).mono ?_
  rintro e w8 ⟨rfl, hb8⟩
  have y8 := y7.below hb8
  have HWS8 := Lib.hid (HWS7.out.below hb8)
  have hbw8 := hbw7.trans (hb8.mono hbw7.size)
  clear hb8 y7 hbw7 z0 z1 z2 zl HB
  obtain ⟨z0, z1, z2⟩ := y8.three
  have zl := y8.lt
  go_wp2_with fail
  refine (HCI.out _).mono ?_
  rintro e w9 ⟨r, rfl, hr, hb9⟩
  obtain ⟨A5, c5, D5, d5, rfl, -, -⟩ := hr.open_
  have HI2 := Lib.hid (IsArr.mono hr (below_one w9 (.cells #[.bool i.ch, .slice A5 i.sh.length c5, .slice D5 i.da.length d5] 25)))
  have HWS9 := Lib.hid ((HWS8.out.below hb9).below (below_one w9 (.cells #[.bool i.ch, .slice A5 i.sh.length c5, .slice D5 i.da.length d5] 25)))
  have hbw9 := (hbw8.trans (hb9.mono hbw8.size)).alloc (by have := hbw8.size; have := hb9.size; omega) (.cells #[.bool i.ch, .slice A5 i.sh.length c5, .slice D5 i.da.length d5] 25)
  clear hb9 hr y8 hbw8 z0 z1 z2 zl
  go_wp2_with fail
  refine (tells_true (HST.out.below hbw9) HWS9.out HWO.out HLG.out HI2.out rfl).mono ?_
  rintro e w10 ⟨rfl, hb10⟩
  have hbw10 := hbw9.trans (hb10.mono hbw9.size)
  clear hb10 hbw9
  go_wp2_with fail
  go_ret
  exact ⟨rfl, hbw10⟩

end Go.Proofs.YtihndbkaoejnnaaGreatDoor
