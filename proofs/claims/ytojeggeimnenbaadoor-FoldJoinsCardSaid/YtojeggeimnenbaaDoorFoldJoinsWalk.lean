/- The walk of the law FoldJoins. Conditions: none. -/
import Derived.Test.YtojeggeimnenbaaDoorJoinFold
import Derived.Test.YtojeggeimnenbaaDoorJoinLaw
import Derived.Test.YtojeggeimnenbaaDoorSwingPlain
import Derived.Test.YtojeggeimnenbaaDoorAsErr
import Derived.Test.YtojeggeimnenbaaDoorGround
import Derived.Test.YtojeggeimnenbaaDoorAlike
set_option linter.unusedSimpArgs false
set_option linter.unusedVariables false
namespace Go.Proofs.YtojeggeimnenbaaDoor
open Go Go.RowKit Go.Proofs.YtojeggeimnenbaaDoor.P

set_option maxRecDepth 100000 in
set_option maxHeartbeats 4000000 in
theorem foldJoins_walk (f axis : Int) (va vb : Value) (a b : Arr) (w : World) (hg : Laid0 w) (ha : IsArr w va a) (hb : IsArr w vb b) (wa : Wf a.da) (wb : Wf b.da) :
    Calls Tryd.prog 8 #[.int .i64 f, .int .i64 axis, va, vb] w (Says w) := by
  obtain ⟨A, ca, D, da, rfl, -, -⟩ := ha.open_
  obtain ⟨A', cb, D', db, rfl, -, -⟩ := hb.open_
  have Wa := Lib.hid wa
  have Wb := Lib.hid wb
  clear wa wb
  go_enter Tryd.func8, Tryd.ntmps8
  go_wp2_with fail
  have x1 := (Box.new ((w.alloc (.cells #[.bool a.ch, .slice A a.sh.length ca, .slice D a.da.length da] 25)).alloc (.cells #[.bool b.ch, .slice A' b.sh.length cb, .slice D' b.da.length db] 25)) 3 #[.int .i64 2, .int .i64 3, .int .i64 4])
  simp only [World.size_alloc, World.size_setCell] at x1
  have i1 : IsInts (((w.alloc (.cells #[.bool a.ch, .slice A a.sh.length ca, .slice D a.da.length da] 25)).alloc (.cells #[.bool b.ch, .slice A' b.sh.length cb, .slice D' b.da.length db] 25)).alloc (.cells #[.int .i64 2, .int .i64 3, .int .i64 4] 3)) (.slice (some ⟨w.heap.size + 1 + 1, 0, none⟩) 3 3) [2, 3, 4] := x1.isInts (xs := [2, 3, 4]) (n := 3) rfl (by omega)
  clear x1
  refine (vec_any _ [2, 3, 4] _ i1).mono ?_
  rintro e w1 ⟨r1, rfl, hr1, hb1⟩
  have hbw1 := ((Below.refl w.heap.size w).trans ((below_three w _ _ _).mono (Below.refl w.heap.size w).size)).trans (hb1.mono ((Below.refl w.heap.size w).trans ((below_three w _ _ _).mono (Below.refl w.heap.size w).size)).size)
  have b_a1 := (((Box.new w 25 #[.bool a.ch, .slice A a.sh.length ca, .slice D a.da.length da]).alloc _).alloc _).below hb1
  have b_b1 := ((Box.new (w.alloc (.cells #[.bool a.ch, .slice A a.sh.length ca, .slice D a.da.length da] 25)) 25 #[.bool b.ch, .slice A' b.sh.length cb, .slice D' b.da.length db]).alloc _).below hb1
  simp only [World.size_alloc, World.size_setCell] at b_b1
  clear hb1 i1
  obtain ⟨c_a0, c_a1, c_a2⟩ := b_a1.three
  have l_a := b_a1.lt
  obtain ⟨c_b0, c_b1, c_b2⟩ := b_b1.three
  have l_b := b_b1.lt
  go_wp2_with fail
  refine ((show Calls _ _ _ _ (GivesOk (⟨false, [], [24]⟩ : Arr) _) from (reduce_vec hr1 (ok_vec (xs := [2, 3, 4]) (by simp)) ((Mono.tame (f := 3) (.inr (.inl rfl))).two 0 1) (by decide +kernel) rfl (by intro x hx; simp at hx; rcases hx with rfl | rfl | rfl <;> decide)).mono fun e w' h => by rw [show (ofR 3 [2, 3, 4]).1 = 24 by decide +kernel] at h; exact h)).mono ?_
  rintro e w2 ⟨r2, rfl, hr2, hb2⟩
  have hbw2 := hbw1.trans (hb2.mono hbw1.size)
  have b_a2 := b_a1.below hb2
  have b_b2 := b_b1.below hb2
  clear hb2 b_a1 b_b1 hbw1 c_a0 c_a1 c_a2 l_a c_b0 c_b1 c_b2 l_b hr1
  obtain ⟨c_a0, c_a1, c_a2⟩ := b_a2.three
  have l_a := b_a2.lt
  obtain ⟨c_b0, c_b1, c_b2⟩ := b_b2.three
  have l_b := b_b2.lt
  obtain ⟨A2, ca2, D2, cd2, rfl, hs2, hd2⟩ := hr2.open_
  obtain ⟨af, x0, rfl, hx0, haf, hcf⟩ := Elems.later (IsInts.elems hd2) (Below.refl _ _) (k := 0) (by simp)
  simp only [List.getElem?_cons_zero, Option.some.injEq] at hx0
  subst hx0
  have hcf' : w2.cell? af = some (.int .i64 24) := hcf
  clear hs2 hd2 hcf
  by_cases hJ : joinErr axis a b = 0
  case neg =>
    have HJ := Lib.hid hJ
    clear hJ
    go_wp2_with fail
    refine ((join_told (ha.mono (hbw2.trans ((below_one w2 _).mono hbw2.size))) (hb.mono (hbw2.trans ((below_one w2 _).mono hbw2.size)))).mono fun e w' h => h.bad HJ.out).mono ?_
    rintro e w3 ⟨rfl, hb3⟩
    have hbw3 := (hbw2.trans ((below_one w2 _).mono hbw2.size)).trans (hb3.mono (hbw2.trans ((below_one w2 _).mono hbw2.size)).size)
    have b_a3 := (b_a2.alloc _).below hb3
    have b_b3 := (b_b2.alloc _).below hb3
    clear hb3 b_a2 b_b2 hbw2 c_a0 c_a1 c_a2 l_a c_b0 c_b1 c_b2 l_b haf hcf' hr2
    obtain ⟨c_a0, c_a1, c_a2⟩ := b_a3.three
    have l_a := b_a3.lt
    obtain ⟨c_b0, c_b1, c_b2⟩ := b_b3.three
    have l_b := b_b3.lt
    go_wp2_with fail
    go_ret
    exact ⟨rfl, by have := hbw3.size; go_grown⟩
  obtain ⟨t, k, l, hoa, rfl, hk, hob, hcb, hgd⟩ := joinErr_zero hJ
  have HJ := Lib.hid hJ
  have HA := Lib.hid hoa
  have HB := Lib.hid hob
  have HK := Lib.hid hk
  have HCB := Lib.hid hcb
  have HGD := Lib.hid hgd
  have HG := Lib.hid (glue_ok hoa hob hk hcb hgd)
  have HK2 := Lib.hid (show k < (t.set k l).length by rw [List.length_set]; exact hk)
  have HK3 := Lib.hid (show k < (t.set k (t.getD k 0 + l)).length by rw [List.length_set]; exact hk)
  clear hJ hoa hob hk hcb hgd
  by_cases hc : a.ch = true
  case pos =>
    rw [hc] at ha b_a2 c_a0
    clear hc
    go_wp2_with fail
    refine ((show Calls _ _ _ _ (GivesOk (glue k a b) _) from (join_toldN (ha.mono (hbw2.trans ((below_one w2 _).mono hbw2.size))) (hb.mono (hbw2.trans ((below_one w2 _).mono hbw2.size)))).mono fun e w' h => h.ok HJ.out)).mono ?_
    rintro e w3 ⟨r3, rfl, hr3, hb3⟩
    have hbw3 := (hbw2.trans ((below_one w2 _).mono hbw2.size)).trans (hb3.mono (hbw2.trans ((below_one w2 _).mono hbw2.size)).size)
    have b_a3 := (b_a2.alloc _).below hb3
    have b_b3 := (b_b2.alloc _).below hb3
    clear hb3 b_a2 b_b2 hbw2 c_a0 c_a1 c_a2 l_a c_b0 c_b1 c_b2 l_b haf hcf' hr2
    obtain ⟨c_a0, c_a1, c_a2⟩ := b_a3.three
    have l_a := b_a3.lt
    obtain ⟨c_b0, c_b1, c_b2⟩ := b_b3.three
    have l_b := b_b3.lt
    obtain ⟨A3, ca3, D3, cd3, rfl, hs3, hd3⟩ := hr3.open_
    go_wp2_with fail
    go_ret
    exact ⟨rfl, by have := hbw3.size; go_grown⟩
  rw [Bool.not_eq_true] at hc
  rw [hc] at ha b_a2 c_a0
  have HC := Lib.hid hc
  clear hc
  go_wp2_with fail
  refine ((show Calls _ _ _ _ (GivesOk (glue k a b) _) from (join_toldN (ha.mono (hbw2.trans ((below_one w2 _).mono hbw2.size))) (hb.mono (hbw2.trans ((below_one w2 _).mono hbw2.size)))).mono fun e w' h => h.ok HJ.out)).mono ?_
  rintro e w3 ⟨r3, rfl, hr3, hb3⟩
  have hbw3 := (hbw2.trans ((below_one w2 _).mono hbw2.size)).trans (hb3.mono (hbw2.trans ((below_one w2 _).mono hbw2.size)).size)
  have b_a3 := (b_a2.alloc _).below hb3
  have b_b3 := (b_b2.alloc _).below hb3
  clear hb3 b_a2 b_b2 hbw2 c_a0 c_a1 c_a2 l_a c_b0 c_b1 c_b2 l_b haf hcf' hr2
  obtain ⟨c_a0, c_a1, c_a2⟩ := b_a3.three
  have l_a := b_a3.lt
  obtain ⟨c_b0, c_b1, c_b2⟩ := b_b3.three
  have l_b := b_b3.lt
  obtain ⟨A3, ca3, D3, cd3, rfl, hs3, hd3⟩ := hr3.open_
  by_cases hm : Mono f
  case neg =>
    have HM := Lib.hid hm
    clear hm
    go_wp2_with fail
    refine (monoid_any f _).mono ?_
    rintro e w4 ⟨rm, rfl, hrm, hb4⟩
    have erm : rm = false := by cases rm with | false => rfl | true => exact absurd (hrm.1 rfl) HM.out
    subst erm
    clear hrm
    have hbw4 := (hbw3.trans ((below_one w3 _).mono hbw3.size)).trans (hb4.mono (hbw3.trans ((below_one w3 _).mono hbw3.size)).size)
    have b_a4 := (b_a3.alloc _).below hb4
    have b_b4 := (b_b3.alloc _).below hb4
    have b_xx4 := (Box.new w3 25 #[.bool (glue k a b).ch, .slice A3 (glue k a b).sh.length ca3, .slice D3 (glue k a b).da.length cd3]).below hb4
    have a_x4 := (hr3.mono (below_one _ _)).mono hb4
    clear hb4 b_a3 b_b3 hr3 hbw3 c_a0 c_a1 c_a2 l_a c_b0 c_b1 c_b2 l_b
    obtain ⟨c_a0, c_a1, c_a2⟩ := b_a4.three
    have l_a := b_a4.lt
    obtain ⟨c_b0, c_b1, c_b2⟩ := b_b4.three
    have l_b := b_b4.lt
    obtain ⟨c_xx0, c_xx1, c_xx2⟩ := b_xx4.three
    have l_xx := b_xx4.lt
    go_wp2_with fail
    go_ret
    exact ⟨rfl, by have := hbw4.size; go_grown⟩
  have HM := Lib.hid hm
  clear hm
  go_wp2_with fail
  refine (monoid_any f _).mono ?_
  rintro e w4 ⟨rm, rfl, hrm, hb4⟩
  have erm : rm = true := hrm.2 HM.out
  subst erm
  clear hrm
  have hbw4 := (hbw3.trans ((below_one w3 _).mono hbw3.size)).trans (hb4.mono (hbw3.trans ((below_one w3 _).mono hbw3.size)).size)
  have b_a4 := (b_a3.alloc _).below hb4
  have b_b4 := (b_b3.alloc _).below hb4
  have b_xx4 := (Box.new w3 25 #[.bool (glue k a b).ch, .slice A3 (glue k a b).sh.length ca3, .slice D3 (glue k a b).da.length cd3]).below hb4
  have a_x4 := (hr3.mono (below_one _ _)).mono hb4
  clear hb4 b_a3 b_b3 hr3 hbw3 c_a0 c_a1 c_a2 l_a c_b0 c_b1 c_b2 l_b
  obtain ⟨c_a0, c_a1, c_a2⟩ := b_a4.three
  have l_a := b_a4.lt
  obtain ⟨c_b0, c_b1, c_b2⟩ := b_b4.three
  have l_b := b_b4.lt
  obtain ⟨c_xx0, c_xx1, c_xx2⟩ := b_xx4.three
  have l_xx := b_xx4.lt
  have HGW := Lib.hid (wf_glue (k := k) Wa.out Wb.out)
  have HCG := Lib.hid (show (glue k a b).ch = false from HC.out)
  by_cases he : redErr f (t.set k (t.getD k 0 + l)) k = 0
  case neg =>
    have HE := Lib.hid he
    clear he
    go_wp2_with fail
    refine (reduce_fail a_x4 HG.out HK3.out HM.out HCG.out HGW.out HE.out).mono ?_
    rintro e w5 ⟨rfl, hb5⟩
    have hbw5 := hbw4.trans (hb5.mono hbw4.size)
    have b_a5 := b_a4.below hb5
    have b_b5 := b_b4.below hb5
    have b_xx5 := b_xx4.below hb5
    have a_x5 := a_x4.mono hb5
    clear hb5 b_a4 b_b4 b_xx4 a_x4 hbw4 c_a0 c_a1 c_a2 l_a c_b0 c_b1 c_b2 l_b c_xx0 c_xx1 c_xx2 l_xx
    obtain ⟨c_a0, c_a1, c_a2⟩ := b_a5.three
    have l_a := b_a5.lt
    obtain ⟨c_b0, c_b1, c_b2⟩ := b_b5.three
    have l_b := b_b5.lt
    obtain ⟨c_xx0, c_xx1, c_xx2⟩ := b_xx5.three
    have l_xx := b_xx5.lt
    go_wp2_with fail
    refine (error_any 7 7 _ (hg.mono (hbw5.trans ((below_one w5 _).mono hbw5.size)))).mono ?_
    rintro e w6 ⟨rr, rfl, hrr, hb6⟩
    have err : rr = true := hrr.2 rfl
    subst err
    clear hrr
    have hbw6 := (hbw5.trans ((below_one w5 _).mono hbw5.size)).trans (hb6.mono (hbw5.trans ((below_one w5 _).mono hbw5.size)).size)
    have b_a6 := (b_a5.alloc _).below hb6
    have b_b6 := (b_b5.alloc _).below hb6
    have b_xx6 := (b_xx5.alloc _).below hb6
    have b_xy6 := (Box.new w5 25 #[.bool false, .slice none 0 0, .slice none 0 0]).below hb6
    have a_x6 := (a_x5.mono (below_one _ _)).mono hb6
    clear hb6 b_a5 b_b5 b_xx5 a_x5 hbw5 c_a0 c_a1 c_a2 l_a c_b0 c_b1 c_b2 l_b c_xx0 c_xx1 c_xx2 l_xx
    obtain ⟨c_a0, c_a1, c_a2⟩ := b_a6.three
    have l_a := b_a6.lt
    obtain ⟨c_b0, c_b1, c_b2⟩ := b_b6.three
    have l_b := b_b6.lt
    obtain ⟨c_xx0, c_xx1, c_xx2⟩ := b_xx6.three
    have l_xx := b_xx6.lt
    obtain ⟨c_xy0, c_xy1, c_xy2⟩ := b_xy6.three
    have l_xy := b_xy6.lt
    go_wp2_with fail
    go_ret
    exact ⟨rfl, by have := hbw6.size; go_grown⟩
  have HE := Lib.hid he
  have HS := Lib.hid (join_small HM.out HK.out HGD.out he)
  clear he
  have PL := Lib.hid (glue_fold HM.out HA.out HB.out HK.out HCB.out HGD.out Wa.out Wb.out HS.out)
  have HCB2 := Lib.hid (HCB.out.trans HC.out)
  have OP := Lib.hid (redOf_ok (f := f) HA.out HK.out HS.out)
  have OQ := Lib.hid (show Ok (redOf f b (t.set k l) k) (t.eraseIdx k) by have := redOf_ok (f := f) HB.out HK2.out (by rw [erase_set]; exact HS.out); rwa [erase_set] at this)
  have HE1 := Lib.hid (red_fine HM.out HK.out HS.out)
  have HE2 := Lib.hid (red_fine HM.out HK2.out (by rw [erase_set]; exact HS.out))
  have QW := Lib.hid (redOf_wf HM.out HK2.out Wb.out)
  go_wp2_with fail
  refine (reduce_mono a_x4 HG.out HK3.out HM.out HCG.out HGW.out HE.out).mono ?_
  rintro e w5 ⟨r5, rfl, hr5, hb5⟩
  have hbw5 := hbw4.trans (hb5.mono hbw4.size)
  have b_a5 := b_a4.below hb5
  have b_b5 := b_b4.below hb5
  have b_xx5 := b_xx4.below hb5
  have a_x5 := a_x4.mono hb5
  clear hb5 b_a4 b_b4 b_xx4 a_x4 hbw4 c_a0 c_a1 c_a2 l_a c_b0 c_b1 c_b2 l_b c_xx0 c_xx1 c_xx2 l_xx
  obtain ⟨c_a0, c_a1, c_a2⟩ := b_a5.three
  have l_a := b_a5.lt
  obtain ⟨c_b0, c_b1, c_b2⟩ := b_b5.three
  have l_b := b_b5.lt
  obtain ⟨c_xx0, c_xx1, c_xx2⟩ := b_xx5.three
  have l_xx := b_xx5.lt
  obtain ⟨A5, ca5, D5, cd5, rfl, hs5, hd5⟩ := hr5.open_
  go_wp2_with fail
  refine (reduce_mono (ha.mono (hbw5.trans ((below_one w5 _).mono hbw5.size))) HA.out HK.out HM.out HC.out Wa.out HE1.out).mono ?_
  rintro e w6 ⟨r6, rfl, hr6, hb6⟩
  have hbw6 := (hbw5.trans ((below_one w5 _).mono hbw5.size)).trans (hb6.mono (hbw5.trans ((below_one w5 _).mono hbw5.size)).size)
  have b_a6 := (b_a5.alloc _).below hb6
  have b_b6 := (b_b5.alloc _).below hb6
  have b_xx6 := (b_xx5.alloc _).below hb6
  have b_xy6 := (Box.new w5 25 #[.bool (redOf f (glue k a b) (t.set k (t.getD k 0 + l)) k).ch, .slice A5 (redOf f (glue k a b) (t.set k (t.getD k 0 + l)) k).sh.length ca5, .slice D5 (redOf f (glue k a b) (t.set k (t.getD k 0 + l)) k).da.length cd5]).below hb6
  have a_x6 := (a_x5.mono (below_one _ _)).mono hb6
  have a_y6 := (hr5.mono (below_one _ _)).mono hb6
  clear hb6 b_a5 b_b5 b_xx5 a_x5 hr5 hbw5 c_a0 c_a1 c_a2 l_a c_b0 c_b1 c_b2 l_b c_xx0 c_xx1 c_xx2 l_xx
  obtain ⟨c_a0, c_a1, c_a2⟩ := b_a6.three
  have l_a := b_a6.lt
  obtain ⟨c_b0, c_b1, c_b2⟩ := b_b6.three
  have l_b := b_b6.lt
  obtain ⟨c_xx0, c_xx1, c_xx2⟩ := b_xx6.three
  have l_xx := b_xx6.lt
  obtain ⟨c_xy0, c_xy1, c_xy2⟩ := b_xy6.three
  have l_xy := b_xy6.lt
  obtain ⟨A6, ca6, D6, cd6, rfl, hs6, hd6⟩ := hr6.open_
  go_wp2_with fail
  refine (reduce_mono (hb.mono (hbw6.trans ((below_one w6 _).mono hbw6.size))) HB.out HK2.out HM.out HCB2.out Wb.out HE2.out).mono ?_
  rintro e w7 ⟨r7, rfl, hr7, hb7⟩
  have hbw7 := (hbw6.trans ((below_one w6 _).mono hbw6.size)).trans (hb7.mono (hbw6.trans ((below_one w6 _).mono hbw6.size)).size)
  have b_a7 := (b_a6.alloc _).below hb7
  have b_b7 := (b_b6.alloc _).below hb7
  have b_xx7 := (b_xx6.alloc _).below hb7
  have b_xy7 := (b_xy6.alloc _).below hb7
  have b_xp7 := (Box.new w6 25 #[.bool (redOf f a t k).ch, .slice A6 (redOf f a t k).sh.length ca6, .slice D6 (redOf f a t k).da.length cd6]).below hb7
  have a_x7 := (a_x6.mono (below_one _ _)).mono hb7
  have a_y7 := (a_y6.mono (below_one _ _)).mono hb7
  have a_p7 := (hr6.mono (below_one _ _)).mono hb7
  clear hb7 b_a6 b_b6 b_xx6 b_xy6 a_x6 a_y6 hr6 hbw6 c_a0 c_a1 c_a2 l_a c_b0 c_b1 c_b2 l_b c_xx0 c_xx1 c_xx2 l_xx c_xy0 c_xy1 c_xy2 l_xy
  obtain ⟨c_a0, c_a1, c_a2⟩ := b_a7.three
  have l_a := b_a7.lt
  obtain ⟨c_b0, c_b1, c_b2⟩ := b_b7.three
  have l_b := b_b7.lt
  obtain ⟨c_xx0, c_xx1, c_xx2⟩ := b_xx7.three
  have l_xx := b_xx7.lt
  obtain ⟨c_xy0, c_xy1, c_xy2⟩ := b_xy7.three
  have l_xy := b_xy7.lt
  obtain ⟨c_xp0, c_xp1, c_xp2⟩ := b_xp7.three
  have l_xp := b_xp7.lt
  obtain ⟨A7, ca7, D7, cd7, rfl, hs7, hd7⟩ := hr7.open_
  go_wp2_with fail
  refine (each_zip (a_p7.mono (below_one _ _)) (hr7.mono (below_one _ _)) QW.out OP.out OQ.out PL.out.1).mono ?_
  rintro e w8 ⟨r8, rfl, hr8, hb8⟩
  have hbw8 := (hbw7.trans ((below_one w7 _).mono hbw7.size)).trans (hb8.mono (hbw7.trans ((below_one w7 _).mono hbw7.size)).size)
  have b_a8 := (b_a7.alloc _).below hb8
  have b_b8 := (b_b7.alloc _).below hb8
  have b_xx8 := (b_xx7.alloc _).below hb8
  have b_xy8 := (b_xy7.alloc _).below hb8
  have b_xp8 := (b_xp7.alloc _).below hb8
  have b_xq8 := (Box.new w7 25 #[.bool (redOf f b (t.set k l) k).ch, .slice A7 (redOf f b (t.set k l) k).sh.length ca7, .slice D7 (redOf f b (t.set k l) k).da.length cd7]).below hb8
  have a_x8 := (a_x7.mono (below_one _ _)).mono hb8
  have a_y8 := (a_y7.mono (below_one _ _)).mono hb8
  have a_p8 := (a_p7.mono (below_one _ _)).mono hb8
  have a_q8 := (hr7.mono (below_one _ _)).mono hb8
  clear hb8 b_a7 b_b7 b_xx7 b_xy7 b_xp7 a_x7 a_y7 a_p7 hr7 hbw7 c_a0 c_a1 c_a2 l_a c_b0 c_b1 c_b2 l_b c_xx0 c_xx1 c_xx2 l_xx c_xy0 c_xy1 c_xy2 l_xy c_xp0 c_xp1 c_xp2 l_xp
  obtain ⟨c_a0, c_a1, c_a2⟩ := b_a8.three
  have l_a := b_a8.lt
  obtain ⟨c_b0, c_b1, c_b2⟩ := b_b8.three
  have l_b := b_b8.lt
  obtain ⟨c_xx0, c_xx1, c_xx2⟩ := b_xx8.three
  have l_xx := b_xx8.lt
  obtain ⟨c_xy0, c_xy1, c_xy2⟩ := b_xy8.three
  have l_xy := b_xy8.lt
  obtain ⟨c_xp0, c_xp1, c_xp2⟩ := b_xp8.three
  have l_xp := b_xp8.lt
  obtain ⟨c_xq0, c_xq1, c_xq2⟩ := b_xq8.three
  have l_xq := b_xq8.lt
  obtain ⟨A8, ca8, D8, cd8, rfl, hs8, hd8⟩ := hr8.open_
  go_wp2_with fail
  refine (alike_nil _ _ _ _ _ (a_y8.mono (below_one _ _)) (hr8.mono (below_one _ _))).mono ?_
  rintro e w9 ⟨r9, rfl, hr9, hb9⟩
  have e9 : r9 = true := hr9.2 (PL.out.2)
  subst e9
  clear hr9
  have hbw9 := (hbw8.trans ((below_one w8 _).mono hbw8.size)).trans (hb9.mono (hbw8.trans ((below_one w8 _).mono hbw8.size)).size)
  have b_a9 := (b_a8.alloc _).below hb9
  have b_b9 := (b_b8.alloc _).below hb9
  have b_xx9 := (b_xx8.alloc _).below hb9
  have b_xy9 := (b_xy8.alloc _).below hb9
  have b_xp9 := (b_xp8.alloc _).below hb9
  have b_xq9 := (b_xq8.alloc _).below hb9
  have b_xz9 := (Box.new w8 25 #[.bool (zipA f (redOf f a t k) (redOf f b (t.set k l) k)).ch, .slice A8 (zipA f (redOf f a t k) (redOf f b (t.set k l) k)).sh.length ca8, .slice D8 (zipA f (redOf f a t k) (redOf f b (t.set k l) k)).da.length cd8]).below hb9
  have a_x9 := (a_x8.mono (below_one _ _)).mono hb9
  have a_y9 := (a_y8.mono (below_one _ _)).mono hb9
  have a_p9 := (a_p8.mono (below_one _ _)).mono hb9
  have a_q9 := (a_q8.mono (below_one _ _)).mono hb9
  have a_z9 := (hr8.mono (below_one _ _)).mono hb9
  clear hb9 b_a8 b_b8 b_xx8 b_xy8 b_xp8 b_xq8 a_x8 a_y8 a_p8 a_q8 hr8 hbw8 c_a0 c_a1 c_a2 l_a c_b0 c_b1 c_b2 l_b c_xx0 c_xx1 c_xx2 l_xx c_xy0 c_xy1 c_xy2 l_xy c_xp0 c_xp1 c_xp2 l_xp c_xq0 c_xq1 c_xq2 l_xq
  obtain ⟨c_a0, c_a1, c_a2⟩ := b_a9.three
  have l_a := b_a9.lt
  obtain ⟨c_b0, c_b1, c_b2⟩ := b_b9.three
  have l_b := b_b9.lt
  obtain ⟨c_xx0, c_xx1, c_xx2⟩ := b_xx9.three
  have l_xx := b_xx9.lt
  obtain ⟨c_xy0, c_xy1, c_xy2⟩ := b_xy9.three
  have l_xy := b_xy9.lt
  obtain ⟨c_xp0, c_xp1, c_xp2⟩ := b_xp9.three
  have l_xp := b_xp9.lt
  obtain ⟨c_xq0, c_xq1, c_xq2⟩ := b_xq9.three
  have l_xq := b_xq9.lt
  obtain ⟨c_xz0, c_xz1, c_xz2⟩ := b_xz9.three
  have l_xz := b_xz9.lt
  go_wp2_with fail
  go_ret
  exact ⟨rfl, by have := hbw9.size; go_grown⟩

end Go.Proofs.YtojeggeimnenbaaDoor
