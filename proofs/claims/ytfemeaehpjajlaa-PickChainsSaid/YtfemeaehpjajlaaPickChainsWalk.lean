/- The walk of the law PickChains. Conditions: none. -/
import Derived.Test.YtfemeaehpjajlaaPickLaw
import Derived.Test.YtfemeaehpjajlaaRev
import Derived.Test.YtfemeaehpjajlaaAlike
import Derived.Test.YtfemeaehpjajlaaMake
namespace Go.Proofs.Ytfemeaehpjajlaa
open Go Go.RowKit Go.Proofs.Ytfemeaehpjajlaa.P

set_option maxRecDepth 100000 in
set_option maxHeartbeats 4000000 in
theorem pickChains_walk (va vb vm : Value) (a b : Arr) (more : List Arr) (w : World) (ha : IsArr w va a) (hb : IsArr w vb b) (hm : IsArrs w vm more) :
    Calls Try.prog 8 #[va, vb, vm] w (Says w) := by
  obtain ⟨A, ca, D, da, rfl, -, -⟩ := ha.open_
  obtain ⟨A', cb, D', db, rfl, -, -⟩ := hb.open_
  go_enter Try.func8, Try.ntmps8
  go_wp2_with fail
  have x1 := (Box.new ((w.alloc (.cells #[.bool a.ch, .slice A a.sh.length ca, .slice D a.da.length da] 24)).alloc (.cells #[.bool b.ch, .slice A' b.sh.length cb, .slice D' b.da.length db] 24)) 3 #[.int .i64 4, .int .i64 5, .int .i64 6])
  simp only [World.size_alloc, World.size_setCell] at x1
  have i1 : IsInts (((w.alloc (.cells #[.bool a.ch, .slice A a.sh.length ca, .slice D a.da.length da] 24)).alloc (.cells #[.bool b.ch, .slice A' b.sh.length cb, .slice D' b.da.length db] 24)).alloc (.cells #[.int .i64 4, .int .i64 5, .int .i64 6] 3)) (.slice (some ⟨w.heap.size + 1 + 1, 0, none⟩) 3 3) [4, 5, 6] := x1.isInts (xs := [4, 5, 6]) (n := 3) rfl (by omega)
  clear x1
  refine (vec_any _ [4, 5, 6] _ i1).mono ?_
  rintro e w1 ⟨r1, rfl, hr1, hb1⟩
  have hbw1 := ((Below.refl w.heap.size w).trans ((below_three w _ _ _).mono (Below.refl w.heap.size w).size)).trans (hb1.mono ((Below.refl w.heap.size w).trans ((below_three w _ _ _).mono (Below.refl w.heap.size w).size)).size)
  have b_a1 := (((Box.new w 24 #[.bool a.ch, .slice A a.sh.length ca, .slice D a.da.length da]).alloc _).alloc _).below hb1
  have b_b1 := ((Box.new (w.alloc (.cells #[.bool a.ch, .slice A a.sh.length ca, .slice D a.da.length da] 24)) 24 #[.bool b.ch, .slice A' b.sh.length cb, .slice D' b.da.length db]).alloc _).below hb1
  simp only [World.size_alloc, World.size_setCell] at b_b1
  clear hb1 i1
  obtain ⟨c_a0, c_a1, c_a2⟩ := b_a1.three
  have l_a := b_a1.lt
  obtain ⟨c_b0, c_b1, c_b2⟩ := b_b1.three
  have l_b := b_b1.lt
  go_wp2_with fail
  have x1 := (Box.new w1 3 #[.int .i64 2, .int .i64 0])
  have i1 : IsInts (w1.alloc (.cells #[.int .i64 2, .int .i64 0] 3)) (.slice (some ⟨w1.heap.size, 0, none⟩) 2 2) [2, 0] := x1.isInts (xs := [2, 0]) (n := 2) rfl (by omega)
  clear x1
  refine (vec_any _ [2, 0] _ i1).mono ?_
  rintro e w2 ⟨r2, rfl, hr2, hb2⟩
  have hbw2 := (hbw1.trans ((below_one w1 _).mono hbw1.size)).trans (hb2.mono (hbw1.trans ((below_one w1 _).mono hbw1.size)).size)
  have b_a2 := (b_a1.alloc _).below hb2
  have b_b2 := (b_b1.alloc _).below hb2
  have a_v12 := (hr1.mono (below_one _ _)).mono hb2
  clear hb2 b_a1 b_b1 hr1 hbw1 c_a0 c_a1 c_a2 l_a c_b0 c_b1 c_b2 l_b i1
  obtain ⟨c_a0, c_a1, c_a2⟩ := b_a2.three
  have l_a := b_a2.lt
  obtain ⟨c_b0, c_b1, c_b2⟩ := b_b2.three
  have l_b := b_b2.lt
  obtain ⟨V2, hV2, hv2⟩ : ∃ V : Arr, V = ⟨false, [2], [2, 0]⟩ ∧ IsArr w2 r2 V := ⟨_, rfl, hr2⟩
  clear hr2
  obtain ⟨Av, cav, Dv, cdv, rfl, -, -⟩ := hv2.open_
  have HV2 := Lib.hid hV2
  clear hV2
  have Lv := Box.new w2 24 #[.bool (V2).ch, .slice Av (V2).sh.length cav, .slice Dv (V2).da.length cdv]
  go_wp2_with fail
  refine ((show Calls _ _ _ _ (GivesOk (atOf ⟨false, [(([4, 5, 6] : List Int).length : Int)], [4, 5, 6]⟩ [⟨false, [2], [2, 0]⟩]) _) from (at_ok (a_v12.mono (below_one _ _)) (arrs_one Lv (hv2.mono (below_one _ _))) (by rw [HV2.out]; decide +kernel)).mono fun e w' h => by rw [show atOf ⟨false, [(([4, 5, 6] : List Int).length : Int)], [4, 5, 6]⟩ [V2] = (atOf ⟨false, [(([4, 5, 6] : List Int).length : Int)], [4, 5, 6]⟩ [⟨false, [2], [2, 0]⟩]) by rw [HV2.out]] at h; exact h)).mono ?_
  rintro e w3 ⟨r3, rfl, hr3, hb3⟩
  have hbw3 := (hbw2.trans ((below_one w2 _).mono hbw2.size)).trans (hb3.mono (hbw2.trans ((below_one w2 _).mono hbw2.size)).size)
  have b_a3 := (b_a2.alloc _).below hb3
  have b_b3 := (b_b2.alloc _).below hb3
  clear hb3 b_a2 b_b2 hbw2 c_a0 c_a1 c_a2 l_a c_b0 c_b1 c_b2 l_b Lv a_v12 hv2
  obtain ⟨c_a0, c_a1, c_a2⟩ := b_a3.three
  have l_a := b_a3.lt
  obtain ⟨c_b0, c_b1, c_b2⟩ := b_b3.three
  have l_b := b_b3.lt
  obtain ⟨A3, ca3, D3, cd3, rfl, hs3, hd3⟩ := hr3.open_
  go_wp2_with fail
  have bq := Box.new (w3.alloc (.cells #[.bool ((atOf ⟨false, [(([4, 5, 6] : List Int).length : Int)], [4, 5, 6]⟩ [⟨false, [2], [2, 0]⟩])).ch, .slice A3 ((atOf ⟨false, [(([4, 5, 6] : List Int).length : Int)], [4, 5, 6]⟩ [⟨false, [2], [2, 0]⟩])).sh.length ca3, .slice D3 ((atOf ⟨false, [(([4, 5, 6] : List Int).length : Int)], [4, 5, 6]⟩ [⟨false, [2], [2, 0]⟩])).da.length cd3] 24)) 3 #[.int .i64 6, .int .i64 4]
  rw [World.size_alloc] at bq
  refine (ints_any _ _ _ [6, 4] _ (hd3.mono (below_two _ _ _)) (bq.isInts rfl (by simp))).mono ?_
  rintro e w4 ⟨r4, rfl, hr4, hb4⟩
  have e4 : r4 = true := hr4.2 (by first | decide | decide +kernel)
  subst e4
  clear hr4 hs3 hd3
  clear hr3
  have hbw4 := (hbw3.trans ((below_two w3 _ _).mono hbw3.size)).trans (hb4.mono (hbw3.trans ((below_two w3 _ _).mono hbw3.size)).size)
  have b_a4 := ((b_a3.alloc _).alloc _).below hb4
  have b_b4 := ((b_b3.alloc _).alloc _).below hb4
  clear hb4 b_a3 b_b3 hbw3 c_a0 c_a1 c_a2 l_a c_b0 c_b1 c_b2 l_b bq
  obtain ⟨c_a0, c_a1, c_a2⟩ := b_a4.three
  have l_a := b_a4.lt
  obtain ⟨c_b0, c_b1, c_b2⟩ := b_b4.three
  have l_b := b_b4.lt
  by_cases hE1 : atErr a [b] = 0
  case neg =>
    have HE1 := Lib.hid hE1
    clear hE1
    have Lb := Box.new w4 24 #[.bool (b).ch, .slice A' (b).sh.length cb, .slice D' (b).da.length db]
    go_wp2_with fail
    refine ((at_bad (ha.mono (hbw4.trans ((below_one w4 _).mono hbw4.size))) (arrs_one Lb (hb.mono (hbw4.trans ((below_one w4 _).mono hbw4.size)))) HE1.out)).mono ?_
    rintro e w5 ⟨rfl, hb5⟩
    have hbw5 := (hbw4.trans ((below_one w4 _).mono hbw4.size)).trans (hb5.mono (hbw4.trans ((below_one w4 _).mono hbw4.size)).size)
    have b_a5 := (b_a4.alloc _).below hb5
    have b_b5 := (b_b4.alloc _).below hb5
    clear hb5 b_a4 b_b4 hbw4 c_a0 c_a1 c_a2 l_a c_b0 c_b1 c_b2 l_b Lb
    obtain ⟨c_a0, c_a1, c_a2⟩ := b_a5.three
    have l_a := b_a5.lt
    obtain ⟨c_b0, c_b1, c_b2⟩ := b_b5.three
    have l_b := b_b5.lt
    go_wp2_with fail
    refine ((at_bad (isArr_zero _) (hm.mono (hbw5.trans ((below_one w5 _).mono hbw5.size))) (at_zero _))).mono ?_
    rintro e w6 ⟨rfl, hb6⟩
    have hbw6 := (hbw5.trans ((below_one w5 _).mono hbw5.size)).trans (hb6.mono (hbw5.trans ((below_one w5 _).mono hbw5.size)).size)
    have b_a6 := (b_a5.alloc _).below hb6
    have b_b6 := (b_b5.alloc _).below hb6
    have b_xx6 := (Box.new w5 24 #[.bool false, .slice none 0 0, .slice none 0 0]).below hb6
    clear hb6 b_a5 b_b5 hbw5 c_a0 c_a1 c_a2 l_a c_b0 c_b1 c_b2 l_b
    obtain ⟨c_a0, c_a1, c_a2⟩ := b_a6.three
    have l_a := b_a6.lt
    obtain ⟨c_b0, c_b1, c_b2⟩ := b_b6.three
    have l_b := b_b6.lt
    obtain ⟨c_xx0, c_xx1, c_xx2⟩ := b_xx6.three
    have l_xx := b_xx6.lt
    go_wp2_with fail
    go_ret
    exact ⟨rfl, by have := hbw6.size; go_grown⟩
  have HE1 := Lib.hid hE1
  clear hE1
  have Lb := Box.new w4 24 #[.bool (b).ch, .slice A' (b).sh.length cb, .slice D' (b).da.length db]
  go_wp2_with fail
  refine ((show Calls _ _ _ _ (GivesOk (atOf a [b]) _) from (at_ok (ha.mono (hbw4.trans ((below_one w4 _).mono hbw4.size))) (arrs_one Lb (hb.mono (hbw4.trans ((below_one w4 _).mono hbw4.size)))) HE1.out))).mono ?_
  rintro e w5 ⟨r5, rfl, hr5, hb5⟩
  have hbw5 := (hbw4.trans ((below_one w4 _).mono hbw4.size)).trans (hb5.mono (hbw4.trans ((below_one w4 _).mono hbw4.size)).size)
  have b_a5 := (b_a4.alloc _).below hb5
  have b_b5 := (b_b4.alloc _).below hb5
  clear hb5 b_a4 b_b4 hbw4 c_a0 c_a1 c_a2 l_a c_b0 c_b1 c_b2 l_b Lb
  obtain ⟨c_a0, c_a1, c_a2⟩ := b_a5.three
  have l_a := b_a5.lt
  obtain ⟨c_b0, c_b1, c_b2⟩ := b_b5.three
  have l_b := b_b5.lt
  obtain ⟨A5, ca5, D5, cd5, rfl, hs5, hd5⟩ := hr5.open_
  by_cases hE2 : atErr (atOf a [b]) more = 0
  case neg =>
    have HE2 := Lib.hid hE2
    clear hE2
    go_wp2_with fail
    refine ((at_bad (hr5.mono (below_one _ _)) (hm.mono (hbw5.trans ((below_one w5 _).mono hbw5.size))) HE2.out)).mono ?_
    rintro e w6 ⟨rfl, hb6⟩
    have hbw6 := (hbw5.trans ((below_one w5 _).mono hbw5.size)).trans (hb6.mono (hbw5.trans ((below_one w5 _).mono hbw5.size)).size)
    have b_a6 := (b_a5.alloc _).below hb6
    have b_b6 := (b_b5.alloc _).below hb6
    have b_xx6 := (Box.new w5 24 #[.bool (atOf a [b]).ch, .slice A5 (atOf a [b]).sh.length ca5, .slice D5 (atOf a [b]).da.length cd5]).below hb6
    have a_x6 := (hr5.mono (below_one _ _)).mono hb6
    clear hb6 b_a5 b_b5 hr5 hbw5 c_a0 c_a1 c_a2 l_a c_b0 c_b1 c_b2 l_b
    obtain ⟨c_a0, c_a1, c_a2⟩ := b_a6.three
    have l_a := b_a6.lt
    obtain ⟨c_b0, c_b1, c_b2⟩ := b_b6.three
    have l_b := b_b6.lt
    obtain ⟨c_xx0, c_xx1, c_xx2⟩ := b_xx6.three
    have l_xx := b_xx6.lt
    go_wp2_with fail
    go_ret
    exact ⟨rfl, by have := hbw6.size; go_grown⟩
  have PL := Lib.hid (chains HE1.out hE2)
  have HE2 := Lib.hid hE2
  clear hE2
  go_wp2_with fail
  refine ((show Calls _ _ _ _ (GivesOk (atOf (atOf a [b]) more) _) from (at_ok (hr5.mono (below_one _ _)) (hm.mono (hbw5.trans ((below_one w5 _).mono hbw5.size))) HE2.out))).mono ?_
  rintro e w6 ⟨r6, rfl, hr6, hb6⟩
  have hbw6 := (hbw5.trans ((below_one w5 _).mono hbw5.size)).trans (hb6.mono (hbw5.trans ((below_one w5 _).mono hbw5.size)).size)
  have b_a6 := (b_a5.alloc _).below hb6
  have b_b6 := (b_b5.alloc _).below hb6
  have b_xx6 := (Box.new w5 24 #[.bool (atOf a [b]).ch, .slice A5 (atOf a [b]).sh.length ca5, .slice D5 (atOf a [b]).da.length cd5]).below hb6
  have a_x6 := (hr5.mono (below_one _ _)).mono hb6
  clear hb6 b_a5 b_b5 hr5 hbw5 c_a0 c_a1 c_a2 l_a c_b0 c_b1 c_b2 l_b
  obtain ⟨c_a0, c_a1, c_a2⟩ := b_a6.three
  have l_a := b_a6.lt
  obtain ⟨c_b0, c_b1, c_b2⟩ := b_b6.three
  have l_b := b_b6.lt
  obtain ⟨c_xx0, c_xx1, c_xx2⟩ := b_xx6.three
  have l_xx := b_xx6.lt
  obtain ⟨A6, ca6, D6, cd6, rfl, hs6, hd6⟩ := hr6.open_
  go_wp2_with fail
  refine ((show Calls _ _ _ _ (GivesOk (atOf b more) _) from (at_ok (hb.mono (hbw6.trans ((below_one w6 _).mono hbw6.size))) (hm.mono (hbw6.trans ((below_one w6 _).mono hbw6.size))) PL.out.1))).mono ?_
  rintro e w7 ⟨r7, rfl, hr7, hb7⟩
  have hbw7 := (hbw6.trans ((below_one w6 _).mono hbw6.size)).trans (hb7.mono (hbw6.trans ((below_one w6 _).mono hbw6.size)).size)
  have b_a7 := (b_a6.alloc _).below hb7
  have b_b7 := (b_b6.alloc _).below hb7
  have b_xx7 := (b_xx6.alloc _).below hb7
  have b_xy7 := (Box.new w6 24 #[.bool (atOf (atOf a [b]) more).ch, .slice A6 (atOf (atOf a [b]) more).sh.length ca6, .slice D6 (atOf (atOf a [b]) more).da.length cd6]).below hb7
  have a_x7 := (a_x6.mono (below_one _ _)).mono hb7
  have a_y7 := (hr6.mono (below_one _ _)).mono hb7
  clear hb7 b_a6 b_b6 b_xx6 a_x6 hr6 hbw6 c_a0 c_a1 c_a2 l_a c_b0 c_b1 c_b2 l_b c_xx0 c_xx1 c_xx2 l_xx
  obtain ⟨c_a0, c_a1, c_a2⟩ := b_a7.three
  have l_a := b_a7.lt
  obtain ⟨c_b0, c_b1, c_b2⟩ := b_b7.three
  have l_b := b_b7.lt
  obtain ⟨c_xx0, c_xx1, c_xx2⟩ := b_xx7.three
  have l_xx := b_xx7.lt
  obtain ⟨c_xy0, c_xy1, c_xy2⟩ := b_xy7.three
  have l_xy := b_xy7.lt
  obtain ⟨A7, ca7, D7, cd7, rfl, hs7, hd7⟩ := hr7.open_
  have Lu := Box.new (w7.alloc (.cells #[.bool (atOf b more).ch, .slice A7 (atOf b more).sh.length ca7, .slice D7 (atOf b more).da.length cd7] 24)) 24 #[.bool (atOf b more).ch, .slice A7 (atOf b more).sh.length ca7, .slice D7 (atOf b more).da.length cd7]
  simp only [World.size_alloc, World.size_setCell] at Lu
  go_wp2_with fail
  refine ((show Calls _ _ _ _ (GivesOk (atOf a [atOf b more]) _) from (at_ok (ha.mono (hbw7.trans ((below_two w7 _ _).mono hbw7.size))) (arrs_one Lu (hr7.mono (below_two _ _ _))) PL.out.2.1))).mono ?_
  rintro e w8 ⟨r8, rfl, hr8, hb8⟩
  have hbw8 := (hbw7.trans ((below_two w7 _ _).mono hbw7.size)).trans (hb8.mono (hbw7.trans ((below_two w7 _ _).mono hbw7.size)).size)
  have b_a8 := ((b_a7.alloc _).alloc _).below hb8
  have b_b8 := ((b_b7.alloc _).alloc _).below hb8
  have b_xx8 := ((b_xx7.alloc _).alloc _).below hb8
  have b_xy8 := ((b_xy7.alloc _).alloc _).below hb8
  have b_xu8 := ((Box.new w7 24 #[.bool (atOf b more).ch, .slice A7 (atOf b more).sh.length ca7, .slice D7 (atOf b more).da.length cd7]).alloc _).below hb8
  have a_x8 := (a_x7.mono (below_two _ _ _)).mono hb8
  have a_y8 := (a_y7.mono (below_two _ _ _)).mono hb8
  have a_u8 := (hr7.mono (below_two _ _ _)).mono hb8
  clear hb8 b_a7 b_b7 b_xx7 b_xy7 a_x7 a_y7 hr7 hbw7 c_a0 c_a1 c_a2 l_a c_b0 c_b1 c_b2 l_b c_xx0 c_xx1 c_xx2 l_xx c_xy0 c_xy1 c_xy2 l_xy Lu
  obtain ⟨c_a0, c_a1, c_a2⟩ := b_a8.three
  have l_a := b_a8.lt
  obtain ⟨c_b0, c_b1, c_b2⟩ := b_b8.three
  have l_b := b_b8.lt
  obtain ⟨c_xx0, c_xx1, c_xx2⟩ := b_xx8.three
  have l_xx := b_xx8.lt
  obtain ⟨c_xy0, c_xy1, c_xy2⟩ := b_xy8.three
  have l_xy := b_xy8.lt
  obtain ⟨c_xu0, c_xu1, c_xu2⟩ := b_xu8.three
  have l_xu := b_xu8.lt
  obtain ⟨A8, ca8, D8, cd8, rfl, hs8, hd8⟩ := hr8.open_
  go_wp2_with fail
  refine (alike_nil _ _ _ _ _ (a_y8.mono (below_one _ _)) (hr8.mono (below_one _ _))).mono ?_
  rintro e w9 ⟨r9, rfl, hr9, hb9⟩
  have e9 : r9 = true := hr9.2 (PL.out.2.2)
  subst e9
  clear hr9
  have hbw9 := (hbw8.trans ((below_one w8 _).mono hbw8.size)).trans (hb9.mono (hbw8.trans ((below_one w8 _).mono hbw8.size)).size)
  have b_a9 := (b_a8.alloc _).below hb9
  have b_b9 := (b_b8.alloc _).below hb9
  have b_xx9 := (b_xx8.alloc _).below hb9
  have b_xy9 := (b_xy8.alloc _).below hb9
  have b_xu9 := (b_xu8.alloc _).below hb9
  have b_xv9 := (Box.new w8 24 #[.bool (atOf a [atOf b more]).ch, .slice A8 (atOf a [atOf b more]).sh.length ca8, .slice D8 (atOf a [atOf b more]).da.length cd8]).below hb9
  have a_x9 := (a_x8.mono (below_one _ _)).mono hb9
  have a_y9 := (a_y8.mono (below_one _ _)).mono hb9
  have a_u9 := (a_u8.mono (below_one _ _)).mono hb9
  have a_v9 := (hr8.mono (below_one _ _)).mono hb9
  clear hb9 b_a8 b_b8 b_xx8 b_xy8 b_xu8 a_x8 a_y8 a_u8 hr8 hbw8 c_a0 c_a1 c_a2 l_a c_b0 c_b1 c_b2 l_b c_xx0 c_xx1 c_xx2 l_xx c_xy0 c_xy1 c_xy2 l_xy c_xu0 c_xu1 c_xu2 l_xu
  obtain ⟨c_a0, c_a1, c_a2⟩ := b_a9.three
  have l_a := b_a9.lt
  obtain ⟨c_b0, c_b1, c_b2⟩ := b_b9.three
  have l_b := b_b9.lt
  obtain ⟨c_xx0, c_xx1, c_xx2⟩ := b_xx9.three
  have l_xx := b_xx9.lt
  obtain ⟨c_xy0, c_xy1, c_xy2⟩ := b_xy9.three
  have l_xy := b_xy9.lt
  obtain ⟨c_xu0, c_xu1, c_xu2⟩ := b_xu9.three
  have l_xu := b_xu9.lt
  obtain ⟨c_xv0, c_xv1, c_xv2⟩ := b_xv9.three
  have l_xv := b_xv9.lt
  go_wp2_with fail
  go_ret
  exact ⟨rfl, by have := hbw9.size; go_grown⟩

end Go.Proofs.Ytfemeaehpjajlaa
