/- The walk of the law SeekMasks. Conditions: none. -/
import Derived.Test.YtfemeaehpjajlaaMaskPlain
import Derived.Test.YtfemeaehpjajlaaStore
import Derived.Test.YtfemeaehpjajlaaMore
import Derived.Test.YtfemeaehpjajlaaAlike
import Derived.Test.YtfemeaehpjajlaaMake
namespace Go.Proofs.Ytfemeaehpjajlaa
open Go Go.RowKit Go.Proofs.Ytfemeaehpjajlaa.P

set_option maxRecDepth 100000 in
set_option maxHeartbeats 4000000 in
theorem seekMasks_walk (va vb : Value) (a b : Arr) (w : World) (ha : IsArr w va a) (hb : IsArr w vb b) (wa : Wf a.da) (wb : Wf b.da) :
    Calls Try.prog 20 #[va, vb] w (Says w) := by
  obtain ⟨A, ca, D, da, rfl, -, -⟩ := ha.open_
  obtain ⟨A', cb, D', db, rfl, -, -⟩ := hb.open_
  have Wa := Lib.hid wa
  have Wb := Lib.hid wb
  clear wa wb
  go_enter Try.func20, Try.ntmps20
  go_wp2_with fail
  have x1 := (Box.new ((w.alloc (.cells #[.bool a.ch, .slice A a.sh.length ca, .slice D a.da.length da] 24)).alloc (.cells #[.bool b.ch, .slice A' b.sh.length cb, .slice D' b.da.length db] 24)) 3 #[.int .i64 5, .int .i64 6])
  simp only [World.size_alloc, World.size_setCell] at x1
  have i1 : IsInts (((w.alloc (.cells #[.bool a.ch, .slice A a.sh.length ca, .slice D a.da.length da] 24)).alloc (.cells #[.bool b.ch, .slice A' b.sh.length cb, .slice D' b.da.length db] 24)).alloc (.cells #[.int .i64 5, .int .i64 6] 3)) (.slice (some ⟨w.heap.size + 1 + 1, 0, none⟩) 2 2) [5, 6] := x1.isInts (xs := [5, 6]) (n := 2) rfl (by omega)
  clear x1
  refine (vec_any _ [5, 6] _ i1).mono ?_
  rintro e w1 ⟨r1, rfl, hr1, hb1⟩
  have hbw1 := ((Below.refl w.heap.size w).trans ((below_three w _ _ _).mono (Below.refl w.heap.size w).size)).trans (hb1.mono ((Below.refl w.heap.size w).trans ((below_three w _ _ _).mono (Below.refl w.heap.size w).size)).size)
  have b_a1 := (((Box.new w 24 #[.bool a.ch, .slice A a.sh.length ca, .slice D a.da.length da]).alloc _).alloc _).below hb1
  have b_b1 := ((Box.new (w.alloc (.cells #[.bool a.ch, .slice A a.sh.length ca, .slice D a.da.length da] 24)) 24 #[.bool b.ch, .slice A' b.sh.length cb, .slice D' b.da.length db]).alloc _).below hb1
  simp only [World.size_alloc, World.size_setCell] at b_b1
  clear hb1 i1
  obtain ⟨c_a0, c_a1, c_a2⟩ := b_a1.three
  have l_a := b_a1.lt
  obtain ⟨c_b0, c_b1, c_b2⟩ := b_b1.three
  have l_b := b_b1.lt
  go_wp2_with fail
  have x1 := (Box.new w1 3 #[.int .i64 6, .int .i64 7])
  have i1 : IsInts (w1.alloc (.cells #[.int .i64 6, .int .i64 7] 3)) (.slice (some ⟨w1.heap.size, 0, none⟩) 2 2) [6, 7] := x1.isInts (xs := [6, 7]) (n := 2) rfl (by omega)
  clear x1
  refine (vec_any _ [6, 7] _ i1).mono ?_
  rintro e w2 ⟨r2, rfl, hr2, hb2⟩
  have hbw2 := (hbw1.trans ((below_one w1 _).mono hbw1.size)).trans (hb2.mono (hbw1.trans ((below_one w1 _).mono hbw1.size)).size)
  have b_a2 := (b_a1.alloc _).below hb2
  have b_b2 := (b_b1.alloc _).below hb2
  have a_v12 := (hr1.mono (below_one _ _)).mono hb2
  clear hb2 b_a1 b_b1 hr1 hbw1 c_a0 c_a1 c_a2 l_a c_b0 c_b1 c_b2 l_b i1
  obtain ⟨c_a0, c_a1, c_a2⟩ := b_a2.three
  have l_a := b_a2.lt
  obtain ⟨c_b0, c_b1, c_b2⟩ := b_b2.three
  have l_b := b_b2.lt
  go_wp2_with fail
  refine ((show Calls _ _ _ _ (GivesOk (isin ⟨false, [2], [5, 6]⟩ ⟨false, [2], [6, 7]⟩) _) from (in_told a_v12 hr2 (wf_pair (by decide) (by decide)) (wf_pair (by decide) (by decide))).mono fun e w' h => h.ok (by decide +kernel))).mono ?_
  rintro e w3 ⟨r3, rfl, hr3, hb3⟩
  have hbw3 := hbw2.trans (hb3.mono hbw2.size)
  have b_a3 := b_a2.below hb3
  have b_b3 := b_b2.below hb3
  clear hb3 b_a2 b_b2 hbw2 c_a0 c_a1 c_a2 l_a c_b0 c_b1 c_b2 l_b a_v12 hr2
  obtain ⟨c_a0, c_a1, c_a2⟩ := b_a3.three
  have l_a := b_a3.lt
  obtain ⟨c_b0, c_b1, c_b2⟩ := b_b3.three
  have l_b := b_b3.lt
  obtain ⟨A3, ca3, D3, cd3, rfl, hs3, hd3⟩ := hr3.open_
  go_wp2_with fail
  have bq := Box.new (w3.alloc (.cells #[.bool ((isin ⟨false, [2], [5, 6]⟩ ⟨false, [2], [6, 7]⟩)).ch, .slice A3 ((isin ⟨false, [2], [5, 6]⟩ ⟨false, [2], [6, 7]⟩)).sh.length ca3, .slice D3 ((isin ⟨false, [2], [5, 6]⟩ ⟨false, [2], [6, 7]⟩)).da.length cd3] 24)) 3 #[.int .i64 0, .int .i64 1]
  rw [World.size_alloc] at bq
  refine (ints_any _ _ _ [0, 1] _ (hd3.mono (below_two _ _ _)) (bq.isInts rfl (by simp))).mono ?_
  rintro e w4 ⟨r4, rfl, hr4, hb4⟩
  have e4 : r4 = true := hr4.2 (by first | decide | decide +kernel)
  subst e4
  clear hr4 hs3 hd3
  clear hr3
  have hbw4 := (hbw3.trans ((below_two w3 _ _).mono hbw3.size)).trans (hb4.mono (hbw3.trans ((below_two w3 _ _).mono hbw3.size)).size)
  have b_a4 := ((b_a3.alloc _).alloc _).below hb4
  have b_b4 := ((b_b3.alloc _).alloc _).below hb4
  clear hb4 b_a3 b_b3 hbw3 c_a0 c_a1 c_a2 l_a c_b0 c_b1 c_b2 l_b bq
  obtain ⟨c_a0, c_a1, c_a2⟩ := b_a4.three
  have l_a := b_a4.lt
  obtain ⟨c_b0, c_b1, c_b2⟩ := b_b4.three
  have l_b := b_b4.lt
  by_cases hP : pairErr a b = 0
  case neg =>
    have HP := Lib.hid hP
    clear hP
    go_wp2_with fail
    refine ((meet_told (ha.mono hbw4) (hb.mono hbw4) Wa.out Wb.out).mono fun e w' h => h.bad HP.out).mono ?_
    rintro e w5 ⟨rfl, hb5⟩
    have hbw5 := hbw4.trans (hb5.mono hbw4.size)
    have b_a5 := b_a4.below hb5
    have b_b5 := b_b4.below hb5
    clear hb5 b_a4 b_b4 hbw4 c_a0 c_a1 c_a2 l_a c_b0 c_b1 c_b2 l_b
    obtain ⟨c_a0, c_a1, c_a2⟩ := b_a5.three
    have l_a := b_a5.lt
    obtain ⟨c_b0, c_b1, c_b2⟩ := b_b5.three
    have l_b := b_b5.lt
    go_wp2_with fail
    refine ((without_told (ha.mono (hbw5.trans ((below_one w5 _).mono hbw5.size))) (hb.mono (hbw5.trans ((below_one w5 _).mono hbw5.size))) Wa.out Wb.out).mono fun e w' h => h.bad HP.out).mono ?_
    rintro e w6 ⟨rfl, hb6⟩
    have hbw6 := (hbw5.trans ((below_one w5 _).mono hbw5.size)).trans (hb6.mono (hbw5.trans ((below_one w5 _).mono hbw5.size)).size)
    have b_a6 := (b_a5.alloc _).below hb6
    have b_b6 := (b_b5.alloc _).below hb6
    have b_xx6 := (Box.new w5 24 #[.bool false, .slice none 0 0, .slice none 0 0]).below hb6
    clear hb6 b_a5 b_b5 hbw5 c_a0 c_a1 c_a2 l_a c_b0 c_b1 c_b2 l_b
    obtain ⟨c_a0, c_a1, c_a2⟩ := b_a6.three
    have l_a := b_a6.lt
    obtain ⟨c_b0, c_b1, c_b2⟩ := b_b6.three
    have l_b := b_b6.lt
    obtain ⟨c_xx0, c_xx1, c_xx2⟩ := b_xx6.three
    have l_xx := b_xx6.lt
    go_wp2_with fail
    go_ret
    exact ⟨rfl, by have := hbw6.size; go_grown⟩
  have PL := Lib.hid (masks_plain hP)
  have HP := Lib.hid hP
  clear hP
  go_wp2_with fail
  refine ((show Calls _ _ _ _ (GivesOk (meet a b) _) from (meet_told (ha.mono hbw4) (hb.mono hbw4) Wa.out Wb.out).mono fun e w' h => h.ok HP.out)).mono ?_
  rintro e w5 ⟨r5, rfl, hr5, hb5⟩
  have hbw5 := hbw4.trans (hb5.mono hbw4.size)
  have b_a5 := b_a4.below hb5
  have b_b5 := b_b4.below hb5
  clear hb5 b_a4 b_b4 hbw4 c_a0 c_a1 c_a2 l_a c_b0 c_b1 c_b2 l_b
  obtain ⟨c_a0, c_a1, c_a2⟩ := b_a5.three
  have l_a := b_a5.lt
  obtain ⟨c_b0, c_b1, c_b2⟩ := b_b5.three
  have l_b := b_b5.lt
  obtain ⟨A5, ca5, D5, cd5, rfl, hs5, hd5⟩ := hr5.open_
  go_wp2_with fail
  refine ((show Calls _ _ _ _ (GivesOk (without a b) _) from (without_told (ha.mono (hbw5.trans ((below_one w5 _).mono hbw5.size))) (hb.mono (hbw5.trans ((below_one w5 _).mono hbw5.size))) Wa.out Wb.out).mono fun e w' h => h.ok HP.out)).mono ?_
  rintro e w6 ⟨r6, rfl, hr6, hb6⟩
  have hbw6 := (hbw5.trans ((below_one w5 _).mono hbw5.size)).trans (hb6.mono (hbw5.trans ((below_one w5 _).mono hbw5.size)).size)
  have b_a6 := (b_a5.alloc _).below hb6
  have b_b6 := (b_b5.alloc _).below hb6
  have b_xx6 := (Box.new w5 24 #[.bool (meet a b).ch, .slice A5 (meet a b).sh.length ca5, .slice D5 (meet a b).da.length cd5]).below hb6
  have a_x6 := (hr5.mono (below_one _ _)).mono hb6
  clear hb6 b_a5 b_b5 hr5 hbw5 c_a0 c_a1 c_a2 l_a c_b0 c_b1 c_b2 l_b
  obtain ⟨c_a0, c_a1, c_a2⟩ := b_a6.three
  have l_a := b_a6.lt
  obtain ⟨c_b0, c_b1, c_b2⟩ := b_b6.three
  have l_b := b_b6.lt
  obtain ⟨c_xx0, c_xx1, c_xx2⟩ := b_xx6.three
  have l_xx := b_xx6.lt
  obtain ⟨A6, ca6, D6, cd6, rfl, hs6, hd6⟩ := hr6.open_
  go_wp2_with fail
  refine ((show Calls _ _ _ _ (GivesOk (isin a b) _) from (in_told (ha.mono (hbw6.trans ((below_one w6 _).mono hbw6.size))) (hb.mono (hbw6.trans ((below_one w6 _).mono hbw6.size))) Wa.out Wb.out).mono fun e w' h => h.ok PL.out.1)).mono ?_
  rintro e w7 ⟨r7, rfl, hr7, hb7⟩
  have hbw7 := (hbw6.trans ((below_one w6 _).mono hbw6.size)).trans (hb7.mono (hbw6.trans ((below_one w6 _).mono hbw6.size)).size)
  have b_a7 := (b_a6.alloc _).below hb7
  have b_b7 := (b_b6.alloc _).below hb7
  have b_xx7 := (b_xx6.alloc _).below hb7
  have b_xy7 := (Box.new w6 24 #[.bool (without a b).ch, .slice A6 (without a b).sh.length ca6, .slice D6 (without a b).da.length cd6]).below hb7
  have a_x7 := (a_x6.mono (below_one _ _)).mono hb7
  have a_y7 := (hr6.mono (below_one _ _)).mono hb7
  clear hb7 b_a6 b_b6 b_xx6 a_x6 hr6 hbw6 c_a0 c_a1 c_a2 l_a c_b0 c_b1 c_b2 l_b c_xx0 c_xx1 c_xx2 l_xx
  obtain ⟨c_a0, c_a1, c_a2⟩ := b_a7.three
  have l_a := b_a7.lt
  obtain ⟨c_b0, c_b1, c_b2⟩ := b_b7.three
  have l_b := b_b7.lt
  obtain ⟨c_xx0, c_xx1, c_xx2⟩ := b_xx7.three
  have l_xx := b_xx7.lt
  obtain ⟨c_xy0, c_xy1, c_xy2⟩ := b_xy7.three
  have l_xy := b_xy7.lt
  obtain ⟨A7, ca7, D7, cd7, rfl, hs7, hd7⟩ := hr7.open_
  go_wp2_with fail
  refine ((show Calls _ _ _ _ (GivesOk (keep (isin a b).da 0 a) _) from (keep_told0 (IsArr.dataOf (hr7.mono (below_one _ _))) (ha.mono (hbw7.trans ((below_one w7 _).mono hbw7.size)))).mono fun e w' h => h.ok PL.out.2.1)).mono ?_
  rintro e w8 ⟨r8, rfl, hr8, hb8⟩
  have hbw8 := (hbw7.trans ((below_one w7 _).mono hbw7.size)).trans (hb8.mono (hbw7.trans ((below_one w7 _).mono hbw7.size)).size)
  have b_a8 := (b_a7.alloc _).below hb8
  have b_b8 := (b_b7.alloc _).below hb8
  have b_xx8 := (b_xx7.alloc _).below hb8
  have b_xy8 := (b_xy7.alloc _).below hb8
  have b_xi8 := (Box.new w7 24 #[.bool (isin a b).ch, .slice A7 (isin a b).sh.length ca7, .slice D7 (isin a b).da.length cd7]).below hb8
  have a_x8 := (a_x7.mono (below_one _ _)).mono hb8
  have a_y8 := (a_y7.mono (below_one _ _)).mono hb8
  have a_i8 := (hr7.mono (below_one _ _)).mono hb8
  clear hb8 b_a7 b_b7 b_xx7 b_xy7 a_x7 a_y7 hr7 hbw7 c_a0 c_a1 c_a2 l_a c_b0 c_b1 c_b2 l_b c_xx0 c_xx1 c_xx2 l_xx c_xy0 c_xy1 c_xy2 l_xy
  obtain ⟨c_a0, c_a1, c_a2⟩ := b_a8.three
  have l_a := b_a8.lt
  obtain ⟨c_b0, c_b1, c_b2⟩ := b_b8.three
  have l_b := b_b8.lt
  obtain ⟨c_xx0, c_xx1, c_xx2⟩ := b_xx8.three
  have l_xx := b_xx8.lt
  obtain ⟨c_xy0, c_xy1, c_xy2⟩ := b_xy8.three
  have l_xy := b_xy8.lt
  obtain ⟨c_xi0, c_xi1, c_xi2⟩ := b_xi8.three
  have l_xi := b_xi8.lt
  obtain ⟨A8, ca8, D8, cd8, rfl, hs8, hd8⟩ := hr8.open_
  go_wp2_with fail
  refine ((show Calls _ _ _ _ (GivesOk (⟨false, a.sh, others (isin a b).da⟩ : Arr) _) from each_not (a_i8.mono (below_one _ _)) PL.out.2.2.2.2.2 rfl (isin_mask a b))).mono ?_
  rintro e w9 ⟨r9, rfl, hr9, hb9⟩
  have hbw9 := (hbw8.trans ((below_one w8 _).mono hbw8.size)).trans (hb9.mono (hbw8.trans ((below_one w8 _).mono hbw8.size)).size)
  have b_a9 := (b_a8.alloc _).below hb9
  have b_b9 := (b_b8.alloc _).below hb9
  have b_xx9 := (b_xx8.alloc _).below hb9
  have b_xy9 := (b_xy8.alloc _).below hb9
  have b_xi9 := (b_xi8.alloc _).below hb9
  have b_xp9 := (Box.new w8 24 #[.bool (keep (isin a b).da 0 a).ch, .slice A8 (keep (isin a b).da 0 a).sh.length ca8, .slice D8 (keep (isin a b).da 0 a).da.length cd8]).below hb9
  have a_x9 := (a_x8.mono (below_one _ _)).mono hb9
  have a_y9 := (a_y8.mono (below_one _ _)).mono hb9
  have a_i9 := (a_i8.mono (below_one _ _)).mono hb9
  have a_p9 := (hr8.mono (below_one _ _)).mono hb9
  clear hb9 b_a8 b_b8 b_xx8 b_xy8 b_xi8 a_x8 a_y8 a_i8 hr8 hbw8 c_a0 c_a1 c_a2 l_a c_b0 c_b1 c_b2 l_b c_xx0 c_xx1 c_xx2 l_xx c_xy0 c_xy1 c_xy2 l_xy c_xi0 c_xi1 c_xi2 l_xi
  obtain ⟨c_a0, c_a1, c_a2⟩ := b_a9.three
  have l_a := b_a9.lt
  obtain ⟨c_b0, c_b1, c_b2⟩ := b_b9.three
  have l_b := b_b9.lt
  obtain ⟨c_xx0, c_xx1, c_xx2⟩ := b_xx9.three
  have l_xx := b_xx9.lt
  obtain ⟨c_xy0, c_xy1, c_xy2⟩ := b_xy9.three
  have l_xy := b_xy9.lt
  obtain ⟨c_xi0, c_xi1, c_xi2⟩ := b_xi9.three
  have l_xi := b_xi9.lt
  obtain ⟨c_xp0, c_xp1, c_xp2⟩ := b_xp9.three
  have l_xp := b_xp9.lt
  obtain ⟨A9, ca9, D9, cd9, rfl, hs9, hd9⟩ := hr9.open_
  go_wp2_with fail
  refine ((show Calls _ _ _ _ (GivesOk (keep (others (isin a b).da) 0 a) _) from (keep_told0 (IsArr.dataOf (hr9.mono (below_one _ _))) (ha.mono (hbw9.trans ((below_one w9 _).mono hbw9.size)))).mono fun e w' h => h.ok PL.out.2.2.1)).mono ?_
  rintro e w10 ⟨r10, rfl, hr10, hb10⟩
  have hbw10 := (hbw9.trans ((below_one w9 _).mono hbw9.size)).trans (hb10.mono (hbw9.trans ((below_one w9 _).mono hbw9.size)).size)
  have b_a10 := (b_a9.alloc _).below hb10
  have b_b10 := (b_b9.alloc _).below hb10
  have b_xx10 := (b_xx9.alloc _).below hb10
  have b_xy10 := (b_xy9.alloc _).below hb10
  have b_xi10 := (b_xi9.alloc _).below hb10
  have b_xp10 := (b_xp9.alloc _).below hb10
  have b_xo10 := (Box.new w9 24 #[.bool ((⟨false, a.sh, others (isin a b).da⟩ : Arr)).ch, .slice A9 ((⟨false, a.sh, others (isin a b).da⟩ : Arr)).sh.length ca9, .slice D9 ((⟨false, a.sh, others (isin a b).da⟩ : Arr)).da.length cd9]).below hb10
  have a_x10 := (a_x9.mono (below_one _ _)).mono hb10
  have a_y10 := (a_y9.mono (below_one _ _)).mono hb10
  have a_i10 := (a_i9.mono (below_one _ _)).mono hb10
  have a_p10 := (a_p9.mono (below_one _ _)).mono hb10
  have a_o10 := (hr9.mono (below_one _ _)).mono hb10
  clear hb10 b_a9 b_b9 b_xx9 b_xy9 b_xi9 b_xp9 a_x9 a_y9 a_i9 a_p9 hr9 hbw9 c_a0 c_a1 c_a2 l_a c_b0 c_b1 c_b2 l_b c_xx0 c_xx1 c_xx2 l_xx c_xy0 c_xy1 c_xy2 l_xy c_xi0 c_xi1 c_xi2 l_xi c_xp0 c_xp1 c_xp2 l_xp
  obtain ⟨c_a0, c_a1, c_a2⟩ := b_a10.three
  have l_a := b_a10.lt
  obtain ⟨c_b0, c_b1, c_b2⟩ := b_b10.three
  have l_b := b_b10.lt
  obtain ⟨c_xx0, c_xx1, c_xx2⟩ := b_xx10.three
  have l_xx := b_xx10.lt
  obtain ⟨c_xy0, c_xy1, c_xy2⟩ := b_xy10.three
  have l_xy := b_xy10.lt
  obtain ⟨c_xi0, c_xi1, c_xi2⟩ := b_xi10.three
  have l_xi := b_xi10.lt
  obtain ⟨c_xp0, c_xp1, c_xp2⟩ := b_xp10.three
  have l_xp := b_xp10.lt
  obtain ⟨c_xo0, c_xo1, c_xo2⟩ := b_xo10.three
  have l_xo := b_xo10.lt
  obtain ⟨A10, ca10, D10, cd10, rfl, hs10, hd10⟩ := hr10.open_
  go_wp2_with fail
  refine (alike_nil _ _ _ _ _ (a_x10.mono (below_one _ _)) (a_p10.mono (below_one _ _))).mono ?_
  rintro e w11 ⟨r11, rfl, hr11, hb11⟩
  have e11 : r11 = true := hr11.2 (PL.out.2.2.2.1)
  subst e11
  clear hr11
  have hbw11 := (hbw10.trans ((below_one w10 _).mono hbw10.size)).trans (hb11.mono (hbw10.trans ((below_one w10 _).mono hbw10.size)).size)
  have b_a11 := (b_a10.alloc _).below hb11
  have b_b11 := (b_b10.alloc _).below hb11
  have b_xx11 := (b_xx10.alloc _).below hb11
  have b_xy11 := (b_xy10.alloc _).below hb11
  have b_xi11 := (b_xi10.alloc _).below hb11
  have b_xp11 := (b_xp10.alloc _).below hb11
  have b_xo11 := (b_xo10.alloc _).below hb11
  have b_xq11 := (Box.new w10 24 #[.bool (keep (others (isin a b).da) 0 a).ch, .slice A10 (keep (others (isin a b).da) 0 a).sh.length ca10, .slice D10 (keep (others (isin a b).da) 0 a).da.length cd10]).below hb11
  have a_x11 := (a_x10.mono (below_one _ _)).mono hb11
  have a_y11 := (a_y10.mono (below_one _ _)).mono hb11
  have a_i11 := (a_i10.mono (below_one _ _)).mono hb11
  have a_p11 := (a_p10.mono (below_one _ _)).mono hb11
  have a_o11 := (a_o10.mono (below_one _ _)).mono hb11
  have a_q11 := (hr10.mono (below_one _ _)).mono hb11
  clear hb11 b_a10 b_b10 b_xx10 b_xy10 b_xi10 b_xp10 b_xo10 a_x10 a_y10 a_i10 a_p10 a_o10 hr10 hbw10 c_a0 c_a1 c_a2 l_a c_b0 c_b1 c_b2 l_b c_xx0 c_xx1 c_xx2 l_xx c_xy0 c_xy1 c_xy2 l_xy c_xi0 c_xi1 c_xi2 l_xi c_xp0 c_xp1 c_xp2 l_xp c_xo0 c_xo1 c_xo2 l_xo
  obtain ⟨c_a0, c_a1, c_a2⟩ := b_a11.three
  have l_a := b_a11.lt
  obtain ⟨c_b0, c_b1, c_b2⟩ := b_b11.three
  have l_b := b_b11.lt
  obtain ⟨c_xx0, c_xx1, c_xx2⟩ := b_xx11.three
  have l_xx := b_xx11.lt
  obtain ⟨c_xy0, c_xy1, c_xy2⟩ := b_xy11.three
  have l_xy := b_xy11.lt
  obtain ⟨c_xi0, c_xi1, c_xi2⟩ := b_xi11.three
  have l_xi := b_xi11.lt
  obtain ⟨c_xp0, c_xp1, c_xp2⟩ := b_xp11.three
  have l_xp := b_xp11.lt
  obtain ⟨c_xo0, c_xo1, c_xo2⟩ := b_xo11.three
  have l_xo := b_xo11.lt
  obtain ⟨c_xq0, c_xq1, c_xq2⟩ := b_xq11.three
  have l_xq := b_xq11.lt
  go_wp2_with fail
  refine (alike_nil _ _ _ _ _ a_y11 a_q11).mono ?_
  rintro e w12 ⟨r12, rfl, hr12, hb12⟩
  have e12 : r12 = true := hr12.2 (PL.out.2.2.2.2.1)
  subst e12
  clear hr12
  have hbw12 := hbw11.trans (hb12.mono hbw11.size)
  have b_a12 := b_a11.below hb12
  have b_b12 := b_b11.below hb12
  have b_xx12 := b_xx11.below hb12
  have b_xy12 := b_xy11.below hb12
  have b_xi12 := b_xi11.below hb12
  have b_xp12 := b_xp11.below hb12
  have b_xo12 := b_xo11.below hb12
  have b_xq12 := b_xq11.below hb12
  have a_x12 := a_x11.mono hb12
  have a_y12 := a_y11.mono hb12
  have a_i12 := a_i11.mono hb12
  have a_p12 := a_p11.mono hb12
  have a_o12 := a_o11.mono hb12
  have a_q12 := a_q11.mono hb12
  clear hb12 b_a11 b_b11 b_xx11 b_xy11 b_xi11 b_xp11 b_xo11 b_xq11 a_x11 a_y11 a_i11 a_p11 a_o11 a_q11 hbw11 c_a0 c_a1 c_a2 l_a c_b0 c_b1 c_b2 l_b c_xx0 c_xx1 c_xx2 l_xx c_xy0 c_xy1 c_xy2 l_xy c_xi0 c_xi1 c_xi2 l_xi c_xp0 c_xp1 c_xp2 l_xp c_xo0 c_xo1 c_xo2 l_xo c_xq0 c_xq1 c_xq2 l_xq
  obtain ⟨c_a0, c_a1, c_a2⟩ := b_a12.three
  have l_a := b_a12.lt
  obtain ⟨c_b0, c_b1, c_b2⟩ := b_b12.three
  have l_b := b_b12.lt
  obtain ⟨c_xx0, c_xx1, c_xx2⟩ := b_xx12.three
  have l_xx := b_xx12.lt
  obtain ⟨c_xy0, c_xy1, c_xy2⟩ := b_xy12.three
  have l_xy := b_xy12.lt
  obtain ⟨c_xi0, c_xi1, c_xi2⟩ := b_xi12.three
  have l_xi := b_xi12.lt
  obtain ⟨c_xp0, c_xp1, c_xp2⟩ := b_xp12.three
  have l_xp := b_xp12.lt
  obtain ⟨c_xo0, c_xo1, c_xo2⟩ := b_xo12.three
  have l_xo := b_xo12.lt
  obtain ⟨c_xq0, c_xq1, c_xq2⟩ := b_xq12.three
  have l_xq := b_xq12.lt
  go_wp2_with fail
  go_ret
  exact ⟨rfl, by have := hbw12.size; go_grown⟩

end Go.Proofs.Ytfemeaehpjajlaa
