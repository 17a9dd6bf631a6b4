/- The walk of the law SeekAlgebra. Conditions: none. -/
import Derived.Test.YtfemeaehpjajlaaSeekLaw
import Derived.Test.YtfemeaehpjajlaaStore
import Derived.Test.YtfemeaehpjajlaaMore
import Derived.Test.YtfemeaehpjajlaaAlike
import Derived.Test.YtfemeaehpjajlaaMake
namespace Go.Proofs.Ytfemeaehpjajlaa
open Go Go.RowKit Go.Proofs.Ytfemeaehpjajlaa.P

set_option maxRecDepth 100000 in
set_option maxHeartbeats 4000000 in
theorem seekAlgebra_walk (va vb vc : Value) (a b c : Arr) (w : World) (ha : IsArr w va a) (hb : IsArr w vb b) (hc : IsArr w vc c) (wa : Wf a.da) (wb : Wf b.da) (wc : Wf c.da) :
    Calls Try.prog 10 #[va, vb, vc] w (Says w) := by
  obtain ⟨A, ca, D, da, rfl, -, -⟩ := ha.open_
  obtain ⟨A', cb, D', db, rfl, -, -⟩ := hb.open_
  obtain ⟨A'', cc, D'', dc, rfl, -, -⟩ := hc.open_
  have Wa := Lib.hid wa
  have Wb := Lib.hid wb
  have Wc := Lib.hid wc
  clear wa wb wc
  go_enter Try.func10, Try.ntmps10
  go_wp2_with fail
  have x1 := (Box.new (((w.alloc (.cells #[.bool a.ch, .slice A a.sh.length ca, .slice D a.da.length da] 24)).alloc (.cells #[.bool b.ch, .slice A' b.sh.length cb, .slice D' b.da.length db] 24)).alloc (.cells #[.bool c.ch, .slice A'' c.sh.length cc, .slice D'' c.da.length dc] 24)) 3 #[.int .i64 5, .int .i64 6])
  simp only [World.size_alloc, World.size_setCell] at x1
  have i1 : IsInts ((((w.alloc (.cells #[.bool a.ch, .slice A a.sh.length ca, .slice D a.da.length da] 24)).alloc (.cells #[.bool b.ch, .slice A' b.sh.length cb, .slice D' b.da.length db] 24)).alloc (.cells #[.bool c.ch, .slice A'' c.sh.length cc, .slice D'' c.da.length dc] 24)).alloc (.cells #[.int .i64 5, .int .i64 6] 3)) (.slice (some ⟨w.heap.size + 1 + 1 + 1, 0, none⟩) 2 2) [5, 6] := x1.isInts (xs := [5, 6]) (n := 2) rfl (by omega)
  clear x1
  refine (vec_any _ [5, 6] _ i1).mono ?_
  rintro e w1 ⟨r1, rfl, hr1, hb1⟩
  have hbw1 := ((Below.refl w.heap.size w).trans ((below_four w _ _ _ _).mono (Below.refl w.heap.size w).size)).trans (hb1.mono ((Below.refl w.heap.size w).trans ((below_four w _ _ _ _).mono (Below.refl w.heap.size w).size)).size)
  have b_a1 := ((((Box.new w 24 #[.bool a.ch, .slice A a.sh.length ca, .slice D a.da.length da]).alloc _).alloc _).alloc _).below hb1
  have b_b1 := (((Box.new (w.alloc (.cells #[.bool a.ch, .slice A a.sh.length ca, .slice D a.da.length da] 24)) 24 #[.bool b.ch, .slice A' b.sh.length cb, .slice D' b.da.length db]).alloc _).alloc _).below hb1
  simp only [World.size_alloc, World.size_setCell] at b_b1
  have b_c1 := ((Box.new ((w.alloc (.cells #[.bool a.ch, .slice A a.sh.length ca, .slice D a.da.length da] 24)).alloc (.cells #[.bool b.ch, .slice A' b.sh.length cb, .slice D' b.da.length db] 24)) 24 #[.bool c.ch, .slice A'' c.sh.length cc, .slice D'' c.da.length dc]).alloc _).below hb1
  simp only [World.size_alloc, World.size_setCell] at b_c1
  clear hb1 i1
  obtain ⟨c_a0, c_a1, c_a2⟩ := b_a1.three
  have l_a := b_a1.lt
  obtain ⟨c_b0, c_b1, c_b2⟩ := b_b1.three
  have l_b := b_b1.lt
  obtain ⟨c_c0, c_c1, c_c2⟩ := b_c1.three
  have l_c := b_c1.lt
  go_wp2_with fail
  have x1 := (Box.new w1 3 #[.int .i64 6, .int .i64 7])
  have i1 : IsInts (w1.alloc (.cells #[.int .i64 6, .int .i64 7] 3)) (.slice (some ⟨w1.heap.size, 0, none⟩) 2 2) [6, 7] := x1.isInts (xs := [6, 7]) (n := 2) rfl (by omega)
  clear x1
  refine (vec_any _ [6, 7] _ i1).mono ?_
  rintro e w2 ⟨r2, rfl, hr2, hb2⟩
  have hbw2 := (hbw1.trans ((below_one w1 _).mono hbw1.size)).trans (hb2.mono (hbw1.trans ((below_one w1 _).mono hbw1.size)).size)
  have b_a2 := (b_a1.alloc _).below hb2
  have b_b2 := (b_b1.alloc _).below hb2
  have b_c2 := (b_c1.alloc _).below hb2
  have a_v12 := (hr1.mono (below_one _ _)).mono hb2
  clear hb2 b_a1 b_b1 b_c1 hr1 hbw1 c_a0 c_a1 c_a2 l_a c_b0 c_b1 c_b2 l_b c_c0 c_c1 c_c2 l_c i1
  obtain ⟨c_a0, c_a1, c_a2⟩ := b_a2.three
  have l_a := b_a2.lt
  obtain ⟨c_b0, c_b1, c_b2⟩ := b_b2.three
  have l_b := b_b2.lt
  obtain ⟨c_c0, c_c1, c_c2⟩ := b_c2.three
  have l_c := b_c2.lt
  go_wp2_with fail
  refine ((show Calls _ _ _ _ (GivesOk (union ⟨false, [2], [5, 6]⟩ ⟨false, [2], [6, 7]⟩) _) from (union_told a_v12 hr2 (wf_two (by decide) (by decide)) (wf_two (by decide) (by decide))).mono fun e w' h => h.ok (by decide +kernel))).mono ?_
  rintro e w3 ⟨r3, rfl, hr3, hb3⟩
  have hbw3 := hbw2.trans (hb3.mono hbw2.size)
  have b_a3 := b_a2.below hb3
  have b_b3 := b_b2.below hb3
  have b_c3 := b_c2.below hb3
  clear hb3 b_a2 b_b2 b_c2 hbw2 c_a0 c_a1 c_a2 l_a c_b0 c_b1 c_b2 l_b c_c0 c_c1 c_c2 l_c a_v12 hr2
  obtain ⟨c_a0, c_a1, c_a2⟩ := b_a3.three
  have l_a := b_a3.lt
  obtain ⟨c_b0, c_b1, c_b2⟩ := b_b3.three
  have l_b := b_b3.lt
  obtain ⟨c_c0, c_c1, c_c2⟩ := b_c3.three
  have l_c := b_c3.lt
  obtain ⟨A3, ca3, D3, cd3, rfl, hs3, hd3⟩ := hr3.open_
  go_wp2_with fail
  have bq := Box.new (w3.alloc (.cells #[.bool ((union ⟨false, [2], [5, 6]⟩ ⟨false, [2], [6, 7]⟩)).ch, .slice A3 ((union ⟨false, [2], [5, 6]⟩ ⟨false, [2], [6, 7]⟩)).sh.length ca3, .slice D3 ((union ⟨false, [2], [5, 6]⟩ ⟨false, [2], [6, 7]⟩)).da.length cd3] 24)) 3 #[.int .i64 5, .int .i64 6, .int .i64 7]
  rw [World.size_alloc] at bq
  refine (ints_any _ _ _ [5, 6, 7] _ (hd3.mono (below_two _ _ _)) (bq.isInts rfl (by simp))).mono ?_
  rintro e w4 ⟨r4, rfl, hr4, hb4⟩
  have e4 : r4 = true := hr4.2 (by decide)
  subst e4
  clear hr4 hs3 hd3
  clear hr3
  have hbw4 := (hbw3.trans ((below_two w3 _ _).mono hbw3.size)).trans (hb4.mono (hbw3.trans ((below_two w3 _ _).mono hbw3.size)).size)
  have b_a4 := ((b_a3.alloc _).alloc _).below hb4
  have b_b4 := ((b_b3.alloc _).alloc _).below hb4
  have b_c4 := ((b_c3.alloc _).alloc _).below hb4
  clear hb4 b_a3 b_b3 b_c3 hbw3 c_a0 c_a1 c_a2 l_a c_b0 c_b1 c_b2 l_b c_c0 c_c1 c_c2 l_c bq
  obtain ⟨c_a0, c_a1, c_a2⟩ := b_a4.three
  have l_a := b_a4.lt
  obtain ⟨c_b0, c_b1, c_b2⟩ := b_b4.three
  have l_b := b_b4.lt
  obtain ⟨c_c0, c_c1, c_c2⟩ := b_c4.three
  have l_c := b_c4.lt
  by_cases hU : unionErr b c = 0
  · skip
    by_cases hP : pairErr a b = 0
    · skip
      have PL := Lib.hid (sets_plain hU hP)
      have HU := Lib.hid hU
      have HP := Lib.hid hP
      clear hU hP
      go_wp2_with fail
      refine ((show Calls _ _ _ _ (GivesOk (union b c) _) from (union_told (hb.mono hbw4) (hc.mono hbw4) Wb.out Wc.out).mono fun e w' h => h.ok HU.out)).mono ?_
      rintro e w5 ⟨r5, rfl, hr5, hb5⟩
      have hbw5 := hbw4.trans (hb5.mono hbw4.size)
      have b_a5 := b_a4.below hb5
      have b_b5 := b_b4.below hb5
      have b_c5 := b_c4.below hb5
      clear hb5 b_a4 b_b4 b_c4 hbw4 c_a0 c_a1 c_a2 l_a c_b0 c_b1 c_b2 l_b c_c0 c_c1 c_c2 l_c
      obtain ⟨c_a0, c_a1, c_a2⟩ := b_a5.three
      have l_a := b_a5.lt
      obtain ⟨c_b0, c_b1, c_b2⟩ := b_b5.three
      have l_b := b_b5.lt
      obtain ⟨c_c0, c_c1, c_c2⟩ := b_c5.three
      have l_c := b_c5.lt
      obtain ⟨A5, ca5, D5, cd5, rfl, hs5, hd5⟩ := hr5.open_
      go_wp2_with fail
      refine ((show Calls _ _ _ _ (GivesOk (without a b) _) from (without_told (ha.mono (hbw5.trans ((below_one w5 _).mono hbw5.size))) (hb.mono (hbw5.trans ((below_one w5 _).mono hbw5.size))) Wa.out Wb.out).mono fun e w' h => h.ok HP.out)).mono ?_
      rintro e w6 ⟨r6, rfl, hr6, hb6⟩
      have hbw6 := (hbw5.trans ((below_one w5 _).mono hbw5.size)).trans (hb6.mono (hbw5.trans ((below_one w5 _).mono hbw5.size)).size)
      have b_a6 := (b_a5.alloc _).below hb6
      have b_b6 := (b_b5.alloc _).below hb6
      have b_c6 := (b_c5.alloc _).below hb6
      have b_xu6 := (Box.new w5 24 #[.bool (union b c).ch, .slice A5 (union b c).sh.length ca5, .slice D5 (union b c).da.length cd5]).below hb6
      have a_u6 := (hr5.mono (below_one _ _)).mono hb6
      clear hb6 b_a5 b_b5 b_c5 hr5 hbw5 c_a0 c_a1 c_a2 l_a c_b0 c_b1 c_b2 l_b c_c0 c_c1 c_c2 l_c
      obtain ⟨c_a0, c_a1, c_a2⟩ := b_a6.three
      have l_a := b_a6.lt
      obtain ⟨c_b0, c_b1, c_b2⟩ := b_b6.three
      have l_b := b_b6.lt
      obtain ⟨c_c0, c_c1, c_c2⟩ := b_c6.three
      have l_c := b_c6.lt
      obtain ⟨c_xu0, c_xu1, c_xu2⟩ := b_xu6.three
      have l_xu := b_xu6.lt
      obtain ⟨A6, ca6, D6, cd6, rfl, hs6, hd6⟩ := hr6.open_
      go_wp2_with fail
      refine ((show Calls _ _ _ _ (GivesOk (meet a b) _) from (meet_told (ha.mono (hbw6.trans ((below_one w6 _).mono hbw6.size))) (hb.mono (hbw6.trans ((below_one w6 _).mono hbw6.size))) Wa.out Wb.out).mono fun e w' h => h.ok HP.out)).mono ?_
      rintro e w7 ⟨r7, rfl, hr7, hb7⟩
      have hbw7 := (hbw6.trans ((below_one w6 _).mono hbw6.size)).trans (hb7.mono (hbw6.trans ((below_one w6 _).mono hbw6.size)).size)
      have b_a7 := (b_a6.alloc _).below hb7
      have b_b7 := (b_b6.alloc _).below hb7
      have b_c7 := (b_c6.alloc _).below hb7
      have b_xu7 := (b_xu6.alloc _).below hb7
      have b_xx7 := (Box.new w6 24 #[.bool (without a b).ch, .slice A6 (without a b).sh.length ca6, .slice D6 (without a b).da.length cd6]).below hb7
      have a_u7 := (a_u6.mono (below_one _ _)).mono hb7
      have a_x7 := (hr6.mono (below_one _ _)).mono hb7
      clear hb7 b_a6 b_b6 b_c6 b_xu6 a_u6 hr6 hbw6 c_a0 c_a1 c_a2 l_a c_b0 c_b1 c_b2 l_b c_c0 c_c1 c_c2 l_c c_xu0 c_xu1 c_xu2 l_xu
      obtain ⟨c_a0, c_a1, c_a2⟩ := b_a7.three
      have l_a := b_a7.lt
      obtain ⟨c_b0, c_b1, c_b2⟩ := b_b7.three
      have l_b := b_b7.lt
      obtain ⟨c_c0, c_c1, c_c2⟩ := b_c7.three
      have l_c := b_c7.lt
      obtain ⟨c_xu0, c_xu1, c_xu2⟩ := b_xu7.three
      have l_xu := b_xu7.lt
      obtain ⟨c_xx0, c_xx1, c_xx2⟩ := b_xx7.three
      have l_xx := b_xx7.lt
      obtain ⟨A7, ca7, D7, cd7, rfl, hs7, hd7⟩ := hr7.open_
      go_wp2_with fail
      refine ((show Calls _ _ _ _ (GivesOk (without (without a b) c) _) from (without_told (a_x7.mono (below_one _ _)) (hc.mono (hbw7.trans ((below_one w7 _).mono hbw7.size))) (wf_without Wa.out b) Wc.out).mono fun e w' h => h.ok PL.out.1)).mono ?_
      rintro e w8 ⟨r8, rfl, hr8, hb8⟩
      have hbw8 := (hbw7.trans ((below_one w7 _).mono hbw7.size)).trans (hb8.mono (hbw7.trans ((below_one w7 _).mono hbw7.size)).size)
      have b_a8 := (b_a7.alloc _).below hb8
      have b_b8 := (b_b7.alloc _).below hb8
      have b_c8 := (b_c7.alloc _).below hb8
      have b_xu8 := (b_xu7.alloc _).below hb8
      have b_xx8 := (b_xx7.alloc _).below hb8
      have b_xm8 := (Box.new w7 24 #[.bool (meet a b).ch, .slice A7 (meet a b).sh.length ca7, .slice D7 (meet a b).da.length cd7]).below hb8
      have a_u8 := (a_u7.mono (below_one _ _)).mono hb8
      have a_x8 := (a_x7.mono (below_one _ _)).mono hb8
      have a_m8 := (hr7.mono (below_one _ _)).mono hb8
      clear hb8 b_a7 b_b7 b_c7 b_xu7 b_xx7 a_u7 a_x7 hr7 hbw7 c_a0 c_a1 c_a2 l_a c_b0 c_b1 c_b2 l_b c_c0 c_c1 c_c2 l_c c_xu0 c_xu1 c_xu2 l_xu c_xx0 c_xx1 c_xx2 l_xx
      obtain ⟨c_a0, c_a1, c_a2⟩ := b_a8.three
      have l_a := b_a8.lt
      obtain ⟨c_b0, c_b1, c_b2⟩ := b_b8.three
      have l_b := b_b8.lt
      obtain ⟨c_c0, c_c1, c_c2⟩ := b_c8.three
      have l_c := b_c8.lt
      obtain ⟨c_xu0, c_xu1, c_xu2⟩ := b_xu8.three
      have l_xu := b_xu8.lt
      obtain ⟨c_xx0, c_xx1, c_xx2⟩ := b_xx8.three
      have l_xx := b_xx8.lt
      obtain ⟨c_xm0, c_xm1, c_xm2⟩ := b_xm8.three
      have l_xm := b_xm8.lt
      obtain ⟨A8, ca8, D8, cd8, rfl, hs8, hd8⟩ := hr8.open_
      go_wp2_with fail
      refine ((show Calls _ _ _ _ (GivesOk (without a (union b c)) _) from (without_told (ha.mono (hbw8.trans ((below_one w8 _).mono hbw8.size))) (a_u8.mono (below_one _ _)) Wa.out (wf_union Wb.out Wc.out)).mono fun e w' h => h.ok PL.out.2.1)).mono ?_
      rintro e w9 ⟨r9, rfl, hr9, hb9⟩
      have hbw9 := (hbw8.trans ((below_one w8 _).mono hbw8.size)).trans (hb9.mono (hbw8.trans ((below_one w8 _).mono hbw8.size)).size)
      have b_a9 := (b_a8.alloc _).below hb9
      have b_b9 := (b_b8.alloc _).below hb9
      have b_c9 := (b_c8.alloc _).below hb9
      have b_xu9 := (b_xu8.alloc _).below hb9
      have b_xx9 := (b_xx8.alloc _).below hb9
      have b_xm9 := (b_xm8.alloc _).below hb9
      have b_xy9 := (Box.new w8 24 #[.bool (without (without a b) c).ch, .slice A8 (without (without a b) c).sh.length ca8, .slice D8 (without (without a b) c).da.length cd8]).below hb9
      have a_u9 := (a_u8.mono (below_one _ _)).mono hb9
      have a_x9 := (a_x8.mono (below_one _ _)).mono hb9
      have a_m9 := (a_m8.mono (below_one _ _)).mono hb9
      have a_y9 := (hr8.mono (below_one _ _)).mono hb9
      clear hb9 b_a8 b_b8 b_c8 b_xu8 b_xx8 b_xm8 a_u8 a_x8 a_m8 hr8 hbw8 c_a0 c_a1 c_a2 l_a c_b0 c_b1 c_b2 l_b c_c0 c_c1 c_c2 l_c c_xu0 c_xu1 c_xu2 l_xu c_xx0 c_xx1 c_xx2 l_xx c_xm0 c_xm1 c_xm2 l_xm
      obtain ⟨c_a0, c_a1, c_a2⟩ := b_a9.three
      have l_a := b_a9.lt
      obtain ⟨c_b0, c_b1, c_b2⟩ := b_b9.three
      have l_b := b_b9.lt
      obtain ⟨c_c0, c_c1, c_c2⟩ := b_c9.three
      have l_c := b_c9.lt
      obtain ⟨c_xu0, c_xu1, c_xu2⟩ := b_xu9.three
      have l_xu := b_xu9.lt
      obtain ⟨c_xx0, c_xx1, c_xx2⟩ := b_xx9.three
      have l_xx := b_xx9.lt
      obtain ⟨c_xm0, c_xm1, c_xm2⟩ := b_xm9.three
      have l_xm := b_xm9.lt
      obtain ⟨c_xy0, c_xy1, c_xy2⟩ := b_xy9.three
      have l_xy := b_xy9.lt
      obtain ⟨A9, ca9, D9, cd9, rfl, hs9, hd9⟩ := hr9.open_
      go_wp2_with fail
      refine (alike_nil _ _ _ _ _ (a_y9.mono (below_one _ _)) (hr9.mono (below_one _ _))).mono ?_
      rintro e w10 ⟨r10, rfl, hr10, hb10⟩
      have e10 : r10 = true := hr10.2 (PL.out.2.2.2.2.2.1)
      subst e10
      clear hr10
      have hbw10 := (hbw9.trans ((below_one w9 _).mono hbw9.size)).trans (hb10.mono (hbw9.trans ((below_one w9 _).mono hbw9.size)).size)
      have b_a10 := (b_a9.alloc _).below hb10
      have b_b10 := (b_b9.alloc _).below hb10
      have b_c10 := (b_c9.alloc _).below hb10
      have b_xu10 := (b_xu9.alloc _).below hb10
      have b_xx10 := (b_xx9.alloc _).below hb10
      have b_xm10 := (b_xm9.alloc _).below hb10
      have b_xy10 := (b_xy9.alloc _).below hb10
      have b_xz10 := (Box.new w9 24 #[.bool (without a (union b c)).ch, .slice A9 (without a (union b c)).sh.length ca9, .slice D9 (without a (union b c)).da.length cd9]).below hb10
      have a_u10 := (a_u9.mono (below_one _ _)).mono hb10
      have a_x10 := (a_x9.mono (below_one _ _)).mono hb10
      have a_m10 := (a_m9.mono (below_one _ _)).mono hb10
      have a_y10 := (a_y9.mono (below_one _ _)).mono hb10
      have a_z10 := (hr9.mono (below_one _ _)).mono hb10
      clear hb10 b_a9 b_b9 b_c9 b_xu9 b_xx9 b_xm9 b_xy9 a_u9 a_x9 a_m9 a_y9 hr9 hbw9 c_a0 c_a1 c_a2 l_a c_b0 c_b1 c_b2 l_b c_c0 c_c1 c_c2 l_c c_xu0 c_xu1 c_xu2 l_xu c_xx0 c_xx1 c_xx2 l_xx c_xm0 c_xm1 c_xm2 l_xm c_xy0 c_xy1 c_xy2 l_xy
      obtain ⟨c_a0, c_a1, c_a2⟩ := b_a10.three
      have l_a := b_a10.lt
      obtain ⟨c_b0, c_b1, c_b2⟩ := b_b10.three
      have l_b := b_b10.lt
      obtain ⟨c_c0, c_c1, c_c2⟩ := b_c10.three
      have l_c := b_c10.lt
      obtain ⟨c_xu0, c_xu1, c_xu2⟩ := b_xu10.three
      have l_xu := b_xu10.lt
      obtain ⟨c_xx0, c_xx1, c_xx2⟩ := b_xx10.three
      have l_xx := b_xx10.lt
      obtain ⟨c_xm0, c_xm1, c_xm2⟩ := b_xm10.three
      have l_xm := b_xm10.lt
      obtain ⟨c_xy0, c_xy1, c_xy2⟩ := b_xy10.three
      have l_xy := b_xy10.lt
      obtain ⟨c_xz0, c_xz1, c_xz2⟩ := b_xz10.three
      have l_xz := b_xz10.lt
      go_wp2_with fail
      refine ((show Calls _ _ _ _ (GivesOk (meet (meet a b) c) _) from (meet_told a_m10 (hc.mono hbw10) (wf_meet Wa.out b) Wc.out).mono fun e w' h => h.ok PL.out.2.2.1)).mono ?_
      rintro e w11 ⟨r11, rfl, hr11, hb11⟩
      have hbw11 := hbw10.trans (hb11.mono hbw10.size)
      have b_a11 := b_a10.below hb11
      have b_b11 := b_b10.below hb11
      have b_c11 := b_c10.below hb11
      have b_xu11 := b_xu10.below hb11
      have b_xx11 := b_xx10.below hb11
      have b_xm11 := b_xm10.below hb11
      have b_xy11 := b_xy10.below hb11
      have b_xz11 := b_xz10.below hb11
      have a_u11 := a_u10.mono hb11
      have a_x11 := a_x10.mono hb11
      have a_m11 := a_m10.mono hb11
      have a_y11 := a_y10.mono hb11
      have a_z11 := a_z10.mono hb11
      clear hb11 b_a10 b_b10 b_c10 b_xu10 b_xx10 b_xm10 b_xy10 b_xz10 a_u10 a_x10 a_m10 a_y10 a_z10 hbw10 c_a0 c_a1 c_a2 l_a c_b0 c_b1 c_b2 l_b c_c0 c_c1 c_c2 l_c c_xu0 c_xu1 c_xu2 l_xu c_xx0 c_xx1 c_xx2 l_xx c_xm0 c_xm1 c_xm2 l_xm c_xy0 c_xy1 c_xy2 l_xy c_xz0 c_xz1 c_xz2 l_xz
      obtain ⟨c_a0, c_a1, c_a2⟩ := b_a11.three
      have l_a := b_a11.lt
      obtain ⟨c_b0, c_b1, c_b2⟩ := b_b11.three
      have l_b := b_b11.lt
      obtain ⟨c_c0, c_c1, c_c2⟩ := b_c11.three
      have l_c := b_c11.lt
      obtain ⟨c_xu0, c_xu1, c_xu2⟩ := b_xu11.three
      have l_xu := b_xu11.lt
      obtain ⟨c_xx0, c_xx1, c_xx2⟩ := b_xx11.three
      have l_xx := b_xx11.lt
      obtain ⟨c_xm0, c_xm1, c_xm2⟩ := b_xm11.three
      have l_xm := b_xm11.lt
      obtain ⟨c_xy0, c_xy1, c_xy2⟩ := b_xy11.three
      have l_xy := b_xy11.lt
      obtain ⟨c_xz0, c_xz1, c_xz2⟩ := b_xz11.three
      have l_xz := b_xz11.lt
      obtain ⟨A11, ca11, D11, cd11, rfl, hs11, hd11⟩ := hr11.open_
      go_wp2_with fail
      refine ((show Calls _ _ _ _ (GivesOk (meet b c) _) from (meet_told (hb.mono (hbw11.trans ((below_one w11 _).mono hbw11.size))) (hc.mono (hbw11.trans ((below_one w11 _).mono hbw11.size))) Wb.out Wc.out).mono fun e w' h => h.ok PL.out.2.2.2.1)).mono ?_
      rintro e w12 ⟨r12, rfl, hr12, hb12⟩
      have hbw12 := (hbw11.trans ((below_one w11 _).mono hbw11.size)).trans (hb12.mono (hbw11.trans ((below_one w11 _).mono hbw11.size)).size)
      have b_a12 := (b_a11.alloc _).below hb12
      have b_b12 := (b_b11.alloc _).below hb12
      have b_c12 := (b_c11.alloc _).below hb12
      have b_xu12 := (b_xu11.alloc _).below hb12
      have b_xx12 := (b_xx11.alloc _).below hb12
      have b_xm12 := (b_xm11.alloc _).below hb12
      have b_xy12 := (b_xy11.alloc _).below hb12
      have b_xz12 := (b_xz11.alloc _).below hb12
      have b_xp12 := (Box.new w11 24 #[.bool (meet (meet a b) c).ch, .slice A11 (meet (meet a b) c).sh.length ca11, .slice D11 (meet (meet a b) c).da.length cd11]).below hb12
      have a_u12 := (a_u11.mono (below_one _ _)).mono hb12
      have a_x12 := (a_x11.mono (below_one _ _)).mono hb12
      have a_m12 := (a_m11.mono (below_one _ _)).mono hb12
      have a_y12 := (a_y11.mono (below_one _ _)).mono hb12
      have a_z12 := (a_z11.mono (below_one _ _)).mono hb12
      have a_p12 := (hr11.mono (below_one _ _)).mono hb12
      clear hb12 b_a11 b_b11 b_c11 b_xu11 b_xx11 b_xm11 b_xy11 b_xz11 a_u11 a_x11 a_m11 a_y11 a_z11 hr11 hbw11 c_a0 c_a1 c_a2 l_a c_b0 c_b1 c_b2 l_b c_c0 c_c1 c_c2 l_c c_xu0 c_xu1 c_xu2 l_xu c_xx0 c_xx1 c_xx2 l_xx c_xm0 c_xm1 c_xm2 l_xm c_xy0 c_xy1 c_xy2 l_xy c_xz0 c_xz1 c_xz2 l_xz
      obtain ⟨c_a0, c_a1, c_a2⟩ := b_a12.three
      have l_a := b_a12.lt
      obtain ⟨c_b0, c_b1, c_b2⟩ := b_b12.three
      have l_b := b_b12.lt
      obtain ⟨c_c0, c_c1, c_c2⟩ := b_c12.three
      have l_c := b_c12.lt
      obtain ⟨c_xu0, c_xu1, c_xu2⟩ := b_xu12.three
      have l_xu := b_xu12.lt
      obtain ⟨c_xx0, c_xx1, c_xx2⟩ := b_xx12.three
      have l_xx := b_xx12.lt
      obtain ⟨c_xm0, c_xm1, c_xm2⟩ := b_xm12.three
      have l_xm := b_xm12.lt
      obtain ⟨c_xy0, c_xy1, c_xy2⟩ := b_xy12.three
      have l_xy := b_xy12.lt
      obtain ⟨c_xz0, c_xz1, c_xz2⟩ := b_xz12.three
      have l_xz := b_xz12.lt
      obtain ⟨c_xp0, c_xp1, c_xp2⟩ := b_xp12.three
      have l_xp := b_xp12.lt
      obtain ⟨A12, ca12, D12, cd12, rfl, hs12, hd12⟩ := hr12.open_
      have o_a := l_a
      have o_b := l_b
      have o_c := l_c
      have o_xu := l_xu
      have o_xx := l_xx
      have o_xm := l_xm
      have o_xy := l_xy
      have o_xz := l_xz
      have o_xp := l_xp
      go_wp2_with fail
      refine ((show Calls _ _ _ _ (GivesOk (meet a (meet b c)) _) from (meet_told (ha.mono (hbw12.trans ((below_one w12 _).mono hbw12.size))) (hr12.mono (below_one _ _)) Wa.out (wf_meet Wb.out c)).mono fun e w' h => h.ok PL.out.2.2.2.2.1)).mono ?_
      rintro e w13 ⟨r13, rfl, hr13, hb13⟩
      have hbw13 := (hbw12.trans ((below_one w12 _).mono hbw12.size)).trans (hb13.mono (hbw12.trans ((below_one w12 _).mono hbw12.size)).size)
      have b_a13 := (b_a12.alloc _).below hb13
      have b_b13 := (b_b12.alloc _).below hb13
      have b_c13 := (b_c12.alloc _).below hb13
      have b_xu13 := (b_xu12.alloc _).below hb13
      have b_xx13 := (b_xx12.alloc _).below hb13
      have b_xm13 := (b_xm12.alloc _).below hb13
      have b_xy13 := (b_xy12.alloc _).below hb13
      have b_xz13 := (b_xz12.alloc _).below hb13
      have b_xp13 := (b_xp12.alloc _).below hb13
      have b_xq13 := (Box.new w12 24 #[.bool (meet b c).ch, .slice A12 (meet b c).sh.length ca12, .slice D12 (meet b c).da.length cd12]).below hb13
      have a_u13 := (a_u12.mono (below_one _ _)).mono hb13
      have a_x13 := (a_x12.mono (below_one _ _)).mono hb13
      have a_m13 := (a_m12.mono (below_one _ _)).mono hb13
      have a_y13 := (a_y12.mono (below_one _ _)).mono hb13
      have a_z13 := (a_z12.mono (below_one _ _)).mono hb13
      have a_p13 := (a_p12.mono (below_one _ _)).mono hb13
      have a_q13 := (hr12.mono (below_one _ _)).mono hb13
      clear hb13 b_a12 b_b12 b_c12 b_xu12 b_xx12 b_xm12 b_xy12 b_xz12 b_xp12 a_u12 a_x12 a_m12 a_y12 a_z12 a_p12 hr12 hbw12 c_a0 c_a1 c_a2 l_a c_b0 c_b1 c_b2 l_b c_c0 c_c1 c_c2 l_c c_xu0 c_xu1 c_xu2 l_xu c_xx0 c_xx1 c_xx2 l_xx c_xm0 c_xm1 c_xm2 l_xm c_xy0 c_xy1 c_xy2 l_xy c_xz0 c_xz1 c_xz2 l_xz c_xp0 c_xp1 c_xp2 l_xp
      obtain ⟨c_a0, c_a1, c_a2⟩ := b_a13.three
      have l_a := b_a13.lt
      obtain ⟨c_b0, c_b1, c_b2⟩ := b_b13.three
      have l_b := b_b13.lt
      obtain ⟨c_c0, c_c1, c_c2⟩ := b_c13.three
      have l_c := b_c13.lt
      obtain ⟨c_xu0, c_xu1, c_xu2⟩ := b_xu13.three
      have l_xu := b_xu13.lt
      obtain ⟨c_xx0, c_xx1, c_xx2⟩ := b_xx13.three
      have l_xx := b_xx13.lt
      obtain ⟨c_xm0, c_xm1, c_xm2⟩ := b_xm13.three
      have l_xm := b_xm13.lt
      obtain ⟨c_xy0, c_xy1, c_xy2⟩ := b_xy13.three
      have l_xy := b_xy13.lt
      obtain ⟨c_xz0, c_xz1, c_xz2⟩ := b_xz13.three
      have l_xz := b_xz13.lt
      obtain ⟨c_xp0, c_xp1, c_xp2⟩ := b_xp13.three
      have l_xp := b_xp13.lt
      obtain ⟨c_xq0, c_xq1, c_xq2⟩ := b_xq13.three
      have l_xq := b_xq13.lt
      obtain ⟨A13, ca13, D13, cd13, rfl, hs13, hd13⟩ := hr13.open_
      have fz13 := b_xq13.frozen
      have sc_a0_13 := cellS (q := ⟨w12.heap.size, 0, none⟩) (u := (.bool (meet a (meet b c)).ch)) c_a0 (by simp; omega)
      have sc_a1_13 := cellS (q := ⟨w12.heap.size, 1, none⟩) (u := (.slice A13 (meet a (meet b c)).sh.length ca13)) c_a1 (by simp; omega)
      have sc_a2_13 := cellS (q := ⟨w12.heap.size, 2, none⟩) (u := (.slice D13 (meet a (meet b c)).da.length cd13)) c_a2 (by simp; omega)
      have sc_b0_13 := cellS (q := ⟨w12.heap.size, 0, none⟩) (u := (.bool (meet a (meet b c)).ch)) c_b0 (by simp; omega)
      have sc_b1_13 := cellS (q := ⟨w12.heap.size, 1, none⟩) (u := (.slice A13 (meet a (meet b c)).sh.length ca13)) c_b1 (by simp; omega)
      have sc_b2_13 := cellS (q := ⟨w12.heap.size, 2, none⟩) (u := (.slice D13 (meet a (meet b c)).da.length cd13)) c_b2 (by simp; omega)
      have sc_c0_13 := cellS (q := ⟨w12.heap.size, 0, none⟩) (u := (.bool (meet a (meet b c)).ch)) c_c0 (by simp; omega)
      have sc_c1_13 := cellS (q := ⟨w12.heap.size, 1, none⟩) (u := (.slice A13 (meet a (meet b c)).sh.length ca13)) c_c1 (by simp; omega)
      have sc_c2_13 := cellS (q := ⟨w12.heap.size, 2, none⟩) (u := (.slice D13 (meet a (meet b c)).da.length cd13)) c_c2 (by simp; omega)
      have sc_xu0_13 := cellS (q := ⟨w12.heap.size, 0, none⟩) (u := (.bool (meet a (meet b c)).ch)) c_xu0 (by simp; omega)
      have sc_xu1_13 := cellS (q := ⟨w12.heap.size, 1, none⟩) (u := (.slice A13 (meet a (meet b c)).sh.length ca13)) c_xu1 (by simp; omega)
      have sc_xu2_13 := cellS (q := ⟨w12.heap.size, 2, none⟩) (u := (.slice D13 (meet a (meet b c)).da.length cd13)) c_xu2 (by simp; omega)
      have sc_xx0_13 := cellS (q := ⟨w12.heap.size, 0, none⟩) (u := (.bool (meet a (meet b c)).ch)) c_xx0 (by simp; omega)
      have sc_xx1_13 := cellS (q := ⟨w12.heap.size, 1, none⟩) (u := (.slice A13 (meet a (meet b c)).sh.length ca13)) c_xx1 (by simp; omega)
      have sc_xx2_13 := cellS (q := ⟨w12.heap.size, 2, none⟩) (u := (.slice D13 (meet a (meet b c)).da.length cd13)) c_xx2 (by simp; omega)
      have sc_xm0_13 := cellS (q := ⟨w12.heap.size, 0, none⟩) (u := (.bool (meet a (meet b c)).ch)) c_xm0 (by simp; omega)
      have sc_xm1_13 := cellS (q := ⟨w12.heap.size, 1, none⟩) (u := (.slice A13 (meet a (meet b c)).sh.length ca13)) c_xm1 (by simp; omega)
      have sc_xm2_13 := cellS (q := ⟨w12.heap.size, 2, none⟩) (u := (.slice D13 (meet a (meet b c)).da.length cd13)) c_xm2 (by simp; omega)
      have sc_xy0_13 := cellS (q := ⟨w12.heap.size, 0, none⟩) (u := (.bool (meet a (meet b c)).ch)) c_xy0 (by simp; omega)
      have sc_xy1_13 := cellS (q := ⟨w12.heap.size, 1, none⟩) (u := (.slice A13 (meet a (meet b c)).sh.length ca13)) c_xy1 (by simp; omega)
      have sc_xy2_13 := cellS (q := ⟨w12.heap.size, 2, none⟩) (u := (.slice D13 (meet a (meet b c)).da.length cd13)) c_xy2 (by simp; omega)
      have sc_xz0_13 := cellS (q := ⟨w12.heap.size, 0, none⟩) (u := (.bool (meet a (meet b c)).ch)) c_xz0 (by simp; omega)
      have sc_xz1_13 := cellS (q := ⟨w12.heap.size, 1, none⟩) (u := (.slice A13 (meet a (meet b c)).sh.length ca13)) c_xz1 (by simp; omega)
      have sc_xz2_13 := cellS (q := ⟨w12.heap.size, 2, none⟩) (u := (.slice D13 (meet a (meet b c)).da.length cd13)) c_xz2 (by simp; omega)
      have sc_xp0_13 := cellS (q := ⟨w12.heap.size, 0, none⟩) (u := (.bool (meet a (meet b c)).ch)) c_xp0 (by simp; omega)
      have sc_xp1_13 := cellS (q := ⟨w12.heap.size, 1, none⟩) (u := (.slice A13 (meet a (meet b c)).sh.length ca13)) c_xp1 (by simp; omega)
      have sc_xp2_13 := cellS (q := ⟨w12.heap.size, 2, none⟩) (u := (.slice D13 (meet a (meet b c)).da.length cd13)) c_xp2 (by simp; omega)
      have gb13 := grownBy_three w13 (w12.heap.size) (.bool (meet a (meet b c)).ch) (.slice A13 (meet a (meet b c)).sh.length ca13) (.slice D13 (meet a (meet b c)).da.length cd13)
      have n_a13 := b_a13.grown gb13 (by simp; omega)
      have n_b13 := b_b13.grown gb13 (by simp; omega)
      have n_c13 := b_c13.grown gb13 (by simp; omega)
      have n_xu13 := b_xu13.grown gb13 (by simp; omega)
      have n_xx13 := b_xx13.grown gb13 (by simp; omega)
      have n_xm13 := b_xm13.grown gb13 (by simp; omega)
      have n_xy13 := b_xy13.grown gb13 (by simp; omega)
      have n_xz13 := b_xz13.grown gb13 (by simp; omega)
      have n_xp13 := b_xp13.grown gb13 (by simp; omega)
      have n_xq13 := ((b_xq13.store 0 (.bool (meet a (meet b c)).ch)).store 1 (.slice A13 (meet a (meet b c)).sh.length ca13)).store 2 (.slice D13 (meet a (meet b c)).da.length cd13)
      simp only [List.setIfInBounds_toArray, List.set_cons_zero, List.set_cons_succ] at n_xq13
      have m_u13 := a_u13.laid b_xq13 (.bool (meet a (meet b c)).ch) (.slice A13 (meet a (meet b c)).sh.length ca13) (.slice D13 (meet a (meet b c)).da.length cd13)
      have m_x13 := a_x13.laid b_xq13 (.bool (meet a (meet b c)).ch) (.slice A13 (meet a (meet b c)).sh.length ca13) (.slice D13 (meet a (meet b c)).da.length cd13)
      have m_m13 := a_m13.laid b_xq13 (.bool (meet a (meet b c)).ch) (.slice A13 (meet a (meet b c)).sh.length ca13) (.slice D13 (meet a (meet b c)).da.length cd13)
      have m_y13 := a_y13.laid b_xq13 (.bool (meet a (meet b c)).ch) (.slice A13 (meet a (meet b c)).sh.length ca13) (.slice D13 (meet a (meet b c)).da.length cd13)
      have m_z13 := a_z13.laid b_xq13 (.bool (meet a (meet b c)).ch) (.slice A13 (meet a (meet b c)).sh.length ca13) (.slice D13 (meet a (meet b c)).da.length cd13)
      have m_p13 := a_p13.laid b_xq13 (.bool (meet a (meet b c)).ch) (.slice A13 (meet a (meet b c)).sh.length ca13) (.slice D13 (meet a (meet b c)).da.length cd13)
      have m_q13 := a_q13.laid b_xq13 (.bool (meet a (meet b c)).ch) (.slice A13 (meet a (meet b c)).sh.length ca13) (.slice D13 (meet a (meet b c)).da.length cd13)
      have m_q213 := hr13.laid b_xq13 (.bool (meet a (meet b c)).ch) (.slice A13 (meet a (meet b c)).sh.length ca13) (.slice D13 (meet a (meet b c)).da.length cd13)
      have hbs13 : Below w.heap.size w (((w13.setCell ⟨w12.heap.size, 0, none⟩ (.bool (meet a (meet b c)).ch)).setCell ⟨w12.heap.size, 1, none⟩ (.slice A13 (meet a (meet b c)).sh.length ca13)).setCell ⟨w12.heap.size, 2, none⟩ (.slice D13 (meet a (meet b c)).da.length cd13)) := by have := hbw13.size; go_grown
      go_wp2_with fail
      refine (alike_nil _ _ _ _ _ m_p13 m_q213).mono ?_
      rintro e w14 ⟨r14, rfl, hr14, hb14⟩
      have e14 : r14 = true := hr14.2 (PL.out.2.2.2.2.2.2.1)
      subst e14
      clear hr14
      have hbw14 := hbs13.trans (hb14.mono hbs13.size)
      have b_a14 := n_a13.below hb14
      have b_b14 := n_b13.below hb14
      have b_c14 := n_c13.below hb14
      have b_xu14 := n_xu13.below hb14
      have b_xx14 := n_xx13.below hb14
      have b_xm14 := n_xm13.below hb14
      have b_xy14 := n_xy13.below hb14
      have b_xz14 := n_xz13.below hb14
      have b_xp14 := n_xp13.below hb14
      have b_xq14 := n_xq13.below hb14
      have a_u14 := m_u13.mono hb14
      have a_x14 := m_x13.mono hb14
      have a_m14 := m_m13.mono hb14
      have a_y14 := m_y13.mono hb14
      have a_z14 := m_z13.mono hb14
      have a_p14 := m_p13.mono hb14
      have a_q14 := m_q13.mono hb14
      have a_q214 := m_q213.mono hb14
      clear hb14 n_a13 n_b13 n_c13 n_xu13 n_xx13 n_xm13 n_xy13 n_xz13 n_xp13 n_xq13 m_u13 m_x13 m_m13 m_y13 m_z13 m_p13 m_q13 m_q213 c_a0 c_a1 c_a2 l_a c_b0 c_b1 c_b2 l_b c_c0 c_c1 c_c2 l_c c_xu0 c_xu1 c_xu2 l_xu c_xx0 c_xx1 c_xx2 l_xx c_xm0 c_xm1 c_xm2 l_xm c_xy0 c_xy1 c_xy2 l_xy c_xz0 c_xz1 c_xz2 l_xz c_xp0 c_xp1 c_xp2 l_xp c_xq0 c_xq1 c_xq2 l_xq sc_a0_13 sc_a1_13 sc_a2_13 sc_b0_13 sc_b1_13 sc_b2_13 sc_c0_13 sc_c1_13 sc_c2_13 sc_xu0_13 sc_xu1_13 sc_xu2_13 sc_xx0_13 sc_xx1_13 sc_xx2_13 sc_xm0_13 sc_xm1_13 sc_xm2_13 sc_xy0_13 sc_xy1_13 sc_xy2_13 sc_xz0_13 sc_xz1_13 sc_xz2_13 sc_xp0_13 sc_xp1_13 sc_xp2_13 fz13
      obtain ⟨c_a0, c_a1, c_a2⟩ := b_a14.three
      have l_a := b_a14.lt
      obtain ⟨c_b0, c_b1, c_b2⟩ := b_b14.three
      have l_b := b_b14.lt
      obtain ⟨c_c0, c_c1, c_c2⟩ := b_c14.three
      have l_c := b_c14.lt
      obtain ⟨c_xu0, c_xu1, c_xu2⟩ := b_xu14.three
      have l_xu := b_xu14.lt
      obtain ⟨c_xx0, c_xx1, c_xx2⟩ := b_xx14.three
      have l_xx := b_xx14.lt
      obtain ⟨c_xm0, c_xm1, c_xm2⟩ := b_xm14.three
      have l_xm := b_xm14.lt
      obtain ⟨c_xy0, c_xy1, c_xy2⟩ := b_xy14.three
      have l_xy := b_xy14.lt
      obtain ⟨c_xz0, c_xz1, c_xz2⟩ := b_xz14.three
      have l_xz := b_xz14.lt
      obtain ⟨c_xp0, c_xp1, c_xp2⟩ := b_xp14.three
      have l_xp := b_xp14.lt
      obtain ⟨c_xq0, c_xq1, c_xq2⟩ := b_xq14.three
      have l_xq := b_xq14.lt
      have hs := PL.out.2.2.2.2.2.2.2.1
      have h4 := PL.out.2.2.2.2.2.2.2.2
      have eS : (((without a b).da.length : Int) + ((meet a b).da.length : Int) == (a.da.length : Int)) = true := by simp; omega
      have eW : IntKind.i64.wrap (((without a b).da.length : Int) + ((meet a b).da.length : Int)) = ((without a b).da.length : Int) + ((meet a b).da.length : Int) := IntWalk.i64_in _ (by omega)
      clear hs
      go_wp2_with fail
      go_ret
      exact ⟨rfl, by have := hbw14.size; go_grown⟩
    · skip
      have HU := Lib.hid hU
      have HP := Lib.hid hP
      clear hU hP
      go_wp2_with fail
      refine ((show Calls _ _ _ _ (GivesOk (union b c) _) from (union_told (hb.mono hbw4) (hc.mono hbw4) Wb.out Wc.out).mono fun e w' h => h.ok HU.out)).mono ?_
      rintro e w5 ⟨r5, rfl, hr5, hb5⟩
      have hbw5 := hbw4.trans (hb5.mono hbw4.size)
      have b_a5 := b_a4.below hb5
      have b_b5 := b_b4.below hb5
      have b_c5 := b_c4.below hb5
      clear hb5 b_a4 b_b4 b_c4 hbw4 c_a0 c_a1 c_a2 l_a c_b0 c_b1 c_b2 l_b c_c0 c_c1 c_c2 l_c
      obtain ⟨c_a0, c_a1, c_a2⟩ := b_a5.three
      have l_a := b_a5.lt
      obtain ⟨c_b0, c_b1, c_b2⟩ := b_b5.three
      have l_b := b_b5.lt
      obtain ⟨c_c0, c_c1, c_c2⟩ := b_c5.three
      have l_c := b_c5.lt
      obtain ⟨A5, ca5, D5, cd5, rfl, hs5, hd5⟩ := hr5.open_
      go_wp2_with fail
      refine ((without_told (ha.mono (hbw5.trans ((below_one w5 _).mono hbw5.size))) (hb.mono (hbw5.trans ((below_one w5 _).mono hbw5.size))) Wa.out Wb.out).mono fun e w' h => h.bad HP.out).mono ?_
      rintro e w6 ⟨rfl, hb6⟩
      have hbw6 := (hbw5.trans ((below_one w5 _).mono hbw5.size)).trans (hb6.mono (hbw5.trans ((below_one w5 _).mono hbw5.size)).size)
      have b_a6 := (b_a5.alloc _).below hb6
      have b_b6 := (b_b5.alloc _).below hb6
      have b_c6 := (b_c5.alloc _).below hb6
      have b_xu6 := (Box.new w5 24 #[.bool (union b c).ch, .slice A5 (union b c).sh.length ca5, .slice D5 (union b c).da.length cd5]).below hb6
      have a_u6 := (hr5.mono (below_one _ _)).mono hb6
      clear hb6 b_a5 b_b5 b_c5 hr5 hbw5 c_a0 c_a1 c_a2 l_a c_b0 c_b1 c_b2 l_b c_c0 c_c1 c_c2 l_c
      obtain ⟨c_a0, c_a1, c_a2⟩ := b_a6.three
      have l_a := b_a6.lt
      obtain ⟨c_b0, c_b1, c_b2⟩ := b_b6.three
      have l_b := b_b6.lt
      obtain ⟨c_c0, c_c1, c_c2⟩ := b_c6.three
      have l_c := b_c6.lt
      obtain ⟨c_xu0, c_xu1, c_xu2⟩ := b_xu6.three
      have l_xu := b_xu6.lt
      go_wp2_with fail
      refine ((meet_told (ha.mono (hbw6.trans ((below_one w6 _).mono hbw6.size))) (hb.mono (hbw6.trans ((below_one w6 _).mono hbw6.size))) Wa.out Wb.out).mono fun e w' h => h.bad HP.out).mono ?_
      rintro e w7 ⟨rfl, hb7⟩
      have hbw7 := (hbw6.trans ((below_one w6 _).mono hbw6.size)).trans (hb7.mono (hbw6.trans ((below_one w6 _).mono hbw6.size)).size)
      have b_a7 := (b_a6.alloc _).below hb7
      have b_b7 := (b_b6.alloc _).below hb7
      have b_c7 := (b_c6.alloc _).below hb7
      have b_xu7 := (b_xu6.alloc _).below hb7
      have b_xx7 := (Box.new w6 24 #[.bool false, .slice none 0 0, .slice none 0 0]).below hb7
      have a_u7 := (a_u6.mono (below_one _ _)).mono hb7
      clear hb7 b_a6 b_b6 b_c6 b_xu6 a_u6 hbw6 c_a0 c_a1 c_a2 l_a c_b0 c_b1 c_b2 l_b c_c0 c_c1 c_c2 l_c c_xu0 c_xu1 c_xu2 l_xu
      obtain ⟨c_a0, c_a1, c_a2⟩ := b_a7.three
      have l_a := b_a7.lt
      obtain ⟨c_b0, c_b1, c_b2⟩ := b_b7.three
      have l_b := b_b7.lt
      obtain ⟨c_c0, c_c1, c_c2⟩ := b_c7.three
      have l_c := b_c7.lt
      obtain ⟨c_xu0, c_xu1, c_xu2⟩ := b_xu7.three
      have l_xu := b_xu7.lt
      obtain ⟨c_xx0, c_xx1, c_xx2⟩ := b_xx7.three
      have l_xx := b_xx7.lt
      go_wp2_with fail
      go_ret
      exact ⟨rfl, by have := hbw7.size; go_grown⟩
  · skip
    by_cases hP : pairErr a b = 0
    · skip
      have HU := Lib.hid hU
      have HP := Lib.hid hP
      clear hU hP
      go_wp2_with fail
      refine ((union_told (hb.mono hbw4) (hc.mono hbw4) Wb.out Wc.out).mono fun e w' h => h.bad HU.out).mono ?_
      rintro e w5 ⟨rfl, hb5⟩
      have hbw5 := hbw4.trans (hb5.mono hbw4.size)
      have b_a5 := b_a4.below hb5
      have b_b5 := b_b4.below hb5
      have b_c5 := b_c4.below hb5
      clear hb5 b_a4 b_b4 b_c4 hbw4 c_a0 c_a1 c_a2 l_a c_b0 c_b1 c_b2 l_b c_c0 c_c1 c_c2 l_c
      obtain ⟨c_a0, c_a1, c_a2⟩ := b_a5.three
      have l_a := b_a5.lt
      obtain ⟨c_b0, c_b1, c_b2⟩ := b_b5.three
      have l_b := b_b5.lt
      obtain ⟨c_c0, c_c1, c_c2⟩ := b_c5.three
      have l_c := b_c5.lt
      go_wp2_with fail
      refine ((show Calls _ _ _ _ (GivesOk (without a b) _) from (without_told (ha.mono (hbw5.trans ((below_one w5 _).mono hbw5.size))) (hb.mono (hbw5.trans ((below_one w5 _).mono hbw5.size))) Wa.out Wb.out).mono fun e w' h => h.ok HP.out)).mono ?_
      rintro e w6 ⟨r6, rfl, hr6, hb6⟩
      have hbw6 := (hbw5.trans ((below_one w5 _).mono hbw5.size)).trans (hb6.mono (hbw5.trans ((below_one w5 _).mono hbw5.size)).size)
      have b_a6 := (b_a5.alloc _).below hb6
      have b_b6 := (b_b5.alloc _).below hb6
      have b_c6 := (b_c5.alloc _).below hb6
      have b_xu6 := (Box.new w5 24 #[.bool false, .slice none 0 0, .slice none 0 0]).below hb6
      clear hb6 b_a5 b_b5 b_c5 hbw5 c_a0 c_a1 c_a2 l_a c_b0 c_b1 c_b2 l_b c_c0 c_c1 c_c2 l_c
      obtain ⟨c_a0, c_a1, c_a2⟩ := b_a6.three
      have l_a := b_a6.lt
      obtain ⟨c_b0, c_b1, c_b2⟩ := b_b6.three
      have l_b := b_b6.lt
      obtain ⟨c_c0, c_c1, c_c2⟩ := b_c6.three
      have l_c := b_c6.lt
      obtain ⟨c_xu0, c_xu1, c_xu2⟩ := b_xu6.three
      have l_xu := b_xu6.lt
      obtain ⟨A6, ca6, D6, cd6, rfl, hs6, hd6⟩ := hr6.open_
      go_wp2_with fail
      refine ((show Calls _ _ _ _ (GivesOk (meet a b) _) from (meet_told (ha.mono (hbw6.trans ((below_one w6 _).mono hbw6.size))) (hb.mono (hbw6.trans ((below_one w6 _).mono hbw6.size))) Wa.out Wb.out).mono fun e w' h => h.ok HP.out)).mono ?_
      rintro e w7 ⟨r7, rfl, hr7, hb7⟩
      have hbw7 := (hbw6.trans ((below_one w6 _).mono hbw6.size)).trans (hb7.mono (hbw6.trans ((below_one w6 _).mono hbw6.size)).size)
      have b_a7 := (b_a6.alloc _).below hb7
      have b_b7 := (b_b6.alloc _).below hb7
      have b_c7 := (b_c6.alloc _).below hb7
      have b_xu7 := (b_xu6.alloc _).below hb7
      have b_xx7 := (Box.new w6 24 #[.bool (without a b).ch, .slice A6 (without a b).sh.length ca6, .slice D6 (without a b).da.length cd6]).below hb7
      have a_x7 := (hr6.mono (below_one _ _)).mono hb7
      clear hb7 b_a6 b_b6 b_c6 b_xu6 hr6 hbw6 c_a0 c_a1 c_a2 l_a c_b0 c_b1 c_b2 l_b c_c0 c_c1 c_c2 l_c c_xu0 c_xu1 c_xu2 l_xu
      obtain ⟨c_a0, c_a1, c_a2⟩ := b_a7.three
      have l_a := b_a7.lt
      obtain ⟨c_b0, c_b1, c_b2⟩ := b_b7.three
      have l_b := b_b7.lt
      obtain ⟨c_c0, c_c1, c_c2⟩ := b_c7.three
      have l_c := b_c7.lt
      obtain ⟨c_xu0, c_xu1, c_xu2⟩ := b_xu7.three
      have l_xu := b_xu7.lt
      obtain ⟨c_xx0, c_xx1, c_xx2⟩ := b_xx7.three
      have l_xx := b_xx7.lt
      obtain ⟨A7, ca7, D7, cd7, rfl, hs7, hd7⟩ := hr7.open_
      go_wp2_with fail
      go_ret
      exact ⟨rfl, by have := hbw7.size; go_grown⟩
    · skip
      have HU := Lib.hid hU
      have HP := Lib.hid hP
      clear hU hP
      go_wp2_with fail
      refine ((union_told (hb.mono hbw4) (hc.mono hbw4) Wb.out Wc.out).mono fun e w' h => h.bad HU.out).mono ?_
      rintro e w5 ⟨rfl, hb5⟩
      have hbw5 := hbw4.trans (hb5.mono hbw4.size)
      have b_a5 := b_a4.below hb5
      have b_b5 := b_b4.below hb5
      have b_c5 := b_c4.below hb5
      clear hb5 b_a4 b_b4 b_c4 hbw4 c_a0 c_a1 c_a2 l_a c_b0 c_b1 c_b2 l_b c_c0 c_c1 c_c2 l_c
      obtain ⟨c_a0, c_a1, c_a2⟩ := b_a5.three
      have l_a := b_a5.lt
      obtain ⟨c_b0, c_b1, c_b2⟩ := b_b5.three
      have l_b := b_b5.lt
      obtain ⟨c_c0, c_c1, c_c2⟩ := b_c5.three
      have l_c := b_c5.lt
      go_wp2_with fail
      refine ((without_told (ha.mono (hbw5.trans ((below_one w5 _).mono hbw5.size))) (hb.mono (hbw5.trans ((below_one w5 _).mono hbw5.size))) Wa.out Wb.out).mono fun e w' h => h.bad HP.out).mono ?_
      rintro e w6 ⟨rfl, hb6⟩
      have hbw6 := (hbw5.trans ((below_one w5 _).mono hbw5.size)).trans (hb6.mono (hbw5.trans ((below_one w5 _).mono hbw5.size)).size)
      have b_a6 := (b_a5.alloc _).below hb6
      have b_b6 := (b_b5.alloc _).below hb6
      have b_c6 := (b_c5.alloc _).below hb6
      have b_xu6 := (Box.new w5 24 #[.bool false, .slice none 0 0, .slice none 0 0]).below hb6
      clear hb6 b_a5 b_b5 b_c5 hbw5 c_a0 c_a1 c_a2 l_a c_b0 c_b1 c_b2 l_b c_c0 c_c1 c_c2 l_c
      obtain ⟨c_a0, c_a1, c_a2⟩ := b_a6.three
      have l_a := b_a6.lt
      obtain ⟨c_b0, c_b1, c_b2⟩ := b_b6.three
      have l_b := b_b6.lt
      obtain ⟨c_c0, c_c1, c_c2⟩ := b_c6.three
      have l_c := b_c6.lt
      obtain ⟨c_xu0, c_xu1, c_xu2⟩ := b_xu6.three
      have l_xu := b_xu6.lt
      go_wp2_with fail
      refine ((meet_told (ha.mono (hbw6.trans ((below_one w6 _).mono hbw6.size))) (hb.mono (hbw6.trans ((below_one w6 _).mono hbw6.size))) Wa.out Wb.out).mono fun e w' h => h.bad HP.out).mono ?_
      rintro e w7 ⟨rfl, hb7⟩
      have hbw7 := (hbw6.trans ((below_one w6 _).mono hbw6.size)).trans (hb7.mono (hbw6.trans ((below_one w6 _).mono hbw6.size)).size)
      have b_a7 := (b_a6.alloc _).below hb7
      have b_b7 := (b_b6.alloc _).below hb7
      have b_c7 := (b_c6.alloc _).below hb7
      have b_xu7 := (b_xu6.alloc _).below hb7
      have b_xx7 := (Box.new w6 24 #[.bool false, .slice none 0 0, .slice none 0 0]).below hb7
      clear hb7 b_a6 b_b6 b_c6 b_xu6 hbw6 c_a0 c_a1 c_a2 l_a c_b0 c_b1 c_b2 l_b c_c0 c_c1 c_c2 l_c c_xu0 c_xu1 c_xu2 l_xu
      obtain ⟨c_a0, c_a1, c_a2⟩ := b_a7.three
      have l_a := b_a7.lt
      obtain ⟨c_b0, c_b1, c_b2⟩ := b_b7.three
      have l_b := b_b7.lt
      obtain ⟨c_c0, c_c1, c_c2⟩ := b_c7.three
      have l_c := b_c7.lt
      obtain ⟨c_xu0, c_xu1, c_xu2⟩ := b_xu7.three
      have l_xu := b_xu7.lt
      obtain ⟨c_xx0, c_xx1, c_xx2⟩ := b_xx7.three
      have l_xx := b_xx7.lt
      go_wp2_with fail
      go_ret
      exact ⟨rfl, by have := hbw7.size; go_grown⟩

end Go.Proofs.Ytfemeaehpjajlaa
