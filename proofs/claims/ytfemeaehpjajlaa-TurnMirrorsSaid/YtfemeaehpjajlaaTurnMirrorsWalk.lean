/- The walk of the law TurnMirrors. Conditions: none. -/
import Derived.Test.YtfemeaehpjajlaaRev
import Derived.Test.YtfemeaehpjajlaaAlike
namespace Go.Proofs.Ytfemeaehpjajlaa
open Go Go.RowKit Go.Proofs.Ytfemeaehpjajlaa.P

set_option maxRecDepth 100000 in
set_option maxHeartbeats 4000000 in
theorem turnMirrors_walk (n i : Int) (v : Value) (a : Arr) (w : World) (ha : IsArr w v a) :
    Calls Try.prog 7 #[.int .i64 n, .int .i64 i, v] w (Says w) := by
  obtain ⟨A, ca, D, cd, rfl, hs, hd⟩ := ha.open_
  go_enter Try.func7, Try.ntmps7
  go_wp2_with fail
  have bv := Box.new (w.alloc (.cells #[.bool a.ch, .slice A a.sh.length ca, .slice D a.da.length cd] 24)) 3 #[.int .i64 1, .int .i64 2, .int .i64 3]
  simp only [World.size_alloc] at bv
  refine (vec_any _ [1, 2, 3] _ (bv.isInts rfl (by simp))).mono ?_
  rintro e w1 ⟨r1, rfl, hr1, hb1⟩
  have hbw1 := ((Below.refl w.heap.size w).trans ((below_two w _ _).mono (Below.refl w.heap.size w).size)).trans (hb1.mono ((Below.refl w.heap.size w).trans ((below_two w _ _).mono (Below.refl w.heap.size w).size)).size)
  have b_a1 := ((Box.new w 24 #[.bool a.ch, .slice A a.sh.length ca, .slice D a.da.length cd]).alloc _).below hb1
  have b_v1 := (Box.new (w.alloc (.cells #[.bool a.ch, .slice A a.sh.length ca, .slice D a.da.length cd] 24)) 3 #[.int .i64 1, .int .i64 2, .int .i64 3]).below hb1
  simp only [World.size_alloc] at b_v1
  clear hb1 bv
  obtain ⟨c_a0, c_a1, c_a2⟩ := b_a1.three
  have l_a := b_a1.lt
  have l_v := b_v1.lt
  go_wp2_with fail
  refine (rotate_ok (m := -1) (k := 0) hr1 (ok_vec (by simp)) (by simp)).mono ?_
  rintro e w2 ⟨r2, rfl, hr2, hb2⟩
  have hbw2 := hbw1.trans (hb2.mono hbw1.size)
  have b_a2 := b_a1.below hb2
  have a_v2 := hr1.mono hb2
  clear hb2 b_a1 hr1 hbw1 c_a0 c_a1 c_a2 l_a l_v
  obtain ⟨c_a0, c_a1, c_a2⟩ := b_a2.three
  have l_a := b_a2.lt
  obtain ⟨A2, ca2, D2, cd2, rfl, hs2, hd2⟩ := hr2.open_
  go_wp2_with fail
  have bq := Box.new (w2.alloc (.cells #[.bool ((rot (-1) 0 ⟨false, [3], [1, 2, 3]⟩)).ch, .slice A2 ((rot (-1) 0 ⟨false, [3], [1, 2, 3]⟩)).sh.length ca2, .slice D2 ((rot (-1) 0 ⟨false, [3], [1, 2, 3]⟩)).da.length cd2] 24)) 3 #[.int .i64 3, .int .i64 1, .int .i64 2]
  rw [World.size_alloc] at bq
  refine (ints_any _ _ _ [3, 1, 2] _ (hd2.mono (below_two _ _ _)) (bq.isInts rfl (by simp))).mono ?_
  rintro e w3 ⟨r3, rfl, hr3, hb3⟩
  have e3 : r3 = true := hr3.2 rfl
  subst e3
  clear hr3 hs2 hd2
  clear hr2
  have hbw3 := (hbw2.trans ((below_two w2 _ _).mono hbw2.size)).trans (hb3.mono (hbw2.trans ((below_two w2 _ _).mono hbw2.size)).size)
  have b_a3 := ((b_a2.alloc _).alloc _).below hb3
  clear hb3 b_a2 hbw2 c_a0 c_a1 c_a2 l_a bq
  obtain ⟨c_a0, c_a1, c_a2⟩ := b_a3.three
  have l_a := b_a3.lt
  rcases Int.lt_or_le 1099511627776 n with g1 | g1
  · have g1' : decide (1099511627776 < n) = true := by simpa using g1
    go_wp2_with fail
    go_ret
    exact ⟨rfl, by have := hbw3.size; go_grown⟩
  rcases Int.lt_or_le n (-1099511627776) with g2 | g2
  · have g2' : decide (n < -1099511627776) = true := by simpa using g2
    have g1' : decide (1099511627776 < n) = false := by simp; omega
    go_wp2_with fail
    go_ret
    exact ⟨rfl, by have := hbw3.size; go_grown⟩
  have g1' : decide (1099511627776 < n) = false := by simp; omega
  have g2' : decide (n < -1099511627776) = false := by simp; omega
  by_cases h1 : axErr i a = 0
  · obtain ⟨t, k1, ht, rfl, hk1⟩ := axErr_zero h1
    have Ht := Lib.hid ht
    have Hk1 := Lib.hid hk1
    clear h1 ht hk1
    go_wp2_with fail
    refine (reverse_ok (ha.mono hbw3) Ht.out Hk1.out).mono ?_
    rintro e w4 ⟨r4, rfl, hr4, hb4⟩
    have hbw4 := hbw3.trans (hb4.mono hbw3.size)
    have b_a4 := b_a3.below hb4
    clear hb4 b_a3 hbw3 c_a0 c_a1 c_a2 l_a
    obtain ⟨c_a0, c_a1, c_a2⟩ := b_a4.three
    have l_a := b_a4.lt
    obtain ⟨A4, ca4, D4, cd4, rfl, hs4, hd4⟩ := hr4.open_
    go_wp2_with fail
    refine (rotate_ok (m := n) (hr4.mono (below_one _ _)) (rev_ok Ht.out) Hk1.out).mono ?_
    rintro e w5 ⟨r5, rfl, hr5, hb5⟩
    have hbw5 := (hbw4.trans ((below_one w4 _).mono hbw4.size)).trans (hb5.mono (hbw4.trans ((below_one w4 _).mono hbw4.size)).size)
    have b_a5 := (b_a4.alloc _).below hb5
    have b_xx5 := (Box.new w4 24 #[.bool (rev k1 a).ch, .slice A4 (rev k1 a).sh.length ca4, .slice D4 (rev k1 a).da.length cd4]).below hb5
    have a_x5 := (hr4.mono (below_one _ _)).mono hb5
    clear hb5 b_a4 hr4 hbw4 c_a0 c_a1 c_a2 l_a
    obtain ⟨c_a0, c_a1, c_a2⟩ := b_a5.three
    have l_a := b_a5.lt
    obtain ⟨c_xx0, c_xx1, c_xx2⟩ := b_xx5.three
    have l_xx := b_xx5.lt
    obtain ⟨A5, ca5, D5, cd5, rfl, hs5, hd5⟩ := hr5.open_
    go_wp2_with fail
    refine (reverse_ok (hr5.mono (below_one _ _)) (rot_ok (rev_ok Ht.out)) Hk1.out).mono ?_
    rintro e w6 ⟨r6, rfl, hr6, hb6⟩
    have hbw6 := (hbw5.trans ((below_one w5 _).mono hbw5.size)).trans (hb6.mono (hbw5.trans ((below_one w5 _).mono hbw5.size)).size)
    have b_a6 := (b_a5.alloc _).below hb6
    have b_xx6 := (b_xx5.alloc _).below hb6
    have b_xy6 := (Box.new w5 24 #[.bool (rot n k1 (rev k1 a)).ch, .slice A5 (rot n k1 (rev k1 a)).sh.length ca5, .slice D5 (rot n k1 (rev k1 a)).da.length cd5]).below hb6
    have a_x6 := (a_x5.mono (below_one _ _)).mono hb6
    have a_y6 := (hr5.mono (below_one _ _)).mono hb6
    clear hb6 b_a5 b_xx5 a_x5 hr5 hbw5 c_a0 c_a1 c_a2 l_a c_xx0 c_xx1 c_xx2 l_xx
    obtain ⟨c_a0, c_a1, c_a2⟩ := b_a6.three
    have l_a := b_a6.lt
    obtain ⟨c_xx0, c_xx1, c_xx2⟩ := b_xx6.three
    have l_xx := b_xx6.lt
    obtain ⟨c_xy0, c_xy1, c_xy2⟩ := b_xy6.three
    have l_xy := b_xy6.lt
    obtain ⟨A6, ca6, D6, cd6, rfl, hs6, hd6⟩ := hr6.open_
    go_wp2_with fail
    refine (rotate_ok (m := -n) (ha.mono (hbw6.trans ((below_one w6 _).mono hbw6.size))) Ht.out Hk1.out).mono ?_
    rintro e w7 ⟨r7, rfl, hr7, hb7⟩
    have hbw7 := (hbw6.trans ((below_one w6 _).mono hbw6.size)).trans (hb7.mono (hbw6.trans ((below_one w6 _).mono hbw6.size)).size)
    have b_a7 := (b_a6.alloc _).below hb7
    have b_xx7 := (b_xx6.alloc _).below hb7
    have b_xy7 := (b_xy6.alloc _).below hb7
    have b_xz7 := (Box.new w6 24 #[.bool (rev k1 (rot n k1 (rev k1 a))).ch, .slice A6 (rev k1 (rot n k1 (rev k1 a))).sh.length ca6, .slice D6 (rev k1 (rot n k1 (rev k1 a))).da.length cd6]).below hb7
    have a_x7 := (a_x6.mono (below_one _ _)).mono hb7
    have a_y7 := (a_y6.mono (below_one _ _)).mono hb7
    have a_z7 := (hr6.mono (below_one _ _)).mono hb7
    clear hb7 b_a6 b_xx6 b_xy6 a_x6 a_y6 hr6 hbw6 c_a0 c_a1 c_a2 l_a c_xx0 c_xx1 c_xx2 l_xx c_xy0 c_xy1 c_xy2 l_xy
    obtain ⟨c_a0, c_a1, c_a2⟩ := b_a7.three
    have l_a := b_a7.lt
    obtain ⟨c_xx0, c_xx1, c_xx2⟩ := b_xx7.three
    have l_xx := b_xx7.lt
    obtain ⟨c_xy0, c_xy1, c_xy2⟩ := b_xy7.three
    have l_xy := b_xy7.lt
    obtain ⟨c_xz0, c_xz1, c_xz2⟩ := b_xz7.three
    have l_xz := b_xz7.lt
    obtain ⟨A7, ca7, D7, cd7, rfl, hs7, hd7⟩ := hr7.open_
    go_wp2_with fail
    refine (alike_nil _ _ _ _ _ (a_z7.mono (below_one _ _)) (hr7.mono (below_one _ _))).mono ?_
    rintro e w8 ⟨r8, rfl, hr8, hb8⟩
    have e8 : r8 = true := hr8.2 (rev_rot_rev Ht.out Hk1.out n)
    subst e8
    clear hr8
    have hbw8 := (hbw7.trans ((below_one w7 _).mono hbw7.size)).trans (hb8.mono (hbw7.trans ((below_one w7 _).mono hbw7.size)).size)
    have b_a8 := (b_a7.alloc _).below hb8
    have b_xx8 := (b_xx7.alloc _).below hb8
    have b_xy8 := (b_xy7.alloc _).below hb8
    have b_xz8 := (b_xz7.alloc _).below hb8
    have b_xw8 := (Box.new w7 24 #[.bool (rot (-n) k1 a).ch, .slice A7 (rot (-n) k1 a).sh.length ca7, .slice D7 (rot (-n) k1 a).da.length cd7]).below hb8
    have a_x8 := (a_x7.mono (below_one _ _)).mono hb8
    have a_y8 := (a_y7.mono (below_one _ _)).mono hb8
    have a_z8 := (a_z7.mono (below_one _ _)).mono hb8
    have a_w8 := (hr7.mono (below_one _ _)).mono hb8
    clear hb8 b_a7 b_xx7 b_xy7 b_xz7 a_x7 a_y7 a_z7 hr7 hbw7 c_a0 c_a1 c_a2 l_a c_xx0 c_xx1 c_xx2 l_xx c_xy0 c_xy1 c_xy2 l_xy c_xz0 c_xz1 c_xz2 l_xz
    obtain ⟨c_a0, c_a1, c_a2⟩ := b_a8.three
    have l_a := b_a8.lt
    obtain ⟨c_xx0, c_xx1, c_xx2⟩ := b_xx8.three
    have l_xx := b_xx8.lt
    obtain ⟨c_xy0, c_xy1, c_xy2⟩ := b_xy8.three
    have l_xy := b_xy8.lt
    obtain ⟨c_xz0, c_xz1, c_xz2⟩ := b_xz8.three
    have l_xz := b_xz8.lt
    obtain ⟨c_xw0, c_xw1, c_xw2⟩ := b_xw8.three
    have l_xw := b_xw8.lt
    go_wp2_with fail
    go_ret
    exact ⟨rfl, by have := hbw8.size; go_grown⟩
  · have h1' := Lib.hid h1
    clear h1
    go_wp2_with fail
    refine (reverse_bad (ha.mono hbw3) h1'.out).mono ?_
    rintro e w4 ⟨rfl, hb4⟩
    have hbw4 := hbw3.trans (hb4.mono hbw3.size)
    have b_a4 := b_a3.below hb4
    clear hb4 b_a3 hbw3 c_a0 c_a1 c_a2 l_a
    obtain ⟨c_a0, c_a1, c_a2⟩ := b_a4.three
    have l_a := b_a4.lt
    go_wp2_with fail
    go_ret
    exact ⟨rfl, by have := hbw4.size; go_grown⟩

end Go.Proofs.Ytfemeaehpjajlaa
