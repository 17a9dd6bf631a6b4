/- The walk of the law CutWhole. Conditions: none. -/
import Derived.Test.YtfemeaehpjajlaaWholePlain
import Derived.Test.YtfemeaehpjajlaaStore
import Derived.Test.YtfemeaehpjajlaaMore
import Derived.Test.YtfemeaehpjajlaaAlike
import Derived.Test.YtfemeaehpjajlaaMake
import Derived.Test.YtfemeaehpjajlaaBase
import Derived.Test.YtfemeaehpjajlaaHelp
import Derived.Test.YtfemeaehpjajlaaList
namespace Go.Proofs.Ytfemeaehpjajlaa
open Go Go.RowKit Go.Proofs.Ytfemeaehpjajlaa.P

set_option maxRecDepth 100000 in
set_option maxHeartbeats 4000000 in
theorem cutWhole_walk (n axis : Int) (va : Value) (a : Arr) (w : World) (ha : IsArr w va a) :
    Calls Try.prog 16 #[.int .i64 n, .int .i64 axis, va] w (Says w) := by
  obtain ⟨A, ca, D, da, rfl, -, -⟩ := ha.open_
  go_enter Try.func16, Try.ntmps16
  go_wp2_with fail
  have x1 := (Box.new (w.alloc (.cells #[.bool a.ch, .slice A a.sh.length ca, .slice D a.da.length da] 24)) 3 #[.int .i64 2])
  simp only [World.size_alloc, World.size_setCell] at x1
  have i1 : IsInts (((w.alloc (.cells #[.bool a.ch, .slice A a.sh.length ca, .slice D a.da.length da] 24)).alloc (.cells #[.int .i64 2] 3)).alloc (.cells #[.int .i64 1, .int .i64 2, .int .i64 3] 3)) (.slice (some ⟨w.heap.size + 1, 0, none⟩) 1 1) [2] := (x1.alloc _).isInts (xs := [2]) (n := 1) rfl (by omega)
  have x2 := (Box.new ((w.alloc (.cells #[.bool a.ch, .slice A a.sh.length ca, .slice D a.da.length da] 24)).alloc (.cells #[.int .i64 2] 3)) 3 #[.int .i64 1, .int .i64 2, .int .i64 3])
  simp only [World.size_alloc, World.size_setCell] at x2
  have i2 : IsInts (((w.alloc (.cells #[.bool a.ch, .slice A a.sh.length ca, .slice D a.da.length da] 24)).alloc (.cells #[.int .i64 2] 3)).alloc (.cells #[.int .i64 1, .int .i64 2, .int .i64 3] 3)) (.slice (some ⟨w.heap.size + 1 + 1, 0, none⟩) 3 3) [1, 2, 3] := x2.isInts (xs := [1, 2, 3]) (n := 3) rfl (by omega)
  clear x1 x2
  refine (vec_any _ [1, 2, 3] _ i2).mono ?_
  rintro e w1 ⟨r1, rfl, hr1, hb1⟩
  have l1 := i1.mono hb1
  clear i1
  have hbw1 := ((Below.refl w.heap.size w).trans ((below_three w _ _ _).mono (Below.refl w.heap.size w).size)).trans (hb1.mono ((Below.refl w.heap.size w).trans ((below_three w _ _ _).mono (Below.refl w.heap.size w).size)).size)
  have b_a1 := (((Box.new w 24 #[.bool a.ch, .slice A a.sh.length ca, .slice D a.da.length da]).alloc _).alloc _).below hb1
  clear hb1 i2
  obtain ⟨c_a0, c_a1, c_a2⟩ := b_a1.three
  have l_a := b_a1.lt
  go_wp2_with fail
  refine ((show Calls _ _ _ _ (GivesOk (take [2] ⟨false, [3], [1, 2, 3]⟩) _) from (take_told l1 hr1).mono fun e w' h => h.ok (by decide +kernel))).mono ?_
  rintro e w2 ⟨r2, rfl, hr2, hb2⟩
  have hbw2 := hbw1.trans (hb2.mono hbw1.size)
  have b_a2 := b_a1.below hb2
  clear hb2 b_a1 hbw1 c_a0 c_a1 c_a2 l_a hr1 l1
  obtain ⟨c_a0, c_a1, c_a2⟩ := b_a2.three
  have l_a := b_a2.lt
  obtain ⟨A2, ca2, D2, cd2, rfl, hs2, hd2⟩ := hr2.open_
  go_wp2_with fail
  have bq := Box.new (w2.alloc (.cells #[.bool ((take [2] ⟨false, [3], [1, 2, 3]⟩)).ch, .slice A2 ((take [2] ⟨false, [3], [1, 2, 3]⟩)).sh.length ca2, .slice D2 ((take [2] ⟨false, [3], [1, 2, 3]⟩)).da.length cd2] 24)) 3 #[.int .i64 1, .int .i64 2]
  rw [World.size_alloc] at bq
  refine (ints_any _ _ _ [1, 2] _ (hd2.mono (below_two _ _ _)) (bq.isInts rfl (by simp))).mono ?_
  rintro e w3 ⟨r3, rfl, hr3, hb3⟩
  have e3 : r3 = true := hr3.2 (by first | decide | decide +kernel)
  subst e3
  clear hr3 hs2 hd2
  clear hr2
  have hbw3 := (hbw2.trans ((below_two w2 _ _).mono hbw2.size)).trans (hb3.mono (hbw2.trans ((below_two w2 _ _).mono hbw2.size)).size)
  have b_a3 := ((b_a2.alloc _).alloc _).below hb3
  clear hb3 b_a2 hbw2 c_a0 c_a1 c_a2 l_a bq
  obtain ⟨c_a0, c_a1, c_a2⟩ := b_a3.three
  have l_a := b_a3.lt
  by_cases hE : arrErr a = 0
  case neg =>
    have HE := Lib.hid hE
    clear hE
    go_wp2_with fail
    refine (check_bad (ha.mono hbw3) HE.out).mono ?_
    rintro e w4 ⟨rfl, hb4⟩
    have hbw4 := hbw3.trans (hb4.mono hbw3.size)
    have b_a4 := b_a3.below hb4
    clear hb4 b_a3 hbw3 c_a0 c_a1 c_a2 l_a
    obtain ⟨c_a0, c_a1, c_a2⟩ := b_a4.three
    have l_a := b_a4.lt
    go_wp2_with fail
    go_ret
    exact ⟨rfl, by have := hbw4.size; go_grown⟩
  obtain ⟨t, ht⟩ := ok_of_arrErr hE
  have hsl : a.sh.length = t.length := by rw [ht.sh, length_ints]
  have Ht := Lib.hid ht
  have HSL := Lib.hid hsl
  have HSH := Lib.hid ht.sh
  have ht6 := ht.good.1
  have hla : a.sh.length ≤ 6 := by omega
  clear hE ht hsl
  rcases Int.lt_or_le axis 0 with g0 | g0
  · have d0 : decide (axis < 0) = true := by simpa using g0
    go_wp2_with fail
    refine (check_ok (ha.mono hbw3) Ht.out).mono ?_
    rintro e w4 ⟨rfl, hb4⟩
    have hbw4 := hbw3.trans (hb4.mono hbw3.size)
    have b_a4 := b_a3.below hb4
    clear hb4 b_a3 hbw3 c_a0 c_a1 c_a2 l_a
    obtain ⟨c_a0, c_a1, c_a2⟩ := b_a4.three
    have l_a := b_a4.lt
    go_wp2_with fail
    go_ret
    exact ⟨rfl, by have := hbw4.size; go_grown⟩
  rcases Int.lt_or_le axis a.sh.length with g1 | g1
  case inr =>
    have d0 : decide (axis < 0) = false := by simp; omega
    have d1 : decide ((a.sh.length : Int) ≤ axis) = true := by simpa using g1
    go_wp2_with fail
    refine (check_ok (ha.mono hbw3) Ht.out).mono ?_
    rintro e w4 ⟨rfl, hb4⟩
    have hbw4 := hbw3.trans (hb4.mono hbw3.size)
    have b_a4 := b_a3.below hb4
    clear hb4 b_a3 hbw3 c_a0 c_a1 c_a2 l_a
    obtain ⟨c_a0, c_a1, c_a2⟩ := b_a4.three
    have l_a := b_a4.lt
    go_wp2_with fail
    go_ret
    exact ⟨rfl, by have := hbw4.size; go_grown⟩
  obtain ⟨k, rfl⟩ := Int.eq_ofNat_of_zero_le g0
  have hka : k < a.sh.length := by omega
  have hkt : k < t.length := by rw [← HSL.out]; exact hka
  have d0 : decide ((k : Int) < 0) = false := by simp
  have d1 : decide (a.sh.length ≤ k) = false := by simp; omega
  have HKT := Lib.hid hkt
  clear g0 g1 hkt
  rcases Int.lt_or_le n 0 with g2 | g2
  · have d2 : decide (n < 0) = true := by simpa using g2
    go_wp2_with fail
    refine (check_ok (ha.mono hbw3) Ht.out).mono ?_
    rintro e w4 ⟨rfl, hb4⟩
    have hbw4 := hbw3.trans (hb4.mono hbw3.size)
    have b_a4 := b_a3.below hb4
    clear hb4 b_a3 hbw3 c_a0 c_a1 c_a2 l_a
    obtain ⟨c_a0, c_a1, c_a2⟩ := b_a4.three
    have l_a := b_a4.lt
    go_wp2_with fail
    go_ret
    exact ⟨rfl, by have := hbw4.size; go_grown⟩
  obtain ⟨m, rfl⟩ := Int.eq_ofNat_of_zero_le g2
  have d2 : decide ((m : Int) < 0) = false := by simp
  clear g2
  obtain ⟨X, hX⟩ : ∃ X, X = t.getD k 0 := ⟨_, rfl⟩
  have HXE := Lib.hid hX
  have hX4 : X ≤ 4096 := by rw [hX, getD_lt HKT.out]; exact Ht.out.good.2.1 _ (List.getElem_mem _)
  clear hX
  have EA := Lib.hid (IsArr.shapeOf ha).elems
  have HXK := Lib.hid (show a.sh[k]? = some (X : Int) by rw [HSH.out, HXE.out]; exact ints_get HKT.out)
  go_wp2_with fail
  refine (check_ok (ha.mono hbw3) Ht.out).mono ?_
  rintro e w4 ⟨rfl, hb4⟩
  have hbw4 := hbw3.trans (hb4.mono hbw3.size)
  have b_a4 := b_a3.below hb4
  clear hb4 b_a3 hbw3 c_a0 c_a1 c_a2 l_a
  obtain ⟨c_a0, c_a1, c_a2⟩ := b_a4.three
  have l_a := b_a4.lt
  obtain ⟨ax, x, rfl, hx, hax, hcx4⟩ := Elems.later EA.out hbw4 hka
  rw [HXK.out] at hx
  injection hx with hx
  subst hx
  rcases Nat.lt_or_ge X m with g3 | g3
  · have d3 : decide (X < m) = true := by simpa using g3
    go_wp2_with fail
    go_ret
    exact ⟨rfl, by have := hbw4.size; go_grown⟩
  have d3 : decide (X < m) = false := by simp; omega
  have PL := Lib.hid (whole_plain Ht.out HKT.out (show m ≤ t.getD k 0 by rw [← HXE.out]; exact g3))
  rw [← HXE.out] at PL
  go_wp2_with fail
  refine (joined_own _ a.sh _ (IsArr.shapeOf (ha.mono hbw4)) (by omega) (by omega)).mono ?_
  rintro e w5 ⟨g5, gc5, rfl, hg5, hm5, hb5⟩
  have gpre5 := hg5
  have hlo5 := hbw4.size
  have la5 := l_a
  have gk5 := hm5.cell (HXK.out)
  have gf5 := hm5.frozen (k)
  have gl5 := hm5.lt
  have hm5s := hm5.store (k) ((m : Int))
  rw [show a.sh.set k (m : Int) = (ints t).set k (m : Int) by rw [HSH.out]] at hm5s
  have hb5s := hb5.setCell (p := ⟨g5, k, none⟩) (by simp; omega) (.int .i64 ((m : Int)))
  have hbw5 := hbw4.trans (hb5s.mono hbw4.size)
  have b_a5 := b_a4.below hb5s
  clear hb5s b_a4 hbw4 c_a0 c_a1 c_a2 l_a hcx4
  obtain ⟨c_a0, c_a1, c_a2⟩ := b_a5.three
  have l_a := b_a5.lt
  simp only [World.size_setCell] at l_a
  clear hm5 hb5
  have hgw5 : g5 < w5.heap.size := gl5
  have hmk := run_make_list a.sh.length (by omega)
  have hrow := Row.made (w5.setCell ⟨g5, k, none⟩ (.int .i64 ((m : Int)))) a.sh.length
  have gr := Row.at_ hrow (k := k) (x := 0) (by rw [List.getElem?_replicate, if_pos hka])
  have fr := Box.frozen hrow k
  have lr := Box.lt hrow
  simp only [World.size_setCell] at hrow gr fr lr
  go_wp2_with fail
  have gbx_by : w5.heap.size < (((w5.setCell ⟨g5, k, none⟩ (.int .i64 ((m : Int)))).alloc (.cells ((madeCells #[.int .i64 0] a.sh.length).setIfInBounds k (.int .i64 (m : Int))) 3))).heap.size := by simp
  have gb6_head := ((hm5s.mono (below_one (w5.setCell ⟨g5, k, none⟩ (.int .i64 ((m : Int)))) (.cells ((madeCells #[.int .i64 0] a.sh.length).setIfInBounds k (.int .i64 (m : Int))) 3)))).lt
  refine ((show Calls _ _ _ _ (GivesOkN (take ((ints t).set k (m : Int)) a) _) from (take_new (Mine.isInts (hm5s.mono (below_one _ _))) (ha.mono (hbw5.trans ((below_one (w5.setCell ⟨g5, k, none⟩ (.int .i64 ((m : Int)))) _).mono hbw5.size)))).mono fun e w' h => h.ok PL.out.1)).mono ?_
  rintro e w6 ⟨r6, rfl, hr6, hb6, nv6⟩
  have hbw6 := (hbw5.trans ((below_one (w5.setCell ⟨g5, k, none⟩ (.int .i64 ((m : Int)))) _).mono hbw5.size)).trans (hb6.mono (hbw5.trans ((below_one (w5.setCell ⟨g5, k, none⟩ (.int .i64 ((m : Int)))) _).mono hbw5.size)).size)
  have b_a6 := (b_a5.alloc _).below hb6
  have b_by6 := (Box.new (w5.setCell ⟨g5, k, none⟩ (.int .i64 ((m : Int)))) 3 ((madeCells #[.int .i64 0] a.sh.length).setIfInBounds k (.int .i64 (m : Int)))).below hb6
  simp only [World.size_alloc, World.size_setCell] at b_by6
  have a_head6 := (hm5s.mono (below_one _ _)).mono hb6
  clear hb6 b_a5 hm5s hbw5 c_a0 c_a1 c_a2 l_a gk5 gf5 gl5 hmk hrow gr fr lr
  obtain ⟨c_a0, c_a1, c_a2⟩ := b_a6.three
  have l_a := b_a6.lt
  have l_by := b_by6.lt
  obtain ⟨A6, ca6, D6, cd6, rfl, hs6, hd6⟩ := hr6.open_
  have og6_head := (a_head6).lt
  have my6 := box_by b_by6 (by omega)
  rw [show List.replicate a.sh.length (0 : Int) = List.replicate t.length 0 by rw [HSL.out]] at my6
  clear b_by6
  have og6_by := my6.lt
  go_wp2_with fail
  have gb7_head := ((a_head6.mono (below_one w6 (.cells #[.bool (take ((ints t).set k (m : Int)) a).ch, .slice A6 (take ((ints t).set k (m : Int)) a).sh.length ca6, .slice D6 (take ((ints t).set k (m : Int)) a).da.length cd6] 24)))).lt
  have gb7_by := ((my6.mono (below_one w6 (.cells #[.bool (take ((ints t).set k (m : Int)) a).ch, .slice A6 (take ((ints t).set k (m : Int)) a).sh.length ca6, .slice D6 (take ((ints t).set k (m : Int)) a).da.length cd6] 24)))).lt
  refine ((show Calls _ _ _ _ (GivesOkN (drop ((List.replicate t.length 0).set k (m : Int)) a) _) from (drop_new (Mine.isInts (my6.mono (below_one _ _))) (ha.mono (hbw6.trans ((below_one w6 _).mono hbw6.size)))).mono fun e w' h => h.ok PL.out.2.1)).mono ?_
  rintro e w7 ⟨r7, rfl, hr7, hb7, nv7⟩
  have hbw7 := (hbw6.trans ((below_one w6 _).mono hbw6.size)).trans (hb7.mono (hbw6.trans ((below_one w6 _).mono hbw6.size)).size)
  have b_a7 := (b_a6.alloc _).below hb7
  have b_xx7 := (Box.new w6 24 #[.bool (take ((ints t).set k (m : Int)) a).ch, .slice A6 (take ((ints t).set k (m : Int)) a).sh.length ca6, .slice D6 (take ((ints t).set k (m : Int)) a).da.length cd6]).below hb7
  have a_head7 := (a_head6.mono (below_one _ _)).mono hb7
  have a_x7 := (hr6.mono (below_one _ _)).mono hb7
  have a_by7 := (my6.mono (below_one _ _)).mono hb7
  clear hb7 b_a6 a_head6 hr6 my6 hbw6 c_a0 c_a1 c_a2 l_a l_by
  obtain ⟨c_a0, c_a1, c_a2⟩ := b_a7.three
  have l_a := b_a7.lt
  obtain ⟨c_xx0, c_xx1, c_xx2⟩ := b_xx7.three
  have l_xx := b_xx7.lt
  obtain ⟨A7, ca7, D7, cd7, rfl, hs7, hd7⟩ := hr7.open_
  have og7_head := (a_head7).lt
  have og7_by := (a_by7).lt
  go_wp2_with fail
  refine ((show Calls _ _ _ _ (GivesOk (glue k (take ((ints t).set k (m : Int)) a) (drop ((List.replicate t.length 0).set k (m : Int)) a)) _) from (join_toldN (a_x7.mono (below_one _ _)) (hr7.mono (below_one _ _))).mono fun e w' h => h.ok PL.out.2.2.1)).mono ?_
  rintro e w8 ⟨r8, rfl, hr8, hb8⟩
  have hbw8 := (hbw7.trans ((below_one w7 _).mono hbw7.size)).trans (hb8.mono (hbw7.trans ((below_one w7 _).mono hbw7.size)).size)
  have b_a8 := (b_a7.alloc _).below hb8
  have b_xx8 := (b_xx7.alloc _).below hb8
  have b_xy8 := (Box.new w7 24 #[.bool (drop ((List.replicate t.length 0).set k (m : Int)) a).ch, .slice A7 (drop ((List.replicate t.length 0).set k (m : Int)) a).sh.length ca7, .slice D7 (drop ((List.replicate t.length 0).set k (m : Int)) a).da.length cd7]).below hb8
  have a_head8 := (a_head7.mono (below_one _ _)).mono hb8
  have a_x8 := (a_x7.mono (below_one _ _)).mono hb8
  have a_by8 := (a_by7.mono (below_one _ _)).mono hb8
  have a_y8 := (hr7.mono (below_one _ _)).mono hb8
  clear hb8 b_a7 b_xx7 a_head7 a_x7 a_by7 hr7 hbw7 c_a0 c_a1 c_a2 l_a c_xx0 c_xx1 c_xx2 l_xx
  obtain ⟨c_a0, c_a1, c_a2⟩ := b_a8.three
  have l_a := b_a8.lt
  obtain ⟨c_xx0, c_xx1, c_xx2⟩ := b_xx8.three
  have l_xx := b_xx8.lt
  obtain ⟨c_xy0, c_xy1, c_xy2⟩ := b_xy8.three
  have l_xy := b_xy8.lt
  obtain ⟨A8, ca8, D8, cd8, rfl, hs8, hd8⟩ := hr8.open_
  have og8_head := a_head8.lt
  have og8_by := a_by8.lt
  go_wp2_with fail
  refine (alike_nil _ _ _ _ _ (hr8.mono (below_one _ _)) (ha.mono (hbw8.trans ((below_one w8 _).mono hbw8.size)))).mono ?_
  rintro e w9 ⟨r9, rfl, hr9, hb9⟩
  have e9 : r9 = true := hr9.2 (PL.out.2.2.2.1)
  subst e9
  clear hr9
  have hbw9 := (hbw8.trans ((below_one w8 _).mono hbw8.size)).trans (hb9.mono (hbw8.trans ((below_one w8 _).mono hbw8.size)).size)
  have b_a9 := (b_a8.alloc _).below hb9
  have b_xx9 := (b_xx8.alloc _).below hb9
  have b_xy9 := (b_xy8.alloc _).below hb9
  have b_xz9 := (Box.new w8 24 #[.bool (glue k (take ((ints t).set k (m : Int)) a) (drop ((List.replicate t.length 0).set k (m : Int)) a)).ch, .slice A8 (glue k (take ((ints t).set k (m : Int)) a) (drop ((List.replicate t.length 0).set k (m : Int)) a)).sh.length ca8, .slice D8 (glue k (take ((ints t).set k (m : Int)) a) (drop ((List.replicate t.length 0).set k (m : Int)) a)).da.length cd8]).below hb9
  have a_head9 := (a_head8.mono (below_one _ _)).mono hb9
  have a_x9 := (a_x8.mono (below_one _ _)).mono hb9
  have a_by9 := (a_by8.mono (below_one _ _)).mono hb9
  have a_y9 := (a_y8.mono (below_one _ _)).mono hb9
  have a_z9 := (hr8.mono (below_one _ _)).mono hb9
  clear hb9 b_a8 b_xx8 b_xy8 a_head8 a_x8 a_by8 a_y8 hr8 hbw8 c_a0 c_a1 c_a2 l_a c_xx0 c_xx1 c_xx2 l_xx c_xy0 c_xy1 c_xy2 l_xy
  obtain ⟨c_a0, c_a1, c_a2⟩ := b_a9.three
  have l_a := b_a9.lt
  obtain ⟨c_xx0, c_xx1, c_xx2⟩ := b_xx9.three
  have l_xx := b_xx9.lt
  obtain ⟨c_xy0, c_xy1, c_xy2⟩ := b_xy9.three
  have l_xy := b_xy9.lt
  obtain ⟨c_xz0, c_xz1, c_xz2⟩ := b_xz9.three
  have l_xz := b_xz9.lt
  have hcx9 : w9.cell? (ax.add k) = some (.int .i64 X) := by
    obtain ⟨ax2, x, e, hx, -, hc⟩ := Elems.later EA.out hbw9 hka
    injection e with e
    subst e
    rw [HXK.out] at hx
    injection hx with hx
    rw [hx]
    exact hc
  have gku1 := a_head9.cell (show ((ints t).set k (m : Int))[k]? = some (m : Int) from List.getElem?_set_self (by rw [length_ints]; exact HKT.out))
  have gfu1 := a_head9.frozen (k)
  have glu1 := a_head9.lt
  have m_u1 := a_head9.store (k) ((m : Int) - (X : Int))
  rw [List.set_set] at m_u1
  have au1_x := IsArr.away (g := g5) (k := k) a_x9 nv6 gb6_head (.int .i64 ((m : Int) - (X : Int)))
  have au1_by := a_by9.far (p := ⟨g5, k, none⟩) (by simp; omega) (.int .i64 ((m : Int) - (X : Int)))
  have au1_y := IsArr.away (g := g5) (k := k) a_y9 nv7 gb7_head (.int .i64 ((m : Int) - (X : Int)))
  have nu1_a := b_a9.far (p := ⟨g5, k, none⟩) (by simp; omega) (.int .i64 ((m : Int) - (X : Int)))
  obtain ⟨du1_a0, du1_a1, du1_a2⟩ := nu1_a.three
  have nu1_xx := b_xx9.far (p := ⟨g5, k, none⟩) (by simp; omega) (.int .i64 ((m : Int) - (X : Int)))
  obtain ⟨du1_xx0, du1_xx1, du1_xx2⟩ := nu1_xx.three
  have nu1_xy := b_xy9.far (p := ⟨g5, k, none⟩) (by simp; omega) (.int .i64 ((m : Int) - (X : Int)))
  obtain ⟨du1_xy0, du1_xy1, du1_xy2⟩ := nu1_xy.three
  have nu1_xz := b_xz9.far (p := ⟨g5, k, none⟩) (by simp; omega) (.int .i64 ((m : Int) - (X : Int)))
  obtain ⟨du1_xz0, du1_xz1, du1_xz2⟩ := nu1_xz.three
  have hbsu1 := hbw9.setCell (p := ⟨g5, k, none⟩) (by simp; omega) (.int .i64 ((m : Int) - (X : Int)))
  clear a_head9 a_x9 a_by9 a_y9 b_a9 b_xx9 b_xy9 b_xz9 hbw9
  go_wp2_with fail
  refine ((show Calls _ _ _ _ (GivesOk (take ((ints t).set k ((m : Int) - (X : Int))) a) _) from (take_told (Mine.isInts m_u1) (ha.mono hbsu1)).mono fun e w' h => h.ok PL.out.2.2.2.2.1)).mono ?_
  rintro e w10 ⟨r10, rfl, hr10, hb10⟩
  have hbw10 := hbsu1.trans (hb10.mono hbsu1.size)
  have b_a10 := nu1_a.below hb10
  have b_xx10 := nu1_xx.below hb10
  have b_xy10 := nu1_xy.below hb10
  have b_xz10 := nu1_xz.below hb10
  have a_head10 := m_u1.mono hb10
  have a_x10 := au1_x.mono hb10
  have a_by10 := au1_by.mono hb10
  have a_y10 := au1_y.mono hb10
  clear hb10 nu1_a nu1_xx nu1_xy nu1_xz m_u1 au1_x au1_by au1_y hbsu1 c_a0 c_a1 c_a2 l_a c_xx0 c_xx1 c_xx2 l_xx c_xy0 c_xy1 c_xy2 l_xy c_xz0 c_xz1 c_xz2 l_xz hcx9 a_z9 du1_a0 du1_a1 du1_a2 du1_xx0 du1_xx1 du1_xx2 du1_xy0 du1_xy1 du1_xy2 du1_xz0 du1_xz1 du1_xz2 gku1 gfu1 glu1
  obtain ⟨c_a0, c_a1, c_a2⟩ := b_a10.three
  have l_a := b_a10.lt
  obtain ⟨c_xx0, c_xx1, c_xx2⟩ := b_xx10.three
  have l_xx := b_xx10.lt
  obtain ⟨c_xy0, c_xy1, c_xy2⟩ := b_xy10.three
  have l_xy := b_xy10.lt
  obtain ⟨c_xz0, c_xz1, c_xz2⟩ := b_xz10.three
  have l_xz := b_xz10.lt
  obtain ⟨A10, ca10, D10, cd10, rfl, hs10, hd10⟩ := hr10.open_
  have og10_head := a_head10.lt
  have og10_by := a_by10.lt
  go_wp2_with fail
  refine (alike_nil _ _ _ _ _ (hr10.mono (below_one _ _)) (a_y10.mono (below_one _ _))).mono ?_
  rintro e w11 ⟨r11, rfl, hr11, hb11⟩
  have e11 : r11 = true := hr11.2 (PL.out.2.2.2.2.2.1)
  subst e11
  clear hr11
  have hbw11 := (hbw10.trans ((below_one w10 _).mono hbw10.size)).trans (hb11.mono (hbw10.trans ((below_one w10 _).mono hbw10.size)).size)
  have b_a11 := (b_a10.alloc _).below hb11
  have b_xx11 := (b_xx10.alloc _).below hb11
  have b_xy11 := (b_xy10.alloc _).below hb11
  have b_xz11 := (b_xz10.alloc _).below hb11
  have b_xu11 := (Box.new w10 24 #[.bool (take ((ints t).set k ((m : Int) - (X : Int))) a).ch, .slice A10 (take ((ints t).set k ((m : Int) - (X : Int))) a).sh.length ca10, .slice D10 (take ((ints t).set k ((m : Int) - (X : Int))) a).da.length cd10]).below hb11
  have a_head11 := (a_head10.mono (below_one _ _)).mono hb11
  have a_x11 := (a_x10.mono (below_one _ _)).mono hb11
  have a_by11 := (a_by10.mono (below_one _ _)).mono hb11
  have a_y11 := (a_y10.mono (below_one _ _)).mono hb11
  have a_u11 := (hr10.mono (below_one _ _)).mono hb11
  clear hb11 b_a10 b_xx10 b_xy10 b_xz10 a_head10 a_x10 a_by10 a_y10 hr10 hbw10 c_a0 c_a1 c_a2 l_a c_xx0 c_xx1 c_xx2 l_xx c_xy0 c_xy1 c_xy2 l_xy c_xz0 c_xz1 c_xz2 l_xz
  obtain ⟨c_a0, c_a1, c_a2⟩ := b_a11.three
  have l_a := b_a11.lt
  obtain ⟨c_xx0, c_xx1, c_xx2⟩ := b_xx11.three
  have l_xx := b_xx11.lt
  obtain ⟨c_xy0, c_xy1, c_xy2⟩ := b_xy11.three
  have l_xy := b_xy11.lt
  obtain ⟨c_xz0, c_xz1, c_xz2⟩ := b_xz11.three
  have l_xz := b_xz11.lt
  obtain ⟨c_xu0, c_xu1, c_xu2⟩ := b_xu11.three
  have l_xu := b_xu11.lt
  have hcx11 : w11.cell? (ax.add k) = some (.int .i64 X) := by
    obtain ⟨ax2, x, e, hx, -, hc⟩ := Elems.later EA.out hbw11 hka
    injection e with e
    subst e
    rw [HXK.out] at hx
    injection hx with hx
    rw [hx]
    exact hc
  have gku2 := a_by11.cell (show ((List.replicate t.length (0 : Int)).set k (m : Int))[k]? = some (m : Int) from List.getElem?_set_self (by rw [List.length_replicate]; exact HKT.out))
  have gfu2 := a_by11.frozen (k)
  have glu2 := a_by11.lt
  have m_u2 := a_by11.store (k) ((m : Int) - (X : Int))
  rw [List.set_set] at m_u2
  have au2_head := a_head11.far (p := ⟨w5.heap.size, k, none⟩) (by simp; omega) (.int .i64 ((m : Int) - (X : Int)))
  have au2_x := IsArr.away (g := w5.heap.size) (k := k) a_x11 nv6 gbx_by (.int .i64 ((m : Int) - (X : Int)))
  have au2_y := IsArr.away (g := w5.heap.size) (k := k) a_y11 nv7 gb7_by (.int .i64 ((m : Int) - (X : Int)))
  have nu2_a := b_a11.far (p := ⟨w5.heap.size, k, none⟩) (by simp; omega) (.int .i64 ((m : Int) - (X : Int)))
  obtain ⟨du2_a0, du2_a1, du2_a2⟩ := nu2_a.three
  have nu2_xx := b_xx11.far (p := ⟨w5.heap.size, k, none⟩) (by simp; omega) (.int .i64 ((m : Int) - (X : Int)))
  obtain ⟨du2_xx0, du2_xx1, du2_xx2⟩ := nu2_xx.three
  have nu2_xy := b_xy11.far (p := ⟨w5.heap.size, k, none⟩) (by simp; omega) (.int .i64 ((m : Int) - (X : Int)))
  obtain ⟨du2_xy0, du2_xy1, du2_xy2⟩ := nu2_xy.three
  have nu2_xz := b_xz11.far (p := ⟨w5.heap.size, k, none⟩) (by simp; omega) (.int .i64 ((m : Int) - (X : Int)))
  obtain ⟨du2_xz0, du2_xz1, du2_xz2⟩ := nu2_xz.three
  have nu2_xu := b_xu11.far (p := ⟨w5.heap.size, k, none⟩) (by simp; omega) (.int .i64 ((m : Int) - (X : Int)))
  obtain ⟨du2_xu0, du2_xu1, du2_xu2⟩ := nu2_xu.three
  have hbsu2 := hbw11.setCell (p := ⟨w5.heap.size, k, none⟩) (by simp; omega) (.int .i64 ((m : Int) - (X : Int)))
  clear a_by11 a_head11 a_x11 a_y11 b_a11 b_xx11 b_xy11 b_xz11 b_xu11 hbw11
  go_wp2_with fail
  refine ((show Calls _ _ _ _ (GivesOk (drop ((List.replicate t.length 0).set k ((m : Int) - (X : Int))) a) _) from (drop_told (Mine.isInts m_u2) (ha.mono hbsu2)).mono fun e w' h => h.ok PL.out.2.2.2.2.2.2.1)).mono ?_
  rintro e w12 ⟨r12, rfl, hr12, hb12⟩
  have hbw12 := hbsu2.trans (hb12.mono hbsu2.size)
  have b_a12 := nu2_a.below hb12
  have b_xx12 := nu2_xx.below hb12
  have b_xy12 := nu2_xy.below hb12
  have b_xz12 := nu2_xz.below hb12
  have b_xu12 := nu2_xu.below hb12
  have a_by12 := m_u2.mono hb12
  have a_head12 := au2_head.mono hb12
  have a_x12 := au2_x.mono hb12
  have a_y12 := au2_y.mono hb12
  clear hb12 nu2_a nu2_xx nu2_xy nu2_xz nu2_xu m_u2 au2_head au2_x au2_y hbsu2 c_a0 c_a1 c_a2 l_a c_xx0 c_xx1 c_xx2 l_xx c_xy0 c_xy1 c_xy2 l_xy c_xz0 c_xz1 c_xz2 l_xz c_xu0 c_xu1 c_xu2 l_xu hcx11 a_u11 du2_a0 du2_a1 du2_a2 du2_xx0 du2_xx1 du2_xx2 du2_xy0 du2_xy1 du2_xy2 du2_xz0 du2_xz1 du2_xz2 du2_xu0 du2_xu1 du2_xu2 gku2 gfu2 glu2
  obtain ⟨c_a0, c_a1, c_a2⟩ := b_a12.three
  have l_a := b_a12.lt
  obtain ⟨c_xx0, c_xx1, c_xx2⟩ := b_xx12.three
  have l_xx := b_xx12.lt
  obtain ⟨c_xy0, c_xy1, c_xy2⟩ := b_xy12.three
  have l_xy := b_xy12.lt
  obtain ⟨c_xz0, c_xz1, c_xz2⟩ := b_xz12.three
  have l_xz := b_xz12.lt
  obtain ⟨c_xu0, c_xu1, c_xu2⟩ := b_xu12.three
  have l_xu := b_xu12.lt
  obtain ⟨A12, ca12, D12, cd12, rfl, hs12, hd12⟩ := hr12.open_
  go_wp2_with fail
  refine (alike_nil _ _ _ _ _ (hr12.mono (below_one _ _)) (a_x12.mono (below_one _ _))).mono ?_
  rintro e w13 ⟨r13, rfl, hr13, hb13⟩
  have e13 : r13 = true := hr13.2 (PL.out.2.2.2.2.2.2.2)
  subst e13
  clear hr13
  have hbw13 := (hbw12.trans ((below_one w12 _).mono hbw12.size)).trans (hb13.mono (hbw12.trans ((below_one w12 _).mono hbw12.size)).size)
  have b_a13 := (b_a12.alloc _).below hb13
  have b_xx13 := (b_xx12.alloc _).below hb13
  have b_xy13 := (b_xy12.alloc _).below hb13
  have b_xz13 := (b_xz12.alloc _).below hb13
  have b_xu13 := (b_xu12.alloc _).below hb13
  have b_xv13 := (Box.new w12 24 #[.bool (drop ((List.replicate t.length 0).set k ((m : Int) - (X : Int))) a).ch, .slice A12 (drop ((List.replicate t.length 0).set k ((m : Int) - (X : Int))) a).sh.length ca12, .slice D12 (drop ((List.replicate t.length 0).set k ((m : Int) - (X : Int))) a).da.length cd12]).below hb13
  have a_by13 := (a_by12.mono (below_one _ _)).mono hb13
  have a_head13 := (a_head12.mono (below_one _ _)).mono hb13
  have a_x13 := (a_x12.mono (below_one _ _)).mono hb13
  have a_y13 := (a_y12.mono (below_one _ _)).mono hb13
  have a_v13 := (hr12.mono (below_one _ _)).mono hb13
  clear hb13 b_a12 b_xx12 b_xy12 b_xz12 b_xu12 a_by12 a_head12 a_x12 a_y12 hr12 hbw12 c_a0 c_a1 c_a2 l_a c_xx0 c_xx1 c_xx2 l_xx c_xy0 c_xy1 c_xy2 l_xy c_xz0 c_xz1 c_xz2 l_xz c_xu0 c_xu1 c_xu2 l_xu
  obtain ⟨c_a0, c_a1, c_a2⟩ := b_a13.three
  have l_a := b_a13.lt
  obtain ⟨c_xx0, c_xx1, c_xx2⟩ := b_xx13.three
  have l_xx := b_xx13.lt
  obtain ⟨c_xy0, c_xy1, c_xy2⟩ := b_xy13.three
  have l_xy := b_xy13.lt
  obtain ⟨c_xz0, c_xz1, c_xz2⟩ := b_xz13.three
  have l_xz := b_xz13.lt
  obtain ⟨c_xu0, c_xu1, c_xu2⟩ := b_xu13.three
  have l_xu := b_xu13.lt
  obtain ⟨c_xv0, c_xv1, c_xv2⟩ := b_xv13.three
  have l_xv := b_xv13.lt
  go_wp2_with fail
  go_ret
  exact ⟨rfl, by have := hbw13.size; go_grown⟩

end Go.Proofs.Ytfemeaehpjajlaa
