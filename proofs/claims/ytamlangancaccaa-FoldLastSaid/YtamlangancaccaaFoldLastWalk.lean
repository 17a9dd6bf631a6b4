/- The walk of the law FoldLast. Conditions: none. -/
import Derived.Test.YtamlangancaccaaLastPlain
import Derived.Test.YtamlangancaccaaSame
import Derived.Test.YtamlangancaccaaDrop
import Derived.Test.YtamlangancaccaaArrOf
import Derived.Test.YtamlangancaccaaAway
import Derived.Test.YtamlangancaccaaStore
import Derived.Test.YtamlangancaccaaMore
import Derived.Test.YtamlangancaccaaAlike
import Derived.Test.YtamlangancaccaaMake
import Derived.Test.YtamlangancaccaaBase
import Derived.Test.YtamlangancaccaaHelp
import Derived.Test.YtamlangancaccaaList
set_option linter.unusedSimpArgs false
set_option linter.unusedVariables false
namespace Go.Proofs.Ytamlangancaccaa
open Go Go.RowKit Go.Proofs.Ytamlangancaccaa.P

set_option maxRecDepth 100000 in
set_option maxHeartbeats 4000000 in
theorem foldLast_walk (f axis : Int) (va : Value) (a : Arr) (w : World) (ha : IsArr w va a) (wa : Wf a.da) :
    Calls Try.prog 4 #[.int .i64 f, .int .i64 axis, va] w (Says w) := by
  obtain ⟨A, ca, D, da, rfl, -, -⟩ := ha.open_
  have Wa := Lib.hid wa
  clear wa
  go_enter Try.func4, Try.ntmps4
  go_wp2_with fail
  have x1 := (Box.new (w.alloc (.cells #[.bool a.ch, .slice A a.sh.length ca, .slice D a.da.length da] 25)) 3 #[.int .i64 1, .int .i64 2, .int .i64 3])
  simp only [World.size_alloc, World.size_setCell] at x1
  have i1 : IsInts ((w.alloc (.cells #[.bool a.ch, .slice A a.sh.length ca, .slice D a.da.length da] 25)).alloc (.cells #[.int .i64 1, .int .i64 2, .int .i64 3] 3)) (.slice (some ⟨w.heap.size + 1, 0, none⟩) 3 3) [1, 2, 3] := x1.isInts (xs := [1, 2, 3]) (n := 3) rfl (by omega)
  clear x1
  refine (vec_any _ [1, 2, 3] _ i1).mono ?_
  rintro e w1 ⟨r1, rfl, hr1, hb1⟩
  have hbw1 := ((Below.refl w.heap.size w).trans ((below_two w _ _).mono (Below.refl w.heap.size w).size)).trans (hb1.mono ((Below.refl w.heap.size w).trans ((below_two w _ _).mono (Below.refl w.heap.size w).size)).size)
  have b_a1 := ((Box.new w 25 #[.bool a.ch, .slice A a.sh.length ca, .slice D a.da.length da]).alloc _).below hb1
  clear hb1 i1
  obtain ⟨c_a0, c_a1, c_a2⟩ := b_a1.three
  have l_a := b_a1.lt
  go_wp2_with fail
  refine ((show Calls _ _ _ _ (GivesOk (⟨false, [3], scan1 1 [1, 2, 3]⟩ : Arr) _) from scan_vec hr1 (ok_vec (xs := [1, 2, 3]) (by simp)) (Mono.tame (.inl rfl)) rfl (by intro x hx; simp at hx; rcases hx with rfl | rfl | rfl <;> decide))).mono ?_
  rintro e w2 ⟨r2, rfl, hr2, hb2⟩
  have hbw2 := hbw1.trans (hb2.mono hbw1.size)
  have b_a2 := b_a1.below hb2
  clear hb2 b_a1 hbw1 c_a0 c_a1 c_a2 l_a hr1
  obtain ⟨c_a0, c_a1, c_a2⟩ := b_a2.three
  have l_a := b_a2.lt
  obtain ⟨A2, ca2, D2, cd2, rfl, hs2, hd2⟩ := hr2.open_
  go_wp2_with fail
  have bq := Box.new (w2.alloc (.cells #[.bool ((⟨false, [3], scan1 1 [1, 2, 3]⟩ : Arr)).ch, .slice A2 ((⟨false, [3], scan1 1 [1, 2, 3]⟩ : Arr)).sh.length ca2, .slice D2 ((⟨false, [3], scan1 1 [1, 2, 3]⟩ : Arr)).da.length cd2] 25)) 3 #[.int .i64 1, .int .i64 3, .int .i64 6]
  rw [World.size_alloc] at bq
  refine (ints_any _ _ _ [1, 3, 6] _ (hd2.mono (below_two _ _ _)) (bq.isInts rfl (by simp))).mono ?_
  rintro e w3 ⟨r3, rfl, hr3, hb3⟩
  have e3 : r3 = true := hr3.2 (by first | decide | decide +kernel)
  subst e3
  clear hr3 hs2 hd2
  clear hr2
  have hbw3 := (hbw2.trans ((below_two w2 _ _).mono hbw2.size)).trans (hb3.mono (hbw2.trans ((below_two w2 _ _).mono hbw2.size)).size)
  have b_a3 := ((b_a2.alloc _).alloc _).below hb3
  clear hb3 b_a2 hbw2 c_a0 c_a1 c_a2 l_a bq
  obtain ⟨c_a0, c_a1, c_a2⟩ := b_a3.three
  have l_a := b_a3.lt
  by_cases hE : foldErr f axis a = 0
  case neg =>
    have HE := Lib.hid hE
    clear hE
    go_wp2_with fail
    refine (scan_bad (ha.mono hbw3) HE.out).mono ?_
    rintro e w4 ⟨rfl, hb4⟩
    have hbw4 := hbw3.trans (hb4.mono hbw3.size)
    have b_a4 := b_a3.below hb4
    clear hb4 b_a3 hbw3 c_a0 c_a1 c_a2 l_a
    obtain ⟨c_a0, c_a1, c_a2⟩ := b_a4.three
    have l_a := b_a4.lt
    go_wp2_with fail
    go_ret
    exact ⟨rfl, by have := hbw4.size; go_grown⟩
  obtain ⟨t, k, ht, rfl, hk, hc, hf⟩ := foldErr_zero hE
  have hsl : a.sh.length = t.length := by rw [ht.sh, length_ints]
  have HSL := Lib.hid hsl
  have HSH := Lib.hid ht.sh
  have hka : k < a.sh.length := by omega
  have ht6 := ht.good.1
  have hla : a.sh.length ≤ 6 := by omega
  have Ht := Lib.hid ht
  have Hk := Lib.hid hk
  have Hc := Lib.hid hc
  have Hf := Lib.hid hf
  have d0 : decide ((k : Int) < 0) = false := by simp
  have d1 : decide (a.sh.length ≤ k) = false := by simp; omega
  clear hE ht hk hc hf hsl ht6
  obtain ⟨X, hX⟩ : ∃ X, X = t.getD k 0 := ⟨_, rfl⟩
  have HXE := Lib.hid hX
  have hX4 : X ≤ 4096 := by rw [hX, getD_lt Hk.out]; exact Ht.out.good.2.1 _ (List.getElem_mem _)
  clear hX
  have EA := Lib.hid (IsArr.shapeOf ha).elems
  have HXK := Lib.hid (show a.sh[k]? = some (X : Int) by rw [HSH.out, HXE.out]; exact ints_get Hk.out)
  go_wp2_with fail
  refine (scan_ok (ha.mono hbw3) Ht.out Hk.out Hf.out Hc.out Wa.out).mono ?_
  rintro e w4 h4
  rcases h4 with ⟨hall, r4, rfl, hr4, hb4⟩ | ⟨q, hq, hmin, hz2, rfl, hb4⟩
  · have HALL := Lib.hid hall
    clear hall
    have hbw4 := hbw3.trans (hb4.mono hbw3.size)
    have b_a4 := b_a3.below hb4
    clear hb4 b_a3 hbw3 c_a0 c_a1 c_a2 l_a
    obtain ⟨c_a0, c_a1, c_a2⟩ := b_a4.three
    have l_a := b_a4.lt
    have hr4 : IsArr w4 r4 (scanOf f a t k) := hr4
    obtain ⟨A4, ca4, D4, cd4, rfl, hs4, hd4⟩ := hr4.open_
    go_wp2_with fail
    refine (ints_any _ _ _ _ _ (IsArr.shapeOf (hr4.mono (below_one _ _))) (IsArr.shapeOf (ha.mono (hbw4.trans ((below_one w4 _).mono hbw4.size))))).mono ?_
    rintro e w5 ⟨r5, rfl, hr5, hb5⟩
    have e5 : r5 = true := hr5.2 (rfl)
    subst e5
    clear hr5
    have hbw5 := (hbw4.trans ((below_one w4 _).mono hbw4.size)).trans (hb5.mono (hbw4.trans ((below_one w4 _).mono hbw4.size)).size)
    have b_a5 := (b_a4.alloc _).below hb5
    have b_xx5 := (Box.new w4 25 #[.bool (scanOf f a t k).ch, .slice A4 (scanOf f a t k).sh.length ca4, .slice D4 (scanOf f a t k).da.length cd4]).below hb5
    have a_x5 := (hr4.mono (below_one _ _)).mono hb5
    clear hb5 b_a4 hr4 hbw4 c_a0 c_a1 c_a2 l_a
    obtain ⟨c_a0, c_a1, c_a2⟩ := b_a5.three
    have l_a := b_a5.lt
    obtain ⟨c_xx0, c_xx1, c_xx2⟩ := b_xx5.three
    have l_xx := b_xx5.lt
    obtain ⟨ax, x, rfl, hx, hax, hcx5⟩ := Elems.later EA.out hbw5 hka
    rw [HXK.out] at hx
    injection hx with hx
    subst hx
    rcases Nat.eq_zero_or_pos X with g3 | g3
    · subst g3
      go_wp2_with fail
      go_ret
      exact ⟨rfl, by have := hbw5.size; go_grown⟩
    have g4 : ¬ X = 0 := by omega
    have PL := Lib.hid (last_plain (f := f) Ht.out Hk.out (show 0 < t.getD k 0 by rw [← HXE.out]; exact g3) Hc.out HALL.out)
    rw [← HXE.out] at PL
    go_wp2_with fail
    refine (reduce_all (ha.mono hbw5) Ht.out Hk.out Hf.out Hc.out Wa.out PL.out.1 PL.out.2.1).mono ?_
    rintro e w6 ⟨r6, rfl, hr6, hb6⟩
    have hbw6 := hbw5.trans (hb6.mono hbw5.size)
    have b_a6 := b_a5.below hb6
    have b_xx6 := b_xx5.below hb6
    have a_x6 := a_x5.mono hb6
    clear hb6 b_a5 b_xx5 a_x5 hbw5 c_a0 c_a1 c_a2 l_a c_xx0 c_xx1 c_xx2 l_xx hcx5
    obtain ⟨c_a0, c_a1, c_a2⟩ := b_a6.three
    have l_a := b_a6.lt
    obtain ⟨c_xx0, c_xx1, c_xx2⟩ := b_xx6.three
    have l_xx := b_xx6.lt
    obtain ⟨A6, ca6, D6, cd6, rfl, hs6, hd6⟩ := hr6.open_
    have hmk := run_make_list a.sh.length (by omega)
    have hrow := Row.made (w6.alloc (.cells #[.bool (redOf f a t k).ch, .slice A6 (redOf f a t k).sh.length ca6, .slice D6 (redOf f a t k).da.length cd6] 25)) a.sh.length
    have gr := Row.at_ hrow (k := k) (x := 0) (by rw [List.getElem?_replicate, if_pos hka])
    have fr := Box.frozen hrow k
    have lr := Box.lt hrow
    simp only [World.size_alloc] at hrow gr fr lr
    have hcy : ((w6.alloc (.cells #[.bool (redOf f a t k).ch, .slice A6 (redOf f a t k).sh.length ca6, .slice D6 (redOf f a t k).da.length cd6] 25)).alloc (.cells (madeCells #[.int .i64 0] a.sh.length) 3)).cell? (ax.add k) = some (.int .i64 X) := by
      obtain ⟨ax2, x, e, hx, -, hc⟩ := Elems.later EA.out (hbw6.trans ((below_two w6 _ _).mono hbw6.size)) hka
      injection e with e
      subst e
      rw [HXK.out] at hx
      injection hx with hx
      subst hx
      exact hc
    have o_a := l_a
    have o_xx := l_xx
    have oldx : IsArr (w6.alloc (.cells #[.bool (redOf f a t k).ch, .slice A6 (redOf f a t k).sh.length ca6, .slice D6 (redOf f a t k).da.length cd6] 25)) _ _ := (a_x6.mono (below_one _ _))
    go_wp2_with fail
    have nby := Box.new (w6.alloc (.cells #[.bool (redOf f a t k).ch, .slice A6 (redOf f a t k).sh.length ca6, .slice D6 (redOf f a t k).da.length cd6] 25)) 3 ((madeCells #[.int .i64 0] a.sh.length).setIfInBounds k (.int .i64 ((X : Int) - 1)))
    simp only [World.size_alloc] at nby
    have mby := box_by nby (by omega)
    rw [show List.replicate a.sh.length (0 : Int) = List.replicate t.length 0 by rw [HSL.out]] at mby
    clear nby
    refine (show Calls _ _ _ _ (GivesOk (drop ((List.replicate t.length 0).set k ((X : Int) - 1)) (scanOf f a t k)) _) from (drop_told (Mine.isInts mby) (a_x6.mono (below_two _ _ _))).mono fun e w' h => h.ok PL.out.2.2.1).mono ?_
    rintro e w7 ⟨r7, rfl, hr7, hb7⟩
    have mby2 := mby.mono hb7
    have gby := mby.lt
    have hbw7 := (hbw6.trans ((below_two w6 _ _).mono hbw6.size)).trans (hb7.mono (hbw6.trans ((below_two w6 _ _).mono hbw6.size)).size)
    have b_a7 := ((b_a6.alloc _).alloc _).below hb7
    have b_xx7 := ((b_xx6.alloc _).alloc _).below hb7
    have b_xy7 := ((Box.new w6 25 #[.bool (redOf f a t k).ch, .slice A6 (redOf f a t k).sh.length ca6, .slice D6 (redOf f a t k).da.length cd6]).alloc _).below hb7
    have a_x7 := (a_x6.mono (below_two _ _ _)).mono hb7
    have a_y7 := (hr6.mono (below_two _ _ _)).mono hb7
    clear hb7 b_a6 b_xx6 a_x6 hr6 hbw6 c_a0 c_a1 c_a2 l_a c_xx0 c_xx1 c_xx2 l_xx hcy hmk hrow gr fr lr mby gby
    obtain ⟨c_a0, c_a1, c_a2⟩ := b_a7.three
    have l_a := b_a7.lt
    obtain ⟨c_xx0, c_xx1, c_xx2⟩ := b_xx7.three
    have l_xx := b_xx7.lt
    obtain ⟨c_xy0, c_xy1, c_xy2⟩ := b_xy7.three
    have l_xy := b_xy7.lt
    have gby2 := mby2.lt
    obtain ⟨A7, ca7, D7, cd7, rfl, hs7, hd7⟩ := hr7.open_
    go_wp2_with fail
    refine (list_nil _ _ _ _ _ (IsArr.dataOf (hr7.mono (below_one _ _))) (IsArr.dataOf (a_y7.mono (below_one _ _)))).mono ?_
    rintro e w8 ⟨r8, rfl, hr8, hb8⟩
    have e8 : r8 = true := hr8.2 (PL.out.2.2.2.1)
    subst e8
    clear hr8
    have hbw8 := (hbw7.trans ((below_one w7 _).mono hbw7.size)).trans (hb8.mono (hbw7.trans ((below_one w7 _).mono hbw7.size)).size)
    have b_a8 := (b_a7.alloc _).below hb8
    have b_xx8 := (b_xx7.alloc _).below hb8
    have b_xy8 := (b_xy7.alloc _).below hb8
    have b_xz8 := (Box.new w7 25 #[.bool (drop ((List.replicate t.length 0).set k ((X : Int) - 1)) (scanOf f a t k)).ch, .slice A7 (drop ((List.replicate t.length 0).set k ((X : Int) - 1)) (scanOf f a t k)).sh.length ca7, .slice D7 (drop ((List.replicate t.length 0).set k ((X : Int) - 1)) (scanOf f a t k)).da.length cd7]).below hb8
    have a_x8 := (a_x7.mono (below_one _ _)).mono hb8
    have a_y8 := (a_y7.mono (below_one _ _)).mono hb8
    have a_by8 := (mby2.mono (below_one _ _)).mono hb8
    have a_z8 := (hr7.mono (below_one _ _)).mono hb8
    clear hb8 b_a7 b_xx7 b_xy7 a_x7 a_y7 mby2 hr7 hbw7 c_a0 c_a1 c_a2 l_a c_xx0 c_xx1 c_xx2 l_xx c_xy0 c_xy1 c_xy2 l_xy
    obtain ⟨c_a0, c_a1, c_a2⟩ := b_a8.three
    have l_a := b_a8.lt
    obtain ⟨c_xx0, c_xx1, c_xx2⟩ := b_xx8.three
    have l_xx := b_xx8.lt
    obtain ⟨c_xy0, c_xy1, c_xy2⟩ := b_xy8.three
    have l_xy := b_xy8.lt
    obtain ⟨c_xz0, c_xz1, c_xz2⟩ := b_xz8.three
    have l_xz := b_xz8.lt
    have hcx8 : w8.cell? (ax.add k) = some (.int .i64 X) := by
      obtain ⟨ax2, x, e, hx, -, hc⟩ := Elems.later EA.out hbw8 hka
      injection e with e
      subst e
      rw [HXK.out] at hx
      injection hx with hx
      subst hx
      exact hc
    have gku1 := a_by8.cell (show ((List.replicate t.length (0 : Int)).set k ((X : Int) - 1))[k]? = some ((X : Int) - 1) from List.getElem?_set_self (by rw [List.length_replicate]; exact Hk.out))
    have gfu1 := a_by8.frozen (k)
    have glu1 := a_by8.lt
    have m_u1 := a_by8.store (k) (1 - (X : Int))
    rw [List.set_set] at m_u1
    have au1_x := IsArr.away_old (g := w6.heap.size + 1) (k := k) oldx a_x8 (by simp) (.int .i64 (1 - (X : Int)))
    have nu1_a := b_a8.far (p := ⟨w6.heap.size + 1, k, none⟩) (by simp <;> omega) (.int .i64 (1 - (X : Int)))
    obtain ⟨du1_a0, du1_a1, du1_a2⟩ := nu1_a.three
    have nu1_xx := b_xx8.far (p := ⟨w6.heap.size + 1, k, none⟩) (by simp <;> omega) (.int .i64 (1 - (X : Int)))
    obtain ⟨du1_xx0, du1_xx1, du1_xx2⟩ := nu1_xx.three
    have nu1_xy := b_xy8.far (p := ⟨w6.heap.size + 1, k, none⟩) (by simp <;> omega) (.int .i64 (1 - (X : Int)))
    obtain ⟨du1_xy0, du1_xy1, du1_xy2⟩ := nu1_xy.three
    have nu1_xz := b_xz8.far (p := ⟨w6.heap.size + 1, k, none⟩) (by simp <;> omega) (.int .i64 (1 - (X : Int)))
    obtain ⟨du1_xz0, du1_xz1, du1_xz2⟩ := nu1_xz.three
    have hbsu1 := hbw8.setCell (p := ⟨w6.heap.size + 1, k, none⟩) (by simp <;> omega) (.int .i64 (1 - (X : Int)))
    clear a_by8 a_x8 b_a8 b_xx8 b_xy8 b_xz8 hbw8
    go_wp2_with fail
    refine ((show Calls _ _ _ _ (GivesOk (drop ((List.replicate t.length 0).set k (1 - (X : Int))) (scanOf f a t k)) _) from (drop_told (Mine.isInts m_u1) au1_x).mono fun e w' h => h.ok PL.out.2.2.2.2.1)).mono ?_
    rintro e w9 ⟨r9, rfl, hr9, hb9⟩
    have hbw9 := hbsu1.trans (hb9.mono hbsu1.size)
    have b_a9 := nu1_a.below hb9
    have b_xx9 := nu1_xx.below hb9
    have b_xy9 := nu1_xy.below hb9
    have b_xz9 := nu1_xz.below hb9
    have a_by9 := m_u1.mono hb9
    have a_x9 := au1_x.mono hb9
    clear hb9 nu1_a nu1_xx nu1_xy nu1_xz m_u1 au1_x hbsu1 c_a0 c_a1 c_a2 l_a c_xx0 c_xx1 c_xx2 l_xx c_xy0 c_xy1 c_xy2 l_xy c_xz0 c_xz1 c_xz2 l_xz hcx8 a_y8 a_z8 du1_a0 du1_a1 du1_a2 du1_xx0 du1_xx1 du1_xx2 du1_xy0 du1_xy1 du1_xy2 du1_xz0 du1_xz1 du1_xz2 gku1 gfu1 glu1
    obtain ⟨c_a0, c_a1, c_a2⟩ := b_a9.three
    have l_a := b_a9.lt
    obtain ⟨c_xx0, c_xx1, c_xx2⟩ := b_xx9.three
    have l_xx := b_xx9.lt
    obtain ⟨c_xy0, c_xy1, c_xy2⟩ := b_xy9.three
    have l_xy := b_xy9.lt
    obtain ⟨c_xz0, c_xz1, c_xz2⟩ := b_xz9.three
    have l_xz := b_xz9.lt
    obtain ⟨A9, ca9, D9, cd9, rfl, hs9, hd9⟩ := hr9.open_
    go_wp2_with fail
    refine ((show Calls _ _ _ _ (GivesOk (drop ((List.replicate t.length 0).set k (1 - (X : Int))) a) _) from (drop_told (Mine.isInts (a_by9.mono (below_one _ _))) (ha.mono (hbw9.trans ((below_one w9 _).mono hbw9.size)))).mono fun e w' h => h.ok PL.out.2.2.2.2.2.1)).mono ?_
    rintro e w10 ⟨r10, rfl, hr10, hb10⟩
    have hbw10 := (hbw9.trans ((below_one w9 _).mono hbw9.size)).trans (hb10.mono (hbw9.trans ((below_one w9 _).mono hbw9.size)).size)
    have b_a10 := (b_a9.alloc _).below hb10
    have b_xx10 := (b_xx9.alloc _).below hb10
    have b_xy10 := (b_xy9.alloc _).below hb10
    have b_xz10 := (b_xz9.alloc _).below hb10
    have b_xu10 := (Box.new w9 25 #[.bool (drop ((List.replicate t.length 0).set k (1 - (X : Int))) (scanOf f a t k)).ch, .slice A9 (drop ((List.replicate t.length 0).set k (1 - (X : Int))) (scanOf f a t k)).sh.length ca9, .slice D9 (drop ((List.replicate t.length 0).set k (1 - (X : Int))) (scanOf f a t k)).da.length cd9]).below hb10
    have a_by10 := (a_by9.mono (below_one _ _)).mono hb10
    have a_x10 := (a_x9.mono (below_one _ _)).mono hb10
    have a_u10 := (hr9.mono (below_one _ _)).mono hb10
    clear hb10 b_a9 b_xx9 b_xy9 b_xz9 a_by9 a_x9 hr9 hbw9 c_a0 c_a1 c_a2 l_a c_xx0 c_xx1 c_xx2 l_xx c_xy0 c_xy1 c_xy2 l_xy c_xz0 c_xz1 c_xz2 l_xz
    obtain ⟨c_a0, c_a1, c_a2⟩ := b_a10.three
    have l_a := b_a10.lt
    obtain ⟨c_xx0, c_xx1, c_xx2⟩ := b_xx10.three
    have l_xx := b_xx10.lt
    obtain ⟨c_xy0, c_xy1, c_xy2⟩ := b_xy10.three
    have l_xy := b_xy10.lt
    obtain ⟨c_xz0, c_xz1, c_xz2⟩ := b_xz10.three
    have l_xz := b_xz10.lt
    obtain ⟨c_xu0, c_xu1, c_xu2⟩ := b_xu10.three
    have l_xu := b_xu10.lt
    obtain ⟨A10, ca10, D10, cd10, rfl, hs10, hd10⟩ := hr10.open_
    go_wp2_with fail
    refine (alike_nil _ _ _ _ _ (a_u10.mono (below_one _ _)) (hr10.mono (below_one _ _))).mono ?_
    rintro e w11 ⟨r11, rfl, hr11, hb11⟩
    have e11 : r11 = true := hr11.2 (PL.out.2.2.2.2.2.2)
    subst e11
    clear hr11
    have hbw11 := (hbw10.trans ((below_one w10 _).mono hbw10.size)).trans (hb11.mono (hbw10.trans ((below_one w10 _).mono hbw10.size)).size)
    have b_a11 := (b_a10.alloc _).below hb11
    have b_xx11 := (b_xx10.alloc _).below hb11
    have b_xy11 := (b_xy10.alloc _).below hb11
    have b_xz11 := (b_xz10.alloc _).below hb11
    have b_xu11 := (b_xu10.alloc _).below hb11
    have b_xv11 := (Box.new w10 25 #[.bool (drop ((List.replicate t.length 0).set k (1 - (X : Int))) a).ch, .slice A10 (drop ((List.replicate t.length 0).set k (1 - (X : Int))) a).sh.length ca10, .slice D10 (drop ((List.replicate t.length 0).set k (1 - (X : Int))) a).da.length cd10]).below hb11
    have a_by11 := (a_by10.mono (below_one _ _)).mono hb11
    have a_x11 := (a_x10.mono (below_one _ _)).mono hb11
    have a_u11 := (a_u10.mono (below_one _ _)).mono hb11
    have a_v11 := (hr10.mono (below_one _ _)).mono hb11
    clear hb11 b_a10 b_xx10 b_xy10 b_xz10 b_xu10 a_by10 a_x10 a_u10 hr10 hbw10 c_a0 c_a1 c_a2 l_a c_xx0 c_xx1 c_xx2 l_xx c_xy0 c_xy1 c_xy2 l_xy c_xz0 c_xz1 c_xz2 l_xz c_xu0 c_xu1 c_xu2 l_xu
    obtain ⟨c_a0, c_a1, c_a2⟩ := b_a11.three
    have l_a := b_a11.lt
    obtain ⟨c_xx0, c_xx1, c_xx2⟩ := b_xx11.three
    have l_xx := b_xx11.lt
    obtain ⟨c_xy0, c_xy1, c_xy2⟩ := b_xy11.three
    have l_xy := b_xy11.lt
    obtain ⟨c_xz0, c_xz1, c_xz2⟩ := b_xz11.three
    have l_xz := b_xz11.lt
    obtain ⟨c_xu0, c_xu1, c_xu2⟩ := b_xu11.three
    have l_xu := b_xu11.lt
    obtain ⟨c_xv0, c_xv1, c_xv2⟩ := b_xv11.three
    have l_xv := b_xv11.lt
    go_wp2_with fail
    go_ret
    exact ⟨rfl, by have := hbw11.size; go_grown⟩
  · clear hq hmin hz2
    have hbw4 := hbw3.trans (hb4.mono hbw3.size)
    have b_a4 := b_a3.below hb4
    clear hb4 b_a3 hbw3 c_a0 c_a1 c_a2 l_a
    obtain ⟨c_a0, c_a1, c_a2⟩ := b_a4.three
    have l_a := b_a4.lt
    go_wp2_with fail
    go_ret
    exact ⟨rfl, by have := hbw4.size; go_grown⟩

end Go.Proofs.Ytamlangancaccaa
