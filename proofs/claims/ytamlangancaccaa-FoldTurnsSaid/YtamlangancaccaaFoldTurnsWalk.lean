/- The walk of the law FoldTurns. Conditions: none. -/
import Derived.Test.YtamlangancaccaaMonoWalk
import Derived.Test.YtamlangancaccaaSwingPlain
import Derived.Test.YtamlangancaccaaArrOf
import Derived.Test.YtamlangancaccaaStore
import Derived.Test.YtamlangancaccaaMore
import Derived.Test.YtamlangancaccaaAlike
import Derived.Test.YtamlangancaccaaMake
import Derived.Test.YtamlangancaccaaBase
set_option linter.unusedSimpArgs false
set_option linter.unusedVariables false
namespace Go.Proofs.Ytamlangancaccaa
open Go Go.RowKit Go.Proofs.Ytamlangancaccaa.P

set_option maxRecDepth 100000 in
set_option maxHeartbeats 4000000 in
theorem foldTurns_walk (f i0 i1 : Int) (va : Value) (a : Arr) (w : World) (ha : IsArr w va a) (wa : Wf a.da) :
    Calls Try.prog 3 #[.int .i64 f, .int .i64 i0, .int .i64 i1, va] w (Says w) := by
  obtain ⟨A, ca, D, da, rfl, -, -⟩ := ha.open_
  have Wa := Lib.hid wa
  clear wa
  go_enter Try.func3, Try.ntmps3
  go_wp2_with fail
  have x1 := (Box.new (w.alloc (.cells #[.bool a.ch, .slice A a.sh.length ca, .slice D a.da.length da] 25)) 3 #[.int .i64 2, .int .i64 7, .int .i64 4])
  simp only [World.size_alloc, World.size_setCell] at x1
  have i1 : IsInts ((w.alloc (.cells #[.bool a.ch, .slice A a.sh.length ca, .slice D a.da.length da] 25)).alloc (.cells #[.int .i64 2, .int .i64 7, .int .i64 4] 3)) (.slice (some ⟨w.heap.size + 1, 0, none⟩) 3 3) [2, 7, 4] := x1.isInts (xs := [2, 7, 4]) (n := 3) rfl (by omega)
  clear x1
  refine (vec_any _ [2, 7, 4] _ i1).mono ?_
  rintro e w1 ⟨r1, rfl, hr1, hb1⟩
  have hbw1 := ((Below.refl w.heap.size w).trans ((below_two w _ _).mono (Below.refl w.heap.size w).size)).trans (hb1.mono ((Below.refl w.heap.size w).trans ((below_two w _ _).mono (Below.refl w.heap.size w).size)).size)
  have b_a1 := ((Box.new w 25 #[.bool a.ch, .slice A a.sh.length ca, .slice D a.da.length da]).alloc _).below hb1
  clear hb1 i1
  obtain ⟨c_a0, c_a1, c_a2⟩ := b_a1.three
  have l_a := b_a1.lt
  go_wp2_with fail
  refine ((show Calls _ _ _ _ (GivesOk (⟨false, [], [7]⟩ : Arr) _) from (reduce_vec hr1 (ok_vec (xs := [2, 7, 4]) (by simp)) (tame_max.two 0 1) (by decide +kernel) rfl (by intro x hx; simp at hx; rcases hx with rfl | rfl | rfl <;> decide)).mono fun e w' h => by rw [show (ofR 6 [2, 7, 4]).1 = 7 by decide +kernel] at h; exact h)).mono ?_
  rintro e w2 ⟨r2, rfl, hr2, hb2⟩
  have hbw2 := hbw1.trans (hb2.mono hbw1.size)
  have b_a2 := b_a1.below hb2
  clear hb2 b_a1 hbw1 c_a0 c_a1 c_a2 l_a hr1
  obtain ⟨c_a0, c_a1, c_a2⟩ := b_a2.three
  have l_a := b_a2.lt
  obtain ⟨A2, ca2, D2, cd2, rfl, hs2, hd2⟩ := hr2.open_
  obtain ⟨af, x0, rfl, hx0, haf, hcf⟩ := Elems.later (IsInts.elems hd2) (Below.refl _ _) (k := 0) (by simp)
  simp only [List.getElem?_cons_zero, Option.some.injEq] at hx0
  subst hx0
  have hcf' : w2.cell? af = some (.int .i64 7) := hcf
  clear hs2 hd2 hcf
  by_cases hE : foldErr f i1 a = 0
  case neg =>
    have HE := Lib.hid hE
    clear hE
    go_wp2_with fail
    refine (reduce_bad (ha.mono (hbw2.trans ((below_one w2 _).mono hbw2.size))) HE.out).mono ?_
    rintro e w3 ⟨rfl, hb3⟩
    have hbw3 := (hbw2.trans ((below_one w2 _).mono hbw2.size)).trans (hb3.mono (hbw2.trans ((below_one w2 _).mono hbw2.size)).size)
    have b_a3 := (b_a2.alloc _).below hb3
    clear hb3 b_a2 hbw2 c_a0 c_a1 c_a2 l_a haf hcf' hr2
    obtain ⟨c_a0, c_a1, c_a2⟩ := b_a3.three
    have l_a := b_a3.lt
    go_wp2_with fail
    go_ret
    exact ⟨rfl, by have := hbw3.size; go_grown⟩
  obtain ⟨t, k, ht, rfl, hk, hc, hf⟩ := foldErr_zero hE
  have Ht := Lib.hid ht
  have Hk := Lib.hid hk
  have Hc := Lib.hid hc
  have Hf := Lib.hid hf
  clear hE ht hk hc hf
  go_wp2_with fail
  refine (reduce_ok (ha.mono (hbw2.trans ((below_one w2 _).mono hbw2.size))) Ht.out Hk.out Hf.out Hc.out Wa.out).mono ?_
  rintro e w3 h3
  rcases h3 with ⟨hz, rfl, hb3⟩ | ⟨hz, ⟨hall, r3, rfl, hr3, hb3⟩ | ⟨q, hq, hmin, hz2, rfl, hb3⟩⟩
  · clear hz
    have hbw3 := (hbw2.trans ((below_one w2 _).mono hbw2.size)).trans (hb3.mono (hbw2.trans ((below_one w2 _).mono hbw2.size)).size)
    have b_a3 := (b_a2.alloc _).below hb3
    clear hb3 b_a2 hbw2 c_a0 c_a1 c_a2 l_a haf hcf' hr2
    obtain ⟨c_a0, c_a1, c_a2⟩ := b_a3.three
    have l_a := b_a3.lt
    go_wp2_with fail
    go_ret
    exact ⟨rfl, by have := hbw3.size; go_grown⟩
  · have HZ := Lib.hid hz
    have HALL := Lib.hid hall
    clear hz hall
    have hbw3 := (hbw2.trans ((below_one w2 _).mono hbw2.size)).trans (hb3.mono (hbw2.trans ((below_one w2 _).mono hbw2.size)).size)
    have b_a3 := (b_a2.alloc _).below hb3
    clear hb3 b_a2 hbw2 c_a0 c_a1 c_a2 l_a haf hcf' hr2
    obtain ⟨c_a0, c_a1, c_a2⟩ := b_a3.three
    have l_a := b_a3.lt
    have hr3 : IsArr w3 r3 (redOf f a t k) := hr3
    obtain ⟨A3, ca3, D3, cd3, rfl, hs3, hd3⟩ := hr3.open_
    by_cases hm : Mono f
    case neg =>
      have HM := Lib.hid hm
      clear hm
      go_wp2_with fail
      refine (monoid_any f _).mono ?_
      rintro e w4 ⟨rm, rfl, hrm, hb4⟩
      have erm : rm = false := by cases rm with | false => rfl | true => exact absurd (hrm.1 rfl) HM.out
      subst erm
      clear hrm
      have hbw4 := (hbw3.trans ((below_one w3 _).mono hbw3.size)).trans (hb4.mono (hbw3.trans ((below_one w3 _).mono hbw3.size)).size)
      have b_a4 := (b_a3.alloc _).below hb4
      have b_xx4 := (Box.new w3 25 #[.bool (redOf f a t k).ch, .slice A3 (redOf f a t k).sh.length ca3, .slice D3 (redOf f a t k).da.length cd3]).below hb4
      have a_x4 := (hr3.mono (below_one _ _)).mono hb4
      clear hb4 b_a3 hr3 hbw3 c_a0 c_a1 c_a2 l_a
      obtain ⟨c_a0, c_a1, c_a2⟩ := b_a4.three
      have l_a := b_a4.lt
      obtain ⟨c_xx0, c_xx1, c_xx2⟩ := b_xx4.three
      have l_xx := b_xx4.lt
      go_wp2_with fail
      go_ret
      exact ⟨rfl, by have := hbw4.size; go_grown⟩
    have HM := Lib.hid hm
    clear hm
    go_wp2_with fail
    refine (monoid_any f _).mono ?_
    rintro e w4 ⟨rm, rfl, hrm, hb4⟩
    have erm : rm = true := hrm.2 HM.out
    subst erm
    clear hrm
    have hbw4 := (hbw3.trans ((below_one w3 _).mono hbw3.size)).trans (hb4.mono (hbw3.trans ((below_one w3 _).mono hbw3.size)).size)
    have b_a4 := (b_a3.alloc _).below hb4
    have b_xx4 := (Box.new w3 25 #[.bool (redOf f a t k).ch, .slice A3 (redOf f a t k).sh.length ca3, .slice D3 (redOf f a t k).da.length cd3]).below hb4
    have a_x4 := (hr3.mono (below_one _ _)).mono hb4
    clear hb4 b_a3 hr3 hbw3 c_a0 c_a1 c_a2 l_a
    obtain ⟨c_a0, c_a1, c_a2⟩ := b_a4.three
    have l_a := b_a4.lt
    obtain ⟨c_xx0, c_xx1, c_xx2⟩ := b_xx4.three
    have l_xx := b_xx4.lt
    go_wp2_with fail
    refine (reverse_ok (ha.mono hbw4) Ht.out Hk.out).mono ?_
    rintro e w5 ⟨r5, rfl, hr5, hb5⟩
    have hbw5 := hbw4.trans (hb5.mono hbw4.size)
    have b_a5 := b_a4.below hb5
    have b_xx5 := b_xx4.below hb5
    have a_x5 := a_x4.mono hb5
    clear hb5 b_a4 b_xx4 a_x4 hbw4 c_a0 c_a1 c_a2 l_a c_xx0 c_xx1 c_xx2 l_xx
    obtain ⟨c_a0, c_a1, c_a2⟩ := b_a5.three
    have l_a := b_a5.lt
    obtain ⟨c_xx0, c_xx1, c_xx2⟩ := b_xx5.three
    have l_xx := b_xx5.lt
    obtain ⟨A5, ca5, D5, cd5, rfl, hs5, hd5⟩ := hr5.open_
    go_wp2_with fail
    refine ((show Calls _ _ _ _ (GivesOk (redOf f a t k) _) from (reduce_mono (hr5.mono (below_one _ _)) (rev_ok Ht.out) Hk.out HM.out (by rw [rev_ch]; exact Hc.out) (rev_wf Wa.out) HZ.out).mono fun e w' h => by rw [redOf_rev HM.out Ht.out Hk.out] at h; exact h)).mono ?_
    rintro e w6 ⟨r6, rfl, hr6, hb6⟩
    have hbw6 := (hbw5.trans ((below_one w5 _).mono hbw5.size)).trans (hb6.mono (hbw5.trans ((below_one w5 _).mono hbw5.size)).size)
    have b_a6 := (b_a5.alloc _).below hb6
    have b_xx6 := (b_xx5.alloc _).below hb6
    have b_xy6 := (Box.new w5 25 #[.bool (rev k a).ch, .slice A5 (rev k a).sh.length ca5, .slice D5 (rev k a).da.length cd5]).below hb6
    have a_x6 := (a_x5.mono (below_one _ _)).mono hb6
    have a_y6 := (hr5.mono (below_one _ _)).mono hb6
    clear hb6 b_a5 b_xx5 a_x5 hr5 hbw5 c_a0 c_a1 c_a2 l_a c_xx0 c_xx1 c_xx2 l_xx
    obtain ⟨c_a0, c_a1, c_a2⟩ := b_a6.three
    have l_a := b_a6.lt
    obtain ⟨c_xx0, c_xx1, c_xx2⟩ := b_xx6.three
    have l_xx := b_xx6.lt
    obtain ⟨c_xy0, c_xy1, c_xy2⟩ := b_xy6.three
    have l_xy := b_xy6.lt
    obtain ⟨A6, ca6, D6, cd6, rfl, hs6, hd6⟩ := hr6.open_
    go_wp2_with fail
    refine (alike_nil _ _ _ _ _ (hr6.mono (below_one _ _)) (a_x6.mono (below_one _ _))).mono ?_
    rintro e w7 ⟨r7, rfl, hr7, hb7⟩
    have e7 : r7 = true := hr7.2 (rfl)
    subst e7
    clear hr7
    have hbw7 := (hbw6.trans ((below_one w6 _).mono hbw6.size)).trans (hb7.mono (hbw6.trans ((below_one w6 _).mono hbw6.size)).size)
    have b_a7 := (b_a6.alloc _).below hb7
    have b_xx7 := (b_xx6.alloc _).below hb7
    have b_xy7 := (b_xy6.alloc _).below hb7
    have b_xu7 := (Box.new w6 25 #[.bool (redOf f a t k).ch, .slice A6 (redOf f a t k).sh.length ca6, .slice D6 (redOf f a t k).da.length cd6]).below hb7
    have a_x7 := (a_x6.mono (below_one _ _)).mono hb7
    have a_y7 := (a_y6.mono (below_one _ _)).mono hb7
    have a_u7 := (hr6.mono (below_one _ _)).mono hb7
    clear hb7 b_a6 b_xx6 b_xy6 a_x6 a_y6 hr6 hbw6 c_a0 c_a1 c_a2 l_a c_xx0 c_xx1 c_xx2 l_xx c_xy0 c_xy1 c_xy2 l_xy
    obtain ⟨c_a0, c_a1, c_a2⟩ := b_a7.three
    have l_a := b_a7.lt
    obtain ⟨c_xx0, c_xx1, c_xx2⟩ := b_xx7.three
    have l_xx := b_xx7.lt
    obtain ⟨c_xy0, c_xy1, c_xy2⟩ := b_xy7.three
    have l_xy := b_xy7.lt
    obtain ⟨c_xu0, c_xu1, c_xu2⟩ := b_xu7.three
    have l_xu := b_xu7.lt
    go_wp2_with fail
    refine (rotate_ok (ha.mono hbw7) Ht.out Hk.out).mono ?_
    rintro e w8 ⟨r8, rfl, hr8, hb8⟩
    have hbw8 := hbw7.trans (hb8.mono hbw7.size)
    have b_a8 := b_a7.below hb8
    have b_xx8 := b_xx7.below hb8
    have b_xy8 := b_xy7.below hb8
    have b_xu8 := b_xu7.below hb8
    have a_x8 := a_x7.mono hb8
    have a_y8 := a_y7.mono hb8
    have a_u8 := a_u7.mono hb8
    clear hb8 b_a7 b_xx7 b_xy7 b_xu7 a_x7 a_y7 a_u7 hbw7 c_a0 c_a1 c_a2 l_a c_xx0 c_xx1 c_xx2 l_xx c_xy0 c_xy1 c_xy2 l_xy c_xu0 c_xu1 c_xu2 l_xu
    obtain ⟨c_a0, c_a1, c_a2⟩ := b_a8.three
    have l_a := b_a8.lt
    obtain ⟨c_xx0, c_xx1, c_xx2⟩ := b_xx8.three
    have l_xx := b_xx8.lt
    obtain ⟨c_xy0, c_xy1, c_xy2⟩ := b_xy8.three
    have l_xy := b_xy8.lt
    obtain ⟨c_xu0, c_xu1, c_xu2⟩ := b_xu8.three
    have l_xu := b_xu8.lt
    obtain ⟨A8, ca8, D8, cd8, rfl, hs8, hd8⟩ := hr8.open_
    go_wp2_with fail
    refine ((show Calls _ _ _ _ (GivesOk (redOf f a t k) _) from (reduce_mono (hr8.mono (below_one _ _)) (rot_ok Ht.out) Hk.out HM.out (by rw [rot_ch]; exact Hc.out) (rot_wf Wa.out) HZ.out).mono fun e w' h => by rw [redOf_rot HM.out Ht.out Hk.out] at h; exact h)).mono ?_
    rintro e w9 ⟨r9, rfl, hr9, hb9⟩
    have hbw9 := (hbw8.trans ((below_one w8 _).mono hbw8.size)).trans (hb9.mono (hbw8.trans ((below_one w8 _).mono hbw8.size)).size)
    have b_a9 := (b_a8.alloc _).below hb9
    have b_xx9 := (b_xx8.alloc _).below hb9
    have b_xy9 := (b_xy8.alloc _).below hb9
    have b_xu9 := (b_xu8.alloc _).below hb9
    have b_xz9 := (Box.new w8 25 #[.bool (rot i0 k a).ch, .slice A8 (rot i0 k a).sh.length ca8, .slice D8 (rot i0 k a).da.length cd8]).below hb9
    have a_x9 := (a_x8.mono (below_one _ _)).mono hb9
    have a_y9 := (a_y8.mono (below_one _ _)).mono hb9
    have a_u9 := (a_u8.mono (below_one _ _)).mono hb9
    have a_z9 := (hr8.mono (below_one _ _)).mono hb9
    clear hb9 b_a8 b_xx8 b_xy8 b_xu8 a_x8 a_y8 a_u8 hr8 hbw8 c_a0 c_a1 c_a2 l_a c_xx0 c_xx1 c_xx2 l_xx c_xy0 c_xy1 c_xy2 l_xy c_xu0 c_xu1 c_xu2 l_xu
    obtain ⟨c_a0, c_a1, c_a2⟩ := b_a9.three
    have l_a := b_a9.lt
    obtain ⟨c_xx0, c_xx1, c_xx2⟩ := b_xx9.three
    have l_xx := b_xx9.lt
    obtain ⟨c_xy0, c_xy1, c_xy2⟩ := b_xy9.three
    have l_xy := b_xy9.lt
    obtain ⟨c_xu0, c_xu1, c_xu2⟩ := b_xu9.three
    have l_xu := b_xu9.lt
    obtain ⟨c_xz0, c_xz1, c_xz2⟩ := b_xz9.three
    have l_xz := b_xz9.lt
    obtain ⟨A9, ca9, D9, cd9, rfl, hs9, hd9⟩ := hr9.open_
    go_wp2_with fail
    refine (alike_nil _ _ _ _ _ (hr9.mono (below_one _ _)) (a_x9.mono (below_one _ _))).mono ?_
    rintro e w10 ⟨r10, rfl, hr10, hb10⟩
    have e10 : r10 = true := hr10.2 (rfl)
    subst e10
    clear hr10
    have hbw10 := (hbw9.trans ((below_one w9 _).mono hbw9.size)).trans (hb10.mono (hbw9.trans ((below_one w9 _).mono hbw9.size)).size)
    have b_a10 := (b_a9.alloc _).below hb10
    have b_xx10 := (b_xx9.alloc _).below hb10
    have b_xy10 := (b_xy9.alloc _).below hb10
    have b_xu10 := (b_xu9.alloc _).below hb10
    have b_xz10 := (b_xz9.alloc _).below hb10
    have b_xv210 := (Box.new w9 25 #[.bool (redOf f a t k).ch, .slice A9 (redOf f a t k).sh.length ca9, .slice D9 (redOf f a t k).da.length cd9]).below hb10
    have a_x10 := (a_x9.mono (below_one _ _)).mono hb10
    have a_y10 := (a_y9.mono (below_one _ _)).mono hb10
    have a_u10 := (a_u9.mono (below_one _ _)).mono hb10
    have a_z10 := (a_z9.mono (below_one _ _)).mono hb10
    have a_v210 := (hr9.mono (below_one _ _)).mono hb10
    clear hb10 b_a9 b_xx9 b_xy9 b_xu9 b_xz9 a_x9 a_y9 a_u9 a_z9 hr9 hbw9 c_a0 c_a1 c_a2 l_a c_xx0 c_xx1 c_xx2 l_xx c_xy0 c_xy1 c_xy2 l_xy c_xu0 c_xu1 c_xu2 l_xu c_xz0 c_xz1 c_xz2 l_xz
    obtain ⟨c_a0, c_a1, c_a2⟩ := b_a10.three
    have l_a := b_a10.lt
    obtain ⟨c_xx0, c_xx1, c_xx2⟩ := b_xx10.three
    have l_xx := b_xx10.lt
    obtain ⟨c_xy0, c_xy1, c_xy2⟩ := b_xy10.three
    have l_xy := b_xy10.lt
    obtain ⟨c_xu0, c_xu1, c_xu2⟩ := b_xu10.three
    have l_xu := b_xu10.lt
    obtain ⟨c_xz0, c_xz1, c_xz2⟩ := b_xz10.three
    have l_xz := b_xz10.lt
    obtain ⟨c_xv20, c_xv21, c_xv22⟩ := b_xv210.three
    have l_xv2 := b_xv210.lt
    go_wp2_with fail
    go_ret
    exact ⟨rfl, by have := hbw10.size; go_grown⟩
  · clear hz hq hmin hz2
    have hbw3 := (hbw2.trans ((below_one w2 _).mono hbw2.size)).trans (hb3.mono (hbw2.trans ((below_one w2 _).mono hbw2.size)).size)
    have b_a3 := (b_a2.alloc _).below hb3
    clear hb3 b_a2 hbw2 c_a0 c_a1 c_a2 l_a haf hcf' hr2
    obtain ⟨c_a0, c_a1, c_a2⟩ := b_a3.three
    have l_a := b_a3.lt
    go_wp2_with fail
    go_ret
    exact ⟨rfl, by have := hbw3.size; go_grown⟩

end Go.Proofs.Ytamlangancaccaa
