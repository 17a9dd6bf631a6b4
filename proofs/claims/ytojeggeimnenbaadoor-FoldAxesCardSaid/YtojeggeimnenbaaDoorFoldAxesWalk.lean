/- The walk of the law FoldAxes. Conditions: none. -/
import Derived.Test.YtojeggeimnenbaaDoorAxesFold
import Derived.Test.YtojeggeimnenbaaDoorAsErr
import Derived.Test.YtojeggeimnenbaaDoorStore
import Derived.Test.YtojeggeimnenbaaDoorMore
import Derived.Test.YtojeggeimnenbaaDoorAlike
import Derived.Test.YtojeggeimnenbaaDoorMake
import Derived.Test.YtojeggeimnenbaaDoorBase
set_option linter.unusedSimpArgs false
set_option linter.unusedVariables false
namespace Go.Proofs.YtojeggeimnenbaaDoor
open Go Go.RowKit Go.Proofs.YtojeggeimnenbaaDoor.P

set_option maxRecDepth 100000 in
set_option maxHeartbeats 4000000 in
theorem foldAxes_walk (f ia ib : Int) (va : Value) (a : Arr) (w : World) (hg : Laid0 w) (ha : IsArr w va a) (wa : Wf a.da) :
    Calls Tryd.prog 6 #[.int .i64 f, .int .i64 ia, .int .i64 ib, va] w (Says w) := by
  obtain ⟨A, ca, D, da, rfl, -, -⟩ := ha.open_
  have Wa := Lib.hid wa
  clear wa
  go_enter Tryd.func6, Tryd.ntmps6
  go_wp2_with fail
  have x1 := (Box.new (w.alloc (.cells #[.bool a.ch, .slice A a.sh.length ca, .slice D a.da.length da] 25)) 3 #[.int .i64 2, .int .i64 2])
  simp only [World.size_alloc, World.size_setCell] at x1
  have i1 : IsInts (((w.alloc (.cells #[.bool a.ch, .slice A a.sh.length ca, .slice D a.da.length da] 25)).alloc (.cells #[.int .i64 2, .int .i64 2] 3)).alloc (.cells #[.int .i64 1, .int .i64 2, .int .i64 3, .int .i64 4] 3)) (.slice (some ⟨w.heap.size + 1, 0, none⟩) 2 2) [2, 2] := (x1.alloc _).isInts (xs := [2, 2]) (n := 2) rfl (by omega)
  have x2 := (Box.new ((w.alloc (.cells #[.bool a.ch, .slice A a.sh.length ca, .slice D a.da.length da] 25)).alloc (.cells #[.int .i64 2, .int .i64 2] 3)) 3 #[.int .i64 1, .int .i64 2, .int .i64 3, .int .i64 4])
  simp only [World.size_alloc, World.size_setCell] at x2
  have i2 : IsInts (((w.alloc (.cells #[.bool a.ch, .slice A a.sh.length ca, .slice D a.da.length da] 25)).alloc (.cells #[.int .i64 2, .int .i64 2] 3)).alloc (.cells #[.int .i64 1, .int .i64 2, .int .i64 3, .int .i64 4] 3)) (.slice (some ⟨w.heap.size + 1 + 1, 0, none⟩) 4 4) [1, 2, 3, 4] := x2.isInts (xs := [1, 2, 3, 4]) (n := 4) rfl (by omega)
  clear x1 x2
  refine ((show Calls _ _ _ _ (GivesOk (⟨false, [2], [4, 6]⟩ : Arr) _) from (reduce_mono (k := 0) (show IsArr _ _ (⟨false, [2, 2], [1, 2, 3, 4]⟩ : Arr) from ⟨_, _, rfl, i1, i2⟩) sq_ok (by decide) (.inl rfl) rfl (by intro x hx; simp at hx; rcases hx with rfl | rfl | rfl | rfl <;> decide) (by rw [redErr_mono (.inl rfl) (by decide)]; decide)).mono fun e w' h => by rw [sq_red] at h; exact h)).mono ?_
  rintro e w1 ⟨r1, rfl, hr1, hb1⟩
  have hbw1 := ((Below.refl w.heap.size w).trans ((below_three w _ _ _).mono (Below.refl w.heap.size w).size)).trans (hb1.mono ((Below.refl w.heap.size w).trans ((below_three w _ _ _).mono (Below.refl w.heap.size w).size)).size)
  have b_a1 := (((Box.new w 25 #[.bool a.ch, .slice A a.sh.length ca, .slice D a.da.length da]).alloc _).alloc _).below hb1
  clear hb1 i1 i2
  obtain ⟨c_a0, c_a1, c_a2⟩ := b_a1.three
  have l_a := b_a1.lt
  obtain ⟨A1, ca1, D1, cd1, rfl, hs1, hd1⟩ := hr1.open_
  go_wp2_with fail
  have bq := Box.new (w1.alloc (.cells #[.bool ((⟨false, [2], [4, 6]⟩ : Arr)).ch, .slice A1 ((⟨false, [2], [4, 6]⟩ : Arr)).sh.length ca1, .slice D1 ((⟨false, [2], [4, 6]⟩ : Arr)).da.length cd1] 25)) 3 #[.int .i64 4, .int .i64 6]
  rw [World.size_alloc] at bq
  refine (ints_any _ _ _ [4, 6] _ (hd1.mono (below_two _ _ _)) (bq.isInts rfl (by simp))).mono ?_
  rintro e w2 ⟨r2, rfl, hr2, hb2⟩
  have e2 : r2 = true := hr2.2 (by first | decide | decide +kernel)
  subst e2
  clear hr2 hs1 hd1
  clear hr1
  have hbw2 := (hbw1.trans ((below_two w1 _ _).mono hbw1.size)).trans (hb2.mono (hbw1.trans ((below_two w1 _ _).mono hbw1.size)).size)
  have b_a2 := ((b_a1.alloc _).alloc _).below hb2
  clear hb2 b_a1 hbw1 c_a0 c_a1 c_a2 l_a bq
  obtain ⟨c_a0, c_a1, c_a2⟩ := b_a2.three
  have l_a := b_a2.lt
  by_cases hm : Mono f
  case neg =>
    have HM := Lib.hid hm
    clear hm
    go_wp2_with fail
    refine (monoid_any f _).mono ?_
    rintro e w3 ⟨rm, rfl, hrm, hb3⟩
    have erm : rm = false := by cases rm with | false => rfl | true => exact absurd (hrm.1 rfl) HM.out
    subst erm
    clear hrm
    have hbw3 := hbw2.trans (hb3.mono hbw2.size)
    have b_a3 := b_a2.below hb3
    clear hb3 b_a2 hbw2 c_a0 c_a1 c_a2 l_a
    obtain ⟨c_a0, c_a1, c_a2⟩ := b_a3.three
    have l_a := b_a3.lt
    go_wp2_with fail
    go_ret
    exact ⟨rfl, by have := hbw3.size; go_grown⟩
  have HM := Lib.hid hm
  clear hm
  go_wp2_with fail
  refine (monoid_any f _).mono ?_
  rintro e w3 ⟨rm, rfl, hrm, hb3⟩
  have erm : rm = true := hrm.2 HM.out
  subst erm
  clear hrm
  have hbw3 := hbw2.trans (hb3.mono hbw2.size)
  have b_a3 := b_a2.below hb3
  clear hb3 b_a2 hbw2 c_a0 c_a1 c_a2 l_a
  obtain ⟨c_a0, c_a1, c_a2⟩ := b_a3.three
  have l_a := b_a3.lt
  rcases Int.lt_or_le ia 0 with g0 | g0
  · have d0 : decide (ia < 0) = true := by simpa using g0
    go_wp2_with fail
    go_ret
    exact ⟨rfl, by have := hbw3.size; go_grown⟩
  have d0 : decide (ia < 0) = false := by simp; omega
  rcases Int.lt_or_le ia ib with g1 | g1
  case inr =>
    have d1 : decide (ib ≤ ia) = true := by simpa using g1
    go_wp2_with fail
    go_ret
    exact ⟨rfl, by have := hbw3.size; go_grown⟩
  have d1 : decide (ib ≤ ia) = false := by simp; omega
  rcases mono_told f ib a HM.out with ⟨t, j, ht, rfl, hj, hc, he⟩ | hbad
  case inr =>
    obtain ⟨x, hx, hx2⟩ := hbad Wa.out
    have HX2 := Lib.hid hx2
    clear hbad hx2
    go_wp2_with fail
    refine (HX2.out _ _ (ha.mono hbw3)).mono ?_
    rintro e w4 ⟨rfl, hb4⟩
    have hbw4 := hbw3.trans (hb4.mono hbw3.size)
    have b_a4 := b_a3.below hb4
    clear hb4 b_a3 hbw3 c_a0 c_a1 c_a2 l_a
    obtain ⟨c_a0, c_a1, c_a2⟩ := b_a4.three
    have l_a := b_a4.lt
    go_wp2_with fail
    refine (reduce_some (ha.mono (hbw4.trans ((below_one w4 _).mono hbw4.size))) Wa.out HM.out).mono ?_
    rintro e w5 ⟨r5, ev5, y5, rfl, hr5, hb5⟩
    have hbw5 := (hbw4.trans ((below_one w4 _).mono hbw4.size)).trans (hb5.mono (hbw4.trans ((below_one w4 _).mono hbw4.size)).size)
    have b_a5 := (b_a4.alloc _).below hb5
    have b_xx5 := (Box.new w4 25 #[.bool false, .slice none 0 0, .slice none 0 0]).below hb5
    clear hb5 b_a4 hbw4 c_a0 c_a1 c_a2 l_a
    obtain ⟨c_a0, c_a1, c_a2⟩ := b_a5.three
    have l_a := b_a5.lt
    obtain ⟨c_xx0, c_xx1, c_xx2⟩ := b_xx5.three
    have l_xx := b_xx5.lt
    obtain ⟨A5, ca5, D5, cd5, rfl, hs5, hd5⟩ := hr5.open_
    go_wp2_with fail
    go_ret
    exact ⟨rfl, by have := hbw5.size; go_grown⟩
  have Ht := Lib.hid ht
  have Hj := Lib.hid hj
  have Hc := Lib.hid hc
  have He := Lib.hid he
  clear ht hj hc he
  go_wp2_with fail
  refine (reduce_mono (ha.mono hbw3) Ht.out Hj.out HM.out Hc.out Wa.out He.out).mono ?_
  rintro e w4 ⟨r4, rfl, hr4, hb4⟩
  have hbw4 := hbw3.trans (hb4.mono hbw3.size)
  have b_a4 := b_a3.below hb4
  clear hb4 b_a3 hbw3 c_a0 c_a1 c_a2 l_a
  obtain ⟨c_a0, c_a1, c_a2⟩ := b_a4.three
  have l_a := b_a4.lt
  obtain ⟨A4, ca4, D4, cd4, rfl, hs4, hd4⟩ := hr4.open_
  have o1 := l_a
  rcases mono_told f ia a HM.out with ⟨tq, i, htq, rfl, hi, -, he2⟩ | hbad
  case inr =>
    obtain ⟨x, hx, hx2⟩ := hbad Wa.out
    have HX2 := Lib.hid hx2
    clear hbad hx2
    go_wp2_with fail
    refine (HX2.out _ _ (ha.mono (hbw4.trans ((below_one w4 _).mono hbw4.size)))).mono ?_
    rintro e w5 ⟨rfl, hb5⟩
    have hbw5 := (hbw4.trans ((below_one w4 _).mono hbw4.size)).trans (hb5.mono (hbw4.trans ((below_one w4 _).mono hbw4.size)).size)
    have b_a5 := (b_a4.alloc _).below hb5
    have b_xx5 := (Box.new w4 25 #[.bool (redOf f a t j).ch, .slice A4 (redOf f a t j).sh.length ca4, .slice D4 (redOf f a t j).da.length cd4]).below hb5
    have a_x5 := (hr4.mono (below_one _ _)).mono hb5
    clear hb5 b_a4 hr4 hbw4 c_a0 c_a1 c_a2 l_a
    obtain ⟨c_a0, c_a1, c_a2⟩ := b_a5.three
    have l_a := b_a5.lt
    obtain ⟨c_xx0, c_xx1, c_xx2⟩ := b_xx5.three
    have l_xx := b_xx5.lt
    go_wp2_with fail
    go_ret
    exact ⟨rfl, by have := hbw5.size; go_grown⟩
  have e3 : t = tq := by have := htq.nsh_eq; rw [Ht.out.nsh_eq] at this; exact this
  subst e3
  have Hi := Lib.hid hi
  have He2 := Lib.hid he2
  have Hij := Lib.hid (show i < j by omega)
  clear htq hi he2
  go_wp2_with fail
  refine (reduce_mono (ha.mono (hbw4.trans ((below_one w4 _).mono hbw4.size))) Ht.out Hi.out HM.out Hc.out Wa.out He2.out).mono ?_
  rintro e w5 ⟨r5, rfl, hr5, hb5⟩
  have hbw5 := (hbw4.trans ((below_one w4 _).mono hbw4.size)).trans (hb5.mono (hbw4.trans ((below_one w4 _).mono hbw4.size)).size)
  have b_a5 := (b_a4.alloc _).below hb5
  have b_xx5 := (Box.new w4 25 #[.bool (redOf f a t j).ch, .slice A4 (redOf f a t j).sh.length ca4, .slice D4 (redOf f a t j).da.length cd4]).below hb5
  have a_x5 := (hr4.mono (below_one _ _)).mono hb5
  clear hb5 b_a4 hr4 hbw4 c_a0 c_a1 c_a2 l_a
  obtain ⟨c_a0, c_a1, c_a2⟩ := b_a5.three
  have l_a := b_a5.lt
  obtain ⟨c_xx0, c_xx1, c_xx2⟩ := b_xx5.three
  have l_xx := b_xx5.lt
  obtain ⟨A5, ca5, D5, cd5, rfl, hs5, hd5⟩ := hr5.open_
  have o2 := l_xx
  have HXO := Lib.hid (redOf_ok (f := f) Ht.out Hj.out (red_small HM.out Hj.out Ht.out.good He.out))
  have HYO := Lib.hid (redOf_ok (f := f) Ht.out Hi.out (red_small HM.out Hi.out Ht.out.good He2.out))
  have HFE := Lib.hid (fubini_err HM.out Hij.out Hj.out He.out He2.out)
  have HFU := Lib.hid (fubini HM.out Ht.out Wa.out Hij.out Hj.out)
  have HXW := Lib.hid (redOf_wf HM.out Hj.out Wa.out)
  have HYW := Lib.hid (redOf_wf HM.out Hi.out Wa.out)
  have Hi3 := Lib.hid (show i < (t.eraseIdx j).length by rw [List.length_eraseIdx]; have := Hj.out; have := Hij.out; split <;> omega)
  have Hj3 := Lib.hid (show j - 1 < (t.eraseIdx i).length by rw [List.length_eraseIdx]; have := Hj.out; have := Hij.out; split <;> omega)
  have ej1 : (j : Int) - 1 = ((j - 1 : Nat) : Int) := by have := Hij.out; omega
  have ej2 : IntKind.i64.wrap ((j - 1 : Nat) : Int) = ((j - 1 : Nat) : Int) := IntWalk.i64_in _ (by have := Hj.out; have := Ht.out.good.1; omega)
  obtain ⟨J, hJ⟩ : ∃ J, J = j - 1 := ⟨_, rfl⟩
  rw [← hJ] at ej1 ej2 HFE HFU Hj3
  clear hJ g0 g1
  by_cases he3 : redErr f (t.eraseIdx j) i = 0
  case neg =>
    have HE3 := Lib.hid he3
    have HE4 := Lib.hid (show redErr f (t.eraseIdx i) J ≠ 0 by rw [← HFE.out]; exact he3)
    clear he3
    go_wp2_with fail
    refine (reduce_fail (a_x5.mono (below_one _ _)) HXO.out Hi3.out HM.out rfl HXW.out HE3.out).mono ?_
    rintro e w6 ⟨rfl, hb6⟩
    have hbw6 := (hbw5.trans ((below_one w5 _).mono hbw5.size)).trans (hb6.mono (hbw5.trans ((below_one w5 _).mono hbw5.size)).size)
    have b_a6 := (b_a5.alloc _).below hb6
    have b_xx6 := (b_xx5.alloc _).below hb6
    have b_xy6 := (Box.new w5 25 #[.bool (redOf f a t i).ch, .slice A5 (redOf f a t i).sh.length ca5, .slice D5 (redOf f a t i).da.length cd5]).below hb6
    have a_x6 := (a_x5.mono (below_one _ _)).mono hb6
    have a_y6 := (hr5.mono (below_one _ _)).mono hb6
    clear hb6 b_a5 b_xx5 a_x5 hr5 hbw5 c_a0 c_a1 c_a2 l_a c_xx0 c_xx1 c_xx2 l_xx
    obtain ⟨c_a0, c_a1, c_a2⟩ := b_a6.three
    have l_a := b_a6.lt
    obtain ⟨c_xx0, c_xx1, c_xx2⟩ := b_xx6.three
    have l_xx := b_xx6.lt
    obtain ⟨c_xy0, c_xy1, c_xy2⟩ := b_xy6.three
    have l_xy := b_xy6.lt
    have fz6 := b_xx6.frozen
    have sc_a0_6 := cellS (q := ⟨w4.heap.size, 0, none⟩) (u := (.bool false)) c_a0 (by simp <;> omega)
    have sc_a1_6 := cellS (q := ⟨w4.heap.size, 1, none⟩) (u := (.slice none 0 0)) c_a1 (by simp <;> omega)
    have sc_a2_6 := cellS (q := ⟨w4.heap.size, 2, none⟩) (u := (.slice none 0 0)) c_a2 (by simp <;> omega)
    have sc_xy0_6 := cellS (q := ⟨w4.heap.size, 0, none⟩) (u := (.bool false)) c_xy0 (by simp <;> omega)
    have sc_xy1_6 := cellS (q := ⟨w4.heap.size, 1, none⟩) (u := (.slice none 0 0)) c_xy1 (by simp <;> omega)
    have sc_xy2_6 := cellS (q := ⟨w4.heap.size, 2, none⟩) (u := (.slice none 0 0)) c_xy2 (by simp <;> omega)
    have gb6 := grownBy_three w6 (w4.heap.size) (.bool false) (.slice none 0 0) (.slice none 0 0)
    have n_a6 := b_a6.grown gb6 (by simp <;> omega)
    have n_xx6 := ((b_xx6.store 0 (.bool false)).store 1 (.slice none 0 0)).store 2 (.slice none 0 0)
    simp only [List.setIfInBounds_toArray, List.set_cons_zero, List.set_cons_succ] at n_xx6
    have n_xy6 := b_xy6.grown gb6 (by simp <;> omega)
    have m_y6 := a_y6.laid b_xx6 (.bool false) (.slice none 0 0) (.slice none 0 0)
    have hbs6 : Below w.heap.size w (((w6.setCell ⟨w4.heap.size, 0, none⟩ (.bool false)).setCell ⟨w4.heap.size, 1, none⟩ (.slice none 0 0)).setCell ⟨w4.heap.size, 2, none⟩ (.slice none 0 0)) := by have := hbw6.size; go_grown
    go_wp2_with fail
    refine (reduce_fail m_y6 HYO.out Hj3.out HM.out rfl HYW.out HE4.out).mono ?_
    rintro e w7 ⟨rfl, hb7⟩
    have hbw7 := hbs6.trans (hb7.mono hbs6.size)
    have b_a7 := n_a6.below hb7
    have b_xx7 := n_xx6.below hb7
    have b_xy7 := n_xy6.below hb7
    have a_y7 := m_y6.mono hb7
    clear hb7 n_a6 n_xx6 n_xy6 m_y6 hbs6 c_a0 c_a1 c_a2 l_a c_xx0 c_xx1 c_xx2 l_xx c_xy0 c_xy1 c_xy2 l_xy a_x6 sc_a0_6 sc_a1_6 sc_a2_6 sc_xy0_6 sc_xy1_6 sc_xy2_6 fz6
    obtain ⟨c_a0, c_a1, c_a2⟩ := b_a7.three
    have l_a := b_a7.lt
    obtain ⟨c_xx0, c_xx1, c_xx2⟩ := b_xx7.three
    have l_xx := b_xx7.lt
    obtain ⟨c_xy0, c_xy1, c_xy2⟩ := b_xy7.three
    have l_xy := b_xy7.lt
    have fz7 := b_xy7.frozen
    have sc_a0_7 := cellS (q := ⟨w5.heap.size, 0, none⟩) (u := (.bool false)) c_a0 (by simp <;> omega)
    have sc_a1_7 := cellS (q := ⟨w5.heap.size, 1, none⟩) (u := (.slice none 0 0)) c_a1 (by simp <;> omega)
    have sc_a2_7 := cellS (q := ⟨w5.heap.size, 2, none⟩) (u := (.slice none 0 0)) c_a2 (by simp <;> omega)
    have sc_xx0_7 := cellS (q := ⟨w5.heap.size, 0, none⟩) (u := (.bool false)) c_xx0 (by simp <;> omega)
    have sc_xx1_7 := cellS (q := ⟨w5.heap.size, 1, none⟩) (u := (.slice none 0 0)) c_xx1 (by simp <;> omega)
    have sc_xx2_7 := cellS (q := ⟨w5.heap.size, 2, none⟩) (u := (.slice none 0 0)) c_xx2 (by simp <;> omega)
    have gb7 := grownBy_three w7 (w5.heap.size) (.bool false) (.slice none 0 0) (.slice none 0 0)
    have n_a7 := b_a7.grown gb7 (by simp <;> omega)
    have n_xx7 := b_xx7.grown gb7 (by simp <;> omega)
    have n_xy7 := ((b_xy7.store 0 (.bool false)).store 1 (.slice none 0 0)).store 2 (.slice none 0 0)
    simp only [List.setIfInBounds_toArray, List.set_cons_zero, List.set_cons_succ] at n_xy7
    have hbs7 : Below w.heap.size w (((w7.setCell ⟨w5.heap.size, 0, none⟩ (.bool false)).setCell ⟨w5.heap.size, 1, none⟩ (.slice none 0 0)).setCell ⟨w5.heap.size, 2, none⟩ (.slice none 0 0)) := by have := hbw7.size; go_grown
    go_wp2_with fail
    refine (error_any 7 7 _ (hg.mono hbs7)).mono ?_
    rintro e w8 ⟨rr, rfl, hrr, hb8⟩
    have err : rr = true := hrr.2 rfl
    subst err
    clear hrr
    have hbw8 := hbs7.trans (hb8.mono hbs7.size)
    have b_a8 := n_a7.below hb8
    have b_xx8 := n_xx7.below hb8
    have b_xy8 := n_xy7.below hb8
    clear hb8 n_a7 n_xx7 n_xy7 hbs7 c_a0 c_a1 c_a2 l_a c_xx0 c_xx1 c_xx2 l_xx c_xy0 c_xy1 c_xy2 l_xy a_y7 sc_a0_7 sc_a1_7 sc_a2_7 sc_xx0_7 sc_xx1_7 sc_xx2_7 fz7
    obtain ⟨c_a0, c_a1, c_a2⟩ := b_a8.three
    have l_a := b_a8.lt
    obtain ⟨c_xx0, c_xx1, c_xx2⟩ := b_xx8.three
    have l_xx := b_xx8.lt
    obtain ⟨c_xy0, c_xy1, c_xy2⟩ := b_xy8.three
    have l_xy := b_xy8.lt
    go_wp2_with fail
    refine (error_any 7 7 _ (hg.mono hbw8)).mono ?_
    rintro e w9 ⟨rr, rfl, hrr, hb9⟩
    have err : rr = true := hrr.2 rfl
    subst err
    clear hrr
    have hbw9 := hbw8.trans (hb9.mono hbw8.size)
    have b_a9 := b_a8.below hb9
    have b_xx9 := b_xx8.below hb9
    have b_xy9 := b_xy8.below hb9
    clear hb9 b_a8 b_xx8 b_xy8 hbw8 c_a0 c_a1 c_a2 l_a c_xx0 c_xx1 c_xx2 l_xx c_xy0 c_xy1 c_xy2 l_xy
    obtain ⟨c_a0, c_a1, c_a2⟩ := b_a9.three
    have l_a := b_a9.lt
    obtain ⟨c_xx0, c_xx1, c_xx2⟩ := b_xx9.three
    have l_xx := b_xx9.lt
    obtain ⟨c_xy0, c_xy1, c_xy2⟩ := b_xy9.three
    have l_xy := b_xy9.lt
    go_wp2_with fail
    go_ret
    exact ⟨rfl, by have := hbw9.size; go_grown⟩
  have HE3 := Lib.hid he3
  have HE4 := Lib.hid (show redErr f (t.eraseIdx i) J = 0 by rw [← HFE.out]; exact he3)
  clear he3
  go_wp2_with fail
  refine ((show Calls _ _ _ _ (GivesOk (redOf f (redOf f a t j) (t.eraseIdx j) i) _) from reduce_mono (a_x5.mono (below_one _ _)) HXO.out Hi3.out HM.out rfl HXW.out HE3.out)).mono ?_
  rintro e w6 ⟨r6, rfl, hr6, hb6⟩
  have hbw6 := (hbw5.trans ((below_one w5 _).mono hbw5.size)).trans (hb6.mono (hbw5.trans ((below_one w5 _).mono hbw5.size)).size)
  have b_a6 := (b_a5.alloc _).below hb6
  have b_xx6 := (b_xx5.alloc _).below hb6
  have b_xy6 := (Box.new w5 25 #[.bool (redOf f a t i).ch, .slice A5 (redOf f a t i).sh.length ca5, .slice D5 (redOf f a t i).da.length cd5]).below hb6
  have a_x6 := (a_x5.mono (below_one _ _)).mono hb6
  have a_y6 := (hr5.mono (below_one _ _)).mono hb6
  clear hb6 b_a5 b_xx5 a_x5 hr5 hbw5 c_a0 c_a1 c_a2 l_a c_xx0 c_xx1 c_xx2 l_xx
  obtain ⟨c_a0, c_a1, c_a2⟩ := b_a6.three
  have l_a := b_a6.lt
  obtain ⟨c_xx0, c_xx1, c_xx2⟩ := b_xx6.three
  have l_xx := b_xx6.lt
  obtain ⟨c_xy0, c_xy1, c_xy2⟩ := b_xy6.three
  have l_xy := b_xy6.lt
  obtain ⟨A6, ca6, D6, cd6, rfl, hs6, hd6⟩ := hr6.open_
  have fz6 := b_xx6.frozen
  have sc_a0_6 := cellS (q := ⟨w4.heap.size, 0, none⟩) (u := (.bool (redOf f (redOf f a t j) (t.eraseIdx j) i).ch)) c_a0 (by simp <;> omega)
  have sc_a1_6 := cellS (q := ⟨w4.heap.size, 1, none⟩) (u := (.slice A6 (redOf f (redOf f a t j) (t.eraseIdx j) i).sh.length ca6)) c_a1 (by simp <;> omega)
  have sc_a2_6 := cellS (q := ⟨w4.heap.size, 2, none⟩) (u := (.slice D6 (redOf f (redOf f a t j) (t.eraseIdx j) i).da.length cd6)) c_a2 (by simp <;> omega)
  have sc_xy0_6 := cellS (q := ⟨w4.heap.size, 0, none⟩) (u := (.bool (redOf f (redOf f a t j) (t.eraseIdx j) i).ch)) c_xy0 (by simp <;> omega)
  have sc_xy1_6 := cellS (q := ⟨w4.heap.size, 1, none⟩) (u := (.slice A6 (redOf f (redOf f a t j) (t.eraseIdx j) i).sh.length ca6)) c_xy1 (by simp <;> omega)
  have sc_xy2_6 := cellS (q := ⟨w4.heap.size, 2, none⟩) (u := (.slice D6 (redOf f (redOf f a t j) (t.eraseIdx j) i).da.length cd6)) c_xy2 (by simp <;> omega)
  have gb6 := grownBy_three w6 (w4.heap.size) (.bool (redOf f (redOf f a t j) (t.eraseIdx j) i).ch) (.slice A6 (redOf f (redOf f a t j) (t.eraseIdx j) i).sh.length ca6) (.slice D6 (redOf f (redOf f a t j) (t.eraseIdx j) i).da.length cd6)
  have n_a6 := b_a6.grown gb6 (by simp <;> omega)
  have n_xx6 := ((b_xx6.store 0 (.bool (redOf f (redOf f a t j) (t.eraseIdx j) i).ch)).store 1 (.slice A6 (redOf f (redOf f a t j) (t.eraseIdx j) i).sh.length ca6)).store 2 (.slice D6 (redOf f (redOf f a t j) (t.eraseIdx j) i).da.length cd6)
  simp only [List.setIfInBounds_toArray, List.set_cons_zero, List.set_cons_succ] at n_xx6
  have n_xy6 := b_xy6.grown gb6 (by simp <;> omega)
  have m_y6 := a_y6.laid b_xx6 (.bool (redOf f (redOf f a t j) (t.eraseIdx j) i).ch) (.slice A6 (redOf f (redOf f a t j) (t.eraseIdx j) i).sh.length ca6) (.slice D6 (redOf f (redOf f a t j) (t.eraseIdx j) i).da.length cd6)
  have m_x26 := hr6.laid b_xx6 (.bool (redOf f (redOf f a t j) (t.eraseIdx j) i).ch) (.slice A6 (redOf f (redOf f a t j) (t.eraseIdx j) i).sh.length ca6) (.slice D6 (redOf f (redOf f a t j) (t.eraseIdx j) i).da.length cd6)
  have hbs6 : Below w.heap.size w (((w6.setCell ⟨w4.heap.size, 0, none⟩ (.bool (redOf f (redOf f a t j) (t.eraseIdx j) i).ch)).setCell ⟨w4.heap.size, 1, none⟩ (.slice A6 (redOf f (redOf f a t j) (t.eraseIdx j) i).sh.length ca6)).setCell ⟨w4.heap.size, 2, none⟩ (.slice D6 (redOf f (redOf f a t j) (t.eraseIdx j) i).da.length cd6)) := by have := hbw6.size; go_grown
  go_wp2_with fail
  refine ((show Calls _ _ _ _ (GivesOk (redOf f (redOf f a t i) (t.eraseIdx i) J) _) from reduce_mono m_y6 HYO.out Hj3.out HM.out rfl HYW.out HE4.out)).mono ?_
  rintro e w7 ⟨r7, rfl, hr7, hb7⟩
  have hbw7 := hbs6.trans (hb7.mono hbs6.size)
  have b_a7 := n_a6.below hb7
  have b_xx7 := n_xx6.below hb7
  have b_xy7 := n_xy6.below hb7
  have a_y7 := m_y6.mono hb7
  have a_x27 := m_x26.mono hb7
  clear hb7 n_a6 n_xx6 n_xy6 m_y6 m_x26 hbs6 c_a0 c_a1 c_a2 l_a c_xx0 c_xx1 c_xx2 l_xx c_xy0 c_xy1 c_xy2 l_xy a_x6 sc_a0_6 sc_a1_6 sc_a2_6 sc_xy0_6 sc_xy1_6 sc_xy2_6 fz6
  obtain ⟨c_a0, c_a1, c_a2⟩ := b_a7.three
  have l_a := b_a7.lt
  obtain ⟨c_xx0, c_xx1, c_xx2⟩ := b_xx7.three
  have l_xx := b_xx7.lt
  obtain ⟨c_xy0, c_xy1, c_xy2⟩ := b_xy7.three
  have l_xy := b_xy7.lt
  obtain ⟨A7, ca7, D7, cd7, rfl, hs7, hd7⟩ := hr7.open_
  have fz7 := b_xy7.frozen
  have sc_a0_7 := cellS (q := ⟨w5.heap.size, 0, none⟩) (u := (.bool (redOf f (redOf f a t i) (t.eraseIdx i) J).ch)) c_a0 (by simp <;> omega)
  have sc_a1_7 := cellS (q := ⟨w5.heap.size, 1, none⟩) (u := (.slice A7 (redOf f (redOf f a t i) (t.eraseIdx i) J).sh.length ca7)) c_a1 (by simp <;> omega)
  have sc_a2_7 := cellS (q := ⟨w5.heap.size, 2, none⟩) (u := (.slice D7 (redOf f (redOf f a t i) (t.eraseIdx i) J).da.length cd7)) c_a2 (by simp <;> omega)
  have sc_xx0_7 := cellS (q := ⟨w5.heap.size, 0, none⟩) (u := (.bool (redOf f (redOf f a t i) (t.eraseIdx i) J).ch)) c_xx0 (by simp <;> omega)
  have sc_xx1_7 := cellS (q := ⟨w5.heap.size, 1, none⟩) (u := (.slice A7 (redOf f (redOf f a t i) (t.eraseIdx i) J).sh.length ca7)) c_xx1 (by simp <;> omega)
  have sc_xx2_7 := cellS (q := ⟨w5.heap.size, 2, none⟩) (u := (.slice D7 (redOf f (redOf f a t i) (t.eraseIdx i) J).da.length cd7)) c_xx2 (by simp <;> omega)
  have gb7 := grownBy_three w7 (w5.heap.size) (.bool (redOf f (redOf f a t i) (t.eraseIdx i) J).ch) (.slice A7 (redOf f (redOf f a t i) (t.eraseIdx i) J).sh.length ca7) (.slice D7 (redOf f (redOf f a t i) (t.eraseIdx i) J).da.length cd7)
  have n_a7 := b_a7.grown gb7 (by simp <;> omega)
  have n_xx7 := b_xx7.grown gb7 (by simp <;> omega)
  have n_xy7 := ((b_xy7.store 0 (.bool (redOf f (redOf f a t i) (t.eraseIdx i) J).ch)).store 1 (.slice A7 (redOf f (redOf f a t i) (t.eraseIdx i) J).sh.length ca7)).store 2 (.slice D7 (redOf f (redOf f a t i) (t.eraseIdx i) J).da.length cd7)
  simp only [List.setIfInBounds_toArray, List.set_cons_zero, List.set_cons_succ] at n_xy7
  have m_x27 := a_x27.laid b_xy7 (.bool (redOf f (redOf f a t i) (t.eraseIdx i) J).ch) (.slice A7 (redOf f (redOf f a t i) (t.eraseIdx i) J).sh.length ca7) (.slice D7 (redOf f (redOf f a t i) (t.eraseIdx i) J).da.length cd7)
  have m_y27 := hr7.laid b_xy7 (.bool (redOf f (redOf f a t i) (t.eraseIdx i) J).ch) (.slice A7 (redOf f (redOf f a t i) (t.eraseIdx i) J).sh.length ca7) (.slice D7 (redOf f (redOf f a t i) (t.eraseIdx i) J).da.length cd7)
  have hbs7 : Below w.heap.size w (((w7.setCell ⟨w5.heap.size, 0, none⟩ (.bool (redOf f (redOf f a t i) (t.eraseIdx i) J).ch)).setCell ⟨w5.heap.size, 1, none⟩ (.slice A7 (redOf f (redOf f a t i) (t.eraseIdx i) J).sh.length ca7)).setCell ⟨w5.heap.size, 2, none⟩ (.slice D7 (redOf f (redOf f a t i) (t.eraseIdx i) J).da.length cd7)) := by have := hbw7.size; go_grown
  go_wp2_with fail
  refine (alike_nil _ _ _ _ _ m_x27 m_y27).mono ?_
  rintro e w8 ⟨r8, rfl, hr8, hb8⟩
  have e8 : r8 = true := hr8.2 (HFU.out)
  subst e8
  clear hr8
  have hbw8 := hbs7.trans (hb8.mono hbs7.size)
  have b_a8 := n_a7.below hb8
  have b_xx8 := n_xx7.below hb8
  have b_xy8 := n_xy7.below hb8
  have a_x28 := m_x27.mono hb8
  have a_y28 := m_y27.mono hb8
  clear hb8 n_a7 n_xx7 n_xy7 m_x27 m_y27 hbs7 c_a0 c_a1 c_a2 l_a c_xx0 c_xx1 c_xx2 l_xx c_xy0 c_xy1 c_xy2 l_xy a_y7 sc_a0_7 sc_a1_7 sc_a2_7 sc_xx0_7 sc_xx1_7 sc_xx2_7 fz7
  obtain ⟨c_a0, c_a1, c_a2⟩ := b_a8.three
  have l_a := b_a8.lt
  obtain ⟨c_xx0, c_xx1, c_xx2⟩ := b_xx8.three
  have l_xx := b_xx8.lt
  obtain ⟨c_xy0, c_xy1, c_xy2⟩ := b_xy8.three
  have l_xy := b_xy8.lt
  go_wp2_with fail
  go_ret
  exact ⟨rfl, by have := hbw8.size; go_grown⟩

end Go.Proofs.YtojeggeimnenbaaDoor
