/- The walk of the law SeekSets. Conditions: none. -/
import Derived.Test.YtlkeipgpckkhbaaDoorRefSets
import Derived.Test.YtlkeipgpckkhbaaDoorAsErr
import Derived.Test.YtlkeipgpckkhbaaDoorSeekTold
import Derived.Test.YtlkeipgpckkhbaaDoorUnionWalk
import Derived.Test.YtlkeipgpckkhbaaDoorStore
import Derived.Test.YtlkeipgpckkhbaaDoorMore
import Derived.Test.YtlkeipgpckkhbaaDoorAlike
namespace Go.Proofs.YtlkeipgpckkhbaaDoor
open Go Go.RowKit Go.Proofs.YtlkeipgpckkhbaaDoor.P

set_option maxRecDepth 100000 in
set_option maxHeartbeats 4000000 in
theorem seekSets_walk (va : Value) (a : Arr) (vb : Value) (b : Arr) (w : World) (hg : Laid0 w) (ha : IsArr w va a) (wfa : Wf a.da) (hb : IsArr w vb b) (wfb : Wf b.da) :
    Calls Tryd.prog 5 #[va, vb] w (Says w) := by
  obtain ⟨A, ca, D, da, rfl, -, -⟩ := ha.open_
  obtain ⟨A', cb, D', db, rfl, -, -⟩ := hb.open_
  go_enter Tryd.func5, Tryd.ntmps5
  go_wp2_with fail
  refine ((show Calls _ _ _ _ (RTold (nub a) (nubErr a) _) from unlike_told (ha.mono ((Below.refl w.heap.size w).trans ((below_two w _ _).mono (Below.refl w.heap.size w).size))))).mono ?_
  rintro e w1 ⟨r1, rfl, hr1, hb1⟩
  have hbw1 := ((Below.refl w.heap.size w).trans ((below_two w _ _).mono (Below.refl w.heap.size w).size)).trans (hb1.mono ((Below.refl w.heap.size w).trans ((below_two w _ _).mono (Below.refl w.heap.size w).size)).size)
  have b_a1 := ((Box.new w 24 #[.bool a.ch, .slice A a.sh.length ca, .slice D a.da.length da]).alloc _).below hb1
  have b_b1 := (Box.new (w.alloc (.cells #[.bool a.ch, .slice A a.sh.length ca, .slice D a.da.length da] 24)) 24 #[.bool b.ch, .slice A' b.sh.length cb, .slice D' b.da.length db]).below hb1
  simp only [World.size_alloc, World.size_setCell] at b_b1
  clear hb1
  obtain ⟨c_a0, c_a1, c_a2⟩ := b_a1.three
  have l_a := b_a1.lt
  obtain ⟨c_b0, c_b1, c_b2⟩ := b_b1.three
  have l_b := b_b1.lt
  obtain ⟨A1, ca1, D1, cd1, rfl, hs1, hd1⟩ := hr1.open_
  have o_aw := l_a
  have o_bw := l_b
  go_wp2_with fail
  refine ((show Calls _ _ _ _ (PTold (nub a) (nubErr a) _) from (nub_told (ha.mono (hbw1.trans ((below_one w1 _).mono hbw1.size))) wfa).mono fun _ _ h => h.p)).mono ?_
  rintro e w2 ⟨r2, rfl, hr2, hb2⟩
  have hbw2 := (hbw1.trans ((below_one w1 _).mono hbw1.size)).trans (hb2.mono (hbw1.trans ((below_one w1 _).mono hbw1.size)).size)
  have b_a2 := (b_a1.alloc _).below hb2
  have b_b2 := (b_b1.alloc _).below hb2
  have b_xwant02 := (Box.new w1 24 #[.bool ((ans (nub a) (nubErr a))).ch, .slice A1 ((ans (nub a) (nubErr a))).sh.length ca1, .slice D1 ((ans (nub a) (nubErr a))).da.length cd1]).below hb2
  have a_want02 := (hr1.mono (below_one _ _)).mono hb2
  clear hb2 b_a1 b_b1 hr1 hbw1 c_a0 c_a1 c_a2 l_a c_b0 c_b1 c_b2 l_b
  obtain ⟨c_a0, c_a1, c_a2⟩ := b_a2.three
  have l_a := b_a2.lt
  obtain ⟨c_b0, c_b1, c_b2⟩ := b_b2.three
  have l_b := b_b2.lt
  obtain ⟨c_xwant00, c_xwant01, c_xwant02⟩ := b_xwant02.three
  have l_xwant0 := b_xwant02.lt
  obtain ⟨A2, ca2, D2, cd2, rfl, hs2, hd2⟩ := hr2.open_
  have o_ag := l_a
  have o_bg := l_b
  have o_wg := l_xwant0
  go_wp2_with fail
  refine (is_yes (nubErr a) _ _ (ans (nub a) (nubErr a)) _ (hg.mono (hbw2.trans ((below_one w2 _).mono hbw2.size))) (hr2.mono (below_one _ _)) (a_want02.mono (below_one _ _))).mono ?_
  rintro e w3 ⟨rfl, hb3⟩
  have hbw3 := (hbw2.trans ((below_one w2 _).mono hbw2.size)).trans (hb3.mono (hbw2.trans ((below_one w2 _).mono hbw2.size)).size)
  have b_a3 := (b_a2.alloc _).below hb3
  have b_b3 := (b_b2.alloc _).below hb3
  have b_xwant03 := (b_xwant02.alloc _).below hb3
  have b_xgot03 := (Box.new w2 24 #[.bool ((ans (nub a) (nubErr a))).ch, .slice A2 ((ans (nub a) (nubErr a))).sh.length ca2, .slice D2 ((ans (nub a) (nubErr a))).da.length cd2]).below hb3
  have a_want03 := (a_want02.mono (below_one _ _)).mono hb3
  have a_got03 := (hr2.mono (below_one _ _)).mono hb3
  clear hb3 b_a2 b_b2 b_xwant02 a_want02 hr2 hbw2 c_a0 c_a1 c_a2 l_a c_b0 c_b1 c_b2 l_b c_xwant00 c_xwant01 c_xwant02 l_xwant0
  obtain ⟨c_a0, c_a1, c_a2⟩ := b_a3.three
  have l_a := b_a3.lt
  obtain ⟨c_b0, c_b1, c_b2⟩ := b_b3.three
  have l_b := b_b3.lt
  obtain ⟨c_xwant00, c_xwant01, c_xwant02⟩ := b_xwant03.three
  have l_xwant0 := b_xwant03.lt
  obtain ⟨c_xgot00, c_xgot01, c_xgot02⟩ := b_xgot03.three
  have l_xgot0 := b_xgot03.lt
  go_wp2_with fail
  refine ((show Calls _ _ _ _ (RTold (without a b) (pairErr a b) _) from shared_without (ha.mono hbw3) (hb.mono hbw3))).mono ?_
  rintro e w4 ⟨r4, rfl, hr4, hb4⟩
  have hbw4 := hbw3.trans (hb4.mono hbw3.size)
  have b_a4 := b_a3.below hb4
  have b_b4 := b_b3.below hb4
  have b_xwant04 := b_xwant03.below hb4
  have b_xgot04 := b_xgot03.below hb4
  have a_want04 := a_want03.mono hb4
  have a_got04 := a_got03.mono hb4
  clear hb4 b_a3 b_b3 b_xwant03 b_xgot03 a_want03 a_got03 hbw3 c_a0 c_a1 c_a2 l_a c_b0 c_b1 c_b2 l_b c_xwant00 c_xwant01 c_xwant02 l_xwant0 c_xgot00 c_xgot01 c_xgot02 l_xgot0
  obtain ⟨c_a0, c_a1, c_a2⟩ := b_a4.three
  have l_a := b_a4.lt
  obtain ⟨c_b0, c_b1, c_b2⟩ := b_b4.three
  have l_b := b_b4.lt
  obtain ⟨c_xwant00, c_xwant01, c_xwant02⟩ := b_xwant04.three
  have l_xwant0 := b_xwant04.lt
  obtain ⟨c_xgot00, c_xgot01, c_xgot02⟩ := b_xgot04.three
  have l_xgot0 := b_xgot04.lt
  obtain ⟨A4, ca4, D4, cd4, rfl, hs4, hd4⟩ := hr4.open_
  have fz4 := b_xwant04.frozen
  have sc_a0_4 := cellS (q := ⟨w1.heap.size, 0, none⟩) (u := (.bool ((ans (without a b) (pairErr a b))).ch)) c_a0 (by simp; omega)
  have sc_a1_4 := cellS (q := ⟨w1.heap.size, 1, none⟩) (u := (.slice A4 ((ans (without a b) (pairErr a b))).sh.length ca4)) c_a1 (by simp; omega)
  have sc_a2_4 := cellS (q := ⟨w1.heap.size, 2, none⟩) (u := (.slice D4 ((ans (without a b) (pairErr a b))).da.length cd4)) c_a2 (by simp; omega)
  have sc_b0_4 := cellS (q := ⟨w1.heap.size, 0, none⟩) (u := (.bool ((ans (without a b) (pairErr a b))).ch)) c_b0 (by simp; omega)
  have sc_b1_4 := cellS (q := ⟨w1.heap.size, 1, none⟩) (u := (.slice A4 ((ans (without a b) (pairErr a b))).sh.length ca4)) c_b1 (by simp; omega)
  have sc_b2_4 := cellS (q := ⟨w1.heap.size, 2, none⟩) (u := (.slice D4 ((ans (without a b) (pairErr a b))).da.length cd4)) c_b2 (by simp; omega)
  have sc_xgot00_4 := cellS (q := ⟨w1.heap.size, 0, none⟩) (u := (.bool ((ans (without a b) (pairErr a b))).ch)) c_xgot00 (by simp; omega)
  have sc_xgot01_4 := cellS (q := ⟨w1.heap.size, 1, none⟩) (u := (.slice A4 ((ans (without a b) (pairErr a b))).sh.length ca4)) c_xgot01 (by simp; omega)
  have sc_xgot02_4 := cellS (q := ⟨w1.heap.size, 2, none⟩) (u := (.slice D4 ((ans (without a b) (pairErr a b))).da.length cd4)) c_xgot02 (by simp; omega)
  have gb4 := grownBy_three w4 (w1.heap.size) (.bool ((ans (without a b) (pairErr a b))).ch) (.slice A4 ((ans (without a b) (pairErr a b))).sh.length ca4) (.slice D4 ((ans (without a b) (pairErr a b))).da.length cd4)
  have n_a4 := b_a4.grown gb4 (by simp; omega)
  have n_b4 := b_b4.grown gb4 (by simp; omega)
  have n_xwant04 := ((b_xwant04.store 0 (.bool ((ans (without a b) (pairErr a b))).ch)).store 1 (.slice A4 ((ans (without a b) (pairErr a b))).sh.length ca4)).store 2 (.slice D4 ((ans (without a b) (pairErr a b))).da.length cd4)
  simp only [List.setIfInBounds_toArray, List.set_cons_zero, List.set_cons_succ] at n_xwant04
  have n_xgot04 := b_xgot04.grown gb4 (by simp; omega)
  have m_got04 := a_got04.laid b_xwant04 (.bool ((ans (without a b) (pairErr a b))).ch) (.slice A4 ((ans (without a b) (pairErr a b))).sh.length ca4) (.slice D4 ((ans (without a b) (pairErr a b))).da.length cd4)
  have m_want14 := hr4.laid b_xwant04 (.bool ((ans (without a b) (pairErr a b))).ch) (.slice A4 ((ans (without a b) (pairErr a b))).sh.length ca4) (.slice D4 ((ans (without a b) (pairErr a b))).da.length cd4)
  have hbs4 : Below w.heap.size w (((w4.setCell ⟨w1.heap.size, 0, none⟩ (.bool ((ans (without a b) (pairErr a b))).ch)).setCell ⟨w1.heap.size, 1, none⟩ (.slice A4 ((ans (without a b) (pairErr a b))).sh.length ca4)).setCell ⟨w1.heap.size, 2, none⟩ (.slice D4 ((ans (without a b) (pairErr a b))).da.length cd4)) := by have := hbw4.size; go_grown
  go_wp2_with fail
  refine ((show Calls _ _ _ _ (PTold (without a b) (pairErr a b) _) from (without_told (ha.mono hbs4) (hb.mono hbs4) wfa wfb).mono fun _ _ h => h.p)).mono ?_
  rintro e w5 ⟨r5, rfl, hr5, hb5⟩
  have hbw5 := hbs4.trans (hb5.mono hbs4.size)
  have b_a5 := n_a4.below hb5
  have b_b5 := n_b4.below hb5
  have b_xwant05 := n_xwant04.below hb5
  have b_xgot05 := n_xgot04.below hb5
  have a_got05 := m_got04.mono hb5
  have a_want15 := m_want14.mono hb5
  clear hb5 n_a4 n_b4 n_xwant04 n_xgot04 m_got04 m_want14 hbs4 c_a0 c_a1 c_a2 l_a c_b0 c_b1 c_b2 l_b c_xwant00 c_xwant01 c_xwant02 l_xwant0 c_xgot00 c_xgot01 c_xgot02 l_xgot0 sc_a0_4 sc_a1_4 sc_a2_4 sc_b0_4 sc_b1_4 sc_b2_4 sc_xgot00_4 sc_xgot01_4 sc_xgot02_4 fz4
  obtain ⟨c_a0, c_a1, c_a2⟩ := b_a5.three
  have l_a := b_a5.lt
  obtain ⟨c_b0, c_b1, c_b2⟩ := b_b5.three
  have l_b := b_b5.lt
  obtain ⟨c_xwant00, c_xwant01, c_xwant02⟩ := b_xwant05.three
  have l_xwant0 := b_xwant05.lt
  obtain ⟨c_xgot00, c_xgot01, c_xgot02⟩ := b_xgot05.three
  have l_xgot0 := b_xgot05.lt
  obtain ⟨A5, ca5, D5, cd5, rfl, hs5, hd5⟩ := hr5.open_
  have fz5 := b_xgot05.frozen
  have sc_a0_5 := cellS (q := ⟨w2.heap.size, 0, none⟩) (u := (.bool ((ans (without a b) (pairErr a b))).ch)) c_a0 (by simp; omega)
  have sc_a1_5 := cellS (q := ⟨w2.heap.size, 1, none⟩) (u := (.slice A5 ((ans (without a b) (pairErr a b))).sh.length ca5)) c_a1 (by simp; omega)
  have sc_a2_5 := cellS (q := ⟨w2.heap.size, 2, none⟩) (u := (.slice D5 ((ans (without a b) (pairErr a b))).da.length cd5)) c_a2 (by simp; omega)
  have sc_b0_5 := cellS (q := ⟨w2.heap.size, 0, none⟩) (u := (.bool ((ans (without a b) (pairErr a b))).ch)) c_b0 (by simp; omega)
  have sc_b1_5 := cellS (q := ⟨w2.heap.size, 1, none⟩) (u := (.slice A5 ((ans (without a b) (pairErr a b))).sh.length ca5)) c_b1 (by simp; omega)
  have sc_b2_5 := cellS (q := ⟨w2.heap.size, 2, none⟩) (u := (.slice D5 ((ans (without a b) (pairErr a b))).da.length cd5)) c_b2 (by simp; omega)
  have sc_xwant00_5 := cellS (q := ⟨w2.heap.size, 0, none⟩) (u := (.bool ((ans (without a b) (pairErr a b))).ch)) c_xwant00 (by simp; omega)
  have sc_xwant01_5 := cellS (q := ⟨w2.heap.size, 1, none⟩) (u := (.slice A5 ((ans (without a b) (pairErr a b))).sh.length ca5)) c_xwant01 (by simp; omega)
  have sc_xwant02_5 := cellS (q := ⟨w2.heap.size, 2, none⟩) (u := (.slice D5 ((ans (without a b) (pairErr a b))).da.length cd5)) c_xwant02 (by simp; omega)
  have gb5 := grownBy_three w5 (w2.heap.size) (.bool ((ans (without a b) (pairErr a b))).ch) (.slice A5 ((ans (without a b) (pairErr a b))).sh.length ca5) (.slice D5 ((ans (without a b) (pairErr a b))).da.length cd5)
  have n_a5 := b_a5.grown gb5 (by simp; omega)
  have n_b5 := b_b5.grown gb5 (by simp; omega)
  have n_xwant05 := b_xwant05.grown gb5 (by simp; omega)
  have n_xgot05 := ((b_xgot05.store 0 (.bool ((ans (without a b) (pairErr a b))).ch)).store 1 (.slice A5 ((ans (without a b) (pairErr a b))).sh.length ca5)).store 2 (.slice D5 ((ans (without a b) (pairErr a b))).da.length cd5)
  simp only [List.setIfInBounds_toArray, List.set_cons_zero, List.set_cons_succ] at n_xgot05
  have m_want15 := a_want15.laid b_xgot05 (.bool ((ans (without a b) (pairErr a b))).ch) (.slice A5 ((ans (without a b) (pairErr a b))).sh.length ca5) (.slice D5 ((ans (without a b) (pairErr a b))).da.length cd5)
  have m_got15 := hr5.laid b_xgot05 (.bool ((ans (without a b) (pairErr a b))).ch) (.slice A5 ((ans (without a b) (pairErr a b))).sh.length ca5) (.slice D5 ((ans (without a b) (pairErr a b))).da.length cd5)
  have hbs5 : Below w.heap.size w (((w5.setCell ⟨w2.heap.size, 0, none⟩ (.bool ((ans (without a b) (pairErr a b))).ch)).setCell ⟨w2.heap.size, 1, none⟩ (.slice A5 ((ans (without a b) (pairErr a b))).sh.length ca5)).setCell ⟨w2.heap.size, 2, none⟩ (.slice D5 ((ans (without a b) (pairErr a b))).da.length cd5)) := by have := hbw5.size; go_grown
  go_wp2_with fail
  refine (is_yes (pairErr a b) _ _ (ans (without a b) (pairErr a b)) _ (hg.mono hbs5) m_got15 m_want15).mono ?_
  rintro e w6 ⟨rfl, hb6⟩
  have hbw6 := hbs5.trans (hb6.mono hbs5.size)
  have b_a6 := n_a5.below hb6
  have b_b6 := n_b5.below hb6
  have b_xwant06 := n_xwant05.below hb6
  have b_xgot06 := n_xgot05.below hb6
  have a_want16 := m_want15.mono hb6
  have a_got16 := m_got15.mono hb6
  clear hb6 n_a5 n_b5 n_xwant05 n_xgot05 m_want15 m_got15 hbs5 c_a0 c_a1 c_a2 l_a c_b0 c_b1 c_b2 l_b c_xwant00 c_xwant01 c_xwant02 l_xwant0 c_xgot00 c_xgot01 c_xgot02 l_xgot0 sc_a0_5 sc_a1_5 sc_a2_5 sc_b0_5 sc_b1_5 sc_b2_5 sc_xwant00_5 sc_xwant01_5 sc_xwant02_5 fz5
  obtain ⟨c_a0, c_a1, c_a2⟩ := b_a6.three
  have l_a := b_a6.lt
  obtain ⟨c_b0, c_b1, c_b2⟩ := b_b6.three
  have l_b := b_b6.lt
  obtain ⟨c_xwant00, c_xwant01, c_xwant02⟩ := b_xwant06.three
  have l_xwant0 := b_xwant06.lt
  obtain ⟨c_xgot00, c_xgot01, c_xgot02⟩ := b_xgot06.three
  have l_xgot0 := b_xgot06.lt
  go_wp2_with fail
  refine ((show Calls _ _ _ _ (RTold (meet a b) (pairErr a b) _) from shared_meet (ha.mono hbw6) (hb.mono hbw6))).mono ?_
  rintro e w7 ⟨r7, rfl, hr7, hb7⟩
  have hbw7 := hbw6.trans (hb7.mono hbw6.size)
  have b_a7 := b_a6.below hb7
  have b_b7 := b_b6.below hb7
  have b_xwant07 := b_xwant06.below hb7
  have b_xgot07 := b_xgot06.below hb7
  have a_want17 := a_want16.mono hb7
  have a_got17 := a_got16.mono hb7
  clear hb7 b_a6 b_b6 b_xwant06 b_xgot06 a_want16 a_got16 hbw6 c_a0 c_a1 c_a2 l_a c_b0 c_b1 c_b2 l_b c_xwant00 c_xwant01 c_xwant02 l_xwant0 c_xgot00 c_xgot01 c_xgot02 l_xgot0
  obtain ⟨c_a0, c_a1, c_a2⟩ := b_a7.three
  have l_a := b_a7.lt
  obtain ⟨c_b0, c_b1, c_b2⟩ := b_b7.three
  have l_b := b_b7.lt
  obtain ⟨c_xwant00, c_xwant01, c_xwant02⟩ := b_xwant07.three
  have l_xwant0 := b_xwant07.lt
  obtain ⟨c_xgot00, c_xgot01, c_xgot02⟩ := b_xgot07.three
  have l_xgot0 := b_xgot07.lt
  obtain ⟨A7, ca7, D7, cd7, rfl, hs7, hd7⟩ := hr7.open_
  have fz7 := b_xwant07.frozen
  have sc_a0_7 := cellS (q := ⟨w1.heap.size, 0, none⟩) (u := (.bool ((ans (meet a b) (pairErr a b))).ch)) c_a0 (by simp; omega)
  have sc_a1_7 := cellS (q := ⟨w1.heap.size, 1, none⟩) (u := (.slice A7 ((ans (meet a b) (pairErr a b))).sh.length ca7)) c_a1 (by simp; omega)
  have sc_a2_7 := cellS (q := ⟨w1.heap.size, 2, none⟩) (u := (.slice D7 ((ans (meet a b) (pairErr a b))).da.length cd7)) c_a2 (by simp; omega)
  have sc_b0_7 := cellS (q := ⟨w1.heap.size, 0, none⟩) (u := (.bool ((ans (meet a b) (pairErr a b))).ch)) c_b0 (by simp; omega)
  have sc_b1_7 := cellS (q := ⟨w1.heap.size, 1, none⟩) (u := (.slice A7 ((ans (meet a b) (pairErr a b))).sh.length ca7)) c_b1 (by simp; omega)
  have sc_b2_7 := cellS (q := ⟨w1.heap.size, 2, none⟩) (u := (.slice D7 ((ans (meet a b) (pairErr a b))).da.length cd7)) c_b2 (by simp; omega)
  have sc_xgot00_7 := cellS (q := ⟨w1.heap.size, 0, none⟩) (u := (.bool ((ans (meet a b) (pairErr a b))).ch)) c_xgot00 (by simp; omega)
  have sc_xgot01_7 := cellS (q := ⟨w1.heap.size, 1, none⟩) (u := (.slice A7 ((ans (meet a b) (pairErr a b))).sh.length ca7)) c_xgot01 (by simp; omega)
  have sc_xgot02_7 := cellS (q := ⟨w1.heap.size, 2, none⟩) (u := (.slice D7 ((ans (meet a b) (pairErr a b))).da.length cd7)) c_xgot02 (by simp; omega)
  have gb7 := grownBy_three w7 (w1.heap.size) (.bool ((ans (meet a b) (pairErr a b))).ch) (.slice A7 ((ans (meet a b) (pairErr a b))).sh.length ca7) (.slice D7 ((ans (meet a b) (pairErr a b))).da.length cd7)
  have n_a7 := b_a7.grown gb7 (by simp; omega)
  have n_b7 := b_b7.grown gb7 (by simp; omega)
  have n_xwant07 := ((b_xwant07.store 0 (.bool ((ans (meet a b) (pairErr a b))).ch)).store 1 (.slice A7 ((ans (meet a b) (pairErr a b))).sh.length ca7)).store 2 (.slice D7 ((ans (meet a b) (pairErr a b))).da.length cd7)
  simp only [List.setIfInBounds_toArray, List.set_cons_zero, List.set_cons_succ] at n_xwant07
  have n_xgot07 := b_xgot07.grown gb7 (by simp; omega)
  have m_got17 := a_got17.laid b_xwant07 (.bool ((ans (meet a b) (pairErr a b))).ch) (.slice A7 ((ans (meet a b) (pairErr a b))).sh.length ca7) (.slice D7 ((ans (meet a b) (pairErr a b))).da.length cd7)
  have m_want27 := hr7.laid b_xwant07 (.bool ((ans (meet a b) (pairErr a b))).ch) (.slice A7 ((ans (meet a b) (pairErr a b))).sh.length ca7) (.slice D7 ((ans (meet a b) (pairErr a b))).da.length cd7)
  have hbs7 : Below w.heap.size w (((w7.setCell ⟨w1.heap.size, 0, none⟩ (.bool ((ans (meet a b) (pairErr a b))).ch)).setCell ⟨w1.heap.size, 1, none⟩ (.slice A7 ((ans (meet a b) (pairErr a b))).sh.length ca7)).setCell ⟨w1.heap.size, 2, none⟩ (.slice D7 ((ans (meet a b) (pairErr a b))).da.length cd7)) := by have := hbw7.size; go_grown
  go_wp2_with fail
  refine ((show Calls _ _ _ _ (PTold (meet a b) (pairErr a b) _) from (meet_told (ha.mono hbs7) (hb.mono hbs7) wfa wfb).mono fun _ _ h => h.p)).mono ?_
  rintro e w8 ⟨r8, rfl, hr8, hb8⟩
  have hbw8 := hbs7.trans (hb8.mono hbs7.size)
  have b_a8 := n_a7.below hb8
  have b_b8 := n_b7.below hb8
  have b_xwant08 := n_xwant07.below hb8
  have b_xgot08 := n_xgot07.below hb8
  have a_got18 := m_got17.mono hb8
  have a_want28 := m_want27.mono hb8
  clear hb8 n_a7 n_b7 n_xwant07 n_xgot07 m_got17 m_want27 hbs7 c_a0 c_a1 c_a2 l_a c_b0 c_b1 c_b2 l_b c_xwant00 c_xwant01 c_xwant02 l_xwant0 c_xgot00 c_xgot01 c_xgot02 l_xgot0 sc_a0_7 sc_a1_7 sc_a2_7 sc_b0_7 sc_b1_7 sc_b2_7 sc_xgot00_7 sc_xgot01_7 sc_xgot02_7 fz7
  obtain ⟨c_a0, c_a1, c_a2⟩ := b_a8.three
  have l_a := b_a8.lt
  obtain ⟨c_b0, c_b1, c_b2⟩ := b_b8.three
  have l_b := b_b8.lt
  obtain ⟨c_xwant00, c_xwant01, c_xwant02⟩ := b_xwant08.three
  have l_xwant0 := b_xwant08.lt
  obtain ⟨c_xgot00, c_xgot01, c_xgot02⟩ := b_xgot08.three
  have l_xgot0 := b_xgot08.lt
  obtain ⟨A8, ca8, D8, cd8, rfl, hs8, hd8⟩ := hr8.open_
  have fz8 := b_xgot08.frozen
  have sc_a0_8 := cellS (q := ⟨w2.heap.size, 0, none⟩) (u := (.bool ((ans (meet a b) (pairErr a b))).ch)) c_a0 (by simp; omega)
  have sc_a1_8 := cellS (q := ⟨w2.heap.size, 1, none⟩) (u := (.slice A8 ((ans (meet a b) (pairErr a b))).sh.length ca8)) c_a1 (by simp; omega)
  have sc_a2_8 := cellS (q := ⟨w2.heap.size, 2, none⟩) (u := (.slice D8 ((ans (meet a b) (pairErr a b))).da.length cd8)) c_a2 (by simp; omega)
  have sc_b0_8 := cellS (q := ⟨w2.heap.size, 0, none⟩) (u := (.bool ((ans (meet a b) (pairErr a b))).ch)) c_b0 (by simp; omega)
  have sc_b1_8 := cellS (q := ⟨w2.heap.size, 1, none⟩) (u := (.slice A8 ((ans (meet a b) (pairErr a b))).sh.length ca8)) c_b1 (by simp; omega)
  have sc_b2_8 := cellS (q := ⟨w2.heap.size, 2, none⟩) (u := (.slice D8 ((ans (meet a b) (pairErr a b))).da.length cd8)) c_b2 (by simp; omega)
  have sc_xwant00_8 := cellS (q := ⟨w2.heap.size, 0, none⟩) (u := (.bool ((ans (meet a b) (pairErr a b))).ch)) c_xwant00 (by simp; omega)
  have sc_xwant01_8 := cellS (q := ⟨w2.heap.size, 1, none⟩) (u := (.slice A8 ((ans (meet a b) (pairErr a b))).sh.length ca8)) c_xwant01 (by simp; omega)
  have sc_xwant02_8 := cellS (q := ⟨w2.heap.size, 2, none⟩) (u := (.slice D8 ((ans (meet a b) (pairErr a b))).da.length cd8)) c_xwant02 (by simp; omega)
  have gb8 := grownBy_three w8 (w2.heap.size) (.bool ((ans (meet a b) (pairErr a b))).ch) (.slice A8 ((ans (meet a b) (pairErr a b))).sh.length ca8) (.slice D8 ((ans (meet a b) (pairErr a b))).da.length cd8)
  have n_a8 := b_a8.grown gb8 (by simp; omega)
  have n_b8 := b_b8.grown gb8 (by simp; omega)
  have n_xwant08 := b_xwant08.grown gb8 (by simp; omega)
  have n_xgot08 := ((b_xgot08.store 0 (.bool ((ans (meet a b) (pairErr a b))).ch)).store 1 (.slice A8 ((ans (meet a b) (pairErr a b))).sh.length ca8)).store 2 (.slice D8 ((ans (meet a b) (pairErr a b))).da.length cd8)
  simp only [List.setIfInBounds_toArray, List.set_cons_zero, List.set_cons_succ] at n_xgot08
  have m_want28 := a_want28.laid b_xgot08 (.bool ((ans (meet a b) (pairErr a b))).ch) (.slice A8 ((ans (meet a b) (pairErr a b))).sh.length ca8) (.slice D8 ((ans (meet a b) (pairErr a b))).da.length cd8)
  have m_got28 := hr8.laid b_xgot08 (.bool ((ans (meet a b) (pairErr a b))).ch) (.slice A8 ((ans (meet a b) (pairErr a b))).sh.length ca8) (.slice D8 ((ans (meet a b) (pairErr a b))).da.length cd8)
  have hbs8 : Below w.heap.size w (((w8.setCell ⟨w2.heap.size, 0, none⟩ (.bool ((ans (meet a b) (pairErr a b))).ch)).setCell ⟨w2.heap.size, 1, none⟩ (.slice A8 ((ans (meet a b) (pairErr a b))).sh.length ca8)).setCell ⟨w2.heap.size, 2, none⟩ (.slice D8 ((ans (meet a b) (pairErr a b))).da.length cd8)) := by have := hbw8.size; go_grown
  go_wp2_with fail
  refine (is_yes (pairErr a b) _ _ (ans (meet a b) (pairErr a b)) _ (hg.mono hbs8) m_got28 m_want28).mono ?_
  rintro e w9 ⟨rfl, hb9⟩
  have hbw9 := hbs8.trans (hb9.mono hbs8.size)
  have b_a9 := n_a8.below hb9
  have b_b9 := n_b8.below hb9
  have b_xwant09 := n_xwant08.below hb9
  have b_xgot09 := n_xgot08.below hb9
  have a_want29 := m_want28.mono hb9
  have a_got29 := m_got28.mono hb9
  clear hb9 n_a8 n_b8 n_xwant08 n_xgot08 m_want28 m_got28 hbs8 c_a0 c_a1 c_a2 l_a c_b0 c_b1 c_b2 l_b c_xwant00 c_xwant01 c_xwant02 l_xwant0 c_xgot00 c_xgot01 c_xgot02 l_xgot0 sc_a0_8 sc_a1_8 sc_a2_8 sc_b0_8 sc_b1_8 sc_b2_8 sc_xwant00_8 sc_xwant01_8 sc_xwant02_8 fz8
  obtain ⟨c_a0, c_a1, c_a2⟩ := b_a9.three
  have l_a := b_a9.lt
  obtain ⟨c_b0, c_b1, c_b2⟩ := b_b9.three
  have l_b := b_b9.lt
  obtain ⟨c_xwant00, c_xwant01, c_xwant02⟩ := b_xwant09.three
  have l_xwant0 := b_xwant09.lt
  obtain ⟨c_xgot00, c_xgot01, c_xgot02⟩ := b_xgot09.three
  have l_xgot0 := b_xgot09.lt
  go_wp2_with fail
  refine ((show Calls _ _ _ _ (RTold (P.union a b) (unionErr a b) _) from united_told (ha.mono hbw9) (hb.mono hbw9))).mono ?_
  rintro e w10 ⟨r10, rfl, hr10, hb10⟩
  have hbw10 := hbw9.trans (hb10.mono hbw9.size)
  have b_a10 := b_a9.below hb10
  have b_b10 := b_b9.below hb10
  have b_xwant010 := b_xwant09.below hb10
  have b_xgot010 := b_xgot09.below hb10
  have a_want210 := a_want29.mono hb10
  have a_got210 := a_got29.mono hb10
  clear hb10 b_a9 b_b9 b_xwant09 b_xgot09 a_want29 a_got29 hbw9 c_a0 c_a1 c_a2 l_a c_b0 c_b1 c_b2 l_b c_xwant00 c_xwant01 c_xwant02 l_xwant0 c_xgot00 c_xgot01 c_xgot02 l_xgot0
  obtain ⟨c_a0, c_a1, c_a2⟩ := b_a10.three
  have l_a := b_a10.lt
  obtain ⟨c_b0, c_b1, c_b2⟩ := b_b10.three
  have l_b := b_b10.lt
  obtain ⟨c_xwant00, c_xwant01, c_xwant02⟩ := b_xwant010.three
  have l_xwant0 := b_xwant010.lt
  obtain ⟨c_xgot00, c_xgot01, c_xgot02⟩ := b_xgot010.three
  have l_xgot0 := b_xgot010.lt
  obtain ⟨A10, ca10, D10, cd10, rfl, hs10, hd10⟩ := hr10.open_
  have fz10 := b_xwant010.frozen
  have sc_a0_10 := cellS (q := ⟨w1.heap.size, 0, none⟩) (u := (.bool ((ans (P.union a b) (unionErr a b))).ch)) c_a0 (by simp; omega)
  have sc_a1_10 := cellS (q := ⟨w1.heap.size, 1, none⟩) (u := (.slice A10 ((ans (P.union a b) (unionErr a b))).sh.length ca10)) c_a1 (by simp; omega)
  have sc_a2_10 := cellS (q := ⟨w1.heap.size, 2, none⟩) (u := (.slice D10 ((ans (P.union a b) (unionErr a b))).da.length cd10)) c_a2 (by simp; omega)
  have sc_b0_10 := cellS (q := ⟨w1.heap.size, 0, none⟩) (u := (.bool ((ans (P.union a b) (unionErr a b))).ch)) c_b0 (by simp; omega)
  have sc_b1_10 := cellS (q := ⟨w1.heap.size, 1, none⟩) (u := (.slice A10 ((ans (P.union a b) (unionErr a b))).sh.length ca10)) c_b1 (by simp; omega)
  have sc_b2_10 := cellS (q := ⟨w1.heap.size, 2, none⟩) (u := (.slice D10 ((ans (P.union a b) (unionErr a b))).da.length cd10)) c_b2 (by simp; omega)
  have sc_xgot00_10 := cellS (q := ⟨w1.heap.size, 0, none⟩) (u := (.bool ((ans (P.union a b) (unionErr a b))).ch)) c_xgot00 (by simp; omega)
  have sc_xgot01_10 := cellS (q := ⟨w1.heap.size, 1, none⟩) (u := (.slice A10 ((ans (P.union a b) (unionErr a b))).sh.length ca10)) c_xgot01 (by simp; omega)
  have sc_xgot02_10 := cellS (q := ⟨w1.heap.size, 2, none⟩) (u := (.slice D10 ((ans (P.union a b) (unionErr a b))).da.length cd10)) c_xgot02 (by simp; omega)
  have gb10 := grownBy_three w10 (w1.heap.size) (.bool ((ans (P.union a b) (unionErr a b))).ch) (.slice A10 ((ans (P.union a b) (unionErr a b))).sh.length ca10) (.slice D10 ((ans (P.union a b) (unionErr a b))).da.length cd10)
  have n_a10 := b_a10.grown gb10 (by simp; omega)
  have n_b10 := b_b10.grown gb10 (by simp; omega)
  have n_xwant010 := ((b_xwant010.store 0 (.bool ((ans (P.union a b) (unionErr a b))).ch)).store 1 (.slice A10 ((ans (P.union a b) (unionErr a b))).sh.length ca10)).store 2 (.slice D10 ((ans (P.union a b) (unionErr a b))).da.length cd10)
  simp only [List.setIfInBounds_toArray, List.set_cons_zero, List.set_cons_succ] at n_xwant010
  have n_xgot010 := b_xgot010.grown gb10 (by simp; omega)
  have m_got210 := a_got210.laid b_xwant010 (.bool ((ans (P.union a b) (unionErr a b))).ch) (.slice A10 ((ans (P.union a b) (unionErr a b))).sh.length ca10) (.slice D10 ((ans (P.union a b) (unionErr a b))).da.length cd10)
  have m_want310 := hr10.laid b_xwant010 (.bool ((ans (P.union a b) (unionErr a b))).ch) (.slice A10 ((ans (P.union a b) (unionErr a b))).sh.length ca10) (.slice D10 ((ans (P.union a b) (unionErr a b))).da.length cd10)
  have hbs10 : Below w.heap.size w (((w10.setCell ⟨w1.heap.size, 0, none⟩ (.bool ((ans (P.union a b) (unionErr a b))).ch)).setCell ⟨w1.heap.size, 1, none⟩ (.slice A10 ((ans (P.union a b) (unionErr a b))).sh.length ca10)).setCell ⟨w1.heap.size, 2, none⟩ (.slice D10 ((ans (P.union a b) (unionErr a b))).da.length cd10)) := by have := hbw10.size; go_grown
  go_wp2_with fail
  refine ((show Calls _ _ _ _ (PTold (P.union a b) (unionErr a b) _) from (union_told (ha.mono hbs10) (hb.mono hbs10) wfa wfb).mono fun _ _ h => h.p)).mono ?_
  rintro e w11 ⟨r11, rfl, hr11, hb11⟩
  have hbw11 := hbs10.trans (hb11.mono hbs10.size)
  have b_a11 := n_a10.below hb11
  have b_b11 := n_b10.below hb11
  have b_xwant011 := n_xwant010.below hb11
  have b_xgot011 := n_xgot010.below hb11
  have a_got211 := m_got210.mono hb11
  have a_want311 := m_want310.mono hb11
  clear hb11 n_a10 n_b10 n_xwant010 n_xgot010 m_got210 m_want310 hbs10 c_a0 c_a1 c_a2 l_a c_b0 c_b1 c_b2 l_b c_xwant00 c_xwant01 c_xwant02 l_xwant0 c_xgot00 c_xgot01 c_xgot02 l_xgot0 sc_a0_10 sc_a1_10 sc_a2_10 sc_b0_10 sc_b1_10 sc_b2_10 sc_xgot00_10 sc_xgot01_10 sc_xgot02_10 fz10
  obtain ⟨c_a0, c_a1, c_a2⟩ := b_a11.three
  have l_a := b_a11.lt
  obtain ⟨c_b0, c_b1, c_b2⟩ := b_b11.three
  have l_b := b_b11.lt
  obtain ⟨c_xwant00, c_xwant01, c_xwant02⟩ := b_xwant011.three
  have l_xwant0 := b_xwant011.lt
  obtain ⟨c_xgot00, c_xgot01, c_xgot02⟩ := b_xgot011.three
  have l_xgot0 := b_xgot011.lt
  obtain ⟨A11, ca11, D11, cd11, rfl, hs11, hd11⟩ := hr11.open_
  have fz11 := b_xgot011.frozen
  have sc_a0_11 := cellS (q := ⟨w2.heap.size, 0, none⟩) (u := (.bool ((ans (P.union a b) (unionErr a b))).ch)) c_a0 (by simp; omega)
  have sc_a1_11 := cellS (q := ⟨w2.heap.size, 1, none⟩) (u := (.slice A11 ((ans (P.union a b) (unionErr a b))).sh.length ca11)) c_a1 (by simp; omega)
  have sc_a2_11 := cellS (q := ⟨w2.heap.size, 2, none⟩) (u := (.slice D11 ((ans (P.union a b) (unionErr a b))).da.length cd11)) c_a2 (by simp; omega)
  have sc_b0_11 := cellS (q := ⟨w2.heap.size, 0, none⟩) (u := (.bool ((ans (P.union a b) (unionErr a b))).ch)) c_b0 (by simp; omega)
  have sc_b1_11 := cellS (q := ⟨w2.heap.size, 1, none⟩) (u := (.slice A11 ((ans (P.union a b) (unionErr a b))).sh.length ca11)) c_b1 (by simp; omega)
  have sc_b2_11 := cellS (q := ⟨w2.heap.size, 2, none⟩) (u := (.slice D11 ((ans (P.union a b) (unionErr a b))).da.length cd11)) c_b2 (by simp; omega)
  have sc_xwant00_11 := cellS (q := ⟨w2.heap.size, 0, none⟩) (u := (.bool ((ans (P.union a b) (unionErr a b))).ch)) c_xwant00 (by simp; omega)
  have sc_xwant01_11 := cellS (q := ⟨w2.heap.size, 1, none⟩) (u := (.slice A11 ((ans (P.union a b) (unionErr a b))).sh.length ca11)) c_xwant01 (by simp; omega)
  have sc_xwant02_11 := cellS (q := ⟨w2.heap.size, 2, none⟩) (u := (.slice D11 ((ans (P.union a b) (unionErr a b))).da.length cd11)) c_xwant02 (by simp; omega)
  have gb11 := grownBy_three w11 (w2.heap.size) (.bool ((ans (P.union a b) (unionErr a b))).ch) (.slice A11 ((ans (P.union a b) (unionErr a b))).sh.length ca11) (.slice D11 ((ans (P.union a b) (unionErr a b))).da.length cd11)
  have n_a11 := b_a11.grown gb11 (by simp; omega)
  have n_b11 := b_b11.grown gb11 (by simp; omega)
  have n_xwant011 := b_xwant011.grown gb11 (by simp; omega)
  have n_xgot011 := ((b_xgot011.store 0 (.bool ((ans (P.union a b) (unionErr a b))).ch)).store 1 (.slice A11 ((ans (P.union a b) (unionErr a b))).sh.length ca11)).store 2 (.slice D11 ((ans (P.union a b) (unionErr a b))).da.length cd11)
  simp only [List.setIfInBounds_toArray, List.set_cons_zero, List.set_cons_succ] at n_xgot011
  have m_want311 := a_want311.laid b_xgot011 (.bool ((ans (P.union a b) (unionErr a b))).ch) (.slice A11 ((ans (P.union a b) (unionErr a b))).sh.length ca11) (.slice D11 ((ans (P.union a b) (unionErr a b))).da.length cd11)
  have m_got311 := hr11.laid b_xgot011 (.bool ((ans (P.union a b) (unionErr a b))).ch) (.slice A11 ((ans (P.union a b) (unionErr a b))).sh.length ca11) (.slice D11 ((ans (P.union a b) (unionErr a b))).da.length cd11)
  have hbs11 : Below w.heap.size w (((w11.setCell ⟨w2.heap.size, 0, none⟩ (.bool ((ans (P.union a b) (unionErr a b))).ch)).setCell ⟨w2.heap.size, 1, none⟩ (.slice A11 ((ans (P.union a b) (unionErr a b))).sh.length ca11)).setCell ⟨w2.heap.size, 2, none⟩ (.slice D11 ((ans (P.union a b) (unionErr a b))).da.length cd11)) := by have := hbw11.size; go_grown
  go_wp2_with fail
  refine (is_yes (unionErr a b) _ _ (ans (P.union a b) (unionErr a b)) _ (hg.mono hbs11) m_got311 m_want311).mono ?_
  rintro e w12 ⟨rfl, hb12⟩
  have hbw12 := hbs11.trans (hb12.mono hbs11.size)
  have b_a12 := n_a11.below hb12
  have b_b12 := n_b11.below hb12
  have b_xwant012 := n_xwant011.below hb12
  have b_xgot012 := n_xgot011.below hb12
  have a_want312 := m_want311.mono hb12
  have a_got312 := m_got311.mono hb12
  clear hb12 n_a11 n_b11 n_xwant011 n_xgot011 m_want311 m_got311 hbs11 c_a0 c_a1 c_a2 l_a c_b0 c_b1 c_b2 l_b c_xwant00 c_xwant01 c_xwant02 l_xwant0 c_xgot00 c_xgot01 c_xgot02 l_xgot0 sc_a0_11 sc_a1_11 sc_a2_11 sc_b0_11 sc_b1_11 sc_b2_11 sc_xwant00_11 sc_xwant01_11 sc_xwant02_11 fz11
  obtain ⟨c_a0, c_a1, c_a2⟩ := b_a12.three
  have l_a := b_a12.lt
  obtain ⟨c_b0, c_b1, c_b2⟩ := b_b12.three
  have l_b := b_b12.lt
  obtain ⟨c_xwant00, c_xwant01, c_xwant02⟩ := b_xwant012.three
  have l_xwant0 := b_xwant012.lt
  obtain ⟨c_xgot00, c_xgot01, c_xgot02⟩ := b_xgot012.three
  have l_xgot0 := b_xgot012.lt
  go_wp2_with fail
  go_ret
  exact ⟨rfl, by have := hbw12.size; go_grown⟩

end Go.Proofs.YtlkeipgpckkhbaaDoor
