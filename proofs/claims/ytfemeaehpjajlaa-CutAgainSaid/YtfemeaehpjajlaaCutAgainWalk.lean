/- The walk of the law CutAgain. Conditions: none. -/
import Derived.Test.YtfemeaehpjajlaaTake
import Derived.Test.YtfemeaehpjajlaaDrop
import Derived.Test.YtfemeaehpjajlaaAgain
import Derived.Test.YtfemeaehpjajlaaStore
import Derived.Test.YtfemeaehpjajlaaMore
import Derived.Test.YtfemeaehpjajlaaAlike
import Derived.Test.YtfemeaehpjajlaaMake
namespace Go.Proofs.Ytfemeaehpjajlaa
open Go Go.RowKit Go.Proofs.Ytfemeaehpjajlaa.P

set_option maxRecDepth 100000 in
set_option maxHeartbeats 4000000 in
theorem cutAgain_walk (m n : Int) (v : Value) (a : Arr) (w : World) (ha : IsArr w v a) :
    Calls Try.prog 11 #[.int .i64 m, .int .i64 n, v] w (Says w) := by
  obtain ⟨A, ca, D, cd, rfl, hs, hd⟩ := ha.open_
  go_enter Try.func11, Try.ntmps11
  go_wp2_with fail
  have x1 := (Box.new (w.alloc (.cells #[.bool a.ch, .slice A a.sh.length ca, .slice D a.da.length cd] 24)) 3 #[.int .i64 1])
  simp only [World.size_alloc, World.size_setCell] at x1
  have i1 : IsInts (((w.alloc (.cells #[.bool a.ch, .slice A a.sh.length ca, .slice D a.da.length cd] 24)).alloc (.cells #[.int .i64 1] 3)).alloc (.cells #[.int .i64 1, .int .i64 2, .int .i64 3] 3)) (.slice (some ⟨w.heap.size + 1, 0, none⟩) 1 1) [1] := (x1.alloc _).isInts (xs := [1]) (n := 1) rfl (by omega)
  have x2 := (Box.new ((w.alloc (.cells #[.bool a.ch, .slice A a.sh.length ca, .slice D a.da.length cd] 24)).alloc (.cells #[.int .i64 1] 3)) 3 #[.int .i64 1, .int .i64 2, .int .i64 3])
  simp only [World.size_alloc, World.size_setCell] at x2
  have i2 : IsInts (((w.alloc (.cells #[.bool a.ch, .slice A a.sh.length ca, .slice D a.da.length cd] 24)).alloc (.cells #[.int .i64 1] 3)).alloc (.cells #[.int .i64 1, .int .i64 2, .int .i64 3] 3)) (.slice (some ⟨w.heap.size + 1 + 1, 0, none⟩) 3 3) [1, 2, 3] := x2.isInts (xs := [1, 2, 3]) (n := 3) rfl (by omega)
  clear x1 x2
  refine (vec_any _ [1, 2, 3] _ i2).mono ?_
  rintro e w1 ⟨r1, rfl, hr1, hb1⟩
  have l1 := i1.mono hb1
  clear i1
  have hbw1 := ((Below.refl w.heap.size w).trans ((below_three w _ _ _).mono (Below.refl w.heap.size w).size)).trans (hb1.mono ((Below.refl w.heap.size w).trans ((below_three w _ _ _).mono (Below.refl w.heap.size w).size)).size)
  have b_a1 := (((Box.new w 24 #[.bool a.ch, .slice A a.sh.length ca, .slice D a.da.length cd]).alloc _).alloc _).below hb1
  clear hb1 i2
  obtain ⟨c_a0, c_a1, c_a2⟩ := b_a1.three
  have l_a := b_a1.lt
  go_wp2_with fail
  refine ((show Calls _ _ _ _ (GivesOk (drop [1] ⟨false, [3], [1, 2, 3]⟩) _) from (drop_told l1 hr1).mono fun e w' h => h.ok (drop_one (m := 1) (ok_vec (xs := [1, 2, 3]) (by simp))).1)).mono ?_
  rintro e w2 ⟨r2, rfl, hr2, hb2⟩
  have hbw2 := hbw1.trans (hb2.mono hbw1.size)
  have b_a2 := b_a1.below hb2
  have a_v2 := hr1.mono hb2
  have a_l2 := l1.mono hb2
  clear hb2 b_a1 hr1 l1 hbw1 c_a0 c_a1 c_a2 l_a
  obtain ⟨c_a0, c_a1, c_a2⟩ := b_a2.three
  have l_a := b_a2.lt
  obtain ⟨A2, ca2, D2, cd2, rfl, hs2, hd2⟩ := hr2.open_
  clear a_v2
  clear a_l2
  go_wp2_with fail
  have bq := Box.new (w2.alloc (.cells #[.bool ((drop [1] ⟨false, [3], [1, 2, 3]⟩)).ch, .slice A2 ((drop [1] ⟨false, [3], [1, 2, 3]⟩)).sh.length ca2, .slice D2 ((drop [1] ⟨false, [3], [1, 2, 3]⟩)).da.length cd2] 24)) 3 #[.int .i64 2, .int .i64 3]
  rw [World.size_alloc] at bq
  refine (ints_any _ _ _ [2, 3] _ (hd2.mono (below_two _ _ _)) (bq.isInts rfl (by simp))).mono ?_
  rintro e w3 ⟨r3, rfl, hr3, hb3⟩
  have e3 : r3 = true := hr3.2 (by decide)
  subst e3
  clear hr3 hs2 hd2
  clear hr2
  have hbw3 := (hbw2.trans ((below_two w2 _ _).mono hbw2.size)).trans (hb3.mono (hbw2.trans ((below_two w2 _ _).mono hbw2.size)).size)
  have b_a3 := ((b_a2.alloc _).alloc _).below hb3
  clear hb3 b_a2 hbw2 c_a0 c_a1 c_a2 l_a bq
  obtain ⟨c_a0, c_a1, c_a2⟩ := b_a3.three
  have l_a := b_a3.lt
  by_cases hE : arrErr a = 0
  case neg =>
    have HE := Lib.hid hE
    clear hE
    go_wp2_with fail
    refine (check_bad (ha.mono hbw3) HE.out).mono ?_
    rintro e w4 ⟨rfl, hb4⟩
    have hbw4 := hbw3.trans (hb4.mono hbw3.size)
    have b_a4 := b_a3.below hb4
    clear hb4 b_a3 hbw3 c_a0 c_a1 c_a2 l_a
    obtain ⟨c_a0, c_a1, c_a2⟩ := b_a4.three
    have l_a := b_a4.lt
    go_wp2_with fail
    go_ret
    exact ⟨rfl, by have := hbw4.size; go_grown⟩
  obtain ⟨t, ht⟩ := ok_of_arrErr hE
  have hsl : a.sh.length = t.length := by rw [ht.sh, length_ints]
  have Ht := Lib.hid ht
  have HSL := Lib.hid hsl
  clear hE ht hsl
  by_cases hl : a.sh.length = 1
  case neg =>
    have q0 : ((a.sh.length : Int) != 1) = true := by simp; omega
    clear hl
    go_wp2_with fail
    refine (check_ok (ha.mono hbw3) Ht.out).mono ?_
    rintro e w4 ⟨rfl, hb4⟩
    have hbw4 := hbw3.trans (hb4.mono hbw3.size)
    have b_a4 := b_a3.below hb4
    clear hb4 b_a3 hbw3 c_a0 c_a1 c_a2 l_a
    obtain ⟨c_a0, c_a1, c_a2⟩ := b_a4.three
    have l_a := b_a4.lt
    go_wp2_with fail
    go_ret
    exact ⟨rfl, by have := hbw4.size; go_grown⟩
  have q0 : ((a.sh.length : Int) != 1) = false := by simp; omega
  have HL := Lib.hid hl
  clear hl
  rcases Int.lt_or_le m 0 with g0 | g0
  · skip
    have g0' : decide (m < 0) = true := by simpa using g0
    go_wp2_with fail
    refine (check_ok (ha.mono hbw3) Ht.out).mono ?_
    rintro e w4 ⟨rfl, hb4⟩
    have hbw4 := hbw3.trans (hb4.mono hbw3.size)
    have b_a4 := b_a3.below hb4
    clear hb4 b_a3 hbw3 c_a0 c_a1 c_a2 l_a
    obtain ⟨c_a0, c_a1, c_a2⟩ := b_a4.three
    have l_a := b_a4.lt
    go_wp2_with fail
    go_ret
    exact ⟨rfl, by have := hbw4.size; go_grown⟩
  have g0' : decide (m < 0) = false := by simp; omega
  rcases Int.lt_or_le n 0 with g1 | g1
  · skip
    have g1' : decide (n < 0) = true := by simpa using g1
    go_wp2_with fail
    refine (check_ok (ha.mono hbw3) Ht.out).mono ?_
    rintro e w4 ⟨rfl, hb4⟩
    have hbw4 := hbw3.trans (hb4.mono hbw3.size)
    have b_a4 := b_a3.below hb4
    clear hb4 b_a3 hbw3 c_a0 c_a1 c_a2 l_a
    obtain ⟨c_a0, c_a1, c_a2⟩ := b_a4.three
    have l_a := b_a4.lt
    go_wp2_with fail
    go_ret
    exact ⟨rfl, by have := hbw4.size; go_grown⟩
  have g1' : decide (n < 0) = false := by simp; omega
  rcases Int.lt_or_le 4096 m with g2 | g2
  · skip
    have g2' : decide (4096 < m) = true := by simpa using g2
    go_wp2_with fail
    refine (check_ok (ha.mono hbw3) Ht.out).mono ?_
    rintro e w4 ⟨rfl, hb4⟩
    have hbw4 := hbw3.trans (hb4.mono hbw3.size)
    have b_a4 := b_a3.below hb4
    clear hb4 b_a3 hbw3 c_a0 c_a1 c_a2 l_a
    obtain ⟨c_a0, c_a1, c_a2⟩ := b_a4.three
    have l_a := b_a4.lt
    go_wp2_with fail
    go_ret
    exact ⟨rfl, by have := hbw4.size; go_grown⟩
  have g2' : decide (4096 < m) = false := by simp; omega
  rcases Int.lt_or_le 4096 n with g3 | g3
  · skip
    have g3' : decide (4096 < n) = true := by simpa using g3
    go_wp2_with fail
    refine (check_ok (ha.mono hbw3) Ht.out).mono ?_
    rintro e w4 ⟨rfl, hb4⟩
    have hbw4 := hbw3.trans (hb4.mono hbw3.size)
    have b_a4 := b_a3.below hb4
    clear hb4 b_a3 hbw3 c_a0 c_a1 c_a2 l_a
    obtain ⟨c_a0, c_a1, c_a2⟩ := b_a4.three
    have l_a := b_a4.lt
    go_wp2_with fail
    go_ret
    exact ⟨rfl, by have := hbw4.size; go_grown⟩
  have g3' : decide (4096 < n) = false := by simp; omega
  go_wp2_with fail
  refine (check_ok (ha.mono hbw3) Ht.out).mono ?_
  rintro e w4 ⟨rfl, hb4⟩
  have hbw4 := hbw3.trans (hb4.mono hbw3.size)
  have b_a4 := b_a3.below hb4
  clear hb4 b_a3 hbw3 c_a0 c_a1 c_a2 l_a
  obtain ⟨c_a0, c_a1, c_a2⟩ := b_a4.three
  have l_a := b_a4.lt
  obtain ⟨l, hl⟩ : ∃ l, t = [l] := by have h1 := HSL.out; have h2 := HL.out; match t, h1 with | [l], _ => exact ⟨l, rfl⟩ | [], h1 => rw [h2] at h1; simp at h1 | _ :: _ :: _, h1 => rw [h2] at h1; simp at h1
  subst hl
  have TM := Lib.hid (take_one Ht.out g0 g2)
  have TN := Lib.hid (take_one TM.out.2 g1 g3)
  have DM := Lib.hid (drop_one (m := m) Ht.out)
  have DS := Lib.hid (drop_one (m := m + n) Ht.out)
  obtain ⟨ld, hld⟩ := DM.out.2
  have LD := Lib.hid hld
  clear hld
  have DN := Lib.hid (drop_one (m := n) LD.out)
  have AD := Lib.hid (again_drop Ht.out g0 g1)
  rcases Int.lt_or_le n m with h | h
  · have hf : decide (n < m) = true := by simp; omega
    have AT := Lib.hid (again_less Ht.out g0 g2 g1 g3 h)
    have TF := Lib.hid (take_one (m := n) TN.out.2 g1 g3)
    have TA := Lib.hid (take_one (m := n) Ht.out g1 g3)
    clear h
    go_wp2_with fail
    have x1 := Box.new w4 3 #[.int .i64 (m)]
    have i1 : IsInts (w4.alloc (.cells #[.int .i64 (m)] 3)) (.slice (some ⟨w4.heap.size, 0, none⟩) 1 1) [m] := x1.isInts (xs := [m]) (n := 1) rfl (by omega)
    clear x1
    refine ((show Calls _ _ _ _ (GivesOk (take [m] a) _) from (take_told i1 (ha.mono (hbw4.trans ((below_one w4 _).mono hbw4.size)))).mono fun e w' h => h.ok (TM.out.1))).mono ?_
    rintro e w5 ⟨r5, rfl, hr5, hb5⟩
    have hbw5 := (hbw4.trans ((below_one w4 _).mono hbw4.size)).trans (hb5.mono (hbw4.trans ((below_one w4 _).mono hbw4.size)).size)
    have b_a5 := (b_a4.alloc _).below hb5
    clear hb5 b_a4 hbw4 c_a0 c_a1 c_a2 l_a i1
    obtain ⟨c_a0, c_a1, c_a2⟩ := b_a5.three
    have l_a := b_a5.lt
    obtain ⟨A5, ca5, D5, cd5, rfl, hs5, hd5⟩ := hr5.open_
    have o_ax := l_a
    go_wp2_with fail
    have x1 := Box.new (w5.alloc (.cells #[.bool (take [m] a).ch, .slice A5 (take [m] a).sh.length ca5, .slice D5 (take [m] a).da.length cd5] 24)) 3 #[.int .i64 (n)]
    simp only [World.size_alloc, World.size_setCell] at x1
    have i1 : IsInts ((w5.alloc (.cells #[.bool (take [m] a).ch, .slice A5 (take [m] a).sh.length ca5, .slice D5 (take [m] a).da.length cd5] 24)).alloc (.cells #[.int .i64 (n)] 3)) (.slice (some ⟨w5.heap.size + 1, 0, none⟩) 1 1) [n] := x1.isInts (xs := [n]) (n := 1) rfl (by omega)
    clear x1
    refine ((show Calls _ _ _ _ (GivesOk (take [n] (take [m] a)) _) from (take_told i1 (hr5.mono (below_two _ _ _))).mono fun e w' h => h.ok (TN.out.1))).mono ?_
    rintro e w6 ⟨r6, rfl, hr6, hb6⟩
    have hbw6 := (hbw5.trans ((below_two w5 _ _).mono hbw5.size)).trans (hb6.mono (hbw5.trans ((below_two w5 _ _).mono hbw5.size)).size)
    have b_a6 := ((b_a5.alloc _).alloc _).below hb6
    have b_xx6 := ((Box.new w5 24 #[.bool (take [m] a).ch, .slice A5 (take [m] a).sh.length ca5, .slice D5 (take [m] a).da.length cd5]).alloc _).below hb6
    have a_x6 := (hr5.mono (below_two _ _ _)).mono hb6
    clear hb6 b_a5 hr5 hbw5 c_a0 c_a1 c_a2 l_a i1
    obtain ⟨c_a0, c_a1, c_a2⟩ := b_a6.three
    have l_a := b_a6.lt
    obtain ⟨c_xx0, c_xx1, c_xx2⟩ := b_xx6.three
    have l_xx := b_xx6.lt
    obtain ⟨A6, ca6, D6, cd6, rfl, hs6, hd6⟩ := hr6.open_
    have fz6 := b_xx6.frozen
    have sc_a0_6 := cellS (q := ⟨w5.heap.size, 0, none⟩) (u := (.bool (take [n] (take [m] a)).ch)) c_a0 (by simp; omega)
    have sc_a1_6 := cellS (q := ⟨w5.heap.size, 1, none⟩) (u := (.slice A6 (take [n] (take [m] a)).sh.length ca6)) c_a1 (by simp; omega)
    have sc_a2_6 := cellS (q := ⟨w5.heap.size, 2, none⟩) (u := (.slice D6 (take [n] (take [m] a)).da.length cd6)) c_a2 (by simp; omega)
    have gb6 := grownBy_three w6 (w5.heap.size) (.bool (take [n] (take [m] a)).ch) (.slice A6 (take [n] (take [m] a)).sh.length ca6) (.slice D6 (take [n] (take [m] a)).da.length cd6)
    have n_a6 := b_a6.grown gb6 (by simp; omega)
    have n_xx6 := ((b_xx6.store 0 (.bool (take [n] (take [m] a)).ch)).store 1 (.slice A6 (take [n] (take [m] a)).sh.length ca6)).store 2 (.slice D6 (take [n] (take [m] a)).da.length cd6)
    simp only [List.setIfInBounds_toArray, List.set_cons_zero, List.set_cons_succ] at n_xx6
    have m_x26 := hr6.laid b_xx6 (.bool (take [n] (take [m] a)).ch) (.slice A6 (take [n] (take [m] a)).sh.length ca6) (.slice D6 (take [n] (take [m] a)).da.length cd6)
    have hbs6 : Below w.heap.size w (((w6.setCell ⟨w5.heap.size, 0, none⟩ (.bool (take [n] (take [m] a)).ch)).setCell ⟨w5.heap.size, 1, none⟩ (.slice A6 (take [n] (take [m] a)).sh.length ca6)).setCell ⟨w5.heap.size, 2, none⟩ (.slice D6 (take [n] (take [m] a)).da.length cd6)) := by have := hbw6.size; go_grown
    go_wp2_with fail
    have x1 := Box.new (((w6.setCell ⟨w5.heap.size, 0, none⟩ (.bool (take [n] (take [m] a)).ch)).setCell ⟨w5.heap.size, 1, none⟩ (.slice A6 (take [n] (take [m] a)).sh.length ca6)).setCell ⟨w5.heap.size, 2, none⟩ (.slice D6 (take [n] (take [m] a)).da.length cd6)) 3 #[.int .i64 (n)]
    simp only [World.size_alloc, World.size_setCell] at x1
    have i1 : IsInts ((((w6.setCell ⟨w5.heap.size, 0, none⟩ (.bool (take [n] (take [m] a)).ch)).setCell ⟨w5.heap.size, 1, none⟩ (.slice A6 (take [n] (take [m] a)).sh.length ca6)).setCell ⟨w5.heap.size, 2, none⟩ (.slice D6 (take [n] (take [m] a)).da.length cd6)).alloc (.cells #[.int .i64 (n)] 3)) (.slice (some ⟨w6.heap.size, 0, none⟩) 1 1) [n] := x1.isInts (xs := [n]) (n := 1) rfl (by omega)
    clear x1
    refine ((show Calls _ _ _ _ (GivesOk (take [n] (take [n] (take [m] a))) _) from (take_told i1 (m_x26.mono (below_one _ _))).mono fun e w' h => h.ok (TF.out.1))).mono ?_
    rintro e w7 ⟨r7, rfl, hr7, hb7⟩
    have hbw7 := (hbs6.trans ((below_one (((w6.setCell ⟨w5.heap.size, 0, none⟩ (.bool (take [n] (take [m] a)).ch)).setCell ⟨w5.heap.size, 1, none⟩ (.slice A6 (take [n] (take [m] a)).sh.length ca6)).setCell ⟨w5.heap.size, 2, none⟩ (.slice D6 (take [n] (take [m] a)).da.length cd6)) _).mono hbs6.size)).trans (hb7.mono (hbs6.trans ((below_one (((w6.setCell ⟨w5.heap.size, 0, none⟩ (.bool (take [n] (take [m] a)).ch)).setCell ⟨w5.heap.size, 1, none⟩ (.slice A6 (take [n] (take [m] a)).sh.length ca6)).setCell ⟨w5.heap.size, 2, none⟩ (.slice D6 (take [n] (take [m] a)).da.length cd6)) _).mono hbs6.size)).size)
    have b_a7 := (n_a6.alloc _).below hb7
    have b_xx7 := (n_xx6.alloc _).below hb7
    have a_x27 := (m_x26.mono (below_one _ _)).mono hb7
    clear hb7 n_a6 n_xx6 m_x26 c_a0 c_a1 c_a2 l_a c_xx0 c_xx1 c_xx2 l_xx sc_a0_6 sc_a1_6 sc_a2_6 fz6 i1
    obtain ⟨c_a0, c_a1, c_a2⟩ := b_a7.three
    have l_a := b_a7.lt
    obtain ⟨c_xx0, c_xx1, c_xx2⟩ := b_xx7.three
    have l_xx := b_xx7.lt
    obtain ⟨A7, ca7, D7, cd7, rfl, hs7, hd7⟩ := hr7.open_
    have fz7 := b_xx7.frozen
    have sc_a0_7 := cellS (q := ⟨w5.heap.size, 0, none⟩) (u := (.bool (take [n] (take [n] (take [m] a))).ch)) c_a0 (by simp; omega)
    have sc_a1_7 := cellS (q := ⟨w5.heap.size, 1, none⟩) (u := (.slice A7 (take [n] (take [n] (take [m] a))).sh.length ca7)) c_a1 (by simp; omega)
    have sc_a2_7 := cellS (q := ⟨w5.heap.size, 2, none⟩) (u := (.slice D7 (take [n] (take [n] (take [m] a))).da.length cd7)) c_a2 (by simp; omega)
    have gb7 := grownBy_three w7 (w5.heap.size) (.bool (take [n] (take [n] (take [m] a))).ch) (.slice A7 (take [n] (take [n] (take [m] a))).sh.length ca7) (.slice D7 (take [n] (take [n] (take [m] a))).da.length cd7)
    have n_a7 := b_a7.grown gb7 (by simp; omega)
    have n_xx7 := ((b_xx7.store 0 (.bool (take [n] (take [n] (take [m] a))).ch)).store 1 (.slice A7 (take [n] (take [n] (take [m] a))).sh.length ca7)).store 2 (.slice D7 (take [n] (take [n] (take [m] a))).da.length cd7)
    simp only [List.setIfInBounds_toArray, List.set_cons_zero, List.set_cons_succ] at n_xx7
    have m_x37 := hr7.laid b_xx7 (.bool (take [n] (take [n] (take [m] a))).ch) (.slice A7 (take [n] (take [n] (take [m] a))).sh.length ca7) (.slice D7 (take [n] (take [n] (take [m] a))).da.length cd7)
    have hbs7 : Below w.heap.size w (((w7.setCell ⟨w5.heap.size, 0, none⟩ (.bool (take [n] (take [n] (take [m] a))).ch)).setCell ⟨w5.heap.size, 1, none⟩ (.slice A7 (take [n] (take [n] (take [m] a))).sh.length ca7)).setCell ⟨w5.heap.size, 2, none⟩ (.slice D7 (take [n] (take [n] (take [m] a))).da.length cd7)) := by have := hbw7.size; go_grown
    go_wp2_with fail
    have x1 := Box.new (((w7.setCell ⟨w5.heap.size, 0, none⟩ (.bool (take [n] (take [n] (take [m] a))).ch)).setCell ⟨w5.heap.size, 1, none⟩ (.slice A7 (take [n] (take [n] (take [m] a))).sh.length ca7)).setCell ⟨w5.heap.size, 2, none⟩ (.slice D7 (take [n] (take [n] (take [m] a))).da.length cd7)) 3 #[.int .i64 (n)]
    simp only [World.size_alloc, World.size_setCell] at x1
    have i1 : IsInts ((((w7.setCell ⟨w5.heap.size, 0, none⟩ (.bool (take [n] (take [n] (take [m] a))).ch)).setCell ⟨w5.heap.size, 1, none⟩ (.slice A7 (take [n] (take [n] (take [m] a))).sh.length ca7)).setCell ⟨w5.heap.size, 2, none⟩ (.slice D7 (take [n] (take [n] (take [m] a))).da.length cd7)).alloc (.cells #[.int .i64 (n)] 3)) (.slice (some ⟨w7.heap.size, 0, none⟩) 1 1) [n] := x1.isInts (xs := [n]) (n := 1) rfl (by omega)
    clear x1
    refine ((show Calls _ _ _ _ (GivesOk (take [n] a) _) from (take_told i1 (ha.mono (hbs7.trans ((below_one (((w7.setCell ⟨w5.heap.size, 0, none⟩ (.bool (take [n] (take [n] (take [m] a))).ch)).setCell ⟨w5.heap.size, 1, none⟩ (.slice A7 (take [n] (take [n] (take [m] a))).sh.length ca7)).setCell ⟨w5.heap.size, 2, none⟩ (.slice D7 (take [n] (take [n] (take [m] a))).da.length cd7)) _).mono hbs7.size)))).mono fun e w' h => h.ok (TA.out.1))).mono ?_
    rintro e w8 ⟨r8, rfl, hr8, hb8⟩
    have hbw8 := (hbs7.trans ((below_one (((w7.setCell ⟨w5.heap.size, 0, none⟩ (.bool (take [n] (take [n] (take [m] a))).ch)).setCell ⟨w5.heap.size, 1, none⟩ (.slice A7 (take [n] (take [n] (take [m] a))).sh.length ca7)).setCell ⟨w5.heap.size, 2, none⟩ (.slice D7 (take [n] (take [n] (take [m] a))).da.length cd7)) _).mono hbs7.size)).trans (hb8.mono (hbs7.trans ((below_one (((w7.setCell ⟨w5.heap.size, 0, none⟩ (.bool (take [n] (take [n] (take [m] a))).ch)).setCell ⟨w5.heap.size, 1, none⟩ (.slice A7 (take [n] (take [n] (take [m] a))).sh.length ca7)).setCell ⟨w5.heap.size, 2, none⟩ (.slice D7 (take [n] (take [n] (take [m] a))).da.length cd7)) _).mono hbs7.size)).size)
    have b_a8 := (n_a7.alloc _).below hb8
    have b_xx8 := (n_xx7.alloc _).below hb8
    have a_x38 := (m_x37.mono (below_one _ _)).mono hb8
    clear hb8 n_a7 n_xx7 m_x37 c_a0 c_a1 c_a2 l_a c_xx0 c_xx1 c_xx2 l_xx sc_a0_7 sc_a1_7 sc_a2_7 fz7 i1
    obtain ⟨c_a0, c_a1, c_a2⟩ := b_a8.three
    have l_a := b_a8.lt
    obtain ⟨c_xx0, c_xx1, c_xx2⟩ := b_xx8.three
    have l_xx := b_xx8.lt
    obtain ⟨A8, ca8, D8, cd8, rfl, hs8, hd8⟩ := hr8.open_
    have o_ay := l_a
    have o_xy := l_xx
    go_wp2_with fail
    refine (alike_nil _ _ _ _ _ (a_x38.mono (below_one _ _)) (hr8.mono (below_one _ _))).mono ?_
    rintro e w9 ⟨r9, rfl, hr9, hb9⟩
    have e9 : r9 = true := hr9.2 (AT.out)
    subst e9
    clear hr9
    have hbw9 := (hbw8.trans ((below_one w8 _).mono hbw8.size)).trans (hb9.mono (hbw8.trans ((below_one w8 _).mono hbw8.size)).size)
    have b_a9 := (b_a8.alloc _).below hb9
    have b_xx9 := (b_xx8.alloc _).below hb9
    have b_xy9 := (Box.new w8 24 #[.bool (take [n] a).ch, .slice A8 (take [n] a).sh.length ca8, .slice D8 (take [n] a).da.length cd8]).below hb9
    have a_x39 := (a_x38.mono (below_one _ _)).mono hb9
    have a_y9 := (hr8.mono (below_one _ _)).mono hb9
    clear hb9 b_a8 b_xx8 a_x38 hr8 hbw8 c_a0 c_a1 c_a2 l_a c_xx0 c_xx1 c_xx2 l_xx
    obtain ⟨c_a0, c_a1, c_a2⟩ := b_a9.three
    have l_a := b_a9.lt
    obtain ⟨c_xx0, c_xx1, c_xx2⟩ := b_xx9.three
    have l_xx := b_xx9.lt
    obtain ⟨c_xy0, c_xy1, c_xy2⟩ := b_xy9.three
    have l_xy := b_xy9.lt
    go_wp2_with fail
    have x1 := Box.new w9 3 #[.int .i64 (m)]
    have i1 : IsInts (w9.alloc (.cells #[.int .i64 (m)] 3)) (.slice (some ⟨w9.heap.size, 0, none⟩) 1 1) [m] := x1.isInts (xs := [m]) (n := 1) rfl (by omega)
    clear x1
    refine ((show Calls _ _ _ _ (GivesOk (drop [m] a) _) from (drop_told i1 (ha.mono (hbw9.trans ((below_one w9 _).mono hbw9.size)))).mono fun e w' h => h.ok (DM.out.1))).mono ?_
    rintro e w10 ⟨r10, rfl, hr10, hb10⟩
    have hbw10 := (hbw9.trans ((below_one w9 _).mono hbw9.size)).trans (hb10.mono (hbw9.trans ((below_one w9 _).mono hbw9.size)).size)
    have b_a10 := (b_a9.alloc _).below hb10
    have b_xx10 := (b_xx9.alloc _).below hb10
    have b_xy10 := (b_xy9.alloc _).below hb10
    clear hb10 b_a9 b_xx9 b_xy9 hbw9 c_a0 c_a1 c_a2 l_a c_xx0 c_xx1 c_xx2 l_xx c_xy0 c_xy1 c_xy2 l_xy i1
    obtain ⟨c_a0, c_a1, c_a2⟩ := b_a10.three
    have l_a := b_a10.lt
    obtain ⟨c_xx0, c_xx1, c_xx2⟩ := b_xx10.three
    have l_xx := b_xx10.lt
    obtain ⟨c_xy0, c_xy1, c_xy2⟩ := b_xy10.three
    have l_xy := b_xy10.lt
    obtain ⟨A10, ca10, D10, cd10, rfl, hs10, hd10⟩ := hr10.open_
    have o_au := l_a
    have o_xu := l_xx
    have o_yu := l_xy
    go_wp2_with fail
    have x1 := Box.new (w10.alloc (.cells #[.bool (drop [m] a).ch, .slice A10 (drop [m] a).sh.length ca10, .slice D10 (drop [m] a).da.length cd10] 24)) 3 #[.int .i64 (n)]
    simp only [World.size_alloc, World.size_setCell] at x1
    have i1 : IsInts ((w10.alloc (.cells #[.bool (drop [m] a).ch, .slice A10 (drop [m] a).sh.length ca10, .slice D10 (drop [m] a).da.length cd10] 24)).alloc (.cells #[.int .i64 (n)] 3)) (.slice (some ⟨w10.heap.size + 1, 0, none⟩) 1 1) [n] := x1.isInts (xs := [n]) (n := 1) rfl (by omega)
    clear x1
    refine ((show Calls _ _ _ _ (GivesOk (drop [n] (drop [m] a)) _) from (drop_told i1 (hr10.mono (below_two _ _ _))).mono fun e w' h => h.ok (DN.out.1))).mono ?_
    rintro e w11 ⟨r11, rfl, hr11, hb11⟩
    have hbw11 := (hbw10.trans ((below_two w10 _ _).mono hbw10.size)).trans (hb11.mono (hbw10.trans ((below_two w10 _ _).mono hbw10.size)).size)
    have b_a11 := ((b_a10.alloc _).alloc _).below hb11
    have b_xx11 := ((b_xx10.alloc _).alloc _).below hb11
    have b_xy11 := ((b_xy10.alloc _).alloc _).below hb11
    have b_xu11 := ((Box.new w10 24 #[.bool (drop [m] a).ch, .slice A10 (drop [m] a).sh.length ca10, .slice D10 (drop [m] a).da.length cd10]).alloc _).below hb11
    have a_u11 := (hr10.mono (below_two _ _ _)).mono hb11
    clear hb11 b_a10 b_xx10 b_xy10 hr10 hbw10 c_a0 c_a1 c_a2 l_a c_xx0 c_xx1 c_xx2 l_xx c_xy0 c_xy1 c_xy2 l_xy i1
    obtain ⟨c_a0, c_a1, c_a2⟩ := b_a11.three
    have l_a := b_a11.lt
    obtain ⟨c_xx0, c_xx1, c_xx2⟩ := b_xx11.three
    have l_xx := b_xx11.lt
    obtain ⟨c_xy0, c_xy1, c_xy2⟩ := b_xy11.three
    have l_xy := b_xy11.lt
    obtain ⟨c_xu0, c_xu1, c_xu2⟩ := b_xu11.three
    have l_xu := b_xu11.lt
    obtain ⟨A11, ca11, D11, cd11, rfl, hs11, hd11⟩ := hr11.open_
    have fz11 := b_xu11.frozen
    have sc_a0_11 := cellS (q := ⟨w10.heap.size, 0, none⟩) (u := (.bool (drop [n] (drop [m] a)).ch)) c_a0 (by simp; omega)
    have sc_a1_11 := cellS (q := ⟨w10.heap.size, 1, none⟩) (u := (.slice A11 (drop [n] (drop [m] a)).sh.length ca11)) c_a1 (by simp; omega)
    have sc_a2_11 := cellS (q := ⟨w10.heap.size, 2, none⟩) (u := (.slice D11 (drop [n] (drop [m] a)).da.length cd11)) c_a2 (by simp; omega)
    have sc_xx0_11 := cellS (q := ⟨w10.heap.size, 0, none⟩) (u := (.bool (drop [n] (drop [m] a)).ch)) c_xx0 (by simp; omega)
    have sc_xx1_11 := cellS (q := ⟨w10.heap.size, 1, none⟩) (u := (.slice A11 (drop [n] (drop [m] a)).sh.length ca11)) c_xx1 (by simp; omega)
    have sc_xx2_11 := cellS (q := ⟨w10.heap.size, 2, none⟩) (u := (.slice D11 (drop [n] (drop [m] a)).da.length cd11)) c_xx2 (by simp; omega)
    have sc_xy0_11 := cellS (q := ⟨w10.heap.size, 0, none⟩) (u := (.bool (drop [n] (drop [m] a)).ch)) c_xy0 (by simp; omega)
    have sc_xy1_11 := cellS (q := ⟨w10.heap.size, 1, none⟩) (u := (.slice A11 (drop [n] (drop [m] a)).sh.length ca11)) c_xy1 (by simp; omega)
    have sc_xy2_11 := cellS (q := ⟨w10.heap.size, 2, none⟩) (u := (.slice D11 (drop [n] (drop [m] a)).da.length cd11)) c_xy2 (by simp; omega)
    have gb11 := grownBy_three w11 (w10.heap.size) (.bool (drop [n] (drop [m] a)).ch) (.slice A11 (drop [n] (drop [m] a)).sh.length ca11) (.slice D11 (drop [n] (drop [m] a)).da.length cd11)
    have n_a11 := b_a11.grown gb11 (by simp; omega)
    have n_xx11 := b_xx11.grown gb11 (by simp; omega)
    have n_xy11 := b_xy11.grown gb11 (by simp; omega)
    have n_xu11 := ((b_xu11.store 0 (.bool (drop [n] (drop [m] a)).ch)).store 1 (.slice A11 (drop [n] (drop [m] a)).sh.length ca11)).store 2 (.slice D11 (drop [n] (drop [m] a)).da.length cd11)
    simp only [List.setIfInBounds_toArray, List.set_cons_zero, List.set_cons_succ] at n_xu11
    have m_u211 := hr11.laid b_xu11 (.bool (drop [n] (drop [m] a)).ch) (.slice A11 (drop [n] (drop [m] a)).sh.length ca11) (.slice D11 (drop [n] (drop [m] a)).da.length cd11)
    have hbs11 : Below w.heap.size w (((w11.setCell ⟨w10.heap.size, 0, none⟩ (.bool (drop [n] (drop [m] a)).ch)).setCell ⟨w10.heap.size, 1, none⟩ (.slice A11 (drop [n] (drop [m] a)).sh.length ca11)).setCell ⟨w10.heap.size, 2, none⟩ (.slice D11 (drop [n] (drop [m] a)).da.length cd11)) := by have := hbw11.size; go_grown
    go_wp2_with fail
    have x1 := Box.new (((w11.setCell ⟨w10.heap.size, 0, none⟩ (.bool (drop [n] (drop [m] a)).ch)).setCell ⟨w10.heap.size, 1, none⟩ (.slice A11 (drop [n] (drop [m] a)).sh.length ca11)).setCell ⟨w10.heap.size, 2, none⟩ (.slice D11 (drop [n] (drop [m] a)).da.length cd11)) 3 #[.int .i64 (m + n)]
    simp only [World.size_alloc, World.size_setCell] at x1
    have i1 : IsInts ((((w11.setCell ⟨w10.heap.size, 0, none⟩ (.bool (drop [n] (drop [m] a)).ch)).setCell ⟨w10.heap.size, 1, none⟩ (.slice A11 (drop [n] (drop [m] a)).sh.length ca11)).setCell ⟨w10.heap.size, 2, none⟩ (.slice D11 (drop [n] (drop [m] a)).da.length cd11)).alloc (.cells #[.int .i64 (m + n)] 3)) (.slice (some ⟨w11.heap.size, 0, none⟩) 1 1) [m + n] := x1.isInts (xs := [m + n]) (n := 1) rfl (by omega)
    clear x1
    refine ((show Calls _ _ _ _ (GivesOk (drop [m + n] a) _) from (drop_told i1 (ha.mono (hbs11.trans ((below_one (((w11.setCell ⟨w10.heap.size, 0, none⟩ (.bool (drop [n] (drop [m] a)).ch)).setCell ⟨w10.heap.size, 1, none⟩ (.slice A11 (drop [n] (drop [m] a)).sh.length ca11)).setCell ⟨w10.heap.size, 2, none⟩ (.slice D11 (drop [n] (drop [m] a)).da.length cd11)) _).mono hbs11.size)))).mono fun e w' h => h.ok (DS.out.1))).mono ?_
    rintro e w12 ⟨r12, rfl, hr12, hb12⟩
    have hbw12 := (hbs11.trans ((below_one (((w11.setCell ⟨w10.heap.size, 0, none⟩ (.bool (drop [n] (drop [m] a)).ch)).setCell ⟨w10.heap.size, 1, none⟩ (.slice A11 (drop [n] (drop [m] a)).sh.length ca11)).setCell ⟨w10.heap.size, 2, none⟩ (.slice D11 (drop [n] (drop [m] a)).da.length cd11)) _).mono hbs11.size)).trans (hb12.mono (hbs11.trans ((below_one (((w11.setCell ⟨w10.heap.size, 0, none⟩ (.bool (drop [n] (drop [m] a)).ch)).setCell ⟨w10.heap.size, 1, none⟩ (.slice A11 (drop [n] (drop [m] a)).sh.length ca11)).setCell ⟨w10.heap.size, 2, none⟩ (.slice D11 (drop [n] (drop [m] a)).da.length cd11)) _).mono hbs11.size)).size)
    have b_a12 := (n_a11.alloc _).below hb12
    have b_xx12 := (n_xx11.alloc _).below hb12
    have b_xy12 := (n_xy11.alloc _).below hb12
    have b_xu12 := (n_xu11.alloc _).below hb12
    have a_u212 := (m_u211.mono (below_one _ _)).mono hb12
    clear hb12 n_a11 n_xx11 n_xy11 n_xu11 m_u211 c_a0 c_a1 c_a2 l_a c_xx0 c_xx1 c_xx2 l_xx c_xy0 c_xy1 c_xy2 l_xy c_xu0 c_xu1 c_xu2 l_xu sc_a0_11 sc_a1_11 sc_a2_11 sc_xx0_11 sc_xx1_11 sc_xx2_11 sc_xy0_11 sc_xy1_11 sc_xy2_11 fz11 i1
    obtain ⟨c_a0, c_a1, c_a2⟩ := b_a12.three
    have l_a := b_a12.lt
    obtain ⟨c_xx0, c_xx1, c_xx2⟩ := b_xx12.three
    have l_xx := b_xx12.lt
    obtain ⟨c_xy0, c_xy1, c_xy2⟩ := b_xy12.three
    have l_xy := b_xy12.lt
    obtain ⟨c_xu0, c_xu1, c_xu2⟩ := b_xu12.three
    have l_xu := b_xu12.lt
    obtain ⟨A12, ca12, D12, cd12, rfl, hs12, hd12⟩ := hr12.open_
    go_wp2_with fail
    refine (alike_nil _ _ _ _ _ (a_u212.mono (below_one _ _)) (hr12.mono (below_one _ _))).mono ?_
    rintro e w13 ⟨r13, rfl, hr13, hb13⟩
    have e13 : r13 = true := hr13.2 (AD.out)
    subst e13
    clear hr13
    have hbw13 := (hbw12.trans ((below_one w12 _).mono hbw12.size)).trans (hb13.mono (hbw12.trans ((below_one w12 _).mono hbw12.size)).size)
    have b_a13 := (b_a12.alloc _).below hb13
    have b_xx13 := (b_xx12.alloc _).below hb13
    have b_xy13 := (b_xy12.alloc _).below hb13
    have b_xu13 := (b_xu12.alloc _).below hb13
    have b_xv13 := (Box.new w12 24 #[.bool (drop [m + n] a).ch, .slice A12 (drop [m + n] a).sh.length ca12, .slice D12 (drop [m + n] a).da.length cd12]).below hb13
    have a_u213 := (a_u212.mono (below_one _ _)).mono hb13
    have a_v13 := (hr12.mono (below_one _ _)).mono hb13
    clear hb13 b_a12 b_xx12 b_xy12 b_xu12 a_u212 hr12 hbw12 c_a0 c_a1 c_a2 l_a c_xx0 c_xx1 c_xx2 l_xx c_xy0 c_xy1 c_xy2 l_xy c_xu0 c_xu1 c_xu2 l_xu
    obtain ⟨c_a0, c_a1, c_a2⟩ := b_a13.three
    have l_a := b_a13.lt
    obtain ⟨c_xx0, c_xx1, c_xx2⟩ := b_xx13.three
    have l_xx := b_xx13.lt
    obtain ⟨c_xy0, c_xy1, c_xy2⟩ := b_xy13.three
    have l_xy := b_xy13.lt
    obtain ⟨c_xu0, c_xu1, c_xu2⟩ := b_xu13.three
    have l_xu := b_xu13.lt
    obtain ⟨c_xv0, c_xv1, c_xv2⟩ := b_xv13.three
    have l_xv := b_xv13.lt
    go_wp2_with fail
    go_ret
    exact ⟨rfl, by have := hbw13.size; go_grown⟩
  · have hf : decide (n < m) = false := by simp; omega
    have AT := Lib.hid (again_more Ht.out g0 g2 g1 g3 h)
    have TF := Lib.hid (take_one (m := m) TN.out.2 g0 g2)
    have TA := Lib.hid (take_one (m := m) Ht.out g0 g2)
    clear h
    go_wp2_with fail
    have x1 := Box.new w4 3 #[.int .i64 (m)]
    have i1 : IsInts (w4.alloc (.cells #[.int .i64 (m)] 3)) (.slice (some ⟨w4.heap.size, 0, none⟩) 1 1) [m] := x1.isInts (xs := [m]) (n := 1) rfl (by omega)
    clear x1
    refine ((show Calls _ _ _ _ (GivesOk (take [m] a) _) from (take_told i1 (ha.mono (hbw4.trans ((below_one w4 _).mono hbw4.size)))).mono fun e w' h => h.ok (TM.out.1))).mono ?_
    rintro e w5 ⟨r5, rfl, hr5, hb5⟩
    have hbw5 := (hbw4.trans ((below_one w4 _).mono hbw4.size)).trans (hb5.mono (hbw4.trans ((below_one w4 _).mono hbw4.size)).size)
    have b_a5 := (b_a4.alloc _).below hb5
    clear hb5 b_a4 hbw4 c_a0 c_a1 c_a2 l_a i1
    obtain ⟨c_a0, c_a1, c_a2⟩ := b_a5.three
    have l_a := b_a5.lt
    obtain ⟨A5, ca5, D5, cd5, rfl, hs5, hd5⟩ := hr5.open_
    have o_ax := l_a
    go_wp2_with fail
    have x1 := Box.new (w5.alloc (.cells #[.bool (take [m] a).ch, .slice A5 (take [m] a).sh.length ca5, .slice D5 (take [m] a).da.length cd5] 24)) 3 #[.int .i64 (n)]
    simp only [World.size_alloc, World.size_setCell] at x1
    have i1 : IsInts ((w5.alloc (.cells #[.bool (take [m] a).ch, .slice A5 (take [m] a).sh.length ca5, .slice D5 (take [m] a).da.length cd5] 24)).alloc (.cells #[.int .i64 (n)] 3)) (.slice (some ⟨w5.heap.size + 1, 0, none⟩) 1 1) [n] := x1.isInts (xs := [n]) (n := 1) rfl (by omega)
    clear x1
    refine ((show Calls _ _ _ _ (GivesOk (take [n] (take [m] a)) _) from (take_told i1 (hr5.mono (below_two _ _ _))).mono fun e w' h => h.ok (TN.out.1))).mono ?_
    rintro e w6 ⟨r6, rfl, hr6, hb6⟩
    have hbw6 := (hbw5.trans ((below_two w5 _ _).mono hbw5.size)).trans (hb6.mono (hbw5.trans ((below_two w5 _ _).mono hbw5.size)).size)
    have b_a6 := ((b_a5.alloc _).alloc _).below hb6
    have b_xx6 := ((Box.new w5 24 #[.bool (take [m] a).ch, .slice A5 (take [m] a).sh.length ca5, .slice D5 (take [m] a).da.length cd5]).alloc _).below hb6
    have a_x6 := (hr5.mono (below_two _ _ _)).mono hb6
    clear hb6 b_a5 hr5 hbw5 c_a0 c_a1 c_a2 l_a i1
    obtain ⟨c_a0, c_a1, c_a2⟩ := b_a6.three
    have l_a := b_a6.lt
    obtain ⟨c_xx0, c_xx1, c_xx2⟩ := b_xx6.three
    have l_xx := b_xx6.lt
    obtain ⟨A6, ca6, D6, cd6, rfl, hs6, hd6⟩ := hr6.open_
    have fz6 := b_xx6.frozen
    have sc_a0_6 := cellS (q := ⟨w5.heap.size, 0, none⟩) (u := (.bool (take [n] (take [m] a)).ch)) c_a0 (by simp; omega)
    have sc_a1_6 := cellS (q := ⟨w5.heap.size, 1, none⟩) (u := (.slice A6 (take [n] (take [m] a)).sh.length ca6)) c_a1 (by simp; omega)
    have sc_a2_6 := cellS (q := ⟨w5.heap.size, 2, none⟩) (u := (.slice D6 (take [n] (take [m] a)).da.length cd6)) c_a2 (by simp; omega)
    have gb6 := grownBy_three w6 (w5.heap.size) (.bool (take [n] (take [m] a)).ch) (.slice A6 (take [n] (take [m] a)).sh.length ca6) (.slice D6 (take [n] (take [m] a)).da.length cd6)
    have n_a6 := b_a6.grown gb6 (by simp; omega)
    have n_xx6 := ((b_xx6.store 0 (.bool (take [n] (take [m] a)).ch)).store 1 (.slice A6 (take [n] (take [m] a)).sh.length ca6)).store 2 (.slice D6 (take [n] (take [m] a)).da.length cd6)
    simp only [List.setIfInBounds_toArray, List.set_cons_zero, List.set_cons_succ] at n_xx6
    have m_x26 := hr6.laid b_xx6 (.bool (take [n] (take [m] a)).ch) (.slice A6 (take [n] (take [m] a)).sh.length ca6) (.slice D6 (take [n] (take [m] a)).da.length cd6)
    have hbs6 : Below w.heap.size w (((w6.setCell ⟨w5.heap.size, 0, none⟩ (.bool (take [n] (take [m] a)).ch)).setCell ⟨w5.heap.size, 1, none⟩ (.slice A6 (take [n] (take [m] a)).sh.length ca6)).setCell ⟨w5.heap.size, 2, none⟩ (.slice D6 (take [n] (take [m] a)).da.length cd6)) := by have := hbw6.size; go_grown
    go_wp2_with fail
    have x1 := Box.new (((w6.setCell ⟨w5.heap.size, 0, none⟩ (.bool (take [n] (take [m] a)).ch)).setCell ⟨w5.heap.size, 1, none⟩ (.slice A6 (take [n] (take [m] a)).sh.length ca6)).setCell ⟨w5.heap.size, 2, none⟩ (.slice D6 (take [n] (take [m] a)).da.length cd6)) 3 #[.int .i64 (m)]
    simp only [World.size_alloc, World.size_setCell] at x1
    have i1 : IsInts ((((w6.setCell ⟨w5.heap.size, 0, none⟩ (.bool (take [n] (take [m] a)).ch)).setCell ⟨w5.heap.size, 1, none⟩ (.slice A6 (take [n] (take [m] a)).sh.length ca6)).setCell ⟨w5.heap.size, 2, none⟩ (.slice D6 (take [n] (take [m] a)).da.length cd6)).alloc (.cells #[.int .i64 (m)] 3)) (.slice (some ⟨w6.heap.size, 0, none⟩) 1 1) [m] := x1.isInts (xs := [m]) (n := 1) rfl (by omega)
    clear x1
    refine ((show Calls _ _ _ _ (GivesOk (take [m] (take [n] (take [m] a))) _) from (take_told i1 (m_x26.mono (below_one _ _))).mono fun e w' h => h.ok (TF.out.1))).mono ?_
    rintro e w7 ⟨r7, rfl, hr7, hb7⟩
    have hbw7 := (hbs6.trans ((below_one (((w6.setCell ⟨w5.heap.size, 0, none⟩ (.bool (take [n] (take [m] a)).ch)).setCell ⟨w5.heap.size, 1, none⟩ (.slice A6 (take [n] (take [m] a)).sh.length ca6)).setCell ⟨w5.heap.size, 2, none⟩ (.slice D6 (take [n] (take [m] a)).da.length cd6)) _).mono hbs6.size)).trans (hb7.mono (hbs6.trans ((below_one (((w6.setCell ⟨w5.heap.size, 0, none⟩ (.bool (take [n] (take [m] a)).ch)).setCell ⟨w5.heap.size, 1, none⟩ (.slice A6 (take [n] (take [m] a)).sh.length ca6)).setCell ⟨w5.heap.size, 2, none⟩ (.slice D6 (take [n] (take [m] a)).da.length cd6)) _).mono hbs6.size)).size)
    have b_a7 := (n_a6.alloc _).below hb7
    have b_xx7 := (n_xx6.alloc _).below hb7
    have a_x27 := (m_x26.mono (below_one _ _)).mono hb7
    clear hb7 n_a6 n_xx6 m_x26 c_a0 c_a1 c_a2 l_a c_xx0 c_xx1 c_xx2 l_xx sc_a0_6 sc_a1_6 sc_a2_6 fz6 i1
    obtain ⟨c_a0, c_a1, c_a2⟩ := b_a7.three
    have l_a := b_a7.lt
    obtain ⟨c_xx0, c_xx1, c_xx2⟩ := b_xx7.three
    have l_xx := b_xx7.lt
    obtain ⟨A7, ca7, D7, cd7, rfl, hs7, hd7⟩ := hr7.open_
    have fz7 := b_xx7.frozen
    have sc_a0_7 := cellS (q := ⟨w5.heap.size, 0, none⟩) (u := (.bool (take [m] (take [n] (take [m] a))).ch)) c_a0 (by simp; omega)
    have sc_a1_7 := cellS (q := ⟨w5.heap.size, 1, none⟩) (u := (.slice A7 (take [m] (take [n] (take [m] a))).sh.length ca7)) c_a1 (by simp; omega)
    have sc_a2_7 := cellS (q := ⟨w5.heap.size, 2, none⟩) (u := (.slice D7 (take [m] (take [n] (take [m] a))).da.length cd7)) c_a2 (by simp; omega)
    have gb7 := grownBy_three w7 (w5.heap.size) (.bool (take [m] (take [n] (take [m] a))).ch) (.slice A7 (take [m] (take [n] (take [m] a))).sh.length ca7) (.slice D7 (take [m] (take [n] (take [m] a))).da.length cd7)
    have n_a7 := b_a7.grown gb7 (by simp; omega)
    have n_xx7 := ((b_xx7.store 0 (.bool (take [m] (take [n] (take [m] a))).ch)).store 1 (.slice A7 (take [m] (take [n] (take [m] a))).sh.length ca7)).store 2 (.slice D7 (take [m] (take [n] (take [m] a))).da.length cd7)
    simp only [List.setIfInBounds_toArray, List.set_cons_zero, List.set_cons_succ] at n_xx7
    have m_x37 := hr7.laid b_xx7 (.bool (take [m] (take [n] (take [m] a))).ch) (.slice A7 (take [m] (take [n] (take [m] a))).sh.length ca7) (.slice D7 (take [m] (take [n] (take [m] a))).da.length cd7)
    have hbs7 : Below w.heap.size w (((w7.setCell ⟨w5.heap.size, 0, none⟩ (.bool (take [m] (take [n] (take [m] a))).ch)).setCell ⟨w5.heap.size, 1, none⟩ (.slice A7 (take [m] (take [n] (take [m] a))).sh.length ca7)).setCell ⟨w5.heap.size, 2, none⟩ (.slice D7 (take [m] (take [n] (take [m] a))).da.length cd7)) := by have := hbw7.size; go_grown
    go_wp2_with fail
    have x1 := Box.new (((w7.setCell ⟨w5.heap.size, 0, none⟩ (.bool (take [m] (take [n] (take [m] a))).ch)).setCell ⟨w5.heap.size, 1, none⟩ (.slice A7 (take [m] (take [n] (take [m] a))).sh.length ca7)).setCell ⟨w5.heap.size, 2, none⟩ (.slice D7 (take [m] (take [n] (take [m] a))).da.length cd7)) 3 #[.int .i64 (m)]
    simp only [World.size_alloc, World.size_setCell] at x1
    have i1 : IsInts ((((w7.setCell ⟨w5.heap.size, 0, none⟩ (.bool (take [m] (take [n] (take [m] a))).ch)).setCell ⟨w5.heap.size, 1, none⟩ (.slice A7 (take [m] (take [n] (take [m] a))).sh.length ca7)).setCell ⟨w5.heap.size, 2, none⟩ (.slice D7 (take [m] (take [n] (take [m] a))).da.length cd7)).alloc (.cells #[.int .i64 (m)] 3)) (.slice (some ⟨w7.heap.size, 0, none⟩) 1 1) [m] := x1.isInts (xs := [m]) (n := 1) rfl (by omega)
    clear x1
    refine ((show Calls _ _ _ _ (GivesOk (take [m] a) _) from (take_told i1 (ha.mono (hbs7.trans ((below_one (((w7.setCell ⟨w5.heap.size, 0, none⟩ (.bool (take [m] (take [n] (take [m] a))).ch)).setCell ⟨w5.heap.size, 1, none⟩ (.slice A7 (take [m] (take [n] (take [m] a))).sh.length ca7)).setCell ⟨w5.heap.size, 2, none⟩ (.slice D7 (take [m] (take [n] (take [m] a))).da.length cd7)) _).mono hbs7.size)))).mono fun e w' h => h.ok (TA.out.1))).mono ?_
    rintro e w8 ⟨r8, rfl, hr8, hb8⟩
    have hbw8 := (hbs7.trans ((below_one (((w7.setCell ⟨w5.heap.size, 0, none⟩ (.bool (take [m] (take [n] (take [m] a))).ch)).setCell ⟨w5.heap.size, 1, none⟩ (.slice A7 (take [m] (take [n] (take [m] a))).sh.length ca7)).setCell ⟨w5.heap.size, 2, none⟩ (.slice D7 (take [m] (take [n] (take [m] a))).da.length cd7)) _).mono hbs7.size)).trans (hb8.mono (hbs7.trans ((below_one (((w7.setCell ⟨w5.heap.size, 0, none⟩ (.bool (take [m] (take [n] (take [m] a))).ch)).setCell ⟨w5.heap.size, 1, none⟩ (.slice A7 (take [m] (take [n] (take [m] a))).sh.length ca7)).setCell ⟨w5.heap.size, 2, none⟩ (.slice D7 (take [m] (take [n] (take [m] a))).da.length cd7)) _).mono hbs7.size)).size)
    have b_a8 := (n_a7.alloc _).below hb8
    have b_xx8 := (n_xx7.alloc _).below hb8
    have a_x38 := (m_x37.mono (below_one _ _)).mono hb8
    clear hb8 n_a7 n_xx7 m_x37 c_a0 c_a1 c_a2 l_a c_xx0 c_xx1 c_xx2 l_xx sc_a0_7 sc_a1_7 sc_a2_7 fz7 i1
    obtain ⟨c_a0, c_a1, c_a2⟩ := b_a8.three
    have l_a := b_a8.lt
    obtain ⟨c_xx0, c_xx1, c_xx2⟩ := b_xx8.three
    have l_xx := b_xx8.lt
    obtain ⟨A8, ca8, D8, cd8, rfl, hs8, hd8⟩ := hr8.open_
    have o_ay := l_a
    have o_xy := l_xx
    go_wp2_with fail
    refine (alike_nil _ _ _ _ _ (a_x38.mono (below_one _ _)) (hr8.mono (below_one _ _))).mono ?_
    rintro e w9 ⟨r9, rfl, hr9, hb9⟩
    have e9 : r9 = true := hr9.2 (AT.out)
    subst e9
    clear hr9
    have hbw9 := (hbw8.trans ((below_one w8 _).mono hbw8.size)).trans (hb9.mono (hbw8.trans ((below_one w8 _).mono hbw8.size)).size)
    have b_a9 := (b_a8.alloc _).below hb9
    have b_xx9 := (b_xx8.alloc _).below hb9
    have b_xy9 := (Box.new w8 24 #[.bool (take [m] a).ch, .slice A8 (take [m] a).sh.length ca8, .slice D8 (take [m] a).da.length cd8]).below hb9
    have a_x39 := (a_x38.mono (below_one _ _)).mono hb9
    have a_y9 := (hr8.mono (below_one _ _)).mono hb9
    clear hb9 b_a8 b_xx8 a_x38 hr8 hbw8 c_a0 c_a1 c_a2 l_a c_xx0 c_xx1 c_xx2 l_xx
    obtain ⟨c_a0, c_a1, c_a2⟩ := b_a9.three
    have l_a := b_a9.lt
    obtain ⟨c_xx0, c_xx1, c_xx2⟩ := b_xx9.three
    have l_xx := b_xx9.lt
    obtain ⟨c_xy0, c_xy1, c_xy2⟩ := b_xy9.three
    have l_xy := b_xy9.lt
    go_wp2_with fail
    have x1 := Box.new w9 3 #[.int .i64 (m)]
    have i1 : IsInts (w9.alloc (.cells #[.int .i64 (m)] 3)) (.slice (some ⟨w9.heap.size, 0, none⟩) 1 1) [m] := x1.isInts (xs := [m]) (n := 1) rfl (by omega)
    clear x1
    refine ((show Calls _ _ _ _ (GivesOk (drop [m] a) _) from (drop_told i1 (ha.mono (hbw9.trans ((below_one w9 _).mono hbw9.size)))).mono fun e w' h => h.ok (DM.out.1))).mono ?_
    rintro e w10 ⟨r10, rfl, hr10, hb10⟩
    have hbw10 := (hbw9.trans ((below_one w9 _).mono hbw9.size)).trans (hb10.mono (hbw9.trans ((below_one w9 _).mono hbw9.size)).size)
    have b_a10 := (b_a9.alloc _).below hb10
    have b_xx10 := (b_xx9.alloc _).below hb10
    have b_xy10 := (b_xy9.alloc _).below hb10
    clear hb10 b_a9 b_xx9 b_xy9 hbw9 c_a0 c_a1 c_a2 l_a c_xx0 c_xx1 c_xx2 l_xx c_xy0 c_xy1 c_xy2 l_xy i1
    obtain ⟨c_a0, c_a1, c_a2⟩ := b_a10.three
    have l_a := b_a10.lt
    obtain ⟨c_xx0, c_xx1, c_xx2⟩ := b_xx10.three
    have l_xx := b_xx10.lt
    obtain ⟨c_xy0, c_xy1, c_xy2⟩ := b_xy10.three
    have l_xy := b_xy10.lt
    obtain ⟨A10, ca10, D10, cd10, rfl, hs10, hd10⟩ := hr10.open_
    have o_au := l_a
    have o_xu := l_xx
    have o_yu := l_xy
    go_wp2_with fail
    have x1 := Box.new (w10.alloc (.cells #[.bool (drop [m] a).ch, .slice A10 (drop [m] a).sh.length ca10, .slice D10 (drop [m] a).da.length cd10] 24)) 3 #[.int .i64 (n)]
    simp only [World.size_alloc, World.size_setCell] at x1
    have i1 : IsInts ((w10.alloc (.cells #[.bool (drop [m] a).ch, .slice A10 (drop [m] a).sh.length ca10, .slice D10 (drop [m] a).da.length cd10] 24)).alloc (.cells #[.int .i64 (n)] 3)) (.slice (some ⟨w10.heap.size + 1, 0, none⟩) 1 1) [n] := x1.isInts (xs := [n]) (n := 1) rfl (by omega)
    clear x1
    refine ((show Calls _ _ _ _ (GivesOk (drop [n] (drop [m] a)) _) from (drop_told i1 (hr10.mono (below_two _ _ _))).mono fun e w' h => h.ok (DN.out.1))).mono ?_
    rintro e w11 ⟨r11, rfl, hr11, hb11⟩
    have hbw11 := (hbw10.trans ((below_two w10 _ _).mono hbw10.size)).trans (hb11.mono (hbw10.trans ((below_two w10 _ _).mono hbw10.size)).size)
    have b_a11 := ((b_a10.alloc _).alloc _).below hb11
    have b_xx11 := ((b_xx10.alloc _).alloc _).below hb11
    have b_xy11 := ((b_xy10.alloc _).alloc _).below hb11
    have b_xu11 := ((Box.new w10 24 #[.bool (drop [m] a).ch, .slice A10 (drop [m] a).sh.length ca10, .slice D10 (drop [m] a).da.length cd10]).alloc _).below hb11
    have a_u11 := (hr10.mono (below_two _ _ _)).mono hb11
    clear hb11 b_a10 b_xx10 b_xy10 hr10 hbw10 c_a0 c_a1 c_a2 l_a c_xx0 c_xx1 c_xx2 l_xx c_xy0 c_xy1 c_xy2 l_xy i1
    obtain ⟨c_a0, c_a1, c_a2⟩ := b_a11.three
    have l_a := b_a11.lt
    obtain ⟨c_xx0, c_xx1, c_xx2⟩ := b_xx11.three
    have l_xx := b_xx11.lt
    obtain ⟨c_xy0, c_xy1, c_xy2⟩ := b_xy11.three
    have l_xy := b_xy11.lt
    obtain ⟨c_xu0, c_xu1, c_xu2⟩ := b_xu11.three
    have l_xu := b_xu11.lt
    obtain ⟨A11, ca11, D11, cd11, rfl, hs11, hd11⟩ := hr11.open_
    have fz11 := b_xu11.frozen
    have sc_a0_11 := cellS (q := ⟨w10.heap.size, 0, none⟩) (u := (.bool (drop [n] (drop [m] a)).ch)) c_a0 (by simp; omega)
    have sc_a1_11 := cellS (q := ⟨w10.heap.size, 1, none⟩) (u := (.slice A11 (drop [n] (drop [m] a)).sh.length ca11)) c_a1 (by simp; omega)
    have sc_a2_11 := cellS (q := ⟨w10.heap.size, 2, none⟩) (u := (.slice D11 (drop [n] (drop [m] a)).da.length cd11)) c_a2 (by simp; omega)
    have sc_xx0_11 := cellS (q := ⟨w10.heap.size, 0, none⟩) (u := (.bool (drop [n] (drop [m] a)).ch)) c_xx0 (by simp; omega)
    have sc_xx1_11 := cellS (q := ⟨w10.heap.size, 1, none⟩) (u := (.slice A11 (drop [n] (drop [m] a)).sh.length ca11)) c_xx1 (by simp; omega)
    have sc_xx2_11 := cellS (q := ⟨w10.heap.size, 2, none⟩) (u := (.slice D11 (drop [n] (drop [m] a)).da.length cd11)) c_xx2 (by simp; omega)
    have sc_xy0_11 := cellS (q := ⟨w10.heap.size, 0, none⟩) (u := (.bool (drop [n] (drop [m] a)).ch)) c_xy0 (by simp; omega)
    have sc_xy1_11 := cellS (q := ⟨w10.heap.size, 1, none⟩) (u := (.slice A11 (drop [n] (drop [m] a)).sh.length ca11)) c_xy1 (by simp; omega)
    have sc_xy2_11 := cellS (q := ⟨w10.heap.size, 2, none⟩) (u := (.slice D11 (drop [n] (drop [m] a)).da.length cd11)) c_xy2 (by simp; omega)
    have gb11 := grownBy_three w11 (w10.heap.size) (.bool (drop [n] (drop [m] a)).ch) (.slice A11 (drop [n] (drop [m] a)).sh.length ca11) (.slice D11 (drop [n] (drop [m] a)).da.length cd11)
    have n_a11 := b_a11.grown gb11 (by simp; omega)
    have n_xx11 := b_xx11.grown gb11 (by simp; omega)
    have n_xy11 := b_xy11.grown gb11 (by simp; omega)
    have n_xu11 := ((b_xu11.store 0 (.bool (drop [n] (drop [m] a)).ch)).store 1 (.slice A11 (drop [n] (drop [m] a)).sh.length ca11)).store 2 (.slice D11 (drop [n] (drop [m] a)).da.length cd11)
    simp only [List.setIfInBounds_toArray, List.set_cons_zero, List.set_cons_succ] at n_xu11
    have m_u211 := hr11.laid b_xu11 (.bool (drop [n] (drop [m] a)).ch) (.slice A11 (drop [n] (drop [m] a)).sh.length ca11) (.slice D11 (drop [n] (drop [m] a)).da.length cd11)
    have hbs11 : Below w.heap.size w (((w11.setCell ⟨w10.heap.size, 0, none⟩ (.bool (drop [n] (drop [m] a)).ch)).setCell ⟨w10.heap.size, 1, none⟩ (.slice A11 (drop [n] (drop [m] a)).sh.length ca11)).setCell ⟨w10.heap.size, 2, none⟩ (.slice D11 (drop [n] (drop [m] a)).da.length cd11)) := by have := hbw11.size; go_grown
    go_wp2_with fail
    have x1 := Box.new (((w11.setCell ⟨w10.heap.size, 0, none⟩ (.bool (drop [n] (drop [m] a)).ch)).setCell ⟨w10.heap.size, 1, none⟩ (.slice A11 (drop [n] (drop [m] a)).sh.length ca11)).setCell ⟨w10.heap.size, 2, none⟩ (.slice D11 (drop [n] (drop [m] a)).da.length cd11)) 3 #[.int .i64 (m + n)]
    simp only [World.size_alloc, World.size_setCell] at x1
    have i1 : IsInts ((((w11.setCell ⟨w10.heap.size, 0, none⟩ (.bool (drop [n] (drop [m] a)).ch)).setCell ⟨w10.heap.size, 1, none⟩ (.slice A11 (drop [n] (drop [m] a)).sh.length ca11)).setCell ⟨w10.heap.size, 2, none⟩ (.slice D11 (drop [n] (drop [m] a)).da.length cd11)).alloc (.cells #[.int .i64 (m + n)] 3)) (.slice (some ⟨w11.heap.size, 0, none⟩) 1 1) [m + n] := x1.isInts (xs := [m + n]) (n := 1) rfl (by omega)
    clear x1
    refine ((show Calls _ _ _ _ (GivesOk (drop [m + n] a) _) from (drop_told i1 (ha.mono (hbs11.trans ((below_one (((w11.setCell ⟨w10.heap.size, 0, none⟩ (.bool (drop [n] (drop [m] a)).ch)).setCell ⟨w10.heap.size, 1, none⟩ (.slice A11 (drop [n] (drop [m] a)).sh.length ca11)).setCell ⟨w10.heap.size, 2, none⟩ (.slice D11 (drop [n] (drop [m] a)).da.length cd11)) _).mono hbs11.size)))).mono fun e w' h => h.ok (DS.out.1))).mono ?_
    rintro e w12 ⟨r12, rfl, hr12, hb12⟩
    have hbw12 := (hbs11.trans ((below_one (((w11.setCell ⟨w10.heap.size, 0, none⟩ (.bool (drop [n] (drop [m] a)).ch)).setCell ⟨w10.heap.size, 1, none⟩ (.slice A11 (drop [n] (drop [m] a)).sh.length ca11)).setCell ⟨w10.heap.size, 2, none⟩ (.slice D11 (drop [n] (drop [m] a)).da.length cd11)) _).mono hbs11.size)).trans (hb12.mono (hbs11.trans ((below_one (((w11.setCell ⟨w10.heap.size, 0, none⟩ (.bool (drop [n] (drop [m] a)).ch)).setCell ⟨w10.heap.size, 1, none⟩ (.slice A11 (drop [n] (drop [m] a)).sh.length ca11)).setCell ⟨w10.heap.size, 2, none⟩ (.slice D11 (drop [n] (drop [m] a)).da.length cd11)) _).mono hbs11.size)).size)
    have b_a12 := (n_a11.alloc _).below hb12
    have b_xx12 := (n_xx11.alloc _).below hb12
    have b_xy12 := (n_xy11.alloc _).below hb12
    have b_xu12 := (n_xu11.alloc _).below hb12
    have a_u212 := (m_u211.mono (below_one _ _)).mono hb12
    clear hb12 n_a11 n_xx11 n_xy11 n_xu11 m_u211 c_a0 c_a1 c_a2 l_a c_xx0 c_xx1 c_xx2 l_xx c_xy0 c_xy1 c_xy2 l_xy c_xu0 c_xu1 c_xu2 l_xu sc_a0_11 sc_a1_11 sc_a2_11 sc_xx0_11 sc_xx1_11 sc_xx2_11 sc_xy0_11 sc_xy1_11 sc_xy2_11 fz11 i1
    obtain ⟨c_a0, c_a1, c_a2⟩ := b_a12.three
    have l_a := b_a12.lt
    obtain ⟨c_xx0, c_xx1, c_xx2⟩ := b_xx12.three
    have l_xx := b_xx12.lt
    obtain ⟨c_xy0, c_xy1, c_xy2⟩ := b_xy12.three
    have l_xy := b_xy12.lt
    obtain ⟨c_xu0, c_xu1, c_xu2⟩ := b_xu12.three
    have l_xu := b_xu12.lt
    obtain ⟨A12, ca12, D12, cd12, rfl, hs12, hd12⟩ := hr12.open_
    go_wp2_with fail
    refine (alike_nil _ _ _ _ _ (a_u212.mono (below_one _ _)) (hr12.mono (below_one _ _))).mono ?_
    rintro e w13 ⟨r13, rfl, hr13, hb13⟩
    have e13 : r13 = true := hr13.2 (AD.out)
    subst e13
    clear hr13
    have hbw13 := (hbw12.trans ((below_one w12 _).mono hbw12.size)).trans (hb13.mono (hbw12.trans ((below_one w12 _).mono hbw12.size)).size)
    have b_a13 := (b_a12.alloc _).below hb13
    have b_xx13 := (b_xx12.alloc _).below hb13
    have b_xy13 := (b_xy12.alloc _).below hb13
    have b_xu13 := (b_xu12.alloc _).below hb13
    have b_xv13 := (Box.new w12 24 #[.bool (drop [m + n] a).ch, .slice A12 (drop [m + n] a).sh.length ca12, .slice D12 (drop [m + n] a).da.length cd12]).below hb13
    have a_u213 := (a_u212.mono (below_one _ _)).mono hb13
    have a_v13 := (hr12.mono (below_one _ _)).mono hb13
    clear hb13 b_a12 b_xx12 b_xy12 b_xu12 a_u212 hr12 hbw12 c_a0 c_a1 c_a2 l_a c_xx0 c_xx1 c_xx2 l_xx c_xy0 c_xy1 c_xy2 l_xy c_xu0 c_xu1 c_xu2 l_xu
    obtain ⟨c_a0, c_a1, c_a2⟩ := b_a13.three
    have l_a := b_a13.lt
    obtain ⟨c_xx0, c_xx1, c_xx2⟩ := b_xx13.three
    have l_xx := b_xx13.lt
    obtain ⟨c_xy0, c_xy1, c_xy2⟩ := b_xy13.three
    have l_xy := b_xy13.lt
    obtain ⟨c_xu0, c_xu1, c_xu2⟩ := b_xu13.three
    have l_xu := b_xu13.lt
    obtain ⟨c_xv0, c_xv1, c_xv2⟩ := b_xv13.three
    have l_xv := b_xv13.lt
    go_wp2_with fail
    go_ret
    exact ⟨rfl, by have := hbw13.size; go_grown⟩

end Go.Proofs.Ytfemeaehpjajlaa
