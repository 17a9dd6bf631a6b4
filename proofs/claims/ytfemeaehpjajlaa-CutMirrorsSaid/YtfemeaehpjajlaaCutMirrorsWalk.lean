/- The walk of the law CutMirrors. Conditions: none. -/
import Derived.Test.YtfemeaehpjajlaaMirrorsPlain
import Derived.Test.YtfemeaehpjajlaaStore
import Derived.Test.YtfemeaehpjajlaaMore
import Derived.Test.YtfemeaehpjajlaaAlike
import Derived.Test.YtfemeaehpjajlaaMake
import Derived.Test.YtfemeaehpjajlaaBase
import Derived.Test.YtfemeaehpjajlaaHelp
import Derived.Test.YtfemeaehpjajlaaList
namespace Go.Proofs.Ytfemeaehpjajlaa
open Go Go.RowKit Go.Proofs.Ytfemeaehpjajlaa.P

set_option maxRecDepth 100000 in
set_option maxHeartbeats 4000000 in
theorem cutMirrors_walk (axis n : Int) (va vb : Value) (a b : Arr) (w : World) (ha : IsArr w va a) (hb : IsArr w vb b) :
    Calls Try.prog 17 #[.int .i64 axis, va, vb, .int .i64 n] w (Says w) := by
  obtain ⟨A, ca, D, da, rfl, -, -⟩ := ha.open_
  obtain ⟨A', cb, D', db, rfl, -, -⟩ := hb.open_
  go_enter Try.func17, Try.ntmps17
  go_wp2_with fail
  have x1 := (Box.new ((w.alloc (.cells #[.bool a.ch, .slice A a.sh.length ca, .slice D a.da.length da] 24)).alloc (.cells #[.bool b.ch, .slice A' b.sh.length cb, .slice D' b.da.length db] 24)) 3 #[.int .i64 1])
  simp only [World.size_alloc, World.size_setCell] at x1
  have i1 : IsInts (((w.alloc (.cells #[.bool a.ch, .slice A a.sh.length ca, .slice D a.da.length da] 24)).alloc (.cells #[.bool b.ch, .slice A' b.sh.length cb, .slice D' b.da.length db] 24)).alloc (.cells #[.int .i64 1] 3)) (.slice (some ⟨w.heap.size + 1 + 1, 0, none⟩) 1 1) [1] := x1.isInts (xs := [1]) (n := 1) rfl (by omega)
  clear x1
  refine (vec_any _ [1] _ i1).mono ?_
  rintro e w1 ⟨r1, rfl, hr1, hb1⟩
  have hbw1 := ((Below.refl w.heap.size w).trans ((below_three w _ _ _).mono (Below.refl w.heap.size w).size)).trans (hb1.mono ((Below.refl w.heap.size w).trans ((below_three w _ _ _).mono (Below.refl w.heap.size w).size)).size)
  have b_a1 := (((Box.new w 24 #[.bool a.ch, .slice A a.sh.length ca, .slice D a.da.length da]).alloc _).alloc _).below hb1
  have b_b1 := ((Box.new (w.alloc (.cells #[.bool a.ch, .slice A a.sh.length ca, .slice D a.da.length da] 24)) 24 #[.bool b.ch, .slice A' b.sh.length cb, .slice D' b.da.length db]).alloc _).below hb1
  simp only [World.size_alloc, World.size_setCell] at b_b1
  clear hb1 i1
  obtain ⟨c_a0, c_a1, c_a2⟩ := b_a1.three
  have l_a := b_a1.lt
  obtain ⟨c_b0, c_b1, c_b2⟩ := b_b1.three
  have l_b := b_b1.lt
  go_wp2_with fail
  have x1 := (Box.new w1 3 #[.int .i64 2, .int .i64 3])
  have i1 : IsInts (w1.alloc (.cells #[.int .i64 2, .int .i64 3] 3)) (.slice (some ⟨w1.heap.size, 0, none⟩) 2 2) [2, 3] := x1.isInts (xs := [2, 3]) (n := 2) rfl (by omega)
  clear x1
  refine (vec_any _ [2, 3] _ i1).mono ?_
  rintro e w2 ⟨r2, rfl, hr2, hb2⟩
  have hbw2 := (hbw1.trans ((below_one w1 _).mono hbw1.size)).trans (hb2.mono (hbw1.trans ((below_one w1 _).mono hbw1.size)).size)
  have b_a2 := (b_a1.alloc _).below hb2
  have b_b2 := (b_b1.alloc _).below hb2
  have a_v12 := (hr1.mono (below_one _ _)).mono hb2
  clear hb2 b_a1 b_b1 hr1 hbw1 c_a0 c_a1 c_a2 l_a c_b0 c_b1 c_b2 l_b i1
  obtain ⟨c_a0, c_a1, c_a2⟩ := b_a2.three
  have l_a := b_a2.lt
  obtain ⟨c_b0, c_b1, c_b2⟩ := b_b2.three
  have l_b := b_b2.lt
  go_wp2_with fail
  refine ((show Calls _ _ _ _ (GivesOk (glue (0 : Int).toNat ⟨false, [1], [1]⟩ ⟨false, [2], [2, 3]⟩) _) from (join_told (axis := 0) a_v12 hr2).mono fun e w' h => h.ok (by decide +kernel))).mono ?_
  rintro e w3 ⟨r3, rfl, hr3, hb3⟩
  have hbw3 := hbw2.trans (hb3.mono hbw2.size)
  have b_a3 := b_a2.below hb3
  have b_b3 := b_b2.below hb3
  clear hb3 b_a2 b_b2 hbw2 c_a0 c_a1 c_a2 l_a c_b0 c_b1 c_b2 l_b a_v12 hr2
  obtain ⟨c_a0, c_a1, c_a2⟩ := b_a3.three
  have l_a := b_a3.lt
  obtain ⟨c_b0, c_b1, c_b2⟩ := b_b3.three
  have l_b := b_b3.lt
  obtain ⟨A3, ca3, D3, cd3, rfl, hs3, hd3⟩ := hr3.open_
  go_wp2_with fail
  have bq := Box.new (w3.alloc (.cells #[.bool ((glue (0 : Int).toNat ⟨false, [1], [1]⟩ ⟨false, [2], [2, 3]⟩)).ch, .slice A3 ((glue (0 : Int).toNat ⟨false, [1], [1]⟩ ⟨false, [2], [2, 3]⟩)).sh.length ca3, .slice D3 ((glue (0 : Int).toNat ⟨false, [1], [1]⟩ ⟨false, [2], [2, 3]⟩)).da.length cd3] 24)) 3 #[.int .i64 1, .int .i64 2, .int .i64 3]
  rw [World.size_alloc] at bq
  refine (ints_any _ _ _ [1, 2, 3] _ (hd3.mono (below_two _ _ _)) (bq.isInts rfl (by simp))).mono ?_
  rintro e w4 ⟨r4, rfl, hr4, hb4⟩
  have e4 : r4 = true := hr4.2 (by first | decide | decide +kernel)
  subst e4
  clear hr4 hs3 hd3
  clear hr3
  have hbw4 := (hbw3.trans ((below_two w3 _ _).mono hbw3.size)).trans (hb4.mono (hbw3.trans ((below_two w3 _ _).mono hbw3.size)).size)
  have b_a4 := ((b_a3.alloc _).alloc _).below hb4
  have b_b4 := ((b_b3.alloc _).alloc _).below hb4
  clear hb4 b_a3 b_b3 hbw3 c_a0 c_a1 c_a2 l_a c_b0 c_b1 c_b2 l_b bq
  obtain ⟨c_a0, c_a1, c_a2⟩ := b_a4.three
  have l_a := b_a4.lt
  obtain ⟨c_b0, c_b1, c_b2⟩ := b_b4.three
  have l_b := b_b4.lt
  by_cases hE1 : joinErr axis a b = 0
  case neg =>
    have HE1 := Lib.hid hE1
    clear hE1
    go_wp2_with fail
    refine ((join_told (ha.mono hbw4) (hb.mono hbw4)).mono fun e w' h => h.bad HE1.out).mono ?_
    rintro e w5 ⟨rfl, hb5⟩
    have hbw5 := hbw4.trans (hb5.mono hbw4.size)
    have b_a5 := b_a4.below hb5
    have b_b5 := b_b4.below hb5
    clear hb5 b_a4 b_b4 hbw4 c_a0 c_a1 c_a2 l_a c_b0 c_b1 c_b2 l_b
    obtain ⟨c_a0, c_a1, c_a2⟩ := b_a5.three
    have l_a := b_a5.lt
    obtain ⟨c_b0, c_b1, c_b2⟩ := b_b5.three
    have l_b := b_b5.lt
    go_wp2_with fail
    go_ret
    exact ⟨rfl, by have := hbw5.size; go_grown⟩
  obtain ⟨t, k, l, hoa, rfl, hk, hob, hcb, hg⟩ := joinErr_zero hE1
  have HE1 := Lib.hid hE1
  clear hE1
  have HA := Lib.hid hoa
  have HB := Lib.hid hob
  have HK := Lib.hid hk
  have HG := Lib.hid (glue_ok hoa hob hk hcb hg)
  have HR := Lib.hid (mirrors_plain hoa hk hob hcb hg)
  have HSH := Lib.hid hoa.sh
  have hn6 := hoa.good.1
  have hla : a.sh.length ≤ 6 := by rw [HSH.out, length_ints]; exact hn6
  have hka : k < a.sh.length := by rw [HSH.out, length_ints]; exact hk
  obtain ⟨X, hX⟩ : ∃ X, X = t.getD k 0 := ⟨_, rfl⟩
  have HXE := Lib.hid hX
  have hX4 : X ≤ 4096 := by rw [hX, getD_lt hk]; exact hoa.good.2.1 _ (List.getElem_mem _)
  clear hX
  have HXK := Lib.hid (show a.sh[k]? = some (X : Int) by rw [HSH.out, HXE.out]; exact ints_get hk)
  have EA := Lib.hid (IsArr.shapeOf ha).elems
  have dk0 : decide ((k : Int) < 0) = false := by simp
  have dk1 : decide (a.sh.length ≤ k) = false := by simp; omega
  clear hoa hob hcb hg hk hn6
  go_wp2_with fail
  refine ((show Calls _ _ _ _ (GivesOk (glue k a b) _) from (join_toldN (ha.mono hbw4) (hb.mono hbw4)).mono fun e w' h => h.ok HE1.out)).mono ?_
  rintro e w5 ⟨r5, rfl, hr5, hb5⟩
  have hbw5 := hbw4.trans (hb5.mono hbw4.size)
  have b_a5 := b_a4.below hb5
  have b_b5 := b_b4.below hb5
  clear hb5 b_a4 b_b4 hbw4 c_a0 c_a1 c_a2 l_a c_b0 c_b1 c_b2 l_b
  obtain ⟨c_a0, c_a1, c_a2⟩ := b_a5.three
  have l_a := b_a5.lt
  obtain ⟨c_b0, c_b1, c_b2⟩ := b_b5.three
  have l_b := b_b5.lt
  obtain ⟨A5, ca5, D5, cd5, rfl, hs5, hd5⟩ := hr5.open_
  have o_a := l_a
  have o_b := l_b
  go_wp2_with fail
  refine ((show Calls _ _ _ _ (GivesOk (rev k (glue k a b)) _) from reverse_ok (hr5.mono (below_one _ _)) HG.out (by rw [List.length_set]; exact HK.out))).mono ?_
  rintro e w6 ⟨r6, rfl, hr6, hb6⟩
  have hbw6 := (hbw5.trans ((below_one w5 _).mono hbw5.size)).trans (hb6.mono (hbw5.trans ((below_one w5 _).mono hbw5.size)).size)
  have b_a6 := (b_a5.alloc _).below hb6
  have b_b6 := (b_b5.alloc _).below hb6
  have b_xx6 := (Box.new w5 24 #[.bool (glue k a b).ch, .slice A5 (glue k a b).sh.length ca5, .slice D5 (glue k a b).da.length cd5]).below hb6
  have a_x6 := (hr5.mono (below_one _ _)).mono hb6
  clear hb6 b_a5 b_b5 hr5 hbw5 c_a0 c_a1 c_a2 l_a c_b0 c_b1 c_b2 l_b
  obtain ⟨c_a0, c_a1, c_a2⟩ := b_a6.three
  have l_a := b_a6.lt
  obtain ⟨c_b0, c_b1, c_b2⟩ := b_b6.three
  have l_b := b_b6.lt
  obtain ⟨c_xx0, c_xx1, c_xx2⟩ := b_xx6.three
  have l_xx := b_xx6.lt
  obtain ⟨A6, ca6, D6, cd6, rfl, hs6, hd6⟩ := hr6.open_
  have fz6 := b_xx6.frozen
  have sc_a0_6 := cellS (q := ⟨w5.heap.size, 0, none⟩) (u := (.bool (rev k (glue k a b)).ch)) c_a0 (by simp; omega)
  have sc_a1_6 := cellS (q := ⟨w5.heap.size, 1, none⟩) (u := (.slice A6 (rev k (glue k a b)).sh.length ca6)) c_a1 (by simp; omega)
  have sc_a2_6 := cellS (q := ⟨w5.heap.size, 2, none⟩) (u := (.slice D6 (rev k (glue k a b)).da.length cd6)) c_a2 (by simp; omega)
  have sc_b0_6 := cellS (q := ⟨w5.heap.size, 0, none⟩) (u := (.bool (rev k (glue k a b)).ch)) c_b0 (by simp; omega)
  have sc_b1_6 := cellS (q := ⟨w5.heap.size, 1, none⟩) (u := (.slice A6 (rev k (glue k a b)).sh.length ca6)) c_b1 (by simp; omega)
  have sc_b2_6 := cellS (q := ⟨w5.heap.size, 2, none⟩) (u := (.slice D6 (rev k (glue k a b)).da.length cd6)) c_b2 (by simp; omega)
  have gb6 := grownBy_three w6 (w5.heap.size) (.bool (rev k (glue k a b)).ch) (.slice A6 (rev k (glue k a b)).sh.length ca6) (.slice D6 (rev k (glue k a b)).da.length cd6)
  have n_a6 := b_a6.grown gb6 (by simp; omega)
  have n_b6 := b_b6.grown gb6 (by simp; omega)
  have n_xx6 := ((b_xx6.store 0 (.bool (rev k (glue k a b)).ch)).store 1 (.slice A6 (rev k (glue k a b)).sh.length ca6)).store 2 (.slice D6 (rev k (glue k a b)).da.length cd6)
  simp only [List.setIfInBounds_toArray, List.set_cons_zero, List.set_cons_succ] at n_xx6
  have m_x26 := hr6.laid b_xx6 (.bool (rev k (glue k a b)).ch) (.slice A6 (rev k (glue k a b)).sh.length ca6) (.slice D6 (rev k (glue k a b)).da.length cd6)
  have hbs6 : Below w.heap.size w (((w6.setCell ⟨w5.heap.size, 0, none⟩ (.bool (rev k (glue k a b)).ch)).setCell ⟨w5.heap.size, 1, none⟩ (.slice A6 (rev k (glue k a b)).sh.length ca6)).setCell ⟨w5.heap.size, 2, none⟩ (.slice D6 (rev k (glue k a b)).da.length cd6)) := by have := hbw6.size; go_grown
  go_wp2_with fail
  refine ((show Calls _ _ _ _ (GivesOk (rev k a) _) from reverse_ok (ha.mono hbs6) HA.out HK.out)).mono ?_
  rintro e w7 ⟨r7, rfl, hr7, hb7⟩
  have hbw7 := hbs6.trans (hb7.mono hbs6.size)
  have b_a7 := n_a6.below hb7
  have b_b7 := n_b6.below hb7
  have b_xx7 := n_xx6.below hb7
  have a_x27 := m_x26.mono hb7
  clear hb7 n_a6 n_b6 n_xx6 m_x26 hbs6 c_a0 c_a1 c_a2 l_a c_b0 c_b1 c_b2 l_b c_xx0 c_xx1 c_xx2 l_xx a_x6 sc_a0_6 sc_a1_6 sc_a2_6 sc_b0_6 sc_b1_6 sc_b2_6 fz6
  obtain ⟨c_a0, c_a1, c_a2⟩ := b_a7.three
  have l_a := b_a7.lt
  obtain ⟨c_b0, c_b1, c_b2⟩ := b_b7.three
  have l_b := b_b7.lt
  obtain ⟨c_xx0, c_xx1, c_xx2⟩ := b_xx7.three
  have l_xx := b_xx7.lt
  obtain ⟨A7, ca7, D7, cd7, rfl, hs7, hd7⟩ := hr7.open_
  go_wp2_with fail
  refine ((show Calls _ _ _ _ (GivesOk (rev k b) _) from reverse_ok (hb.mono (hbw7.trans ((below_one w7 _).mono hbw7.size))) HB.out (by rw [List.length_set]; exact HK.out))).mono ?_
  rintro e w8 ⟨r8, rfl, hr8, hb8⟩
  have hbw8 := (hbw7.trans ((below_one w7 _).mono hbw7.size)).trans (hb8.mono (hbw7.trans ((below_one w7 _).mono hbw7.size)).size)
  have b_a8 := (b_a7.alloc _).below hb8
  have b_b8 := (b_b7.alloc _).below hb8
  have b_xx8 := (b_xx7.alloc _).below hb8
  have b_xp8 := (Box.new w7 24 #[.bool (rev k a).ch, .slice A7 (rev k a).sh.length ca7, .slice D7 (rev k a).da.length cd7]).below hb8
  have a_x28 := (a_x27.mono (below_one _ _)).mono hb8
  have a_p8 := (hr7.mono (below_one _ _)).mono hb8
  clear hb8 b_a7 b_b7 b_xx7 a_x27 hr7 hbw7 c_a0 c_a1 c_a2 l_a c_b0 c_b1 c_b2 l_b c_xx0 c_xx1 c_xx2 l_xx
  obtain ⟨c_a0, c_a1, c_a2⟩ := b_a8.three
  have l_a := b_a8.lt
  obtain ⟨c_b0, c_b1, c_b2⟩ := b_b8.three
  have l_b := b_b8.lt
  obtain ⟨c_xx0, c_xx1, c_xx2⟩ := b_xx8.three
  have l_xx := b_xx8.lt
  obtain ⟨c_xp0, c_xp1, c_xp2⟩ := b_xp8.three
  have l_xp := b_xp8.lt
  obtain ⟨A8, ca8, D8, cd8, rfl, hs8, hd8⟩ := hr8.open_
  go_wp2_with fail
  refine ((show Calls _ _ _ _ (GivesOk (glue k (rev k b) (rev k a)) _) from (join_toldN (hr8.mono (below_one _ _)) (a_p8.mono (below_one _ _))).mono fun e w' h => h.ok HR.out.1)).mono ?_
  rintro e w9 ⟨r9, rfl, hr9, hb9⟩
  have hbw9 := (hbw8.trans ((below_one w8 _).mono hbw8.size)).trans (hb9.mono (hbw8.trans ((below_one w8 _).mono hbw8.size)).size)
  have b_a9 := (b_a8.alloc _).below hb9
  have b_b9 := (b_b8.alloc _).below hb9
  have b_xx9 := (b_xx8.alloc _).below hb9
  have b_xp9 := (b_xp8.alloc _).below hb9
  have b_xq9 := (Box.new w8 24 #[.bool (rev k b).ch, .slice A8 (rev k b).sh.length ca8, .slice D8 (rev k b).da.length cd8]).below hb9
  have a_x29 := (a_x28.mono (below_one _ _)).mono hb9
  have a_p9 := (a_p8.mono (below_one _ _)).mono hb9
  have a_q9 := (hr8.mono (below_one _ _)).mono hb9
  clear hb9 b_a8 b_b8 b_xx8 b_xp8 a_x28 a_p8 hr8 hbw8 c_a0 c_a1 c_a2 l_a c_b0 c_b1 c_b2 l_b c_xx0 c_xx1 c_xx2 l_xx c_xp0 c_xp1 c_xp2 l_xp
  obtain ⟨c_a0, c_a1, c_a2⟩ := b_a9.three
  have l_a := b_a9.lt
  obtain ⟨c_b0, c_b1, c_b2⟩ := b_b9.three
  have l_b := b_b9.lt
  obtain ⟨c_xx0, c_xx1, c_xx2⟩ := b_xx9.three
  have l_xx := b_xx9.lt
  obtain ⟨c_xp0, c_xp1, c_xp2⟩ := b_xp9.three
  have l_xp := b_xp9.lt
  obtain ⟨c_xq0, c_xq1, c_xq2⟩ := b_xq9.three
  have l_xq := b_xq9.lt
  obtain ⟨A9, ca9, D9, cd9, rfl, hs9, hd9⟩ := hr9.open_
  go_wp2_with fail
  refine (alike_nil _ _ _ _ _ (a_x29.mono (below_one _ _)) (hr9.mono (below_one _ _))).mono ?_
  rintro e w10 ⟨r10, rfl, hr10, hb10⟩
  have e10 : r10 = true := hr10.2 (HR.out.2.1)
  subst e10
  clear hr10
  have hbw10 := (hbw9.trans ((below_one w9 _).mono hbw9.size)).trans (hb10.mono (hbw9.trans ((below_one w9 _).mono hbw9.size)).size)
  have b_a10 := (b_a9.alloc _).below hb10
  have b_b10 := (b_b9.alloc _).below hb10
  have b_xx10 := (b_xx9.alloc _).below hb10
  have b_xp10 := (b_xp9.alloc _).below hb10
  have b_xq10 := (b_xq9.alloc _).below hb10
  have b_xy10 := (Box.new w9 24 #[.bool (glue k (rev k b) (rev k a)).ch, .slice A9 (glue k (rev k b) (rev k a)).sh.length ca9, .slice D9 (glue k (rev k b) (rev k a)).da.length cd9]).below hb10
  have a_x210 := (a_x29.mono (below_one _ _)).mono hb10
  have a_p10 := (a_p9.mono (below_one _ _)).mono hb10
  have a_q10 := (a_q9.mono (below_one _ _)).mono hb10
  have a_y10 := (hr9.mono (below_one _ _)).mono hb10
  clear hb10 b_a9 b_b9 b_xx9 b_xp9 b_xq9 a_x29 a_p9 a_q9 hr9 hbw9 c_a0 c_a1 c_a2 l_a c_b0 c_b1 c_b2 l_b c_xx0 c_xx1 c_xx2 l_xx c_xp0 c_xp1 c_xp2 l_xp c_xq0 c_xq1 c_xq2 l_xq
  obtain ⟨c_a0, c_a1, c_a2⟩ := b_a10.three
  have l_a := b_a10.lt
  obtain ⟨c_b0, c_b1, c_b2⟩ := b_b10.three
  have l_b := b_b10.lt
  obtain ⟨c_xx0, c_xx1, c_xx2⟩ := b_xx10.three
  have l_xx := b_xx10.lt
  obtain ⟨c_xp0, c_xp1, c_xp2⟩ := b_xp10.three
  have l_xp := b_xp10.lt
  obtain ⟨c_xq0, c_xq1, c_xq2⟩ := b_xq10.three
  have l_xq := b_xq10.lt
  obtain ⟨c_xy0, c_xy1, c_xy2⟩ := b_xy10.three
  have l_xy := b_xy10.lt
  rcases Int.lt_or_le n 0 with g2 | g2
  · have d2 : decide (n < 0) = true := by simpa using g2
    go_wp2_with fail
    go_ret
    exact ⟨rfl, by have := hbw10.size; go_grown⟩
  obtain ⟨m, rfl⟩ := Int.eq_ofNat_of_zero_le g2
  have d2 : decide ((m : Int) < 0) = false := by simp
  clear g2
  obtain ⟨ax, x, rfl, hx, hax, hcx10⟩ := Elems.later EA.out hbw10 hka
  rw [HXK.out] at hx
  injection hx with hx
  subst hx
  rcases Nat.lt_or_ge X m with g3 | g3
  · have d3 : decide (X < m) = true := by simpa using g3
    go_wp2_with fail
    go_ret
    exact ⟨rfl, by have := hbw10.size; go_grown⟩
  have d3 : decide (X < m) = false := by simp; omega
  have PL := Lib.hid (HR.out.2.2 m (by rw [← HXE.out]; exact g3))
  have old_p := a_p10
  go_wp2_with fail
  refine (joined_own _ a.sh _ (IsArr.shapeOf (ha.mono hbw10)) (by omega) (by omega)).mono ?_
  rintro e w11 ⟨g11, gc11, rfl, hg11, hm11, hb11⟩
  have lo11_a := l_a
  have lo11_b := l_b
  have lo11_xx := l_xx
  have lo11_xp := l_xp
  have lo11_xq := l_xq
  have lo11_xy := l_xy
  have hlo11 := hbw10.size
  have gpre := hg11
  have gk11 := hm11.cell (HXK.out)
  have gf11 := hm11.frozen (k)
  have gl11 := hm11.lt
  have hm11s := hm11.store (k) ((m : Int))
  rw [show a.sh.set k (m : Int) = (ints t).set k (m : Int) by rw [HSH.out]] at hm11s
  have hb11s := hb11.setCell (p := ⟨g11, k, none⟩) (by simp; omega) (.int .i64 ((m : Int)))
  have hbw11 := hbw10.trans (hb11s.mono hbw10.size)
  have b_a11 := b_a10.below hb11s
  have b_b11 := b_b10.below hb11s
  have b_xx11 := b_xx10.below hb11s
  have b_xp11 := b_xp10.below hb11s
  have b_xq11 := b_xq10.below hb11s
  have b_xy11 := b_xy10.below hb11s
  have a_p11 := a_p10.mono hb11s
  clear hb11s b_a10 b_b10 b_xx10 b_xp10 b_xq10 b_xy10 a_p10 hbw10 c_a0 c_a1 c_a2 l_a c_b0 c_b1 c_b2 l_b c_xx0 c_xx1 c_xx2 l_xx c_xp0 c_xp1 c_xp2 l_xp c_xq0 c_xq1 c_xq2 l_xq c_xy0 c_xy1 c_xy2 l_xy hcx10 a_x210 a_q10 a_y10
  obtain ⟨c_a0, c_a1, c_a2⟩ := b_a11.three
  have l_a := b_a11.lt
  obtain ⟨c_b0, c_b1, c_b2⟩ := b_b11.three
  have l_b := b_b11.lt
  obtain ⟨c_xx0, c_xx1, c_xx2⟩ := b_xx11.three
  have l_xx := b_xx11.lt
  obtain ⟨c_xp0, c_xp1, c_xp2⟩ := b_xp11.three
  have l_xp := b_xp11.lt
  obtain ⟨c_xq0, c_xq1, c_xq2⟩ := b_xq11.three
  have l_xq := b_xq11.lt
  obtain ⟨c_xy0, c_xy1, c_xy2⟩ := b_xy11.three
  have l_xy := b_xy11.lt
  simp only [World.size_setCell] at l_a l_b l_xx l_xp l_xq l_xy
  clear hm11 hb11
  go_wp2_with fail
  refine ((show Calls _ _ _ _ (GivesOk (take ((ints t).set k (m : Int)) a) _) from (take_told (Mine.isInts hm11s) (ha.mono hbw11)).mono fun e w' h => h.ok PL.out.1)).mono ?_
  rintro e w12 ⟨r12, rfl, hr12, hb12⟩
  have hbw12 := hbw11.trans (hb12.mono hbw11.size)
  have b_a12 := b_a11.below hb12
  have b_b12 := b_b11.below hb12
  have b_xx12 := b_xx11.below hb12
  have b_xp12 := b_xp11.below hb12
  have b_xq12 := b_xq11.below hb12
  have b_xy12 := b_xy11.below hb12
  have a_p12 := a_p11.mono hb12
  have a_head12 := hm11s.mono hb12
  clear hb12 b_a11 b_b11 b_xx11 b_xp11 b_xq11 b_xy11 a_p11 hm11s hbw11 c_a0 c_a1 c_a2 l_a c_b0 c_b1 c_b2 l_b c_xx0 c_xx1 c_xx2 l_xx c_xp0 c_xp1 c_xp2 l_xp c_xq0 c_xq1 c_xq2 l_xq c_xy0 c_xy1 c_xy2 l_xy gk11 gf11 gl11
  obtain ⟨c_a0, c_a1, c_a2⟩ := b_a12.three
  have l_a := b_a12.lt
  obtain ⟨c_b0, c_b1, c_b2⟩ := b_b12.three
  have l_b := b_b12.lt
  obtain ⟨c_xx0, c_xx1, c_xx2⟩ := b_xx12.three
  have l_xx := b_xx12.lt
  obtain ⟨c_xp0, c_xp1, c_xp2⟩ := b_xp12.three
  have l_xp := b_xp12.lt
  obtain ⟨c_xq0, c_xq1, c_xq2⟩ := b_xq12.three
  have l_xq := b_xq12.lt
  obtain ⟨c_xy0, c_xy1, c_xy2⟩ := b_xy12.three
  have l_xy := b_xy12.lt
  obtain ⟨A12, ca12, D12, cd12, rfl, hs12, hd12⟩ := hr12.open_
  have og_u := a_head12.lt
  have ou_a := l_a
  have ou_b := l_b
  have ou_xx := l_xx
  have ou_xp := l_xp
  have ou_xq := l_xq
  have ou_xy := l_xy
  go_wp2_with fail
  have gb13_head := ((a_head12.mono (below_one w12 (.cells #[.bool (take ((ints t).set k (m : Int)) a).ch, .slice A12 (take ((ints t).set k (m : Int)) a).sh.length ca12, .slice D12 (take ((ints t).set k (m : Int)) a).da.length cd12] 24)))).lt
  refine ((show Calls _ _ _ _ (GivesOkN (rev k (take ((ints t).set k (m : Int)) a)) _) from reverse_new (hr12.mono (below_one _ _)) PL.out.2.1 (by rw [List.length_set]; exact HK.out))).mono ?_
  rintro e w13 ⟨r13, rfl, hr13, hb13, nv13⟩
  have hbw13 := (hbw12.trans ((below_one w12 _).mono hbw12.size)).trans (hb13.mono (hbw12.trans ((below_one w12 _).mono hbw12.size)).size)
  have b_a13 := (b_a12.alloc _).below hb13
  have b_b13 := (b_b12.alloc _).below hb13
  have b_xx13 := (b_xx12.alloc _).below hb13
  have b_xp13 := (b_xp12.alloc _).below hb13
  have b_xq13 := (b_xq12.alloc _).below hb13
  have b_xy13 := (b_xy12.alloc _).below hb13
  have b_xu13 := (Box.new w12 24 #[.bool (take ((ints t).set k (m : Int)) a).ch, .slice A12 (take ((ints t).set k (m : Int)) a).sh.length ca12, .slice D12 (take ((ints t).set k (m : Int)) a).da.length cd12]).below hb13
  have a_p13 := (a_p12.mono (below_one _ _)).mono hb13
  have a_head13 := (a_head12.mono (below_one _ _)).mono hb13
  have a_u13 := (hr12.mono (below_one _ _)).mono hb13
  clear hb13 b_a12 b_b12 b_xx12 b_xp12 b_xq12 b_xy12 a_p12 a_head12 hr12 hbw12 c_a0 c_a1 c_a2 l_a c_b0 c_b1 c_b2 l_b c_xx0 c_xx1 c_xx2 l_xx c_xp0 c_xp1 c_xp2 l_xp c_xq0 c_xq1 c_xq2 l_xq c_xy0 c_xy1 c_xy2 l_xy
  obtain ⟨c_a0, c_a1, c_a2⟩ := b_a13.three
  have l_a := b_a13.lt
  obtain ⟨c_b0, c_b1, c_b2⟩ := b_b13.three
  have l_b := b_b13.lt
  obtain ⟨c_xx0, c_xx1, c_xx2⟩ := b_xx13.three
  have l_xx := b_xx13.lt
  obtain ⟨c_xp0, c_xp1, c_xp2⟩ := b_xp13.three
  have l_xp := b_xp13.lt
  obtain ⟨c_xq0, c_xq1, c_xq2⟩ := b_xq13.three
  have l_xq := b_xq13.lt
  obtain ⟨c_xy0, c_xy1, c_xy2⟩ := b_xy13.three
  have l_xy := b_xy13.lt
  obtain ⟨c_xu0, c_xu1, c_xu2⟩ := b_xu13.three
  have l_xu := b_xu13.lt
  obtain ⟨A13, ca13, D13, cd13, rfl, hs13, hd13⟩ := hr13.open_
  have og13_head := (a_head13).lt
  have fz13 := b_xu13.frozen
  have sc_a0_13 := cellS (q := ⟨w12.heap.size, 0, none⟩) (u := (.bool (rev k (take ((ints t).set k (m : Int)) a)).ch)) c_a0 (by simp; omega)
  have sc_a1_13 := cellS (q := ⟨w12.heap.size, 1, none⟩) (u := (.slice A13 (rev k (take ((ints t).set k (m : Int)) a)).sh.length ca13)) c_a1 (by simp; omega)
  have sc_a2_13 := cellS (q := ⟨w12.heap.size, 2, none⟩) (u := (.slice D13 (rev k (take ((ints t).set k (m : Int)) a)).da.length cd13)) c_a2 (by simp; omega)
  have sc_b0_13 := cellS (q := ⟨w12.heap.size, 0, none⟩) (u := (.bool (rev k (take ((ints t).set k (m : Int)) a)).ch)) c_b0 (by simp; omega)
  have sc_b1_13 := cellS (q := ⟨w12.heap.size, 1, none⟩) (u := (.slice A13 (rev k (take ((ints t).set k (m : Int)) a)).sh.length ca13)) c_b1 (by simp; omega)
  have sc_b2_13 := cellS (q := ⟨w12.heap.size, 2, none⟩) (u := (.slice D13 (rev k (take ((ints t).set k (m : Int)) a)).da.length cd13)) c_b2 (by simp; omega)
  have sc_xx0_13 := cellS (q := ⟨w12.heap.size, 0, none⟩) (u := (.bool (rev k (take ((ints t).set k (m : Int)) a)).ch)) c_xx0 (by simp; omega)
  have sc_xx1_13 := cellS (q := ⟨w12.heap.size, 1, none⟩) (u := (.slice A13 (rev k (take ((ints t).set k (m : Int)) a)).sh.length ca13)) c_xx1 (by simp; omega)
  have sc_xx2_13 := cellS (q := ⟨w12.heap.size, 2, none⟩) (u := (.slice D13 (rev k (take ((ints t).set k (m : Int)) a)).da.length cd13)) c_xx2 (by simp; omega)
  have sc_xp0_13 := cellS (q := ⟨w12.heap.size, 0, none⟩) (u := (.bool (rev k (take ((ints t).set k (m : Int)) a)).ch)) c_xp0 (by simp; omega)
  have sc_xp1_13 := cellS (q := ⟨w12.heap.size, 1, none⟩) (u := (.slice A13 (rev k (take ((ints t).set k (m : Int)) a)).sh.length ca13)) c_xp1 (by simp; omega)
  have sc_xp2_13 := cellS (q := ⟨w12.heap.size, 2, none⟩) (u := (.slice D13 (rev k (take ((ints t).set k (m : Int)) a)).da.length cd13)) c_xp2 (by simp; omega)
  have sc_xq0_13 := cellS (q := ⟨w12.heap.size, 0, none⟩) (u := (.bool (rev k (take ((ints t).set k (m : Int)) a)).ch)) c_xq0 (by simp; omega)
  have sc_xq1_13 := cellS (q := ⟨w12.heap.size, 1, none⟩) (u := (.slice A13 (rev k (take ((ints t).set k (m : Int)) a)).sh.length ca13)) c_xq1 (by simp; omega)
  have sc_xq2_13 := cellS (q := ⟨w12.heap.size, 2, none⟩) (u := (.slice D13 (rev k (take ((ints t).set k (m : Int)) a)).da.length cd13)) c_xq2 (by simp; omega)
  have sc_xy0_13 := cellS (q := ⟨w12.heap.size, 0, none⟩) (u := (.bool (rev k (take ((ints t).set k (m : Int)) a)).ch)) c_xy0 (by simp; omega)
  have sc_xy1_13 := cellS (q := ⟨w12.heap.size, 1, none⟩) (u := (.slice A13 (rev k (take ((ints t).set k (m : Int)) a)).sh.length ca13)) c_xy1 (by simp; omega)
  have sc_xy2_13 := cellS (q := ⟨w12.heap.size, 2, none⟩) (u := (.slice D13 (rev k (take ((ints t).set k (m : Int)) a)).da.length cd13)) c_xy2 (by simp; omega)
  have gb13 := grownBy_three w13 (w12.heap.size) (.bool (rev k (take ((ints t).set k (m : Int)) a)).ch) (.slice A13 (rev k (take ((ints t).set k (m : Int)) a)).sh.length ca13) (.slice D13 (rev k (take ((ints t).set k (m : Int)) a)).da.length cd13)
  have n_a13 := b_a13.grown gb13 (by simp; omega)
  have n_b13 := b_b13.grown gb13 (by simp; omega)
  have n_xx13 := b_xx13.grown gb13 (by simp; omega)
  have n_xp13 := b_xp13.grown gb13 (by simp; omega)
  have n_xq13 := b_xq13.grown gb13 (by simp; omega)
  have n_xy13 := b_xy13.grown gb13 (by simp; omega)
  have n_xu13 := ((b_xu13.store 0 (.bool (rev k (take ((ints t).set k (m : Int)) a)).ch)).store 1 (.slice A13 (rev k (take ((ints t).set k (m : Int)) a)).sh.length ca13)).store 2 (.slice D13 (rev k (take ((ints t).set k (m : Int)) a)).da.length cd13)
  simp only [List.setIfInBounds_toArray, List.set_cons_zero, List.set_cons_succ] at n_xu13
  have m_p13 := a_p13.laid b_xu13 (.bool (rev k (take ((ints t).set k (m : Int)) a)).ch) (.slice A13 (rev k (take ((ints t).set k (m : Int)) a)).sh.length ca13) (.slice D13 (rev k (take ((ints t).set k (m : Int)) a)).da.length cd13)
  have m_head13 := ((a_head13.far (p := ⟨w12.heap.size, 0, none⟩) (by simp; omega) (.bool (rev k (take ((ints t).set k (m : Int)) a)).ch)).far (p := ⟨w12.heap.size, 1, none⟩) (by simp; omega) (.slice A13 (rev k (take ((ints t).set k (m : Int)) a)).sh.length ca13)).far (p := ⟨w12.heap.size, 2, none⟩) (by simp; omega) (.slice D13 (rev k (take ((ints t).set k (m : Int)) a)).da.length cd13)
  have m_u213 := hr13.laid b_xu13 (.bool (rev k (take ((ints t).set k (m : Int)) a)).ch) (.slice A13 (rev k (take ((ints t).set k (m : Int)) a)).sh.length ca13) (.slice D13 (rev k (take ((ints t).set k (m : Int)) a)).da.length cd13)
  have hbs13 : Below w.heap.size w (((w13.setCell ⟨w12.heap.size, 0, none⟩ (.bool (rev k (take ((ints t).set k (m : Int)) a)).ch)).setCell ⟨w12.heap.size, 1, none⟩ (.slice A13 (rev k (take ((ints t).set k (m : Int)) a)).sh.length ca13)).setCell ⟨w12.heap.size, 2, none⟩ (.slice D13 (rev k (take ((ints t).set k (m : Int)) a)).da.length cd13)) := by have := hbw13.size; go_grown
  have gku1 := m_head13.cell (show ((ints t).set k (m : Int))[k]? = some (m : Int) from List.getElem?_set_self (by rw [length_ints]; exact HK.out))
  have gfu1 := m_head13.frozen (k)
  have glu1 := m_head13.lt
  have m_u1 := m_head13.store (k) (-(m : Int))
  rw [List.set_set] at m_u1
  have au1_p := IsArr.away_old (g := g11) (k := k) old_p m_p13 hg11 (.int .i64 (-(m : Int)))
  have au1_u2 := IsArr.away (g := g11) (k := k) m_u213 nv13 gb13_head (.int .i64 (-(m : Int)))
  have nu1_a := n_a13.far (p := ⟨g11, k, none⟩) (by simp; omega) (.int .i64 (-(m : Int)))
  obtain ⟨du1_a0, du1_a1, du1_a2⟩ := nu1_a.three
  have nu1_b := n_b13.far (p := ⟨g11, k, none⟩) (by simp; omega) (.int .i64 (-(m : Int)))
  obtain ⟨du1_b0, du1_b1, du1_b2⟩ := nu1_b.three
  have nu1_xx := n_xx13.far (p := ⟨g11, k, none⟩) (by simp; omega) (.int .i64 (-(m : Int)))
  obtain ⟨du1_xx0, du1_xx1, du1_xx2⟩ := nu1_xx.three
  have nu1_xp := n_xp13.far (p := ⟨g11, k, none⟩) (by simp; omega) (.int .i64 (-(m : Int)))
  obtain ⟨du1_xp0, du1_xp1, du1_xp2⟩ := nu1_xp.three
  have nu1_xq := n_xq13.far (p := ⟨g11, k, none⟩) (by simp; omega) (.int .i64 (-(m : Int)))
  obtain ⟨du1_xq0, du1_xq1, du1_xq2⟩ := nu1_xq.three
  have nu1_xy := n_xy13.far (p := ⟨g11, k, none⟩) (by simp; omega) (.int .i64 (-(m : Int)))
  obtain ⟨du1_xy0, du1_xy1, du1_xy2⟩ := nu1_xy.three
  have nu1_xu := n_xu13.far (p := ⟨g11, k, none⟩) (by simp; omega) (.int .i64 (-(m : Int)))
  obtain ⟨du1_xu0, du1_xu1, du1_xu2⟩ := nu1_xu.three
  have hbsu1 := hbs13.setCell (p := ⟨g11, k, none⟩) (by simp; omega) (.int .i64 (-(m : Int)))
  clear m_head13 m_p13 m_u213 n_a13 n_b13 n_xx13 n_xp13 n_xq13 n_xy13 n_xu13 hbs13
  go_wp2_with fail
  refine ((show Calls _ _ _ _ (GivesOk (take ((ints t).set k (-(m : Int))) (rev k a)) _) from (take_told (Mine.isInts m_u1) au1_p).mono fun e w' h => h.ok PL.out.2.2.1)).mono ?_
  rintro e w14 ⟨r14, rfl, hr14, hb14⟩
  have hbw14 := hbsu1.trans (hb14.mono hbsu1.size)
  have b_a14 := nu1_a.below hb14
  have b_b14 := nu1_b.below hb14
  have b_xx14 := nu1_xx.below hb14
  have b_xp14 := nu1_xp.below hb14
  have b_xq14 := nu1_xq.below hb14
  have b_xy14 := nu1_xy.below hb14
  have b_xu14 := nu1_xu.below hb14
  have a_head14 := m_u1.mono hb14
  have a_p14 := au1_p.mono hb14
  have a_u214 := au1_u2.mono hb14
  clear hb14 nu1_a nu1_b nu1_xx nu1_xp nu1_xq nu1_xy nu1_xu m_u1 au1_p au1_u2 hbsu1 c_a0 c_a1 c_a2 l_a c_b0 c_b1 c_b2 l_b c_xx0 c_xx1 c_xx2 l_xx c_xp0 c_xp1 c_xp2 l_xp c_xq0 c_xq1 c_xq2 l_xq c_xy0 c_xy1 c_xy2 l_xy c_xu0 c_xu1 c_xu2 l_xu a_u13 sc_a0_13 sc_a1_13 sc_a2_13 sc_b0_13 sc_b1_13 sc_b2_13 sc_xx0_13 sc_xx1_13 sc_xx2_13 sc_xp0_13 sc_xp1_13 sc_xp2_13 sc_xq0_13 sc_xq1_13 sc_xq2_13 sc_xy0_13 sc_xy1_13 sc_xy2_13 fz13 du1_a0 du1_a1 du1_a2 du1_b0 du1_b1 du1_b2 du1_xx0 du1_xx1 du1_xx2 du1_xp0 du1_xp1 du1_xp2 du1_xq0 du1_xq1 du1_xq2 du1_xy0 du1_xy1 du1_xy2 du1_xu0 du1_xu1 du1_xu2 gku1 gfu1 glu1
  obtain ⟨c_a0, c_a1, c_a2⟩ := b_a14.three
  have l_a := b_a14.lt
  obtain ⟨c_b0, c_b1, c_b2⟩ := b_b14.three
  have l_b := b_b14.lt
  obtain ⟨c_xx0, c_xx1, c_xx2⟩ := b_xx14.three
  have l_xx := b_xx14.lt
  obtain ⟨c_xp0, c_xp1, c_xp2⟩ := b_xp14.three
  have l_xp := b_xp14.lt
  obtain ⟨c_xq0, c_xq1, c_xq2⟩ := b_xq14.three
  have l_xq := b_xq14.lt
  obtain ⟨c_xy0, c_xy1, c_xy2⟩ := b_xy14.three
  have l_xy := b_xy14.lt
  obtain ⟨c_xu0, c_xu1, c_xu2⟩ := b_xu14.three
  have l_xu := b_xu14.lt
  obtain ⟨A14, ca14, D14, cd14, rfl, hs14, hd14⟩ := hr14.open_
  go_wp2_with fail
  refine (alike_nil _ _ _ _ _ (a_u214.mono (below_one _ _)) (hr14.mono (below_one _ _))).mono ?_
  rintro e w15 ⟨r15, rfl, hr15, hb15⟩
  have e15 : r15 = true := hr15.2 (PL.out.2.2.2)
  subst e15
  clear hr15
  have hbw15 := (hbw14.trans ((below_one w14 _).mono hbw14.size)).trans (hb15.mono (hbw14.trans ((below_one w14 _).mono hbw14.size)).size)
  have b_a15 := (b_a14.alloc _).below hb15
  have b_b15 := (b_b14.alloc _).below hb15
  have b_xx15 := (b_xx14.alloc _).below hb15
  have b_xp15 := (b_xp14.alloc _).below hb15
  have b_xq15 := (b_xq14.alloc _).below hb15
  have b_xy15 := (b_xy14.alloc _).below hb15
  have b_xu15 := (b_xu14.alloc _).below hb15
  have b_xv15 := (Box.new w14 24 #[.bool (take ((ints t).set k (-(m : Int))) (rev k a)).ch, .slice A14 (take ((ints t).set k (-(m : Int))) (rev k a)).sh.length ca14, .slice D14 (take ((ints t).set k (-(m : Int))) (rev k a)).da.length cd14]).below hb15
  have a_head15 := (a_head14.mono (below_one _ _)).mono hb15
  have a_p15 := (a_p14.mono (below_one _ _)).mono hb15
  have a_u215 := (a_u214.mono (below_one _ _)).mono hb15
  have a_v15 := (hr14.mono (below_one _ _)).mono hb15
  clear hb15 b_a14 b_b14 b_xx14 b_xp14 b_xq14 b_xy14 b_xu14 a_head14 a_p14 a_u214 hr14 hbw14 c_a0 c_a1 c_a2 l_a c_b0 c_b1 c_b2 l_b c_xx0 c_xx1 c_xx2 l_xx c_xp0 c_xp1 c_xp2 l_xp c_xq0 c_xq1 c_xq2 l_xq c_xy0 c_xy1 c_xy2 l_xy c_xu0 c_xu1 c_xu2 l_xu
  obtain ⟨c_a0, c_a1, c_a2⟩ := b_a15.three
  have l_a := b_a15.lt
  obtain ⟨c_b0, c_b1, c_b2⟩ := b_b15.three
  have l_b := b_b15.lt
  obtain ⟨c_xx0, c_xx1, c_xx2⟩ := b_xx15.three
  have l_xx := b_xx15.lt
  obtain ⟨c_xp0, c_xp1, c_xp2⟩ := b_xp15.three
  have l_xp := b_xp15.lt
  obtain ⟨c_xq0, c_xq1, c_xq2⟩ := b_xq15.three
  have l_xq := b_xq15.lt
  obtain ⟨c_xy0, c_xy1, c_xy2⟩ := b_xy15.three
  have l_xy := b_xy15.lt
  obtain ⟨c_xu0, c_xu1, c_xu2⟩ := b_xu15.three
  have l_xu := b_xu15.lt
  obtain ⟨c_xv0, c_xv1, c_xv2⟩ := b_xv15.three
  have l_xv := b_xv15.lt
  go_wp2_with fail
  go_ret
  exact ⟨rfl, by have := hbw15.size; go_grown⟩

end Go.Proofs.Ytfemeaehpjajlaa
