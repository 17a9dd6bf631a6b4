/- The walk of the law CutMonoid. Conditions: none. -/
import Derived.Test.YtfemeaehpjajlaaJoinLaw
import Derived.Test.YtfemeaehpjajlaaArrOf
import Derived.Test.YtfemeaehpjajlaaTake
import Derived.Test.YtfemeaehpjajlaaStore
import Derived.Test.YtfemeaehpjajlaaMore
import Derived.Test.YtfemeaehpjajlaaAlike
import Derived.Test.YtfemeaehpjajlaaMake
namespace Go.Proofs.Ytfemeaehpjajlaa
open Go Go.RowKit Go.Proofs.Ytfemeaehpjajlaa.P

set_option maxRecDepth 100000 in
set_option maxHeartbeats 4000000 in
theorem cutMonoid_walk (axis : Int) (va vb vc : Value) (a b c : Arr) (w : World) (ha : IsArr w va a) (hb : IsArr w vb b) (hc : IsArr w vc c) :
    Calls Try.prog 13 #[.int .i64 axis, va, vb, vc] w (Says w) := by
  obtain ⟨A, ca, D, da, rfl, -, -⟩ := ha.open_
  obtain ⟨A', cb, D', db, rfl, -, -⟩ := hb.open_
  obtain ⟨A'', cc, D'', dc, rfl, -, -⟩ := hc.open_
  go_enter Try.func13, Try.ntmps13
  go_wp2_with fail
  have x1 := (Box.new (((w.alloc (.cells #[.bool a.ch, .slice A a.sh.length ca, .slice D a.da.length da] 24)).alloc (.cells #[.bool b.ch, .slice A' b.sh.length cb, .slice D' b.da.length db] 24)).alloc (.cells #[.bool c.ch, .slice A'' c.sh.length cc, .slice D'' c.da.length dc] 24)) 3 #[.int .i64 1])
  simp only [World.size_alloc, World.size_setCell] at x1
  have i1 : IsInts ((((w.alloc (.cells #[.bool a.ch, .slice A a.sh.length ca, .slice D a.da.length da] 24)).alloc (.cells #[.bool b.ch, .slice A' b.sh.length cb, .slice D' b.da.length db] 24)).alloc (.cells #[.bool c.ch, .slice A'' c.sh.length cc, .slice D'' c.da.length dc] 24)).alloc (.cells #[.int .i64 1] 3)) (.slice (some ⟨w.heap.size + 1 + 1 + 1, 0, none⟩) 1 1) [1] := x1.isInts (xs := [1]) (n := 1) rfl (by omega)
  clear x1
  refine (vec_any _ [1] _ i1).mono ?_
  rintro e w1 ⟨r1, rfl, hr1, hb1⟩
  have hbw1 := ((Below.refl w.heap.size w).trans ((below_four w _ _ _ _).mono (Below.refl w.heap.size w).size)).trans (hb1.mono ((Below.refl w.heap.size w).trans ((below_four w _ _ _ _).mono (Below.refl w.heap.size w).size)).size)
  have b_a1 := ((((Box.new w 24 #[.bool a.ch, .slice A a.sh.length ca, .slice D a.da.length da]).alloc _).alloc _).alloc _).below hb1
  have b_b1 := (((Box.new (w.alloc (.cells #[.bool a.ch, .slice A a.sh.length ca, .slice D a.da.length da] 24)) 24 #[.bool b.ch, .slice A' b.sh.length cb, .slice D' b.da.length db]).alloc _).alloc _).below hb1
  simp only [World.size_alloc, World.size_setCell] at b_b1
  have b_c1 := ((Box.new ((w.alloc (.cells #[.bool a.ch, .slice A a.sh.length ca, .slice D a.da.length da] 24)).alloc (.cells #[.bool b.ch, .slice A' b.sh.length cb, .slice D' b.da.length db] 24)) 24 #[.bool c.ch, .slice A'' c.sh.length cc, .slice D'' c.da.length dc]).alloc _).below hb1
  simp only [World.size_alloc, World.size_setCell] at b_c1
  clear hb1 i1
  obtain ⟨c_a0, c_a1, c_a2⟩ := b_a1.three
  have l_a := b_a1.lt
  obtain ⟨c_b0, c_b1, c_b2⟩ := b_b1.three
  have l_b := b_b1.lt
  obtain ⟨c_c0, c_c1, c_c2⟩ := b_c1.three
  have l_c := b_c1.lt
  go_wp2_with fail
  have x1 := (Box.new w1 3 #[.int .i64 2])
  have i1 : IsInts (w1.alloc (.cells #[.int .i64 2] 3)) (.slice (some ⟨w1.heap.size, 0, none⟩) 1 1) [2] := x1.isInts (xs := [2]) (n := 1) rfl (by omega)
  clear x1
  refine (vec_any _ [2] _ i1).mono ?_
  rintro e w2 ⟨r2, rfl, hr2, hb2⟩
  have hbw2 := (hbw1.trans ((below_one w1 _).mono hbw1.size)).trans (hb2.mono (hbw1.trans ((below_one w1 _).mono hbw1.size)).size)
  have b_a2 := (b_a1.alloc _).below hb2
  have b_b2 := (b_b1.alloc _).below hb2
  have b_c2 := (b_c1.alloc _).below hb2
  have a_v12 := (hr1.mono (below_one _ _)).mono hb2
  clear hb2 b_a1 b_b1 b_c1 hr1 hbw1 c_a0 c_a1 c_a2 l_a c_b0 c_b1 c_b2 l_b c_c0 c_c1 c_c2 l_c i1
  obtain ⟨c_a0, c_a1, c_a2⟩ := b_a2.three
  have l_a := b_a2.lt
  obtain ⟨c_b0, c_b1, c_b2⟩ := b_b2.three
  have l_b := b_b2.lt
  obtain ⟨c_c0, c_c1, c_c2⟩ := b_c2.three
  have l_c := b_c2.lt
  go_wp2_with fail
  refine ((show Calls _ _ _ _ (GivesOk (glue (0 : Int).toNat ⟨false, [1], [1]⟩ ⟨false, [1], [2]⟩) _) from (join_told (axis := 0) a_v12 hr2).mono fun e w' h => h.ok (by decide +kernel))).mono ?_
  rintro e w3 ⟨r3, rfl, hr3, hb3⟩
  have hbw3 := hbw2.trans (hb3.mono hbw2.size)
  have b_a3 := b_a2.below hb3
  have b_b3 := b_b2.below hb3
  have b_c3 := b_c2.below hb3
  clear hb3 b_a2 b_b2 b_c2 hbw2 c_a0 c_a1 c_a2 l_a c_b0 c_b1 c_b2 l_b c_c0 c_c1 c_c2 l_c a_v12 hr2
  obtain ⟨c_a0, c_a1, c_a2⟩ := b_a3.three
  have l_a := b_a3.lt
  obtain ⟨c_b0, c_b1, c_b2⟩ := b_b3.three
  have l_b := b_b3.lt
  obtain ⟨c_c0, c_c1, c_c2⟩ := b_c3.three
  have l_c := b_c3.lt
  obtain ⟨A3, ca3, D3, cd3, rfl, hs3, hd3⟩ := hr3.open_
  go_wp2_with fail
  have bq := Box.new (w3.alloc (.cells #[.bool ((glue (0 : Int).toNat ⟨false, [1], [1]⟩ ⟨false, [1], [2]⟩)).ch, .slice A3 ((glue (0 : Int).toNat ⟨false, [1], [1]⟩ ⟨false, [1], [2]⟩)).sh.length ca3, .slice D3 ((glue (0 : Int).toNat ⟨false, [1], [1]⟩ ⟨false, [1], [2]⟩)).da.length cd3] 24)) 3 #[.int .i64 1, .int .i64 2]
  rw [World.size_alloc] at bq
  refine (ints_any _ _ _ [1, 2] _ (hd3.mono (below_two _ _ _)) (bq.isInts rfl (by simp))).mono ?_
  rintro e w4 ⟨r4, rfl, hr4, hb4⟩
  have e4 : r4 = true := hr4.2 (by first | decide | decide +kernel)
  subst e4
  clear hr4 hs3 hd3
  clear hr3
  have hbw4 := (hbw3.trans ((below_two w3 _ _).mono hbw3.size)).trans (hb4.mono (hbw3.trans ((below_two w3 _ _).mono hbw3.size)).size)
  have b_a4 := ((b_a3.alloc _).alloc _).below hb4
  have b_b4 := ((b_b3.alloc _).alloc _).below hb4
  have b_c4 := ((b_c3.alloc _).alloc _).below hb4
  clear hb4 b_a3 b_b3 b_c3 hbw3 c_a0 c_a1 c_a2 l_a c_b0 c_b1 c_b2 l_b c_c0 c_c1 c_c2 l_c bq
  obtain ⟨c_a0, c_a1, c_a2⟩ := b_a4.three
  have l_a := b_a4.lt
  obtain ⟨c_b0, c_b1, c_b2⟩ := b_b4.three
  have l_b := b_b4.lt
  obtain ⟨c_c0, c_c1, c_c2⟩ := b_c4.three
  have l_c := b_c4.lt
  by_cases hE1 : joinErr axis a b = 0
  case neg =>
    have HE1 := Lib.hid hE1
    clear hE1
    go_wp2_with fail
    refine ((join_told (ha.mono hbw4) (hb.mono hbw4)).mono fun e w' h => h.bad HE1.out).mono ?_
    rintro e w5 ⟨rfl, hb5⟩
    have hbw5 := hbw4.trans (hb5.mono hbw4.size)
    have b_a5 := b_a4.below hb5
    have b_b5 := b_b4.below hb5
    have b_c5 := b_c4.below hb5
    clear hb5 b_a4 b_b4 b_c4 hbw4 c_a0 c_a1 c_a2 l_a c_b0 c_b1 c_b2 l_b c_c0 c_c1 c_c2 l_c
    obtain ⟨c_a0, c_a1, c_a2⟩ := b_a5.three
    have l_a := b_a5.lt
    obtain ⟨c_b0, c_b1, c_b2⟩ := b_b5.three
    have l_b := b_b5.lt
    obtain ⟨c_c0, c_c1, c_c2⟩ := b_c5.three
    have l_c := b_c5.lt
    go_wp2_with fail
    refine ((join_told (isArr_zero _) (hc.mono (hbw5.trans ((below_one w5 _).mono hbw5.size)))).mono fun e w' h => h.bad (join_nil_bad axis c)).mono ?_
    rintro e w6 ⟨rfl, hb6⟩
    have hbw6 := (hbw5.trans ((below_one w5 _).mono hbw5.size)).trans (hb6.mono (hbw5.trans ((below_one w5 _).mono hbw5.size)).size)
    have b_a6 := (b_a5.alloc _).below hb6
    have b_b6 := (b_b5.alloc _).below hb6
    have b_c6 := (b_c5.alloc _).below hb6
    have b_xx6 := (Box.new w5 24 #[.bool false, .slice none 0 0, .slice none 0 0]).below hb6
    clear hb6 b_a5 b_b5 b_c5 hbw5 c_a0 c_a1 c_a2 l_a c_b0 c_b1 c_b2 l_b c_c0 c_c1 c_c2 l_c
    obtain ⟨c_a0, c_a1, c_a2⟩ := b_a6.three
    have l_a := b_a6.lt
    obtain ⟨c_b0, c_b1, c_b2⟩ := b_b6.three
    have l_b := b_b6.lt
    obtain ⟨c_c0, c_c1, c_c2⟩ := b_c6.three
    have l_c := b_c6.lt
    obtain ⟨c_xx0, c_xx1, c_xx2⟩ := b_xx6.three
    have l_xx := b_xx6.lt
    go_wp2_with fail
    go_ret
    exact ⟨rfl, by have := hbw6.size; go_grown⟩
  obtain ⟨t, k, l, hoa, rfl, hk, hob, hcb, hg⟩ := joinErr_zero hE1
  have HE1 := Lib.hid hE1
  clear hE1
  by_cases hE2 : joinErr k (glue k a b) c = 0
  case neg =>
    have HE2 := Lib.hid hE2
    clear hE2 hoa hob hcb hg hk
    go_wp2_with fail
    refine ((show Calls _ _ _ _ (GivesOk (glue k a b) _) from (join_toldN (ha.mono hbw4) (hb.mono hbw4)).mono fun e w' h => h.ok HE1.out)).mono ?_
    rintro e w5 ⟨r5, rfl, hr5, hb5⟩
    have hbw5 := hbw4.trans (hb5.mono hbw4.size)
    have b_a5 := b_a4.below hb5
    have b_b5 := b_b4.below hb5
    have b_c5 := b_c4.below hb5
    clear hb5 b_a4 b_b4 b_c4 hbw4 c_a0 c_a1 c_a2 l_a c_b0 c_b1 c_b2 l_b c_c0 c_c1 c_c2 l_c
    obtain ⟨c_a0, c_a1, c_a2⟩ := b_a5.three
    have l_a := b_a5.lt
    obtain ⟨c_b0, c_b1, c_b2⟩ := b_b5.three
    have l_b := b_b5.lt
    obtain ⟨c_c0, c_c1, c_c2⟩ := b_c5.three
    have l_c := b_c5.lt
    obtain ⟨A5, ca5, D5, cd5, rfl, hs5, hd5⟩ := hr5.open_
    go_wp2_with fail
    refine ((join_toldN (hr5.mono (below_one _ _)) (hc.mono (hbw5.trans ((below_one w5 _).mono hbw5.size)))).mono fun e w' h => h.bad HE2.out).mono ?_
    rintro e w6 ⟨rfl, hb6⟩
    have hbw6 := (hbw5.trans ((below_one w5 _).mono hbw5.size)).trans (hb6.mono (hbw5.trans ((below_one w5 _).mono hbw5.size)).size)
    have b_a6 := (b_a5.alloc _).below hb6
    have b_b6 := (b_b5.alloc _).below hb6
    have b_c6 := (b_c5.alloc _).below hb6
    have b_xx6 := (Box.new w5 24 #[.bool (glue k a b).ch, .slice A5 (glue k a b).sh.length ca5, .slice D5 (glue k a b).da.length cd5]).below hb6
    have a_x6 := (hr5.mono (below_one _ _)).mono hb6
    clear hb6 b_a5 b_b5 b_c5 hr5 hbw5 c_a0 c_a1 c_a2 l_a c_b0 c_b1 c_b2 l_b c_c0 c_c1 c_c2 l_c
    obtain ⟨c_a0, c_a1, c_a2⟩ := b_a6.three
    have l_a := b_a6.lt
    obtain ⟨c_b0, c_b1, c_b2⟩ := b_b6.three
    have l_b := b_b6.lt
    obtain ⟨c_c0, c_c1, c_c2⟩ := b_c6.three
    have l_c := b_c6.lt
    obtain ⟨c_xx0, c_xx1, c_xx2⟩ := b_xx6.three
    have l_xx := b_xx6.lt
    go_wp2_with fail
    go_ret
    exact ⟨rfl, by have := hbw6.size; go_grown⟩
  have PL := Lib.hid (monoid_plain hoa hk hob hcb hg hE2)
  have HE2 := Lib.hid hE2
  have HSH := Lib.hid hoa.sh
  have hn6 := hoa.good.1
  have hla : a.sh.length ≤ 6 := by rw [HSH.out, length_ints]; exact hn6
  have hka : k < a.sh.length := by rw [HSH.out, length_ints]; exact hk
  have HX := Lib.hid (show a.sh[k]? = some a.sh[k] from List.getElem?_eq_getElem hka)
  have dk0 : decide ((k : Int) < 0) = false := by simp
  have dk1 : decide (a.sh.length ≤ k) = false := by simp; omega
  clear hE2 hoa hob hcb hg hk hn6
  go_wp2_with fail
  refine ((show Calls _ _ _ _ (GivesOk (glue k a b) _) from (join_toldN (ha.mono hbw4) (hb.mono hbw4)).mono fun e w' h => h.ok HE1.out)).mono ?_
  rintro e w5 ⟨r5, rfl, hr5, hb5⟩
  have hbw5 := hbw4.trans (hb5.mono hbw4.size)
  have b_a5 := b_a4.below hb5
  have b_b5 := b_b4.below hb5
  have b_c5 := b_c4.below hb5
  clear hb5 b_a4 b_b4 b_c4 hbw4 c_a0 c_a1 c_a2 l_a c_b0 c_b1 c_b2 l_b c_c0 c_c1 c_c2 l_c
  obtain ⟨c_a0, c_a1, c_a2⟩ := b_a5.three
  have l_a := b_a5.lt
  obtain ⟨c_b0, c_b1, c_b2⟩ := b_b5.three
  have l_b := b_b5.lt
  obtain ⟨c_c0, c_c1, c_c2⟩ := b_c5.three
  have l_c := b_c5.lt
  obtain ⟨A5, ca5, D5, cd5, rfl, hs5, hd5⟩ := hr5.open_
  go_wp2_with fail
  refine ((show Calls _ _ _ _ (GivesOk (glue k (glue k a b) c) _) from (join_toldN (hr5.mono (below_one _ _)) (hc.mono (hbw5.trans ((below_one w5 _).mono hbw5.size)))).mono fun e w' h => h.ok HE2.out)).mono ?_
  rintro e w6 ⟨r6, rfl, hr6, hb6⟩
  have hbw6 := (hbw5.trans ((below_one w5 _).mono hbw5.size)).trans (hb6.mono (hbw5.trans ((below_one w5 _).mono hbw5.size)).size)
  have b_a6 := (b_a5.alloc _).below hb6
  have b_b6 := (b_b5.alloc _).below hb6
  have b_c6 := (b_c5.alloc _).below hb6
  have b_xx6 := (Box.new w5 24 #[.bool (glue k a b).ch, .slice A5 (glue k a b).sh.length ca5, .slice D5 (glue k a b).da.length cd5]).below hb6
  have a_x6 := (hr5.mono (below_one _ _)).mono hb6
  clear hb6 b_a5 b_b5 b_c5 hr5 hbw5 c_a0 c_a1 c_a2 l_a c_b0 c_b1 c_b2 l_b c_c0 c_c1 c_c2 l_c
  obtain ⟨c_a0, c_a1, c_a2⟩ := b_a6.three
  have l_a := b_a6.lt
  obtain ⟨c_b0, c_b1, c_b2⟩ := b_b6.three
  have l_b := b_b6.lt
  obtain ⟨c_c0, c_c1, c_c2⟩ := b_c6.three
  have l_c := b_c6.lt
  obtain ⟨c_xx0, c_xx1, c_xx2⟩ := b_xx6.three
  have l_xx := b_xx6.lt
  obtain ⟨A6, ca6, D6, cd6, rfl, hs6, hd6⟩ := hr6.open_
  go_wp2_with fail
  refine ((show Calls _ _ _ _ (GivesOk (glue k b c) _) from (join_toldN (hb.mono (hbw6.trans ((below_one w6 _).mono hbw6.size))) (hc.mono (hbw6.trans ((below_one w6 _).mono hbw6.size)))).mono fun e w' h => h.ok PL.out.1)).mono ?_
  rintro e w7 ⟨r7, rfl, hr7, hb7⟩
  have hbw7 := (hbw6.trans ((below_one w6 _).mono hbw6.size)).trans (hb7.mono (hbw6.trans ((below_one w6 _).mono hbw6.size)).size)
  have b_a7 := (b_a6.alloc _).below hb7
  have b_b7 := (b_b6.alloc _).below hb7
  have b_c7 := (b_c6.alloc _).below hb7
  have b_xx7 := (b_xx6.alloc _).below hb7
  have b_xy7 := (Box.new w6 24 #[.bool (glue k (glue k a b) c).ch, .slice A6 (glue k (glue k a b) c).sh.length ca6, .slice D6 (glue k (glue k a b) c).da.length cd6]).below hb7
  have a_x7 := (a_x6.mono (below_one _ _)).mono hb7
  have a_y7 := (hr6.mono (below_one _ _)).mono hb7
  clear hb7 b_a6 b_b6 b_c6 b_xx6 a_x6 hr6 hbw6 c_a0 c_a1 c_a2 l_a c_b0 c_b1 c_b2 l_b c_c0 c_c1 c_c2 l_c c_xx0 c_xx1 c_xx2 l_xx
  obtain ⟨c_a0, c_a1, c_a2⟩ := b_a7.three
  have l_a := b_a7.lt
  obtain ⟨c_b0, c_b1, c_b2⟩ := b_b7.three
  have l_b := b_b7.lt
  obtain ⟨c_c0, c_c1, c_c2⟩ := b_c7.three
  have l_c := b_c7.lt
  obtain ⟨c_xx0, c_xx1, c_xx2⟩ := b_xx7.three
  have l_xx := b_xx7.lt
  obtain ⟨c_xy0, c_xy1, c_xy2⟩ := b_xy7.three
  have l_xy := b_xy7.lt
  obtain ⟨A7, ca7, D7, cd7, rfl, hs7, hd7⟩ := hr7.open_
  go_wp2_with fail
  refine ((show Calls _ _ _ _ (GivesOk (glue k a (glue k b c)) _) from (join_toldN (ha.mono (hbw7.trans ((below_one w7 _).mono hbw7.size))) (hr7.mono (below_one _ _))).mono fun e w' h => h.ok PL.out.2.1)).mono ?_
  rintro e w8 ⟨r8, rfl, hr8, hb8⟩
  have hbw8 := (hbw7.trans ((below_one w7 _).mono hbw7.size)).trans (hb8.mono (hbw7.trans ((below_one w7 _).mono hbw7.size)).size)
  have b_a8 := (b_a7.alloc _).below hb8
  have b_b8 := (b_b7.alloc _).below hb8
  have b_c8 := (b_c7.alloc _).below hb8
  have b_xx8 := (b_xx7.alloc _).below hb8
  have b_xy8 := (b_xy7.alloc _).below hb8
  have b_xu8 := (Box.new w7 24 #[.bool (glue k b c).ch, .slice A7 (glue k b c).sh.length ca7, .slice D7 (glue k b c).da.length cd7]).below hb8
  have a_x8 := (a_x7.mono (below_one _ _)).mono hb8
  have a_y8 := (a_y7.mono (below_one _ _)).mono hb8
  have a_u8 := (hr7.mono (below_one _ _)).mono hb8
  clear hb8 b_a7 b_b7 b_c7 b_xx7 b_xy7 a_x7 a_y7 hr7 hbw7 c_a0 c_a1 c_a2 l_a c_b0 c_b1 c_b2 l_b c_c0 c_c1 c_c2 l_c c_xx0 c_xx1 c_xx2 l_xx c_xy0 c_xy1 c_xy2 l_xy
  obtain ⟨c_a0, c_a1, c_a2⟩ := b_a8.three
  have l_a := b_a8.lt
  obtain ⟨c_b0, c_b1, c_b2⟩ := b_b8.three
  have l_b := b_b8.lt
  obtain ⟨c_c0, c_c1, c_c2⟩ := b_c8.three
  have l_c := b_c8.lt
  obtain ⟨c_xx0, c_xx1, c_xx2⟩ := b_xx8.three
  have l_xx := b_xx8.lt
  obtain ⟨c_xy0, c_xy1, c_xy2⟩ := b_xy8.three
  have l_xy := b_xy8.lt
  obtain ⟨c_xu0, c_xu1, c_xu2⟩ := b_xu8.three
  have l_xu := b_xu8.lt
  obtain ⟨A8, ca8, D8, cd8, rfl, hs8, hd8⟩ := hr8.open_
  go_wp2_with fail
  refine (alike_nil _ _ _ _ _ (a_y8.mono (below_one _ _)) (hr8.mono (below_one _ _))).mono ?_
  rintro e w9 ⟨r9, rfl, hr9, hb9⟩
  have e9 : r9 = true := hr9.2 (PL.out.2.2.1)
  subst e9
  clear hr9
  have hbw9 := (hbw8.trans ((below_one w8 _).mono hbw8.size)).trans (hb9.mono (hbw8.trans ((below_one w8 _).mono hbw8.size)).size)
  have b_a9 := (b_a8.alloc _).below hb9
  have b_b9 := (b_b8.alloc _).below hb9
  have b_c9 := (b_c8.alloc _).below hb9
  have b_xx9 := (b_xx8.alloc _).below hb9
  have b_xy9 := (b_xy8.alloc _).below hb9
  have b_xu9 := (b_xu8.alloc _).below hb9
  have b_xv9 := (Box.new w8 24 #[.bool (glue k a (glue k b c)).ch, .slice A8 (glue k a (glue k b c)).sh.length ca8, .slice D8 (glue k a (glue k b c)).da.length cd8]).below hb9
  have a_x9 := (a_x8.mono (below_one _ _)).mono hb9
  have a_y9 := (a_y8.mono (below_one _ _)).mono hb9
  have a_u9 := (a_u8.mono (below_one _ _)).mono hb9
  have a_v9 := (hr8.mono (below_one _ _)).mono hb9
  clear hb9 b_a8 b_b8 b_c8 b_xx8 b_xy8 b_xu8 a_x8 a_y8 a_u8 hr8 hbw8 c_a0 c_a1 c_a2 l_a c_b0 c_b1 c_b2 l_b c_c0 c_c1 c_c2 l_c c_xx0 c_xx1 c_xx2 l_xx c_xy0 c_xy1 c_xy2 l_xy c_xu0 c_xu1 c_xu2 l_xu
  obtain ⟨c_a0, c_a1, c_a2⟩ := b_a9.three
  have l_a := b_a9.lt
  obtain ⟨c_b0, c_b1, c_b2⟩ := b_b9.three
  have l_b := b_b9.lt
  obtain ⟨c_c0, c_c1, c_c2⟩ := b_c9.three
  have l_c := b_c9.lt
  obtain ⟨c_xx0, c_xx1, c_xx2⟩ := b_xx9.three
  have l_xx := b_xx9.lt
  obtain ⟨c_xy0, c_xy1, c_xy2⟩ := b_xy9.three
  have l_xy := b_xy9.lt
  obtain ⟨c_xu0, c_xu1, c_xu2⟩ := b_xu9.three
  have l_xu := b_xu9.lt
  obtain ⟨c_xv0, c_xv1, c_xv2⟩ := b_xv9.three
  have l_xv := b_xv9.lt
  go_wp2_with fail
  refine (joined_own _ a.sh _ (IsArr.shapeOf (ha.mono hbw9)) (by omega) (by omega)).mono ?_
  rintro e w10 ⟨g10, gc10, rfl, hg10, hm10, hb10⟩
  have gk10 := hm10.cell (HX.out)
  have gf10 := hm10.frozen (k)
  have gl10 := hm10.lt
  have hm10s := hm10.store (k) (0)
  rw [show a.sh.set k (0 : Int) = (ints t).set k 0 by rw [HSH.out]] at hm10s
  have hb10s := hb10.setCell (p := ⟨g10, k, none⟩) (by simp; omega) (.int .i64 (0))
  have hbw10 := hbw9.trans (hb10s.mono hbw9.size)
  have b_a10 := b_a9.below hb10s
  have b_b10 := b_b9.below hb10s
  have b_c10 := b_c9.below hb10s
  have b_xx10 := b_xx9.below hb10s
  have b_xy10 := b_xy9.below hb10s
  have b_xu10 := b_xu9.below hb10s
  have b_xv10 := b_xv9.below hb10s
  have a_x10 := a_x9.mono hb10s
  have a_y10 := a_y9.mono hb10s
  have a_u10 := a_u9.mono hb10s
  have a_v10 := a_v9.mono hb10s
  clear hb10s b_a9 b_b9 b_c9 b_xx9 b_xy9 b_xu9 b_xv9 a_x9 a_y9 a_u9 a_v9 hbw9 c_a0 c_a1 c_a2 l_a c_b0 c_b1 c_b2 l_b c_c0 c_c1 c_c2 l_c c_xx0 c_xx1 c_xx2 l_xx c_xy0 c_xy1 c_xy2 l_xy c_xu0 c_xu1 c_xu2 l_xu c_xv0 c_xv1 c_xv2 l_xv
  obtain ⟨c_a0, c_a1, c_a2⟩ := b_a10.three
  have l_a := b_a10.lt
  obtain ⟨c_b0, c_b1, c_b2⟩ := b_b10.three
  have l_b := b_b10.lt
  obtain ⟨c_c0, c_c1, c_c2⟩ := b_c10.three
  have l_c := b_c10.lt
  obtain ⟨c_xx0, c_xx1, c_xx2⟩ := b_xx10.three
  have l_xx := b_xx10.lt
  obtain ⟨c_xy0, c_xy1, c_xy2⟩ := b_xy10.three
  have l_xy := b_xy10.lt
  obtain ⟨c_xu0, c_xu1, c_xu2⟩ := b_xu10.three
  have l_xu := b_xu10.lt
  obtain ⟨c_xv0, c_xv1, c_xv2⟩ := b_xv10.three
  have l_xv := b_xv10.lt
  clear hm10 hb10
  go_wp2_with fail
  refine ((show Calls _ _ _ _ (GivesOk (take ((ints t).set k 0) a) _) from (take_told (Mine.isInts hm10s) (ha.mono hbw10)).mono fun e w' h => h.ok PL.out.2.2.2.1)).mono ?_
  rintro e w11 ⟨r11, rfl, hr11, hb11⟩
  have hbw11 := hbw10.trans (hb11.mono hbw10.size)
  have b_a11 := b_a10.below hb11
  have b_b11 := b_b10.below hb11
  have b_c11 := b_c10.below hb11
  have b_xx11 := b_xx10.below hb11
  have b_xy11 := b_xy10.below hb11
  have b_xu11 := b_xu10.below hb11
  have b_xv11 := b_xv10.below hb11
  have a_x11 := a_x10.mono hb11
  have a_y11 := a_y10.mono hb11
  have a_u11 := a_u10.mono hb11
  have a_v11 := a_v10.mono hb11
  have a_none11 := hm10s.mono hb11
  clear hb11 b_a10 b_b10 b_c10 b_xx10 b_xy10 b_xu10 b_xv10 a_x10 a_y10 a_u10 a_v10 hm10s hbw10 c_a0 c_a1 c_a2 l_a c_b0 c_b1 c_b2 l_b c_c0 c_c1 c_c2 l_c c_xx0 c_xx1 c_xx2 l_xx c_xy0 c_xy1 c_xy2 l_xy c_xu0 c_xu1 c_xu2 l_xu c_xv0 c_xv1 c_xv2 l_xv gk10 gf10 gl10
  obtain ⟨c_a0, c_a1, c_a2⟩ := b_a11.three
  have l_a := b_a11.lt
  obtain ⟨c_b0, c_b1, c_b2⟩ := b_b11.three
  have l_b := b_b11.lt
  obtain ⟨c_c0, c_c1, c_c2⟩ := b_c11.three
  have l_c := b_c11.lt
  obtain ⟨c_xx0, c_xx1, c_xx2⟩ := b_xx11.three
  have l_xx := b_xx11.lt
  obtain ⟨c_xy0, c_xy1, c_xy2⟩ := b_xy11.three
  have l_xy := b_xy11.lt
  obtain ⟨c_xu0, c_xu1, c_xu2⟩ := b_xu11.three
  have l_xu := b_xu11.lt
  obtain ⟨c_xv0, c_xv1, c_xv2⟩ := b_xv11.three
  have l_xv := b_xv11.lt
  obtain ⟨A11, ca11, D11, cd11, rfl, hs11, hd11⟩ := hr11.open_
  have eT := PL.out.2.2.2.2.1
  have PO := Lib.hid (show joinErr k a (take ((ints t).set k 0) a) = 0 ∧ joinErr k (take ((ints t).set k 0) a) a = 0 ∧ glue k a (take ((ints t).set k 0) a) = a ∧ glue k (take ((ints t).set k 0) a) a = a by rw [eT]; exact PL.out.2.2.2.2.2)
  clear eT
  go_wp2_with fail
  refine ((show Calls _ _ _ _ (GivesOk (glue k a (take ((ints t).set k 0) a)) _) from (join_toldN (ha.mono (hbw11.trans ((below_one w11 _).mono hbw11.size))) (hr11.mono (below_one _ _))).mono fun e w' h => h.ok PO.out.1)).mono ?_
  rintro e w12 ⟨r12, rfl, hr12, hb12⟩
  have hbw12 := (hbw11.trans ((below_one w11 _).mono hbw11.size)).trans (hb12.mono (hbw11.trans ((below_one w11 _).mono hbw11.size)).size)
  have b_a12 := (b_a11.alloc _).below hb12
  have b_b12 := (b_b11.alloc _).below hb12
  have b_c12 := (b_c11.alloc _).below hb12
  have b_xx12 := (b_xx11.alloc _).below hb12
  have b_xy12 := (b_xy11.alloc _).below hb12
  have b_xu12 := (b_xu11.alloc _).below hb12
  have b_xv12 := (b_xv11.alloc _).below hb12
  have b_xo12 := (Box.new w11 24 #[.bool (take ((ints t).set k 0) a).ch, .slice A11 (take ((ints t).set k 0) a).sh.length ca11, .slice D11 (take ((ints t).set k 0) a).da.length cd11]).below hb12
  have a_x12 := (a_x11.mono (below_one _ _)).mono hb12
  have a_y12 := (a_y11.mono (below_one _ _)).mono hb12
  have a_u12 := (a_u11.mono (below_one _ _)).mono hb12
  have a_v12 := (a_v11.mono (below_one _ _)).mono hb12
  have a_none12 := (a_none11.mono (below_one _ _)).mono hb12
  have a_o12 := (hr11.mono (below_one _ _)).mono hb12
  clear hb12 b_a11 b_b11 b_c11 b_xx11 b_xy11 b_xu11 b_xv11 a_x11 a_y11 a_u11 a_v11 a_none11 hr11 hbw11 c_a0 c_a1 c_a2 l_a c_b0 c_b1 c_b2 l_b c_c0 c_c1 c_c2 l_c c_xx0 c_xx1 c_xx2 l_xx c_xy0 c_xy1 c_xy2 l_xy c_xu0 c_xu1 c_xu2 l_xu c_xv0 c_xv1 c_xv2 l_xv
  obtain ⟨c_a0, c_a1, c_a2⟩ := b_a12.three
  have l_a := b_a12.lt
  obtain ⟨c_b0, c_b1, c_b2⟩ := b_b12.three
  have l_b := b_b12.lt
  obtain ⟨c_c0, c_c1, c_c2⟩ := b_c12.three
  have l_c := b_c12.lt
  obtain ⟨c_xx0, c_xx1, c_xx2⟩ := b_xx12.three
  have l_xx := b_xx12.lt
  obtain ⟨c_xy0, c_xy1, c_xy2⟩ := b_xy12.three
  have l_xy := b_xy12.lt
  obtain ⟨c_xu0, c_xu1, c_xu2⟩ := b_xu12.three
  have l_xu := b_xu12.lt
  obtain ⟨c_xv0, c_xv1, c_xv2⟩ := b_xv12.three
  have l_xv := b_xv12.lt
  obtain ⟨c_xo0, c_xo1, c_xo2⟩ := b_xo12.three
  have l_xo := b_xo12.lt
  obtain ⟨A12, ca12, D12, cd12, rfl, hs12, hd12⟩ := hr12.open_
  go_wp2_with fail
  refine ((show Calls _ _ _ _ (GivesOk (glue k (take ((ints t).set k 0) a) a) _) from (join_toldN (a_o12.mono (below_one _ _)) (ha.mono (hbw12.trans ((below_one w12 _).mono hbw12.size)))).mono fun e w' h => h.ok PO.out.2.1)).mono ?_
  rintro e w13 ⟨r13, rfl, hr13, hb13⟩
  have hbw13 := (hbw12.trans ((below_one w12 _).mono hbw12.size)).trans (hb13.mono (hbw12.trans ((below_one w12 _).mono hbw12.size)).size)
  have b_a13 := (b_a12.alloc _).below hb13
  have b_b13 := (b_b12.alloc _).below hb13
  have b_c13 := (b_c12.alloc _).below hb13
  have b_xx13 := (b_xx12.alloc _).below hb13
  have b_xy13 := (b_xy12.alloc _).below hb13
  have b_xu13 := (b_xu12.alloc _).below hb13
  have b_xv13 := (b_xv12.alloc _).below hb13
  have b_xo13 := (b_xo12.alloc _).below hb13
  have b_xp13 := (Box.new w12 24 #[.bool (glue k a (take ((ints t).set k 0) a)).ch, .slice A12 (glue k a (take ((ints t).set k 0) a)).sh.length ca12, .slice D12 (glue k a (take ((ints t).set k 0) a)).da.length cd12]).below hb13
  have a_x13 := (a_x12.mono (below_one _ _)).mono hb13
  have a_y13 := (a_y12.mono (below_one _ _)).mono hb13
  have a_u13 := (a_u12.mono (below_one _ _)).mono hb13
  have a_v13 := (a_v12.mono (below_one _ _)).mono hb13
  have a_none13 := (a_none12.mono (below_one _ _)).mono hb13
  have a_o13 := (a_o12.mono (below_one _ _)).mono hb13
  have a_p13 := (hr12.mono (below_one _ _)).mono hb13
  clear hb13 b_a12 b_b12 b_c12 b_xx12 b_xy12 b_xu12 b_xv12 b_xo12 a_x12 a_y12 a_u12 a_v12 a_none12 a_o12 hr12 hbw12 c_a0 c_a1 c_a2 l_a c_b0 c_b1 c_b2 l_b c_c0 c_c1 c_c2 l_c c_xx0 c_xx1 c_xx2 l_xx c_xy0 c_xy1 c_xy2 l_xy c_xu0 c_xu1 c_xu2 l_xu c_xv0 c_xv1 c_xv2 l_xv c_xo0 c_xo1 c_xo2 l_xo
  obtain ⟨c_a0, c_a1, c_a2⟩ := b_a13.three
  have l_a := b_a13.lt
  obtain ⟨c_b0, c_b1, c_b2⟩ := b_b13.three
  have l_b := b_b13.lt
  obtain ⟨c_c0, c_c1, c_c2⟩ := b_c13.three
  have l_c := b_c13.lt
  obtain ⟨c_xx0, c_xx1, c_xx2⟩ := b_xx13.three
  have l_xx := b_xx13.lt
  obtain ⟨c_xy0, c_xy1, c_xy2⟩ := b_xy13.three
  have l_xy := b_xy13.lt
  obtain ⟨c_xu0, c_xu1, c_xu2⟩ := b_xu13.three
  have l_xu := b_xu13.lt
  obtain ⟨c_xv0, c_xv1, c_xv2⟩ := b_xv13.three
  have l_xv := b_xv13.lt
  obtain ⟨c_xo0, c_xo1, c_xo2⟩ := b_xo13.three
  have l_xo := b_xo13.lt
  obtain ⟨c_xp0, c_xp1, c_xp2⟩ := b_xp13.three
  have l_xp := b_xp13.lt
  obtain ⟨A13, ca13, D13, cd13, rfl, hs13, hd13⟩ := hr13.open_
  go_wp2_with fail
  refine (alike_nil _ _ _ _ _ (a_p13.mono (below_one _ _)) (ha.mono (hbw13.trans ((below_one w13 _).mono hbw13.size)))).mono ?_
  rintro e w14 ⟨r14, rfl, hr14, hb14⟩
  have e14 : r14 = true := hr14.2 (PO.out.2.2.1)
  subst e14
  clear hr14
  have hbw14 := (hbw13.trans ((below_one w13 _).mono hbw13.size)).trans (hb14.mono (hbw13.trans ((below_one w13 _).mono hbw13.size)).size)
  have b_a14 := (b_a13.alloc _).below hb14
  have b_b14 := (b_b13.alloc _).below hb14
  have b_c14 := (b_c13.alloc _).below hb14
  have b_xx14 := (b_xx13.alloc _).below hb14
  have b_xy14 := (b_xy13.alloc _).below hb14
  have b_xu14 := (b_xu13.alloc _).below hb14
  have b_xv14 := (b_xv13.alloc _).below hb14
  have b_xo14 := (b_xo13.alloc _).below hb14
  have b_xp14 := (b_xp13.alloc _).below hb14
  have b_xq14 := (Box.new w13 24 #[.bool (glue k (take ((ints t).set k 0) a) a).ch, .slice A13 (glue k (take ((ints t).set k 0) a) a).sh.length ca13, .slice D13 (glue k (take ((ints t).set k 0) a) a).da.length cd13]).below hb14
  have a_x14 := (a_x13.mono (below_one _ _)).mono hb14
  have a_y14 := (a_y13.mono (below_one _ _)).mono hb14
  have a_u14 := (a_u13.mono (below_one _ _)).mono hb14
  have a_v14 := (a_v13.mono (below_one _ _)).mono hb14
  have a_none14 := (a_none13.mono (below_one _ _)).mono hb14
  have a_o14 := (a_o13.mono (below_one _ _)).mono hb14
  have a_p14 := (a_p13.mono (below_one _ _)).mono hb14
  have a_q14 := (hr13.mono (below_one _ _)).mono hb14
  clear hb14 b_a13 b_b13 b_c13 b_xx13 b_xy13 b_xu13 b_xv13 b_xo13 b_xp13 a_x13 a_y13 a_u13 a_v13 a_none13 a_o13 a_p13 hr13 hbw13 c_a0 c_a1 c_a2 l_a c_b0 c_b1 c_b2 l_b c_c0 c_c1 c_c2 l_c c_xx0 c_xx1 c_xx2 l_xx c_xy0 c_xy1 c_xy2 l_xy c_xu0 c_xu1 c_xu2 l_xu c_xv0 c_xv1 c_xv2 l_xv c_xo0 c_xo1 c_xo2 l_xo c_xp0 c_xp1 c_xp2 l_xp
  obtain ⟨c_a0, c_a1, c_a2⟩ := b_a14.three
  have l_a := b_a14.lt
  obtain ⟨c_b0, c_b1, c_b2⟩ := b_b14.three
  have l_b := b_b14.lt
  obtain ⟨c_c0, c_c1, c_c2⟩ := b_c14.three
  have l_c := b_c14.lt
  obtain ⟨c_xx0, c_xx1, c_xx2⟩ := b_xx14.three
  have l_xx := b_xx14.lt
  obtain ⟨c_xy0, c_xy1, c_xy2⟩ := b_xy14.three
  have l_xy := b_xy14.lt
  obtain ⟨c_xu0, c_xu1, c_xu2⟩ := b_xu14.three
  have l_xu := b_xu14.lt
  obtain ⟨c_xv0, c_xv1, c_xv2⟩ := b_xv14.three
  have l_xv := b_xv14.lt
  obtain ⟨c_xo0, c_xo1, c_xo2⟩ := b_xo14.three
  have l_xo := b_xo14.lt
  obtain ⟨c_xp0, c_xp1, c_xp2⟩ := b_xp14.three
  have l_xp := b_xp14.lt
  obtain ⟨c_xq0, c_xq1, c_xq2⟩ := b_xq14.three
  have l_xq := b_xq14.lt
  go_wp2_with fail
  refine (alike_nil _ _ _ _ _ a_q14 (ha.mono hbw14)).mono ?_
  rintro e w15 ⟨r15, rfl, hr15, hb15⟩
  have e15 : r15 = true := hr15.2 (PO.out.2.2.2)
  subst e15
  clear hr15
  have hbw15 := hbw14.trans (hb15.mono hbw14.size)
  have b_a15 := b_a14.below hb15
  have b_b15 := b_b14.below hb15
  have b_c15 := b_c14.below hb15
  have b_xx15 := b_xx14.below hb15
  have b_xy15 := b_xy14.below hb15
  have b_xu15 := b_xu14.below hb15
  have b_xv15 := b_xv14.below hb15
  have b_xo15 := b_xo14.below hb15
  have b_xp15 := b_xp14.below hb15
  have b_xq15 := b_xq14.below hb15
  have a_x15 := a_x14.mono hb15
  have a_y15 := a_y14.mono hb15
  have a_u15 := a_u14.mono hb15
  have a_v15 := a_v14.mono hb15
  have a_none15 := a_none14.mono hb15
  have a_o15 := a_o14.mono hb15
  have a_p15 := a_p14.mono hb15
  have a_q15 := a_q14.mono hb15
  clear hb15 b_a14 b_b14 b_c14 b_xx14 b_xy14 b_xu14 b_xv14 b_xo14 b_xp14 b_xq14 a_x14 a_y14 a_u14 a_v14 a_none14 a_o14 a_p14 a_q14 hbw14 c_a0 c_a1 c_a2 l_a c_b0 c_b1 c_b2 l_b c_c0 c_c1 c_c2 l_c c_xx0 c_xx1 c_xx2 l_xx c_xy0 c_xy1 c_xy2 l_xy c_xu0 c_xu1 c_xu2 l_xu c_xv0 c_xv1 c_xv2 l_xv c_xo0 c_xo1 c_xo2 l_xo c_xp0 c_xp1 c_xp2 l_xp c_xq0 c_xq1 c_xq2 l_xq
  obtain ⟨c_a0, c_a1, c_a2⟩ := b_a15.three
  have l_a := b_a15.lt
  obtain ⟨c_b0, c_b1, c_b2⟩ := b_b15.three
  have l_b := b_b15.lt
  obtain ⟨c_c0, c_c1, c_c2⟩ := b_c15.three
  have l_c := b_c15.lt
  obtain ⟨c_xx0, c_xx1, c_xx2⟩ := b_xx15.three
  have l_xx := b_xx15.lt
  obtain ⟨c_xy0, c_xy1, c_xy2⟩ := b_xy15.three
  have l_xy := b_xy15.lt
  obtain ⟨c_xu0, c_xu1, c_xu2⟩ := b_xu15.three
  have l_xu := b_xu15.lt
  obtain ⟨c_xv0, c_xv1, c_xv2⟩ := b_xv15.three
  have l_xv := b_xv15.lt
  obtain ⟨c_xo0, c_xo1, c_xo2⟩ := b_xo15.three
  have l_xo := b_xo15.lt
  obtain ⟨c_xp0, c_xp1, c_xp2⟩ := b_xp15.three
  have l_xp := b_xp15.lt
  obtain ⟨c_xq0, c_xq1, c_xq2⟩ := b_xq15.three
  have l_xq := b_xq15.lt
  go_wp2_with fail
  go_ret
  exact ⟨rfl, by have := hbw15.size; go_grown⟩

end Go.Proofs.Ytfemeaehpjajlaa
