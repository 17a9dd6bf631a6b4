/- The walk of the law PickLens. Conditions: none. -/
import Derived.Test.YtnjjapfdgddemaaPutOk
import Derived.Test.YtnjjapfdgddemaaLensPlain
import Derived.Test.YtnjjapfdgddemaaStore
import Derived.Test.YtnjjapfdgddemaaMore
import Derived.Test.YtnjjapfdgddemaaRev
import Derived.Test.YtnjjapfdgddemaaAlike
import Derived.Test.YtnjjapfdgddemaaMake
namespace Go.Proofs.Ytnjjapfdgddemaa
open Go Go.RowKit Go.Proofs.Ytnjjapfdgddemaa.P

set_option maxRecDepth 100000 in
set_option maxHeartbeats 4000000 in
theorem pickLens_walk (va vb vv vx : Value) (a v x : Arr) (bs : List Arr) (w : World) (ha : IsArr w va a) (hm : IsArrs w vb bs) (hv : IsArr w vv v) (hx : IsArr w vx x) :
    Calls Try.prog 4 #[va, vb, vv, vx] w (Says w) := by
  obtain ⟨A, ca, D, da, rfl, -, -⟩ := ha.open_
  obtain ⟨A', cb, D', db, rfl, -, -⟩ := hv.open_
  obtain ⟨A'', cc, D'', dc, rfl, -, -⟩ := hx.open_
  go_enter Try.func4, Try.ntmps4
  go_wp2_with fail
  have x1 := (Box.new (((w.alloc (.cells #[.bool a.ch, .slice A a.sh.length ca, .slice D a.da.length da] 24)).alloc (.cells #[.bool v.ch, .slice A' v.sh.length cb, .slice D' v.da.length db] 24)).alloc (.cells #[.bool x.ch, .slice A'' x.sh.length cc, .slice D'' x.da.length dc] 24)) 3 #[.int .i64 1, .int .i64 2, .int .i64 3])
  simp only [World.size_alloc, World.size_setCell] at x1
  have i1 : IsInts ((((w.alloc (.cells #[.bool a.ch, .slice A a.sh.length ca, .slice D a.da.length da] 24)).alloc (.cells #[.bool v.ch, .slice A' v.sh.length cb, .slice D' v.da.length db] 24)).alloc (.cells #[.bool x.ch, .slice A'' x.sh.length cc, .slice D'' x.da.length dc] 24)).alloc (.cells #[.int .i64 1, .int .i64 2, .int .i64 3] 3)) (.slice (some ⟨w.heap.size + 1 + 1 + 1, 0, none⟩) 3 3) [1, 2, 3] := x1.isInts (xs := [1, 2, 3]) (n := 3) rfl (by omega)
  clear x1
  refine (vec_any _ [1, 2, 3] _ i1).mono ?_
  rintro e w1 ⟨r1, rfl, hr1, hb1⟩
  have hbw1 := ((Below.refl w.heap.size w).trans ((below_four w _ _ _ _).mono (Below.refl w.heap.size w).size)).trans (hb1.mono ((Below.refl w.heap.size w).trans ((below_four w _ _ _ _).mono (Below.refl w.heap.size w).size)).size)
  have b_a1 := ((((Box.new w 24 #[.bool a.ch, .slice A a.sh.length ca, .slice D a.da.length da]).alloc _).alloc _).alloc _).below hb1
  have b_v1 := (((Box.new (w.alloc (.cells #[.bool a.ch, .slice A a.sh.length ca, .slice D a.da.length da] 24)) 24 #[.bool v.ch, .slice A' v.sh.length cb, .slice D' v.da.length db]).alloc _).alloc _).below hb1
  simp only [World.size_alloc, World.size_setCell] at b_v1
  have b_x1 := ((Box.new ((w.alloc (.cells #[.bool a.ch, .slice A a.sh.length ca, .slice D a.da.length da] 24)).alloc (.cells #[.bool v.ch, .slice A' v.sh.length cb, .slice D' v.da.length db] 24)) 24 #[.bool x.ch, .slice A'' x.sh.length cc, .slice D'' x.da.length dc]).alloc _).below hb1
  simp only [World.size_alloc, World.size_setCell] at b_x1
  clear hb1 i1
  obtain ⟨c_a0, c_a1, c_a2⟩ := b_a1.three
  have l_a := b_a1.lt
  obtain ⟨c_v0, c_v1, c_v2⟩ := b_v1.three
  have l_v := b_v1.lt
  obtain ⟨c_x0, c_x1, c_x2⟩ := b_x1.three
  have l_x := b_x1.lt
  go_wp2_with fail
  have x1 := (Box.new w1 3 #[.int .i64 2])
  have i1 : IsInts (w1.alloc (.cells #[.int .i64 2] 3)) (.slice (some ⟨w1.heap.size, 0, none⟩) 1 1) [2] := x1.isInts (xs := [2]) (n := 1) rfl (by omega)
  clear x1
  refine (vec_any _ [2] _ i1).mono ?_
  rintro e w2 ⟨r2, rfl, hr2, hb2⟩
  have hbw2 := (hbw1.trans ((below_one w1 _).mono hbw1.size)).trans (hb2.mono (hbw1.trans ((below_one w1 _).mono hbw1.size)).size)
  have b_a2 := (b_a1.alloc _).below hb2
  have b_v2 := (b_v1.alloc _).below hb2
  have b_x2 := (b_x1.alloc _).below hb2
  have a_v12 := (hr1.mono (below_one _ _)).mono hb2
  clear hb2 b_a1 b_v1 b_x1 hr1 hbw1 c_a0 c_a1 c_a2 l_a c_v0 c_v1 c_v2 l_v c_x0 c_x1 c_x2 l_x i1
  obtain ⟨c_a0, c_a1, c_a2⟩ := b_a2.three
  have l_a := b_a2.lt
  obtain ⟨c_v0, c_v1, c_v2⟩ := b_v2.three
  have l_v := b_v2.lt
  obtain ⟨c_x0, c_x1, c_x2⟩ := b_x2.three
  have l_x := b_x2.lt
  obtain ⟨V2, hV2, hv2⟩ : ∃ V : Arr, V = ⟨false, [1], [2]⟩ ∧ IsArr w2 r2 V := ⟨_, rfl, hr2⟩
  clear hr2
  obtain ⟨Av, cav, Dv, cdv, rfl, -, -⟩ := hv2.open_
  have HV2 := Lib.hid hV2
  clear hV2
  have Lv := Box.new w2 24 #[.bool (V2).ch, .slice Av (V2).sh.length cav, .slice Dv (V2).da.length cdv]
  go_wp2_with fail
  have x1 := (Box.new (w2.alloc (.cells #[.bool (V2).ch, .slice Av (V2).sh.length cav, .slice Dv (V2).da.length cdv] 24)) 3 #[.int .i64 9])
  simp only [World.size_alloc, World.size_setCell] at x1
  have i1 : IsInts ((w2.alloc (.cells #[.bool (V2).ch, .slice Av (V2).sh.length cav, .slice Dv (V2).da.length cdv] 24)).alloc (.cells #[.int .i64 9] 3)) (.slice (some ⟨w2.heap.size + 1, 0, none⟩) 1 1) [9] := x1.isInts (xs := [9]) (n := 1) rfl (by omega)
  clear x1
  have Lv2 := Lv.alloc (.cells #[.int .i64 9] 3)
  clear Lv
  have LL := arrs_one Lv2 (hv2.mono (below_two _ _ _))
  clear Lv2
  refine (vec_any _ [9] _ i1).mono ?_
  rintro e w3 ⟨r3, rfl, hr3, hb3⟩
  have LM := LL.mono hb3
  clear LL i1
  have hbw3 := (hbw2.trans ((below_two w2 _ _).mono hbw2.size)).trans (hb3.mono (hbw2.trans ((below_two w2 _ _).mono hbw2.size)).size)
  have b_a3 := ((b_a2.alloc _).alloc _).below hb3
  have b_v3 := ((b_v2.alloc _).alloc _).below hb3
  have b_x3 := ((b_x2.alloc _).alloc _).below hb3
  have a_v13 := (a_v12.mono (below_two _ _ _)).mono hb3
  have a_v23 := (hv2.mono (below_two _ _ _)).mono hb3
  clear hb3 b_a2 b_v2 b_x2 a_v12 hv2 hbw2 c_a0 c_a1 c_a2 l_a c_v0 c_v1 c_v2 l_v c_x0 c_x1 c_x2 l_x
  obtain ⟨c_a0, c_a1, c_a2⟩ := b_a3.three
  have l_a := b_a3.lt
  obtain ⟨c_v0, c_v1, c_v2⟩ := b_v3.three
  have l_v := b_v3.lt
  obtain ⟨c_x0, c_x1, c_x2⟩ := b_x3.three
  have l_x := b_x3.lt
  go_wp2_with fail
  refine ((show Calls _ _ _ _ (GivesOk (putOf ⟨false, [(([1, 2, 3] : List Int).length : Int)], [1, 2, 3]⟩ [⟨false, [1], [2]⟩] ⟨false, [(([9] : List Int).length : Int)], [9]⟩) _) from (put_ok a_v13 LM hr3 (by rw [HV2.out]; decide +kernel)).mono fun e w' h => by rw [show putOf ⟨false, [(([1, 2, 3] : List Int).length : Int)], [1, 2, 3]⟩ [V2] ⟨false, [(([9] : List Int).length : Int)], [9]⟩ = (putOf ⟨false, [(([1, 2, 3] : List Int).length : Int)], [1, 2, 3]⟩ [⟨false, [1], [2]⟩] ⟨false, [(([9] : List Int).length : Int)], [9]⟩) by rw [HV2.out]] at h; exact h)).mono ?_
  rintro e w4 ⟨r4, rfl, hr4, hb4⟩
  have hbw4 := hbw3.trans (hb4.mono hbw3.size)
  have b_a4 := b_a3.below hb4
  have b_v4 := b_v3.below hb4
  have b_x4 := b_x3.below hb4
  clear hb4 b_a3 b_v3 b_x3 hbw3 c_a0 c_a1 c_a2 l_a c_v0 c_v1 c_v2 l_v c_x0 c_x1 c_x2 l_x a_v13 a_v23 hr3 LM
  obtain ⟨c_a0, c_a1, c_a2⟩ := b_a4.three
  have l_a := b_a4.lt
  obtain ⟨c_v0, c_v1, c_v2⟩ := b_v4.three
  have l_v := b_v4.lt
  obtain ⟨c_x0, c_x1, c_x2⟩ := b_x4.three
  have l_x := b_x4.lt
  obtain ⟨A4, ca4, D4, cd4, rfl, hs4, hd4⟩ := hr4.open_
  go_wp2_with fail
  have bq := Box.new (w4.alloc (.cells #[.bool ((putOf ⟨false, [(([1, 2, 3] : List Int).length : Int)], [1, 2, 3]⟩ [⟨false, [1], [2]⟩] ⟨false, [(([9] : List Int).length : Int)], [9]⟩)).ch, .slice A4 ((putOf ⟨false, [(([1, 2, 3] : List Int).length : Int)], [1, 2, 3]⟩ [⟨false, [1], [2]⟩] ⟨false, [(([9] : List Int).length : Int)], [9]⟩)).sh.length ca4, .slice D4 ((putOf ⟨false, [(([1, 2, 3] : List Int).length : Int)], [1, 2, 3]⟩ [⟨false, [1], [2]⟩] ⟨false, [(([9] : List Int).length : Int)], [9]⟩)).da.length cd4] 24)) 3 #[.int .i64 1, .int .i64 2, .int .i64 9]
  rw [World.size_alloc] at bq
  refine (ints_any _ _ _ [1, 2, 9] _ (hd4.mono (below_two _ _ _)) (bq.isInts rfl (by simp))).mono ?_
  rintro e w5 ⟨r5, rfl, hr5, hb5⟩
  have e5 : r5 = true := hr5.2 (by first | decide | decide +kernel)
  subst e5
  clear hr5 hs4 hd4
  clear hr4
  have hbw5 := (hbw4.trans ((below_two w4 _ _).mono hbw4.size)).trans (hb5.mono (hbw4.trans ((below_two w4 _ _).mono hbw4.size)).size)
  have b_a5 := ((b_a4.alloc _).alloc _).below hb5
  have b_v5 := ((b_v4.alloc _).alloc _).below hb5
  have b_x5 := ((b_x4.alloc _).alloc _).below hb5
  clear hb5 b_a4 b_v4 b_x4 hbw4 c_a0 c_a1 c_a2 l_a c_v0 c_v1 c_v2 l_v c_x0 c_x1 c_x2 l_x bq
  obtain ⟨c_a0, c_a1, c_a2⟩ := b_a5.three
  have l_a := b_a5.lt
  obtain ⟨c_v0, c_v1, c_v2⟩ := b_v5.three
  have l_v := b_v5.lt
  obtain ⟨c_x0, c_x1, c_x2⟩ := b_x5.three
  have l_x := b_x5.lt
  by_cases h1 : atErr a bs = 0
  case neg =>
    have H1 := Lib.hid h1
    clear h1
    go_wp2_with fail
    refine (at_bad (ha.mono hbw5) (hm.mono hbw5) H1.out).mono ?_
    rintro e w6 ⟨rfl, hb6⟩
    have hbw6 := hbw5.trans (hb6.mono hbw5.size)
    have b_a6 := b_a5.below hb6
    have b_v6 := b_v5.below hb6
    have b_x6 := b_x5.below hb6
    clear hb6 b_a5 b_v5 b_x5 hbw5 c_a0 c_a1 c_a2 l_a c_v0 c_v1 c_v2 l_v c_x0 c_x1 c_x2 l_x
    obtain ⟨c_a0, c_a1, c_a2⟩ := b_a6.three
    have l_a := b_a6.lt
    obtain ⟨c_v0, c_v1, c_v2⟩ := b_v6.three
    have l_v := b_v6.lt
    obtain ⟨c_x0, c_x1, c_x2⟩ := b_x6.three
    have l_x := b_x6.lt
    go_wp2_with fail
    go_ret
    exact ⟨rfl, by have := hbw6.size; go_grown⟩
  obtain ⟨t, ht, hbs, hp⟩ := atErr_parts h1
  have LB := Lib.hid (lens_back h1)
  obtain ⟨u, hu, hto⟩ := atOf_ok ht hbs hp
  have H1 := Lib.hid h1
  have PT := Lib.hid ht
  have PB := Lib.hid hbs
  have PP := Lib.hid hp
  have HN := Lib.hid (show a.da.length ≤ 4096 by rw [ht.len]; exact ht.good.2.2)
  have HCU := Lib.hid hu
  have HTO := Lib.hid hto
  obtain ⟨X, hX⟩ : ∃ X, X = atOf a bs := ⟨_, rfl⟩
  have HX := Lib.hid hX
  clear h1 ht hbs hp hu hto hX
  go_wp2_with fail
  refine ((show Calls _ _ _ _ (GivesOk X _) from by rw [HX.out]; exact at_ok (ha.mono hbw5) (hm.mono hbw5) H1.out)).mono ?_
  rintro e w6 ⟨r6, rfl, hr6, hb6⟩
  have hbw6 := hbw5.trans (hb6.mono hbw5.size)
  have b_a6 := b_a5.below hb6
  have b_v6 := b_v5.below hb6
  have b_x6 := b_x5.below hb6
  clear hb6 b_a5 b_v5 b_x5 hbw5 c_a0 c_a1 c_a2 l_a c_v0 c_v1 c_v2 l_v c_x0 c_x1 c_x2 l_x
  obtain ⟨c_a0, c_a1, c_a2⟩ := b_a6.three
  have l_a := b_a6.lt
  obtain ⟨c_v0, c_v1, c_v2⟩ := b_v6.three
  have l_v := b_v6.lt
  obtain ⟨c_x0, c_x1, c_x2⟩ := b_x6.three
  have l_x := b_x6.lt
  obtain ⟨A6, ca6, D6, cd6, rfl, hs6, hd6⟩ := hr6.open_
  go_wp2_with fail
  refine ((show Calls _ _ _ _ (GivesOk a _) from (put_ok (ha.mono (hbw6.trans ((below_one w6 _).mono hbw6.size))) (hm.mono (hbw6.trans ((below_one w6 _).mono hbw6.size))) (hr6.mono (below_one _ _)) (by rw [HX.out]; exact LB.out.1)).mono fun e w' h => by rw [show putOf a bs X = a by rw [HX.out]; exact LB.out.2] at h; exact h)).mono ?_
  rintro e w7 ⟨r7, rfl, hr7, hb7⟩
  have hbw7 := (hbw6.trans ((below_one w6 _).mono hbw6.size)).trans (hb7.mono (hbw6.trans ((below_one w6 _).mono hbw6.size)).size)
  have b_a7 := (b_a6.alloc _).below hb7
  have b_v7 := (b_v6.alloc _).below hb7
  have b_x7 := (b_x6.alloc _).below hb7
  have b_xt7 := (Box.new w6 24 #[.bool (X).ch, .slice A6 (X).sh.length ca6, .slice D6 (X).da.length cd6]).below hb7
  have a_t7 := (hr6.mono (below_one _ _)).mono hb7
  clear hb7 b_a6 b_v6 b_x6 hr6 hbw6 c_a0 c_a1 c_a2 l_a c_v0 c_v1 c_v2 l_v c_x0 c_x1 c_x2 l_x
  obtain ⟨c_a0, c_a1, c_a2⟩ := b_a7.three
  have l_a := b_a7.lt
  obtain ⟨c_v0, c_v1, c_v2⟩ := b_v7.three
  have l_v := b_v7.lt
  obtain ⟨c_x0, c_x1, c_x2⟩ := b_x7.three
  have l_x := b_x7.lt
  obtain ⟨c_xt0, c_xt1, c_xt2⟩ := b_xt7.three
  have l_xt := b_xt7.lt
  obtain ⟨A7, ca7, D7, cd7, rfl, hs7, hd7⟩ := hr7.open_
  go_wp2_with fail
  refine (alike_nil _ _ _ _ _ (hr7.mono (below_one _ _)) (ha.mono (hbw7.trans ((below_one w7 _).mono hbw7.size)))).mono ?_
  rintro e w8 ⟨r8, rfl, hr8, hb8⟩
  have e8 : r8 = true := hr8.2 (rfl)
  subst e8
  clear hr8
  have hbw8 := (hbw7.trans ((below_one w7 _).mono hbw7.size)).trans (hb8.mono (hbw7.trans ((below_one w7 _).mono hbw7.size)).size)
  have b_a8 := (b_a7.alloc _).below hb8
  have b_v8 := (b_v7.alloc _).below hb8
  have b_x8 := (b_x7.alloc _).below hb8
  have b_xt8 := (b_xt7.alloc _).below hb8
  have b_xy8 := (Box.new w7 24 #[.bool (a).ch, .slice A7 (a).sh.length ca7, .slice D7 (a).da.length cd7]).below hb8
  have a_t8 := (a_t7.mono (below_one _ _)).mono hb8
  have a_y8 := (hr7.mono (below_one _ _)).mono hb8
  clear hb8 b_a7 b_v7 b_x7 b_xt7 a_t7 hr7 hbw7 c_a0 c_a1 c_a2 l_a c_v0 c_v1 c_v2 l_v c_x0 c_x1 c_x2 l_x c_xt0 c_xt1 c_xt2 l_xt
  obtain ⟨c_a0, c_a1, c_a2⟩ := b_a8.three
  have l_a := b_a8.lt
  obtain ⟨c_v0, c_v1, c_v2⟩ := b_v8.three
  have l_v := b_v8.lt
  obtain ⟨c_x0, c_x1, c_x2⟩ := b_x8.three
  have l_x := b_x8.lt
  obtain ⟨c_xt0, c_xt1, c_xt2⟩ := b_xt8.three
  have l_xt := b_xt8.lt
  obtain ⟨c_xy0, c_xy1, c_xy2⟩ := b_xy8.three
  have l_xy := b_xy8.lt
  by_cases h3 : putErr a bs v = 0
  case neg =>
    have H3 := Lib.hid h3
    clear h3
    go_wp2_with fail
    refine (put_bad (ha.mono hbw8) (hm.mono hbw8) (hv.mono hbw8) H3.out).mono ?_
    rintro e w9 ⟨rfl, hb9⟩
    have hbw9 := hbw8.trans (hb9.mono hbw8.size)
    have b_a9 := b_a8.below hb9
    have b_v9 := b_v8.below hb9
    have b_x9 := b_x8.below hb9
    have b_xt9 := b_xt8.below hb9
    have a_t9 := a_t8.mono hb9
    clear hb9 b_a8 b_v8 b_x8 b_xt8 a_t8 hbw8 c_a0 c_a1 c_a2 l_a c_v0 c_v1 c_v2 l_v c_x0 c_x1 c_x2 l_x c_xt0 c_xt1 c_xt2 l_xt c_xy0 c_xy1 c_xy2 l_xy a_y8
    obtain ⟨c_a0, c_a1, c_a2⟩ := b_a9.three
    have l_a := b_a9.lt
    obtain ⟨c_v0, c_v1, c_v2⟩ := b_v9.three
    have l_v := b_v9.lt
    obtain ⟨c_x0, c_x1, c_x2⟩ := b_x9.three
    have l_x := b_x9.lt
    obtain ⟨c_xt0, c_xt1, c_xt2⟩ := b_xt9.three
    have l_xt := b_xt9.lt
    go_wp2_with fail
    go_ret
    exact ⟨rfl, by have := hbw9.size; go_grown⟩
  obtain ⟨t', u', ht', -, hvo, hp', hc, hsv⟩ := putErr_parts h3
  have H3 := Lib.hid h3
  have PV := Lib.hid hvo
  have PC := Lib.hid hc
  have PS := Lib.hid hsv
  have PW := Lib.hid (P.put_twice (x := x) h3)
  obtain ⟨P, hP⟩ : ∃ P, P = putOf a bs v := ⟨_, rfl⟩
  obtain ⟨F, hF⟩ : ∃ F, F = flatOf a := ⟨_, rfl⟩
  obtain ⟨Y, hY⟩ : ∃ Y, Y = atOf F bs := ⟨_, rfl⟩
  have hfa := flat_at PT.out PB.out PP.out
  have HP := Lib.hid hP
  have HF := Lib.hid hF
  have HFE := Lib.hid hfa.1
  have HYD := Lib.hid (show Y.da = placesOf t bs by rw [hY, hF, hfa.2])
  have HYL := Lib.hid (show Y.da.length ≤ 4096 by rw [hY, hF, hfa.2]; show (placesOf t bs).length ≤ 4096; rw [placesOf_length PP.out]; exact (cat_val PB.out (pick_parts PP.out).2.2.1).2)
  have HY := Lib.hid hY
  clear h3 ht' hvo hp' hc hsv hP hF hY hfa
  go_wp2_with fail
  refine ((show Calls _ _ _ _ (GivesOk P _) from by rw [HP.out]; exact put_ok (ha.mono hbw8) (hm.mono hbw8) (hv.mono hbw8) H3.out)).mono ?_
  rintro e w9 ⟨r9, rfl, hr9, hb9⟩
  have hbw9 := hbw8.trans (hb9.mono hbw8.size)
  have b_a9 := b_a8.below hb9
  have b_v9 := b_v8.below hb9
  have b_x9 := b_x8.below hb9
  have b_xt9 := b_xt8.below hb9
  have a_t9 := a_t8.mono hb9
  clear hb9 b_a8 b_v8 b_x8 b_xt8 a_t8 hbw8 c_a0 c_a1 c_a2 l_a c_v0 c_v1 c_v2 l_v c_x0 c_x1 c_x2 l_x c_xt0 c_xt1 c_xt2 l_xt c_xy0 c_xy1 c_xy2 l_xy a_y8
  obtain ⟨c_a0, c_a1, c_a2⟩ := b_a9.three
  have l_a := b_a9.lt
  obtain ⟨c_v0, c_v1, c_v2⟩ := b_v9.three
  have l_v := b_v9.lt
  obtain ⟨c_x0, c_x1, c_x2⟩ := b_x9.three
  have l_x := b_x9.lt
  obtain ⟨c_xt0, c_xt1, c_xt2⟩ := b_xt9.three
  have l_xt := b_xt9.lt
  obtain ⟨A9, ca9, D9, cd9, rfl, hs9, hd9⟩ := hr9.open_
  by_cases h5 : putErr a bs x = 0
  case neg =>
    have H5 := Lib.hid h5
    clear h5
    go_wp2_with fail
    refine (put_bad (hr9.mono (below_one _ _)) (hm.mono (hbw9.trans ((below_one w9 _).mono hbw9.size))) (hx.mono (hbw9.trans ((below_one w9 _).mono hbw9.size))) (by rw [HP.out, PW.out.1]; exact H5.out)).mono ?_
    rintro e w10 ⟨rfl, hb10⟩
    have hbw10 := (hbw9.trans ((below_one w9 _).mono hbw9.size)).trans (hb10.mono (hbw9.trans ((below_one w9 _).mono hbw9.size)).size)
    have b_a10 := (b_a9.alloc _).below hb10
    have b_v10 := (b_v9.alloc _).below hb10
    have b_x10 := (b_x9.alloc _).below hb10
    have b_xt10 := (b_xt9.alloc _).below hb10
    have b_xp10 := (Box.new w9 24 #[.bool (P).ch, .slice A9 (P).sh.length ca9, .slice D9 (P).da.length cd9]).below hb10
    have a_t10 := (a_t9.mono (below_one _ _)).mono hb10
    have a_p10 := (hr9.mono (below_one _ _)).mono hb10
    clear hb10 b_a9 b_v9 b_x9 b_xt9 a_t9 hr9 hbw9 c_a0 c_a1 c_a2 l_a c_v0 c_v1 c_v2 l_v c_x0 c_x1 c_x2 l_x c_xt0 c_xt1 c_xt2 l_xt
    obtain ⟨c_a0, c_a1, c_a2⟩ := b_a10.three
    have l_a := b_a10.lt
    obtain ⟨c_v0, c_v1, c_v2⟩ := b_v10.three
    have l_v := b_v10.lt
    obtain ⟨c_x0, c_x1, c_x2⟩ := b_x10.three
    have l_x := b_x10.lt
    obtain ⟨c_xt0, c_xt1, c_xt2⟩ := b_xt10.three
    have l_xt := b_xt10.lt
    obtain ⟨c_xp0, c_xp1, c_xp2⟩ := b_xp10.three
    have l_xp := b_xp10.lt
    go_wp2_with fail
    refine (put_bad (ha.mono (hbw10.trans ((below_one w10 _).mono hbw10.size))) (hm.mono (hbw10.trans ((below_one w10 _).mono hbw10.size))) (hx.mono (hbw10.trans ((below_one w10 _).mono hbw10.size))) H5.out).mono ?_
    rintro e w11 ⟨rfl, hb11⟩
    have hbw11 := (hbw10.trans ((below_one w10 _).mono hbw10.size)).trans (hb11.mono (hbw10.trans ((below_one w10 _).mono hbw10.size)).size)
    have b_a11 := (b_a10.alloc _).below hb11
    have b_v11 := (b_v10.alloc _).below hb11
    have b_x11 := (b_x10.alloc _).below hb11
    have b_xt11 := (b_xt10.alloc _).below hb11
    have b_xp11 := (b_xp10.alloc _).below hb11
    have b_xq11 := (Box.new w10 24 #[.bool false, .slice none 0 0, .slice none 0 0]).below hb11
    have a_t11 := (a_t10.mono (below_one _ _)).mono hb11
    have a_p11 := (a_p10.mono (below_one _ _)).mono hb11
    clear hb11 b_a10 b_v10 b_x10 b_xt10 b_xp10 a_t10 a_p10 hbw10 c_a0 c_a1 c_a2 l_a c_v0 c_v1 c_v2 l_v c_x0 c_x1 c_x2 l_x c_xt0 c_xt1 c_xt2 l_xt c_xp0 c_xp1 c_xp2 l_xp
    obtain ⟨c_a0, c_a1, c_a2⟩ := b_a11.three
    have l_a := b_a11.lt
    obtain ⟨c_v0, c_v1, c_v2⟩ := b_v11.three
    have l_v := b_v11.lt
    obtain ⟨c_x0, c_x1, c_x2⟩ := b_x11.three
    have l_x := b_x11.lt
    obtain ⟨c_xt0, c_xt1, c_xt2⟩ := b_xt11.three
    have l_xt := b_xt11.lt
    obtain ⟨c_xp0, c_xp1, c_xp2⟩ := b_xp11.three
    have l_xp := b_xp11.lt
    obtain ⟨c_xq0, c_xq1, c_xq2⟩ := b_xq11.three
    have l_xq := b_xq11.lt
    go_wp2_with fail
    refine (iota_ok a.da.length _ HN.out).mono ?_
    rintro e w12 ⟨r12, rfl, hr12, hb12⟩
    have hbw12 := (hbw11.trans ((below_one w11 _).mono hbw11.size)).trans (hb12.mono (hbw11.trans ((below_one w11 _).mono hbw11.size)).size)
    have b_a12 := (b_a11.alloc _).below hb12
    have b_v12 := (b_v11.alloc _).below hb12
    have b_x12 := (b_x11.alloc _).below hb12
    have b_xt12 := (b_xt11.alloc _).below hb12
    have b_xp12 := (b_xp11.alloc _).below hb12
    have b_xq12 := (b_xq11.alloc _).below hb12
    have b_xr12 := (Box.new w11 24 #[.bool false, .slice none 0 0, .slice none 0 0]).below hb12
    have a_t12 := (a_t11.mono (below_one _ _)).mono hb12
    have a_p12 := (a_p11.mono (below_one _ _)).mono hb12
    clear hb12 b_a11 b_v11 b_x11 b_xt11 b_xp11 b_xq11 a_t11 a_p11 hbw11 c_a0 c_a1 c_a2 l_a c_v0 c_v1 c_v2 l_v c_x0 c_x1 c_x2 l_x c_xt0 c_xt1 c_xt2 l_xt c_xp0 c_xp1 c_xp2 l_xp c_xq0 c_xq1 c_xq2 l_xq
    obtain ⟨c_a0, c_a1, c_a2⟩ := b_a12.three
    have l_a := b_a12.lt
    obtain ⟨c_v0, c_v1, c_v2⟩ := b_v12.three
    have l_v := b_v12.lt
    obtain ⟨c_x0, c_x1, c_x2⟩ := b_x12.three
    have l_x := b_x12.lt
    obtain ⟨c_xt0, c_xt1, c_xt2⟩ := b_xt12.three
    have l_xt := b_xt12.lt
    obtain ⟨c_xp0, c_xp1, c_xp2⟩ := b_xp12.three
    have l_xp := b_xp12.lt
    obtain ⟨c_xq0, c_xq1, c_xq2⟩ := b_xq12.three
    have l_xq := b_xq12.lt
    obtain ⟨c_xr0, c_xr1, c_xr2⟩ := b_xr12.three
    have l_xr := b_xr12.lt
    obtain ⟨A12, ca12, D12, cd12, rfl, hs12, hd12⟩ := hr12.open_
    have o_a_i := l_a
    have o_v_i := l_v
    have o_x_i := l_x
    have o_xt_i := l_xt
    have o_xp_i := l_xp
    have o_xq_i := l_xq
    have o_xr_i := l_xr
    go_wp2_with fail
    refine ((show Calls _ _ _ _ (GivesOk F _) from by rw [HF.out, show flatOf a = rshOf (ints t) (prod t) (firstNums a.da.length) by unfold flatOf; rw [PT.out.sh, PT.out.nsh_eq]]; exact reshape_ok ((IsArr.shapeOf (ha.mono (hbw12.trans ((below_one w12 _).mono hbw12.size)))).eq PT.out.sh) (hr12.mono (below_one _ _)) PT.out.good (firstNums_ok HN.out) (by intro h; simp only [firstNums, ints, List.length_map, List.length_range]; rw [PT.out.len]; exact h))).mono ?_
    rintro e w13 ⟨r13, rfl, hr13, hb13⟩
    have hbw13 := (hbw12.trans ((below_one w12 _).mono hbw12.size)).trans (hb13.mono (hbw12.trans ((below_one w12 _).mono hbw12.size)).size)
    have b_a13 := (b_a12.alloc _).below hb13
    have b_v13 := (b_v12.alloc _).below hb13
    have b_x13 := (b_x12.alloc _).below hb13
    have b_xt13 := (b_xt12.alloc _).below hb13
    have b_xp13 := (b_xp12.alloc _).below hb13
    have b_xq13 := (b_xq12.alloc _).below hb13
    have b_xr13 := (b_xr12.alloc _).below hb13
    have b_xi13 := (Box.new w12 24 #[.bool (firstNums a.da.length).ch, .slice A12 (firstNums a.da.length).sh.length ca12, .slice D12 (firstNums a.da.length).da.length cd12]).below hb13
    have a_t13 := (a_t12.mono (below_one _ _)).mono hb13
    have a_p13 := (a_p12.mono (below_one _ _)).mono hb13
    have a_i13 := (hr12.mono (below_one _ _)).mono hb13
    clear hb13 b_a12 b_v12 b_x12 b_xt12 b_xp12 b_xq12 b_xr12 a_t12 a_p12 hr12 hbw12 c_a0 c_a1 c_a2 l_a c_v0 c_v1 c_v2 l_v c_x0 c_x1 c_x2 l_x c_xt0 c_xt1 c_xt2 l_xt c_xp0 c_xp1 c_xp2 l_xp c_xq0 c_xq1 c_xq2 l_xq c_xr0 c_xr1 c_xr2 l_xr
    obtain ⟨c_a0, c_a1, c_a2⟩ := b_a13.three
    have l_a := b_a13.lt
    obtain ⟨c_v0, c_v1, c_v2⟩ := b_v13.three
    have l_v := b_v13.lt
    obtain ⟨c_x0, c_x1, c_x2⟩ := b_x13.three
    have l_x := b_x13.lt
    obtain ⟨c_xt0, c_xt1, c_xt2⟩ := b_xt13.three
    have l_xt := b_xt13.lt
    obtain ⟨c_xp0, c_xp1, c_xp2⟩ := b_xp13.three
    have l_xp := b_xp13.lt
    obtain ⟨c_xq0, c_xq1, c_xq2⟩ := b_xq13.three
    have l_xq := b_xq13.lt
    obtain ⟨c_xr0, c_xr1, c_xr2⟩ := b_xr13.three
    have l_xr := b_xr13.lt
    obtain ⟨c_xi0, c_xi1, c_xi2⟩ := b_xi13.three
    have l_xi := b_xi13.lt
    obtain ⟨A13, ca13, D13, cd13, rfl, hs13, hd13⟩ := hr13.open_
    have fz13 := b_xi13.frozen
    have sc_a0_13 := cellS (q := ⟨w12.heap.size, 0, none⟩) (u := (.bool (F).ch)) c_a0 (by simp; omega)
    have sc_a1_13 := cellS (q := ⟨w12.heap.size, 1, none⟩) (u := (.slice A13 (F).sh.length ca13)) c_a1 (by simp; omega)
    have sc_a2_13 := cellS (q := ⟨w12.heap.size, 2, none⟩) (u := (.slice D13 (F).da.length cd13)) c_a2 (by simp; omega)
    have sc_v0_13 := cellS (q := ⟨w12.heap.size, 0, none⟩) (u := (.bool (F).ch)) c_v0 (by simp; omega)
    have sc_v1_13 := cellS (q := ⟨w12.heap.size, 1, none⟩) (u := (.slice A13 (F).sh.length ca13)) c_v1 (by simp; omega)
    have sc_v2_13 := cellS (q := ⟨w12.heap.size, 2, none⟩) (u := (.slice D13 (F).da.length cd13)) c_v2 (by simp; omega)
    have sc_x0_13 := cellS (q := ⟨w12.heap.size, 0, none⟩) (u := (.bool (F).ch)) c_x0 (by simp; omega)
    have sc_x1_13 := cellS (q := ⟨w12.heap.size, 1, none⟩) (u := (.slice A13 (F).sh.length ca13)) c_x1 (by simp; omega)
    have sc_x2_13 := cellS (q := ⟨w12.heap.size, 2, none⟩) (u := (.slice D13 (F).da.length cd13)) c_x2 (by simp; omega)
    have sc_xt0_13 := cellS (q := ⟨w12.heap.size, 0, none⟩) (u := (.bool (F).ch)) c_xt0 (by simp; omega)
    have sc_xt1_13 := cellS (q := ⟨w12.heap.size, 1, none⟩) (u := (.slice A13 (F).sh.length ca13)) c_xt1 (by simp; omega)
    have sc_xt2_13 := cellS (q := ⟨w12.heap.size, 2, none⟩) (u := (.slice D13 (F).da.length cd13)) c_xt2 (by simp; omega)
    have sc_xp0_13 := cellS (q := ⟨w12.heap.size, 0, none⟩) (u := (.bool (F).ch)) c_xp0 (by simp; omega)
    have sc_xp1_13 := cellS (q := ⟨w12.heap.size, 1, none⟩) (u := (.slice A13 (F).sh.length ca13)) c_xp1 (by simp; omega)
    have sc_xp2_13 := cellS (q := ⟨w12.heap.size, 2, none⟩) (u := (.slice D13 (F).da.length cd13)) c_xp2 (by simp; omega)
    have sc_xq0_13 := cellS (q := ⟨w12.heap.size, 0, none⟩) (u := (.bool (F).ch)) c_xq0 (by simp; omega)
    have sc_xq1_13 := cellS (q := ⟨w12.heap.size, 1, none⟩) (u := (.slice A13 (F).sh.length ca13)) c_xq1 (by simp; omega)
    have sc_xq2_13 := cellS (q := ⟨w12.heap.size, 2, none⟩) (u := (.slice D13 (F).da.length cd13)) c_xq2 (by simp; omega)
    have sc_xr0_13 := cellS (q := ⟨w12.heap.size, 0, none⟩) (u := (.bool (F).ch)) c_xr0 (by simp; omega)
    have sc_xr1_13 := cellS (q := ⟨w12.heap.size, 1, none⟩) (u := (.slice A13 (F).sh.length ca13)) c_xr1 (by simp; omega)
    have sc_xr2_13 := cellS (q := ⟨w12.heap.size, 2, none⟩) (u := (.slice D13 (F).da.length cd13)) c_xr2 (by simp; omega)
    have gb13 := grownBy_three w13 (w12.heap.size) (.bool (F).ch) (.slice A13 (F).sh.length ca13) (.slice D13 (F).da.length cd13)
    have n_a13 := b_a13.grown gb13 (by simp; omega)
    have n_v13 := b_v13.grown gb13 (by simp; omega)
    have n_x13 := b_x13.grown gb13 (by simp; omega)
    have n_xt13 := b_xt13.grown gb13 (by simp; omega)
    have n_xp13 := b_xp13.grown gb13 (by simp; omega)
    have n_xq13 := b_xq13.grown gb13 (by simp; omega)
    have n_xr13 := b_xr13.grown gb13 (by simp; omega)
    have n_xi13 := ((b_xi13.store 0 (.bool (F).ch)).store 1 (.slice A13 (F).sh.length ca13)).store 2 (.slice D13 (F).da.length cd13)
    simp only [List.setIfInBounds_toArray, List.set_cons_zero, List.set_cons_succ] at n_xi13
    have m_t13 := a_t13.laid b_xi13 (.bool (F).ch) (.slice A13 (F).sh.length ca13) (.slice D13 (F).da.length cd13)
    have m_p13 := a_p13.laid b_xi13 (.bool (F).ch) (.slice A13 (F).sh.length ca13) (.slice D13 (F).da.length cd13)
    have m_f13 := hr13.laid b_xi13 (.bool (F).ch) (.slice A13 (F).sh.length ca13) (.slice D13 (F).da.length cd13)
    have hbs13 : Below w.heap.size w (((w13.setCell ⟨w12.heap.size, 0, none⟩ (.bool (F).ch)).setCell ⟨w12.heap.size, 1, none⟩ (.slice A13 (F).sh.length ca13)).setCell ⟨w12.heap.size, 2, none⟩ (.slice D13 (F).da.length cd13)) := by have := hbw13.size; go_grown
    go_wp2_with fail
    refine ((show Calls _ _ _ _ (GivesOk Y _) from by rw [HY.out]; exact at_ok m_f13 (hm.mono hbs13) (by rw [HF.out]; exact HFE.out))).mono ?_
    rintro e w14 ⟨r14, rfl, hr14, hb14⟩
    have hbw14 := hbs13.trans (hb14.mono hbs13.size)
    have b_a14 := n_a13.below hb14
    have b_v14 := n_v13.below hb14
    have b_x14 := n_x13.below hb14
    have b_xt14 := n_xt13.below hb14
    have b_xp14 := n_xp13.below hb14
    have b_xq14 := n_xq13.below hb14
    have b_xr14 := n_xr13.below hb14
    have b_xi14 := n_xi13.below hb14
    have a_t14 := m_t13.mono hb14
    have a_p14 := m_p13.mono hb14
    have a_f14 := m_f13.mono hb14
    clear hb14 n_a13 n_v13 n_x13 n_xt13 n_xp13 n_xq13 n_xr13 n_xi13 m_t13 m_p13 m_f13 hbs13 c_a0 c_a1 c_a2 l_a c_v0 c_v1 c_v2 l_v c_x0 c_x1 c_x2 l_x c_xt0 c_xt1 c_xt2 l_xt c_xp0 c_xp1 c_xp2 l_xp c_xq0 c_xq1 c_xq2 l_xq c_xr0 c_xr1 c_xr2 l_xr c_xi0 c_xi1 c_xi2 l_xi sc_a0_13 sc_a1_13 sc_a2_13 sc_v0_13 sc_v1_13 sc_v2_13 sc_x0_13 sc_x1_13 sc_x2_13 sc_xt0_13 sc_xt1_13 sc_xt2_13 sc_xp0_13 sc_xp1_13 sc_xp2_13 sc_xq0_13 sc_xq1_13 sc_xq2_13 sc_xr0_13 sc_xr1_13 sc_xr2_13 fz13
    obtain ⟨c_a0, c_a1, c_a2⟩ := b_a14.three
    have l_a := b_a14.lt
    obtain ⟨c_v0, c_v1, c_v2⟩ := b_v14.three
    have l_v := b_v14.lt
    obtain ⟨c_x0, c_x1, c_x2⟩ := b_x14.three
    have l_x := b_x14.lt
    obtain ⟨c_xt0, c_xt1, c_xt2⟩ := b_xt14.three
    have l_xt := b_xt14.lt
    obtain ⟨c_xp0, c_xp1, c_xp2⟩ := b_xp14.three
    have l_xp := b_xp14.lt
    obtain ⟨c_xq0, c_xq1, c_xq2⟩ := b_xq14.three
    have l_xq := b_xq14.lt
    obtain ⟨c_xr0, c_xr1, c_xr2⟩ := b_xr14.three
    have l_xr := b_xr14.lt
    obtain ⟨c_xi0, c_xi1, c_xi2⟩ := b_xi14.three
    have l_xi := b_xi14.lt
    obtain ⟨A14, ca14, D14, cd14, rfl, hs14, hd14⟩ := hr14.open_
    have EY := Lib.hid (IsArr.dataOf hr14).elems
    have hbl0 := below_one w14 (.cells #[.bool (Y).ch, .slice A14 (Y).sh.length ca14, .slice D14 (Y).da.length cd14] 24)
    go_wp2_with fail
    obtain ⟨W9, hW9⟩ : ∃ W, W = (w14.alloc (.cells #[.bool (Y).ch, .slice A14 (Y).sh.length ca14, .slice D14 (Y).da.length cd14] 24)) := ⟨_, rfl⟩
    have Ba := (b_a14.alloc (.cells #[.bool (Y).ch, .slice A14 (Y).sh.length ca14, .slice D14 (Y).da.length cd14] 24))
    have Bv := (b_v14.alloc (.cells #[.bool (Y).ch, .slice A14 (Y).sh.length ca14, .slice D14 (Y).da.length cd14] 24))
    have Bx := (b_x14.alloc (.cells #[.bool (Y).ch, .slice A14 (Y).sh.length ca14, .slice D14 (Y).da.length cd14] 24))
    have Bxt := (b_xt14.alloc (.cells #[.bool (Y).ch, .slice A14 (Y).sh.length ca14, .slice D14 (Y).da.length cd14] 24))
    have Bxp := (b_xp14.alloc (.cells #[.bool (Y).ch, .slice A14 (Y).sh.length ca14, .slice D14 (Y).da.length cd14] 24))
    have Bxq := (b_xq14.alloc (.cells #[.bool (Y).ch, .slice A14 (Y).sh.length ca14, .slice D14 (Y).da.length cd14] 24))
    have Bxr := (b_xr14.alloc (.cells #[.bool (Y).ch, .slice A14 (Y).sh.length ca14, .slice D14 (Y).da.length cd14] 24))
    have Bxat := (Box.new w14 24 #[.bool (Y).ch, .slice A14 (Y).sh.length ca14, .slice D14 (Y).da.length cd14])
    have ARt := a_t14.mono hbl0
    have ARp := a_p14.mono hbl0
    have ARat := hr14.mono hbl0
    have EY9 := Elems.mono EY.out hbl0
    have HBW9 := hbw14.trans (hbl0.mono hbw14.size)
    rw [← hW9] at EY9 HBW9 Ba Bv Bx Bxt Bxp Bxq Bxr Bxat ARt ARp ARat ⊢
    have EYH := Lib.hid EY9
    clear hW9 EY9 hbl0 EY c_a0 c_a1 c_a2 l_a c_v0 c_v1 c_v2 l_v c_x0 c_x1 c_x2 l_x c_xt0 c_xt1 c_xt2 l_xt c_xp0 c_xp1 c_xp2 l_xp c_xq0 c_xq1 c_xq2 l_xq c_xr0 c_xr1 c_xr2 l_xr c_xi0 c_xi1 c_xi2 l_xi a_f14
    go_loopw [29] (fun s29 wr => ∃ q : Nat, q ≤ Y.da.length ∧ s29 = .int .i64 q ∧ (∀ i j, j < i → i < q → Y.da.getD i 0 ≠ Y.da.getD j 0) ∧ Below W9.heap.size W9 wr) (fun s29 _ => Y.da.length - (intOf s29).toNat)
    case atStart => exact ⟨0, Nat.zero_le _, rfl, (fun i j _ h => absurd h (Nat.not_lt_zero _)), Below.refl _ _⟩
    case round =>
      obtain ⟨q, hq, rfl, hno, hbx⟩ := hrel
      have HNO := Lib.hid hno
      have hyl := HYL.out
      clear hno
      obtain ⟨ka0, ka1, ka2⟩ := (Ba.below hbx).three
      obtain ⟨kv0, kv1, kv2⟩ := (Bv.below hbx).three
      obtain ⟨kx0, kx1, kx2⟩ := (Bx.below hbx).three
      obtain ⟨kxt0, kxt1, kxt2⟩ := (Bxt.below hbx).three
      obtain ⟨kxp0, kxp1, kxp2⟩ := (Bxp.below hbx).three
      obtain ⟨kxq0, kxq1, kxq2⟩ := (Bxq.below hbx).three
      obtain ⟨kxr0, kxr1, kxr2⟩ := (Bxr.below hbx).three
      obtain ⟨kxat0, kxat1, kxat2⟩ := (Bxat.below hbx).three
      rcases Nat.lt_or_ge q Y.da.length with hlt | hge
      · go_wp2_with fail
        clear ka0 ka1 ka2 kv0 kv1 kv2 kx0 kx1 kx2 kxt0 kxt1 kxt2 kxp0 kxp1 kxp2 kxq0 kxq1 kxq2 kxr0 kxr1 kxr2 kxat0 kxat1 kxat2
        obtain ⟨ax, x0, hax, hx0, hlx, hcx⟩ := Elems.later EYH.out (Below.refl _ _) hlt
        subst hax
        have HX0 := Lib.hid (show Y.da.getD q 0 = x0 by rw [List.getD_eq_getElem?_getD, hx0]; rfl)
        have HCX := Lib.hid hcx
        clear hx0 hcx
        go_loopw [30] (fun s30 wi => ∃ j : Nat, j ≤ q ∧ s30 = .int .i64 j ∧ (∀ j', j' < j → Y.da.getD q 0 ≠ Y.da.getD j' 0) ∧ Below W9.heap.size W9 wi) (fun s30 _ => q - (intOf s30).toNat)
        case atStart => exact ⟨0, Nat.zero_le _, rfl, (fun j h => absurd h (Nat.not_lt_zero _)), hbx⟩
        case round =>
          clear hbx
          obtain ⟨j, hj, rfl, hnj, hbx⟩ := hrel
          have HNJ := Lib.hid hnj
          clear hnj
          obtain ⟨ka0, ka1, ka2⟩ := (Ba.below hbx).three
          obtain ⟨kv0, kv1, kv2⟩ := (Bv.below hbx).three
          obtain ⟨kx0, kx1, kx2⟩ := (Bx.below hbx).three
          obtain ⟨kxt0, kxt1, kxt2⟩ := (Bxt.below hbx).three
          obtain ⟨kxp0, kxp1, kxp2⟩ := (Bxp.below hbx).three
          obtain ⟨kxq0, kxq1, kxq2⟩ := (Bxq.below hbx).three
          obtain ⟨kxr0, kxr1, kxr2⟩ := (Bxr.below hbx).three
          obtain ⟨kxat0, kxat1, kxat2⟩ := (Bxat.below hbx).three
          rcases Nat.lt_or_ge j q with hjl | hjg
          · have hcx1 := (hbx.cell (p := ax.add q) (by rw [addr_block_add]; exact hlx)).trans HCX.out
            obtain ⟨ax2, x2, hax2, hx2, hlx2, hcx2⟩ := Elems.later EYH.out hbx (k := j) (by omega)
            injection hax2 with hax2
            subst hax2
            have HX2 := Lib.hid (show Y.da.getD j 0 = x2 by rw [List.getD_eq_getElem?_getD, hx2]; rfl)
            have hjy : j < Y.da.length := by omega
            clear hx2
            by_cases hxx : x0 = x2
            · have ex : (x0 == x2) = true := by simp [hxx]
              clear hxx
              go_wp2_with fail
              go_quiet (fail)
              all_goals go_wp2_with fail
              go_ret
              exact ⟨rfl, (HBW9.trans (hbx.mono HBW9.size)).trans (below_draws _ _ _)⟩
            · have ex : (x0 == x2) = false := by simp [hxx]
              have HXX := Lib.hid hxx
              clear hxx
              go_wp2_with fail
              go_quiet (fail)
              all_goals go_wp2_with fail
              go_roundw
              case rel => exact ⟨j + 1, by omega, by go_num, (fun j' h => by rcases Nat.lt_or_ge j' j with h1 | h1; exact HNJ.out j' h1; have e : j' = j := (by omega); subst e; rw [HX0.out, HX2.out]; exact HXX.out), hbx.trans (below_draws _ _ _)⟩
              case measure => simp [intOf]; omega
          · have hjq : j = q := by omega
            subst hjq
            go_wp2_with fail
            go_roundw
            case rel => exact ⟨j + 1, by omega, by go_num, (fun i j2 h1 h2 => by rcases Nat.lt_or_ge i j with h3 | h3; exact HNO.out i j2 h1 h3; have e : i = j := (by omega); subst e; exact HNJ.out j2 h1), hbx⟩
            case measure => simp [intOf]; omega
      · have hqe : q = Y.da.length := by omega
        subst hqe
        have HD := Lib.hid (put_told PT.out PB.out PV.out PP.out PC.out PS.out (fun i j h1 h2 => by have := HNO.out i j h1 (by rw [HYD.out]; exact h2); rw [HYD.out] at this; exact this))
        clear hge ka0 ka1 ka2 kv0 kv1 kv2 kx0 kx1 kx2 kxt0 kxt1 kxt2 kxp0 kxp1 kxp2 kxq0 kxq1 kxq2 kxr0 kxr1 kxr2 kxat0 kxat1 kxat2
        have hbw15 := HBW9.trans (hbx.mono HBW9.size)
        have b_a15 := Ba.below hbx
        have b_v15 := Bv.below hbx
        have b_x15 := Bx.below hbx
        have b_xt15 := Bxt.below hbx
        have b_xp15 := Bxp.below hbx
        have b_xq15 := Bxq.below hbx
        have b_xr15 := Bxr.below hbx
        have b_xat15 := Bxat.below hbx
        have a_t15 := ARt.mono hbx
        have a_p15 := ARp.mono hbx
        have a_at15 := ARat.mono hbx
        clear hbx Ba Bv Bx Bxt Bxp Bxq Bxr Bxat ARt ARp ARat
        obtain ⟨c_a0, c_a1, c_a2⟩ := b_a15.three
        have l_a := b_a15.lt
        obtain ⟨c_v0, c_v1, c_v2⟩ := b_v15.three
        have l_v := b_v15.lt
        obtain ⟨c_x0, c_x1, c_x2⟩ := b_x15.three
        have l_x := b_x15.lt
        obtain ⟨c_xt0, c_xt1, c_xt2⟩ := b_xt15.three
        have l_xt := b_xt15.lt
        obtain ⟨c_xp0, c_xp1, c_xp2⟩ := b_xp15.three
        have l_xp := b_xp15.lt
        obtain ⟨c_xq0, c_xq1, c_xq2⟩ := b_xq15.three
        have l_xq := b_xq15.lt
        obtain ⟨c_xr0, c_xr1, c_xr2⟩ := b_xr15.three
        have l_xr := b_xr15.lt
        obtain ⟨c_xat0, c_xat1, c_xat2⟩ := b_xat15.three
        have l_xat := b_xat15.lt
        obtain ⟨Z, hZ⟩ : ∃ Z, Z = rshOf (catSh bs) (prodLen bs) v := ⟨_, rfl⟩
        have HZ := Lib.hid hZ
        clear hZ
        go_wp2_with fail
        refine ((show Calls _ _ _ _ (GivesOk Z _) from (at_ok a_p15 (hm.mono hbw15) (by rw [HP.out]; exact HD.out.1)).mono fun e w' h => by rw [show atOf P bs = Z by rw [HP.out, HD.out.2, ← HZ.out]] at h; exact h)).mono ?_
        rintro e w16 ⟨r16, rfl, hr16, hb16⟩
        have hbw16 := hbw15.trans (hb16.mono hbw15.size)
        have b_a16 := b_a15.below hb16
        have b_v16 := b_v15.below hb16
        have b_x16 := b_x15.below hb16
        have b_xt16 := b_xt15.below hb16
        have b_xp16 := b_xp15.below hb16
        have b_xq16 := b_xq15.below hb16
        have b_xr16 := b_xr15.below hb16
        have b_xat16 := b_xat15.below hb16
        have a_t16 := a_t15.mono hb16
        have a_p16 := a_p15.mono hb16
        have a_at16 := a_at15.mono hb16
        clear hb16 b_a15 b_v15 b_x15 b_xt15 b_xp15 b_xq15 b_xr15 b_xat15 a_t15 a_p15 a_at15 hbw15 c_a0 c_a1 c_a2 l_a c_v0 c_v1 c_v2 l_v c_x0 c_x1 c_x2 l_x c_xt0 c_xt1 c_xt2 l_xt c_xp0 c_xp1 c_xp2 l_xp c_xq0 c_xq1 c_xq2 l_xq c_xr0 c_xr1 c_xr2 l_xr c_xat0 c_xat1 c_xat2 l_xat
        obtain ⟨c_a0, c_a1, c_a2⟩ := b_a16.three
        have l_a := b_a16.lt
        obtain ⟨c_v0, c_v1, c_v2⟩ := b_v16.three
        have l_v := b_v16.lt
        obtain ⟨c_x0, c_x1, c_x2⟩ := b_x16.three
        have l_x := b_x16.lt
        obtain ⟨c_xt0, c_xt1, c_xt2⟩ := b_xt16.three
        have l_xt := b_xt16.lt
        obtain ⟨c_xp0, c_xp1, c_xp2⟩ := b_xp16.three
        have l_xp := b_xp16.lt
        obtain ⟨c_xq0, c_xq1, c_xq2⟩ := b_xq16.three
        have l_xq := b_xq16.lt
        obtain ⟨c_xr0, c_xr1, c_xr2⟩ := b_xr16.three
        have l_xr := b_xr16.lt
        obtain ⟨c_xat0, c_xat1, c_xat2⟩ := b_xat16.three
        have l_xat := b_xat16.lt
        obtain ⟨A16, ca16, D16, cd16, rfl, hs16, hd16⟩ := hr16.open_
        have hpl := Lib.hid (show prod u = prodLen bs by obtain ⟨u2, e1, e2⟩ := catSh_ints PB.out; rw [HCU.out] at e1; rw [ints_inj e1, e2])
        go_wp2_with fail
        refine ((show Calls _ _ _ _ (GivesOk Z _) from (reshape_ok ((IsArr.shapeOf (a_t16.mono (below_one _ _))).eq (by rw [HX.out]; exact HCU.out)) (hv.mono (hbw16.trans ((below_one w16 _).mono hbw16.size))) HTO.out.good PV.out (fun h => by have hl := put_len PB.out PV.out PS.out; by_cases c : v.sh = []; rw [if_pos c] at hl; omega; rw [if_neg c] at hl; rw [hl, ← hpl.out]; exact h)).mono fun e w' h => by rw [show rshOf (ints u) (prod u) v = Z by rw [HZ.out, ← hpl.out, HCU.out]] at h; exact h)).mono ?_
        rintro e w17 ⟨r17, rfl, hr17, hb17⟩
        have hbw17 := (hbw16.trans ((below_one w16 _).mono hbw16.size)).trans (hb17.mono (hbw16.trans ((below_one w16 _).mono hbw16.size)).size)
        have b_a17 := (b_a16.alloc _).below hb17
        have b_v17 := (b_v16.alloc _).below hb17
        have b_x17 := (b_x16.alloc _).below hb17
        have b_xt17 := (b_xt16.alloc _).below hb17
        have b_xp17 := (b_xp16.alloc _).below hb17
        have b_xq17 := (b_xq16.alloc _).below hb17
        have b_xr17 := (b_xr16.alloc _).below hb17
        have b_xat17 := (b_xat16.alloc _).below hb17
        have b_xgot17 := (Box.new w16 24 #[.bool (Z).ch, .slice A16 (Z).sh.length ca16, .slice D16 (Z).da.length cd16]).below hb17
        have a_t17 := (a_t16.mono (below_one _ _)).mono hb17
        have a_p17 := (a_p16.mono (below_one _ _)).mono hb17
        have a_at17 := (a_at16.mono (below_one _ _)).mono hb17
        have a_got17 := (hr16.mono (below_one _ _)).mono hb17
        clear hb17 b_a16 b_v16 b_x16 b_xt16 b_xp16 b_xq16 b_xr16 b_xat16 a_t16 a_p16 a_at16 hr16 hbw16 c_a0 c_a1 c_a2 l_a c_v0 c_v1 c_v2 l_v c_x0 c_x1 c_x2 l_x c_xt0 c_xt1 c_xt2 l_xt c_xp0 c_xp1 c_xp2 l_xp c_xq0 c_xq1 c_xq2 l_xq c_xr0 c_xr1 c_xr2 l_xr c_xat0 c_xat1 c_xat2 l_xat
        obtain ⟨c_a0, c_a1, c_a2⟩ := b_a17.three
        have l_a := b_a17.lt
        obtain ⟨c_v0, c_v1, c_v2⟩ := b_v17.three
        have l_v := b_v17.lt
        obtain ⟨c_x0, c_x1, c_x2⟩ := b_x17.three
        have l_x := b_x17.lt
        obtain ⟨c_xt0, c_xt1, c_xt2⟩ := b_xt17.three
        have l_xt := b_xt17.lt
        obtain ⟨c_xp0, c_xp1, c_xp2⟩ := b_xp17.three
        have l_xp := b_xp17.lt
        obtain ⟨c_xq0, c_xq1, c_xq2⟩ := b_xq17.three
        have l_xq := b_xq17.lt
        obtain ⟨c_xr0, c_xr1, c_xr2⟩ := b_xr17.three
        have l_xr := b_xr17.lt
        obtain ⟨c_xat0, c_xat1, c_xat2⟩ := b_xat17.three
        have l_xat := b_xat17.lt
        obtain ⟨c_xgot0, c_xgot1, c_xgot2⟩ := b_xgot17.three
        have l_xgot := b_xgot17.lt
        obtain ⟨A17, ca17, D17, cd17, rfl, hs17, hd17⟩ := hr17.open_
        go_wp2_with fail
        refine (alike_nil _ _ _ _ _ (a_got17.mono (below_one _ _)) (hr17.mono (below_one _ _))).mono ?_
        rintro e w18 ⟨r18, rfl, hr18, hb18⟩
        have e18 : r18 = true := hr18.2 (rfl)
        subst e18
        clear hr18
        have hbw18 := (hbw17.trans ((below_one w17 _).mono hbw17.size)).trans (hb18.mono (hbw17.trans ((below_one w17 _).mono hbw17.size)).size)
        have b_a18 := (b_a17.alloc _).below hb18
        have b_v18 := (b_v17.alloc _).below hb18
        have b_x18 := (b_x17.alloc _).below hb18
        have b_xt18 := (b_xt17.alloc _).below hb18
        have b_xp18 := (b_xp17.alloc _).below hb18
        have b_xq18 := (b_xq17.alloc _).below hb18
        have b_xr18 := (b_xr17.alloc _).below hb18
        have b_xat18 := (b_xat17.alloc _).below hb18
        have b_xgot18 := (b_xgot17.alloc _).below hb18
        have b_xput18 := (Box.new w17 24 #[.bool (Z).ch, .slice A17 (Z).sh.length ca17, .slice D17 (Z).da.length cd17]).below hb18
        have a_t18 := (a_t17.mono (below_one _ _)).mono hb18
        have a_p18 := (a_p17.mono (below_one _ _)).mono hb18
        have a_at18 := (a_at17.mono (below_one _ _)).mono hb18
        have a_got18 := (a_got17.mono (below_one _ _)).mono hb18
        have a_put18 := (hr17.mono (below_one _ _)).mono hb18
        clear hb18 b_a17 b_v17 b_x17 b_xt17 b_xp17 b_xq17 b_xr17 b_xat17 b_xgot17 a_t17 a_p17 a_at17 a_got17 hr17 hbw17 c_a0 c_a1 c_a2 l_a c_v0 c_v1 c_v2 l_v c_x0 c_x1 c_x2 l_x c_xt0 c_xt1 c_xt2 l_xt c_xp0 c_xp1 c_xp2 l_xp c_xq0 c_xq1 c_xq2 l_xq c_xr0 c_xr1 c_xr2 l_xr c_xat0 c_xat1 c_xat2 l_xat c_xgot0 c_xgot1 c_xgot2 l_xgot
        obtain ⟨c_a0, c_a1, c_a2⟩ := b_a18.three
        have l_a := b_a18.lt
        obtain ⟨c_v0, c_v1, c_v2⟩ := b_v18.three
        have l_v := b_v18.lt
        obtain ⟨c_x0, c_x1, c_x2⟩ := b_x18.three
        have l_x := b_x18.lt
        obtain ⟨c_xt0, c_xt1, c_xt2⟩ := b_xt18.three
        have l_xt := b_xt18.lt
        obtain ⟨c_xp0, c_xp1, c_xp2⟩ := b_xp18.three
        have l_xp := b_xp18.lt
        obtain ⟨c_xq0, c_xq1, c_xq2⟩ := b_xq18.three
        have l_xq := b_xq18.lt
        obtain ⟨c_xr0, c_xr1, c_xr2⟩ := b_xr18.three
        have l_xr := b_xr18.lt
        obtain ⟨c_xat0, c_xat1, c_xat2⟩ := b_xat18.three
        have l_xat := b_xat18.lt
        obtain ⟨c_xgot0, c_xgot1, c_xgot2⟩ := b_xgot18.three
        have l_xgot := b_xgot18.lt
        obtain ⟨c_xput0, c_xput1, c_xput2⟩ := b_xput18.three
        have l_xput := b_xput18.lt
        go_wp2_with fail
        go_ret
        exact ⟨rfl, by have := hbw18.size; go_grown⟩
  have H5 := Lib.hid h5
  clear h5
  obtain ⟨Q, hQ⟩ : ∃ Q, Q = putOf a bs x := ⟨_, rfl⟩
  have HQ := Lib.hid hQ
  clear hQ
  go_wp2_with fail
  refine ((show Calls _ _ _ _ (GivesOk Q _) from (put_ok (hr9.mono (below_one _ _)) (hm.mono (hbw9.trans ((below_one w9 _).mono hbw9.size))) (hx.mono (hbw9.trans ((below_one w9 _).mono hbw9.size))) (by rw [HP.out, PW.out.1]; exact H5.out)).mono fun e w' h => by rw [show putOf P bs x = Q by rw [HP.out, PW.out.2, ← HQ.out]] at h; exact h)).mono ?_
  rintro e w10 ⟨r10, rfl, hr10, hb10⟩
  have hbw10 := (hbw9.trans ((below_one w9 _).mono hbw9.size)).trans (hb10.mono (hbw9.trans ((below_one w9 _).mono hbw9.size)).size)
  have b_a10 := (b_a9.alloc _).below hb10
  have b_v10 := (b_v9.alloc _).below hb10
  have b_x10 := (b_x9.alloc _).below hb10
  have b_xt10 := (b_xt9.alloc _).below hb10
  have b_xp10 := (Box.new w9 24 #[.bool (P).ch, .slice A9 (P).sh.length ca9, .slice D9 (P).da.length cd9]).below hb10
  have a_t10 := (a_t9.mono (below_one _ _)).mono hb10
  have a_p10 := (hr9.mono (below_one _ _)).mono hb10
  clear hb10 b_a9 b_v9 b_x9 b_xt9 a_t9 hr9 hbw9 c_a0 c_a1 c_a2 l_a c_v0 c_v1 c_v2 l_v c_x0 c_x1 c_x2 l_x c_xt0 c_xt1 c_xt2 l_xt
  obtain ⟨c_a0, c_a1, c_a2⟩ := b_a10.three
  have l_a := b_a10.lt
  obtain ⟨c_v0, c_v1, c_v2⟩ := b_v10.three
  have l_v := b_v10.lt
  obtain ⟨c_x0, c_x1, c_x2⟩ := b_x10.three
  have l_x := b_x10.lt
  obtain ⟨c_xt0, c_xt1, c_xt2⟩ := b_xt10.three
  have l_xt := b_xt10.lt
  obtain ⟨c_xp0, c_xp1, c_xp2⟩ := b_xp10.three
  have l_xp := b_xp10.lt
  obtain ⟨A10, ca10, D10, cd10, rfl, hs10, hd10⟩ := hr10.open_
  go_wp2_with fail
  refine ((show Calls _ _ _ _ (GivesOk Q _) from (put_ok (ha.mono (hbw10.trans ((below_one w10 _).mono hbw10.size))) (hm.mono (hbw10.trans ((below_one w10 _).mono hbw10.size))) (hx.mono (hbw10.trans ((below_one w10 _).mono hbw10.size))) H5.out).mono fun e w' h => by rw [← HQ.out] at h; exact h)).mono ?_
  rintro e w11 ⟨r11, rfl, hr11, hb11⟩
  have hbw11 := (hbw10.trans ((below_one w10 _).mono hbw10.size)).trans (hb11.mono (hbw10.trans ((below_one w10 _).mono hbw10.size)).size)
  have b_a11 := (b_a10.alloc _).below hb11
  have b_v11 := (b_v10.alloc _).below hb11
  have b_x11 := (b_x10.alloc _).below hb11
  have b_xt11 := (b_xt10.alloc _).below hb11
  have b_xp11 := (b_xp10.alloc _).below hb11
  have b_xq11 := (Box.new w10 24 #[.bool (Q).ch, .slice A10 (Q).sh.length ca10, .slice D10 (Q).da.length cd10]).below hb11
  have a_t11 := (a_t10.mono (below_one _ _)).mono hb11
  have a_p11 := (a_p10.mono (below_one _ _)).mono hb11
  have a_q11 := (hr10.mono (below_one _ _)).mono hb11
  clear hb11 b_a10 b_v10 b_x10 b_xt10 b_xp10 a_t10 a_p10 hr10 hbw10 c_a0 c_a1 c_a2 l_a c_v0 c_v1 c_v2 l_v c_x0 c_x1 c_x2 l_x c_xt0 c_xt1 c_xt2 l_xt c_xp0 c_xp1 c_xp2 l_xp
  obtain ⟨c_a0, c_a1, c_a2⟩ := b_a11.three
  have l_a := b_a11.lt
  obtain ⟨c_v0, c_v1, c_v2⟩ := b_v11.three
  have l_v := b_v11.lt
  obtain ⟨c_x0, c_x1, c_x2⟩ := b_x11.three
  have l_x := b_x11.lt
  obtain ⟨c_xt0, c_xt1, c_xt2⟩ := b_xt11.three
  have l_xt := b_xt11.lt
  obtain ⟨c_xp0, c_xp1, c_xp2⟩ := b_xp11.three
  have l_xp := b_xp11.lt
  obtain ⟨c_xq0, c_xq1, c_xq2⟩ := b_xq11.three
  have l_xq := b_xq11.lt
  obtain ⟨A11, ca11, D11, cd11, rfl, hs11, hd11⟩ := hr11.open_
  go_wp2_with fail
  refine (alike_nil _ _ _ _ _ (a_q11.mono (below_one _ _)) (hr11.mono (below_one _ _))).mono ?_
  rintro e w12 ⟨r12, rfl, hr12, hb12⟩
  have e12 : r12 = true := hr12.2 (rfl)
  subst e12
  clear hr12
  have hbw12 := (hbw11.trans ((below_one w11 _).mono hbw11.size)).trans (hb12.mono (hbw11.trans ((below_one w11 _).mono hbw11.size)).size)
  have b_a12 := (b_a11.alloc _).below hb12
  have b_v12 := (b_v11.alloc _).below hb12
  have b_x12 := (b_x11.alloc _).below hb12
  have b_xt12 := (b_xt11.alloc _).below hb12
  have b_xp12 := (b_xp11.alloc _).below hb12
  have b_xq12 := (b_xq11.alloc _).below hb12
  have b_xr12 := (Box.new w11 24 #[.bool (Q).ch, .slice A11 (Q).sh.length ca11, .slice D11 (Q).da.length cd11]).below hb12
  have a_t12 := (a_t11.mono (below_one _ _)).mono hb12
  have a_p12 := (a_p11.mono (below_one _ _)).mono hb12
  have a_q12 := (a_q11.mono (below_one _ _)).mono hb12
  have a_r12 := (hr11.mono (below_one _ _)).mono hb12
  clear hb12 b_a11 b_v11 b_x11 b_xt11 b_xp11 b_xq11 a_t11 a_p11 a_q11 hr11 hbw11 c_a0 c_a1 c_a2 l_a c_v0 c_v1 c_v2 l_v c_x0 c_x1 c_x2 l_x c_xt0 c_xt1 c_xt2 l_xt c_xp0 c_xp1 c_xp2 l_xp c_xq0 c_xq1 c_xq2 l_xq
  obtain ⟨c_a0, c_a1, c_a2⟩ := b_a12.three
  have l_a := b_a12.lt
  obtain ⟨c_v0, c_v1, c_v2⟩ := b_v12.three
  have l_v := b_v12.lt
  obtain ⟨c_x0, c_x1, c_x2⟩ := b_x12.three
  have l_x := b_x12.lt
  obtain ⟨c_xt0, c_xt1, c_xt2⟩ := b_xt12.three
  have l_xt := b_xt12.lt
  obtain ⟨c_xp0, c_xp1, c_xp2⟩ := b_xp12.three
  have l_xp := b_xp12.lt
  obtain ⟨c_xq0, c_xq1, c_xq2⟩ := b_xq12.three
  have l_xq := b_xq12.lt
  obtain ⟨c_xr0, c_xr1, c_xr2⟩ := b_xr12.three
  have l_xr := b_xr12.lt
  go_wp2_with fail
  refine (iota_ok a.da.length _ HN.out).mono ?_
  rintro e w13 ⟨r13, rfl, hr13, hb13⟩
  have hbw13 := hbw12.trans (hb13.mono hbw12.size)
  have b_a13 := b_a12.below hb13
  have b_v13 := b_v12.below hb13
  have b_x13 := b_x12.below hb13
  have b_xt13 := b_xt12.below hb13
  have b_xp13 := b_xp12.below hb13
  have a_t13 := a_t12.mono hb13
  have a_p13 := a_p12.mono hb13
  clear hb13 b_a12 b_v12 b_x12 b_xt12 b_xp12 a_t12 a_p12 hbw12 c_a0 c_a1 c_a2 l_a c_v0 c_v1 c_v2 l_v c_x0 c_x1 c_x2 l_x c_xt0 c_xt1 c_xt2 l_xt c_xp0 c_xp1 c_xp2 l_xp c_xq0 c_xq1 c_xq2 l_xq c_xr0 c_xr1 c_xr2 l_xr a_q12 a_r12
  obtain ⟨c_a0, c_a1, c_a2⟩ := b_a13.three
  have l_a := b_a13.lt
  obtain ⟨c_v0, c_v1, c_v2⟩ := b_v13.three
  have l_v := b_v13.lt
  obtain ⟨c_x0, c_x1, c_x2⟩ := b_x13.three
  have l_x := b_x13.lt
  obtain ⟨c_xt0, c_xt1, c_xt2⟩ := b_xt13.three
  have l_xt := b_xt13.lt
  obtain ⟨c_xp0, c_xp1, c_xp2⟩ := b_xp13.three
  have l_xp := b_xp13.lt
  obtain ⟨A13, ca13, D13, cd13, rfl, hs13, hd13⟩ := hr13.open_
  have o_a_i := l_a
  have o_v_i := l_v
  have o_x_i := l_x
  have o_xt_i := l_xt
  have o_xp_i := l_xp
  go_wp2_with fail
  refine ((show Calls _ _ _ _ (GivesOk F _) from by rw [HF.out, show flatOf a = rshOf (ints t) (prod t) (firstNums a.da.length) by unfold flatOf; rw [PT.out.sh, PT.out.nsh_eq]]; exact reshape_ok ((IsArr.shapeOf (ha.mono (hbw13.trans ((below_one w13 _).mono hbw13.size)))).eq PT.out.sh) (hr13.mono (below_one _ _)) PT.out.good (firstNums_ok HN.out) (by intro h; simp only [firstNums, ints, List.length_map, List.length_range]; rw [PT.out.len]; exact h))).mono ?_
  rintro e w14 ⟨r14, rfl, hr14, hb14⟩
  have hbw14 := (hbw13.trans ((below_one w13 _).mono hbw13.size)).trans (hb14.mono (hbw13.trans ((below_one w13 _).mono hbw13.size)).size)
  have b_a14 := (b_a13.alloc _).below hb14
  have b_v14 := (b_v13.alloc _).below hb14
  have b_x14 := (b_x13.alloc _).below hb14
  have b_xt14 := (b_xt13.alloc _).below hb14
  have b_xp14 := (b_xp13.alloc _).below hb14
  have b_xi14 := (Box.new w13 24 #[.bool (firstNums a.da.length).ch, .slice A13 (firstNums a.da.length).sh.length ca13, .slice D13 (firstNums a.da.length).da.length cd13]).below hb14
  have a_t14 := (a_t13.mono (below_one _ _)).mono hb14
  have a_p14 := (a_p13.mono (below_one _ _)).mono hb14
  have a_i14 := (hr13.mono (below_one _ _)).mono hb14
  clear hb14 b_a13 b_v13 b_x13 b_xt13 b_xp13 a_t13 a_p13 hr13 hbw13 c_a0 c_a1 c_a2 l_a c_v0 c_v1 c_v2 l_v c_x0 c_x1 c_x2 l_x c_xt0 c_xt1 c_xt2 l_xt c_xp0 c_xp1 c_xp2 l_xp
  obtain ⟨c_a0, c_a1, c_a2⟩ := b_a14.three
  have l_a := b_a14.lt
  obtain ⟨c_v0, c_v1, c_v2⟩ := b_v14.three
  have l_v := b_v14.lt
  obtain ⟨c_x0, c_x1, c_x2⟩ := b_x14.three
  have l_x := b_x14.lt
  obtain ⟨c_xt0, c_xt1, c_xt2⟩ := b_xt14.three
  have l_xt := b_xt14.lt
  obtain ⟨c_xp0, c_xp1, c_xp2⟩ := b_xp14.three
  have l_xp := b_xp14.lt
  obtain ⟨c_xi0, c_xi1, c_xi2⟩ := b_xi14.three
  have l_xi := b_xi14.lt
  obtain ⟨A14, ca14, D14, cd14, rfl, hs14, hd14⟩ := hr14.open_
  have fz14 := b_xi14.frozen
  have sc_a0_14 := cellS (q := ⟨w13.heap.size, 0, none⟩) (u := (.bool (F).ch)) c_a0 (by simp; omega)
  have sc_a1_14 := cellS (q := ⟨w13.heap.size, 1, none⟩) (u := (.slice A14 (F).sh.length ca14)) c_a1 (by simp; omega)
  have sc_a2_14 := cellS (q := ⟨w13.heap.size, 2, none⟩) (u := (.slice D14 (F).da.length cd14)) c_a2 (by simp; omega)
  have sc_v0_14 := cellS (q := ⟨w13.heap.size, 0, none⟩) (u := (.bool (F).ch)) c_v0 (by simp; omega)
  have sc_v1_14 := cellS (q := ⟨w13.heap.size, 1, none⟩) (u := (.slice A14 (F).sh.length ca14)) c_v1 (by simp; omega)
  have sc_v2_14 := cellS (q := ⟨w13.heap.size, 2, none⟩) (u := (.slice D14 (F).da.length cd14)) c_v2 (by simp; omega)
  have sc_x0_14 := cellS (q := ⟨w13.heap.size, 0, none⟩) (u := (.bool (F).ch)) c_x0 (by simp; omega)
  have sc_x1_14 := cellS (q := ⟨w13.heap.size, 1, none⟩) (u := (.slice A14 (F).sh.length ca14)) c_x1 (by simp; omega)
  have sc_x2_14 := cellS (q := ⟨w13.heap.size, 2, none⟩) (u := (.slice D14 (F).da.length cd14)) c_x2 (by simp; omega)
  have sc_xt0_14 := cellS (q := ⟨w13.heap.size, 0, none⟩) (u := (.bool (F).ch)) c_xt0 (by simp; omega)
  have sc_xt1_14 := cellS (q := ⟨w13.heap.size, 1, none⟩) (u := (.slice A14 (F).sh.length ca14)) c_xt1 (by simp; omega)
  have sc_xt2_14 := cellS (q := ⟨w13.heap.size, 2, none⟩) (u := (.slice D14 (F).da.length cd14)) c_xt2 (by simp; omega)
  have sc_xp0_14 := cellS (q := ⟨w13.heap.size, 0, none⟩) (u := (.bool (F).ch)) c_xp0 (by simp; omega)
  have sc_xp1_14 := cellS (q := ⟨w13.heap.size, 1, none⟩) (u := (.slice A14 (F).sh.length ca14)) c_xp1 (by simp; omega)
  have sc_xp2_14 := cellS (q := ⟨w13.heap.size, 2, none⟩) (u := (.slice D14 (F).da.length cd14)) c_xp2 (by simp; omega)
  have gb14 := grownBy_three w14 (w13.heap.size) (.bool (F).ch) (.slice A14 (F).sh.length ca14) (.slice D14 (F).da.length cd14)
  have n_a14 := b_a14.grown gb14 (by simp; omega)
  have n_v14 := b_v14.grown gb14 (by simp; omega)
  have n_x14 := b_x14.grown gb14 (by simp; omega)
  have n_xt14 := b_xt14.grown gb14 (by simp; omega)
  have n_xp14 := b_xp14.grown gb14 (by simp; omega)
  have n_xi14 := ((b_xi14.store 0 (.bool (F).ch)).store 1 (.slice A14 (F).sh.length ca14)).store 2 (.slice D14 (F).da.length cd14)
  simp only [List.setIfInBounds_toArray, List.set_cons_zero, List.set_cons_succ] at n_xi14
  have m_t14 := a_t14.laid b_xi14 (.bool (F).ch) (.slice A14 (F).sh.length ca14) (.slice D14 (F).da.length cd14)
  have m_p14 := a_p14.laid b_xi14 (.bool (F).ch) (.slice A14 (F).sh.length ca14) (.slice D14 (F).da.length cd14)
  have m_f14 := hr14.laid b_xi14 (.bool (F).ch) (.slice A14 (F).sh.length ca14) (.slice D14 (F).da.length cd14)
  have hbs14 : Below w.heap.size w (((w14.setCell ⟨w13.heap.size, 0, none⟩ (.bool (F).ch)).setCell ⟨w13.heap.size, 1, none⟩ (.slice A14 (F).sh.length ca14)).setCell ⟨w13.heap.size, 2, none⟩ (.slice D14 (F).da.length cd14)) := by have := hbw14.size; go_grown
  go_wp2_with fail
  refine ((show Calls _ _ _ _ (GivesOk Y _) from by rw [HY.out]; exact at_ok m_f14 (hm.mono hbs14) (by rw [HF.out]; exact HFE.out))).mono ?_
  rintro e w15 ⟨r15, rfl, hr15, hb15⟩
  have hbw15 := hbs14.trans (hb15.mono hbs14.size)
  have b_a15 := n_a14.below hb15
  have b_v15 := n_v14.below hb15
  have b_x15 := n_x14.below hb15
  have b_xt15 := n_xt14.below hb15
  have b_xp15 := n_xp14.below hb15
  have b_xi15 := n_xi14.below hb15
  have a_t15 := m_t14.mono hb15
  have a_p15 := m_p14.mono hb15
  have a_f15 := m_f14.mono hb15
  clear hb15 n_a14 n_v14 n_x14 n_xt14 n_xp14 n_xi14 m_t14 m_p14 m_f14 hbs14 c_a0 c_a1 c_a2 l_a c_v0 c_v1 c_v2 l_v c_x0 c_x1 c_x2 l_x c_xt0 c_xt1 c_xt2 l_xt c_xp0 c_xp1 c_xp2 l_xp c_xi0 c_xi1 c_xi2 l_xi sc_a0_14 sc_a1_14 sc_a2_14 sc_v0_14 sc_v1_14 sc_v2_14 sc_x0_14 sc_x1_14 sc_x2_14 sc_xt0_14 sc_xt1_14 sc_xt2_14 sc_xp0_14 sc_xp1_14 sc_xp2_14 fz14
  obtain ⟨c_a0, c_a1, c_a2⟩ := b_a15.three
  have l_a := b_a15.lt
  obtain ⟨c_v0, c_v1, c_v2⟩ := b_v15.three
  have l_v := b_v15.lt
  obtain ⟨c_x0, c_x1, c_x2⟩ := b_x15.three
  have l_x := b_x15.lt
  obtain ⟨c_xt0, c_xt1, c_xt2⟩ := b_xt15.three
  have l_xt := b_xt15.lt
  obtain ⟨c_xp0, c_xp1, c_xp2⟩ := b_xp15.three
  have l_xp := b_xp15.lt
  obtain ⟨c_xi0, c_xi1, c_xi2⟩ := b_xi15.three
  have l_xi := b_xi15.lt
  obtain ⟨A15, ca15, D15, cd15, rfl, hs15, hd15⟩ := hr15.open_
  have EY := Lib.hid (IsArr.dataOf hr15).elems
  have hbl0 := below_one w15 (.cells #[.bool (Y).ch, .slice A15 (Y).sh.length ca15, .slice D15 (Y).da.length cd15] 24)
  go_wp2_with fail
  obtain ⟨W9, hW9⟩ : ∃ W, W = (w15.alloc (.cells #[.bool (Y).ch, .slice A15 (Y).sh.length ca15, .slice D15 (Y).da.length cd15] 24)) := ⟨_, rfl⟩
  have Ba := (b_a15.alloc (.cells #[.bool (Y).ch, .slice A15 (Y).sh.length ca15, .slice D15 (Y).da.length cd15] 24))
  have Bv := (b_v15.alloc (.cells #[.bool (Y).ch, .slice A15 (Y).sh.length ca15, .slice D15 (Y).da.length cd15] 24))
  have Bx := (b_x15.alloc (.cells #[.bool (Y).ch, .slice A15 (Y).sh.length ca15, .slice D15 (Y).da.length cd15] 24))
  have Bxt := (b_xt15.alloc (.cells #[.bool (Y).ch, .slice A15 (Y).sh.length ca15, .slice D15 (Y).da.length cd15] 24))
  have Bxp := (b_xp15.alloc (.cells #[.bool (Y).ch, .slice A15 (Y).sh.length ca15, .slice D15 (Y).da.length cd15] 24))
  have Bxat := (Box.new w15 24 #[.bool (Y).ch, .slice A15 (Y).sh.length ca15, .slice D15 (Y).da.length cd15])
  have ARt := a_t15.mono hbl0
  have ARp := a_p15.mono hbl0
  have ARat := hr15.mono hbl0
  have EY9 := Elems.mono EY.out hbl0
  have HBW9 := hbw15.trans (hbl0.mono hbw15.size)
  rw [← hW9] at EY9 HBW9 Ba Bv Bx Bxt Bxp Bxat ARt ARp ARat ⊢
  have EYH := Lib.hid EY9
  clear hW9 EY9 hbl0 EY c_a0 c_a1 c_a2 l_a c_v0 c_v1 c_v2 l_v c_x0 c_x1 c_x2 l_x c_xt0 c_xt1 c_xt2 l_xt c_xp0 c_xp1 c_xp2 l_xp c_xi0 c_xi1 c_xi2 l_xi a_f15
  go_loopw [29] (fun s29 wr => ∃ q : Nat, q ≤ Y.da.length ∧ s29 = .int .i64 q ∧ (∀ i j, j < i → i < q → Y.da.getD i 0 ≠ Y.da.getD j 0) ∧ Below W9.heap.size W9 wr) (fun s29 _ => Y.da.length - (intOf s29).toNat)
  case atStart => exact ⟨0, Nat.zero_le _, rfl, (fun i j _ h => absurd h (Nat.not_lt_zero _)), Below.refl _ _⟩
  case round =>
    obtain ⟨q, hq, rfl, hno, hbx⟩ := hrel
    have HNO := Lib.hid hno
    have hyl := HYL.out
    clear hno
    obtain ⟨ka0, ka1, ka2⟩ := (Ba.below hbx).three
    obtain ⟨kv0, kv1, kv2⟩ := (Bv.below hbx).three
    obtain ⟨kx0, kx1, kx2⟩ := (Bx.below hbx).three
    obtain ⟨kxt0, kxt1, kxt2⟩ := (Bxt.below hbx).three
    obtain ⟨kxp0, kxp1, kxp2⟩ := (Bxp.below hbx).three
    obtain ⟨kxat0, kxat1, kxat2⟩ := (Bxat.below hbx).three
    rcases Nat.lt_or_ge q Y.da.length with hlt | hge
    · go_wp2_with fail
      clear ka0 ka1 ka2 kv0 kv1 kv2 kx0 kx1 kx2 kxt0 kxt1 kxt2 kxp0 kxp1 kxp2 kxat0 kxat1 kxat2
      obtain ⟨ax, x0, hax, hx0, hlx, hcx⟩ := Elems.later EYH.out (Below.refl _ _) hlt
      subst hax
      have HX0 := Lib.hid (show Y.da.getD q 0 = x0 by rw [List.getD_eq_getElem?_getD, hx0]; rfl)
      have HCX := Lib.hid hcx
      clear hx0 hcx
      go_loopw [30] (fun s30 wi => ∃ j : Nat, j ≤ q ∧ s30 = .int .i64 j ∧ (∀ j', j' < j → Y.da.getD q 0 ≠ Y.da.getD j' 0) ∧ Below W9.heap.size W9 wi) (fun s30 _ => q - (intOf s30).toNat)
      case atStart => exact ⟨0, Nat.zero_le _, rfl, (fun j h => absurd h (Nat.not_lt_zero _)), hbx⟩
      case round =>
        clear hbx
        obtain ⟨j, hj, rfl, hnj, hbx⟩ := hrel
        have HNJ := Lib.hid hnj
        clear hnj
        obtain ⟨ka0, ka1, ka2⟩ := (Ba.below hbx).three
        obtain ⟨kv0, kv1, kv2⟩ := (Bv.below hbx).three
        obtain ⟨kx0, kx1, kx2⟩ := (Bx.below hbx).three
        obtain ⟨kxt0, kxt1, kxt2⟩ := (Bxt.below hbx).three
        obtain ⟨kxp0, kxp1, kxp2⟩ := (Bxp.below hbx).three
        obtain ⟨kxat0, kxat1, kxat2⟩ := (Bxat.below hbx).three
        rcases Nat.lt_or_ge j q with hjl | hjg
        · have hcx1 := (hbx.cell (p := ax.add q) (by rw [addr_block_add]; exact hlx)).trans HCX.out
          obtain ⟨ax2, x2, hax2, hx2, hlx2, hcx2⟩ := Elems.later EYH.out hbx (k := j) (by omega)
          injection hax2 with hax2
          subst hax2
          have HX2 := Lib.hid (show Y.da.getD j 0 = x2 by rw [List.getD_eq_getElem?_getD, hx2]; rfl)
          have hjy : j < Y.da.length := by omega
          clear hx2
          by_cases hxx : x0 = x2
          · have ex : (x0 == x2) = true := by simp [hxx]
            clear hxx
            go_wp2_with fail
            go_quiet (fail)
            all_goals go_wp2_with fail
            go_ret
            exact ⟨rfl, (HBW9.trans (hbx.mono HBW9.size)).trans (below_draws _ _ _)⟩
          · have ex : (x0 == x2) = false := by simp [hxx]
            have HXX := Lib.hid hxx
            clear hxx
            go_wp2_with fail
            go_quiet (fail)
            all_goals go_wp2_with fail
            go_roundw
            case rel => exact ⟨j + 1, by omega, by go_num, (fun j' h => by rcases Nat.lt_or_ge j' j with h1 | h1; exact HNJ.out j' h1; have e : j' = j := (by omega); subst e; rw [HX0.out, HX2.out]; exact HXX.out), hbx.trans (below_draws _ _ _)⟩
            case measure => simp [intOf]; omega
        · have hjq : j = q := by omega
          subst hjq
          go_wp2_with fail
          go_roundw
          case rel => exact ⟨j + 1, by omega, by go_num, (fun i j2 h1 h2 => by rcases Nat.lt_or_ge i j with h3 | h3; exact HNO.out i j2 h1 h3; have e : i = j := (by omega); subst e; exact HNJ.out j2 h1), hbx⟩
          case measure => simp [intOf]; omega
    · have hqe : q = Y.da.length := by omega
      subst hqe
      have HD := Lib.hid (put_told PT.out PB.out PV.out PP.out PC.out PS.out (fun i j h1 h2 => by have := HNO.out i j h1 (by rw [HYD.out]; exact h2); rw [HYD.out] at this; exact this))
      clear hge ka0 ka1 ka2 kv0 kv1 kv2 kx0 kx1 kx2 kxt0 kxt1 kxt2 kxp0 kxp1 kxp2 kxat0 kxat1 kxat2
      have hbw16 := HBW9.trans (hbx.mono HBW9.size)
      have b_a16 := Ba.below hbx
      have b_v16 := Bv.below hbx
      have b_x16 := Bx.below hbx
      have b_xt16 := Bxt.below hbx
      have b_xp16 := Bxp.below hbx
      have b_xat16 := Bxat.below hbx
      have a_t16 := ARt.mono hbx
      have a_p16 := ARp.mono hbx
      have a_at16 := ARat.mono hbx
      clear hbx Ba Bv Bx Bxt Bxp Bxat ARt ARp ARat
      obtain ⟨c_a0, c_a1, c_a2⟩ := b_a16.three
      have l_a := b_a16.lt
      obtain ⟨c_v0, c_v1, c_v2⟩ := b_v16.three
      have l_v := b_v16.lt
      obtain ⟨c_x0, c_x1, c_x2⟩ := b_x16.three
      have l_x := b_x16.lt
      obtain ⟨c_xt0, c_xt1, c_xt2⟩ := b_xt16.three
      have l_xt := b_xt16.lt
      obtain ⟨c_xp0, c_xp1, c_xp2⟩ := b_xp16.three
      have l_xp := b_xp16.lt
      obtain ⟨c_xat0, c_xat1, c_xat2⟩ := b_xat16.three
      have l_xat := b_xat16.lt
      obtain ⟨Z, hZ⟩ : ∃ Z, Z = rshOf (catSh bs) (prodLen bs) v := ⟨_, rfl⟩
      have HZ := Lib.hid hZ
      clear hZ
      go_wp2_with fail
      refine ((show Calls _ _ _ _ (GivesOk Z _) from (at_ok a_p16 (hm.mono hbw16) (by rw [HP.out]; exact HD.out.1)).mono fun e w' h => by rw [show atOf P bs = Z by rw [HP.out, HD.out.2, ← HZ.out]] at h; exact h)).mono ?_
      rintro e w17 ⟨r17, rfl, hr17, hb17⟩
      have hbw17 := hbw16.trans (hb17.mono hbw16.size)
      have b_a17 := b_a16.below hb17
      have b_v17 := b_v16.below hb17
      have b_x17 := b_x16.below hb17
      have b_xt17 := b_xt16.below hb17
      have b_xp17 := b_xp16.below hb17
      have b_xat17 := b_xat16.below hb17
      have a_t17 := a_t16.mono hb17
      have a_p17 := a_p16.mono hb17
      have a_at17 := a_at16.mono hb17
      clear hb17 b_a16 b_v16 b_x16 b_xt16 b_xp16 b_xat16 a_t16 a_p16 a_at16 hbw16 c_a0 c_a1 c_a2 l_a c_v0 c_v1 c_v2 l_v c_x0 c_x1 c_x2 l_x c_xt0 c_xt1 c_xt2 l_xt c_xp0 c_xp1 c_xp2 l_xp c_xat0 c_xat1 c_xat2 l_xat
      obtain ⟨c_a0, c_a1, c_a2⟩ := b_a17.three
      have l_a := b_a17.lt
      obtain ⟨c_v0, c_v1, c_v2⟩ := b_v17.three
      have l_v := b_v17.lt
      obtain ⟨c_x0, c_x1, c_x2⟩ := b_x17.three
      have l_x := b_x17.lt
      obtain ⟨c_xt0, c_xt1, c_xt2⟩ := b_xt17.three
      have l_xt := b_xt17.lt
      obtain ⟨c_xp0, c_xp1, c_xp2⟩ := b_xp17.three
      have l_xp := b_xp17.lt
      obtain ⟨c_xat0, c_xat1, c_xat2⟩ := b_xat17.three
      have l_xat := b_xat17.lt
      obtain ⟨A17, ca17, D17, cd17, rfl, hs17, hd17⟩ := hr17.open_
      have hpl := Lib.hid (show prod u = prodLen bs by obtain ⟨u2, e1, e2⟩ := catSh_ints PB.out; rw [HCU.out] at e1; rw [ints_inj e1, e2])
      go_wp2_with fail
      refine ((show Calls _ _ _ _ (GivesOk Z _) from (reshape_ok ((IsArr.shapeOf (a_t17.mono (below_one _ _))).eq (by rw [HX.out]; exact HCU.out)) (hv.mono (hbw17.trans ((below_one w17 _).mono hbw17.size))) HTO.out.good PV.out (fun h => by have hl := put_len PB.out PV.out PS.out; by_cases c : v.sh = []; rw [if_pos c] at hl; omega; rw [if_neg c] at hl; rw [hl, ← hpl.out]; exact h)).mono fun e w' h => by rw [show rshOf (ints u) (prod u) v = Z by rw [HZ.out, ← hpl.out, HCU.out]] at h; exact h)).mono ?_
      rintro e w18 ⟨r18, rfl, hr18, hb18⟩
      have hbw18 := (hbw17.trans ((below_one w17 _).mono hbw17.size)).trans (hb18.mono (hbw17.trans ((below_one w17 _).mono hbw17.size)).size)
      have b_a18 := (b_a17.alloc _).below hb18
      have b_v18 := (b_v17.alloc _).below hb18
      have b_x18 := (b_x17.alloc _).below hb18
      have b_xt18 := (b_xt17.alloc _).below hb18
      have b_xp18 := (b_xp17.alloc _).below hb18
      have b_xat18 := (b_xat17.alloc _).below hb18
      have b_xgot18 := (Box.new w17 24 #[.bool (Z).ch, .slice A17 (Z).sh.length ca17, .slice D17 (Z).da.length cd17]).below hb18
      have a_t18 := (a_t17.mono (below_one _ _)).mono hb18
      have a_p18 := (a_p17.mono (below_one _ _)).mono hb18
      have a_at18 := (a_at17.mono (below_one _ _)).mono hb18
      have a_got18 := (hr17.mono (below_one _ _)).mono hb18
      clear hb18 b_a17 b_v17 b_x17 b_xt17 b_xp17 b_xat17 a_t17 a_p17 a_at17 hr17 hbw17 c_a0 c_a1 c_a2 l_a c_v0 c_v1 c_v2 l_v c_x0 c_x1 c_x2 l_x c_xt0 c_xt1 c_xt2 l_xt c_xp0 c_xp1 c_xp2 l_xp c_xat0 c_xat1 c_xat2 l_xat
      obtain ⟨c_a0, c_a1, c_a2⟩ := b_a18.three
      have l_a := b_a18.lt
      obtain ⟨c_v0, c_v1, c_v2⟩ := b_v18.three
      have l_v := b_v18.lt
      obtain ⟨c_x0, c_x1, c_x2⟩ := b_x18.three
      have l_x := b_x18.lt
      obtain ⟨c_xt0, c_xt1, c_xt2⟩ := b_xt18.three
      have l_xt := b_xt18.lt
      obtain ⟨c_xp0, c_xp1, c_xp2⟩ := b_xp18.three
      have l_xp := b_xp18.lt
      obtain ⟨c_xat0, c_xat1, c_xat2⟩ := b_xat18.three
      have l_xat := b_xat18.lt
      obtain ⟨c_xgot0, c_xgot1, c_xgot2⟩ := b_xgot18.three
      have l_xgot := b_xgot18.lt
      obtain ⟨A18, ca18, D18, cd18, rfl, hs18, hd18⟩ := hr18.open_
      go_wp2_with fail
      refine (alike_nil _ _ _ _ _ (a_got18.mono (below_one _ _)) (hr18.mono (below_one _ _))).mono ?_
      rintro e w19 ⟨r19, rfl, hr19, hb19⟩
      have e19 : r19 = true := hr19.2 (rfl)
      subst e19
      clear hr19
      have hbw19 := (hbw18.trans ((below_one w18 _).mono hbw18.size)).trans (hb19.mono (hbw18.trans ((below_one w18 _).mono hbw18.size)).size)
      have b_a19 := (b_a18.alloc _).below hb19
      have b_v19 := (b_v18.alloc _).below hb19
      have b_x19 := (b_x18.alloc _).below hb19
      have b_xt19 := (b_xt18.alloc _).below hb19
      have b_xp19 := (b_xp18.alloc _).below hb19
      have b_xat19 := (b_xat18.alloc _).below hb19
      have b_xgot19 := (b_xgot18.alloc _).below hb19
      have b_xput19 := (Box.new w18 24 #[.bool (Z).ch, .slice A18 (Z).sh.length ca18, .slice D18 (Z).da.length cd18]).below hb19
      have a_t19 := (a_t18.mono (below_one _ _)).mono hb19
      have a_p19 := (a_p18.mono (below_one _ _)).mono hb19
      have a_at19 := (a_at18.mono (below_one _ _)).mono hb19
      have a_got19 := (a_got18.mono (below_one _ _)).mono hb19
      have a_put19 := (hr18.mono (below_one _ _)).mono hb19
      clear hb19 b_a18 b_v18 b_x18 b_xt18 b_xp18 b_xat18 b_xgot18 a_t18 a_p18 a_at18 a_got18 hr18 hbw18 c_a0 c_a1 c_a2 l_a c_v0 c_v1 c_v2 l_v c_x0 c_x1 c_x2 l_x c_xt0 c_xt1 c_xt2 l_xt c_xp0 c_xp1 c_xp2 l_xp c_xat0 c_xat1 c_xat2 l_xat c_xgot0 c_xgot1 c_xgot2 l_xgot
      obtain ⟨c_a0, c_a1, c_a2⟩ := b_a19.three
      have l_a := b_a19.lt
      obtain ⟨c_v0, c_v1, c_v2⟩ := b_v19.three
      have l_v := b_v19.lt
      obtain ⟨c_x0, c_x1, c_x2⟩ := b_x19.three
      have l_x := b_x19.lt
      obtain ⟨c_xt0, c_xt1, c_xt2⟩ := b_xt19.three
      have l_xt := b_xt19.lt
      obtain ⟨c_xp0, c_xp1, c_xp2⟩ := b_xp19.three
      have l_xp := b_xp19.lt
      obtain ⟨c_xat0, c_xat1, c_xat2⟩ := b_xat19.three
      have l_xat := b_xat19.lt
      obtain ⟨c_xgot0, c_xgot1, c_xgot2⟩ := b_xgot19.three
      have l_xgot := b_xgot19.lt
      obtain ⟨c_xput0, c_xput1, c_xput2⟩ := b_xput19.three
      have l_xput := b_xput19.lt
      go_wp2_with fail
      go_ret
      exact ⟨rfl, by have := hbw19.size; go_grown⟩

end Go.Proofs.Ytnjjapfdgddemaa
