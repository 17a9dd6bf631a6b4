/- The walk of the law PickOthers. Conditions: none. -/
import Derived.Test.YtnjjapfdgddemaaPutOk
import Derived.Test.YtnjjapfdgddemaaLensPlain
import Derived.Test.YtnjjapfdgddemaaHas
import Derived.Test.YtnjjapfdgddemaaTail
import Derived.Test.YtnjjapfdgddemaaStore
import Derived.Test.YtnjjapfdgddemaaMore
import Derived.Test.YtnjjapfdgddemaaRev
import Derived.Test.YtnjjapfdgddemaaAlike
import Derived.Test.YtnjjapfdgddemaaMake
namespace Go.Proofs.Ytnjjapfdgddemaa
open Go Go.RowKit Go.Proofs.Ytnjjapfdgddemaa.P

set_option maxRecDepth 100000 in
set_option maxHeartbeats 4000000 in
theorem pickOthers_walk (va vb vv : Value) (a v : Arr) (bs : List Arr) (w : World) (ha : IsArr w va a) (hm : IsArrs w vb bs) (hv : IsArr w vv v) :
    Calls Try.prog 5 #[va, vb, vv] w (Says w) := by
  obtain ⟨A, ca, D, da, rfl, -, -⟩ := ha.open_
  obtain ⟨A', cb, D', db, rfl, -, -⟩ := hv.open_
  go_enter Try.func5, Try.ntmps5
  go_wp2_with fail
  have x1 := (Box.new ((w.alloc (.cells #[.bool a.ch, .slice A a.sh.length ca, .slice D a.da.length da] 24)).alloc (.cells #[.bool v.ch, .slice A' v.sh.length cb, .slice D' v.da.length db] 24)) 3 #[.int .i64 1, .int .i64 2, .int .i64 3])
  simp only [World.size_alloc, World.size_setCell] at x1
  have i1 : IsInts (((w.alloc (.cells #[.bool a.ch, .slice A a.sh.length ca, .slice D a.da.length da] 24)).alloc (.cells #[.bool v.ch, .slice A' v.sh.length cb, .slice D' v.da.length db] 24)).alloc (.cells #[.int .i64 1, .int .i64 2, .int .i64 3] 3)) (.slice (some ⟨w.heap.size + 1 + 1, 0, none⟩) 3 3) [1, 2, 3] := x1.isInts (xs := [1, 2, 3]) (n := 3) rfl (by omega)
  clear x1
  refine (vec_any _ [1, 2, 3] _ i1).mono ?_
  rintro e w1 ⟨r1, rfl, hr1, hb1⟩
  have hbw1 := ((Below.refl w.heap.size w).trans ((below_three w _ _ _).mono (Below.refl w.heap.size w).size)).trans (hb1.mono ((Below.refl w.heap.size w).trans ((below_three w _ _ _).mono (Below.refl w.heap.size w).size)).size)
  have b_a1 := (((Box.new w 24 #[.bool a.ch, .slice A a.sh.length ca, .slice D a.da.length da]).alloc _).alloc _).below hb1
  have b_v1 := ((Box.new (w.alloc (.cells #[.bool a.ch, .slice A a.sh.length ca, .slice D a.da.length da] 24)) 24 #[.bool v.ch, .slice A' v.sh.length cb, .slice D' v.da.length db]).alloc _).below hb1
  simp only [World.size_alloc, World.size_setCell] at b_v1
  clear hb1 i1
  obtain ⟨c_a0, c_a1, c_a2⟩ := b_a1.three
  have l_a := b_a1.lt
  obtain ⟨c_v0, c_v1, c_v2⟩ := b_v1.three
  have l_v := b_v1.lt
  go_wp2_with fail
  have x1 := (Box.new w1 3 #[.int .i64 1])
  have i1 : IsInts (w1.alloc (.cells #[.int .i64 1] 3)) (.slice (some ⟨w1.heap.size, 0, none⟩) 1 1) [1] := x1.isInts (xs := [1]) (n := 1) rfl (by omega)
  clear x1
  refine (vec_any _ [1] _ i1).mono ?_
  rintro e w2 ⟨r2, rfl, hr2, hb2⟩
  have hbw2 := (hbw1.trans ((below_one w1 _).mono hbw1.size)).trans (hb2.mono (hbw1.trans ((below_one w1 _).mono hbw1.size)).size)
  have b_a2 := (b_a1.alloc _).below hb2
  have b_v2 := (b_v1.alloc _).below hb2
  have a_v12 := (hr1.mono (below_one _ _)).mono hb2
  clear hb2 b_a1 b_v1 hr1 hbw1 c_a0 c_a1 c_a2 l_a c_v0 c_v1 c_v2 l_v i1
  obtain ⟨c_a0, c_a1, c_a2⟩ := b_a2.three
  have l_a := b_a2.lt
  obtain ⟨c_v0, c_v1, c_v2⟩ := b_v2.three
  have l_v := b_v2.lt
  obtain ⟨V2, hV2, hv2⟩ : ∃ V : Arr, V = ⟨false, [1], [1]⟩ ∧ IsArr w2 r2 V := ⟨_, rfl, hr2⟩
  clear hr2
  obtain ⟨Av, cav, Dv, cdv, rfl, -, -⟩ := hv2.open_
  have HV2 := Lib.hid hV2
  clear hV2
  have Lv := Box.new w2 24 #[.bool (V2).ch, .slice Av (V2).sh.length cav, .slice Dv (V2).da.length cdv]
  go_wp2_with fail
  have x1 := (Box.new (w2.alloc (.cells #[.bool (V2).ch, .slice Av (V2).sh.length cav, .slice Dv (V2).da.length cdv] 24)) 3 #[.int .i64 9])
  simp only [World.size_alloc, World.size_setCell] at x1
  have i1 : IsInts ((w2.alloc (.cells #[.bool (V2).ch, .slice Av (V2).sh.length cav, .slice Dv (V2).da.length cdv] 24)).alloc (.cells #[.int .i64 9] 3)) (.slice (some ⟨w2.heap.size + 1, 0, none⟩) 1 1) [9] := x1.isInts (xs := [9]) (n := 1) rfl (by omega)
  clear x1
  refine ((show Calls _ _ _ _ (GivesOk (putOf ⟨false, [(([1, 2, 3] : List Int).length : Int)], [1, 2, 3]⟩ [⟨false, [1], [1]⟩] ⟨false, [], [9]⟩) _) from (put_ok (a_v12.mono (below_two _ _ _)) (arrs_one (Lv.alloc _) (hv2.mono (below_two _ _ _))) (show IsArr _ _ ⟨false, [], [9]⟩ from ⟨_, _, rfl, (Owns.nil _ 0).isInts, i1⟩) (by rw [HV2.out]; decide +kernel)).mono fun e w' h => by rw [show putOf ⟨false, [(([1, 2, 3] : List Int).length : Int)], [1, 2, 3]⟩ [V2] ⟨false, [], [9]⟩ = (putOf ⟨false, [(([1, 2, 3] : List Int).length : Int)], [1, 2, 3]⟩ [⟨false, [1], [1]⟩] ⟨false, [], [9]⟩) by rw [HV2.out]] at h; exact h)).mono ?_
  rintro e w3 ⟨r3, rfl, hr3, hb3⟩
  have hbw3 := (hbw2.trans ((below_two w2 _ _).mono hbw2.size)).trans (hb3.mono (hbw2.trans ((below_two w2 _ _).mono hbw2.size)).size)
  have b_a3 := ((b_a2.alloc _).alloc _).below hb3
  have b_v3 := ((b_v2.alloc _).alloc _).below hb3
  clear hb3 b_a2 b_v2 hbw2 c_a0 c_a1 c_a2 l_a c_v0 c_v1 c_v2 l_v Lv i1 a_v12 hv2
  obtain ⟨c_a0, c_a1, c_a2⟩ := b_a3.three
  have l_a := b_a3.lt
  obtain ⟨c_v0, c_v1, c_v2⟩ := b_v3.three
  have l_v := b_v3.lt
  obtain ⟨A3, ca3, D3, cd3, rfl, hs3, hd3⟩ := hr3.open_
  go_wp2_with fail
  have bq := Box.new (w3.alloc (.cells #[.bool ((putOf ⟨false, [(([1, 2, 3] : List Int).length : Int)], [1, 2, 3]⟩ [⟨false, [1], [1]⟩] ⟨false, [], [9]⟩)).ch, .slice A3 ((putOf ⟨false, [(([1, 2, 3] : List Int).length : Int)], [1, 2, 3]⟩ [⟨false, [1], [1]⟩] ⟨false, [], [9]⟩)).sh.length ca3, .slice D3 ((putOf ⟨false, [(([1, 2, 3] : List Int).length : Int)], [1, 2, 3]⟩ [⟨false, [1], [1]⟩] ⟨false, [], [9]⟩)).da.length cd3] 24)) 3 #[.int .i64 1, .int .i64 9, .int .i64 3]
  rw [World.size_alloc] at bq
  refine (ints_any _ _ _ [1, 9, 3] _ (hd3.mono (below_two _ _ _)) (bq.isInts rfl (by simp))).mono ?_
  rintro e w4 ⟨r4, rfl, hr4, hb4⟩
  have e4 : r4 = true := hr4.2 (by first | decide | decide +kernel)
  subst e4
  clear hr4 hs3 hd3
  clear hr3
  have hbw4 := (hbw3.trans ((below_two w3 _ _).mono hbw3.size)).trans (hb4.mono (hbw3.trans ((below_two w3 _ _).mono hbw3.size)).size)
  have b_a4 := ((b_a3.alloc _).alloc _).below hb4
  have b_v4 := ((b_v3.alloc _).alloc _).below hb4
  clear hb4 b_a3 b_v3 hbw3 c_a0 c_a1 c_a2 l_a c_v0 c_v1 c_v2 l_v bq
  obtain ⟨c_a0, c_a1, c_a2⟩ := b_a4.three
  have l_a := b_a4.lt
  obtain ⟨c_v0, c_v1, c_v2⟩ := b_v4.three
  have l_v := b_v4.lt
  by_cases hE : putErr a bs v = 0
  case neg =>
    have HE := Lib.hid hE
    clear hE
    go_wp2_with fail
    refine (put_bad (ha.mono hbw4) (hm.mono hbw4) (hv.mono hbw4) HE.out).mono ?_
    rintro e w5 ⟨rfl, hb5⟩
    have hbw5 := hbw4.trans (hb5.mono hbw4.size)
    have b_a5 := b_a4.below hb5
    have b_v5 := b_v4.below hb5
    clear hb5 b_a4 b_v4 hbw4 c_a0 c_a1 c_a2 l_a c_v0 c_v1 c_v2 l_v
    obtain ⟨c_a0, c_a1, c_a2⟩ := b_a5.three
    have l_a := b_a5.lt
    obtain ⟨c_v0, c_v1, c_v2⟩ := b_v5.three
    have l_v := b_v5.lt
    go_wp2_with fail
    go_ret
    exact ⟨rfl, by have := hbw5.size; go_grown⟩
  obtain ⟨t, u, ht, hbs, hvo, hp, hc, hsv⟩ := putErr_parts hE
  have HE := Lib.hid hE
  have PT := Lib.hid ht
  have PB := Lib.hid hbs
  have PP := Lib.hid hp
  obtain ⟨X, hX⟩ : ∃ X, X = putOf a bs v := ⟨_, rfl⟩
  obtain ⟨F, hF⟩ : ∃ F, F = flatOf a := ⟨_, rfl⟩
  obtain ⟨Y, hY⟩ : ∃ Y, Y = atOf F bs := ⟨_, rfl⟩
  have HX := Lib.hid hX
  have HF := Lib.hid hF
  have HY := Lib.hid hY
  have HN := Lib.hid (show a.da.length ≤ 4096 by rw [ht.len]; exact ht.good.2.2)
  have hfa := flat_at ht hbs hp
  have HXL := Lib.hid (show X.da.length = a.da.length by rw [hX]; exact putTo_length _ _ _ _)
  have HXS := Lib.hid (show X.sh = a.sh by rw [hX]; rfl)
  have HYC := Lib.hid (show Y.ch = false by rw [hY, hF, hfa.2])
  have HXO := Lib.hid (show ∀ (i : Nat) (x : Int), X.da[i]? = some x → ((i : Int) ∈ Y.da → x ∈ v.da) ∧ ((i : Int) ∉ Y.da → a.da[i]? = some x) by
    intro i x hx
    rw [hX] at hx
    rw [hY, hF, hfa.2]
    exact ⟨fun h => put_named ht hbs hvo hp hsv h hx, fun h => by rw [← put_others ht h hp (v := v)]; exact hx⟩)
  have HFE := Lib.hid hfa.1
  have HVC := Lib.hid hc
  have eC : (X.ch == a.ch) = true := by rw [hX]; simp [putOf]
  have eL : ((X.da.length : Int) != (a.da.length : Int)) = false := by rw [HXL.out]; simp
  clear hE ht hbs hvo hp hc hsv hX hF hY hfa
  go_wp2_with fail
  refine ((show Calls _ _ _ _ (GivesOk X _) from by rw [HX.out]; exact put_ok (ha.mono hbw4) (hm.mono hbw4) (hv.mono hbw4) HE.out)).mono ?_
  rintro e w5 ⟨r5, rfl, hr5, hb5⟩
  have hbw5 := hbw4.trans (hb5.mono hbw4.size)
  have b_a5 := b_a4.below hb5
  have b_v5 := b_v4.below hb5
  clear hb5 b_a4 b_v4 hbw4 c_a0 c_a1 c_a2 l_a c_v0 c_v1 c_v2 l_v
  obtain ⟨c_a0, c_a1, c_a2⟩ := b_a5.three
  have l_a := b_a5.lt
  obtain ⟨c_v0, c_v1, c_v2⟩ := b_v5.three
  have l_v := b_v5.lt
  obtain ⟨A5, ca5, D5, cd5, rfl, hs5, hd5⟩ := hr5.open_
  go_wp2_with fail
  refine (iota_ok a.da.length _ HN.out).mono ?_
  rintro e w6 ⟨r6, rfl, hr6, hb6⟩
  have hbw6 := (hbw5.trans ((below_one w5 _).mono hbw5.size)).trans (hb6.mono (hbw5.trans ((below_one w5 _).mono hbw5.size)).size)
  have b_a6 := (b_a5.alloc _).below hb6
  have b_v6 := (b_v5.alloc _).below hb6
  have b_xx6 := (Box.new w5 24 #[.bool (X).ch, .slice A5 (X).sh.length ca5, .slice D5 (X).da.length cd5]).below hb6
  have a_x6 := (hr5.mono (below_one _ _)).mono hb6
  clear hb6 b_a5 b_v5 hr5 hbw5 c_a0 c_a1 c_a2 l_a c_v0 c_v1 c_v2 l_v
  obtain ⟨c_a0, c_a1, c_a2⟩ := b_a6.three
  have l_a := b_a6.lt
  obtain ⟨c_v0, c_v1, c_v2⟩ := b_v6.three
  have l_v := b_v6.lt
  obtain ⟨c_xx0, c_xx1, c_xx2⟩ := b_xx6.three
  have l_xx := b_xx6.lt
  obtain ⟨A6, ca6, D6, cd6, rfl, hs6, hd6⟩ := hr6.open_
  have o_ai := l_a
  have o_vi := l_v
  have o_xi := l_xx
  go_wp2_with fail
  refine ((show Calls _ _ _ _ (GivesOk F _) from by rw [HF.out, show flatOf a = rshOf (ints t) (prod t) (firstNums a.da.length) by unfold flatOf; rw [PT.out.sh, PT.out.nsh_eq]]; exact reshape_ok ((IsArr.shapeOf (ha.mono (hbw6.trans ((below_one w6 _).mono hbw6.size)))).eq PT.out.sh) (hr6.mono (below_one _ _)) PT.out.good (firstNums_ok HN.out) (by intro h; simp only [firstNums, ints, List.length_map, List.length_range]; rw [PT.out.len]; exact h))).mono ?_
  rintro e w7 ⟨r7, rfl, hr7, hb7⟩
  have hbw7 := (hbw6.trans ((below_one w6 _).mono hbw6.size)).trans (hb7.mono (hbw6.trans ((below_one w6 _).mono hbw6.size)).size)
  have b_a7 := (b_a6.alloc _).below hb7
  have b_v7 := (b_v6.alloc _).below hb7
  have b_xx7 := (b_xx6.alloc _).below hb7
  have b_xi7 := (Box.new w6 24 #[.bool (firstNums a.da.length).ch, .slice A6 (firstNums a.da.length).sh.length ca6, .slice D6 (firstNums a.da.length).da.length cd6]).below hb7
  have a_x7 := (a_x6.mono (below_one _ _)).mono hb7
  have a_i7 := (hr6.mono (below_one _ _)).mono hb7
  clear hb7 b_a6 b_v6 b_xx6 a_x6 hr6 hbw6 c_a0 c_a1 c_a2 l_a c_v0 c_v1 c_v2 l_v c_xx0 c_xx1 c_xx2 l_xx
  obtain ⟨c_a0, c_a1, c_a2⟩ := b_a7.three
  have l_a := b_a7.lt
  obtain ⟨c_v0, c_v1, c_v2⟩ := b_v7.three
  have l_v := b_v7.lt
  obtain ⟨c_xx0, c_xx1, c_xx2⟩ := b_xx7.three
  have l_xx := b_xx7.lt
  obtain ⟨c_xi0, c_xi1, c_xi2⟩ := b_xi7.three
  have l_xi := b_xi7.lt
  obtain ⟨A7, ca7, D7, cd7, rfl, hs7, hd7⟩ := hr7.open_
  have fz7 := b_xi7.frozen
  have sc_a0_7 := cellS (q := ⟨w6.heap.size, 0, none⟩) (u := (.bool (F).ch)) c_a0 (by simp; omega)
  have sc_a1_7 := cellS (q := ⟨w6.heap.size, 1, none⟩) (u := (.slice A7 (F).sh.length ca7)) c_a1 (by simp; omega)
  have sc_a2_7 := cellS (q := ⟨w6.heap.size, 2, none⟩) (u := (.slice D7 (F).da.length cd7)) c_a2 (by simp; omega)
  have sc_v0_7 := cellS (q := ⟨w6.heap.size, 0, none⟩) (u := (.bool (F).ch)) c_v0 (by simp; omega)
  have sc_v1_7 := cellS (q := ⟨w6.heap.size, 1, none⟩) (u := (.slice A7 (F).sh.length ca7)) c_v1 (by simp; omega)
  have sc_v2_7 := cellS (q := ⟨w6.heap.size, 2, none⟩) (u := (.slice D7 (F).da.length cd7)) c_v2 (by simp; omega)
  have sc_xx0_7 := cellS (q := ⟨w6.heap.size, 0, none⟩) (u := (.bool (F).ch)) c_xx0 (by simp; omega)
  have sc_xx1_7 := cellS (q := ⟨w6.heap.size, 1, none⟩) (u := (.slice A7 (F).sh.length ca7)) c_xx1 (by simp; omega)
  have sc_xx2_7 := cellS (q := ⟨w6.heap.size, 2, none⟩) (u := (.slice D7 (F).da.length cd7)) c_xx2 (by simp; omega)
  have gb7 := grownBy_three w7 (w6.heap.size) (.bool (F).ch) (.slice A7 (F).sh.length ca7) (.slice D7 (F).da.length cd7)
  have n_a7 := b_a7.grown gb7 (by simp; omega)
  have n_v7 := b_v7.grown gb7 (by simp; omega)
  have n_xx7 := b_xx7.grown gb7 (by simp; omega)
  have n_xi7 := ((b_xi7.store 0 (.bool (F).ch)).store 1 (.slice A7 (F).sh.length ca7)).store 2 (.slice D7 (F).da.length cd7)
  simp only [List.setIfInBounds_toArray, List.set_cons_zero, List.set_cons_succ] at n_xi7
  have m_x7 := a_x7.laid b_xi7 (.bool (F).ch) (.slice A7 (F).sh.length ca7) (.slice D7 (F).da.length cd7)
  have m_f7 := hr7.laid b_xi7 (.bool (F).ch) (.slice A7 (F).sh.length ca7) (.slice D7 (F).da.length cd7)
  have hbs7 : Below w.heap.size w (((w7.setCell ⟨w6.heap.size, 0, none⟩ (.bool (F).ch)).setCell ⟨w6.heap.size, 1, none⟩ (.slice A7 (F).sh.length ca7)).setCell ⟨w6.heap.size, 2, none⟩ (.slice D7 (F).da.length cd7)) := by have := hbw7.size; go_grown
  go_wp2_with fail
  refine ((show Calls _ _ _ _ (GivesOk Y _) from by rw [HY.out]; exact at_ok m_f7 (hm.mono hbs7) (by rw [HF.out]; exact HFE.out))).mono ?_
  rintro e w8 ⟨r8, rfl, hr8, hb8⟩
  have hbw8 := hbs7.trans (hb8.mono hbs7.size)
  have b_a8 := n_a7.below hb8
  have b_v8 := n_v7.below hb8
  have b_xx8 := n_xx7.below hb8
  have b_xi8 := n_xi7.below hb8
  have a_x8 := m_x7.mono hb8
  have a_f8 := m_f7.mono hb8
  clear hb8 n_a7 n_v7 n_xx7 n_xi7 m_x7 m_f7 hbs7 c_a0 c_a1 c_a2 l_a c_v0 c_v1 c_v2 l_v c_xx0 c_xx1 c_xx2 l_xx c_xi0 c_xi1 c_xi2 l_xi sc_a0_7 sc_a1_7 sc_a2_7 sc_v0_7 sc_v1_7 sc_v2_7 sc_xx0_7 sc_xx1_7 sc_xx2_7 fz7
  obtain ⟨c_a0, c_a1, c_a2⟩ := b_a8.three
  have l_a := b_a8.lt
  obtain ⟨c_v0, c_v1, c_v2⟩ := b_v8.three
  have l_v := b_v8.lt
  obtain ⟨c_xx0, c_xx1, c_xx2⟩ := b_xx8.three
  have l_xx := b_xx8.lt
  obtain ⟨c_xi0, c_xi1, c_xi2⟩ := b_xi8.three
  have l_xi := b_xi8.lt
  obtain ⟨A8, ca8, D8, cd8, rfl, hs8, hd8⟩ := hr8.open_
  go_wp2_with fail
  refine (ints_any _ _ _ _ _ (IsArr.shapeOf (a_x8.mono (below_one _ _))) (IsArr.shapeOf (ha.mono (hbw8.trans ((below_one w8 _).mono hbw8.size))))).mono ?_
  rintro e w9 ⟨r9, rfl, hr9, hb9⟩
  have e9 : r9 = true := hr9.2 (HXS.out)
  subst e9
  clear hr9
  have hbw9 := (hbw8.trans ((below_one w8 _).mono hbw8.size)).trans (hb9.mono (hbw8.trans ((below_one w8 _).mono hbw8.size)).size)
  have b_a9 := (b_a8.alloc _).below hb9
  have b_v9 := (b_v8.alloc _).below hb9
  have b_xx9 := (b_xx8.alloc _).below hb9
  have b_xi9 := (b_xi8.alloc _).below hb9
  have b_xat9 := (Box.new w8 24 #[.bool (Y).ch, .slice A8 (Y).sh.length ca8, .slice D8 (Y).da.length cd8]).below hb9
  have a_x9 := (a_x8.mono (below_one _ _)).mono hb9
  have a_f9 := (a_f8.mono (below_one _ _)).mono hb9
  have a_at9 := (hr8.mono (below_one _ _)).mono hb9
  clear hb9 b_a8 b_v8 b_xx8 b_xi8 a_x8 a_f8 hr8 hbw8 c_a0 c_a1 c_a2 l_a c_v0 c_v1 c_v2 l_v c_xx0 c_xx1 c_xx2 l_xx c_xi0 c_xi1 c_xi2 l_xi
  obtain ⟨c_a0, c_a1, c_a2⟩ := b_a9.three
  have l_a := b_a9.lt
  obtain ⟨c_v0, c_v1, c_v2⟩ := b_v9.three
  have l_v := b_v9.lt
  obtain ⟨c_xx0, c_xx1, c_xx2⟩ := b_xx9.three
  have l_xx := b_xx9.lt
  obtain ⟨c_xi0, c_xi1, c_xi2⟩ := b_xi9.three
  have l_xi := b_xi9.lt
  obtain ⟨c_xat0, c_xat1, c_xat2⟩ := b_xat9.three
  have l_xat := b_xat9.lt
  have HAA := Lib.hid (ha.mono hbw9)
  have HXX := Lib.hid a_x9
  have HVV := Lib.hid (hv.mono hbw9)
  have HYY := Lib.hid a_at9
  have EXX := Lib.hid (IsArr.dataOf HXX.out).elems
  have EAA := Lib.hid (IsArr.dataOf HAA.out).elems
  go_wp2_with fail
  go_loopw [18] (fun s18 wr => ∃ q : Nat, q ≤ a.da.length ∧ s18 = .int .i64 q ∧ Below w9.heap.size w9 wr) (fun s18 _ => a.da.length - (intOf s18).toNat)
  case atStart => exact ⟨0, Nat.zero_le _, rfl, Below.refl _ _⟩
  case round =>
    clear c_a0 c_a1 c_a2 c_v0 c_v1 c_v2 c_xx0 c_xx1 c_xx2 c_xi0 c_xi1 c_xi2 c_xat0 c_xat1 c_xat2
    obtain ⟨q, hi, rfl, hbx⟩ := hrel
    obtain ⟨ka0, ka1, ka2⟩ := (b_a9.below hbx).three
    obtain ⟨kv0, kv1, kv2⟩ := (b_v9.below hbx).three
    obtain ⟨kxx0, kxx1, kxx2⟩ := (b_xx9.below hbx).three
    obtain ⟨kxi0, kxi1, kxi2⟩ := (b_xi9.below hbx).three
    obtain ⟨kxat0, kxat1, kxat2⟩ := (b_xat9.below hbx).three
    rcases Nat.lt_or_ge q a.da.length with hlt | hge
    · go_wp2_with fail
      refine (has_any _ Y false q _ (HYY.out.mono hbx)).mono ?_
      rintro e w2 ⟨r1, rfl, hr1, hb2⟩
      have hbx2 := hbx.trans (hb2.mono hbx.size)
      have HR1 := Lib.hid hr1
      clear ka0 ka1 ka2 kv0 kv1 kv2 kxx0 kxx1 kxx2 kxi0 kxi1 kxi2 kxat0 kxat1 kxat2 hr1 hb2
      obtain ⟨ka0, ka1, ka2⟩ := (b_a9.below hbx2).three
      obtain ⟨kv0, kv1, kv2⟩ := (b_v9.below hbx2).three
      obtain ⟨kxx0, kxx1, kxx2⟩ := (b_xx9.below hbx2).three
      obtain ⟨kxi0, kxi1, kxi2⟩ := (b_xi9.below hbx2).three
      obtain ⟨kxat0, kxat1, kxat2⟩ := (b_xat9.below hbx2).three
      obtain ⟨ax, x, hax, hx, hlx, hcx⟩ := Elems.later EXX.out hbx2 (k := q) (by rw [HXL.out]; exact hlt)
      subst hax
      obtain ⟨aa, y, haa, hy, hla, hca⟩ := Elems.later EAA.out hbx2 hlt
      subst haa
      have HXI := Lib.hid (HXO.out q x hx)
      have HYI := Lib.hid hy
      have hxl : q < X.da.length := by rw [HXL.out]; exact hlt
      have HV3 := Lib.hid (HVV.out.mono hbx2)
      have lt_a := (b_a9.below hbx2).lt
      have lt_v := (b_v9.below hbx2).lt
      have lt_xx := (b_xx9.below hbx2).lt
      have lt_xi := (b_xi9.below hbx2).lt
      have lt_xat := (b_xat9.below hbx2).lt
      have HCX := Lib.hid (show ∀ wr, Below w2.heap.size w2 wr → wr.cell? (ax.add q) = some (.int .i64 x) from fun wr h => (h.cell (p := ax.add q) (by rw [addr_block_add]; have := hbx2.size; omega)).trans hcx)
      have hn4 := HN.out
      clear hx hy
      go_wp2_with fail
      refine wp_region_gate 9 0 (fun j v' lo hi w' => match j with
          | 0 => v' = .agg #[.bool v.ch, .slice A' v.sh.length cb, .slice D' v.da.length db]
          | 1 => v' = .pointer (some ⟨w.heap.size, 0, none⟩)
          | 2 => v' = .bool a.ch
          | 3 => v' = .pointer (some ⟨w5.heap.size, 2, none⟩)
          | 4 => v' = .slice (some ax) (X).da.length cd5
          | 5 => v' = .int .i64 q
          | 6 => v' = .pointer (some (ax.add q))
          | 7 => v' = .int .i64 x
          | 8 => ∃ r : Bool, v' = .bool r ∧ (r = true ↔ (v.ch = a.ch ∧ x ∈ v.da))
          | _ => True) (by kernel_rfl) (by kernel_rfl) (by kernel_rfl) ?hV ?step ?last
      case hV =>
        intro i v lo hi w1 w2 h hb
        match i, h with
        | 0, h => exact h
        | 1, h => exact h
        | 2, h => exact h
        | 3, h => exact h
        | 4, h => exact h
        | 5, h => exact h
        | 6, h => exact h
        | 7, h => exact h
        | 8, h => exact h
        | i + 9, _ => trivial
      case step =>
        simp only [List.take_succ_cons, List.take_zero, putAll, Act.put, List.setIfInBounds_toArray, List.set_cons_zero, List.set_cons_succ, Nat.reduceAdd, Nat.zero_add]
        intro i o ho hi u lo up wr hbr hd hj K hK
        obtain ⟨hcw, hfw⟩ := bcell hbr
        match i, ho with
        | 0, ho =>
          simp only [List.getElem?_cons_zero, Option.some.injEq] at ho
          subst ho
          simp only [Act.put, List.setIfInBounds_toArray, List.set_cons_zero, List.set_cons_succ] at hK
          first | (simp [Region.binds] at hd; simp only [hd] at hK) | skip
          refine wpOp_step rfl fun K' hK' => ?_
          go_simp
          exact hK' _ _ (hK _ _ (Below.refl _ _) rfl)
        | 1, ho =>
          simp only [List.getElem?_cons_succ, List.getElem?_cons_zero, Option.some.injEq] at ho
          subst ho
          simp only [Act.put, List.setIfInBounds_toArray, List.set_cons_zero, List.set_cons_succ] at hK
          first | (simp [Region.binds] at hd; simp only [hd] at hK) | skip
          refine wpOp_step rfl fun K' hK' => ?_
          go_simp
          exact hK' _ _ (hK _ _ (Below.refl _ _) rfl)
        | 2, ho =>
          simp only [List.getElem?_cons_succ, List.getElem?_cons_zero, Option.some.injEq] at ho
          subst ho
          simp only [Act.put, List.setIfInBounds_toArray, List.set_cons_zero, List.set_cons_succ] at hK
          first | (simp [Region.binds] at hd; simp only [hd] at hK) | skip
          refine wpOp_step rfl fun K' hK' => ?_
          go_simp
          exact hK' _ _ (hK _ _ (Below.refl _ _) rfl)
        | 3, ho =>
          simp only [List.getElem?_cons_succ, List.getElem?_cons_zero, Option.some.injEq] at ho
          subst ho
          simp only [Act.put, List.setIfInBounds_toArray, List.set_cons_zero, List.set_cons_succ] at hK
          first | (simp [Region.binds] at hd; simp only [hd] at hK) | skip
          refine wpOp_step rfl fun K' hK' => ?_
          go_simp
          exact hK' _ _ (hK _ _ (Below.refl _ _) rfl)
        | 4, ho =>
          simp only [List.getElem?_cons_succ, List.getElem?_cons_zero, Option.some.injEq] at ho
          subst ho
          simp only [Act.put, List.setIfInBounds_toArray, List.set_cons_zero, List.set_cons_succ] at hK
          first | (simp [Region.binds] at hd; simp only [hd] at hK) | skip
          refine wpOp_step rfl fun K' hK' => ?_
          go_simp
          exact hK' _ _ (hK _ _ (Below.refl _ _) rfl)
        | 5, ho =>
          simp only [List.getElem?_cons_succ, List.getElem?_cons_zero, Option.some.injEq] at ho
          subst ho
          simp only [Act.put, List.setIfInBounds_toArray, List.set_cons_zero, List.set_cons_succ] at hK
          first | (simp [Region.binds] at hd; simp only [hd] at hK) | skip
          refine wpOp_step rfl fun K' hK' => ?_
          go_simp
          exact hK' _ _ (hK _ _ (Below.refl _ _) rfl)
        | 6, ho =>
          simp only [List.getElem?_cons_succ, List.getElem?_cons_zero, Option.some.injEq] at ho
          subst ho
          simp only [Act.put, List.setIfInBounds_toArray, List.set_cons_zero, List.set_cons_succ] at hK
          first | (simp [Region.binds] at hd; simp only [hd] at hK) | skip
          refine wpOp_step rfl fun K' hK' => ?_
          go_simp
          exact hK' _ _ (hK _ _ (Below.refl _ _) rfl)
        | 7, ho =>
          simp only [List.getElem?_cons_succ, List.getElem?_cons_zero, Option.some.injEq] at ho
          subst ho
          simp only [Act.put, List.setIfInBounds_toArray, List.set_cons_zero, List.set_cons_succ] at hK
          have h6 : u 6 = .pointer (some (ax.add q)) := hd ⟨6, .data⟩ (by simp) rfl
          have hcr := HCX.out wr hbr
          simp only [h6] at hK
          refine wpOp_step rfl fun K' hK' => ?_
          go_simp
          exact hK' _ _ (hK _ _ (Below.refl _ _) rfl)
        | 8, ho =>
          simp only [List.getElem?_cons_succ, List.getElem?_cons_zero, Option.some.injEq] at ho
          subst ho
          simp only [Act.put, List.setIfInBounds_toArray, List.set_cons_zero, List.set_cons_succ] at hK
          have h0 : u 0 = .agg #[.bool v.ch, .slice A' v.sh.length cb, .slice D' v.da.length db] := hd ⟨0, .data⟩ (by simp) rfl
          have h2 : u 2 = .bool a.ch := hd ⟨2, .data⟩ (by simp) rfl
          have h7 : u 7 = .int .i64 x := hd ⟨7, .data⟩ (by simp) rfl
          simp only [h0, h2, h7] at hK
          refine wpOp_step rfl fun K' hK' => ?_
          go_simp
          refine (has_any _ v a.ch x _ (HV3.out.mono hbr)).mono ?_
          rintro e w5 ⟨r, rfl, hr, hb5⟩
          exact hK' _ _ (hK _ _ hb5 ⟨r, rfl, hr⟩)
        | i + 9, ho => omega
      case last =>
        simp only [List.take_succ_cons, List.take_zero, putAll, Act.put, List.setIfInBounds_toArray, List.set_cons_zero, List.set_cons_succ, Nat.reduceAdd, Nat.zero_add]
        intro u wr lo up hbr hv hj
        obtain ⟨r2, e8, hr2⟩ := hv 8 (by omega)
        simp only [e8]
        clear hv hj e8
        unfold tailWp
        refine wpOp_step rfl fun K' hK' => ?_
        go_simp
        refine hK' _ _ ?_
        clear hK'
        have hbx3 := hbx2.trans (hbr.mono hbx2.size)
        have hcX := (hbr.cell (p := ax.add q) (by rw [addr_block_add]; have := hbx2.size; omega)).trans hcx
        have hcA := (hbr.cell (p := aa.add q) (by rw [addr_block_add]; have := hbx2.size; omega)).trans hca
        clear ka0 ka1 ka2 kv0 kv1 kv2 kxx0 kxx1 kxx2 kxi0 kxi1 kxi2 kxat0 kxat1 kxat2 hcx hca
        obtain ⟨ka0, ka1, ka2⟩ := (b_a9.below hbx3).three
        obtain ⟨kv0, kv1, kv2⟩ := (b_v9.below hbx3).three
        obtain ⟨kxx0, kxx1, kxx2⟩ := (b_xx9.below hbx3).three
        obtain ⟨kxi0, kxi1, kxi2⟩ := (b_xi9.below hbx3).three
        obtain ⟨kxat0, kxat1, kxat2⟩ := (b_xat9.below hbx3).three
        have hcx2 := hcX
        have hca2 := hcA
        rcases r1 with _ | _
        · have hni : (q : Int) ∉ Y.da := fun h => by have := HR1.out.2 ⟨HYC.out, h⟩; cases this
          have hxy : x = y := by have := HXI.out.2 hni; rw [HYI.out] at this; injection this with e; exact e.symm
          subst hxy
          have HYX := Lib.hid hcx2
          go_wp2_with fail
          go_quiet (fail)
          all_goals go_wp2_with fail
          go_roundw
          case rel => exact ⟨q + 1, by omega, by go_num, hbx3.trans (below_draws _ _ _)⟩
          case measure => simp [intOf]; omega
        · have hr2t : r2 = true := hr2.2 ⟨HVC.out.symm, HXI.out.1 (HR1.out.1 rfl).2⟩
          subst hr2t
          go_wp2_with fail
          go_region
          all_goals go_wp2_with fail
          go_roundw
          case rel => exact ⟨q + 1, by omega, by go_num, hbx3.trans (below_draws _ _ _)⟩
          case measure => simp [intOf]; omega
    · go_wp2_with fail
      go_ret
      exact ⟨rfl, hbw9.trans (hbx.mono hbw9.size)⟩

end Go.Proofs.Ytnjjapfdgddemaa
