/- The walk of the law SeekOnce. Conditions: none. -/
import Derived.Test.YtfemeaehpjajlaaSeekLaw
import Derived.Test.YtfemeaehpjajlaaStore
import Derived.Test.YtfemeaehpjajlaaMore
import Derived.Test.YtfemeaehpjajlaaAlike
import Derived.Test.YtfemeaehpjajlaaMake
import Derived.Test.YtfemeaehpjajlaaBase
namespace Go.Proofs.Ytfemeaehpjajlaa
open Go Go.RowKit Go.Proofs.Ytfemeaehpjajlaa.P

set_option maxRecDepth 100000 in
set_option maxHeartbeats 4000000 in
theorem seekOnce_walk (va : Value) (a : Arr) (w : World) (ha : IsArr w va a) (wa : Wf a.da) :
    Calls Try.prog 9 #[va] w (Says w) := by
  obtain ⟨A, ca, D, da, rfl, -, -⟩ := ha.open_
  have Wa := Lib.hid wa
  clear wa
  go_enter Try.func9, Try.ntmps9
  go_wp2_with fail
  have x1 := (Box.new (w.alloc (.cells #[.bool a.ch, .slice A a.sh.length ca, .slice D a.da.length da] 24)) 3 #[.int .i64 5, .int .i64 6, .int .i64 5])
  simp only [World.size_alloc, World.size_setCell] at x1
  have i1 : IsInts ((w.alloc (.cells #[.bool a.ch, .slice A a.sh.length ca, .slice D a.da.length da] 24)).alloc (.cells #[.int .i64 5, .int .i64 6, .int .i64 5] 3)) (.slice (some ⟨w.heap.size + 1, 0, none⟩) 3 3) [5, 6, 5] := x1.isInts (xs := [5, 6, 5]) (n := 3) rfl (by omega)
  clear x1
  refine (vec_any _ [5, 6, 5] _ i1).mono ?_
  rintro e w1 ⟨r1, rfl, hr1, hb1⟩
  have hbw1 := ((Below.refl w.heap.size w).trans ((below_two w _ _).mono (Below.refl w.heap.size w).size)).trans (hb1.mono ((Below.refl w.heap.size w).trans ((below_two w _ _).mono (Below.refl w.heap.size w).size)).size)
  have b_a1 := ((Box.new w 24 #[.bool a.ch, .slice A a.sh.length ca, .slice D a.da.length da]).alloc _).below hb1
  clear hb1 i1
  obtain ⟨c_a0, c_a1, c_a2⟩ := b_a1.three
  have l_a := b_a1.lt
  go_wp2_with fail
  refine ((show Calls _ _ _ _ (GivesOk (nub ⟨false, [3], [5, 6, 5]⟩) _) from (nub_told hr1 (wf_three (by decide) (by decide) (by decide))).mono fun e w' h => h.ok (by decide +kernel))).mono ?_
  rintro e w2 ⟨r2, rfl, hr2, hb2⟩
  have hbw2 := hbw1.trans (hb2.mono hbw1.size)
  have b_a2 := b_a1.below hb2
  clear hb2 b_a1 hbw1 c_a0 c_a1 c_a2 l_a hr1
  obtain ⟨c_a0, c_a1, c_a2⟩ := b_a2.three
  have l_a := b_a2.lt
  obtain ⟨A2, ca2, D2, cd2, rfl, hs2, hd2⟩ := hr2.open_
  go_wp2_with fail
  have bq := Box.new (w2.alloc (.cells #[.bool ((nub ⟨false, [3], [5, 6, 5]⟩)).ch, .slice A2 ((nub ⟨false, [3], [5, 6, 5]⟩)).sh.length ca2, .slice D2 ((nub ⟨false, [3], [5, 6, 5]⟩)).da.length cd2] 24)) 3 #[.int .i64 5, .int .i64 6]
  rw [World.size_alloc] at bq
  refine (ints_any _ _ _ [5, 6] _ (hd2.mono (below_two _ _ _)) (bq.isInts rfl (by simp))).mono ?_
  rintro e w3 ⟨r3, rfl, hr3, hb3⟩
  have e3 : r3 = true := hr3.2 (by decide)
  subst e3
  clear hr3 hs2 hd2
  clear hr2
  have hbw3 := (hbw2.trans ((below_two w2 _ _).mono hbw2.size)).trans (hb3.mono (hbw2.trans ((below_two w2 _ _).mono hbw2.size)).size)
  have b_a3 := ((b_a2.alloc _).alloc _).below hb3
  clear hb3 b_a2 hbw2 c_a0 c_a1 c_a2 l_a bq
  obtain ⟨c_a0, c_a1, c_a2⟩ := b_a3.three
  have l_a := b_a3.lt
  by_cases hE : nubErr a = 0
  · skip
    obtain ⟨t1_, ho1, hl1⟩ := nubErr_zero hE
    have HN := Lib.hid (nubErr_ok (nub_ok ho1) (one_axis_nub a))
    have HI := Lib.hid (indexErr_ok ho1 (nub_ok ho1) hl1)
    have H2 := Lib.hid (twoErr_ok ho1 (nub_ok ho1))
    have hl4 := ok_da_le ho1
    have hm4 := ok_da_le (nub_ok ho1)
    clear ho1 hl1
    have HE := Lib.hid hE
    clear hE
    go_wp2_with fail
    refine ((show Calls _ _ _ _ (GivesOk (nub a) _) from (nub_told (ha.mono hbw3) Wa.out).mono fun e w' h => h.ok HE.out)).mono ?_
    rintro e w4 ⟨r4, rfl, hr4, hb4⟩
    have hbw4 := hbw3.trans (hb4.mono hbw3.size)
    have b_a4 := b_a3.below hb4
    clear hb4 b_a3 hbw3 c_a0 c_a1 c_a2 l_a
    obtain ⟨c_a0, c_a1, c_a2⟩ := b_a4.three
    have l_a := b_a4.lt
    obtain ⟨A4, ca4, D4, cd4, rfl, hs4, hd4⟩ := hr4.open_
    go_wp2_with fail
    refine ((show Calls _ _ _ _ (GivesOk (nub (nub a)) _) from (nub_told (hr4.mono (below_one _ _)) (wf_nub Wa.out)).mono fun e w' h => h.ok HN.out)).mono ?_
    rintro e w5 ⟨r5, rfl, hr5, hb5⟩
    have hbw5 := (hbw4.trans ((below_one w4 _).mono hbw4.size)).trans (hb5.mono (hbw4.trans ((below_one w4 _).mono hbw4.size)).size)
    have b_a5 := (b_a4.alloc _).below hb5
    have b_xx5 := (Box.new w4 24 #[.bool (nub a).ch, .slice A4 (nub a).sh.length ca4, .slice D4 (nub a).da.length cd4]).below hb5
    have a_x5 := (hr4.mono (below_one _ _)).mono hb5
    clear hb5 b_a4 hr4 hbw4 c_a0 c_a1 c_a2 l_a
    obtain ⟨c_a0, c_a1, c_a2⟩ := b_a5.three
    have l_a := b_a5.lt
    obtain ⟨c_xx0, c_xx1, c_xx2⟩ := b_xx5.three
    have l_xx := b_xx5.lt
    obtain ⟨A5, ca5, D5, cd5, rfl, hs5, hd5⟩ := hr5.open_
    go_wp2_with fail
    refine (alike_nil _ _ _ _ _ (hr5.mono (below_one _ _)) (a_x5.mono (below_one _ _))).mono ?_
    rintro e w6 ⟨r6, rfl, hr6, hb6⟩
    have e6 : r6 = true := hr6.2 (nub_nub a)
    subst e6
    clear hr6
    have hbw6 := (hbw5.trans ((below_one w5 _).mono hbw5.size)).trans (hb6.mono (hbw5.trans ((below_one w5 _).mono hbw5.size)).size)
    have b_a6 := (b_a5.alloc _).below hb6
    have b_xx6 := (b_xx5.alloc _).below hb6
    have b_xy6 := (Box.new w5 24 #[.bool (nub (nub a)).ch, .slice A5 (nub (nub a)).sh.length ca5, .slice D5 (nub (nub a)).da.length cd5]).below hb6
    have a_x6 := (a_x5.mono (below_one _ _)).mono hb6
    have a_y6 := (hr5.mono (below_one _ _)).mono hb6
    clear hb6 b_a5 b_xx5 a_x5 hr5 hbw5 c_a0 c_a1 c_a2 l_a c_xx0 c_xx1 c_xx2 l_xx
    obtain ⟨c_a0, c_a1, c_a2⟩ := b_a6.three
    have l_a := b_a6.lt
    obtain ⟨c_xx0, c_xx1, c_xx2⟩ := b_xx6.three
    have l_xx := b_xx6.lt
    obtain ⟨c_xy0, c_xy1, c_xy2⟩ := b_xy6.three
    have l_xy := b_xy6.lt
    go_wp2_with fail
    refine ((show Calls _ _ _ _ (GivesOk (index a (nub a)) _) from (index_told (ha.mono hbw6) a_x6 Wa.out (wf_nub Wa.out)).mono fun e w' h => h.ok HI.out)).mono ?_
    rintro e w7 ⟨r7, rfl, hr7, hb7⟩
    have hbw7 := hbw6.trans (hb7.mono hbw6.size)
    have b_a7 := b_a6.below hb7
    have b_xx7 := b_xx6.below hb7
    have b_xy7 := b_xy6.below hb7
    have a_x7 := a_x6.mono hb7
    have a_y7 := a_y6.mono hb7
    clear hb7 b_a6 b_xx6 b_xy6 a_x6 a_y6 hbw6 c_a0 c_a1 c_a2 l_a c_xx0 c_xx1 c_xx2 l_xx c_xy0 c_xy1 c_xy2 l_xy
    obtain ⟨c_a0, c_a1, c_a2⟩ := b_a7.three
    have l_a := b_a7.lt
    obtain ⟨c_xx0, c_xx1, c_xx2⟩ := b_xx7.three
    have l_xx := b_xx7.lt
    obtain ⟨c_xy0, c_xy1, c_xy2⟩ := b_xy7.three
    have l_xy := b_xy7.lt
    obtain ⟨A7, ca7, D7, cd7, rfl, hs7, hd7⟩ := hr7.open_
    go_wp2_with fail
    refine ((show Calls _ _ _ _ (GivesOk (isin a (nub a)) _) from (in_told (ha.mono (hbw7.trans ((below_one w7 _).mono hbw7.size))) (a_x7.mono (below_one _ _)) Wa.out (wf_nub Wa.out)).mono fun e w' h => h.ok H2.out)).mono ?_
    rintro e w8 ⟨r8, rfl, hr8, hb8⟩
    have hbw8 := (hbw7.trans ((below_one w7 _).mono hbw7.size)).trans (hb8.mono (hbw7.trans ((below_one w7 _).mono hbw7.size)).size)
    have b_a8 := (b_a7.alloc _).below hb8
    have b_xx8 := (b_xx7.alloc _).below hb8
    have b_xy8 := (b_xy7.alloc _).below hb8
    have b_xt8 := (Box.new w7 24 #[.bool (index a (nub a)).ch, .slice A7 (index a (nub a)).sh.length ca7, .slice D7 (index a (nub a)).da.length cd7]).below hb8
    have a_x8 := (a_x7.mono (below_one _ _)).mono hb8
    have a_y8 := (a_y7.mono (below_one _ _)).mono hb8
    have a_t8 := (hr7.mono (below_one _ _)).mono hb8
    clear hb8 b_a7 b_xx7 b_xy7 a_x7 a_y7 hr7 hbw7 c_a0 c_a1 c_a2 l_a c_xx0 c_xx1 c_xx2 l_xx c_xy0 c_xy1 c_xy2 l_xy
    obtain ⟨c_a0, c_a1, c_a2⟩ := b_a8.three
    have l_a := b_a8.lt
    obtain ⟨c_xx0, c_xx1, c_xx2⟩ := b_xx8.three
    have l_xx := b_xx8.lt
    obtain ⟨c_xy0, c_xy1, c_xy2⟩ := b_xy8.three
    have l_xy := b_xy8.lt
    obtain ⟨c_xt0, c_xt1, c_xt2⟩ := b_xt8.three
    have l_xt := b_xt8.lt
    obtain ⟨A8, ca8, D8, cd8, rfl, hs8, hd8⟩ := hr8.open_
    have eL1 : (((index a (nub a)).da.length : Int) != ((nub a).da.length : Int)) = false := by simp [index]
    have eL2 : (((isin a (nub a)).da.length : Int) != (a.da.length : Int)) = false := by simp [isin]
    go_wp2_with fail
    obtain ⟨W9, hW9⟩ : ∃ W, W = (w8.alloc (.cells #[.bool (isin a (nub a)).ch, .slice A8 (isin a (nub a)).sh.length ca8, .slice D8 (isin a (nub a)).da.length cd8] 24)) := ⟨_, rfl⟩
    have Ba := (b_a8.alloc (.cells #[.bool (isin a (nub a)).ch, .slice A8 (isin a (nub a)).sh.length ca8, .slice D8 (isin a (nub a)).da.length cd8] 24))
    rw [← hW9] at Ba
    have Bxx := (b_xx8.alloc (.cells #[.bool (isin a (nub a)).ch, .slice A8 (isin a (nub a)).sh.length ca8, .slice D8 (isin a (nub a)).da.length cd8] 24))
    rw [← hW9] at Bxx
    have Bxy := (b_xy8.alloc (.cells #[.bool (isin a (nub a)).ch, .slice A8 (isin a (nub a)).sh.length ca8, .slice D8 (isin a (nub a)).da.length cd8] 24))
    rw [← hW9] at Bxy
    have Bxt := (b_xt8.alloc (.cells #[.bool (isin a (nub a)).ch, .slice A8 (isin a (nub a)).sh.length ca8, .slice D8 (isin a (nub a)).da.length cd8] 24))
    rw [← hW9] at Bxt
    have Bxi := (Box.new w8 24 #[.bool (isin a (nub a)).ch, .slice A8 (isin a (nub a)).sh.length ca8, .slice D8 (isin a (nub a)).da.length cd8])
    rw [← hW9] at Bxi
    have Et0 := (IsArr.da_ (a_t8.mono (below_one _ (.cells #[.bool (isin a (nub a)).ch, .slice A8 (isin a (nub a)).sh.length ca8, .slice D8 (isin a (nub a)).da.length cd8] 24)))).elems
    rw [← hW9] at Et0
    have Et := Lib.hid Et0
    clear Et0
    have Ei0 := (IsArr.da_ (hr8.mono (below_one _ (.cells #[.bool (isin a (nub a)).ch, .slice A8 (isin a (nub a)).sh.length ca8, .slice D8 (isin a (nub a)).da.length cd8] 24)))).elems
    rw [← hW9] at Ei0
    have Ei := Lib.hid Ei0
    clear Ei0
    have HB9 := (hbw8.trans ((below_one w8 (.cells #[.bool (isin a (nub a)).ch, .slice A8 (isin a (nub a)).sh.length ca8, .slice D8 (isin a (nub a)).da.length cd8] 24)).mono hbw8.size))
    rw [← hW9] at HB9
    rw [← hW9]
    clear hW9 eL1 eL2 b_a8 b_xx8 b_xy8 b_xt8 a_x8 a_y8 a_t8 hr8 hbw8 c_a0 c_a1 c_a2 l_a c_xx0 c_xx1 c_xx2 l_xx c_xy0 c_xy1 c_xy2 l_xy c_xt0 c_xt1 c_xt2 l_xt
    go_loopw [15] (fun s15 wx => ∃ k : Nat, k ≤ (index a (nub a)).da.length ∧ s15 = .int .i64 k ∧ Below W9.heap.size W9 wx) (fun s15 _ => (index a (nub a)).da.length - (intOf s15).toNat)
    case atStart => exact ⟨0, Nat.zero_le _, rfl, Below.refl _ _⟩
    case round =>
      obtain ⟨k, hk, rfl, hbx⟩ := hrel
      obtain ⟨p0, p1, p2⟩ := (Ba.below hbx).three
      obtain ⟨x0, x1, x2⟩ := (Bxt.below hbx).three
      obtain ⟨y0, y1, y2⟩ := (Bxi.below hbx).three
      rcases Nat.lt_or_ge k (index a (nub a)).da.length with hlt | hge
      · obtain ⟨ax, x, rfl, hx, hax, hcx⟩ := Elems.later Et.out hbx hlt
        obtain ⟨y, hy, rfl, hyl⟩ := index_nub hx
        have hk4 : k < 4096 := by have := hm4; simp [index] at hlt; omega
        obtain ⟨F, hF⟩ : ∃ F, F = a.da.idxOf y := ⟨_, rfl⟩
        rw [← hF] at hcx hyl hx
        have d1 : decide (a.da.length ≤ F) = false := by simp; omega
        have HX := Lib.hid hx
        clear hF hx hy
        rcases Nat.eq_zero_or_pos k with h0 | h0
        · subst h0
          have d2 : decide ((0 : Int) < 0) = false := by simp
          have e0 : ax.add 0 = ax := by first | rfl | simp [Addr.add]
          have hcx0 := hcx
          rw [e0] at hcx0
          go_wp2_with fail
          go_quiet (fail)
          all_goals go_wp2_with fail
          go_roundw
          case rel => exact ⟨1, by omega, by go_num, hbx.trans (below_draws _ _ _)⟩
          case measure => simp [intOf]; omega
        · obtain ⟨k', hk'⟩ : ∃ k', k = k' + 1 := ⟨k - 1, by omega⟩
          obtain ⟨ax2, x2, eax, hx2, hax2, hcx2⟩ := Elems.later Et.out hbx (k := k') (by omega)
          injection eax with eax
          subst eax
          have hr := index_nub_rises hx2 (by rw [← hk']; exact HX.out)
          obtain ⟨y2, hy2, rfl, hyl2⟩ := index_nub hx2
          obtain ⟨G, hG⟩ : ∃ G, G = a.da.idxOf y2 := ⟨_, rfl⟩
          rw [← hG] at hcx2 hr
          have d3 : decide (F ≤ G) = false := by simp; omega
          have d2 : decide ((0 : Int) < (k : Int)) = true := by simp; omega
          have d2' : decide (0 < k) = true := by simp; omega
          have hk2 : k' < (index a (nub a)).da.length := by omega
          have ek : ((k : Int) - 1) = (k' : Int) := by omega
          have hk4' : k' < 4096 := by omega
          clear hG hx2 hy2 hr hyl2 hk' h0
          go_wp2_with fail
          go_quiet (fail)
          all_goals go_wp2_with fail
          go_roundw
          case rel => exact ⟨k + 1, by omega, by go_num, hbx.trans (below_draws _ _ _)⟩
          case measure => simp [intOf]; omega
      · go_wp2_with fail
        obtain ⟨wo, rfl⟩ : ∃ wo : World, wo = wr := ⟨_, rfl⟩
        clear p0 p1 p2 x0 x1 x2 y0 y1 y2 hk hge
        go_loopw [16] (fun s16 wx => ∃ k : Nat, k ≤ (isin a (nub a)).da.length ∧ s16 = .int .i64 k ∧ Below W9.heap.size W9 wx) (fun s16 _ => (isin a (nub a)).da.length - (intOf s16).toNat)
        case atStart => exact ⟨0, Nat.zero_le _, rfl, hbx⟩
        case round =>
          clear hbx
          obtain ⟨k, hk, rfl, hbx⟩ := hrel
          obtain ⟨p0, p1, p2⟩ := (Ba.below hbx).three
          obtain ⟨x0, x1, x2⟩ := (Bxt.below hbx).three
          obtain ⟨y0, y1, y2⟩ := (Bxi.below hbx).three
          rcases Nat.lt_or_ge k (isin a (nub a)).da.length with hlt | hge
          · obtain ⟨ai, i, rfl, hi, hai, hci⟩ := Elems.later Ei.out hbx hlt
            have hk4 : k < 4096 := by have := hl4; simp [isin] at hlt; omega
            obtain rfl := isin_nub a i (List.mem_of_getElem? hi)
            clear hi
            go_wp2_with fail
            go_roundw
            case rel => exact ⟨k + 1, by omega, by go_num, hbx⟩
            case measure => simp [intOf]; omega
          · go_wp2_with fail
            go_ret
            exact ⟨rfl, HB9.trans (hbx.mono HB9.size)⟩
  · skip
    have HE := Lib.hid hE
    clear hE
    go_wp2_with fail
    refine ((nub_told (ha.mono hbw3) Wa.out).mono fun e w' h => h.bad HE.out).mono ?_
    rintro e w4 ⟨rfl, hb4⟩
    have hbw4 := hbw3.trans (hb4.mono hbw3.size)
    have b_a4 := b_a3.below hb4
    clear hb4 b_a3 hbw3 c_a0 c_a1 c_a2 l_a
    obtain ⟨c_a0, c_a1, c_a2⟩ := b_a4.three
    have l_a := b_a4.lt
    go_wp2_with fail
    go_ret
    exact ⟨rfl, by have := hbw4.size; go_grown⟩

end Go.Proofs.Ytfemeaehpjajlaa
