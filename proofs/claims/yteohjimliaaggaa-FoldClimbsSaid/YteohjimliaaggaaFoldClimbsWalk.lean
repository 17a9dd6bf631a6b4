/- The walk of the law FoldClimbs. Conditions: none. -/
import Derived.Test.YteohjimliaaggaaClimbPlain
import Derived.Test.YteohjimliaaggaaArrOf
import Derived.Test.YteohjimliaaggaaStore
import Derived.Test.YteohjimliaaggaaMore
import Derived.Test.YteohjimliaaggaaAlike
import Derived.Test.YteohjimliaaggaaMake
import Derived.Test.YteohjimliaaggaaBase
set_option linter.unusedSimpArgs false
set_option linter.unusedVariables false
namespace Go.Proofs.Yteohjimliaaggaa
open Go Go.RowKit Go.Proofs.Yteohjimliaaggaa.P

set_option maxRecDepth 100000 in
set_option maxHeartbeats 4000000 in
theorem foldClimbs_walk (va : Value) (a : Arr) (w : World) (ha : IsArr w va a) (wa : Wf a.da) :
    Calls Try.prog 3 #[va] w (Says w) := by
  obtain ⟨A, ca, D, da, rfl, -, -⟩ := ha.open_
  have Wa := Lib.hid wa
  clear wa
  go_enter Try.func3, Try.ntmps3
  go_wp2_with fail
  have x1 := (Box.new (w.alloc (.cells #[.bool a.ch, .slice A a.sh.length ca, .slice D a.da.length da] 24)) 3 #[.int .i64 2, .int .i64 7, .int .i64 4])
  simp only [World.size_alloc, World.size_setCell] at x1
  have i1 : IsInts ((w.alloc (.cells #[.bool a.ch, .slice A a.sh.length ca, .slice D a.da.length da] 24)).alloc (.cells #[.int .i64 2, .int .i64 7, .int .i64 4] 3)) (.slice (some ⟨w.heap.size + 1, 0, none⟩) 3 3) [2, 7, 4] := x1.isInts (xs := [2, 7, 4]) (n := 3) rfl (by omega)
  clear x1
  refine (vec_any _ [2, 7, 4] _ i1).mono ?_
  rintro e w1 ⟨r1, rfl, hr1, hb1⟩
  have hbw1 := ((Below.refl w.heap.size w).trans ((below_two w _ _).mono (Below.refl w.heap.size w).size)).trans (hb1.mono ((Below.refl w.heap.size w).trans ((below_two w _ _).mono (Below.refl w.heap.size w).size)).size)
  have b_a1 := ((Box.new w 24 #[.bool a.ch, .slice A a.sh.length ca, .slice D a.da.length da]).alloc _).below hb1
  clear hb1 i1
  obtain ⟨c_a0, c_a1, c_a2⟩ := b_a1.three
  have l_a := b_a1.lt
  go_wp2_with fail
  refine ((show Calls _ _ _ _ (GivesOk (⟨false, [3], scan1 6 [2, 7, 4]⟩ : Arr) _) from scan_vec hr1 (ok_vec (xs := [2, 7, 4]) (by simp)) tame_max rfl (by intro x hx; simp at hx; rcases hx with rfl | rfl | rfl <;> decide))).mono ?_
  rintro e w2 ⟨r2, rfl, hr2, hb2⟩
  have hbw2 := hbw1.trans (hb2.mono hbw1.size)
  have b_a2 := b_a1.below hb2
  clear hb2 b_a1 hbw1 c_a0 c_a1 c_a2 l_a hr1
  obtain ⟨c_a0, c_a1, c_a2⟩ := b_a2.three
  have l_a := b_a2.lt
  obtain ⟨A2, ca2, D2, cd2, rfl, hs2, hd2⟩ := hr2.open_
  go_wp2_with fail
  have bq := Box.new (w2.alloc (.cells #[.bool ((⟨false, [3], scan1 6 [2, 7, 4]⟩ : Arr)).ch, .slice A2 ((⟨false, [3], scan1 6 [2, 7, 4]⟩ : Arr)).sh.length ca2, .slice D2 ((⟨false, [3], scan1 6 [2, 7, 4]⟩ : Arr)).da.length cd2] 24)) 3 #[.int .i64 2, .int .i64 7, .int .i64 7]
  rw [World.size_alloc] at bq
  refine (ints_any _ _ _ [2, 7, 7] _ (hd2.mono (below_two _ _ _)) (bq.isInts rfl (by simp))).mono ?_
  rintro e w3 ⟨r3, rfl, hr3, hb3⟩
  have e3 : r3 = true := hr3.2 (by first | decide | decide +kernel)
  subst e3
  clear hr3 hs2 hd2
  clear hr2
  have hbw3 := (hbw2.trans ((below_two w2 _ _).mono hbw2.size)).trans (hb3.mono (hbw2.trans ((below_two w2 _ _).mono hbw2.size)).size)
  have b_a3 := ((b_a2.alloc _).alloc _).below hb3
  clear hb3 b_a2 hbw2 c_a0 c_a1 c_a2 l_a bq
  obtain ⟨c_a0, c_a1, c_a2⟩ := b_a3.three
  have l_a := b_a3.lt
  by_cases hE : arrErr a = 0
  case neg =>
    have HE := Lib.hid hE
    clear hE
    go_wp2_with fail
    refine (check_bad (ha.mono hbw3) HE.out).mono ?_
    rintro e w4 ⟨rfl, hb4⟩
    have hbw4 := hbw3.trans (hb4.mono hbw3.size)
    have b_a4 := b_a3.below hb4
    clear hb4 b_a3 hbw3 c_a0 c_a1 c_a2 l_a
    obtain ⟨c_a0, c_a1, c_a2⟩ := b_a4.three
    have l_a := b_a4.lt
    go_wp2_with fail
    go_ret
    exact ⟨rfl, by have := hbw4.size; go_grown⟩
  obtain ⟨t, ht⟩ := ok_of_arrErr hE
  have hsl : a.sh.length = t.length := by rw [ht.sh, length_ints]
  have Ht := Lib.hid ht
  have HSL := Lib.hid hsl
  clear hE ht hsl
  by_cases hc : a.ch = true
  case pos =>
    rw [hc] at ha b_a3 c_a0
    clear hc
    go_wp2_with fail
    refine (check_ok (ha.mono hbw3) Ht.out).mono ?_
    rintro e w4 ⟨rfl, hb4⟩
    have hbw4 := hbw3.trans (hb4.mono hbw3.size)
    have b_a4 := b_a3.below hb4
    clear hb4 b_a3 hbw3 c_a0 c_a1 c_a2 l_a
    obtain ⟨c_a0, c_a1, c_a2⟩ := b_a4.three
    have l_a := b_a4.lt
    go_wp2_with fail
    go_ret
    exact ⟨rfl, by have := hbw4.size; go_grown⟩
  rw [Bool.not_eq_true] at hc
  rw [hc] at ha b_a3 c_a0
  have HC := Lib.hid hc
  clear hc
  by_cases hl : a.sh.length = 1
  case neg =>
    have q0 : ((a.sh.length : Int) != 1) = true := by simp; omega
    clear hl
    go_wp2_with fail
    refine (check_ok (ha.mono hbw3) Ht.out).mono ?_
    rintro e w4 ⟨rfl, hb4⟩
    have hbw4 := hbw3.trans (hb4.mono hbw3.size)
    have b_a4 := b_a3.below hb4
    clear hb4 b_a3 hbw3 c_a0 c_a1 c_a2 l_a
    obtain ⟨c_a0, c_a1, c_a2⟩ := b_a4.three
    have l_a := b_a4.lt
    go_wp2_with fail
    go_ret
    exact ⟨rfl, by have := hbw4.size; go_grown⟩
  have q0 : ((a.sh.length : Int) != 1) = false := by simp; omega
  have HL := Lib.hid hl
  clear hl
  obtain ⟨l, hl⟩ : ∃ l, t = [l] := by have h1 := HSL.out; have h2 := HL.out; match t, h1 with | [l], _ => exact ⟨l, rfl⟩ | [], h1 => rw [h2] at h1; simp at h1 | _ :: _ :: _, h1 => rw [h2] at h1; simp at h1
  subst hl
  go_wp2_with fail
  refine (check_ok (ha.mono hbw3) Ht.out).mono ?_
  rintro e w4 ⟨rfl, hb4⟩
  have hbw4 := hbw3.trans (hb4.mono hbw3.size)
  have b_a4 := b_a3.below hb4
  clear hb4 b_a3 hbw3 c_a0 c_a1 c_a2 l_a
  obtain ⟨c_a0, c_a1, c_a2⟩ := b_a4.three
  have l_a := b_a4.lt
  have HXO := Lib.hid (show Ok (⟨false, a.sh, scan1 6 a.da⟩ : Arr) [l] from ⟨Ht.out.sh, Ht.out.good, (by show (scan1 6 a.da).length = _; rw [scan1_len]; exact Ht.out.len), fun e => by cases e⟩)
  go_wp2_with fail
  refine ((show Calls _ _ _ _ (GivesOk (⟨false, a.sh, scan1 6 a.da⟩ : Arr) _) from scan_vec (ha.mono hbw4) Ht.out tame_max HC.out Wa.out)).mono ?_
  rintro e w5 ⟨r5, rfl, hr5, hb5⟩
  have hbw5 := hbw4.trans (hb5.mono hbw4.size)
  have b_a5 := b_a4.below hb5
  clear hb5 b_a4 hbw4 c_a0 c_a1 c_a2 l_a
  obtain ⟨c_a0, c_a1, c_a2⟩ := b_a5.three
  have l_a := b_a5.lt
  obtain ⟨A5, ca5, D5, cd5, rfl, hs5, hd5⟩ := hr5.open_
  go_wp2_with fail
  refine ((show Calls _ _ _ _ (GivesOk (⟨false, a.sh, scan1 6 (scan1 6 a.da)⟩ : Arr) _) from scan_vec (hr5.mono (below_one _ _)) HXO.out tame_max rfl (climb_wf Wa.out))).mono ?_
  rintro e w6 ⟨r6, rfl, hr6, hb6⟩
  have hbw6 := (hbw5.trans ((below_one w5 _).mono hbw5.size)).trans (hb6.mono (hbw5.trans ((below_one w5 _).mono hbw5.size)).size)
  have b_a6 := (b_a5.alloc _).below hb6
  have b_xx6 := (Box.new w5 24 #[.bool ((⟨false, a.sh, scan1 6 a.da⟩ : Arr)).ch, .slice A5 ((⟨false, a.sh, scan1 6 a.da⟩ : Arr)).sh.length ca5, .slice D5 ((⟨false, a.sh, scan1 6 a.da⟩ : Arr)).da.length cd5]).below hb6
  have a_x6 := (hr5.mono (below_one _ _)).mono hb6
  clear hb6 b_a5 hr5 hbw5 c_a0 c_a1 c_a2 l_a
  obtain ⟨c_a0, c_a1, c_a2⟩ := b_a6.three
  have l_a := b_a6.lt
  obtain ⟨c_xx0, c_xx1, c_xx2⟩ := b_xx6.three
  have l_xx := b_xx6.lt
  obtain ⟨A6, ca6, D6, cd6, rfl, hs6, hd6⟩ := hr6.open_
  go_wp2_with fail
  refine (alike_nil _ _ _ _ _ (hr6.mono (below_one _ _)) (a_x6.mono (below_one _ _))).mono ?_
  rintro e w7 ⟨r7, rfl, hr7, hb7⟩
  have e7 : r7 = true := hr7.2 (by rw [climb_twice])
  subst e7
  clear hr7
  have hbw7 := (hbw6.trans ((below_one w6 _).mono hbw6.size)).trans (hb7.mono (hbw6.trans ((below_one w6 _).mono hbw6.size)).size)
  have b_a7 := (b_a6.alloc _).below hb7
  have b_xx7 := (b_xx6.alloc _).below hb7
  have b_xy7 := (Box.new w6 24 #[.bool ((⟨false, a.sh, scan1 6 (scan1 6 a.da)⟩ : Arr)).ch, .slice A6 ((⟨false, a.sh, scan1 6 (scan1 6 a.da)⟩ : Arr)).sh.length ca6, .slice D6 ((⟨false, a.sh, scan1 6 (scan1 6 a.da)⟩ : Arr)).da.length cd6]).below hb7
  have a_x7 := (a_x6.mono (below_one _ _)).mono hb7
  have a_y7 := (hr6.mono (below_one _ _)).mono hb7
  clear hb7 b_a6 b_xx6 a_x6 hr6 hbw6 c_a0 c_a1 c_a2 l_a c_xx0 c_xx1 c_xx2 l_xx
  obtain ⟨c_a0, c_a1, c_a2⟩ := b_a7.three
  have l_a := b_a7.lt
  obtain ⟨c_xx0, c_xx1, c_xx2⟩ := b_xx7.three
  have l_xx := b_xx7.lt
  obtain ⟨c_xy0, c_xy1, c_xy2⟩ := b_xy7.three
  have l_xy := b_xy7.lt
  have eL : (((scan1 6 a.da).length : Int) != (a.da.length : Int)) = false := by rw [scan1_len]; simp
  obtain ⟨XS, hXS⟩ : ∃ XS, XS = scan1 6 a.da := ⟨_, rfl⟩
  have EX := Lib.hid (IsArr.dataOf a_x7).elems
  have EA := Lib.hid (IsArr.dataOf ha).elems
  clear a_x7 a_y7
  have HXS := Lib.hid hXS
  simp only [← hXS] at c_xx2 b_xx7 EX eL ⊢
  have hXL : XS.length = a.da.length := by rw [HXS.out, scan1_len]
  have HXL := Lib.hid hXL
  clear hXS hXL
  go_wp2_with fail
  clear c_a0 c_a1 c_a2 l_a c_xx0 c_xx1 c_xx2 l_xx c_xy0 c_xy1 c_xy2 l_xy eL
  go_loopw [11] (fun s11 wx => ∃ k : Nat, k ≤ a.da.length ∧ s11 = .int .i64 k ∧ Below w7.heap.size w7 wx) (fun s11 _ => a.da.length - (intOf s11).toNat)
  case atStart => exact ⟨0, Nat.zero_le _, rfl, Below.refl _ _⟩
  case round =>
    obtain ⟨k, hk, rfl, hbx⟩ := hrel
    obtain ⟨p0, p1, p2⟩ := (b_a7.below hbx).three
    obtain ⟨q0, q1, q2⟩ := (b_xx7.below hbx).three
    have hbw := hbw7.trans (hbx.mono hbw7.size)
    rcases Nat.lt_or_ge k a.da.length with hlt | hge
    · obtain ⟨ab, y, rfl, hy, hab, hcy⟩ := Elems.later EA.out hbw hlt
      have hltx : k < XS.length := by rw [HXL.out]; exact hlt
      obtain ⟨ax, x, rfl, hx, hax, hcx⟩ := Elems.later EX.out hbx hltx
      have hyx : decide (x < y) = false := by
        have := climb_ge (by rw [← HXS.out]; exact hx) hy
        simp; omega
      rcases Nat.eq_zero_or_pos k with hk0 | hk0
      · subst hk0
        have e := climb_zero (by rw [← HXS.out]; exact hx) hy
        subst e
        have e0 : (x != x) = false := by simp
        have hcx' : wr.cell? ax = some (.int .i64 x) := hcx
        have hcy' : wr.cell? ab = some (.int .i64 x) := hcy
        clear hx hy
        go_wp2_with fail
        go_quiet (fail)
        all_goals go_wp2_with fail
        go_quiet (fail)
        all_goals go_wp2_with fail
        go_quiet (fail)
        all_goals go_wp2_with fail
        go_roundw
        case rel => exact ⟨1, by omega, by go_num, hbx.trans (below_draws _ _ _)⟩
        case measure => simp [intOf]; omega
      · obtain ⟨j, hj⟩ : ∃ j, k = j + 1 := ⟨k - 1, by omega⟩
        have hltj : j < XS.length := by omega
        have HK := Lib.hid hj
        have hkm : (k : Int) - 1 = (j : Int) := by omega
        have hjw : IntKind.i64.wrap (j : Int) = (j : Int) := IntWalk.i64_in _ (by have := ok_da_le Ht.out; omega)
        have hkw : IntKind.i64.wrap ((k : Int) + 1) = (k : Int) + 1 := IntWalk.i64_in _ (by have := ok_da_le Ht.out; omega)
        have HLT := Lib.hid hlt
        clear hj
        obtain ⟨ax', z, e, hz, -, hcz⟩ := Elems.later EX.out hbx hltj
        injection e with e
        subst e
        have hzx : decide (x < z) = false := by
          have := climb_rise (show j ≤ k by have := HK.out; omega) (by rw [← HXS.out]; exact hz) (by rw [← HXS.out]; exact hx)
          simp; omega
        have dj : decide ((0 : Int) < (k : Int)) = true := by simp; omega
        have dj0 : ((k : Int) == 0) = false := by simp; omega
        by_cases hxy : x = y
        · subst hxy
          have e0 : (x != x) = false := by simp
          clear hx hy hz
          go_wp2_with fail
          go_quiet (fail)
          all_goals go_wp2_with fail
          go_quiet (fail)
          all_goals go_wp2_with fail
          go_quiet (fail)
          all_goals go_wp2_with fail
          go_roundw
          case rel => exact ⟨k + 1, by have := HLT.out; omega, by go_num, hbx.trans (below_draws _ _ _)⟩
          case measure => simp [intOf]; have := HLT.out; omega
        · have e0 : (x != y) = true := by simpa using hxy
          have e := climb_one (q := j) (by rw [← HXS.out, ← HK.out]; exact hx) (by rw [← HK.out]; exact hy) (by rw [← HXS.out]; exact hz) hxy
          subst e
          have e1 : (x != x) = false := by simp
          clear hx hy hz hxy
          go_wp2_with fail
          go_quiet (fail)
          all_goals go_wp2_with fail
          go_quiet (fail)
          all_goals go_wp2_with fail
          go_quiet (fail)
          all_goals go_wp2_with fail
          go_roundw
          case rel => exact ⟨k + 1, by have := HLT.out; omega, by go_num, hbx.trans (below_draws _ _ _)⟩
          case measure => simp [intOf]; have := HLT.out; omega
    · have dk : decide (k < a.da.length) = false := by simp; omega
      go_wp2_with fail
      go_ret
      exact ⟨rfl, hbw⟩

end Go.Proofs.Yteohjimliaaggaa
