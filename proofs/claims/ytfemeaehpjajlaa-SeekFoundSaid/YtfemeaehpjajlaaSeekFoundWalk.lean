/- The walk of the law SeekFound. Conditions: none. -/
import Derived.Test.YtfemeaehpjajlaaSeekLaw
import Derived.Test.YtfemeaehpjajlaaStore
import Derived.Test.YtfemeaehpjajlaaMore
import Derived.Test.YtfemeaehpjajlaaAlike
import Derived.Test.YtfemeaehpjajlaaMake
import Derived.Test.YtfemeaehpjajlaaBase
namespace Go.Proofs.Ytfemeaehpjajlaa
open Go Go.RowKit Go.Proofs.Ytfemeaehpjajlaa.P

set_option maxRecDepth 100000 in
set_option maxHeartbeats 4000000 in
theorem seekFound_walk (va vb : Value) (a b : Arr) (w : World) (ha : IsArr w va a) (hb : IsArr w vb b) (wa : Wf a.da) (wb : Wf b.da) :
    Calls Try.prog 6 #[va, vb] w (Says w) := by
  obtain ⟨A, ca, D, da, rfl, -, -⟩ := ha.open_
  obtain ⟨A', cb, D', db, rfl, -, -⟩ := hb.open_
  have Wa := Lib.hid wa
  have Wb := Lib.hid wb
  clear wa wb
  go_enter Try.func6, Try.ntmps6
  go_wp2_with fail
  have x1 := (Box.new ((w.alloc (.cells #[.bool a.ch, .slice A a.sh.length ca, .slice D a.da.length da] 24)).alloc (.cells #[.bool b.ch, .slice A' b.sh.length cb, .slice D' b.da.length db] 24)) 3 #[.int .i64 5, .int .i64 6])
  simp only [World.size_alloc, World.size_setCell] at x1
  have i1 : IsInts (((w.alloc (.cells #[.bool a.ch, .slice A a.sh.length ca, .slice D a.da.length da] 24)).alloc (.cells #[.bool b.ch, .slice A' b.sh.length cb, .slice D' b.da.length db] 24)).alloc (.cells #[.int .i64 5, .int .i64 6] 3)) (.slice (some ⟨w.heap.size + 1 + 1, 0, none⟩) 2 2) [5, 6] := x1.isInts (xs := [5, 6]) (n := 2) rfl (by omega)
  clear x1
  refine (vec_any _ [5, 6] _ i1).mono ?_
  rintro e w1 ⟨r1, rfl, hr1, hb1⟩
  have hbw1 := ((Below.refl w.heap.size w).trans ((below_three w _ _ _).mono (Below.refl w.heap.size w).size)).trans (hb1.mono ((Below.refl w.heap.size w).trans ((below_three w _ _ _).mono (Below.refl w.heap.size w).size)).size)
  have b_a1 := (((Box.new w 24 #[.bool a.ch, .slice A a.sh.length ca, .slice D a.da.length da]).alloc _).alloc _).below hb1
  have b_b1 := ((Box.new (w.alloc (.cells #[.bool a.ch, .slice A a.sh.length ca, .slice D a.da.length da] 24)) 24 #[.bool b.ch, .slice A' b.sh.length cb, .slice D' b.da.length db]).alloc _).below hb1
  simp only [World.size_alloc, World.size_setCell] at b_b1
  clear hb1 i1
  obtain ⟨c_a0, c_a1, c_a2⟩ := b_a1.three
  have l_a := b_a1.lt
  obtain ⟨c_b0, c_b1, c_b2⟩ := b_b1.three
  have l_b := b_b1.lt
  go_wp2_with fail
  have x1 := (Box.new w1 3 #[.int .i64 6, .int .i64 7])
  have i1 : IsInts (w1.alloc (.cells #[.int .i64 6, .int .i64 7] 3)) (.slice (some ⟨w1.heap.size, 0, none⟩) 2 2) [6, 7] := x1.isInts (xs := [6, 7]) (n := 2) rfl (by omega)
  clear x1
  refine (vec_any _ [6, 7] _ i1).mono ?_
  rintro e w2 ⟨r2, rfl, hr2, hb2⟩
  have hbw2 := (hbw1.trans ((below_one w1 _).mono hbw1.size)).trans (hb2.mono (hbw1.trans ((below_one w1 _).mono hbw1.size)).size)
  have b_a2 := (b_a1.alloc _).below hb2
  have b_b2 := (b_b1.alloc _).below hb2
  have a_v12 := (hr1.mono (below_one _ _)).mono hb2
  clear hb2 b_a1 b_b1 hr1 hbw1 c_a0 c_a1 c_a2 l_a c_b0 c_b1 c_b2 l_b i1
  obtain ⟨c_a0, c_a1, c_a2⟩ := b_a2.three
  have l_a := b_a2.lt
  obtain ⟨c_b0, c_b1, c_b2⟩ := b_b2.three
  have l_b := b_b2.lt
  go_wp2_with fail
  refine ((show Calls _ _ _ _ (GivesOk (index ⟨false, [2], [5, 6]⟩ ⟨false, [2], [6, 7]⟩) _) from (index_told a_v12 hr2 (wf_two (by decide) (by decide)) (wf_two (by decide) (by decide))).mono fun e w' h => h.ok (by decide +kernel))).mono ?_
  rintro e w3 ⟨r3, rfl, hr3, hb3⟩
  have hbw3 := hbw2.trans (hb3.mono hbw2.size)
  have b_a3 := b_a2.below hb3
  have b_b3 := b_b2.below hb3
  clear hb3 b_a2 b_b2 hbw2 c_a0 c_a1 c_a2 l_a c_b0 c_b1 c_b2 l_b a_v12 hr2
  obtain ⟨c_a0, c_a1, c_a2⟩ := b_a3.three
  have l_a := b_a3.lt
  obtain ⟨c_b0, c_b1, c_b2⟩ := b_b3.three
  have l_b := b_b3.lt
  obtain ⟨A3, ca3, D3, cd3, rfl, hs3, hd3⟩ := hr3.open_
  go_wp2_with fail
  have bq := Box.new (w3.alloc (.cells #[.bool ((index ⟨false, [2], [5, 6]⟩ ⟨false, [2], [6, 7]⟩)).ch, .slice A3 ((index ⟨false, [2], [5, 6]⟩ ⟨false, [2], [6, 7]⟩)).sh.length ca3, .slice D3 ((index ⟨false, [2], [5, 6]⟩ ⟨false, [2], [6, 7]⟩)).da.length cd3] 24)) 3 #[.int .i64 1, .int .i64 2]
  rw [World.size_alloc] at bq
  refine (ints_any _ _ _ [1, 2] _ (hd3.mono (below_two _ _ _)) (bq.isInts rfl (by simp))).mono ?_
  rintro e w4 ⟨r4, rfl, hr4, hb4⟩
  have e4 : r4 = true := hr4.2 (by decide)
  subst e4
  clear hr4 hs3 hd3
  clear hr3
  have hbw4 := (hbw3.trans ((below_two w3 _ _).mono hbw3.size)).trans (hb4.mono (hbw3.trans ((below_two w3 _ _).mono hbw3.size)).size)
  have b_a4 := ((b_a3.alloc _).alloc _).below hb4
  have b_b4 := ((b_b3.alloc _).alloc _).below hb4
  clear hb4 b_a3 b_b3 hbw3 c_a0 c_a1 c_a2 l_a c_b0 c_b1 c_b2 l_b bq
  obtain ⟨c_a0, c_a1, c_a2⟩ := b_a4.three
  have l_a := b_a4.lt
  obtain ⟨c_b0, c_b1, c_b2⟩ := b_b4.three
  have l_b := b_b4.lt
  by_cases hE : indexErr a b = 0
  · skip
    obtain ⟨t1_, t2_, ho1, ho2, -⟩ := indexErr_zero hE
    have H2 := Lib.hid (twoErr_ok ho2 ho1)
    have hl4 := ok_da_le ho1
    have hm4 := ok_da_le ho2
    clear ho1 ho2
    have HE := Lib.hid hE
    clear hE
    go_wp2_with fail
    refine ((show Calls _ _ _ _ (GivesOk (index a b) _) from (index_told (ha.mono hbw4) (hb.mono hbw4) Wa.out Wb.out).mono fun e w' h => h.ok HE.out)).mono ?_
    rintro e w5 ⟨r5, rfl, hr5, hb5⟩
    have hbw5 := hbw4.trans (hb5.mono hbw4.size)
    have b_a5 := b_a4.below hb5
    have b_b5 := b_b4.below hb5
    clear hb5 b_a4 b_b4 hbw4 c_a0 c_a1 c_a2 l_a c_b0 c_b1 c_b2 l_b
    obtain ⟨c_a0, c_a1, c_a2⟩ := b_a5.three
    have l_a := b_a5.lt
    obtain ⟨c_b0, c_b1, c_b2⟩ := b_b5.three
    have l_b := b_b5.lt
    obtain ⟨A5, ca5, D5, cd5, rfl, hs5, hd5⟩ := hr5.open_
    go_wp2_with fail
    refine ((show Calls _ _ _ _ (GivesOk (isin b a) _) from (in_told (hb.mono (hbw5.trans ((below_one w5 _).mono hbw5.size))) (ha.mono (hbw5.trans ((below_one w5 _).mono hbw5.size))) Wb.out Wa.out).mono fun e w' h => h.ok H2.out)).mono ?_
    rintro e w6 ⟨r6, rfl, hr6, hb6⟩
    have hbw6 := (hbw5.trans ((below_one w5 _).mono hbw5.size)).trans (hb6.mono (hbw5.trans ((below_one w5 _).mono hbw5.size)).size)
    have b_a6 := (b_a5.alloc _).below hb6
    have b_b6 := (b_b5.alloc _).below hb6
    have b_xx6 := (Box.new w5 24 #[.bool (index a b).ch, .slice A5 (index a b).sh.length ca5, .slice D5 (index a b).da.length cd5]).below hb6
    have a_x6 := (hr5.mono (below_one _ _)).mono hb6
    clear hb6 b_a5 b_b5 hr5 hbw5 c_a0 c_a1 c_a2 l_a c_b0 c_b1 c_b2 l_b
    obtain ⟨c_a0, c_a1, c_a2⟩ := b_a6.three
    have l_a := b_a6.lt
    obtain ⟨c_b0, c_b1, c_b2⟩ := b_b6.three
    have l_b := b_b6.lt
    obtain ⟨c_xx0, c_xx1, c_xx2⟩ := b_xx6.three
    have l_xx := b_xx6.lt
    obtain ⟨A6, ca6, D6, cd6, rfl, hs6, hd6⟩ := hr6.open_
    go_wp2_with fail
    refine (ints_any _ _ _ _ _ (IsArr.sh_ (a_x6.mono (below_one _ _))) (IsArr.sh_ (hb.mono (hbw6.trans ((below_one w6 _).mono hbw6.size))))).mono ?_
    rintro e w7 ⟨r7, rfl, hr7, hb7⟩
    have e7 : r7 = true := hr7.2 (rfl)
    subst e7
    clear hr7
    have hbw7 := (hbw6.trans ((below_one w6 _).mono hbw6.size)).trans (hb7.mono (hbw6.trans ((below_one w6 _).mono hbw6.size)).size)
    have b_a7 := (b_a6.alloc _).below hb7
    have b_b7 := (b_b6.alloc _).below hb7
    have b_xx7 := (b_xx6.alloc _).below hb7
    have b_xi7 := (Box.new w6 24 #[.bool (isin b a).ch, .slice A6 (isin b a).sh.length ca6, .slice D6 (isin b a).da.length cd6]).below hb7
    have a_x7 := (a_x6.mono (below_one _ _)).mono hb7
    have a_i7 := (hr6.mono (below_one _ _)).mono hb7
    clear hb7 b_a6 b_b6 b_xx6 a_x6 hr6 hbw6 c_a0 c_a1 c_a2 l_a c_b0 c_b1 c_b2 l_b c_xx0 c_xx1 c_xx2 l_xx
    obtain ⟨c_a0, c_a1, c_a2⟩ := b_a7.three
    have l_a := b_a7.lt
    obtain ⟨c_b0, c_b1, c_b2⟩ := b_b7.three
    have l_b := b_b7.lt
    obtain ⟨c_xx0, c_xx1, c_xx2⟩ := b_xx7.three
    have l_xx := b_xx7.lt
    obtain ⟨c_xi0, c_xi1, c_xi2⟩ := b_xi7.three
    have l_xi := b_xi7.lt
    have hch : (index a b).ch = false := rfl
    have eL1 : (((index a b).da.length : Int) != (b.da.length : Int)) = false := by simp [index]
    have eL2 : (((isin b a).da.length : Int) != (b.da.length : Int)) = false := by simp [isin]
    have EX := Lib.hid (IsArr.da_ a_x7).elems
    have EI := Lib.hid (IsArr.da_ a_i7).elems
    have EA := Lib.hid (IsArr.da_ ha).elems
    have EB := Lib.hid (IsArr.da_ hb).elems
    clear a_x7 a_i7
    go_wp2_with fail
    clear c_a0 c_a1 c_a2 l_a c_b0 c_b1 c_b2 l_b c_xx0 c_xx1 c_xx2 l_xx c_xi0 c_xi1 c_xi2 l_xi hch eL1 eL2
    go_loopw [13] (fun s13 wx => ∃ k : Nat, k ≤ b.da.length ∧ s13 = .int .i64 k ∧ Below w7.heap.size w7 wx) (fun s13 _ => b.da.length - (intOf s13).toNat)
    case atStart => exact ⟨0, Nat.zero_le _, rfl, Below.refl _ _⟩
    case round =>
      obtain ⟨k, hk, rfl, hbx⟩ := hrel
      obtain ⟨p0, p1, p2⟩ := (b_a7.below hbx).three
      obtain ⟨q0, q1, q2⟩ := (b_b7.below hbx).three
      obtain ⟨x0, x1, x2⟩ := (b_xx7.below hbx).three
      obtain ⟨y0, y1, y2⟩ := (b_xi7.below hbx).three
      have hbw := hbw7.trans (hbx.mono hbw7.size)
      rcases Nat.lt_or_ge k b.da.length with hlt | hge
      · obtain ⟨ab, y, rfl, hy, hab, hcy⟩ := Elems.later EB.out hbw hlt
        obtain ⟨ax, x', rfl, hx, hax, hcx⟩ := Elems.later EX.out hbx (k := k) (by simpa [index] using hlt)
        obtain ⟨ai, i', rfl, hi, hai, hci⟩ := Elems.later EI.out hbx (k := k) (by simpa [isin] using hlt)
        rw [index_at hy] at hx
        injection hx with hx
        subst hx
        rw [isin_at hy] at hi
        injection hi with hi
        subst hi
        have hkx : k < (index a b).da.length := by simpa [index] using hlt
        have hki : k < (isin b a).da.length := by simpa [isin] using hlt
        have hFl := findN_le a b.ch y
        have hFi := findN_lt (a := a) (c := b.ch) (x := y)
        have hFg := findN_get (a := a) (c := b.ch) (x := y)
        obtain ⟨F, hF⟩ : ∃ F, F = findN a b.ch y := ⟨_, rfl⟩
        rw [← hF] at hFl hFi hFg hcx
        have FE := Lib.hid hF
        have FL := Lib.hid hFl
        have HY := Lib.hid hy
        have HKB := Lib.hid hlt
        have d0 : decide ((F : Int) < 0) = false := by simp
        have d1 : decide (a.da.length < F) = false := by simp; omega
        by_cases hm : F < a.da.length
        · obtain ⟨hc, hg⟩ := hFg hm
          have hb1 := hFi.1 hm
          rw [if_pos hb1] at hci
          have dm : decide (F < a.da.length) = true := by simpa using hm
          obtain ⟨aa, z, rfl, hz, haa, hcz⟩ := Elems.later EA.out hbw hm
          obtain rfl : y = z := by rw [hg] at hz; injection hz
          have e1 : (a.ch == b.ch) = true := by simp [hc]
          clear hc hg hb1 hFi hFg hF hy hz
          go_wp2_with fail
          go_quiet (fail)
          all_goals go_wp2_with fail
          go_quiet (fail)
          all_goals go_wp2_with fail
          obtain ⟨wo, rfl⟩ : ∃ wo : World, wo = wr := ⟨_, rfl⟩
          go_loopw [15] (fun s15 wx => ∃ j : Nat, j ≤ F ∧ s15 = .int .i64 j ∧ Below w7.heap.size w7 wx) (fun s15 _ => F - (intOf s15).toNat)
          case atStart => exact ⟨0, Nat.zero_le _, rfl, (hbx.trans (below_draws _ _ _)).trans (below_draws _ _ _)⟩
          case round =>
            clear hcx hci hcy hax hai hab p0 p1 p2 q0 q1 q2 x0 x1 x2 y0 y1 y2 hbw d0 d1 dm hkx hki hk hlt hFl hcz haa hm e1
            clear hbx
            obtain ⟨j, hj, rfl, hbx⟩ := hrel
            obtain ⟨p0, p1, p2⟩ := (b_a7.below hbx).three
            obtain ⟨q0, q1, q2⟩ := (b_b7.below hbx).three
            obtain ⟨x0, x1, x2⟩ := (b_xx7.below hbx).three
            obtain ⟨y0, y1, y2⟩ := (b_xi7.below hbx).three
            have hbw := hbw7.trans (hbx.mono hbw7.size)
            rcases Nat.lt_or_ge j F with hlt | hge
            · have dj : decide (j < F) = true := by simpa using hlt
              obtain ⟨ae, z, eae, hz, hae, hcz⟩ := Elems.later EA.out hbw (k := j) (by have := FL.out; omega)
              injection eae with eae; subst eae
              have hja : j < a.da.length := by have := FL.out; omega
              have hcy : wr.cell? (ab.add k) = some (.int .i64 y) := by
                obtain ⟨ab2, y2, e2, hy2, -, hcy2⟩ := Elems.later EB.out hbw HKB.out
                injection e2 with e2
                subst e2
                rw [HY.out] at hy2
                injection hy2 with hy2
                rw [hy2]
                exact hcy2
              have hkb := HKB.out
              by_cases hc : a.ch = b.ch
              · have hne : z ≠ y := fun e => by
                  have := findN_first (a := a) (c := b.ch) (x := y) (j := j) (by rw [← FE.out]; exact hlt) hc.symm
                  rw [hz, e] at this
                  exact this rfl
                have e1 : (a.ch == b.ch) = true := by simp [hc]
                have e2 : (z == y) = false := by simpa using hne
                clear hc hz hne
                go_wp2_with fail
                go_quiet (fail)
                all_goals go_wp2_with fail
                go_roundw
                case rel => exact ⟨j + 1, by omega, by go_num, hbx.trans (below_draws _ _ _)⟩
                case measure => simp [intOf]; omega
              · have e1 : (a.ch == b.ch) = false := by simp [hc]
                clear hc hz
                go_wp2_with fail
                go_quiet (fail)
                all_goals go_wp2_with fail
                go_roundw
                case rel => exact ⟨j + 1, by omega, by go_num, hbx.trans (below_draws _ _ _)⟩
                case measure => simp [intOf]; omega
            · have dj : decide (j < F) = false := by simp; omega
              have hkb := HKB.out
              go_wp2_with fail
              go_roundw
              case rel => exact ⟨k + 1, by have := HKB.out; omega, by go_num, hbx⟩
              case measure => simp [intOf]; have := HKB.out; omega
        · have hb1 : ¬ hasB a b.ch y = true := fun e => hm (hFi.2 e)
          rw [if_neg hb1] at hci
          have dm : decide (F < a.da.length) = false := by simpa using hm
          clear hb1 hFi hFg hF hy
          go_wp2_with fail
          go_quiet (fail)
          all_goals go_wp2_with fail
          go_quiet (fail)
          all_goals go_wp2_with fail
          obtain ⟨wo, rfl⟩ : ∃ wo : World, wo = wr := ⟨_, rfl⟩
          go_loopw [15] (fun s15 wx => ∃ j : Nat, j ≤ F ∧ s15 = .int .i64 j ∧ Below w7.heap.size w7 wx) (fun s15 _ => F - (intOf s15).toNat)
          case atStart => exact ⟨0, Nat.zero_le _, rfl, (hbx.trans (below_draws _ _ _)).trans (below_draws _ _ _)⟩
          case round =>
            clear hcx hci hcy hax hai hab p0 p1 p2 q0 q1 q2 x0 x1 x2 y0 y1 y2 hbw d0 d1 dm hkx hki hk hlt hFl hm
            clear hbx
            obtain ⟨j, hj, rfl, hbx⟩ := hrel
            obtain ⟨p0, p1, p2⟩ := (b_a7.below hbx).three
            obtain ⟨q0, q1, q2⟩ := (b_b7.below hbx).three
            obtain ⟨x0, x1, x2⟩ := (b_xx7.below hbx).three
            obtain ⟨y0, y1, y2⟩ := (b_xi7.below hbx).three
            have hbw := hbw7.trans (hbx.mono hbw7.size)
            rcases Nat.lt_or_ge j F with hlt | hge
            · have dj : decide (j < F) = true := by simpa using hlt
              obtain ⟨ae, z, eae, hz, hae, hcz⟩ := Elems.later EA.out hbw (k := j) (by have := FL.out; omega)
              subst eae
              have hja : j < a.da.length := by have := FL.out; omega
              have hcy : wr.cell? (ab.add k) = some (.int .i64 y) := by
                obtain ⟨ab2, y2, e2, hy2, -, hcy2⟩ := Elems.later EB.out hbw HKB.out
                injection e2 with e2
                subst e2
                rw [HY.out] at hy2
                injection hy2 with hy2
                rw [hy2]
                exact hcy2
              have hkb := HKB.out
              by_cases hc : a.ch = b.ch
              · have hne : z ≠ y := fun e => by
                  have := findN_first (a := a) (c := b.ch) (x := y) (j := j) (by rw [← FE.out]; exact hlt) hc.symm
                  rw [hz, e] at this
                  exact this rfl
                have e1 : (a.ch == b.ch) = true := by simp [hc]
                have e2 : (z == y) = false := by simpa using hne
                clear hc hz hne
                go_wp2_with fail
                go_quiet (fail)
                all_goals go_wp2_with fail
                go_roundw
                case rel => exact ⟨j + 1, by omega, by go_num, hbx.trans (below_draws _ _ _)⟩
                case measure => simp [intOf]; omega
              · have e1 : (a.ch == b.ch) = false := by simp [hc]
                clear hc hz
                go_wp2_with fail
                go_quiet (fail)
                all_goals go_wp2_with fail
                go_roundw
                case rel => exact ⟨j + 1, by omega, by go_num, hbx.trans (below_draws _ _ _)⟩
                case measure => simp [intOf]; omega
            · have dj : decide (j < F) = false := by simp; omega
              have hkb := HKB.out
              go_wp2_with fail
              go_roundw
              case rel => exact ⟨k + 1, by have := HKB.out; omega, by go_num, hbx⟩
              case measure => simp [intOf]; have := HKB.out; omega
      · have dk : decide (k < b.da.length) = false := by simp; omega
        go_wp2_with fail
        go_ret
        exact ⟨rfl, hbw⟩
  · skip
    have HE := Lib.hid hE
    clear hE
    go_wp2_with fail
    refine ((index_told (ha.mono hbw4) (hb.mono hbw4) Wa.out Wb.out).mono fun e w' h => h.bad HE.out).mono ?_
    rintro e w5 ⟨rfl, hb5⟩
    have hbw5 := hbw4.trans (hb5.mono hbw4.size)
    have b_a5 := b_a4.below hb5
    have b_b5 := b_b4.below hb5
    clear hb5 b_a4 b_b4 hbw4 c_a0 c_a1 c_a2 l_a c_b0 c_b1 c_b2 l_b
    obtain ⟨c_a0, c_a1, c_a2⟩ := b_a5.three
    have l_a := b_a5.lt
    obtain ⟨c_b0, c_b1, c_b2⟩ := b_b5.three
    have l_b := b_b5.lt
    go_wp2_with fail
    go_ret
    exact ⟨rfl, by have := hbw5.size; go_grown⟩

end Go.Proofs.Ytfemeaehpjajlaa
