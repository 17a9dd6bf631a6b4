/- The walk of the law FoldSums. Conditions: none. -/
import Derived.Test.YtojeggeimnenbaaDoorSumsPlain
import Derived.Test.YtojeggeimnenbaaDoorAsErr
import Derived.Test.YtojeggeimnenbaaDoorGround
import Derived.Test.YtojeggeimnenbaaDoorAlike
set_option linter.unusedSimpArgs false
set_option linter.unusedVariables false
namespace Go.Proofs.YtojeggeimnenbaaDoor
open Go Go.RowKit Go.Proofs.YtojeggeimnenbaaDoor.P

set_option maxRecDepth 100000 in
set_option maxHeartbeats 4000000 in
theorem foldSums_walk (va : Value) (a : Arr) (n : Int) (w : World) (hg : Laid0 w) (ha : IsArr w va a) (wa : Wf a.da) :
    Calls Tryd.prog 7 #[va, .int .i64 n] w (Says w) := by
  obtain ⟨A, ca, D, da, rfl, -, -⟩ := ha.open_
  have Wa := Lib.hid wa
  clear wa
  go_enter Tryd.func7, Tryd.ntmps7
  go_wp2_with fail
  have x1 := (Box.new (w.alloc (.cells #[.bool a.ch, .slice A a.sh.length ca, .slice D a.da.length da] 25)) 3 #[.int .i64 1, .int .i64 2, .int .i64 3])
  simp only [World.size_alloc, World.size_setCell] at x1
  have i1 : IsInts ((w.alloc (.cells #[.bool a.ch, .slice A a.sh.length ca, .slice D a.da.length da] 25)).alloc (.cells #[.int .i64 1, .int .i64 2, .int .i64 3] 3)) (.slice (some ⟨w.heap.size + 1, 0, none⟩) 3 3) [1, 2, 3] := x1.isInts (xs := [1, 2, 3]) (n := 3) rfl (by omega)
  clear x1
  refine (vec_any _ [1, 2, 3] _ i1).mono ?_
  rintro e w1 ⟨r1, rfl, hr1, hb1⟩
  have hbw1 := ((Below.refl w.heap.size w).trans ((below_two w _ _).mono (Below.refl w.heap.size w).size)).trans (hb1.mono ((Below.refl w.heap.size w).trans ((below_two w _ _).mono (Below.refl w.heap.size w).size)).size)
  have b_a1 := ((Box.new w 25 #[.bool a.ch, .slice A a.sh.length ca, .slice D a.da.length da]).alloc _).below hb1
  clear hb1 i1
  obtain ⟨c_a0, c_a1, c_a2⟩ := b_a1.three
  have l_a := b_a1.lt
  go_wp2_with fail
  refine ((show Calls _ _ _ _ (GivesOk (⟨false, [2], win1 1 [1, 2, 3] 2⟩ : Arr) _) from windows_vec (n := 2) (m := 3) hr1 (ok_vec (xs := [1, 2, 3]) (by simp)) (Mono.tame (.inl rfl)) rfl (by intro x hx; simp at hx; rcases hx with rfl | rfl | rfl <;> decide) (by decide) (by decide))).mono ?_
  rintro e w2 ⟨r2, rfl, hr2, hb2⟩
  have hbw2 := hbw1.trans (hb2.mono hbw1.size)
  have b_a2 := b_a1.below hb2
  clear hb2 b_a1 hbw1 c_a0 c_a1 c_a2 l_a hr1
  obtain ⟨c_a0, c_a1, c_a2⟩ := b_a2.three
  have l_a := b_a2.lt
  obtain ⟨A2, ca2, D2, cd2, rfl, hs2, hd2⟩ := hr2.open_
  go_wp2_with fail
  have bq := Box.new (w2.alloc (.cells #[.bool ((⟨false, [2], win1 1 [1, 2, 3] 2⟩ : Arr)).ch, .slice A2 ((⟨false, [2], win1 1 [1, 2, 3] 2⟩ : Arr)).sh.length ca2, .slice D2 ((⟨false, [2], win1 1 [1, 2, 3] 2⟩ : Arr)).da.length cd2] 25)) 3 #[.int .i64 3, .int .i64 5]
  rw [World.size_alloc] at bq
  refine (ints_any _ _ _ [3, 5] _ (hd2.mono (below_two _ _ _)) (bq.isInts rfl (by simp))).mono ?_
  rintro e w3 ⟨r3, rfl, hr3, hb3⟩
  have e3 : r3 = true := hr3.2 (by first | decide | decide +kernel)
  subst e3
  clear hr3 hs2 hd2
  clear hr2
  have hbw3 := (hbw2.trans ((below_two w2 _ _).mono hbw2.size)).trans (hb3.mono (hbw2.trans ((below_two w2 _ _).mono hbw2.size)).size)
  have b_a3 := ((b_a2.alloc _).alloc _).below hb3
  clear hb3 b_a2 hbw2 c_a0 c_a1 c_a2 l_a bq
  obtain ⟨c_a0, c_a1, c_a2⟩ := b_a3.three
  have l_a := b_a3.lt
  by_cases hE : arrErr a = 0
  case neg =>
    have HE := Lib.hid hE
    clear hE
    go_wp2_with fail
    refine (check_bad (ha.mono hbw3) HE.out).mono ?_
    rintro e w4 ⟨rfl, hb4⟩
    have hbw4 := hbw3.trans (hb4.mono hbw3.size)
    have b_a4 := b_a3.below hb4
    clear hb4 b_a3 hbw3 c_a0 c_a1 c_a2 l_a
    obtain ⟨c_a0, c_a1, c_a2⟩ := b_a4.three
    have l_a := b_a4.lt
    go_wp2_with fail
    go_ret
    exact ⟨rfl, by have := hbw4.size; go_grown⟩
  obtain ⟨t, ht⟩ := ok_of_arrErr hE
  have hsl : a.sh.length = t.length := by rw [ht.sh, length_ints]
  have Ht := Lib.hid ht
  have HSL := Lib.hid hsl
  clear hE ht hsl
  by_cases hc : a.ch = true
  case pos =>
    rw [hc] at ha b_a3 c_a0
    clear hc
    go_wp2_with fail
    refine (check_ok (ha.mono hbw3) Ht.out).mono ?_
    rintro e w4 ⟨rfl, hb4⟩
    have hbw4 := hbw3.trans (hb4.mono hbw3.size)
    have b_a4 := b_a3.below hb4
    clear hb4 b_a3 hbw3 c_a0 c_a1 c_a2 l_a
    obtain ⟨c_a0, c_a1, c_a2⟩ := b_a4.three
    have l_a := b_a4.lt
    go_wp2_with fail
    go_ret
    exact ⟨rfl, by have := hbw4.size; go_grown⟩
  rw [Bool.not_eq_true] at hc
  rw [hc] at ha b_a3 c_a0
  have HC := Lib.hid hc
  clear hc
  by_cases hl : a.sh.length = 1
  case neg =>
    have q0 : ((a.sh.length : Int) != 1) = true := by simp; omega
    clear hl
    go_wp2_with fail
    refine (check_ok (ha.mono hbw3) Ht.out).mono ?_
    rintro e w4 ⟨rfl, hb4⟩
    have hbw4 := hbw3.trans (hb4.mono hbw3.size)
    have b_a4 := b_a3.below hb4
    clear hb4 b_a3 hbw3 c_a0 c_a1 c_a2 l_a
    obtain ⟨c_a0, c_a1, c_a2⟩ := b_a4.three
    have l_a := b_a4.lt
    go_wp2_with fail
    go_ret
    exact ⟨rfl, by have := hbw4.size; go_grown⟩
  have q0 : ((a.sh.length : Int) != 1) = false := by simp; omega
  have HL := Lib.hid hl
  clear hl
  obtain ⟨l, hl⟩ : ∃ l, t = [l] := by have h1 := HSL.out; have h2 := HL.out; match t, h1 with | [l], _ => exact ⟨l, rfl⟩ | [], h1 => rw [h2] at h1; simp at h1 | _ :: _ :: _, h1 => rw [h2] at h1; simp at h1
  subst hl
  go_wp2_with fail
  refine (check_ok (ha.mono hbw3) Ht.out).mono ?_
  rintro e w4 ⟨rfl, hb4⟩
  have hbw4 := hbw3.trans (hb4.mono hbw3.size)
  have b_a4 := b_a3.below hb4
  clear hb4 b_a3 hbw3 c_a0 c_a1 c_a2 l_a
  obtain ⟨c_a0, c_a1, c_a2⟩ := b_a4.three
  have l_a := b_a4.lt
  go_wp2_with fail
  refine ((show Calls _ _ _ _ (GivesOk (⟨false, a.sh, scan1 1 a.da⟩ : Arr) _) from scan_vec (ha.mono hbw4) Ht.out (Mono.tame (.inl rfl)) HC.out Wa.out)).mono ?_
  rintro e w5 ⟨r5, rfl, hr5, hb5⟩
  have hbw5 := hbw4.trans (hb5.mono hbw4.size)
  have b_a5 := b_a4.below hb5
  clear hb5 b_a4 hbw4 c_a0 c_a1 c_a2 l_a
  obtain ⟨c_a0, c_a1, c_a2⟩ := b_a5.three
  have l_a := b_a5.lt
  obtain ⟨A5, ca5, D5, cd5, rfl, hs5, hd5⟩ := hr5.open_
  have HAL := Lib.hid (show a.da.length = l by rw [Ht.out.len]; simp [prod])
  have HA4 := Lib.hid (ok_da_le Ht.out)
  have eL : (((scan1 1 a.da).length : Int) != (a.da.length : Int)) = false := by rw [scan1_len]; simp
  obtain ⟨XS, hXS⟩ : ∃ XS, XS = scan1 1 a.da := ⟨_, rfl⟩
  have EX := Lib.hid (IsArr.dataOf hr5).elems
  have EA := Lib.hid (IsArr.dataOf ha).elems
  clear hr5 hs5 hd5
  have HXS := Lib.hid hXS
  simp only [← hXS] at EX eL ⊢
  have hXL : XS.length = a.da.length := by rw [HXS.out, scan1_len]
  have HXL := Lib.hid hXL
  clear hXS hXL
  go_wp2_with fail
  have hbW : Below w.heap.size w (w5.alloc (.cells #[.bool false, .slice A5 a.sh.length ca5, .slice D5 XS.length cd5] 25)) := hbw5.trans ((below_one w5 _).mono hbw5.size)
  have bA1 := b_a5.alloc (.cells #[.bool false, .slice A5 a.sh.length ca5, .slice D5 XS.length cd5] 25)
  have bX1 := Box.new w5 25 #[.bool false, .slice A5 a.sh.length ca5, .slice D5 XS.length cd5]
  clear c_a0 c_a1 c_a2 l_a eL b_a5
  have hNW : Below w5.heap.size w5 (w5.alloc (.cells #[.bool false, .slice A5 a.sh.length ca5, .slice D5 XS.length cd5] 25)) := below_one w5 _
  go_loopw [10] (fun s10 wx => ∃ k : Nat, k ≤ a.da.length ∧ s10 = .int .i64 k ∧ Below (w5.alloc (.cells #[.bool false, .slice A5 a.sh.length ca5, .slice D5 XS.length cd5] 25)).heap.size (w5.alloc (.cells #[.bool false, .slice A5 a.sh.length ca5, .slice D5 XS.length cd5] 25)) wx) (fun s10 _ => a.da.length - (intOf s10).toNat)
  case atStart => exact ⟨0, Nat.zero_le _, rfl, Below.refl _ _⟩
  case round =>
    obtain ⟨k, hk, rfl, hbx⟩ := hrel
    have bA := bA1.below hbx
    have bX := bX1.below hbx
    obtain ⟨p0, p1, p2⟩ := bA.three
    obtain ⟨q0, q1, q2⟩ := bX.three
    have lA := bA.lt
    have lX := bX.lt
    have hbw := hbW.trans (hbx.mono hbW.size)
    have hbn := hNW.trans ((show Below w5.heap.size (w5.alloc (.cells #[.bool false, .slice A5 a.sh.length ca5, .slice D5 XS.length cd5] 25)) wr from hbx.mono (by simp)))
    rcases Nat.lt_or_ge k a.da.length with hlt | hge
    · obtain ⟨ab, y, rfl, hy, hab, hcy⟩ := Elems.later EA.out hbw hlt
      have hltx : k < XS.length := by rw [HXL.out]; exact hlt
      obtain ⟨ax, x, rfl, hx, hax, hcx⟩ := Elems.later EX.out hbn hltx
      have hkw : IntKind.i64.wrap ((k : Int) + 1) = (k : Int) + 1 := IntWalk.i64_in _ (by have := HA4.out; omega)
      have HLT := Lib.hid hlt
      rcases Nat.eq_zero_or_pos k with hk0 | hk0
      · subst hk0
        have e := sums_zero (by rw [← HXS.out]; exact hx) hy
        subst e
        have hw1 : Go.RowKit.wrap64 x = x := word_same (wf_words Wa.out x (List.mem_of_getElem? hy))
        have hw2 : IntKind.i64.wrap x = x := by rw [IntKind.wrap_i64]; have h := hw1; unfold Go.RowKit.wrap64 at h; omega
        have e0 : (x != x) = false := by simp
        have hcx' : wr.cell? ax = some (.int .i64 x) := hcx
        have hcy' : wr.cell? ab = some (.int .i64 x) := hcy
        clear hx hy
        go_wp2_with fail
        go_quiet (fail)
        all_goals go_wp2_with fail
        go_roundw
        case rel => exact ⟨1, by have := HLT.out; omega, by go_num, hbx.trans (below_draws _ _ _)⟩
        case measure => simp [intOf]; have := HLT.out; omega
      · obtain ⟨j, hj⟩ : ∃ j, k = j + 1 := ⟨k - 1, by omega⟩
        have hltj : j < XS.length := by omega
        have HK := Lib.hid hj
        have hkm : (k : Int) - 1 = (j : Int) := by omega
        have hjw : IntKind.i64.wrap (j : Int) = (j : Int) := IntWalk.i64_in _ (by have := HA4.out; omega)
        clear hj
        obtain ⟨ax', z, e, hz, -, hcz⟩ := Elems.later EX.out hbn hltj
        injection e with e
        subst e
        have hs1 : Go.RowKit.wrap64 (x - z) = y := sums_step Wa.out (by rw [← HXS.out, ← HK.out]; exact hx) (by rw [← HXS.out]; exact hz) (by rw [← HK.out]; exact hy)
        have hs2 : IntKind.i64.wrap (x - z) = y := by rw [IntKind.wrap_i64]; have h := hs1; unfold Go.RowKit.wrap64 at h; omega
        have dj : decide ((0 : Int) < (k : Int)) = true := by simp; omega
        have e0 : (y != y) = false := by simp
        clear hx hy hz
        go_wp2_with fail
        go_quiet (fail)
        all_goals go_wp2_with fail
        go_roundw
        case rel => exact ⟨k + 1, by have := HLT.out; omega, by go_num, hbx.trans (below_draws _ _ _)⟩
        case measure => simp [intOf]; have := HLT.out; omega
    · have dk : decide (k < a.da.length) = false := by simp; omega
      clear hge hk bA1 bX1
      have HBW := Lib.hid hbw
      by_cases hcond : n < 1 ∨ (a.da.length : Int) < n
      · have HCO := Lib.hid (show n < 1 ∨ (l : Int) < n by rw [← HAL.out]; exact hcond)
        have HC4 := Lib.hid (fun W (hW : Below w.heap.size w W) => windows_short (f := 1) (n := n) (ha.mono hW) Ht.out (Mono.tame (.inl rfl)) HC.out Wa.out HCO.out)
        obtain ⟨c1, hc1⟩ : ∃ c, c = decide (n < 1) := ⟨_, rfl⟩
        rcases Int.lt_or_le n 1 with g1 | g1
        · have d1 : decide (n < 1) = true := by simpa using g1
          clear g1 hcond hc1 c1
          go_wp2_with fail
          refine (HC4.out _ hbw).mono ?_
          rintro e w7 ⟨rfl, hb7⟩
          have hbw7 := hbw.trans (hb7.mono hbw.size)
          obtain ⟨pp0, pp1, pp2⟩ := (bA.below hb7).three
          have lA7 := (bA.below hb7).lt
          have hg7 := hg.mono (hbw7.trans ((below_one w7 (.cells #[.bool false, .slice none 0 0, .slice none 0 0] 25)).mono hbw7.size))
          have HG7 := Lib.hid hg7
          clear hb7 bA bX p0 p1 p2 q0 q1 q2 lA lX hbx hbw hg7
          go_wp2_with fail
          refine (error_any 4 4 _ HG7.out).mono ?_
          rintro e w8 ⟨r8, rfl, hr8, hb8⟩
          have e8 : r8 = true := hr8.2 rfl
          subst e8
          have hbw8 := (hbw7.trans ((below_one w7 _).mono hbw7.size)).trans (hb8.mono (by have := hbw7.size; simp; omega))
          clear hr8 hb8
          go_wp2_with fail
          go_ret
          exact ⟨rfl, by have := hbw8.size; go_grown⟩
        · have d1 : decide (n < 1) = false := by simpa using g1
          have d2 : decide ((a.da.length : Int) < n) = true := by simp; omega
          clear g1 hcond hc1 c1
          go_wp2_with fail
          refine (HC4.out _ hbw).mono ?_
          rintro e w7 ⟨rfl, hb7⟩
          have hbw7 := hbw.trans (hb7.mono hbw.size)
          obtain ⟨pp0, pp1, pp2⟩ := (bA.below hb7).three
          have lA7 := (bA.below hb7).lt
          have hg7 := hg.mono (hbw7.trans ((below_one w7 (.cells #[.bool false, .slice none 0 0, .slice none 0 0] 25)).mono hbw7.size))
          have HG7 := Lib.hid hg7
          clear hb7 bA bX p0 p1 p2 q0 q1 q2 lA lX hbx hbw hg7
          go_wp2_with fail
          refine (error_any 4 4 _ HG7.out).mono ?_
          rintro e w8 ⟨r8, rfl, hr8, hb8⟩
          have e8 : r8 = true := hr8.2 rfl
          subst e8
          have hbw8 := (hbw7.trans ((below_one w7 _).mono hbw7.size)).trans (hb8.mono (by have := hbw7.size; simp; omega))
          clear hr8 hb8
          go_wp2_with fail
          go_ret
          exact ⟨rfl, by have := hbw8.size; go_grown⟩
      · have hn1 : 1 ≤ n := by omega
        have hnl : n ≤ (a.da.length : Int) := by omega
        clear hcond
        have d1 : decide (n < 1) = false := by simp; omega
        have d2 : decide ((a.da.length : Int) < n) = false := by simp; omega
        obtain ⟨N, hN⟩ : ∃ N : Nat, N = n.toNat := ⟨_, rfl⟩
        have hnN : n = (N : Int) := by omega
        have HNN := Lib.hid hnN
        have HN1 := Lib.hid (show 1 ≤ N by omega)
        have HNL := Lib.hid (show N ≤ a.da.length by omega)
        have HC4 := Lib.hid (windows_vec (f := 1) (n := n) (ha.mono hbw) Ht.out (Mono.tame (.inl rfl)) HC.out Wa.out hn1 (by rw [← HAL.out]; exact hnl))
        rw [← hN] at HC4
        obtain ⟨SH, hSH⟩ : ∃ SH, SH = [((l - N + 1 : Nat) : Int)] := ⟨_, rfl⟩
        obtain ⟨YS, hYS⟩ : ∃ YS, YS = win1 1 a.da N := ⟨_, rfl⟩
        rw [← hSH, ← hYS] at HC4
        have HYS := Lib.hid hYS
        have HYL := Lib.hid (show YS.length = a.da.length - N + 1 by rw [hYS, win1_len])
        have hm1 : IntKind.i64.wrap ((a.da.length : Int) - n) = (a.da.length : Int) - n := IntWalk.i64_in _ (by have := HA4.out; omega)
        have hm2 : IntKind.i64.wrap ((a.da.length : Int) - n + 1) = (YS.length : Int) := by rw [HYL.out, show (a.da.length : Int) - n + 1 = ((a.da.length - N + 1 : Nat) : Int) by omega]; exact IntWalk.i64_in _ (by have := HA4.out; omega)
        have eY : ((YS.length : Int) != (YS.length : Int)) = false := by simp
        clear hSH hYS hN hnN hn1 hnl
        have EXr := Lib.hid (Elems.mono EX.out hbn)
        go_wp2_with fail
        refine HC4.out.mono ?_
        rintro e w7 ⟨r7, rfl, hr7, hb7⟩
        obtain ⟨A7, c7, D7, d7, rfl, -, -⟩ := hr7.open_
        have EY := Lib.hid (IsArr.dataOf hr7).elems
        have bA7 := (bA.below hb7).alloc (.cells #[.bool false, .slice A7 SH.length c7, .slice D7 YS.length d7] 25)
        have bX7 := (bX.below hb7).alloc (.cells #[.bool false, .slice A7 SH.length c7, .slice D7 YS.length d7] 25)
        have bY7 := Box.new w7 25 #[.bool false, .slice A7 SH.length c7, .slice D7 YS.length d7]
        have hb8 : Below wr.heap.size wr (w7.alloc (.cells #[.bool false, .slice A7 SH.length c7, .slice D7 YS.length d7] 25)) := hb7.trans ((below_one w7 _).mono hb7.size)
        have hb9 : Below w7.heap.size w7 (w7.alloc (.cells #[.bool false, .slice A7 SH.length c7, .slice D7 YS.length d7] 25)) := below_one w7 _
        have hbw8 := HBW.out.trans (hb8.mono HBW.out.size)
        obtain ⟨pp0, pp1, pp2⟩ := (bA.below hb7).three
        obtain ⟨qq0, qq1, qq2⟩ := (bX.below hb7).three
        have lA7 := (bA.below hb7).lt
        have lX7 := (bX.below hb7).lt
        clear hr7 hb7 bA bX p0 p1 p2 q0 q1 q2 lA lX hbx hbw hbn
        go_wp2_with fail
        clear pp0 pp1 pp2 qq0 qq1 qq2 lA7 lX7 hm1 hm2 eY
        go_loopw [14] (fun s14 wx => ∃ k : Nat, k ≤ YS.length ∧ s14 = .int .i64 k ∧ Below (w7.alloc (.cells #[.bool false, .slice A7 SH.length c7, .slice D7 YS.length d7] 25)).heap.size (w7.alloc (.cells #[.bool false, .slice A7 SH.length c7, .slice D7 YS.length d7] 25)) wx) (fun s14 _ => YS.length - (intOf s14).toNat)
        case atStart => exact ⟨0, Nat.zero_le _, rfl, Below.refl _ _⟩
        case round =>
          obtain ⟨k, hk, rfl, hby⟩ := hrel
          obtain ⟨p0, p1, p2⟩ := (bA7.below hby).three
          obtain ⟨q0, q1, q2⟩ := (bX7.below hby).three
          obtain ⟨y0, y1, y2⟩ := (bY7.below hby).three
          have hbw := hbw8.trans (hby.mono hbw8.size)
          have hbr := hb8.trans (hby.mono hb8.size)
          have hb7r := hb9.trans (hby.mono hb9.size)
          rcases Nat.lt_or_ge k YS.length with hlt | hge
          · obtain ⟨ay, y, rfl, hy, hay, hcy⟩ := Elems.later EY.out hb7r hlt
            have hkw : IntKind.i64.wrap ((k : Int) + 1) = (k : Int) + 1 := IntWalk.i64_in _ (by have := HA4.out; have := HYL.out; omega)
            have HLT := Lib.hid hlt
            rcases Nat.eq_zero_or_pos k with hk0 | hk0
            · subst hk0
              obtain ⟨j, hj⟩ : ∃ j, N = j + 1 := ⟨N - 1, by have := HN1.out; omega⟩
              have hltx : j < XS.length := by have := HNL.out; rw [HXL.out]; omega
              obtain ⟨ax, x, rfl, hx, hax, hcx⟩ := Elems.later EXr.out hbr hltx
              have e := wins_zero Wa.out hj (by rw [← HXS.out]; exact hx) (by rw [← HYS.out]; exact hy)
              subst e
              have hnj : n - 1 = (j : Int) := by have := HNN.out; omega
              have hjw : IntKind.i64.wrap (j : Int) = (j : Int) := IntWalk.i64_in _ (by have := HA4.out; have := HNL.out; omega)
              have hnw : IntKind.i64.wrap n = n := IntWalk.i64_in _ (by have := HA4.out; have := HNL.out; have := HNN.out; omega)
              have hw1 : Go.RowKit.wrap64 x = x := by have h1 := win_sum Wa.out (by rw [← HYS.out]; exact hy); rw [h1]; exact word_same (word_wrap _)
              have hw2 : IntKind.i64.wrap x = x := by rw [IntKind.wrap_i64]; have h := hw1; unfold Go.RowKit.wrap64 at h; omega
              have e0 : (x != x) = false := by simp
              have hcy' : wr.cell? ay = some (.int .i64 x) := hcy
              clear hx hy hj
              go_wp2_with fail
              go_quiet (fail)
              all_goals go_wp2_with fail
              go_roundw
              case rel => exact ⟨1, by have := HLT.out; omega, by go_num, hby.trans (below_draws _ _ _)⟩
              case measure => simp [intOf]; have := HLT.out; omega
            · obtain ⟨j, hj⟩ : ∃ j, k = j + 1 := ⟨k - 1, by omega⟩
              obtain ⟨i, hi⟩ : ∃ i, i + 1 = k + N := ⟨k + N - 1, by omega⟩
              have HK := Lib.hid hj
              have HI := Lib.hid hi
              have hlti : i < XS.length := by have := HNL.out; have := HYL.out; have := HN1.out; rw [HXL.out]; omega
              have hltj : j < XS.length := by have := HN1.out; omega
              have hkm : (k : Int) - 1 = (j : Int) := by omega
              have hjw : IntKind.i64.wrap (j : Int) = (j : Int) := IntWalk.i64_in _ (by have := HA4.out; have := HXL.out; omega)
              have hkn : IntKind.i64.wrap ((k : Int) + n) = (k : Int) + n := IntWalk.i64_in _ (by have := HA4.out; have := HXL.out; have := HNN.out; omega)
              have hkn1 : (k : Int) + n - 1 = (i : Int) := by have := HNN.out; omega
              have hiw : IntKind.i64.wrap (i : Int) = (i : Int) := IntWalk.i64_in _ (by have := HA4.out; have := HXL.out; omega)
              clear hj hi
              obtain ⟨ax, x, rfl, hx, hax, hcx⟩ := Elems.later EXr.out hbr hlti
              obtain ⟨ax', z, e, hz, -, hcz⟩ := Elems.later EXr.out hbr hltj
              injection e with e
              subst e
              have hs1 : Go.RowKit.wrap64 (x - z) = y := wins_step Wa.out (n := N) (j := j) (i := i) (by have := HI.out; have := HK.out; omega) (by rw [← HXS.out]; exact hx) (by rw [← HXS.out]; exact hz) (by rw [← HYS.out, ← HK.out]; exact hy)
              have hs2 : IntKind.i64.wrap (x - z) = y := by rw [IntKind.wrap_i64]; have h := hs1; unfold Go.RowKit.wrap64 at h; omega
              have dj : decide ((0 : Int) < (k : Int)) = true := by simp; omega
              have e0 : (y != y) = false := by simp
              clear hx hy hz
              go_wp2_with fail
              go_quiet (fail)
              all_goals go_wp2_with fail
              go_roundw
              case rel => exact ⟨k + 1, by have := HLT.out; omega, by go_num, hby.trans (below_draws _ _ _)⟩
              case measure => simp [intOf]; have := HLT.out; omega
          · have dk : decide (k < YS.length) = false := by simp; omega
            go_wp2_with fail
            go_ret
            exact ⟨rfl, by have := hbw.size; go_grown⟩

end Go.Proofs.YtojeggeimnenbaaDoor
