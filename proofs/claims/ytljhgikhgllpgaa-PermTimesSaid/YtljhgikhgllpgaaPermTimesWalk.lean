/- The walk of the law PermTimes. Conditions: none. -/
import Derived.Test.YtljhgikhgllpgaaPowerWalk
import Derived.Test.YtljhgikhgllpgaaTimes
import Derived.Test.YtljhgikhgllpgaaBounds
import Derived.Test.YtljhgikhgllpgaaSame
namespace Go.Proofs.Ytljhgikhgllpgaa
open Go Go.RowKit Go.Proofs.Ytljhgikhgllpgaa.P

set_option maxRecDepth 100000 in
set_option maxHeartbeats 4000000 in
theorem permTimes_walk (v0 : Value) (j k : Int) (p : List Int) (w : World) (h0 : IsInts w v0 p) :
    Calls Try.prog 6 #[v0, .int .i64 j, .int .i64 k] w (Says w) := by
  go_enter Try.func6, Try.ntmps6
  go_wp2_with fail
  have xa := Box.new w 3 #[.int .i64 1, .int .i64 2, .int .i64 0]
  have i1 : IsInts (w.alloc (.cells #[.int .i64 1, .int .i64 2, .int .i64 0] 3)) (.slice (some ⟨w.heap.size, 0, none⟩) 3 3) (ints [1, 2, 0]) := xa.isInts (xs := [1, 2, 0]) (n := 3) rfl (by omega)
  clear xa
  refine (power_ok _ 2 [1, 2, 0] _ i1 ⟨by decide, by decide⟩ (by decide)).mono ?_
  rintro e w1 ⟨r1, rfl, hr1, hb1⟩
  have hbw1 := ((Below.refl w.heap.size w).trans ((below_one w _).mono (Below.refl w.heap.size w).size)).trans (hb1.mono ((Below.refl w.heap.size w).trans ((below_one w _).mono (Below.refl w.heap.size w).size)).size)
  clear hb1 i1
  rw [show ints (pwr [1, 2, 0] 2) = [2, 0, 1] by decide] at hr1
  go_wp2_with fail
  have bq := Box.new w1 3 #[.int .i64 2, .int .i64 0, .int .i64 1]
  refine (ints_any _ _ [2, 0, 1] [2, 0, 1] _ (hr1.mono (below_one _ _)) (bq.isInts (xs := [2, 0, 1]) (n := 3) rfl (by omega))).mono ?_
  rintro e w2 ⟨r2, rfl, hr2, hb2⟩
  have e2 : r2 = true := hr2.2 rfl
  subst e2
  clear hr2
  have hbw2 := (hbw1.trans ((below_one w1 _).mono hbw1.size)).trans (hb2.mono (hbw1.trans ((below_one w1 _).mono hbw1.size)).size)
  clear hb2 hbw1 bq hr1
  go_wp2_with fail
  refine (within_any j _ _ _).mono ?_
  rintro e w3 ⟨b3, rfl, hr3, hb3⟩
  have hbw3 := hbw2.trans (hb3.mono hbw2.size)
  clear hb3 hbw2
  cases b3
  case false =>
    clear hr3
    go_wp2_with fail
    go_ret
    exact ⟨rfl, by have := hbw3.size; go_grown⟩
  have Hj := Lib.hid (hr3.1 rfl)
  clear hr3
  go_wp2_with fail
  refine (within_any k _ _ _).mono ?_
  rintro e w4 ⟨b4, rfl, hr4, hb4⟩
  have hbw4 := hbw3.trans (hb4.mono hbw3.size)
  clear hb4 hbw3
  cases b4
  case false =>
    clear hr4
    go_wp2_with fail
    go_ret
    exact ⟨rfl, by have := hbw4.size; go_grown⟩
  have Hk := Lib.hid (hr4.1 rfl)
  clear hr4
  by_cases hE : ordErr p = 0
  case neg =>
    go_wp2_with fail
    refine (power_bad _ j p _ (h0.mono hbw4) hE).mono ?_
    rintro e w5 ⟨rfl, hb5⟩
    have hbw5 := hbw4.trans (hb5.mono hbw4.size)
    clear hb5 hbw4
    clear hE
    go_wp2_with fail
    go_ret
    exact ⟨rfl, by have := hbw5.size; go_grown⟩
  obtain ⟨S, rfl, hS, hn⟩ := ordErr_zero hE
  obtain ⟨A, ca, rfl, -, -, -, -, H0⟩ := h0.open_
  simp only [length_ints] at H0 ⊢
  have hjk : wrap64 (j + k) = j + k := by have := Hj.out; have := Hk.out; unfold wrap64; omega
  have g1 := congrArg ints (pwr_add hS j k)
  have g2 := congrArg ints (pwr_one hS)
  have p1 := pwr_perm hS j
  have p2 := pwr_perm hS k
  have HS := Lib.hid hS
  have HN := Lib.hid hn
  have HJK := Lib.hid hjk
  have G1 := Lib.hid g1
  have G2 := Lib.hid g2
  have P1 := Lib.hid p1
  have P2 := Lib.hid p2
  clear hE hS hn hjk g1 g2 p1 p2 h0
  go_wp2_with fail
  refine (power_ok _ j S _ (H0.mono hbw4) HS.out (by (try simp only [pwr_length]); have := HN.out; omega)).mono ?_
  rintro e w5 ⟨r5, rfl, hr5, hb5⟩
  have hbw5 := hbw4.trans (hb5.mono hbw4.size)
  clear hb5 hbw4
  go_wp2_with fail
  refine (power_ok _ k S _ (H0.mono hbw5) HS.out (by (try simp only [pwr_length]); have := HN.out; omega)).mono ?_
  rintro e w6 ⟨r6, rfl, hr6, hb6⟩
  have hbw6 := hbw5.trans (hb6.mono hbw5.size)
  have a_x6 := hr5.mono hb6
  clear hb6 hr5 hbw5
  go_wp2_with fail
  refine (after_ok _ _ (pwr S j) (pwr S k) _ a_x6 hr6 P1.out P2.out (by rw [pwr_length, pwr_length]) (by (try simp only [pwr_length]); have := HN.out; omega)).mono ?_
  rintro e w7 ⟨r7, rfl, hr7, hb7⟩
  have hbw7 := hbw6.trans (hb7.mono hbw6.size)
  have a_x7 := a_x6.mono hb7
  have a_y7 := hr6.mono hb7
  clear hb7 a_x6 hr6 hbw6
  go_wp2_with fail
  rw [HJK.out]
  refine (power_ok _ (j + k) S _ (H0.mono hbw7) HS.out (by (try simp only [pwr_length]); have := HN.out; omega)).mono ?_
  rintro e w8 ⟨r8, rfl, hr8, hb8⟩
  have hbw8 := hbw7.trans (hb8.mono hbw7.size)
  have a_x8 := a_x7.mono hb8
  have a_y8 := a_y7.mono hb8
  have a_u8 := hr7.mono hb8
  clear hb8 a_x7 a_y7 hr7 hbw7
  go_wp2_with fail
  refine (list_nil _ _ _ _ _ a_u8 hr8).mono ?_
  rintro e w9 ⟨r9, rfl, hr9, hb9⟩
  have e9 : r9 = true := hr9.2 (G1.out)
  subst e9
  clear hr9
  have hbw9 := hbw8.trans (hb9.mono hbw8.size)
  have a_x9 := a_x8.mono hb9
  have a_y9 := a_y8.mono hb9
  have a_u9 := a_u8.mono hb9
  have a_v9 := hr8.mono hb9
  clear hb9 a_x8 a_y8 a_u8 hr8 hbw8
  clear a_x9
  clear a_y9
  clear a_u9
  clear a_v9
  go_wp2_with fail
  refine (power_ok _ 1 S _ (H0.mono hbw9) HS.out (by (try simp only [pwr_length]); have := HN.out; omega)).mono ?_
  rintro e w10 ⟨r10, rfl, hr10, hb10⟩
  have hbw10 := hbw9.trans (hb10.mono hbw9.size)
  clear hb10 hbw9
  go_wp2_with fail
  refine (list_nil _ _ _ _ _ hr10 (H0.mono hbw10)).mono ?_
  rintro e w11 ⟨r11, rfl, hr11, hb11⟩
  have e11 : r11 = true := hr11.2 (G2.out)
  subst e11
  clear hr11
  have hbw11 := hbw10.trans (hb11.mono hbw10.size)
  have a_o11 := hr10.mono hb11
  clear hb11 hr10 hbw10
  clear a_o11
  go_wp2_with fail
  refine (cycles_ok _ S _ (H0.mono hbw11) HS.out (by (try simp only [pwr_length]); have := HN.out; omega)).mono ?_
  rintro e w12 ⟨rc, xs, rfl, hv, hsc, hss, hb12⟩
  have hbw12 := hbw11.trans (hb12.mono hbw11.size)
  clear hb12 hbw11
  have hlc : (lens xs).length = (longs xs).length := lens_length xs
  obtain ⟨C, cc, rfl, hc1, hc2, hcE⟩ := hv
  rw [← hlc] at hc1 ⊢
  have HLC := Lib.hid hlc
  have HSC := Lib.hid hsc
  have HSS := Lib.hid hss
  have HCE := Lib.hid hcE
  clear hlc hsc hss hcE
  rcases Nat.lt_or_ge 20 S.length with g20 | g20
  · have g20' : decide ((20 : Int) < S.length) = true := by simp; omega
    go_wp2_with fail
    go_ret
    exact ⟨rfl, by have := hbw12.size; go_grown⟩
  have g20' : decide ((20 : Int) < S.length) = false := by simp; omega
  rcases Nat.lt_or_ge 20 (lens xs).length with g21 | g21
  · have g21' : decide ((20 : Int) < (lens xs).length) = true := by simp; omega
    go_wp2_with fail
    go_ret
    exact ⟨rfl, by have := hbw12.size; go_grown⟩
  have g21' : decide ((20 : Int) < (lens xs).length) = false := by simp; omega
  have hsum := lens_le HS.out HSC.out
  have HSUM := Lib.hid hsum
  clear hsum
  go_wp2_with fail
  go_loopw [25, 24] (fun i m wr => ∃ q : Nat, q ≤ (lens xs).length ∧ i = .int .i64 q ∧ m = .int .i64 ((mulAll ((lens xs).take q) : Nat) : Int) ∧ Below w12.heap.size w12 wr)
    (fun i _ _ => (lens xs).length - (intOf i).toNat)
  case atStart => exact ⟨0, Nat.zero_le _, rfl, rfl, by go_grown⟩
  case round =>
    obtain ⟨q, hq, rfl, rfl, hbl⟩ := hrel
    rcases Nat.lt_or_ge q (lens xs).length with hlt | hge
    · obtain ⟨v, hvv⟩ : ∃ v, (longs xs)[q]? = some v := ⟨_, List.getElem?_eq_getElem (by rw [← HLC.out]; exact hlt)⟩
      obtain ⟨ad, rfl, hal, hcx⟩ := HCE.out q v hvv
      obtain ⟨A1, m1, c1, rfl, hm1⟩ := longs_at HSS.out hvv
      have hcx2 := (hbl.cell (p := ad.add q) (by rw [addr_block_add]; exact hal)).trans hcx
      have h2 := lens_two (List.mem_of_getElem? hm1)
      have h3 := le_sum (List.mem_of_getElem? hm1)
      have h4 : m1 ≤ 20 := by have := HSUM.out; omega
      have h2' : decide (m1 < 2) = false := by simp; omega
      have h4' : decide (20 < m1) = false := by simp; omega
      have h5 : mulAll ((lens xs).take q) * m1 = mulAll ((lens xs).take (q + 1)) := (mulAll_take hm1).symm
      have h6 : mulAll ((lens xs).take (q + 1)) ≤ 1048576 := Nat.le_trans (mulAll_le _) (Nat.pow_le_pow_right (by omega) (show ((lens xs).take (q + 1)).sum ≤ 20 by have := sum_take_le (lens xs) (q + 1); have := HSUM.out; omega))
      obtain ⟨z, hz⟩ : ∃ z, z = mulAll ((lens xs).take q) := ⟨_, rfl⟩
      rw [← hz] at h5 ⊢
      have h7 : wrap64 ((z : Int) * m1) = ((mulAll ((lens xs).take (q + 1)) : Nat) : Int) := wrap_mul_nat h5 h6
      have H7 := Lib.hid h7
      clear hvv hm1 hcx h3 h5 h6 hz h7
      go_wp2_with fail
      go_roundw
      case rel => exact ⟨q + 1, by omega, by go_num, congrArg _ H7.out, by have := hbl.size; go_grown⟩
      case measure => simp [intOf]; omega
    · have hqq : q = (lens xs).length := by omega
      subst hqq
      rw [List.take_length]
      have hbz := hbw12.trans (hbl.mono hbw12.size)
      have g3 := congrArg ints (times_back HS.out HSC.out)
      have G3 := Lib.hid g3
      clear g3 hbl
      go_wp2_with fail
      refine (power_ok _ _ S _ (H0.mono hbz) HS.out (by (try simp only [pwr_length]); have := HN.out; omega)).mono ?_
      rintro e w13 ⟨r13, rfl, hr13, hb13⟩
      have hbw13 := hbz.trans (hb13.mono hbz.size)
      clear hb13
      go_wp2_with fail
      refine (power_ok _ 0 S _ (H0.mono hbw13) HS.out (by (try simp only [pwr_length]); have := HN.out; omega)).mono ?_
      rintro e w14 ⟨r14, rfl, hr14, hb14⟩
      have hbw14 := hbw13.trans (hb14.mono hbw13.size)
      have a_z14 := hr13.mono hb14
      clear hb14 hr13 hbw13
      go_wp2_with fail
      refine (list_nil _ _ _ _ _ a_z14 hr14).mono ?_
      rintro e w15 ⟨r15, rfl, hr15, hb15⟩
      have e15 : r15 = true := hr15.2 (G3.out)
      subst e15
      clear hr15
      have hbw15 := hbw14.trans (hb15.mono hbw14.size)
      have a_z15 := a_z14.mono hb15
      have a_n15 := hr14.mono hb15
      clear hb15 a_z14 hr14 hbw14
      go_wp2_with fail
      go_ret
      exact ⟨rfl, by have := hbw15.size; go_grown⟩

end Go.Proofs.Ytljhgikhgllpgaa
