/- The walk of the law PermLehmer. Conditions: none. -/
import Derived.Test.YtljhgikhgllpgaaRankWalk
import Derived.Test.YtljhgikhgllpgaaUnrankBad
import Derived.Test.YtljhgikhgllpgaaLehmer
import Derived.Test.YtljhgikhgllpgaaCompare
import Derived.Test.YtljhgikhgllpgaaSame
namespace Go.Proofs.Ytljhgikhgllpgaa
open Go Go.RowKit Go.Proofs.Ytljhgikhgllpgaa.P

set_option maxRecDepth 100000 in
set_option maxHeartbeats 4000000 in
theorem permLehmer_walk (v0 v1 : Value) (n k : Int) (p q : List Int) (w : World) (h0 : IsInts w v0 p) (h1 : IsInts w v1 q) :
    Calls Try.prog 9 #[v0, v1, .int .i64 n, .int .i64 k] w (Says w) := by
  go_enter Try.func9, Try.ntmps9
  go_wp2_with fail
  have xa := Box.new w 3 #[.int .i64 2, .int .i64 0, .int .i64 1]
  have i1 : IsInts (w.alloc (.cells #[.int .i64 2, .int .i64 0, .int .i64 1] 3)) (.slice (some ⟨w.heap.size, 0, none⟩) 3 3) (ints [2, 0, 1]) := xa.isInts (xs := [2, 0, 1]) (n := 3) rfl (by omega)
  clear xa
  refine (rank_ok _ [2, 0, 1] _ i1 ⟨by decide, by decide⟩ (by decide)).mono ?_
  rintro e w1 ⟨rfl, hb1⟩
  have hbw1 := ((Below.refl w.heap.size w).trans ((below_one w _).mono (Below.refl w.heap.size w).size)).trans (hb1.mono ((Below.refl w.heap.size w).trans ((below_one w _).mono (Below.refl w.heap.size w).size)).size)
  clear hb1 i1
  rw [show rank [2, 0, 1] = 4 by decide]
  by_cases hU : UnrankFine n k
  case neg =>
    go_wp2_with fail
    refine (unrank_bad n k _ hU).mono ?_
    rintro e w2 ⟨cu, rfl, hb2⟩
    have hbw2 := hbw1.trans (hb2.mono hbw1.size)
    clear hb2 hbw1
    clear hU
    by_cases hE : rankErr p = 0
    case neg =>
      go_wp2_with fail
      refine (rank_bad _ p _ (h0.mono hbw2) hE).mono ?_
      rintro e w3 ⟨rfl, hb3⟩
      have hbw3 := hbw2.trans (hb3.mono hbw2.size)
      clear hb3 hbw2
      have HE := Lib.hid hE
      clear hE
      by_cases hE : rankErr q = 0
      case neg =>
        go_wp2_with fail
        refine (rank_bad _ q _ (h1.mono hbw3) hE).mono ?_
        rintro e w4 ⟨rfl, hb4⟩
        have hbw4 := hbw3.trans (hb4.mono hbw3.size)
        clear hb4 hbw3
        clear hE
        go_wp2_with fail
        go_ret
        exact ⟨rfl, by have := hbw4.size; go_grown⟩
      obtain ⟨T, rfl, hT, hn⟩ := rankErr_zero hE
      go_wp2_with fail
      refine (rank_ok _ T _ (h1.mono hbw3) hT hn).mono ?_
      rintro e w4 ⟨rfl, hb4⟩
      have hbw4 := hbw3.trans (hb4.mono hbw3.size)
      clear hb4 hbw3
      clear hE hn
      go_wp2_with fail
      go_ret
      exact ⟨rfl, by have := hbw4.size; go_grown⟩
    obtain ⟨S, rfl, hS, hn⟩ := rankErr_zero hE
    obtain ⟨A, ca, rfl, -, -, -, -, H0⟩ := h0.open_
    simp only [length_ints] at H0 ⊢
    have hrl := rank_lt hS
    have hur := unrank_rank hS
    have hur2 := congrArg ints hur
    have HS := Lib.hid hS
    have HN := Lib.hid hn
    have HRL := Lib.hid hrl
    have HUR := Lib.hid hur2
    clear hE hS hn hrl hur hur2 h0
    go_wp2_with fail
    refine (rank_ok _ S _ (H0.mono hbw2) HS.out HN.out).mono ?_
    rintro e w3 ⟨rfl, hb3⟩
    have hbw3 := hbw2.trans (hb3.mono hbw2.size)
    clear hb3 hbw2
    by_cases hE : rankErr q = 0
    case neg =>
      go_wp2_with fail
      refine (rank_bad _ q _ (h1.mono hbw3) hE).mono ?_
      rintro e w4 ⟨rfl, hb4⟩
      have hbw4 := hbw3.trans (hb4.mono hbw3.size)
      clear hb4 hbw3
      have HE := Lib.hid hE
      clear hE
      go_wp2_with fail
      refine (unrank_ok S.length (rank S) _ HN.out HRL.out).mono ?_
      rintro e w5 ⟨r5, rfl, hr5, hb5⟩
      have hbw5 := hbw4.trans (hb5.mono hbw4.size)
      clear hb5 hbw4
      go_wp2_with fail
      refine (list_nil _ _ _ _ _ hr5 (H0.mono hbw5)).mono ?_
      rintro e w6 ⟨r6, rfl, hr6, hb6⟩
      have e6 : r6 = true := hr6.2 (HUR.out)
      subst e6
      clear hr6
      have hbw6 := hbw5.trans (hb6.mono hbw5.size)
      have a_y6 := hr5.mono hb6
      clear hb6 hr5 hbw5
      go_wp2_with fail
      go_ret
      exact ⟨rfl, by have := hbw6.size; go_grown⟩
    obtain ⟨T, rfl, hT, hn⟩ := rankErr_zero hE
    obtain ⟨B, cb, rfl, -, -, -, -, H1⟩ := h1.open_
    simp only [length_ints] at H1 ⊢
    have HT := Lib.hid hT
    have HNT := Lib.hid hn
    clear hE hT hn h1
    go_wp2_with fail
    refine (rank_ok _ T _ (H1.mono hbw3) HT.out HNT.out).mono ?_
    rintro e w4 ⟨rfl, hb4⟩
    have hbw4 := hbw3.trans (hb4.mono hbw3.size)
    clear hb4 hbw3
    go_wp2_with fail
    refine (unrank_ok S.length (rank S) _ HN.out HRL.out).mono ?_
    rintro e w5 ⟨r5, rfl, hr5, hb5⟩
    have hbw5 := hbw4.trans (hb5.mono hbw4.size)
    clear hb5 hbw4
    go_wp2_with fail
    refine (list_nil _ _ _ _ _ hr5 (H0.mono hbw5)).mono ?_
    rintro e w6 ⟨r6, rfl, hr6, hb6⟩
    have e6 : r6 = true := hr6.2 (HUR.out)
    subst e6
    clear hr6
    have hbw6 := hbw5.trans (hb6.mono hbw5.size)
    have a_y6 := hr5.mono hb6
    clear hb6 hr5 hbw5
    clear a_y6
    by_cases hl : S.length = T.length
    case neg =>
      have hl2 : ((S.length : Int) == (T.length : Int)) = false := by rw [beq_eq_false_iff_ne]; omega
      go_wp2_with fail
      go_ret
      exact ⟨rfl, by have := hbw6.size; go_grown⟩
    have hcm := rank_cmp HS.out HT.out hl
    rw [← cmp_ints] at hcm
    have HL2 := Lib.hid (show (ints T).length = (ints S).length by rw [length_ints, length_ints]; exact hl.symm)
    have hl2 : ((S.length : Int) == (T.length : Int)) = true := by rw [beq_iff_eq, hl]
    have HL := Lib.hid hl
    clear hl
    obtain ⟨c, hc⟩ : ∃ c, c = cmp (ints S) (ints T) := ⟨_, rfl⟩
    rw [← hc] at hcm
    have hq1 : decide (rank S < rank T) = decide (c < 0) := decide_eq_decide.2 hcm.1
    have hq2 : ((((rank S : Nat) : Int) == ((rank T : Nat) : Int)) == (c == 0)) = true := by
      rw [beq_iff_eq, Bool.eq_iff_iff, beq_iff_eq, beq_iff_eq, ← hcm.2]
      omega
    have HQ := Lib.hid hq2
    clear hq2
    have HC := Lib.hid hc
    clear hc hcm
    go_wp2_with fail
    refine (compare_ok _ _ (ints S) (ints T) _ (H0.mono hbw6) (H1.mono hbw6) HL2.out).mono ?_
    rintro e w7 ⟨rfl, hb7⟩
    have hbw7 := hbw6.trans (hb7.mono hbw6.size)
    clear hb7 hbw6
    rw [← HC.out]
    go_wp2_with fail
    refine (compare_ok _ _ (ints S) (ints T) _ (H0.mono hbw7) (H1.mono hbw7) HL2.out).mono ?_
    rintro e w8 ⟨rfl, hb8⟩
    have hbw8 := hbw7.trans (hb8.mono hbw7.size)
    clear hb8 hbw7
    rw [← HC.out]
    go_wp2_with fail
    go_ret
    exact ⟨congrArg (fun b => Ending.returned (Value.bool b)) HQ.out, by have := hbw8.size; go_grown⟩
  obtain ⟨m, rfl⟩ := Int.eq_ofNat_of_zero_le hU.1
  obtain ⟨K, rfl⟩ := Int.eq_ofNat_of_zero_le hU.2.2.1
  have hm : m ≤ 12 := by have := hU.2.1; omega
  have hK : K < fac m := by have := hU.2.2.2; rw [Int.toNat_natCast] at this; omega
  clear hU
  go_wp2_with fail
  refine (unrank_ok m K _ hm hK).mono ?_
  rintro e w2 ⟨r2, rfl, hr2, hb2⟩
  have hbw2 := hbw1.trans (hb2.mono hbw1.size)
  clear hb2 hbw1
  obtain ⟨hx1, hx2⟩ := unrank_perm hK
  have hx3 := rank_unrank hK
  obtain ⟨AX, cx, rfl, -, -, -, -, HX⟩ := hr2.open_
  clear hr2
  simp only [length_ints, hx2] at HX ⊢
  have HX1 := Lib.hid hx1
  have HX2 := Lib.hid hx2
  have HX3 := Lib.hid hx3
  have HM := Lib.hid hm
  have HK := Lib.hid hK
  clear hx1 hx2 hx3 hm hK
  go_wp2_with fail
  refine (rank_ok _ (unrank m K) _ HX HX1.out (by rw [HX2.out]; exact HM.out)).mono ?_
  rintro e w3 ⟨rfl, hb3⟩
  have hbw3 := hbw2.trans (hb3.mono hbw2.size)
  have a_x3 := HX.mono hb3
  clear hb3 HX hbw2
  rw [HX3.out]
  clear a_x3 HX1 HX2 HX3 HM HK
  by_cases hE : rankErr p = 0
  case neg =>
    go_wp2_with fail
    refine (rank_bad _ p _ (h0.mono hbw3) hE).mono ?_
    rintro e w4 ⟨rfl, hb4⟩
    have hbw4 := hbw3.trans (hb4.mono hbw3.size)
    clear hb4 hbw3
    have HE := Lib.hid hE
    clear hE
    by_cases hE : rankErr q = 0
    case neg =>
      go_wp2_with fail
      refine (rank_bad _ q _ (h1.mono hbw4) hE).mono ?_
      rintro e w5 ⟨rfl, hb5⟩
      have hbw5 := hbw4.trans (hb5.mono hbw4.size)
      clear hb5 hbw4
      clear hE
      go_wp2_with fail
      go_ret
      exact ⟨rfl, by have := hbw5.size; go_grown⟩
    obtain ⟨T, rfl, hT, hn⟩ := rankErr_zero hE
    go_wp2_with fail
    refine (rank_ok _ T _ (h1.mono hbw4) hT hn).mono ?_
    rintro e w5 ⟨rfl, hb5⟩
    have hbw5 := hbw4.trans (hb5.mono hbw4.size)
    clear hb5 hbw4
    clear hE hn
    go_wp2_with fail
    go_ret
    exact ⟨rfl, by have := hbw5.size; go_grown⟩
  obtain ⟨S, rfl, hS, hn⟩ := rankErr_zero hE
  obtain ⟨A, ca, rfl, -, -, -, -, H0⟩ := h0.open_
  simp only [length_ints] at H0 ⊢
  have hrl := rank_lt hS
  have hur := unrank_rank hS
  have hur2 := congrArg ints hur
  have HS := Lib.hid hS
  have HN := Lib.hid hn
  have HRL := Lib.hid hrl
  have HUR := Lib.hid hur2
  clear hE hS hn hrl hur hur2 h0
  go_wp2_with fail
  refine (rank_ok _ S _ (H0.mono hbw3) HS.out HN.out).mono ?_
  rintro e w4 ⟨rfl, hb4⟩
  have hbw4 := hbw3.trans (hb4.mono hbw3.size)
  clear hb4 hbw3
  by_cases hE : rankErr q = 0
  case neg =>
    go_wp2_with fail
    refine (rank_bad _ q _ (h1.mono hbw4) hE).mono ?_
    rintro e w5 ⟨rfl, hb5⟩
    have hbw5 := hbw4.trans (hb5.mono hbw4.size)
    clear hb5 hbw4
    have HE := Lib.hid hE
    clear hE
    go_wp2_with fail
    refine (unrank_ok S.length (rank S) _ HN.out HRL.out).mono ?_
    rintro e w6 ⟨r6, rfl, hr6, hb6⟩
    have hbw6 := hbw5.trans (hb6.mono hbw5.size)
    clear hb6 hbw5
    go_wp2_with fail
    refine (list_nil _ _ _ _ _ hr6 (H0.mono hbw6)).mono ?_
    rintro e w7 ⟨r7, rfl, hr7, hb7⟩
    have e7 : r7 = true := hr7.2 (HUR.out)
    subst e7
    clear hr7
    have hbw7 := hbw6.trans (hb7.mono hbw6.size)
    have a_y7 := hr6.mono hb7
    clear hb7 hr6 hbw6
    go_wp2_with fail
    go_ret
    exact ⟨rfl, by have := hbw7.size; go_grown⟩
  obtain ⟨T, rfl, hT, hn⟩ := rankErr_zero hE
  obtain ⟨B, cb, rfl, -, -, -, -, H1⟩ := h1.open_
  simp only [length_ints] at H1 ⊢
  have HT := Lib.hid hT
  have HNT := Lib.hid hn
  clear hE hT hn h1
  go_wp2_with fail
  refine (rank_ok _ T _ (H1.mono hbw4) HT.out HNT.out).mono ?_
  rintro e w5 ⟨rfl, hb5⟩
  have hbw5 := hbw4.trans (hb5.mono hbw4.size)
  clear hb5 hbw4
  go_wp2_with fail
  refine (unrank_ok S.length (rank S) _ HN.out HRL.out).mono ?_
  rintro e w6 ⟨r6, rfl, hr6, hb6⟩
  have hbw6 := hbw5.trans (hb6.mono hbw5.size)
  clear hb6 hbw5
  go_wp2_with fail
  refine (list_nil _ _ _ _ _ hr6 (H0.mono hbw6)).mono ?_
  rintro e w7 ⟨r7, rfl, hr7, hb7⟩
  have e7 : r7 = true := hr7.2 (HUR.out)
  subst e7
  clear hr7
  have hbw7 := hbw6.trans (hb7.mono hbw6.size)
  have a_y7 := hr6.mono hb7
  clear hb7 hr6 hbw6
  clear a_y7
  by_cases hl : S.length = T.length
  case neg =>
    have hl2 : ((S.length : Int) == (T.length : Int)) = false := by rw [beq_eq_false_iff_ne]; omega
    go_wp2_with fail
    go_ret
    exact ⟨rfl, by have := hbw7.size; go_grown⟩
  have hcm := rank_cmp HS.out HT.out hl
  rw [← cmp_ints] at hcm
  have HL2 := Lib.hid (show (ints T).length = (ints S).length by rw [length_ints, length_ints]; exact hl.symm)
  have hl2 : ((S.length : Int) == (T.length : Int)) = true := by rw [beq_iff_eq, hl]
  have HL := Lib.hid hl
  clear hl
  obtain ⟨c, hc⟩ : ∃ c, c = cmp (ints S) (ints T) := ⟨_, rfl⟩
  rw [← hc] at hcm
  have hq1 : decide (rank S < rank T) = decide (c < 0) := decide_eq_decide.2 hcm.1
  have hq2 : ((((rank S : Nat) : Int) == ((rank T : Nat) : Int)) == (c == 0)) = true := by
    rw [beq_iff_eq, Bool.eq_iff_iff, beq_iff_eq, beq_iff_eq, ← hcm.2]
    omega
  have HQ := Lib.hid hq2
  clear hq2
  have HC := Lib.hid hc
  clear hc hcm
  go_wp2_with fail
  refine (compare_ok _ _ (ints S) (ints T) _ (H0.mono hbw7) (H1.mono hbw7) HL2.out).mono ?_
  rintro e w8 ⟨rfl, hb8⟩
  have hbw8 := hbw7.trans (hb8.mono hbw7.size)
  clear hb8 hbw7
  rw [← HC.out]
  go_wp2_with fail
  refine (compare_ok _ _ (ints S) (ints T) _ (H0.mono hbw8) (H1.mono hbw8) HL2.out).mono ?_
  rintro e w9 ⟨rfl, hb9⟩
  have hbw9 := hbw8.trans (hb9.mono hbw8.size)
  clear hb9 hbw8
  rw [← HC.out]
  go_wp2_with fail
  go_ret
  exact ⟨congrArg (fun b => Ending.returned (Value.bool b)) HQ.out, by have := hbw9.size; go_grown⟩

end Go.Proofs.Ytljhgikhgllpgaa
