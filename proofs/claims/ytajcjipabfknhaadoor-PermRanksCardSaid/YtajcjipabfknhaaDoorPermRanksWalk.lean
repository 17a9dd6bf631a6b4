/- The walk of the law PermRanks. Conditions: none. -/
import Derived.Test.YtajcjipabfknhaaDoorRefRank
import Derived.Test.YtajcjipabfknhaaDoorRankTold
set_option linter.unusedSimpArgs false
set_option linter.unusedVariables false
namespace Go.Proofs.YtajcjipabfknhaaDoor
open Go Go.RowKit Go.Proofs.YtajcjipabfknhaaDoor.P

set_option maxRecDepth 100000 in
set_option maxHeartbeats 8000000 in
theorem permRanks_walk (v0 : Value) (p : List Int) (n K : Int) (w : World) (hg : Laid0 w) (hp : IsInts w v0 p) :
    Calls Tryd.prog 7 #[v0, .int .i64 n, .int .i64 K] w (Says w) := by
  have HP := Lib.hid hp
  obtain ⟨A, ca, rfl, b1, b2, b3, _, b4⟩ := hp
  clear b4
  go_enter Tryd.func7, Tryd.ntmps7
  go_wp2_with fail
  refine (ofault_any _ p _ HP.out).mono ?_
  rintro e w0 ⟨rfl, rfl⟩
  have T1 := rank_told _ p w HP.out
  have T2 := Lib.hid (fun W => unrank_told n K W)
  obtain ⟨R, hR⟩ : ∃ R, R = rankV p := ⟨_, rfl⟩
  obtain ⟨k, hk⟩ : ∃ k, k = rankErr p := ⟨_, rfl⟩
  obtain ⟨j, hj⟩ : ∃ j, j = unErr n K := ⟨_, rfl⟩
  obtain ⟨x, hx⟩ : ∃ x, x = ints (unrank n.toNat K.toNat) := ⟨_, rfl⟩
  rw [← hR, ← hk] at T1
  rw [← hj, ← hx] at T2
  have T1 := Lib.hid T1
  have HR := Lib.hid hR
  have HK := Lib.hid hk
  have HJ := Lib.hid hj
  have HX := Lib.hid hx
  clear hR hk hj hx
  obtain ⟨o, ho⟩ : ∃ o, o = ordErr p := ⟨_, rfl⟩
  rw [← ho]
  by_cases c1 : o = 0
  · subst c1
    by_cases c2 : 12 < p.length
    · have e1 : decide ((12 : Int) < (p.length : Int)) = true := by simp; omega
      have e1' : decide (12 < p.length) = true := by simpa using c2
      obtain rfl : k = 7 := by rw [HK.out]; unfold rankErr; rw [if_neg (fun h => h ho.symm), if_pos c2]
      have hR0 : R = 0 := by rw [HR.out]; unfold rankV; rw [if_neg (by rw [← HK.out]; omega)]
      subst hR0
      have hbw1 := Below.refl w.heap.size w
      clear c2 ho
      go_wp2_with fail
      refine T1.out.mono ?_
      rintro e w2 ⟨rfl, hb2⟩
      have hbw2 := hbw1.trans (hb2.mono hbw1.size)
      clear hb2 T1
      go_wp2_with fail
      refine (error_any 7 7 _ (hg.mono hbw2)).mono ?_
      rintro e w3 ⟨r, rfl, hr, hb3⟩
      obtain rfl : r = true := hr.2 rfl
      have hbw3 := hbw2.trans (hb3.mono hbw2.size)
      clear hr hb3 hbw2
      skip
      by_cases c2 : n < 0
      · have hu : unErr n K = 6 := by unfold unErr; rw [if_pos c2]
        have f1 : decide (n < 0) = true := by simpa using c2
        clear c2
        obtain rfl : j = 6 := HJ.out.trans hu
        clear hu
        have hr7 : IsInts w3 (.slice none 0 0) (ians x 6) := ints_none _
        obtain ⟨x', hx'⟩ : ∃ y, y = ians x 6 := ⟨_, rfl⟩
        have T2 := Lib.hid (show ∀ W, Calls _ _ _ W (fun e w' => ∃ r, e = .returned (.tuple #[r, errV 6]) ∧ IsInts w' r x' ∧ Below W.heap.size W w') by rw [hx']; exact T2.out)
        rw [← hx'] at hr7
        clear hx'
        go_wp2_with fail
        refine (T2.out _).mono ?_
        rintro e w8 ⟨r8, rfl, hr8, hb8⟩
        have hbw8 := hbw3.trans (hb8.mono hbw3.size)
        have hr7 := hr7.mono hb8
        clear hb8 T2
        go_wp2_with fail
        refine (ints_yes 6 _ _ x' _ (hg.mono hbw8) hr8 hr7).mono ?_
        rintro e w9 ⟨rfl, hb9⟩
        have hbw9 := hbw8.trans (hb9.mono hbw8.size)
        clear hb9
        go_wp2_with fail
        go_ret
        exact ⟨rfl, hbw9⟩
      by_cases c3 : 12 < n
      · have hu : unErr n K = 7 := by unfold unErr; rw [if_neg c2, if_pos c3]
        have f1 : decide (n < 0) = false := by simpa using c2
        have e2 : decide (12 < n) = true := by simpa using c3
        clear c2 c3
        obtain rfl : j = 7 := HJ.out.trans hu
        clear hu
        have hr7 : IsInts w3 (.slice none 0 0) (ians x 7) := ints_none _
        obtain ⟨x', hx'⟩ : ∃ y, y = ians x 7 := ⟨_, rfl⟩
        have T2 := Lib.hid (show ∀ W, Calls _ _ _ W (fun e w' => ∃ r, e = .returned (.tuple #[r, errV 7]) ∧ IsInts w' r x' ∧ Below W.heap.size W w') by rw [hx']; exact T2.out)
        rw [← hx'] at hr7
        clear hx'
        go_wp2_with fail
        refine (T2.out _).mono ?_
        rintro e w8 ⟨r8, rfl, hr8, hb8⟩
        have hbw8 := hbw3.trans (hb8.mono hbw3.size)
        have hr7 := hr7.mono hb8
        clear hb8 T2
        go_wp2_with fail
        refine (ints_yes 7 _ _ x' _ (hg.mono hbw8) hr8 hr7).mono ?_
        rintro e w9 ⟨rfl, hb9⟩
        have hbw9 := hbw8.trans (hb9.mono hbw8.size)
        clear hb9
        go_wp2_with fail
        go_ret
        exact ⟨rfl, hbw9⟩
      obtain ⟨m, rfl⟩ := Int.eq_ofNat_of_zero_le (Int.not_lt.1 c2)
      have hm : m ≤ 12 := by omega
      have e3 : decide ((12 : Int) < (m : Int)) = false := by simp; omega
      have e4 : ¬ 12 < m := by omega
      have HU := Lib.hid (show unErr (m : Int) K = if K < 0 ∨ ((fac m : Nat) : Int) ≤ K then 5 else 0 by unfold unErr; rw [if_neg c2, if_neg c3]; simp)
      clear c2 c3
      by_cases c4 : K < 0
      · have hu : unErr (m : Int) K = 5 := by rw [HU.out, if_pos (.inl c4)]
        have f1 : decide (K < 0) = true := by simpa using c4
        clear c4
        obtain rfl : j = 5 := HJ.out.trans hu
        clear hu
        have hr7 : IsInts w3 (.slice none 0 0) (ians x 5) := ints_none _
        obtain ⟨x', hx'⟩ : ∃ y, y = ians x 5 := ⟨_, rfl⟩
        have T2 := Lib.hid (show ∀ W, Calls _ _ _ W (fun e w' => ∃ r, e = .returned (.tuple #[r, errV 5]) ∧ IsInts w' r x' ∧ Below W.heap.size W w') by rw [hx']; exact T2.out)
        rw [← hx'] at hr7
        clear hx'
        go_wp2_with fail
        refine (T2.out _).mono ?_
        rintro e w8 ⟨r8, rfl, hr8, hb8⟩
        have hbw8 := hbw3.trans (hb8.mono hbw3.size)
        have hr7 := hr7.mono hb8
        clear hb8 T2
        go_wp2_with fail
        refine (ints_yes 5 _ _ x' _ (hg.mono hbw8) hr8 hr7).mono ?_
        rintro e w9 ⟨rfl, hb9⟩
        have hbw9 := hbw8.trans (hb9.mono hbw8.size)
        clear hb9
        go_wp2_with fail
        go_ret
        exact ⟨rfl, hbw9⟩
      obtain ⟨q, rfl⟩ := Int.eq_ofNat_of_zero_le (Int.not_lt.1 c4)
      clear c4
      have HC := Lib.hid (fun W => fact_ok m hm W)
      obtain ⟨F, hF⟩ : ∃ F, F = fac m := ⟨_, rfl⟩
      rw [← hF] at HC HU
      have HF := Lib.hid hF
      clear hF
      by_cases c5 : F ≤ q
      · have hu : unErr (m : Int) (q : Int) = 5 := by rw [HU.out, if_pos (.inr (by omega))]
        have f1 : decide (F ≤ q) = true := by simpa using c5
        clear c5
        obtain rfl : j = 5 := HJ.out.trans hu
        clear hu
        have hr7 : IsInts w3 (.slice none 0 0) (ians x 5) := ints_none _
        obtain ⟨x', hx'⟩ : ∃ y, y = ians x 5 := ⟨_, rfl⟩
        have T2 := Lib.hid (show ∀ W, Calls _ _ _ W (fun e w' => ∃ r, e = .returned (.tuple #[r, errV 5]) ∧ IsInts w' r x' ∧ Below W.heap.size W w') by rw [hx']; exact T2.out)
        rw [← hx'] at hr7
        clear hx'
        go_wp2_with fail
        refine (HC.out _).mono ?_
        rintro e w4 ⟨rfl, rfl⟩
        clear HC
        go_wp2_with fail
        refine (T2.out _).mono ?_
        rintro e w8 ⟨r8, rfl, hr8, hb8⟩
        have hbw8 := hbw3.trans (hb8.mono hbw3.size)
        have hr7 := hr7.mono hb8
        clear hb8 T2
        go_wp2_with fail
        refine (ints_yes 5 _ _ x' _ (hg.mono hbw8) hr8 hr7).mono ?_
        rintro e w9 ⟨rfl, hb9⟩
        have hbw9 := hbw8.trans (hb9.mono hbw8.size)
        clear hb9
        go_wp2_with fail
        go_ret
        exact ⟨rfl, hbw9⟩
      · have hu : unErr (m : Int) (q : Int) = 0 := by rw [HU.out, if_neg (by omega)]
        have f1 : decide (F ≤ q) = false := by simpa using c5
        have HQ := Lib.hid (show q < fac m by rw [← HF.out]; omega)
        obtain rfl : j = 0 := HJ.out.trans hu
        clear hu c5
        go_wp2_with fail
        refine (HC.out _).mono ?_
        rintro e w4 ⟨rfl, rfl⟩
        clear HC
        go_wp2_with fail
        refine (unranked_ok m q _ hm HQ.out).mono ?_
        rintro e w5 ⟨r5, rfl, hr5, hb5⟩
        have hbw5 := hbw3.trans (hb5.mono hbw3.size)
        have hr7 : IsInts w5 r5 x := by rw [HX.out]; exact hr5
        obtain ⟨x', hx'⟩ : ∃ y, y = ians x 0 := ⟨_, rfl⟩
        have T2 := Lib.hid (show ∀ W, Calls _ _ _ W (fun e w' => ∃ r, e = .returned (.tuple #[r, errV 0]) ∧ IsInts w' r x' ∧ Below W.heap.size W w') by rw [hx']; exact T2.out)
        have hr7 : IsInts w5 r5 x' := by rw [hx']; exact hr7
        clear hx' hr5 hb5
        go_wp2_with fail
        refine (T2.out _).mono ?_
        rintro e w8 ⟨r8, rfl, hr8, hb8⟩
        have hbw8 := hbw5.trans (hb8.mono hbw5.size)
        have hr7 := hr7.mono hb8
        clear hb8 T2
        go_wp2_with fail
        refine (ints_yes 0 _ _ x' _ (hg.mono hbw8) hr8 hr7).mono ?_
        rintro e w9 ⟨rfl, hb9⟩
        have hbw9 := hbw8.trans (hb9.mono hbw8.size)
        clear hb9
        go_wp2_with fail
        go_ret
        exact ⟨rfl, hbw9⟩
    · have e1 : decide ((12 : Int) < (p.length : Int)) = false := by simp; omega
      have e1' : decide (12 < p.length) = false := by simpa using c2
      obtain rfl : k = 0 := by rw [HK.out]; unfold rankErr; rw [if_neg (fun h => h ho.symm), if_neg c2]
      have C := (show Calls _ 28 #[.slice A p.length ca] w (fun e w' => e = .returned (.int .i64 R) ∧ Below w.heap.size w w') by
        obtain ⟨t, rfl, ht, hl⟩ := rankErr_zero HK.out.symm
        have hR := HR.out
        unfold rankV at hR
        rw [if_pos HK.out.symm, toNat_ints] at hR
        rw [hR]
        exact ranked_ok _ t w HP.out ht hl)
      have C := Lib.hid C
      clear c2 ho T1
      have T1 := Lib.hid (fun W (h : Below w.heap.size w W) => (show Calls _ 29 #[.slice A p.length ca] W (fun e w' => e = .returned (.tuple #[.int .i64 R, errV 0]) ∧ Below W.heap.size W w') by
        have := rank_told _ p W (HP.out.mono h)
        rw [← HR.out, ← HK.out] at this
        exact this))
      go_wp2_with fail
      refine C.out.mono ?_
      rintro e w1 ⟨rfl, hbw1⟩
      clear C
      go_wp2_with fail
      refine (T1.out _ hbw1).mono ?_
      rintro e w2 ⟨rfl, hb2⟩
      have hbw2 := hbw1.trans (hb2.mono hbw1.size)
      clear hb2 T1
      go_wp2_with fail
      refine (error_any 0 0 _ (hg.mono hbw2)).mono ?_
      rintro e w3 ⟨r, rfl, hr, hb3⟩
      obtain rfl : r = true := hr.2 rfl
      have hbw3 := hbw2.trans (hb3.mono hbw2.size)
      clear hr hb3 hbw2
      skip
      by_cases c2 : n < 0
      · have hu : unErr n K = 6 := by unfold unErr; rw [if_pos c2]
        have f1 : decide (n < 0) = true := by simpa using c2
        clear c2
        obtain rfl : j = 6 := HJ.out.trans hu
        clear hu
        have hr7 : IsInts w3 (.slice none 0 0) (ians x 6) := ints_none _
        obtain ⟨x', hx'⟩ : ∃ y, y = ians x 6 := ⟨_, rfl⟩
        have T2 := Lib.hid (show ∀ W, Calls _ _ _ W (fun e w' => ∃ r, e = .returned (.tuple #[r, errV 6]) ∧ IsInts w' r x' ∧ Below W.heap.size W w') by rw [hx']; exact T2.out)
        rw [← hx'] at hr7
        clear hx'
        go_wp2_with fail
        refine (T2.out _).mono ?_
        rintro e w8 ⟨r8, rfl, hr8, hb8⟩
        have hbw8 := hbw3.trans (hb8.mono hbw3.size)
        have hr7 := hr7.mono hb8
        clear hb8 T2
        go_wp2_with fail
        refine (ints_yes 6 _ _ x' _ (hg.mono hbw8) hr8 hr7).mono ?_
        rintro e w9 ⟨rfl, hb9⟩
        have hbw9 := hbw8.trans (hb9.mono hbw8.size)
        clear hb9
        go_wp2_with fail
        go_ret
        exact ⟨rfl, hbw9⟩
      by_cases c3 : 12 < n
      · have hu : unErr n K = 7 := by unfold unErr; rw [if_neg c2, if_pos c3]
        have f1 : decide (n < 0) = false := by simpa using c2
        have e2 : decide (12 < n) = true := by simpa using c3
        clear c2 c3
        obtain rfl : j = 7 := HJ.out.trans hu
        clear hu
        have hr7 : IsInts w3 (.slice none 0 0) (ians x 7) := ints_none _
        obtain ⟨x', hx'⟩ : ∃ y, y = ians x 7 := ⟨_, rfl⟩
        have T2 := Lib.hid (show ∀ W, Calls _ _ _ W (fun e w' => ∃ r, e = .returned (.tuple #[r, errV 7]) ∧ IsInts w' r x' ∧ Below W.heap.size W w') by rw [hx']; exact T2.out)
        rw [← hx'] at hr7
        clear hx'
        go_wp2_with fail
        refine (T2.out _).mono ?_
        rintro e w8 ⟨r8, rfl, hr8, hb8⟩
        have hbw8 := hbw3.trans (hb8.mono hbw3.size)
        have hr7 := hr7.mono hb8
        clear hb8 T2
        go_wp2_with fail
        refine (ints_yes 7 _ _ x' _ (hg.mono hbw8) hr8 hr7).mono ?_
        rintro e w9 ⟨rfl, hb9⟩
        have hbw9 := hbw8.trans (hb9.mono hbw8.size)
        clear hb9
        go_wp2_with fail
        go_ret
        exact ⟨rfl, hbw9⟩
      obtain ⟨m, rfl⟩ := Int.eq_ofNat_of_zero_le (Int.not_lt.1 c2)
      have hm : m ≤ 12 := by omega
      have e3 : decide ((12 : Int) < (m : Int)) = false := by simp; omega
      have e4 : ¬ 12 < m := by omega
      have HU := Lib.hid (show unErr (m : Int) K = if K < 0 ∨ ((fac m : Nat) : Int) ≤ K then 5 else 0 by unfold unErr; rw [if_neg c2, if_neg c3]; simp)
      clear c2 c3
      by_cases c4 : K < 0
      · have hu : unErr (m : Int) K = 5 := by rw [HU.out, if_pos (.inl c4)]
        have f1 : decide (K < 0) = true := by simpa using c4
        clear c4
        obtain rfl : j = 5 := HJ.out.trans hu
        clear hu
        have hr7 : IsInts w3 (.slice none 0 0) (ians x 5) := ints_none _
        obtain ⟨x', hx'⟩ : ∃ y, y = ians x 5 := ⟨_, rfl⟩
        have T2 := Lib.hid (show ∀ W, Calls _ _ _ W (fun e w' => ∃ r, e = .returned (.tuple #[r, errV 5]) ∧ IsInts w' r x' ∧ Below W.heap.size W w') by rw [hx']; exact T2.out)
        rw [← hx'] at hr7
        clear hx'
        go_wp2_with fail
        refine (T2.out _).mono ?_
        rintro e w8 ⟨r8, rfl, hr8, hb8⟩
        have hbw8 := hbw3.trans (hb8.mono hbw3.size)
        have hr7 := hr7.mono hb8
        clear hb8 T2
        go_wp2_with fail
        refine (ints_yes 5 _ _ x' _ (hg.mono hbw8) hr8 hr7).mono ?_
        rintro e w9 ⟨rfl, hb9⟩
        have hbw9 := hbw8.trans (hb9.mono hbw8.size)
        clear hb9
        go_wp2_with fail
        go_ret
        exact ⟨rfl, hbw9⟩
      obtain ⟨q, rfl⟩ := Int.eq_ofNat_of_zero_le (Int.not_lt.1 c4)
      clear c4
      have HC := Lib.hid (fun W => fact_ok m hm W)
      obtain ⟨F, hF⟩ : ∃ F, F = fac m := ⟨_, rfl⟩
      rw [← hF] at HC HU
      have HF := Lib.hid hF
      clear hF
      by_cases c5 : F ≤ q
      · have hu : unErr (m : Int) (q : Int) = 5 := by rw [HU.out, if_pos (.inr (by omega))]
        have f1 : decide (F ≤ q) = true := by simpa using c5
        clear c5
        obtain rfl : j = 5 := HJ.out.trans hu
        clear hu
        have hr7 : IsInts w3 (.slice none 0 0) (ians x 5) := ints_none _
        obtain ⟨x', hx'⟩ : ∃ y, y = ians x 5 := ⟨_, rfl⟩
        have T2 := Lib.hid (show ∀ W, Calls _ _ _ W (fun e w' => ∃ r, e = .returned (.tuple #[r, errV 5]) ∧ IsInts w' r x' ∧ Below W.heap.size W w') by rw [hx']; exact T2.out)
        rw [← hx'] at hr7
        clear hx'
        go_wp2_with fail
        refine (HC.out _).mono ?_
        rintro e w4 ⟨rfl, rfl⟩
        clear HC
        go_wp2_with fail
        refine (T2.out _).mono ?_
        rintro e w8 ⟨r8, rfl, hr8, hb8⟩
        have hbw8 := hbw3.trans (hb8.mono hbw3.size)
        have hr7 := hr7.mono hb8
        clear hb8 T2
        go_wp2_with fail
        refine (ints_yes 5 _ _ x' _ (hg.mono hbw8) hr8 hr7).mono ?_
        rintro e w9 ⟨rfl, hb9⟩
        have hbw9 := hbw8.trans (hb9.mono hbw8.size)
        clear hb9
        go_wp2_with fail
        go_ret
        exact ⟨rfl, hbw9⟩
      · have hu : unErr (m : Int) (q : Int) = 0 := by rw [HU.out, if_neg (by omega)]
        have f1 : decide (F ≤ q) = false := by simpa using c5
        have HQ := Lib.hid (show q < fac m by rw [← HF.out]; omega)
        obtain rfl : j = 0 := HJ.out.trans hu
        clear hu c5
        go_wp2_with fail
        refine (HC.out _).mono ?_
        rintro e w4 ⟨rfl, rfl⟩
        clear HC
        go_wp2_with fail
        refine (unranked_ok m q _ hm HQ.out).mono ?_
        rintro e w5 ⟨r5, rfl, hr5, hb5⟩
        have hbw5 := hbw3.trans (hb5.mono hbw3.size)
        have hr7 : IsInts w5 r5 x := by rw [HX.out]; exact hr5
        obtain ⟨x', hx'⟩ : ∃ y, y = ians x 0 := ⟨_, rfl⟩
        have T2 := Lib.hid (show ∀ W, Calls _ _ _ W (fun e w' => ∃ r, e = .returned (.tuple #[r, errV 0]) ∧ IsInts w' r x' ∧ Below W.heap.size W w') by rw [hx']; exact T2.out)
        have hr7 : IsInts w5 r5 x' := by rw [hx']; exact hr7
        clear hx' hr5 hb5
        go_wp2_with fail
        refine (T2.out _).mono ?_
        rintro e w8 ⟨r8, rfl, hr8, hb8⟩
        have hbw8 := hbw5.trans (hb8.mono hbw5.size)
        have hr7 := hr7.mono hb8
        clear hb8 T2
        go_wp2_with fail
        refine (ints_yes 0 _ _ x' _ (hg.mono hbw8) hr8 hr7).mono ?_
        rintro e w9 ⟨rfl, hb9⟩
        have hbw9 := hbw8.trans (hb9.mono hbw8.size)
        clear hb9
        go_wp2_with fail
        go_ret
        exact ⟨rfl, hbw9⟩
  · have e0 : (o == 0) = false := by simp [c1]
    obtain rfl : k = o := by rw [HK.out]; unfold rankErr; rw [if_pos (by rw [← ho]; exact c1), ho]
    have hR0 : R = 0 := by rw [HR.out]; unfold rankV; rw [if_neg (by rw [← HK.out]; exact c1)]
    subst hR0
    have hbw1 := Below.refl w.heap.size w
    clear c1 ho
    go_wp2_with fail
    refine T1.out.mono ?_
    rintro e w2 ⟨rfl, hb2⟩
    have hbw2 := hbw1.trans (hb2.mono hbw1.size)
    clear hb2 T1
    go_wp2_with fail
    refine (error_any k k _ (hg.mono hbw2)).mono ?_
    rintro e w3 ⟨r, rfl, hr, hb3⟩
    obtain rfl : r = true := hr.2 rfl
    have hbw3 := hbw2.trans (hb3.mono hbw2.size)
    clear hr hb3 hbw2
    skip
    by_cases c2 : n < 0
    · have hu : unErr n K = 6 := by unfold unErr; rw [if_pos c2]
      have f1 : decide (n < 0) = true := by simpa using c2
      clear c2
      obtain rfl : j = 6 := HJ.out.trans hu
      clear hu
      have hr7 : IsInts w3 (.slice none 0 0) (ians x 6) := ints_none _
      obtain ⟨x', hx'⟩ : ∃ y, y = ians x 6 := ⟨_, rfl⟩
      have T2 := Lib.hid (show ∀ W, Calls _ _ _ W (fun e w' => ∃ r, e = .returned (.tuple #[r, errV 6]) ∧ IsInts w' r x' ∧ Below W.heap.size W w') by rw [hx']; exact T2.out)
      rw [← hx'] at hr7
      clear hx'
      go_wp2_with fail
      refine (T2.out _).mono ?_
      rintro e w8 ⟨r8, rfl, hr8, hb8⟩
      have hbw8 := hbw3.trans (hb8.mono hbw3.size)
      have hr7 := hr7.mono hb8
      clear hb8 T2
      go_wp2_with fail
      refine (ints_yes 6 _ _ x' _ (hg.mono hbw8) hr8 hr7).mono ?_
      rintro e w9 ⟨rfl, hb9⟩
      have hbw9 := hbw8.trans (hb9.mono hbw8.size)
      clear hb9
      go_wp2_with fail
      go_ret
      exact ⟨rfl, hbw9⟩
    by_cases c3 : 12 < n
    · have hu : unErr n K = 7 := by unfold unErr; rw [if_neg c2, if_pos c3]
      have f1 : decide (n < 0) = false := by simpa using c2
      have e2 : decide (12 < n) = true := by simpa using c3
      clear c2 c3
      obtain rfl : j = 7 := HJ.out.trans hu
      clear hu
      have hr7 : IsInts w3 (.slice none 0 0) (ians x 7) := ints_none _
      obtain ⟨x', hx'⟩ : ∃ y, y = ians x 7 := ⟨_, rfl⟩
      have T2 := Lib.hid (show ∀ W, Calls _ _ _ W (fun e w' => ∃ r, e = .returned (.tuple #[r, errV 7]) ∧ IsInts w' r x' ∧ Below W.heap.size W w') by rw [hx']; exact T2.out)
      rw [← hx'] at hr7
      clear hx'
      go_wp2_with fail
      refine (T2.out _).mono ?_
      rintro e w8 ⟨r8, rfl, hr8, hb8⟩
      have hbw8 := hbw3.trans (hb8.mono hbw3.size)
      have hr7 := hr7.mono hb8
      clear hb8 T2
      go_wp2_with fail
      refine (ints_yes 7 _ _ x' _ (hg.mono hbw8) hr8 hr7).mono ?_
      rintro e w9 ⟨rfl, hb9⟩
      have hbw9 := hbw8.trans (hb9.mono hbw8.size)
      clear hb9
      go_wp2_with fail
      go_ret
      exact ⟨rfl, hbw9⟩
    obtain ⟨m, rfl⟩ := Int.eq_ofNat_of_zero_le (Int.not_lt.1 c2)
    have hm : m ≤ 12 := by omega
    have e3 : decide ((12 : Int) < (m : Int)) = false := by simp; omega
    have e4 : ¬ 12 < m := by omega
    have HU := Lib.hid (show unErr (m : Int) K = if K < 0 ∨ ((fac m : Nat) : Int) ≤ K then 5 else 0 by unfold unErr; rw [if_neg c2, if_neg c3]; simp)
    clear c2 c3
    by_cases c4 : K < 0
    · have hu : unErr (m : Int) K = 5 := by rw [HU.out, if_pos (.inl c4)]
      have f1 : decide (K < 0) = true := by simpa using c4
      clear c4
      obtain rfl : j = 5 := HJ.out.trans hu
      clear hu
      have hr7 : IsInts w3 (.slice none 0 0) (ians x 5) := ints_none _
      obtain ⟨x', hx'⟩ : ∃ y, y = ians x 5 := ⟨_, rfl⟩
      have T2 := Lib.hid (show ∀ W, Calls _ _ _ W (fun e w' => ∃ r, e = .returned (.tuple #[r, errV 5]) ∧ IsInts w' r x' ∧ Below W.heap.size W w') by rw [hx']; exact T2.out)
      rw [← hx'] at hr7
      clear hx'
      go_wp2_with fail
      refine (T2.out _).mono ?_
      rintro e w8 ⟨r8, rfl, hr8, hb8⟩
      have hbw8 := hbw3.trans (hb8.mono hbw3.size)
      have hr7 := hr7.mono hb8
      clear hb8 T2
      go_wp2_with fail
      refine (ints_yes 5 _ _ x' _ (hg.mono hbw8) hr8 hr7).mono ?_
      rintro e w9 ⟨rfl, hb9⟩
      have hbw9 := hbw8.trans (hb9.mono hbw8.size)
      clear hb9
      go_wp2_with fail
      go_ret
      exact ⟨rfl, hbw9⟩
    obtain ⟨q, rfl⟩ := Int.eq_ofNat_of_zero_le (Int.not_lt.1 c4)
    clear c4
    have HC := Lib.hid (fun W => fact_ok m hm W)
    obtain ⟨F, hF⟩ : ∃ F, F = fac m := ⟨_, rfl⟩
    rw [← hF] at HC HU
    have HF := Lib.hid hF
    clear hF
    by_cases c5 : F ≤ q
    · have hu : unErr (m : Int) (q : Int) = 5 := by rw [HU.out, if_pos (.inr (by omega))]
      have f1 : decide (F ≤ q) = true := by simpa using c5
      clear c5
      obtain rfl : j = 5 := HJ.out.trans hu
      clear hu
      have hr7 : IsInts w3 (.slice none 0 0) (ians x 5) := ints_none _
      obtain ⟨x', hx'⟩ : ∃ y, y = ians x 5 := ⟨_, rfl⟩
      have T2 := Lib.hid (show ∀ W, Calls _ _ _ W (fun e w' => ∃ r, e = .returned (.tuple #[r, errV 5]) ∧ IsInts w' r x' ∧ Below W.heap.size W w') by rw [hx']; exact T2.out)
      rw [← hx'] at hr7
      clear hx'
      go_wp2_with fail
      refine (HC.out _).mono ?_
      rintro e w4 ⟨rfl, rfl⟩
      clear HC
      go_wp2_with fail
      refine (T2.out _).mono ?_
      rintro e w8 ⟨r8, rfl, hr8, hb8⟩
      have hbw8 := hbw3.trans (hb8.mono hbw3.size)
      have hr7 := hr7.mono hb8
      clear hb8 T2
      go_wp2_with fail
      refine (ints_yes 5 _ _ x' _ (hg.mono hbw8) hr8 hr7).mono ?_
      rintro e w9 ⟨rfl, hb9⟩
      have hbw9 := hbw8.trans (hb9.mono hbw8.size)
      clear hb9
      go_wp2_with fail
      go_ret
      exact ⟨rfl, hbw9⟩
    · have hu : unErr (m : Int) (q : Int) = 0 := by rw [HU.out, if_neg (by omega)]
      have f1 : decide (F ≤ q) = false := by simpa using c5
      have HQ := Lib.hid (show q < fac m by rw [← HF.out]; omega)
      obtain rfl : j = 0 := HJ.out.trans hu
      clear hu c5
      go_wp2_with fail
      refine (HC.out _).mono ?_
      rintro e w4 ⟨rfl, rfl⟩
      clear HC
      go_wp2_with fail
      refine (unranked_ok m q _ hm HQ.out).mono ?_
      rintro e w5 ⟨r5, rfl, hr5, hb5⟩
      have hbw5 := hbw3.trans (hb5.mono hbw3.size)
      have hr7 : IsInts w5 r5 x := by rw [HX.out]; exact hr5
      obtain ⟨x', hx'⟩ : ∃ y, y = ians x 0 := ⟨_, rfl⟩
      have T2 := Lib.hid (show ∀ W, Calls _ _ _ W (fun e w' => ∃ r, e = .returned (.tuple #[r, errV 0]) ∧ IsInts w' r x' ∧ Below W.heap.size W w') by rw [hx']; exact T2.out)
      have hr7 : IsInts w5 r5 x' := by rw [hx']; exact hr7
      clear hx' hr5 hb5
      go_wp2_with fail
      refine (T2.out _).mono ?_
      rintro e w8 ⟨r8, rfl, hr8, hb8⟩
      have hbw8 := hbw5.trans (hb8.mono hbw5.size)
      have hr7 := hr7.mono hb8
      clear hb8 T2
      go_wp2_with fail
      refine (ints_yes 0 _ _ x' _ (hg.mono hbw8) hr8 hr7).mono ?_
      rintro e w9 ⟨rfl, hb9⟩
      have hbw9 := hbw8.trans (hb9.mono hbw8.size)
      clear hb9
      go_wp2_with fail
      go_ret
      exact ⟨rfl, hbw9⟩

end Go.Proofs.YtajcjipabfknhaaDoor
