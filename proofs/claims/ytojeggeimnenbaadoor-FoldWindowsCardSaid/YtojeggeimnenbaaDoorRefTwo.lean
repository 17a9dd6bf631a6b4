/- The walks of the reference's Two and Neutral. Conditions: none but these. -/
import Derived.Test.YtojeggeimnenbaaDoorRefBit
import Derived.Test.YtojeggeimnenbaaDoorRefQuot
import Derived.Test.YtojeggeimnenbaaDoorRefAmong
import Derived.Test.YtojeggeimnenbaaDoorFubini
set_option linter.unusedSimpArgs false
set_option linter.unusedVariables false
namespace Go.Proofs.YtojeggeimnenbaaDoor
open Go Go.RowKit Go.Proofs.YtojeggeimnenbaaDoor.P
set_option maxRecDepth 100000 in
set_option maxHeartbeats 4000000 in
theorem chosen_low (f a b : Int) (w : World) (h : f = 6 ∨ f = 7 ∨ f = 14 ∨ f = 15) : Calls Tryd.prog 66 #[.int .i64 f, .int .i64 a, .int .i64 b] w fun e w' => e = .returned (.int .i64 (twoV f a b)) ∧ w = w' := by
  rcases h with h | h | h | h <;> subst h
  · rw [two_max]
    rcases Int.lt_or_le a b with h1 | h1
    · have d1 : decide (a < b) = true := by simp; omega
      have HV := Lib.hid (show max a b = b by omega)
      clear h1
      go_enter Tryd.func66, Tryd.ntmps66
      go_wp2_with fail
      go_ret
      exact ⟨by rw [HV.out]; rfl, rfl⟩
    · have d1 : decide (a < b) = false := by simp; omega
      have HV := Lib.hid (show max a b = a by omega)
      clear h1
      go_enter Tryd.func66, Tryd.ntmps66
      go_wp2_with fail
      go_ret
      exact ⟨by rw [HV.out]; rfl, rfl⟩
  · rw [two_min]
    rcases Int.lt_or_le a b with h1 | h1
    · have d1 : decide (a < b) = true := by simp; omega
      have HV := Lib.hid (show min a b = a by omega)
      clear h1
      go_enter Tryd.func66, Tryd.ntmps66
      go_wp2_with fail
      go_ret
      exact ⟨by rw [HV.out]; rfl, rfl⟩
    · have d1 : decide (a < b) = false := by simp; omega
      have HV := Lib.hid (show min a b = b by omega)
      clear h1
      go_enter Tryd.func66, Tryd.ntmps66
      go_wp2_with fail
      go_ret
      exact ⟨by rw [HV.out]; rfl, rfl⟩
  · rw [two_and]
    have HB := Lib.hid (bitwise_any a b true w)
    go_enter Tryd.func66, Tryd.ntmps66
    go_wp2_with fail
    refine HB.out.mono ?_
    rintro e w1 ⟨rfl, rfl⟩
    go_wp2_with fail
    go_ret
    exact ⟨rfl, rfl⟩
  · rw [two_or]
    have HB := Lib.hid (bitwise_any a b false w)
    go_enter Tryd.func66, Tryd.ntmps66
    go_wp2_with fail
    refine HB.out.mono ?_
    rintro e w1 ⟨rfl, rfl⟩
    go_wp2_with fail
    go_ret
    exact ⟨rfl, rfl⟩
set_option maxRecDepth 100000 in
set_option maxHeartbeats 4000000 in
theorem chosen_8 (a b : Int) (w : World) : Calls Tryd.prog 66 #[.int .i64 8, .int .i64 a, .int .i64 b] w fun e w' => e = .returned (.int .i64 (bitV (a = b))) ∧ w = w' := by
  have HT := Lib.hid (fun p => truth_any p w)
  rcases Int.lt_trichotomy a b with h1 | h1 | h1
  · have HV := Lib.hid (show bitV (a = b) = 0 by unfold bitV; rw [if_neg (by omega)])
    have d1 : decide (a < b) = true := by simp; omega
    have d2 : (a == b) = false := by simp; omega
    clear h1
    go_enter Tryd.func66, Tryd.ntmps66
    go_wp2_with fail
    refine (HT.out _).mono ?_
    rintro e w1 ⟨rfl, rfl⟩
    go_wp2_with fail
    go_ret
    exact ⟨by rw [HV.out]; rfl, rfl⟩
  · have HV := Lib.hid (show bitV (a = b) = 1 by unfold bitV; rw [if_pos (by omega)])
    subst h1
    have d1 : decide (a < a) = false := by simp
    have d2 : (a == a) = true := by simp
    go_enter Tryd.func66, Tryd.ntmps66
    go_wp2_with fail
    refine (HT.out _).mono ?_
    rintro e w1 ⟨rfl, rfl⟩
    go_wp2_with fail
    go_ret
    exact ⟨by rw [HV.out]; rfl, rfl⟩
  · have HV := Lib.hid (show bitV (a = b) = 0 by unfold bitV; rw [if_neg (by omega)])
    have d1 : decide (a < b) = false := by simp; omega
    have d2 : (a == b) = false := by simp; omega
    clear h1
    go_enter Tryd.func66, Tryd.ntmps66
    go_wp2_with fail
    refine (HT.out _).mono ?_
    rintro e w1 ⟨rfl, rfl⟩
    go_wp2_with fail
    go_ret
    exact ⟨by rw [HV.out]; rfl, rfl⟩
set_option maxRecDepth 100000 in
set_option maxHeartbeats 4000000 in
theorem chosen_9 (a b : Int) (w : World) : Calls Tryd.prog 66 #[.int .i64 9, .int .i64 a, .int .i64 b] w fun e w' => e = .returned (.int .i64 (bitV (a ≠ b))) ∧ w = w' := by
  have HT := Lib.hid (fun p => truth_any p w)
  rcases Int.lt_trichotomy a b with h1 | h1 | h1
  · have HV := Lib.hid (show bitV (a ≠ b) = 1 by unfold bitV; rw [if_pos (by omega)])
    have d1 : decide (a < b) = true := by simp; omega
    have d2 : (a == b) = false := by simp; omega
    clear h1
    go_enter Tryd.func66, Tryd.ntmps66
    go_wp2_with fail
    refine (HT.out _).mono ?_
    rintro e w1 ⟨rfl, rfl⟩
    go_wp2_with fail
    go_ret
    exact ⟨by rw [HV.out]; rfl, rfl⟩
  · have HV := Lib.hid (show bitV (a ≠ b) = 0 by unfold bitV; rw [if_neg (by omega)])
    subst h1
    have d1 : decide (a < a) = false := by simp
    have d2 : (a == a) = true := by simp
    go_enter Tryd.func66, Tryd.ntmps66
    go_wp2_with fail
    refine (HT.out _).mono ?_
    rintro e w1 ⟨rfl, rfl⟩
    go_wp2_with fail
    go_ret
    exact ⟨by rw [HV.out]; rfl, rfl⟩
  · have HV := Lib.hid (show bitV (a ≠ b) = 1 by unfold bitV; rw [if_pos (by omega)])
    have d1 : decide (a < b) = false := by simp; omega
    have d2 : (a == b) = false := by simp; omega
    clear h1
    go_enter Tryd.func66, Tryd.ntmps66
    go_wp2_with fail
    refine (HT.out _).mono ?_
    rintro e w1 ⟨rfl, rfl⟩
    go_wp2_with fail
    go_ret
    exact ⟨by rw [HV.out]; rfl, rfl⟩
set_option maxRecDepth 100000 in
set_option maxHeartbeats 4000000 in
theorem chosen_10 (a b : Int) (w : World) : Calls Tryd.prog 66 #[.int .i64 10, .int .i64 a, .int .i64 b] w fun e w' => e = .returned (.int .i64 (bitV (a < b))) ∧ w = w' := by
  have HT := Lib.hid (fun p => truth_any p w)
  rcases Int.lt_trichotomy a b with h1 | h1 | h1
  · have HV := Lib.hid (show bitV (a < b) = 1 by unfold bitV; rw [if_pos (by omega)])
    have d1 : decide (a < b) = true := by simp; omega
    have d2 : (a == b) = false := by simp; omega
    clear h1
    go_enter Tryd.func66, Tryd.ntmps66
    go_wp2_with fail
    refine (HT.out _).mono ?_
    rintro e w1 ⟨rfl, rfl⟩
    go_wp2_with fail
    go_ret
    exact ⟨by rw [HV.out]; rfl, rfl⟩
  · have HV := Lib.hid (show bitV (a < b) = 0 by unfold bitV; rw [if_neg (by omega)])
    subst h1
    have d1 : decide (a < a) = false := by simp
    have d2 : (a == a) = true := by simp
    go_enter Tryd.func66, Tryd.ntmps66
    go_wp2_with fail
    refine (HT.out _).mono ?_
    rintro e w1 ⟨rfl, rfl⟩
    go_wp2_with fail
    go_ret
    exact ⟨by rw [HV.out]; rfl, rfl⟩
  · have HV := Lib.hid (show bitV (a < b) = 0 by unfold bitV; rw [if_neg (by omega)])
    have d1 : decide (a < b) = false := by simp; omega
    have d2 : (a == b) = false := by simp; omega
    clear h1
    go_enter Tryd.func66, Tryd.ntmps66
    go_wp2_with fail
    refine (HT.out _).mono ?_
    rintro e w1 ⟨rfl, rfl⟩
    go_wp2_with fail
    go_ret
    exact ⟨by rw [HV.out]; rfl, rfl⟩
set_option maxRecDepth 100000 in
set_option maxHeartbeats 4000000 in
theorem chosen_11 (a b : Int) (w : World) : Calls Tryd.prog 66 #[.int .i64 11, .int .i64 a, .int .i64 b] w fun e w' => e = .returned (.int .i64 (bitV (a ≤ b))) ∧ w = w' := by
  have HT := Lib.hid (fun p => truth_any p w)
  rcases Int.lt_trichotomy a b with h1 | h1 | h1
  · have HV := Lib.hid (show bitV (a ≤ b) = 1 by unfold bitV; rw [if_pos (by omega)])
    have d1 : decide (a < b) = true := by simp; omega
    have d2 : (a == b) = false := by simp; omega
    clear h1
    go_enter Tryd.func66, Tryd.ntmps66
    go_wp2_with fail
    refine (HT.out _).mono ?_
    rintro e w1 ⟨rfl, rfl⟩
    go_wp2_with fail
    go_ret
    exact ⟨by rw [HV.out]; rfl, rfl⟩
  · have HV := Lib.hid (show bitV (a ≤ b) = 1 by unfold bitV; rw [if_pos (by omega)])
    subst h1
    have d1 : decide (a < a) = false := by simp
    have d2 : (a == a) = true := by simp
    go_enter Tryd.func66, Tryd.ntmps66
    go_wp2_with fail
    refine (HT.out _).mono ?_
    rintro e w1 ⟨rfl, rfl⟩
    go_wp2_with fail
    go_ret
    exact ⟨by rw [HV.out]; rfl, rfl⟩
  · have HV := Lib.hid (show bitV (a ≤ b) = 0 by unfold bitV; rw [if_neg (by omega)])
    have d1 : decide (a < b) = false := by simp; omega
    have d2 : (a == b) = false := by simp; omega
    clear h1
    go_enter Tryd.func66, Tryd.ntmps66
    go_wp2_with fail
    refine (HT.out _).mono ?_
    rintro e w1 ⟨rfl, rfl⟩
    go_wp2_with fail
    go_ret
    exact ⟨by rw [HV.out]; rfl, rfl⟩
set_option maxRecDepth 100000 in
set_option maxHeartbeats 4000000 in
theorem chosen_12 (a b : Int) (w : World) : Calls Tryd.prog 66 #[.int .i64 12, .int .i64 a, .int .i64 b] w fun e w' => e = .returned (.int .i64 (bitV (b ≤ a))) ∧ w = w' := by
  have HT := Lib.hid (fun p => truth_any p w)
  rcases Int.lt_trichotomy a b with h1 | h1 | h1
  · have HV := Lib.hid (show bitV (b ≤ a) = 0 by unfold bitV; rw [if_neg (by omega)])
    have d1 : decide (a < b) = true := by simp; omega
    have d2 : (a == b) = false := by simp; omega
    clear h1
    go_enter Tryd.func66, Tryd.ntmps66
    go_wp2_with fail
    refine (HT.out _).mono ?_
    rintro e w1 ⟨rfl, rfl⟩
    go_wp2_with fail
    go_ret
    exact ⟨by rw [HV.out]; rfl, rfl⟩
  · have HV := Lib.hid (show bitV (b ≤ a) = 1 by unfold bitV; rw [if_pos (by omega)])
    subst h1
    have d1 : decide (a < a) = false := by simp
    have d2 : (a == a) = true := by simp
    go_enter Tryd.func66, Tryd.ntmps66
    go_wp2_with fail
    refine (HT.out _).mono ?_
    rintro e w1 ⟨rfl, rfl⟩
    go_wp2_with fail
    go_ret
    exact ⟨by rw [HV.out]; rfl, rfl⟩
  · have HV := Lib.hid (show bitV (b ≤ a) = 1 by unfold bitV; rw [if_pos (by omega)])
    have d1 : decide (a < b) = false := by simp; omega
    have d2 : (a == b) = false := by simp; omega
    clear h1
    go_enter Tryd.func66, Tryd.ntmps66
    go_wp2_with fail
    refine (HT.out _).mono ?_
    rintro e w1 ⟨rfl, rfl⟩
    go_wp2_with fail
    go_ret
    exact ⟨by rw [HV.out]; rfl, rfl⟩
set_option maxRecDepth 100000 in
set_option maxHeartbeats 4000000 in
theorem chosen_13 (a b : Int) (w : World) : Calls Tryd.prog 66 #[.int .i64 13, .int .i64 a, .int .i64 b] w fun e w' => e = .returned (.int .i64 (bitV (b < a))) ∧ w = w' := by
  have HT := Lib.hid (fun p => truth_any p w)
  rcases Int.lt_trichotomy a b with h1 | h1 | h1
  · have HV := Lib.hid (show bitV (b < a) = 0 by unfold bitV; rw [if_neg (by omega)])
    have d1 : decide (a < b) = true := by simp; omega
    have d2 : (a == b) = false := by simp; omega
    clear h1
    go_enter Tryd.func66, Tryd.ntmps66
    go_wp2_with fail
    refine (HT.out _).mono ?_
    rintro e w1 ⟨rfl, rfl⟩
    go_wp2_with fail
    go_ret
    exact ⟨by rw [HV.out]; rfl, rfl⟩
  · have HV := Lib.hid (show bitV (b < a) = 0 by unfold bitV; rw [if_neg (by omega)])
    subst h1
    have d1 : decide (a < a) = false := by simp
    have d2 : (a == a) = true := by simp
    go_enter Tryd.func66, Tryd.ntmps66
    go_wp2_with fail
    refine (HT.out _).mono ?_
    rintro e w1 ⟨rfl, rfl⟩
    go_wp2_with fail
    go_ret
    exact ⟨by rw [HV.out]; rfl, rfl⟩
  · have HV := Lib.hid (show bitV (b < a) = 1 by unfold bitV; rw [if_pos (by omega)])
    have d1 : decide (a < b) = false := by simp; omega
    have d2 : (a == b) = false := by simp; omega
    clear h1
    go_enter Tryd.func66, Tryd.ntmps66
    go_wp2_with fail
    refine (HT.out _).mono ?_
    rintro e w1 ⟨rfl, rfl⟩
    go_wp2_with fail
    go_ret
    exact ⟨by rw [HV.out]; rfl, rfl⟩
set_option maxRecDepth 100000 in
set_option maxHeartbeats 8000000 in
theorem rtwo_any (f a b : Int) (w : World) (ha : Word a) (hb : Word b) :
    Calls Tryd.prog 51 #[.int .i64 f, .int .i64 a, .int .i64 b] w fun e w' => e = .returned (.tuple #[.int .i64 (twoV f a b), .int .i64 (twoE f a b)]) ∧ w = w' := by
  have HA := Lib.hid ha
  have HB := Lib.hid hb
  clear ha hb
  by_cases h1 : f = 1
  · subst h1
    have HE := Lib.hid (twoE_ok (f := 1) (a := a) (b := b) (by omega) (by omega) (by omega) (by omega))
    have HV := Lib.hid (show twoV 1 a b = wrap64 (a + b) by unfold twoV; simp)
    go_enter Tryd.func51, Tryd.ntmps51
    go_wp2_with fail
    refine bodyPost_ret (v := .tuple #[.int .i64 (wrap64 (a + b)), .int .i64 0]) (by simp [results, Tryd.results51, go_sem]) rfl ?_
    exact ⟨by rw [HV.out, HE.out], rfl⟩
  by_cases h2 : f = 2
  · subst h2
    have HE := Lib.hid (twoE_ok (f := 2) (a := a) (b := b) (by omega) (by omega) (by omega) (by omega))
    have HV := Lib.hid (show twoV 2 a b = wrap64 (a - b) by unfold twoV; simp)
    go_enter Tryd.func51, Tryd.ntmps51
    go_wp2_with fail
    refine bodyPost_ret (v := .tuple #[.int .i64 (wrap64 (a - b)), .int .i64 0]) (by simp [results, Tryd.results51, go_sem]) rfl ?_
    exact ⟨by rw [HV.out, HE.out], rfl⟩
  by_cases h3 : f = 3
  · subst h3
    have HE := Lib.hid (twoE_ok (f := 3) (a := a) (b := b) (by omega) (by omega) (by omega) (by omega))
    have HV := Lib.hid (show twoV 3 a b = wrap64 (a * b) by unfold twoV; simp)
    go_enter Tryd.func51, Tryd.ntmps51
    go_wp2_with fail
    refine bodyPost_ret (v := .tuple #[.int .i64 (wrap64 (a * b)), .int .i64 0]) (by simp [results, Tryd.results51, go_sem]) rfl ?_
    exact ⟨by rw [HV.out, HE.out], rfl⟩
  by_cases h4 : f = 4
  · subst h4
    by_cases hb : b = 0
    · subst hb
      have HV := Lib.hid (show twoV 4 a 0 = 0 by unfold twoV; simp)
      have HE := Lib.hid (show twoE 4 a 0 = 6 by unfold twoE; simp)
      go_enter Tryd.func51, Tryd.ntmps51
      go_wp2_with fail
      refine bodyPost_ret (v := .tuple #[.int .i64 0, .int .i64 6]) (by simp [results, Tryd.results51, go_sem]) rfl ?_
      exact ⟨by rw [HV.out, HE.out], rfl⟩
    have HE := Lib.hid (twoE_ok (f := 4) (a := a) (b := b) (by omega) (by omega) (fun _ => hb) (by omega))
    have HV := Lib.hid (show twoV 4 a b = wrap64 (Int.fdiv a b) by unfold twoV; simp [hb])
    have HQ := Lib.hid (quotient_ok a b w hb HA.out HB.out)
    have d1 : (b == 0) = false := by simpa using hb
    clear hb
    go_enter Tryd.func51, Tryd.ntmps51
    go_wp2_with fail
    refine HQ.out.mono ?_
    rintro e w1 ⟨rfl, rfl⟩
    go_wp2_with fail
    refine bodyPost_ret (v := .tuple #[.int .i64 (wrap64 (Int.fdiv a b)), .int .i64 0]) (by simp [results, Tryd.results51, go_sem]) rfl ?_
    exact ⟨by rw [HV.out, HE.out], rfl⟩
  by_cases h5 : f = 5
  · subst h5
    have HE := Lib.hid (twoE_ok (f := 5) (a := a) (b := b) (by omega) (by omega) (by omega) (by omega))
    by_cases ha : a = 0
    · subst ha
      have HV := Lib.hid (show twoV 5 0 b = b by unfold twoV; simp)
      go_enter Tryd.func51, Tryd.ntmps51
      go_wp2_with fail
      refine bodyPost_ret (v := .tuple #[.int .i64 b, .int .i64 0]) (by simp [results, Tryd.results51, go_sem]) rfl ?_
      exact ⟨by rw [HV.out, HE.out], rfl⟩
    have HV := Lib.hid (show twoV 5 a b = wrap64 (b - wrap64 (a * wrap64 (Int.fdiv b a))) by unfold twoV; simp [ha]; rw [wrap_mul_r]; unfold wrap64; omega)
    have HQ := Lib.hid (quotient_ok b a w ha HB.out HA.out)
    have d1 : (a == 0) = false := by simpa using ha
    clear ha
    go_enter Tryd.func51, Tryd.ntmps51
    go_wp2_with fail
    refine HQ.out.mono ?_
    rintro e w1 ⟨rfl, rfl⟩
    go_wp2_with fail
    refine bodyPost_ret (v := .tuple #[.int .i64 (wrap64 (b - wrap64 (a * wrap64 (Int.fdiv b a)))), .int .i64 0]) (by simp [results, Tryd.results51, go_sem]) rfl ?_
    exact ⟨by rw [HV.out, HE.out], rfl⟩
  by_cases h16 : f = 16
  · subst h16
    by_cases hb : b < 0
    · have HV := Lib.hid (show twoV 16 a b = 0 by unfold twoV; simp [hb])
      have HE := Lib.hid (show twoE 16 a b = 6 by unfold twoE; simp [hb])
      have d1 : decide (b < 0) = true := by simpa using hb
      clear hb
      go_enter Tryd.func51, Tryd.ntmps51
      go_wp2_with fail
      refine bodyPost_ret (v := .tuple #[.int .i64 0, .int .i64 6]) (by simp [results, Tryd.results51, go_sem]) rfl ?_
      exact ⟨by rw [HV.out, HE.out], rfl⟩
    obtain ⟨n, rfl⟩ := Int.eq_ofNat_of_zero_le (Int.not_lt.1 hb)
    have HV := Lib.hid (show twoV 16 a (n : Int) = wrap64 (a ^ n) by unfold twoV; simp [hb])
    have HE := Lib.hid (twoE_ok (f := 16) (a := a) (b := (n : Int)) (by omega) (by omega) (by omega) (fun _ => by omega))
    have HQ := Lib.hid (raised_any a n w (by have := HB.out.2; omega))
    have d1 : decide ((n : Int) < 0) = false := by simp
    clear hb
    go_enter Tryd.func51, Tryd.ntmps51
    go_wp2_with fail
    refine HQ.out.mono ?_
    rintro e w1 ⟨rfl, rfl⟩
    go_wp2_with fail
    refine bodyPost_ret (v := .tuple #[.int .i64 (wrap64 (a ^ n)), .int .i64 0]) (by simp [results, Tryd.results51, go_sem]) rfl ?_
    exact ⟨by rw [HV.out, HE.out], rfl⟩
  by_cases h6 : f = 6
  · subst h6
    have HE := Lib.hid (twoE_ok (f := 6) (a := a) (b := b) (by omega) (by omega) (by omega) (by omega))
    have HQ := Lib.hid (chosen_low 6 a b w (by omega))
    obtain ⟨V, hV⟩ : ∃ V, V = twoV 6 a b := ⟨_, rfl⟩
    rw [← hV] at HQ ⊢
    clear hV
    go_enter Tryd.func51, Tryd.ntmps51
    go_wp2_with fail
    refine HQ.out.mono ?_
    rintro e w1 ⟨rfl, rfl⟩
    go_wp2_with fail
    refine bodyPost_ret (v := .tuple #[.int .i64 V, .int .i64 0]) (by simp [results, Tryd.results51, go_sem]) rfl ?_
    exact ⟨by rw [HE.out], rfl⟩
  by_cases h7 : f = 7
  · subst h7
    have HE := Lib.hid (twoE_ok (f := 7) (a := a) (b := b) (by omega) (by omega) (by omega) (by omega))
    have HQ := Lib.hid (chosen_low 7 a b w (by omega))
    obtain ⟨V, hV⟩ : ∃ V, V = twoV 7 a b := ⟨_, rfl⟩
    rw [← hV] at HQ ⊢
    clear hV
    go_enter Tryd.func51, Tryd.ntmps51
    go_wp2_with fail
    refine HQ.out.mono ?_
    rintro e w1 ⟨rfl, rfl⟩
    go_wp2_with fail
    refine bodyPost_ret (v := .tuple #[.int .i64 V, .int .i64 0]) (by simp [results, Tryd.results51, go_sem]) rfl ?_
    exact ⟨by rw [HE.out], rfl⟩
  by_cases h14 : f = 14
  · subst h14
    have HE := Lib.hid (twoE_ok (f := 14) (a := a) (b := b) (by omega) (by omega) (by omega) (by omega))
    have HQ := Lib.hid (chosen_low 14 a b w (by omega))
    obtain ⟨V, hV⟩ : ∃ V, V = twoV 14 a b := ⟨_, rfl⟩
    rw [← hV] at HQ ⊢
    clear hV
    go_enter Tryd.func51, Tryd.ntmps51
    go_wp2_with fail
    refine HQ.out.mono ?_
    rintro e w1 ⟨rfl, rfl⟩
    go_wp2_with fail
    refine bodyPost_ret (v := .tuple #[.int .i64 V, .int .i64 0]) (by simp [results, Tryd.results51, go_sem]) rfl ?_
    exact ⟨by rw [HE.out], rfl⟩
  by_cases h15 : f = 15
  · subst h15
    have HE := Lib.hid (twoE_ok (f := 15) (a := a) (b := b) (by omega) (by omega) (by omega) (by omega))
    have HQ := Lib.hid (chosen_low 15 a b w (by omega))
    obtain ⟨V, hV⟩ : ∃ V, V = twoV 15 a b := ⟨_, rfl⟩
    rw [← hV] at HQ ⊢
    clear hV
    go_enter Tryd.func51, Tryd.ntmps51
    go_wp2_with fail
    refine HQ.out.mono ?_
    rintro e w1 ⟨rfl, rfl⟩
    go_wp2_with fail
    refine bodyPost_ret (v := .tuple #[.int .i64 V, .int .i64 0]) (by simp [results, Tryd.results51, go_sem]) rfl ?_
    exact ⟨by rw [HE.out], rfl⟩
  by_cases h8 : f = 8
  · subst h8
    have HE := Lib.hid (twoE_ok (f := 8) (a := a) (b := b) (by omega) (by omega) (by omega) (by omega))
    have HQ := Lib.hid (chosen_8 a b w)
    have HV := Lib.hid (show twoV 8 a b = bitV (a = b) by unfold twoV; simp)
    obtain ⟨V, hV⟩ : ∃ V, V = bitV (a = b) := ⟨_, rfl⟩
    rw [← hV] at HQ HV
    clear hV
    go_enter Tryd.func51, Tryd.ntmps51
    go_wp2_with fail
    refine HQ.out.mono ?_
    rintro e w1 ⟨rfl, rfl⟩
    go_wp2_with fail
    refine bodyPost_ret (v := .tuple #[.int .i64 V, .int .i64 0]) (by simp [results, Tryd.results51, go_sem]) rfl ?_
    exact ⟨by rw [HV.out, HE.out], rfl⟩
  by_cases h9 : f = 9
  · subst h9
    have HE := Lib.hid (twoE_ok (f := 9) (a := a) (b := b) (by omega) (by omega) (by omega) (by omega))
    have HQ := Lib.hid (chosen_9 a b w)
    have HV := Lib.hid (show twoV 9 a b = bitV (a ≠ b) by unfold twoV; simp)
    obtain ⟨V, hV⟩ : ∃ V, V = bitV (a ≠ b) := ⟨_, rfl⟩
    rw [← hV] at HQ HV
    clear hV
    go_enter Tryd.func51, Tryd.ntmps51
    go_wp2_with fail
    refine HQ.out.mono ?_
    rintro e w1 ⟨rfl, rfl⟩
    go_wp2_with fail
    refine bodyPost_ret (v := .tuple #[.int .i64 V, .int .i64 0]) (by simp [results, Tryd.results51, go_sem]) rfl ?_
    exact ⟨by rw [HV.out, HE.out], rfl⟩
  by_cases h10 : f = 10
  · subst h10
    have HE := Lib.hid (twoE_ok (f := 10) (a := a) (b := b) (by omega) (by omega) (by omega) (by omega))
    have HQ := Lib.hid (chosen_10 a b w)
    have HV := Lib.hid (show twoV 10 a b = bitV (a < b) by unfold twoV; simp)
    obtain ⟨V, hV⟩ : ∃ V, V = bitV (a < b) := ⟨_, rfl⟩
    rw [← hV] at HQ HV
    clear hV
    go_enter Tryd.func51, Tryd.ntmps51
    go_wp2_with fail
    refine HQ.out.mono ?_
    rintro e w1 ⟨rfl, rfl⟩
    go_wp2_with fail
    refine bodyPost_ret (v := .tuple #[.int .i64 V, .int .i64 0]) (by simp [results, Tryd.results51, go_sem]) rfl ?_
    exact ⟨by rw [HV.out, HE.out], rfl⟩
  by_cases h11 : f = 11
  · subst h11
    have HE := Lib.hid (twoE_ok (f := 11) (a := a) (b := b) (by omega) (by omega) (by omega) (by omega))
    have HQ := Lib.hid (chosen_11 a b w)
    have HV := Lib.hid (show twoV 11 a b = bitV (a ≤ b) by unfold twoV; simp)
    obtain ⟨V, hV⟩ : ∃ V, V = bitV (a ≤ b) := ⟨_, rfl⟩
    rw [← hV] at HQ HV
    clear hV
    go_enter Tryd.func51, Tryd.ntmps51
    go_wp2_with fail
    refine HQ.out.mono ?_
    rintro e w1 ⟨rfl, rfl⟩
    go_wp2_with fail
    refine bodyPost_ret (v := .tuple #[.int .i64 V, .int .i64 0]) (by simp [results, Tryd.results51, go_sem]) rfl ?_
    exact ⟨by rw [HV.out, HE.out], rfl⟩
  by_cases h12 : f = 12
  · subst h12
    have HE := Lib.hid (twoE_ok (f := 12) (a := a) (b := b) (by omega) (by omega) (by omega) (by omega))
    have HQ := Lib.hid (chosen_12 a b w)
    have HV := Lib.hid (show twoV 12 a b = bitV (b ≤ a) by unfold twoV; simp)
    obtain ⟨V, hV⟩ : ∃ V, V = bitV (b ≤ a) := ⟨_, rfl⟩
    rw [← hV] at HQ HV
    clear hV
    go_enter Tryd.func51, Tryd.ntmps51
    go_wp2_with fail
    refine HQ.out.mono ?_
    rintro e w1 ⟨rfl, rfl⟩
    go_wp2_with fail
    refine bodyPost_ret (v := .tuple #[.int .i64 V, .int .i64 0]) (by simp [results, Tryd.results51, go_sem]) rfl ?_
    exact ⟨by rw [HV.out, HE.out], rfl⟩
  by_cases h13 : f = 13
  · subst h13
    have HE := Lib.hid (twoE_ok (f := 13) (a := a) (b := b) (by omega) (by omega) (by omega) (by omega))
    have HQ := Lib.hid (chosen_13 a b w)
    have HV := Lib.hid (show twoV 13 a b = bitV (b < a) by unfold twoV; simp)
    obtain ⟨V, hV⟩ : ∃ V, V = bitV (b < a) := ⟨_, rfl⟩
    rw [← hV] at HQ HV
    clear hV
    go_enter Tryd.func51, Tryd.ntmps51
    go_wp2_with fail
    refine HQ.out.mono ?_
    rintro e w1 ⟨rfl, rfl⟩
    go_wp2_with fail
    refine bodyPost_ret (v := .tuple #[.int .i64 V, .int .i64 0]) (by simp [results, Tryd.results51, go_sem]) rfl ?_
    exact ⟨by rw [HV.out, HE.out], rfl⟩
  have HE := Lib.hid (show twoE f a b = 1 by unfold twoE; rw [if_pos (by omega)])
  have HV := Lib.hid (show twoV f a b = 0 by unfold twoV; simp [h1, h2, h3, h4, h5, h6, h7, h8, h9, h10, h11, h12, h13, h14, h15, h16])
  have hr : f < 1 ∨ 16 < f := by omega
  clear h1 h2 h3 h4 h5 h6 h7 h8 h9 h10 h11 h12 h13 h14 h15 h16
  rcases hr with hr | hr
  · have d1 : decide (f < 1) = true := by simp; omega
    clear hr
    go_enter Tryd.func51, Tryd.ntmps51
    go_wp2_with fail
    refine bodyPost_ret (v := .tuple #[.int .i64 0, .int .i64 1]) (by simp [results, Tryd.results51, go_sem]) rfl ?_
    exact ⟨by rw [HV.out, HE.out], rfl⟩
  · have d1 : decide (f < 1) = false := by simp; omega
    have d2 : decide (16 < f) = true := by simpa using hr
    clear hr
    go_enter Tryd.func51, Tryd.ntmps51
    go_wp2_with fail
    refine bodyPost_ret (v := .tuple #[.int .i64 0, .int .i64 1]) (by simp [results, Tryd.results51, go_sem]) rfl ?_
    exact ⟨by rw [HV.out, HE.out], rfl⟩

set_option maxRecDepth 100000 in
set_option maxHeartbeats 4000000 in
theorem rneutral_any (f : Int) (w : World) : Calls Tryd.prog 25 #[.int .i64 f] w fun e w' => e = .returned (.tuple #[.int .i64 (neutV f), .int .i64 (neutE f)]) ∧ w = w' := by
  by_cases h1 : f = 1
  · subst h1
    have HV := Lib.hid (show neutV 1 = 0 by decide)
    have HE := Lib.hid (show neutE 1 = 0 by decide)
    go_enter Tryd.func25, Tryd.ntmps25
    go_wp2_with fail
    refine bodyPost_ret (v := .tuple #[.int .i64 0, .int .i64 0]) (by simp [results, Tryd.results25, go_sem]) rfl ?_
    exact ⟨by rw [HV.out, HE.out], rfl⟩
  by_cases h2 : f = 2
  · subst h2
    have HV := Lib.hid (show neutV 2 = 0 by decide)
    have HE := Lib.hid (show neutE 2 = 0 by decide)
    go_enter Tryd.func25, Tryd.ntmps25
    go_wp2_with fail
    refine bodyPost_ret (v := .tuple #[.int .i64 0, .int .i64 0]) (by simp [results, Tryd.results25, go_sem]) rfl ?_
    exact ⟨by rw [HV.out, HE.out], rfl⟩
  by_cases h3 : f = 3
  · subst h3
    have HV := Lib.hid (show neutV 3 = 1 by decide)
    have HE := Lib.hid (show neutE 3 = 0 by decide)
    go_enter Tryd.func25, Tryd.ntmps25
    go_wp2_with fail
    refine bodyPost_ret (v := .tuple #[.int .i64 1, .int .i64 0]) (by simp [results, Tryd.results25, go_sem]) rfl ?_
    exact ⟨by rw [HV.out, HE.out], rfl⟩
  by_cases h4 : f = 4
  · subst h4
    have HV := Lib.hid (show neutV 4 = 1 by decide)
    have HE := Lib.hid (show neutE 4 = 0 by decide)
    go_enter Tryd.func25, Tryd.ntmps25
    go_wp2_with fail
    refine bodyPost_ret (v := .tuple #[.int .i64 1, .int .i64 0]) (by simp [results, Tryd.results25, go_sem]) rfl ?_
    exact ⟨by rw [HV.out, HE.out], rfl⟩
  by_cases h5 : f = 5
  · subst h5
    have HV := Lib.hid (show neutV 5 = 0 by decide)
    have HE := Lib.hid (show neutE 5 = 0 by decide)
    go_enter Tryd.func25, Tryd.ntmps25
    go_wp2_with fail
    refine bodyPost_ret (v := .tuple #[.int .i64 0, .int .i64 0]) (by simp [results, Tryd.results25, go_sem]) rfl ?_
    exact ⟨by rw [HV.out, HE.out], rfl⟩
  by_cases h6 : f = 6
  · subst h6
    have HV := Lib.hid (show neutV 6 = (-9223372036854775808) by decide)
    have HE := Lib.hid (show neutE 6 = 0 by decide)
    go_enter Tryd.func25, Tryd.ntmps25
    go_wp2_with fail
    refine bodyPost_ret (v := .tuple #[.int .i64 (-9223372036854775808), .int .i64 0]) (by simp [results, Tryd.results25, go_sem]) rfl ?_
    exact ⟨by rw [HV.out, HE.out], rfl⟩
  by_cases h7 : f = 7
  · subst h7
    have HV := Lib.hid (show neutV 7 = 9223372036854775807 by decide)
    have HE := Lib.hid (show neutE 7 = 0 by decide)
    go_enter Tryd.func25, Tryd.ntmps25
    go_wp2_with fail
    refine bodyPost_ret (v := .tuple #[.int .i64 9223372036854775807, .int .i64 0]) (by simp [results, Tryd.results25, go_sem]) rfl ?_
    exact ⟨by rw [HV.out, HE.out], rfl⟩
  by_cases h8 : f = 8
  · subst h8
    have HV := Lib.hid (show neutV 8 = 0 by decide)
    have HE := Lib.hid (show neutE 8 = 6 by decide)
    go_enter Tryd.func25, Tryd.ntmps25
    go_wp2_with fail
    refine bodyPost_ret (v := .tuple #[.int .i64 0, .int .i64 6]) (by simp [results, Tryd.results25, go_sem]) rfl ?_
    exact ⟨by rw [HV.out, HE.out], rfl⟩
  by_cases h9 : f = 9
  · subst h9
    have HV := Lib.hid (show neutV 9 = 0 by decide)
    have HE := Lib.hid (show neutE 9 = 6 by decide)
    go_enter Tryd.func25, Tryd.ntmps25
    go_wp2_with fail
    refine bodyPost_ret (v := .tuple #[.int .i64 0, .int .i64 6]) (by simp [results, Tryd.results25, go_sem]) rfl ?_
    exact ⟨by rw [HV.out, HE.out], rfl⟩
  by_cases h10 : f = 10
  · subst h10
    have HV := Lib.hid (show neutV 10 = 0 by decide)
    have HE := Lib.hid (show neutE 10 = 6 by decide)
    go_enter Tryd.func25, Tryd.ntmps25
    go_wp2_with fail
    refine bodyPost_ret (v := .tuple #[.int .i64 0, .int .i64 6]) (by simp [results, Tryd.results25, go_sem]) rfl ?_
    exact ⟨by rw [HV.out, HE.out], rfl⟩
  by_cases h11 : f = 11
  · subst h11
    have HV := Lib.hid (show neutV 11 = 0 by decide)
    have HE := Lib.hid (show neutE 11 = 6 by decide)
    go_enter Tryd.func25, Tryd.ntmps25
    go_wp2_with fail
    refine bodyPost_ret (v := .tuple #[.int .i64 0, .int .i64 6]) (by simp [results, Tryd.results25, go_sem]) rfl ?_
    exact ⟨by rw [HV.out, HE.out], rfl⟩
  by_cases h12 : f = 12
  · subst h12
    have HV := Lib.hid (show neutV 12 = 0 by decide)
    have HE := Lib.hid (show neutE 12 = 6 by decide)
    go_enter Tryd.func25, Tryd.ntmps25
    go_wp2_with fail
    refine bodyPost_ret (v := .tuple #[.int .i64 0, .int .i64 6]) (by simp [results, Tryd.results25, go_sem]) rfl ?_
    exact ⟨by rw [HV.out, HE.out], rfl⟩
  by_cases h13 : f = 13
  · subst h13
    have HV := Lib.hid (show neutV 13 = 0 by decide)
    have HE := Lib.hid (show neutE 13 = 6 by decide)
    go_enter Tryd.func25, Tryd.ntmps25
    go_wp2_with fail
    refine bodyPost_ret (v := .tuple #[.int .i64 0, .int .i64 6]) (by simp [results, Tryd.results25, go_sem]) rfl ?_
    exact ⟨by rw [HV.out, HE.out], rfl⟩
  by_cases h14 : f = 14
  · subst h14
    have HV := Lib.hid (show neutV 14 = (-1) by decide)
    have HE := Lib.hid (show neutE 14 = 0 by decide)
    go_enter Tryd.func25, Tryd.ntmps25
    go_wp2_with fail
    refine bodyPost_ret (v := .tuple #[.int .i64 (-1), .int .i64 0]) (by simp [results, Tryd.results25, go_sem]) rfl ?_
    exact ⟨by rw [HV.out, HE.out], rfl⟩
  by_cases h15 : f = 15
  · subst h15
    have HV := Lib.hid (show neutV 15 = 0 by decide)
    have HE := Lib.hid (show neutE 15 = 0 by decide)
    go_enter Tryd.func25, Tryd.ntmps25
    go_wp2_with fail
    refine bodyPost_ret (v := .tuple #[.int .i64 0, .int .i64 0]) (by simp [results, Tryd.results25, go_sem]) rfl ?_
    exact ⟨by rw [HV.out, HE.out], rfl⟩
  by_cases h16 : f = 16
  · subst h16
    have HV := Lib.hid (show neutV 16 = 1 by decide)
    have HE := Lib.hid (show neutE 16 = 0 by decide)
    go_enter Tryd.func25, Tryd.ntmps25
    go_wp2_with fail
    refine bodyPost_ret (v := .tuple #[.int .i64 1, .int .i64 0]) (by simp [results, Tryd.results25, go_sem]) rfl ?_
    exact ⟨by rw [HV.out, HE.out], rfl⟩
  have HE := Lib.hid (show neutE f = 1 by unfold neutE; rw [if_pos (by omega)])
  have HV := Lib.hid (show neutV f = 0 by unfold neutV; simp [h3, h4, h16, h6, h7, h14])
  have hr : f < 1 ∨ 16 < f := by omega
  clear h1 h2 h3 h4 h5 h6 h7 h8 h9 h10 h11 h12 h13 h14 h15 h16
  rcases hr with hr | hr
  · have d1 : decide (f < 1) = true := by simp; omega
    clear hr
    go_enter Tryd.func25, Tryd.ntmps25
    go_wp2_with fail
    refine bodyPost_ret (v := .tuple #[.int .i64 0, .int .i64 1]) (by simp [results, Tryd.results25, go_sem]) rfl ?_
    exact ⟨by rw [HV.out, HE.out], rfl⟩
  · have d1 : decide (f < 1) = false := by simp; omega
    have d2 : decide (16 < f) = true := by simpa using hr
    clear hr
    go_enter Tryd.func25, Tryd.ntmps25
    go_wp2_with fail
    refine bodyPost_ret (v := .tuple #[.int .i64 0, .int .i64 1]) (by simp [results, Tryd.results25, go_sem]) rfl ?_
    exact ⟨by rw [HV.out, HE.out], rfl⟩
end Go.Proofs.YtojeggeimnenbaaDoor
