/- What the card TopProduct leans on: CellQuiet. Conditions: none but those of its theorems. -/
import Derived.Test.YtihndbkaoejnnaaGreatDoorProductAG
import Derived.Test.YtihndbkaoejnnaaGreatDoorProductZ
set_option linter.unusedSimpArgs false
set_option linter.unusedVariables false
namespace Go.Proofs.YtihndbkaoejnnaaGreatDoor
open Go Go.RowKit Go.Proofs.YtihndbkaoejnnaaGreatDoor.P

set_option maxHeartbeats 400000 in
theorem floor_q (a b : Int) (w : World) (hb : b ≠ 0) :
    Calls Tryz.prog 54 #[.int .i64 a, .int .i64 b] w fun e w' => e = .returned (.int .i64 (wrap64 (Int.fdiv a b))) ∧ ∃ m, w' = w.drewN m := by
  by_cases h1 : b = -1
  · subst h1
    go_enter Tryz.func54, Tryz.ntmps54
    go_wp2_with fail
    go_ret
    exact ⟨by rw [fdiv_m1]; rfl, by first | exact ⟨0, rfl⟩ | exact ⟨1, rfl⟩ | exact ⟨2, rfl⟩⟩
  · have h2 : ((b == -1) : Bool) = false := by simpa using h1
    have h3 : ((b == 0) : Bool) = false := by simpa using hb
    go_enter Tryz.func54, Tryz.ntmps54
    go_wp2_with fail
    go_region
    by_cases h4 : a.tmod b = 0
    · have h4' : (a.tmod b != 0) = false := by simpa using h4
      go_wp2_with fail
      go_ret
      exact ⟨by rw [fdiv_even h4]; rfl, by first | exact ⟨0, rfl⟩ | exact ⟨1, rfl⟩ | exact ⟨2, rfl⟩⟩
    · have h4' : (a.tmod b != 0) = true := by simpa using h4
      by_cases h5 : decide (a.tmod b < 0) = decide (b < 0)
      · have h5' : (decide (a.tmod b < 0) != decide (b < 0)) = false := by simp [h5]
        have h6 : (decide (a.tmod b < 0) == decide (b < 0)) = true := by rw [h5]; cases decide (b < 0) <;> rfl
        have e := fdiv_same h4 h5
        clear h5
        go_wp2_with fail
        go_ret
        exact ⟨by rw [e]; rfl, by first | exact ⟨0, rfl⟩ | exact ⟨1, rfl⟩ | exact ⟨2, rfl⟩⟩
      · have h5' : (decide (a.tmod b < 0) != decide (b < 0)) = true := by simpa using h5
        have h6 : (decide (a.tmod b < 0) == decide (b < 0)) = false := by revert h5; cases decide (a.tmod b < 0) <;> cases decide (b < 0) <;> simp
        have e := fdiv_other hb h4 h5
        clear h5
        go_wp2_with fail
        go_ret
        exact ⟨by rw [e, show wrap64 (a.tdiv b - 1) = wrap64 (wrap64 (a.tdiv b) - 1) from (wrap_add_l (a.tdiv b) (-1)).symm]; rfl, by first | exact ⟨0, rfl⟩ | exact ⟨1, rfl⟩ | exact ⟨2, rfl⟩⟩

set_option maxHeartbeats 400000 in
theorem div_q (a b : Int) (w : World) (hb : b ≠ 0) :
    Calls Tryz.prog 39 #[.int .i64 4, .int .i64 a, .int .i64 b] w fun e w' => e = .returned (.tuple #[.int .i64 (wrap64 (Int.fdiv a b)), .nilIface]) ∧ ∃ m, w' = w.drewN m := by
  have h3 : ((b == 0) : Bool) = false := by simpa using hb
  go_enter Tryz.func39, Tryz.ntmps39
  go_wp2_with fail
  refine (floor_q a b _ hb).mono ?_
  rintro e w1 ⟨rfl, m1, rfl⟩
  go_wp2_with fail
  refine bodyPost_ret (v := .tuple #[.int .i64 (wrap64 (Int.fdiv a b)), .nilIface]) (by simp [results, Tryz.results39, go_sem]) rfl ?_
  exact ⟨rfl, m1, rfl⟩

set_option maxHeartbeats 400000 in
theorem res_q (a b : Int) (w : World) (ha : a ≠ 0) :
    Calls Tryz.prog 39 #[.int .i64 5, .int .i64 a, .int .i64 b] w fun e w' => e = .returned (.tuple #[.int .i64 (wrap64 (b - a * Int.fdiv b a)), .nilIface]) ∧ ∃ m, w' = w.drewN m := by
  have h3 : ((a == 0) : Bool) = false := by simpa using ha
  go_enter Tryz.func39, Tryz.ntmps39
  go_wp2_with fail
  refine (floor_q b a _ ha).mono ?_
  rintro e w1 ⟨rfl, m1, rfl⟩
  have e1 : wrap64 (b - wrap64 (a * wrap64 (Int.fdiv b a))) = wrap64 (b - a * Int.fdiv b a) := by
    rw [wrap_mul_r]
    obtain ⟨q, hq⟩ := wrap_eq (a * Int.fdiv b a)
    exact wrap_congr ⟨-q, by rw [hq]; omega⟩
  go_wp2_with fail
  refine bodyPost_ret (v := .tuple #[.int .i64 (wrap64 (b - a * Int.fdiv b a)), .nilIface]) (by simp [results, Tryz.results39, go_sem, e1]) rfl ?_
  exact ⟨rfl, m1, rfl⟩

set_option maxRecDepth 100000 in
set_option maxHeartbeats 8000000 in
theorem two_q (f a b : Int) (w : World) (hbw : f = 16 → b ≤ 9223372036854775807) :
    Calls Tryz.prog 39 #[.int .i64 f, .int .i64 a, .int .i64 b] w fun e w' => e = .returned (.tuple #[.int .i64 (twoV f a b), errV (twoE f a b)]) ∧ ∃ m, w' = w.drewN m := by
  by_cases h1 : f = 1
  · subst h1
    have HE := Lib.hid (twoE_ok (f := 1) (a := a) (b := b) (by omega) (by omega) (by omega) (by omega))
    go_enter Tryz.func39, Tryz.ntmps39
    go_wp2_with fail
    refine bodyPost_ret (v := .tuple #[.int .i64 (wrap64 (a + b)), .nilIface]) (by simp [results, Tryz.results39, go_sem]) rfl ?_
    exact ⟨by rw [HE.out]; rfl, by first | exact ⟨0, rfl⟩ | exact ⟨1, rfl⟩ | exact ⟨2, rfl⟩⟩
  by_cases h2 : f = 2
  · subst h2
    have HE := Lib.hid (twoE_ok (f := 2) (a := a) (b := b) (by omega) (by omega) (by omega) (by omega))
    go_enter Tryz.func39, Tryz.ntmps39
    go_wp2_with fail
    refine bodyPost_ret (v := .tuple #[.int .i64 (wrap64 (a - b)), .nilIface]) (by simp [results, Tryz.results39, go_sem]) rfl ?_
    exact ⟨by rw [HE.out]; rfl, by first | exact ⟨0, rfl⟩ | exact ⟨1, rfl⟩ | exact ⟨2, rfl⟩⟩
  by_cases h3 : f = 3
  · subst h3
    have HE := Lib.hid (twoE_ok (f := 3) (a := a) (b := b) (by omega) (by omega) (by omega) (by omega))
    go_enter Tryz.func39, Tryz.ntmps39
    go_wp2_with fail
    refine bodyPost_ret (v := .tuple #[.int .i64 (wrap64 (a * b)), .nilIface]) (by simp [results, Tryz.results39, go_sem]) rfl ?_
    exact ⟨by rw [HE.out]; rfl, by first | exact ⟨0, rfl⟩ | exact ⟨1, rfl⟩ | exact ⟨2, rfl⟩⟩
  by_cases h4 : f = 4
  · subst h4
    by_cases hb : b = 0
    · subst hb
      go_enter Tryz.func39, Tryz.ntmps39
      go_wp2_with fail
      refine bodyPost_ret (v := .tuple #[.int .i64 0, .iface 54 (.int .i64 6)]) (by simp [results, Tryz.results39, go_sem]) rfl ?_
      exact ⟨rfl, by first | exact ⟨0, rfl⟩ | exact ⟨1, rfl⟩ | exact ⟨2, rfl⟩⟩
    · have HE := Lib.hid (twoE_ok (f := 4) (a := a) (b := b) (by omega) (by omega) (fun _ => hb) (by omega))
      have HV := Lib.hid (show twoV 4 a b = wrap64 (Int.fdiv a b) by unfold twoV; simp [hb])
      refine (div_q a b w hb).mono ?_
      rintro e w1 ⟨rfl, hb1⟩
      exact ⟨by rw [HE.out, HV.out]; rfl, hb1⟩
  by_cases h5 : f = 5
  · subst h5
    have HE := Lib.hid (twoE_ok (f := 5) (a := a) (b := b) (by omega) (by omega) (by omega) (by omega))
    by_cases ha : a = 0
    · subst ha
      go_enter Tryz.func39, Tryz.ntmps39
      go_wp2_with fail
      refine bodyPost_ret (v := .tuple #[.int .i64 b, .nilIface]) (by simp [results, Tryz.results39, go_sem]) rfl ?_
      exact ⟨by rw [HE.out]; rfl, by first | exact ⟨0, rfl⟩ | exact ⟨1, rfl⟩ | exact ⟨2, rfl⟩⟩
    · have HV := Lib.hid (show twoV 5 a b = wrap64 (b - a * Int.fdiv b a) by unfold twoV; simp [ha])
      refine (res_q a b w ha).mono ?_
      rintro e w1 ⟨rfl, hb1⟩
      exact ⟨by rw [HE.out, HV.out]; rfl, hb1⟩
  by_cases h6 : f = 6
  · subst h6
    have HE := Lib.hid (twoE_ok (f := 6) (a := a) (b := b) (by omega) (by omega) (by omega) (by omega))
    go_enter Tryz.func39, Tryz.ntmps39
    go_wp2_with fail
    refine bodyPost_ret (v := .tuple #[.int .i64 (max a b), .nilIface]) (by simp [results, Tryz.results39, go_sem]) rfl ?_
    exact ⟨by rw [HE.out]; rfl, by first | exact ⟨0, rfl⟩ | exact ⟨1, rfl⟩ | exact ⟨2, rfl⟩⟩
  by_cases h7 : f = 7
  · subst h7
    have HE := Lib.hid (twoE_ok (f := 7) (a := a) (b := b) (by omega) (by omega) (by omega) (by omega))
    go_enter Tryz.func39, Tryz.ntmps39
    go_wp2_with fail
    refine bodyPost_ret (v := .tuple #[.int .i64 (min a b), .nilIface]) (by simp [results, Tryz.results39, go_sem]) rfl ?_
    exact ⟨by rw [HE.out]; rfl, by first | exact ⟨0, rfl⟩ | exact ⟨1, rfl⟩ | exact ⟨2, rfl⟩⟩
  by_cases h8 : f = 8
  · subst h8
    have HE := Lib.hid (twoE_ok (f := 8) (a := a) (b := b) (by omega) (by omega) (by omega) (by omega))
    have HC := Lib.hid (compare_8 a b w)
    go_enter Tryz.func39, Tryz.ntmps39
    go_wp2_with fail
    refine HC.out.mono ?_
    rintro e w1 ⟨rfl, rfl⟩
    go_wp2_with fail
    refine bodyPost_ret (v := .tuple #[.int .i64 (bitV (a = b)), .nilIface]) (by simp [results, Tryz.results39, go_sem]) rfl ?_
    exact ⟨by rw [HE.out]; rfl, by first | exact ⟨0, rfl⟩ | exact ⟨1, rfl⟩ | exact ⟨2, rfl⟩⟩
  by_cases h9 : f = 9
  · subst h9
    have HE := Lib.hid (twoE_ok (f := 9) (a := a) (b := b) (by omega) (by omega) (by omega) (by omega))
    have HC := Lib.hid (compare_9 a b w)
    go_enter Tryz.func39, Tryz.ntmps39
    go_wp2_with fail
    refine HC.out.mono ?_
    rintro e w1 ⟨rfl, rfl⟩
    go_wp2_with fail
    refine bodyPost_ret (v := .tuple #[.int .i64 (bitV (a ≠ b)), .nilIface]) (by simp [results, Tryz.results39, go_sem]) rfl ?_
    exact ⟨by rw [HE.out]; rfl, by first | exact ⟨0, rfl⟩ | exact ⟨1, rfl⟩ | exact ⟨2, rfl⟩⟩
  by_cases h10 : f = 10
  · subst h10
    have HE := Lib.hid (twoE_ok (f := 10) (a := a) (b := b) (by omega) (by omega) (by omega) (by omega))
    have HC := Lib.hid (compare_10 a b w)
    go_enter Tryz.func39, Tryz.ntmps39
    go_wp2_with fail
    refine HC.out.mono ?_
    rintro e w1 ⟨rfl, rfl⟩
    go_wp2_with fail
    refine bodyPost_ret (v := .tuple #[.int .i64 (bitV (a < b)), .nilIface]) (by simp [results, Tryz.results39, go_sem]) rfl ?_
    exact ⟨by rw [HE.out]; rfl, by first | exact ⟨0, rfl⟩ | exact ⟨1, rfl⟩ | exact ⟨2, rfl⟩⟩
  by_cases h11 : f = 11
  · subst h11
    have HE := Lib.hid (twoE_ok (f := 11) (a := a) (b := b) (by omega) (by omega) (by omega) (by omega))
    have HC := Lib.hid (compare_11 a b w)
    go_enter Tryz.func39, Tryz.ntmps39
    go_wp2_with fail
    refine HC.out.mono ?_
    rintro e w1 ⟨rfl, rfl⟩
    go_wp2_with fail
    refine bodyPost_ret (v := .tuple #[.int .i64 (bitV (a ≤ b)), .nilIface]) (by simp [results, Tryz.results39, go_sem]) rfl ?_
    exact ⟨by rw [HE.out]; rfl, by first | exact ⟨0, rfl⟩ | exact ⟨1, rfl⟩ | exact ⟨2, rfl⟩⟩
  by_cases h12 : f = 12
  · subst h12
    have HE := Lib.hid (twoE_ok (f := 12) (a := a) (b := b) (by omega) (by omega) (by omega) (by omega))
    have HC := Lib.hid (compare_12 a b w)
    go_enter Tryz.func39, Tryz.ntmps39
    go_wp2_with fail
    refine HC.out.mono ?_
    rintro e w1 ⟨rfl, rfl⟩
    go_wp2_with fail
    refine bodyPost_ret (v := .tuple #[.int .i64 (bitV (b ≤ a)), .nilIface]) (by simp [results, Tryz.results39, go_sem]) rfl ?_
    exact ⟨by rw [HE.out]; rfl, by first | exact ⟨0, rfl⟩ | exact ⟨1, rfl⟩ | exact ⟨2, rfl⟩⟩
  by_cases h13 : f = 13
  · subst h13
    have HE := Lib.hid (twoE_ok (f := 13) (a := a) (b := b) (by omega) (by omega) (by omega) (by omega))
    have HC := Lib.hid (compare_13 a b w)
    go_enter Tryz.func39, Tryz.ntmps39
    go_wp2_with fail
    refine HC.out.mono ?_
    rintro e w1 ⟨rfl, rfl⟩
    go_wp2_with fail
    refine bodyPost_ret (v := .tuple #[.int .i64 (bitV (b < a)), .nilIface]) (by simp [results, Tryz.results39, go_sem]) rfl ?_
    exact ⟨by rw [HE.out]; rfl, by first | exact ⟨0, rfl⟩ | exact ⟨1, rfl⟩ | exact ⟨2, rfl⟩⟩
  by_cases h14 : f = 14
  · subst h14
    have HE := Lib.hid (twoE_ok (f := 14) (a := a) (b := b) (by omega) (by omega) (by omega) (by omega))
    go_enter Tryz.func39, Tryz.ntmps39
    go_wp2_with fail
    refine bodyPost_ret (v := .tuple #[.int .i64 (bits BinOp.and IntKind.i64 a b), .nilIface]) (by simp [results, Tryz.results39, go_sem]) rfl ?_
    exact ⟨by rw [HE.out]; rfl, by first | exact ⟨0, rfl⟩ | exact ⟨1, rfl⟩ | exact ⟨2, rfl⟩⟩
  by_cases h15 : f = 15
  · subst h15
    have HE := Lib.hid (twoE_ok (f := 15) (a := a) (b := b) (by omega) (by omega) (by omega) (by omega))
    go_enter Tryz.func39, Tryz.ntmps39
    go_wp2_with fail
    refine bodyPost_ret (v := .tuple #[.int .i64 (bits BinOp.or IntKind.i64 a b), .nilIface]) (by simp [results, Tryz.results39, go_sem]) rfl ?_
    exact ⟨by rw [HE.out]; rfl, by first | exact ⟨0, rfl⟩ | exact ⟨1, rfl⟩ | exact ⟨2, rfl⟩⟩
  by_cases h16 : f = 16
  · subst h16
    by_cases hb : b < 0
    · have HE := Lib.hid (show twoE 16 a b = 6 by unfold twoE; simp [hb])
      have HV := Lib.hid (show twoV 16 a b = 0 by unfold twoV; simp [hb])
      have e1 : decide (b < 0) = true := by simpa using hb
      clear hb
      go_enter Tryz.func39, Tryz.ntmps39
      go_wp2_with fail
      refine bodyPost_ret (v := .tuple #[.int .i64 0, .iface 54 (.int .i64 6)]) (by simp [results, Tryz.results39, go_sem]) rfl ?_
      exact ⟨by rw [HE.out, HV.out]; rfl, by first | exact ⟨0, rfl⟩ | exact ⟨1, rfl⟩ | exact ⟨2, rfl⟩⟩
    · have HE := Lib.hid (twoE_ok (f := 16) (a := a) (b := b) (by omega) (by omega) (by omega) (fun _ => by omega))
      have HV := Lib.hid (show twoV 16 a b = wrap64 (a ^ b.toNat) by unfold twoV; simp [hb])
      obtain ⟨n, rfl⟩ := Int.eq_ofNat_of_zero_le (Int.not_lt.1 hb)
      rw [Int.toNat_natCast] at HV
      have HC := Lib.hid (power_any a n (by have := hbw rfl; omega) w)
      have hn : ¬ (n : Int) < 0 := hb
      clear hb
      go_enter Tryz.func39, Tryz.ntmps39
      go_wp2_with fail
      refine HC.out.mono ?_
      rintro e w1 ⟨rfl, rfl⟩
      go_wp2_with fail
      refine bodyPost_ret (v := .tuple #[.int .i64 (wrap64 (a ^ n)), .nilIface]) (by simp [results, Tryz.results39, go_sem]) rfl ?_
      exact ⟨by rw [HE.out, HV.out]; rfl, by first | exact ⟨0, rfl⟩ | exact ⟨1, rfl⟩ | exact ⟨2, rfl⟩⟩
  have HE := Lib.hid (show twoE f a b = 1 by unfold twoE; rw [if_pos (by omega)])
  have HV := Lib.hid (show twoV f a b = 0 by unfold twoV; simp [h1, h2, h3, h4, h5, h6, h7, h8, h9, h10, h11, h12, h13, h14, h15, h16])
  have e1 : (f == 1) = false := by simp [h1]
  have e2 : (f == 2) = false := by simp [h2]
  have e3 : (f == 3) = false := by simp [h3]
  have e4 : (f == 4) = false := by simp [h4]
  have e5 : (f == 5) = false := by simp [h5]
  have e6 : (f == 6) = false := by simp [h6]
  have e7 : (f == 7) = false := by simp [h7]
  have e8 : (f == 8) = false := by simp [h8]
  have e9 : (f == 9) = false := by simp [h9]
  have e10 : (f == 10) = false := by simp [h10]
  have e11 : (f == 11) = false := by simp [h11]
  have e12 : (f == 12) = false := by simp [h12]
  have e13 : (f == 13) = false := by simp [h13]
  have e14 : (f == 14) = false := by simp [h14]
  have e15 : (f == 15) = false := by simp [h15]
  have e16 : (f == 16) = false := by simp [h16]
  clear h1 h2 h3 h4 h5 h6 h7 h8 h9 h10 h11 h12 h13 h14 h15 h16
  go_enter Tryz.func39, Tryz.ntmps39
  go_wp2_with fail
  refine bodyPost_ret (v := .tuple #[.int .i64 0, .iface 54 (.int .i64 1)]) (by simp [results, Tryz.results39, go_sem]) rfl ?_
  exact ⟨by rw [HE.out, HV.out]; rfl, by first | exact ⟨0, rfl⟩ | exact ⟨1, rfl⟩ | exact ⟨2, rfl⟩⟩

theorem two_quiet (f x y : Int) (w : World) (n : Nat) (h : f = 16 → y ≤ 9223372036854775807) :
    Calls Tryz.prog 39 #[.int .i64 f, .int .i64 x, .int .i64 y] (w.drewN n) fun e w'' => e = .returned (.tuple #[.int .i64 (twoV f x y), errV (twoE f x y)]) ∧ ∃ m, w'' = w.drewN m := by
  refine (two_q f x y (w.drewN n) h).mono fun e w' hh => ?_
  obtain ⟨rfl, m, rfl⟩ := hh
  exact ⟨rfl, n + m, World.drewN_drewN _ _ _⟩
end Go.Proofs.YtihndbkaoejnnaaGreatDoor
