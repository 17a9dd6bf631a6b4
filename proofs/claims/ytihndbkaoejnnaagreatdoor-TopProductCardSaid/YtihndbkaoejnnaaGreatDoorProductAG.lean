/- What the card TopProduct leans on: CellTwo. Conditions: none but those of its theorems. -/
import Derived.Lib.RabinKarpLaws
import Derived.Test.YtihndbkaoejnnaaGreatDoorProductAF
import Derived.Test.YtihndbkaoejnnaaGreatDoorProductE
set_option linter.unusedSimpArgs false
set_option linter.unusedVariables false
namespace Go.Proofs.YtihndbkaoejnnaaGreatDoor.P
open Go Go.RowKit

def bitV (p : Prop) [Decidable p] : Int := if p then 1 else 0
/-- What a function of two numbers tells, and its error. -/
def twoV (f a b : Int) : Int :=
  if f = 1 then wrap64 (a + b) else if f = 2 then wrap64 (a - b) else if f = 3 then wrap64 (a * b)
  else if f = 4 then (if b = 0 then 0 else wrap64 (Int.fdiv a b)) else if f = 5 then (if a = 0 then b else wrap64 (b - a * Int.fdiv b a))
  else if f = 6 then max a b else if f = 7 then min a b
  else if f = 8 then bitV (a = b) else if f = 9 then bitV (a ≠ b) else if f = 10 then bitV (a < b) else if f = 11 then bitV (a ≤ b) else if f = 12 then bitV (b ≤ a) else if f = 13 then bitV (b < a)
  else if f = 14 then bits BinOp.and IntKind.i64 a b else if f = 15 then bits BinOp.or IntKind.i64 a b
  else if f = 16 then (if b < 0 then 0 else wrap64 (a ^ b.toNat)) else 0
def twoE (f a b : Int) : Int :=
  if f < 1 ∨ 16 < f then 1 else if f = 4 ∧ b = 0 then 6 else if f = 16 ∧ b < 0 then 6 else 0
theorem twoE_ok {f a b : Int} (h1 : 1 ≤ f) (h2 : f ≤ 16) (h3 : f = 4 → b ≠ 0) (h4 : f = 16 → 0 ≤ b) : twoE f a b = 0 := by
  unfold twoE
  rw [if_neg (by omega), if_neg (fun h => h3 h.1 h.2), if_neg (fun h => by have := h4 h.1; omega)]
theorem wrap_pow (a : Int) : ∀ n : Nat, wrap64 (wrap64 a ^ n) = wrap64 (a ^ n)
  | 0 => by simp
  | n + 1 => by
    rw [Int.pow_succ, Int.pow_succ, ← wrap_mul_l, wrap_pow a n, wrap_mul_l, wrap_mul_r]
end Go.Proofs.YtihndbkaoejnnaaGreatDoor.P
namespace Go.Proofs.YtihndbkaoejnnaaGreatDoor
open Go Go.RowKit Go.Proofs.YtihndbkaoejnnaaGreatDoor.P

set_option maxRecDepth 100000 in
set_option maxHeartbeats 1000000 in
theorem power_any (a : Int) (b : Nat) (hb : b ≤ 9223372036854775807) (w : World) :
    Calls Tryz.prog 56 #[.int .i64 a, .int .i64 b] w fun e w' => e = .returned (.int .i64 (wrap64 (a ^ b))) ∧ w = w' := by
  go_enter Tryz.func56, Tryz.ntmps56
  go_wp2_with fail
  go_loop [0, 1, 5] (fun sa sb sp => ∃ (A z : Int) (B : Nat), B ≤ 9223372036854775807 ∧ sa = .int .i64 A ∧ sb = .int .i64 B ∧ sp = .int .i64 (wrap64 z) ∧ wrap64 (z * A ^ B) = wrap64 (a ^ b)) (fun _ sb _ => (intOf sb).toNat)
  case atStart => exact ⟨a, 1, b, hb, rfl, rfl, congrArg _ (show (1 : Int) = wrap64 1 by unfold wrap64; omega), by simp⟩
  case round =>
    obtain ⟨A, z, B, hB, rfl, rfl, rfl, hz⟩ := hrel
    have HZ := Lib.hid hz
    clear hz
    rcases Nat.eq_zero_or_pos B with h0 | h0
    · subst h0
      have HE := Lib.hid (show wrap64 z = wrap64 (a ^ b) by have h := HZ.out; simpa using h)
      go_wp2_with fail
      go_ret
      exact ⟨by rw [HE.out]; rfl, rfl⟩
    · have hbit := Go.Proofs.and_one B (by omega)
      rcases Nat.mod_two_eq_zero_or_one B with h1 | h1
      · rw [h1] at hbit
        have HH := Lib.hid (show wrap64 (z * (wrap64 (A * A)) ^ (B / 2)) = wrap64 (a ^ b) by
          rw [← HZ.out, ← wrap_mul_r, wrap_pow, wrap_mul_r, show B = B / 2 + B / 2 by omega, Int.pow_add]
          rw [show (A * A) ^ ((B / 2 + B / 2) / 2) = A ^ (B / 2) * A ^ (B / 2) by rw [show (B / 2 + B / 2) / 2 = B / 2 by omega, Int.mul_pow]])
        clear h1
        go_wp2_with fail
        go_round
        case rel => exact ⟨_, z, B / 2, by omega, rfl, by rfl, rfl, HH.out⟩
        case measure => simp [intOf]; omega
      · rw [h1] at hbit
        have HH := Lib.hid (show wrap64 ((wrap64 z * A) * (wrap64 (A * A)) ^ (B / 2)) = wrap64 (a ^ b) by
          rw [← HZ.out, ← wrap_mul_r, wrap_pow, wrap_mul_r, Int.mul_assoc, wrap_mul_l, show B = B / 2 + B / 2 + 1 by omega, Int.pow_succ, Int.pow_add]
          rw [show (A * A) ^ ((B / 2 + B / 2 + 1) / 2) = A ^ (B / 2) * A ^ (B / 2) by rw [show (B / 2 + B / 2 + 1) / 2 = B / 2 by omega, Int.mul_pow]]
          rw [Int.mul_comm A])
        clear h1
        go_wp2_with fail
        go_round
        case rel => exact ⟨_, wrap64 z * A, B / 2, by omega, rfl, by rfl, rfl, HH.out⟩
        case measure => simp [intOf]; omega


theorem bit_any (p : Bool) (w : World) : Calls Tryz.prog 73 #[.bool p] w fun e w' => e = .returned (.int .i64 (if p then 1 else 0)) ∧ w = w' := by
  cases p
  · go_enter Tryz.func73, Tryz.ntmps73
    go_wp2_with fail
    go_ret
    exact ⟨rfl, rfl⟩
  · go_enter Tryz.func73, Tryz.ntmps73
    go_wp2_with fail
    go_ret
    exact ⟨rfl, rfl⟩
theorem compare_8 (a b : Int) (w : World) : Calls Tryz.prog 55 #[.int .i64 8, .int .i64 a, .int .i64 b] w fun e w' => e = .returned (.int .i64 (bitV (a = b))) ∧ w = w' := by
  have HC := Lib.hid (bit_any ((a == b)) w)
  have HV := Lib.hid (show (if ((a == b)) = true then (1 : Int) else 0) = bitV (a = b) by unfold bitV; simp)
  rw [HV.out] at HC
  go_enter Tryz.func55, Tryz.ntmps55
  go_wp2_with fail
  refine HC.out.mono ?_
  rintro e w1 ⟨rfl, rfl⟩
  go_wp2_with fail
  go_ret
  exact ⟨rfl, rfl⟩
theorem compare_9 (a b : Int) (w : World) : Calls Tryz.prog 55 #[.int .i64 9, .int .i64 a, .int .i64 b] w fun e w' => e = .returned (.int .i64 (bitV (a ≠ b))) ∧ w = w' := by
  have HC := Lib.hid (bit_any ((a != b)) w)
  have HV := Lib.hid (show (if ((a != b)) = true then (1 : Int) else 0) = bitV (a ≠ b) by unfold bitV; simp)
  rw [HV.out] at HC
  go_enter Tryz.func55, Tryz.ntmps55
  go_wp2_with fail
  refine HC.out.mono ?_
  rintro e w1 ⟨rfl, rfl⟩
  go_wp2_with fail
  go_ret
  exact ⟨rfl, rfl⟩
theorem compare_10 (a b : Int) (w : World) : Calls Tryz.prog 55 #[.int .i64 10, .int .i64 a, .int .i64 b] w fun e w' => e = .returned (.int .i64 (bitV (a < b))) ∧ w = w' := by
  have HC := Lib.hid (bit_any (decide (a < b)) w)
  have HV := Lib.hid (show (if (decide (a < b)) = true then (1 : Int) else 0) = bitV (a < b) by unfold bitV; simp)
  rw [HV.out] at HC
  go_enter Tryz.func55, Tryz.ntmps55
  go_wp2_with fail
  refine HC.out.mono ?_
  rintro e w1 ⟨rfl, rfl⟩
  go_wp2_with fail
  go_ret
  exact ⟨rfl, rfl⟩
theorem compare_11 (a b : Int) (w : World) : Calls Tryz.prog 55 #[.int .i64 11, .int .i64 a, .int .i64 b] w fun e w' => e = .returned (.int .i64 (bitV (a ≤ b))) ∧ w = w' := by
  have HC := Lib.hid (bit_any (decide (a ≤ b)) w)
  have HV := Lib.hid (show (if (decide (a ≤ b)) = true then (1 : Int) else 0) = bitV (a ≤ b) by unfold bitV; simp)
  rw [HV.out] at HC
  go_enter Tryz.func55, Tryz.ntmps55
  go_wp2_with fail
  refine HC.out.mono ?_
  rintro e w1 ⟨rfl, rfl⟩
  go_wp2_with fail
  go_ret
  exact ⟨rfl, rfl⟩
theorem compare_12 (a b : Int) (w : World) : Calls Tryz.prog 55 #[.int .i64 12, .int .i64 a, .int .i64 b] w fun e w' => e = .returned (.int .i64 (bitV (b ≤ a))) ∧ w = w' := by
  have HC := Lib.hid (bit_any (decide (b ≤ a)) w)
  have HV := Lib.hid (show (if (decide (b ≤ a)) = true then (1 : Int) else 0) = bitV (b ≤ a) by unfold bitV; simp)
  rw [HV.out] at HC
  go_enter Tryz.func55, Tryz.ntmps55
  go_wp2_with fail
  refine HC.out.mono ?_
  rintro e w1 ⟨rfl, rfl⟩
  go_wp2_with fail
  go_ret
  exact ⟨rfl, rfl⟩
theorem compare_13 (a b : Int) (w : World) : Calls Tryz.prog 55 #[.int .i64 13, .int .i64 a, .int .i64 b] w fun e w' => e = .returned (.int .i64 (bitV (b < a))) ∧ w = w' := by
  have HC := Lib.hid (bit_any (decide (b < a)) w)
  have HV := Lib.hid (show (if (decide (b < a)) = true then (1 : Int) else 0) = bitV (b < a) by unfold bitV; simp)
  rw [HV.out] at HC
  go_enter Tryz.func55, Tryz.ntmps55
  go_wp2_with fail
  refine HC.out.mono ?_
  rintro e w1 ⟨rfl, rfl⟩
  go_wp2_with fail
  go_ret
  exact ⟨rfl, rfl⟩

set_option maxRecDepth 100000 in
set_option maxHeartbeats 8000000 in
theorem two_any (f a b : Int) (w : World) (hbw : f = 16 → b ≤ 9223372036854775807) :
    Calls Tryz.prog 39 #[.int .i64 f, .int .i64 a, .int .i64 b] w fun e w' => e = .returned (.tuple #[.int .i64 (twoV f a b), errV (twoE f a b)]) ∧ Below w.heap.size w w' := by
  by_cases h1 : f = 1
  · subst h1
    have HE := Lib.hid (twoE_ok (f := 1) (a := a) (b := b) (by omega) (by omega) (by omega) (by omega))
    go_enter Tryz.func39, Tryz.ntmps39
    go_wp2_with fail
    refine bodyPost_ret (v := .tuple #[.int .i64 (wrap64 (a + b)), .nilIface]) (by simp [results, Tryz.results39, go_sem]) rfl ?_
    exact ⟨by rw [HE.out]; rfl, by go_grown⟩
  by_cases h2 : f = 2
  · subst h2
    have HE := Lib.hid (twoE_ok (f := 2) (a := a) (b := b) (by omega) (by omega) (by omega) (by omega))
    go_enter Tryz.func39, Tryz.ntmps39
    go_wp2_with fail
    refine bodyPost_ret (v := .tuple #[.int .i64 (wrap64 (a - b)), .nilIface]) (by simp [results, Tryz.results39, go_sem]) rfl ?_
    exact ⟨by rw [HE.out]; rfl, by go_grown⟩
  by_cases h3 : f = 3
  · subst h3
    have HE := Lib.hid (twoE_ok (f := 3) (a := a) (b := b) (by omega) (by omega) (by omega) (by omega))
    go_enter Tryz.func39, Tryz.ntmps39
    go_wp2_with fail
    refine bodyPost_ret (v := .tuple #[.int .i64 (wrap64 (a * b)), .nilIface]) (by simp [results, Tryz.results39, go_sem]) rfl ?_
    exact ⟨by rw [HE.out]; rfl, by go_grown⟩
  by_cases h4 : f = 4
  · subst h4
    by_cases hb : b = 0
    · subst hb
      go_enter Tryz.func39, Tryz.ntmps39
      go_wp2_with fail
      refine bodyPost_ret (v := .tuple #[.int .i64 0, .iface 54 (.int .i64 6)]) (by simp [results, Tryz.results39, go_sem]) rfl ?_
      exact ⟨rfl, by go_grown⟩
    · have HE := Lib.hid (twoE_ok (f := 4) (a := a) (b := b) (by omega) (by omega) (fun _ => hb) (by omega))
      have HV := Lib.hid (show twoV 4 a b = wrap64 (Int.fdiv a b) by unfold twoV; simp [hb])
      refine (two_div a b w hb).mono ?_
      rintro e w1 ⟨rfl, hb1⟩
      exact ⟨by rw [HE.out, HV.out]; rfl, hb1⟩
  by_cases h5 : f = 5
  · subst h5
    have HE := Lib.hid (twoE_ok (f := 5) (a := a) (b := b) (by omega) (by omega) (by omega) (by omega))
    by_cases ha : a = 0
    · subst ha
      go_enter Tryz.func39, Tryz.ntmps39
      go_wp2_with fail
      refine bodyPost_ret (v := .tuple #[.int .i64 b, .nilIface]) (by simp [results, Tryz.results39, go_sem]) rfl ?_
      exact ⟨by rw [HE.out]; rfl, by go_grown⟩
    · have HV := Lib.hid (show twoV 5 a b = wrap64 (b - a * Int.fdiv b a) by unfold twoV; simp [ha])
      refine (two_res a b w ha).mono ?_
      rintro e w1 ⟨rfl, hb1⟩
      exact ⟨by rw [HE.out, HV.out]; rfl, hb1⟩
  by_cases h6 : f = 6
  · subst h6
    have HE := Lib.hid (twoE_ok (f := 6) (a := a) (b := b) (by omega) (by omega) (by omega) (by omega))
    go_enter Tryz.func39, Tryz.ntmps39
    go_wp2_with fail
    refine bodyPost_ret (v := .tuple #[.int .i64 (max a b), .nilIface]) (by simp [results, Tryz.results39, go_sem]) rfl ?_
    exact ⟨by rw [HE.out]; rfl, by go_grown⟩
  by_cases h7 : f = 7
  · subst h7
    have HE := Lib.hid (twoE_ok (f := 7) (a := a) (b := b) (by omega) (by omega) (by omega) (by omega))
    go_enter Tryz.func39, Tryz.ntmps39
    go_wp2_with fail
    refine bodyPost_ret (v := .tuple #[.int .i64 (min a b), .nilIface]) (by simp [results, Tryz.results39, go_sem]) rfl ?_
    exact ⟨by rw [HE.out]; rfl, by go_grown⟩
  by_cases h8 : f = 8
  · subst h8
    have HE := Lib.hid (twoE_ok (f := 8) (a := a) (b := b) (by omega) (by omega) (by omega) (by omega))
    have HC := Lib.hid (compare_8 a b w)
    go_enter Tryz.func39, Tryz.ntmps39
    go_wp2_with fail
    refine HC.out.mono ?_
    rintro e w1 ⟨rfl, rfl⟩
    go_wp2_with fail
    refine bodyPost_ret (v := .tuple #[.int .i64 (bitV (a = b)), .nilIface]) (by simp [results, Tryz.results39, go_sem]) rfl ?_
    exact ⟨by rw [HE.out]; rfl, by go_grown⟩
  by_cases h9 : f = 9
  · subst h9
    have HE := Lib.hid (twoE_ok (f := 9) (a := a) (b := b) (by omega) (by omega) (by omega) (by omega))
    have HC := Lib.hid (compare_9 a b w)
    go_enter Tryz.func39, Tryz.ntmps39
    go_wp2_with fail
    refine HC.out.mono ?_
    rintro e w1 ⟨rfl, rfl⟩
    go_wp2_with fail
    refine bodyPost_ret (v := .tuple #[.int .i64 (bitV (a ≠ b)), .nilIface]) (by simp [results, Tryz.results39, go_sem]) rfl ?_
    exact ⟨by rw [HE.out]; rfl, by go_grown⟩
  by_cases h10 : f = 10
  · subst h10
    have HE := Lib.hid (twoE_ok (f := 10) (a := a) (b := b) (by omega) (by omega) (by omega) (by omega))
    have HC := Lib.hid (compare_10 a b w)
    go_enter Tryz.func39, Tryz.ntmps39
    go_wp2_with fail
    refine HC.out.mono ?_
    rintro e w1 ⟨rfl, rfl⟩
    go_wp2_with fail
    refine bodyPost_ret (v := .tuple #[.int .i64 (bitV (a < b)), .nilIface]) (by simp [results, Tryz.results39, go_sem]) rfl ?_
    exact ⟨by rw [HE.out]; rfl, by go_grown⟩
  by_cases h11 : f = 11
  · subst h11
    have HE := Lib.hid (twoE_ok (f := 11) (a := a) (b := b) (by omega) (by omega) (by omega) (by omega))
    have HC := Lib.hid (compare_11 a b w)
    go_enter Tryz.func39, Tryz.ntmps39
    go_wp2_with fail
    refine HC.out.mono ?_
    rintro e w1 ⟨rfl, rfl⟩
    go_wp2_with fail
    refine bodyPost_ret (v := .tuple #[.int .i64 (bitV (a ≤ b)), .nilIface]) (by simp [results, Tryz.results39, go_sem]) rfl ?_
    exact ⟨by rw [HE.out]; rfl, by go_grown⟩
  by_cases h12 : f = 12
  · subst h12
    have HE := Lib.hid (twoE_ok (f := 12) (a := a) (b := b) (by omega) (by omega) (by omega) (by omega))
    have HC := Lib.hid (compare_12 a b w)
    go_enter Tryz.func39, Tryz.ntmps39
    go_wp2_with fail
    refine HC.out.mono ?_
    rintro e w1 ⟨rfl, rfl⟩
    go_wp2_with fail
    refine bodyPost_ret (v := .tuple #[.int .i64 (bitV (b ≤ a)), .nilIface]) (by simp [results, Tryz.results39, go_sem]) rfl ?_
    exact ⟨by rw [HE.out]; rfl, by go_grown⟩
  by_cases h13 : f = 13
  · subst h13
    have HE := Lib.hid (twoE_ok (f := 13) (a := a) (b := b) (by omega) (by omega) (by omega) (by omega))
    have HC := Lib.hid (compare_13 a b w)
    go_enter Tryz.func39, Tryz.ntmps39
    go_wp2_with fail
    refine HC.out.mono ?_
    rintro e w1 ⟨rfl, rfl⟩
    go_wp2_with fail
    refine bodyPost_ret (v := .tuple #[.int .i64 (bitV (b < a)), .nilIface]) (by simp [results, Tryz.results39, go_sem]) rfl ?_
    exact ⟨by rw [HE.out]; rfl, by go_grown⟩
  by_cases h14 : f = 14
  · subst h14
    have HE := Lib.hid (twoE_ok (f := 14) (a := a) (b := b) (by omega) (by omega) (by omega) (by omega))
    go_enter Tryz.func39, Tryz.ntmps39
    go_wp2_with fail
    refine bodyPost_ret (v := .tuple #[.int .i64 (bits BinOp.and IntKind.i64 a b), .nilIface]) (by simp [results, Tryz.results39, go_sem]) rfl ?_
    exact ⟨by rw [HE.out]; rfl, by go_grown⟩
  by_cases h15 : f = 15
  · subst h15
    have HE := Lib.hid (twoE_ok (f := 15) (a := a) (b := b) (by omega) (by omega) (by omega) (by omega))
    go_enter Tryz.func39, Tryz.ntmps39
    go_wp2_with fail
    refine bodyPost_ret (v := .tuple #[.int .i64 (bits BinOp.or IntKind.i64 a b), .nilIface]) (by simp [results, Tryz.results39, go_sem]) rfl ?_
    exact ⟨by rw [HE.out]; rfl, by go_grown⟩
  by_cases h16 : f = 16
  · subst h16
    by_cases hb : b < 0
    · have HE := Lib.hid (show twoE 16 a b = 6 by unfold twoE; simp [hb])
      have HV := Lib.hid (show twoV 16 a b = 0 by unfold twoV; simp [hb])
      have e1 : decide (b < 0) = true := by simpa using hb
      clear hb
      go_enter Tryz.func39, Tryz.ntmps39
      go_wp2_with fail
      refine bodyPost_ret (v := .tuple #[.int .i64 0, .iface 54 (.int .i64 6)]) (by simp [results, Tryz.results39, go_sem]) rfl ?_
      exact ⟨by rw [HE.out, HV.out]; rfl, by go_grown⟩
    · have HE := Lib.hid (twoE_ok (f := 16) (a := a) (b := b) (by omega) (by omega) (by omega) (fun _ => by omega))
      have HV := Lib.hid (show twoV 16 a b = wrap64 (a ^ b.toNat) by unfold twoV; simp [hb])
      obtain ⟨n, rfl⟩ := Int.eq_ofNat_of_zero_le (Int.not_lt.1 hb)
      rw [Int.toNat_natCast] at HV
      have HC := Lib.hid (power_any a n (by have := hbw rfl; omega) w)
      have hn : ¬ (n : Int) < 0 := hb
      clear hb
      go_enter Tryz.func39, Tryz.ntmps39
      go_wp2_with fail
      refine HC.out.mono ?_
      rintro e w1 ⟨rfl, rfl⟩
      go_wp2_with fail
      refine bodyPost_ret (v := .tuple #[.int .i64 (wrap64 (a ^ n)), .nilIface]) (by simp [results, Tryz.results39, go_sem]) rfl ?_
      exact ⟨by rw [HE.out, HV.out]; rfl, by go_grown⟩
  have HE := Lib.hid (show twoE f a b = 1 by unfold twoE; rw [if_pos (by omega)])
  have HV := Lib.hid (show twoV f a b = 0 by unfold twoV; simp [h1, h2, h3, h4, h5, h6, h7, h8, h9, h10, h11, h12, h13, h14, h15, h16])
  have e1 : (f == 1) = false := by simp [h1]
  have e2 : (f == 2) = false := by simp [h2]
  have e3 : (f == 3) = false := by simp [h3]
  have e4 : (f == 4) = false := by simp [h4]
  have e5 : (f == 5) = false := by simp [h5]
  have e6 : (f == 6) = false := by simp [h6]
  have e7 : (f == 7) = false := by simp [h7]
  have e8 : (f == 8) = false := by simp [h8]
  have e9 : (f == 9) = false := by simp [h9]
  have e10 : (f == 10) = false := by simp [h10]
  have e11 : (f == 11) = false := by simp [h11]
  have e12 : (f == 12) = false := by simp [h12]
  have e13 : (f == 13) = false := by simp [h13]
  have e14 : (f == 14) = false := by simp [h14]
  have e15 : (f == 15) = false := by simp [h15]
  have e16 : (f == 16) = false := by simp [h16]
  clear h1 h2 h3 h4 h5 h6 h7 h8 h9 h10 h11 h12 h13 h14 h15 h16
  go_enter Tryz.func39, Tryz.ntmps39
  go_wp2_with fail
  refine bodyPost_ret (v := .tuple #[.int .i64 0, .iface 54 (.int .i64 1)]) (by simp [results, Tryz.results39, go_sem]) rfl ?_
  exact ⟨by rw [HE.out, HV.out]; rfl, by go_grown⟩

def neutV (f : Int) : Int := if f = 3 ∨ f = 4 ∨ f = 16 then 1 else if f = 6 then -9223372036854775808 else if f = 7 then 9223372036854775807 else if f = 14 then -1 else 0
def neutE (f : Int) : Int := if f < 1 ∨ 16 < f then 1 else if 8 ≤ f ∧ f ≤ 13 then 6 else 0
set_option maxRecDepth 100000 in
set_option maxHeartbeats 4000000 in
theorem neutral_any (f : Int) (w : World) : Calls Tryz.prog 22 #[.int .i64 f] w fun e w' => e = .returned (.tuple #[.int .i64 (neutV f), errV (neutE f)]) ∧ w = w' := by
  by_cases h1 : f = 1
  · subst h1
    go_enter Tryz.func22, Tryz.ntmps22
    go_wp2_with fail
    refine bodyPost_ret (v := .tuple #[.int .i64 (0), .nilIface]) (by simp [results, Tryz.results22, go_sem]) rfl ?_
    exact ⟨rfl, rfl⟩
  by_cases h2 : f = 2
  · subst h2
    go_enter Tryz.func22, Tryz.ntmps22
    go_wp2_with fail
    refine bodyPost_ret (v := .tuple #[.int .i64 (0), .nilIface]) (by simp [results, Tryz.results22, go_sem]) rfl ?_
    exact ⟨rfl, rfl⟩
  by_cases h3 : f = 3
  · subst h3
    go_enter Tryz.func22, Tryz.ntmps22
    go_wp2_with fail
    refine bodyPost_ret (v := .tuple #[.int .i64 (1), .nilIface]) (by simp [results, Tryz.results22, go_sem]) rfl ?_
    exact ⟨rfl, rfl⟩
  by_cases h4 : f = 4
  · subst h4
    go_enter Tryz.func22, Tryz.ntmps22
    go_wp2_with fail
    refine bodyPost_ret (v := .tuple #[.int .i64 (1), .nilIface]) (by simp [results, Tryz.results22, go_sem]) rfl ?_
    exact ⟨rfl, rfl⟩
  by_cases h5 : f = 5
  · subst h5
    go_enter Tryz.func22, Tryz.ntmps22
    go_wp2_with fail
    refine bodyPost_ret (v := .tuple #[.int .i64 (0), .nilIface]) (by simp [results, Tryz.results22, go_sem]) rfl ?_
    exact ⟨rfl, rfl⟩
  by_cases h6 : f = 6
  · subst h6
    go_enter Tryz.func22, Tryz.ntmps22
    go_wp2_with fail
    refine bodyPost_ret (v := .tuple #[.int .i64 (-9223372036854775808), .nilIface]) (by simp [results, Tryz.results22, go_sem]) rfl ?_
    exact ⟨rfl, rfl⟩
  by_cases h7 : f = 7
  · subst h7
    go_enter Tryz.func22, Tryz.ntmps22
    go_wp2_with fail
    refine bodyPost_ret (v := .tuple #[.int .i64 (9223372036854775807), .nilIface]) (by simp [results, Tryz.results22, go_sem]) rfl ?_
    exact ⟨rfl, rfl⟩
  by_cases h8 : f = 8
  · subst h8
    go_enter Tryz.func22, Tryz.ntmps22
    go_wp2_with fail
    refine bodyPost_ret (v := .tuple #[.int .i64 (0), .iface 54 (.int .i64 6)]) (by simp [results, Tryz.results22, go_sem]) rfl ?_
    exact ⟨rfl, rfl⟩
  by_cases h9 : f = 9
  · subst h9
    go_enter Tryz.func22, Tryz.ntmps22
    go_wp2_with fail
    refine bodyPost_ret (v := .tuple #[.int .i64 (0), .iface 54 (.int .i64 6)]) (by simp [results, Tryz.results22, go_sem]) rfl ?_
    exact ⟨rfl, rfl⟩
  by_cases h10 : f = 10
  · subst h10
    go_enter Tryz.func22, Tryz.ntmps22
    go_wp2_with fail
    refine bodyPost_ret (v := .tuple #[.int .i64 (0), .iface 54 (.int .i64 6)]) (by simp [results, Tryz.results22, go_sem]) rfl ?_
    exact ⟨rfl, rfl⟩
  by_cases h11 : f = 11
  · subst h11
    go_enter Tryz.func22, Tryz.ntmps22
    go_wp2_with fail
    refine bodyPost_ret (v := .tuple #[.int .i64 (0), .iface 54 (.int .i64 6)]) (by simp [results, Tryz.results22, go_sem]) rfl ?_
    exact ⟨rfl, rfl⟩
  by_cases h12 : f = 12
  · subst h12
    go_enter Tryz.func22, Tryz.ntmps22
    go_wp2_with fail
    refine bodyPost_ret (v := .tuple #[.int .i64 (0), .iface 54 (.int .i64 6)]) (by simp [results, Tryz.results22, go_sem]) rfl ?_
    exact ⟨rfl, rfl⟩
  by_cases h13 : f = 13
  · subst h13
    go_enter Tryz.func22, Tryz.ntmps22
    go_wp2_with fail
    refine bodyPost_ret (v := .tuple #[.int .i64 (0), .iface 54 (.int .i64 6)]) (by simp [results, Tryz.results22, go_sem]) rfl ?_
    exact ⟨rfl, rfl⟩
  by_cases h14 : f = 14
  · subst h14
    go_enter Tryz.func22, Tryz.ntmps22
    go_wp2_with fail
    refine bodyPost_ret (v := .tuple #[.int .i64 (-1), .nilIface]) (by simp [results, Tryz.results22, go_sem]) rfl ?_
    exact ⟨rfl, rfl⟩
  by_cases h15 : f = 15
  · subst h15
    go_enter Tryz.func22, Tryz.ntmps22
    go_wp2_with fail
    refine bodyPost_ret (v := .tuple #[.int .i64 (0), .nilIface]) (by simp [results, Tryz.results22, go_sem]) rfl ?_
    exact ⟨rfl, rfl⟩
  by_cases h16 : f = 16
  · subst h16
    go_enter Tryz.func22, Tryz.ntmps22
    go_wp2_with fail
    refine bodyPost_ret (v := .tuple #[.int .i64 (1), .nilIface]) (by simp [results, Tryz.results22, go_sem]) rfl ?_
    exact ⟨rfl, rfl⟩
  have HE := Lib.hid (show neutE f = 1 by unfold neutE; rw [if_pos (by omega)])
  have HV := Lib.hid (show neutV f = 0 by unfold neutV; simp [h3, h4, h16, h6, h7, h14])
  have e1 : (f == 1) = false := by simp [h1]
  have e2 : (f == 2) = false := by simp [h2]
  have e3 : (f == 3) = false := by simp [h3]
  have e4 : (f == 4) = false := by simp [h4]
  have e5 : (f == 5) = false := by simp [h5]
  have e6 : (f == 6) = false := by simp [h6]
  have e7 : (f == 7) = false := by simp [h7]
  have e8 : (f == 8) = false := by simp [h8]
  have e9 : (f == 9) = false := by simp [h9]
  have e10 : (f == 10) = false := by simp [h10]
  have e11 : (f == 11) = false := by simp [h11]
  have e12 : (f == 12) = false := by simp [h12]
  have e13 : (f == 13) = false := by simp [h13]
  have e14 : (f == 14) = false := by simp [h14]
  have e15 : (f == 15) = false := by simp [h15]
  have e16 : (f == 16) = false := by simp [h16]
  clear h1 h2 h3 h4 h5 h6 h7 h8 h9 h10 h11 h12 h13 h14 h15 h16
  go_enter Tryz.func22, Tryz.ntmps22
  go_wp2_with fail
  refine bodyPost_ret (v := .tuple #[.int .i64 0, .iface 54 (.int .i64 1)]) (by simp [results, Tryz.results22, go_sem]) rfl ?_
  exact ⟨by rw [HE.out, HV.out]; rfl, rfl⟩

end Go.Proofs.YtihndbkaoejnnaaGreatDoor
