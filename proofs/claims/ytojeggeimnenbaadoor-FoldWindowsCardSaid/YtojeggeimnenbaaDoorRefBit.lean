/- The walk of the reference's bitwise and raised. Conditions: none. -/
import Derived.Test.YtojeggeimnenbaaDoorCellTwo
import Derived.Test.YtojeggeimnenbaaDoorMonoPlain
set_option linter.unusedSimpArgs false
set_option linter.unusedVariables false
namespace Go.Proofs.YtojeggeimnenbaaDoor.P
open Go Go.RowKit
def wordN (x : Int) : Nat := (BitVec.ofInt 64 x).toNat
theorem wordN_wrap (x : Int) : IntKind.u64.wrap x = (wordN x : Int) := by
  unfold wordN
  rw [IntKind.wrap_u64, BitVec.toNat_ofInt]
  omega
theorem wordN_lt (x : Int) : wordN x < 18446744073709551616 := (BitVec.ofInt 64 x).isLt
def opN (both : Bool) (a b : Nat) : Nat := if both then a &&& b else a ||| b
def opB (both : Bool) (x y : Nat) : Nat := if both then (if x = 1 ∧ y = 1 then 1 else 0) else (if x = 1 ∨ y = 1 then 1 else 0)
theorem opN_half (both : Bool) (p q : Nat) : opN both p q = 2 * opN both (p / 2) (q / 2) + opB both (p % 2) (q % 2) := by
  have h := (Nat.div_add_mod (opN both p q) 2).symm
  have e1 : opN both p q / 2 = opN both (p / 2) (q / 2) := by
    unfold opN
    cases both
    · exact Nat.or_div_two
    · exact Nat.and_div_two
  have e2 : opN both p q % 2 = opB both (p % 2) (q % 2) := by
    have hp := Nat.mod_two_eq_zero_or_one p
    have hq := Nat.mod_two_eq_zero_or_one q
    unfold opN opB
    cases both
    · have := Nat.or_mod_two_eq_one (a := p) (b := q)
      simp only [Bool.false_eq_true, if_false]
      split <;> omega
    · have := Nat.and_mod_two_eq_one (a := p) (b := q)
      simp only [if_true]
      split <;> omega
  rw [e1, e2] at h
  exact h
theorem opN_lt {both : Bool} {a b n : Nat} (ha : a < 2 ^ n) (hb : b < 2 ^ n) : opN both a b < 2 ^ n := by
  unfold opN
  cases both
  · exact Nat.or_lt_two_pow ha hb
  · exact Nat.and_lt_two_pow _ hb
theorem bit_at (a : Int) (i : Nat) : (IntKind.u64.wrap a / 2 ^ i).tmod 2 = ((wordN a / 2 ^ i % 2 : Nat) : Int) := by
  rw [wordN_wrap, show ((2 : Int) ^ i) = ((2 ^ i : Nat) : Int) by simp, ← Int.natCast_ediv]
  exact (Int.ofNat_tmod _ 2).symm
theorem wrap_is (x : Int) : IntKind.i64.wrap x = wrap64 x := by rw [IntKind.wrap_i64]; unfold wrap64; rfl
theorem opN_bits (both : Bool) (a b : Int) : IntKind.i64.wrap ((opN both (wordN a) (wordN b) : Nat) : Int) = if both then bits BinOp.and IntKind.i64 a b else bits BinOp.or IntKind.i64 a b := by
  unfold opN wordN
  cases both
  · show IntKind.i64.wrap (((BitVec.ofInt 64 a).toNat ||| (BitVec.ofInt 64 b).toNat : Nat) : Int) = bits BinOp.or IntKind.i64 a b
    rw [bits_or, BitVec.toNat_or]
  · show IntKind.i64.wrap (((BitVec.ofInt 64 a).toNat &&& (BitVec.ofInt 64 b).toNat : Nat) : Int) = bits BinOp.and IntKind.i64 a b
    rw [bits_and, BitVec.toNat_and]
end Go.Proofs.YtojeggeimnenbaaDoor.P
namespace Go.Proofs.YtojeggeimnenbaaDoor
open Go Go.RowKit Go.Proofs.YtojeggeimnenbaaDoor.P
set_option maxRecDepth 100000 in
set_option maxHeartbeats 1000000 in
theorem bitwise_any (a b : Int) (both : Bool) (w : World) : Calls Tryd.prog 73 #[.int .i64 a, .int .i64 b, .bool both] w fun e w' => e = .returned (.int .i64 (if both then bits BinOp.and IntKind.i64 a b else bits BinOp.or IntKind.i64 a b)) ∧ w = w' := by
  rw [← opN_bits, wrap_is]
  have HA := Lib.hid (wordN_lt a)
  have HB := Lib.hid (wordN_lt b)
  have FA := Lib.hid (bit_at a)
  have FB := Lib.hid (bit_at b)
  obtain ⟨A, hA⟩ : ∃ A, A = wordN a := ⟨_, rfl⟩
  obtain ⟨B, hB⟩ : ∃ B, B = wordN b := ⟨_, rfl⟩
  rw [← hA] at HA FA ⊢
  rw [← hB] at HB FB ⊢
  clear hA hB
  go_enter Tryd.func73, Tryd.ntmps73
  go_wp2_with fail
  go_loop [8, 7] (fun s8 s7 => ∃ (s : Nat), s ≤ 64 ∧ s8 = .int .i64 ((s : Int) - 1) ∧ s7 = .int .u64 ((opN both (A / 2 ^ s) (B / 2 ^ s) : Nat) : Int)) (fun s8 _ => (intOf s8 + 1).toNat)
  case atStart => exact ⟨64, by omega, rfl, by
    have h1 := HA.out
    have h2 := HB.out
    rw [Nat.div_eq_of_lt (show A < 2 ^ 64 by omega), Nat.div_eq_of_lt (show B < 2 ^ 64 by omega)]
    cases both <;> rfl⟩
  case round =>
    obtain ⟨s, hs, rfl, rfl⟩ := hrel
    rcases Nat.eq_zero_or_pos s with h0 | h0
    · subst h0
      rw [Nat.pow_zero, Nat.div_one, Nat.div_one]
      obtain ⟨O, hO⟩ : ∃ O, O = opN both A B := ⟨_, rfl⟩
      rw [← hO]
      have HO := Lib.hid hO
      clear hO hs
      go_wp2_with fail
      go_ret
      exact ⟨by rw [← HO.out]; rfl, rfl⟩
    · obtain ⟨i, rfl⟩ : ∃ i, s = i + 1 := ⟨s - 1, by omega⟩
      have e1 : ((i + 1 : Nat) : Int) - 1 = (i : Int) := by omega
      rw [e1]
      have HS := Lib.hid (opN_half both (A / 2 ^ i) (B / 2 ^ i))
      rw [Nat.div_div_eq_div_mul, Nat.div_div_eq_div_mul, ← Nat.pow_succ] at HS
      have hL : opN both (A / 2 ^ (i + 1)) (B / 2 ^ (i + 1)) < 2 ^ 63 := by
        have h1 := HA.out
        have h2 := HB.out
        have h3 : A / 2 ^ (i + 1) ≤ A / 2 ^ 1 := Nat.div_le_div_left (Nat.pow_le_pow_right (by decide) (by omega)) (by decide)
        have h4 : B / 2 ^ (i + 1) ≤ B / 2 ^ 1 := Nat.div_le_div_left (Nat.pow_le_pow_right (by decide) (by omega)) (by decide)
        exact opN_lt (by omega) (by omega)
      obtain ⟨O, hO⟩ : ∃ O, O = opN both (A / 2 ^ (i + 1)) (B / 2 ^ (i + 1)) := ⟨_, rfl⟩
      rw [← hO] at HS hL ⊢
      have hw1 : IntKind.u64.wrap ((O : Int) * 2) = 2 * (O : Int) := by rw [IntKind.wrap_u64]; omega
      have hw2 : IntKind.u64.wrap (2 * (O : Int) + 1) = 2 * (O : Int) + 1 := by rw [IntKind.wrap_u64]; omega
      have hsub : IntKind.i64.wrap ((i : Int) - 1) = (i : Int) - 1 := IntWalk.i64_in _ (by omega)
      have d1 : decide ((0 : Int) ≤ (i : Int)) = true := by simp
      have HH := Lib.hid hs
      have hi63 : i < 64 := by omega
      clear hO hL e1 h0 hs
      rcases Nat.mod_two_eq_zero_or_one (A / 2 ^ i) with hx | hx
      · have fa : (IntKind.u64.wrap a / 2 ^ i).tmod 2 = 0 := by rw [FA.out i, hx]; rfl
        rcases Nat.mod_two_eq_zero_or_one (B / 2 ^ i) with hy | hy
        · have fb : (IntKind.u64.wrap b / 2 ^ i).tmod 2 = 0 := by rw [FB.out i, hy]; rfl
          rw [hx, hy] at HS
          clear hx hy
          cases both
          · go_wp2_with fail
            go_round
            case rel => exact ⟨i, by have := HH.out; omega, by simp, by rw [HS.out]; simp [opB]⟩
            case measure => first | (simp [intOf]; omega) | simp [intOf]
          · go_wp2_with fail
            go_round
            case rel => exact ⟨i, by have := HH.out; omega, by simp, by rw [HS.out]; simp [opB]⟩
            case measure => first | (simp [intOf]; omega) | simp [intOf]
        · have fb : (IntKind.u64.wrap b / 2 ^ i).tmod 2 = 1 := by rw [FB.out i, hy]; rfl
          rw [hx, hy] at HS
          clear hx hy
          cases both
          · go_wp2_with fail
            go_round
            case rel => exact ⟨i, by have := HH.out; omega, by simp, by rw [HS.out]; simp [opB]⟩
            case measure => first | (simp [intOf]; omega) | simp [intOf]
          · go_wp2_with fail
            go_round
            case rel => exact ⟨i, by have := HH.out; omega, by simp, by rw [HS.out]; simp [opB]⟩
            case measure => first | (simp [intOf]; omega) | simp [intOf]
      · have fa : (IntKind.u64.wrap a / 2 ^ i).tmod 2 = 1 := by rw [FA.out i, hx]; rfl
        rcases Nat.mod_two_eq_zero_or_one (B / 2 ^ i) with hy | hy
        · have fb : (IntKind.u64.wrap b / 2 ^ i).tmod 2 = 0 := by rw [FB.out i, hy]; rfl
          rw [hx, hy] at HS
          clear hx hy
          cases both
          · go_wp2_with fail
            go_round
            case rel => exact ⟨i, by have := HH.out; omega, by simp, by rw [HS.out]; simp [opB]⟩
            case measure => first | (simp [intOf]; omega) | simp [intOf]
          · go_wp2_with fail
            go_round
            case rel => exact ⟨i, by have := HH.out; omega, by simp, by rw [HS.out]; simp [opB]⟩
            case measure => first | (simp [intOf]; omega) | simp [intOf]
        · have fb : (IntKind.u64.wrap b / 2 ^ i).tmod 2 = 1 := by rw [FB.out i, hy]; rfl
          rw [hx, hy] at HS
          clear hx hy
          cases both
          · go_wp2_with fail
            go_round
            case rel => exact ⟨i, by have := HH.out; omega, by simp, by rw [HS.out]; simp [opB]⟩
            case measure => first | (simp [intOf]; omega) | simp [intOf]
          · go_wp2_with fail
            go_round
            case rel => exact ⟨i, by have := HH.out; omega, by simp, by rw [HS.out]; simp [opB]⟩
            case measure => first | (simp [intOf]; omega) | simp [intOf]

set_option maxRecDepth 100000 in
set_option maxHeartbeats 4000000 in
theorem raised_nat (N : Nat) : ∀ (a : Int) (b : Nat) (w : World), b ≤ N → b ≤ 9223372036854775807 → Calls Tryd.prog 65 #[.int .i64 a, .int .i64 b] w fun e w' => e = .returned (.int .i64 (wrap64 (a ^ b))) ∧ w = w' := by
  induction N with
  | zero =>
    intro a b w hb hw
    obtain rfl : b = 0 := by omega
    go_enter Tryd.func65, Tryd.ntmps65
    go_wp2_with fail
    go_ret
    exact ⟨by
      show Ending.returned (.int .i64 1) = _
      rw [show ((0 : Nat)) = 0 from rfl, Int.pow_zero]
      exact congrArg (fun x => Ending.returned (.int .i64 x)) (by unfold wrap64; omega), rfl⟩
  | succ N ih =>
    intro a b w hb hw
    rcases Nat.eq_zero_or_pos b with h0 | h0
    · subst h0
      exact ih a 0 w (by omega) hw
    have IH := Lib.hid (ih a (b / 2) w (by omega) (by omega))
    have e1 : ((b : Int) == 0) = false := by simp; omega
    have e2 : (b : Int).tdiv 2 = ((b / 2 : Nat) : Int) := (Int.ofNat_tdiv b 2).symm
    have e2w : IntKind.i64.wrap ((b / 2 : Nat) : Int) = ((b / 2 : Nat) : Int) := IntWalk.i64_in _ (by omega)
    have HP := Lib.hid (show a ^ b = a ^ (b / 2) * a ^ (b / 2) * a ^ (b % 2) by rw [← Int.pow_add, ← Int.pow_add]; congr 1; omega)
    obtain ⟨H, hH⟩ : ∃ H, H = b / 2 := ⟨_, rfl⟩
    rw [← hH] at IH e2 e2w HP
    rcases Nat.mod_two_eq_zero_or_one b with h1 | h1
    · have e3 : (b : Int).tmod 2 = 0 := by rw [show (b : Int).tmod 2 = ((b % 2 : Nat) : Int) from (Int.ofNat_tmod b 2).symm, h1]; rfl
      rw [h1] at HP
      clear h1 h0 hb hH ih
      go_enter Tryd.func65, Tryd.ntmps65
      go_wp2_with fail
      refine IH.out.mono ?_
      rintro e w1 ⟨rfl, rfl⟩
      go_wp2_with fail
      go_ret
      exact ⟨by
        show Ending.returned (.int .i64 (wrap64 (wrap64 (a ^ H) * wrap64 (a ^ H)))) = _
        rw [HP.out, Int.pow_zero, Int.mul_one, wrap_mul_l, wrap_mul_r], rfl⟩
    · have e3 : (b : Int).tmod 2 = 1 := by rw [show (b : Int).tmod 2 = ((b % 2 : Nat) : Int) from (Int.ofNat_tmod b 2).symm, h1]; rfl
      rw [h1] at HP
      clear h1 h0 hb hH ih
      go_enter Tryd.func65, Tryd.ntmps65
      go_wp2_with fail
      refine IH.out.mono ?_
      rintro e w1 ⟨rfl, rfl⟩
      go_wp2_with fail
      go_ret
      exact ⟨by
        show Ending.returned (.int .i64 (wrap64 (wrap64 (wrap64 (a ^ H) * wrap64 (a ^ H)) * a))) = _
        rw [HP.out, Int.pow_one, wrap_mul_l, Int.mul_assoc (wrap64 (a ^ H)), wrap_mul_l, Int.mul_left_comm, wrap_mul_l, Int.mul_left_comm, Int.mul_assoc], rfl⟩
theorem raised_any (a : Int) (b : Nat) (w : World) (hw : b ≤ 9223372036854775807) : Calls Tryd.prog 65 #[.int .i64 a, .int .i64 b] w fun e w' => e = .returned (.int .i64 (wrap64 (a ^ b))) ∧ w = w' := raised_nat b a b w (Nat.le_refl _) hw
end Go.Proofs.YtojeggeimnenbaaDoor
