/- The walk of the reference Quotient: digit by digit. Conditions: none. -/
import Derived.Test.YtojeggeimnenbaaDoorQuoPlain
import Derived.Test.YtojeggeimnenbaaDoorGround
set_option linter.unusedSimpArgs false
set_option linter.unusedVariables false
namespace Go.Proofs.YtojeggeimnenbaaDoor
open Go Go.RowKit Go.Proofs.YtojeggeimnenbaaDoor.P

theorem u64_pos {a : Int} (h : 0 ≤ a) (h2 : a ≤ 9223372036854775807) : IntKind.u64.wrap a = ((a.natAbs : Nat) : Int) := by rw [IntWalk.u64_in a (by omega)]; omega
theorem u64_neg {a : Int} (h : a < 0) (h2 : -9223372036854775808 ≤ a) : IntKind.u64.wrap (-IntKind.u64.wrap a) = ((a.natAbs : Nat) : Int) := by
  have e : IntKind.u64.wrap a = a + 18446744073709551616 := by rw [IntKind.wrap_u64]; omega
  rw [e, IntKind.wrap_u64]
  omega
theorem rs_small {X Y k : Nat} (hY : 0 < Y) (hY2 : Y ≤ 9223372036854775808) : rs X Y k < 9223372036854775808 := Nat.lt_of_lt_of_le (rs_lt k hY) hY2
theorem rest_next {X R j : Nat} (hR : R < 9223372036854775808) : IntKind.u64.wrap ((R : Int) * 2 + ((X : Int) / 2 ^ j).tmod 2) = ((2 * R + X / 2 ^ j % 2 : Nat) : Int) := by
  have e : (X : Int) / 2 ^ j = ((X / 2 ^ j : Nat) : Int) := by simp
  rw [e]
  generalize X / 2 ^ j = Z
  rw [Int.tmod_eq_emod_of_nonneg (by omega), IntWalk.u64_in _ (by omega)]
  omega
theorem wrap_u64 (z : Int) : wrap64 (IntKind.u64.wrap z) = wrap64 z := by
  rw [IntKind.wrap_u64]
  unfold wrap64
  omega
theorem wrap_u64_neg (z : Int) : wrap64 (IntKind.u64.wrap (-IntKind.u64.wrap z)) = wrap64 (-z) := by
  rw [IntKind.wrap_u64, IntKind.wrap_u64]
  unfold wrap64
  omega
theorem pow_next {Q j : Nat} (h : Q + 2 ^ j < 18446744073709551616) : IntKind.u64.wrap ((Q : Int) + IntKind.u64.wrap (2 ^ j)) = ((Q + 2 ^ j : Nat) : Int) := by
  have e : (2 : Int) ^ j = ((2 ^ j : Nat) : Int) := by simp
  rw [e]
  generalize 2 ^ j = Z at *
  rw [IntWalk.u64_in (Z : Int) (by omega), IntWalk.u64_in _ (by omega)]
  omega
theorem qs_next {X Y j : Nat} (hY : 0 < Y) (hX : X < 18446744073709551616) (h : Y ≤ 2 * rs X Y (j + 1) + X / 2 ^ j % 2) : qs X Y (j + 1) + 2 ^ j < 18446744073709551616 := by
  have h1 := (quo_yes hY h).1
  have h2 := qs_le X Y j
  omega

set_option maxRecDepth 100000 in
set_option maxHeartbeats 8000000 in
theorem quotient_ok (a b : Int) (w : World) (hb : b ≠ 0) (ha : -9223372036854775808 ≤ a ∧ a ≤ 9223372036854775807) (hbr : -9223372036854775808 ≤ b ∧ b ≤ 9223372036854775807) :
    Calls Tryd.prog 64 #[.int .i64 a, .int .i64 b] w fun e w' => e = .returned (.int .i64 (wrap64 (Int.fdiv a b))) ∧ w = w' := by
  have hX : a.natAbs ≤ 9223372036854775808 := by omega
  have hY : 0 < b.natAbs := by omega
  have hY2 : b.natAbs ≤ 9223372036854775808 := by omega
  rcases Int.lt_or_le a 0 with ha0 | ha0
  · rcases Int.lt_or_le b 0 with hb0 | hb0
    · go_enter Tryd.func64, Tryd.ntmps64
      have xa := u64_neg ha0 ha.1
      have xb := u64_neg hb0 hbr.1
      have da : decide (a < 0) = true := by simpa using ha0
      have db : decide (b < 0) = true := by simpa using hb0
      have HV := Lib.hid (fdiv_alike (a := a) (b := b) (by rw [da, db]) hb)
      obtain ⟨X, hXX⟩ : ∃ X, X = a.natAbs := ⟨_, rfl⟩
      obtain ⟨Y, hYY⟩ : ∃ Y, Y = b.natAbs := ⟨_, rfl⟩
      rw [← hXX] at xa hX HV
      rw [← hYY] at xb hY hY2 HV
      clear hXX hYY hb ha hbr
      go_wp2_with fail
      clear xa xb
      go_loop [7, 8, 9] (fun sq sr si => ∃ k : Nat, k ≤ 64 ∧ si = .int .i64 ((k : Int) - 1) ∧ sq = .int .u64 (qs X Y k : Nat) ∧ sr = .int .u64 (rs X Y k : Nat)) (fun _ _ si => (intOf si + 1).toNat)
      case atStart => exact ⟨64, Nat.le_refl _, rfl, by rw [qs_start (by omega)]; rfl, by rw [rs_start (by omega)]; rfl⟩
      case round =>
        obtain ⟨k, hk, rfl, rfl, rfl⟩ := hrel
        rcases k with _ | j
        case succ =>
          have hj : ((j + 1 : Nat) : Int) - 1 = (j : Int) := by omega
          rw [hj]
          have hr := rs_small (X := X) (k := j + 1) hY hY2
          have HQY := Lib.hid (fun h => quo_yes (x := X) (y := Y) (i := j) hY h)
          have HQN := Lib.hid (fun h => quo_no (x := X) (y := Y) (i := j) hY h)
          have HQW := Lib.hid (fun h => qs_next (X := X) (Y := Y) (j := j) hY (by omega) h)
          obtain ⟨Q, hQ⟩ : ∃ Q, Q = qs X Y (j + 1) := ⟨_, rfl⟩
          obtain ⟨R, hR⟩ : ∃ R, R = rs X Y (j + 1) := ⟨_, rfl⟩
          rw [← hQ] at HQY HQN HQW ⊢
          rw [← hR] at HQY HQN HQW hr ⊢
          clear hQ hR hj
          have o1 : decide (9223372036854775808 ≤ R) = false := by simp; omega
          have o2 : decide ((9223372036854775808 : Int) ≤ (R : Int)) = false := by simp; omega
          have hT := rest_next (X := X) (j := j) hr
          obtain ⟨T, hTT⟩ : ∃ T, T = 2 * R + X / 2 ^ j % 2 := ⟨_, rfl⟩
          rw [← hTT] at hT HQY HQN HQW
          have hT2 : T < 18446744073709551616 := by omega
          clear hTT
          rcases Nat.lt_or_ge T Y with hTY | hTY
          · have o3 : decide (Y ≤ T) = false := by simp; omega
            have HN := Lib.hid (HQN.out hTY)
            clear HQY HQN HQW
            go_wp2_with fail
            go_round
            case rel => exact ⟨j, by omega, rfl, by rw [HN.out.1], by rw [HN.out.2]⟩
            case measure => simp [intOf]
          · have o3 : decide (Y ≤ T) = true := by simpa using hTY
            have HN := Lib.hid (HQY.out hTY)
            have hsub : IntKind.u64.wrap ((T : Int) - (Y : Int)) = ((T - Y : Nat) : Int) := by rw [IntWalk.u64_in _ (by omega)]; omega
            have HW := Lib.hid (HQW.out hTY)
            clear HQY HQN HQW
            go_wp2_with fail
            go_round
            case rel => exact ⟨j, by omega, rfl, by rw [HN.out.1, pow_next HW.out], by rw [HN.out.2]⟩
            case measure => simp [intOf]
        case zero =>
          have hz : ((0 : Nat) : Int) - 1 = -1 := rfl
          rw [hz]
          have HQ := Lib.hid (qs_last X Y)
          have HR := Lib.hid (rs_last X Y)
          rw [HQ.out, HR.out]
          obtain ⟨q, hq⟩ : ∃ q, q = X / Y := ⟨_, rfl⟩
          obtain ⟨r, hr⟩ : ∃ r, r = X % Y := ⟨_, rfl⟩
          rw [← hq] at HV ⊢
          rw [← hr]
          clear hq hr hz HQ HR
          go_wp2_with fail
          go_ret
          exact ⟨by rw [HV.out]; rfl, rfl⟩
    · go_enter Tryd.func64, Tryd.ntmps64
      have xa := u64_neg ha0 ha.1
      have xb := u64_pos hb0 hbr.2
      have da : decide (a < 0) = true := by simpa using ha0
      have db : decide (b < 0) = false := by simpa using hb0
      have HV := Lib.hid (fdiv_unlike (a := a) (b := b) (by rw [da, db]; simp) hb)
      obtain ⟨X, hXX⟩ : ∃ X, X = a.natAbs := ⟨_, rfl⟩
      obtain ⟨Y, hYY⟩ : ∃ Y, Y = b.natAbs := ⟨_, rfl⟩
      rw [← hXX] at xa hX HV
      rw [← hYY] at xb hY hY2 HV
      clear hXX hYY hb ha hbr
      go_wp2_with fail
      clear xa xb
      go_loop [7, 8, 9] (fun sq sr si => ∃ k : Nat, k ≤ 64 ∧ si = .int .i64 ((k : Int) - 1) ∧ sq = .int .u64 (qs X Y k : Nat) ∧ sr = .int .u64 (rs X Y k : Nat)) (fun _ _ si => (intOf si + 1).toNat)
      case atStart => exact ⟨64, Nat.le_refl _, rfl, by rw [qs_start (by omega)]; rfl, by rw [rs_start (by omega)]; rfl⟩
      case round =>
        obtain ⟨k, hk, rfl, rfl, rfl⟩ := hrel
        rcases k with _ | j
        case succ =>
          have hj : ((j + 1 : Nat) : Int) - 1 = (j : Int) := by omega
          rw [hj]
          have hr := rs_small (X := X) (k := j + 1) hY hY2
          have HQY := Lib.hid (fun h => quo_yes (x := X) (y := Y) (i := j) hY h)
          have HQN := Lib.hid (fun h => quo_no (x := X) (y := Y) (i := j) hY h)
          have HQW := Lib.hid (fun h => qs_next (X := X) (Y := Y) (j := j) hY (by omega) h)
          obtain ⟨Q, hQ⟩ : ∃ Q, Q = qs X Y (j + 1) := ⟨_, rfl⟩
          obtain ⟨R, hR⟩ : ∃ R, R = rs X Y (j + 1) := ⟨_, rfl⟩
          rw [← hQ] at HQY HQN HQW ⊢
          rw [← hR] at HQY HQN HQW hr ⊢
          clear hQ hR hj
          have o1 : decide (9223372036854775808 ≤ R) = false := by simp; omega
          have o2 : decide ((9223372036854775808 : Int) ≤ (R : Int)) = false := by simp; omega
          have hT := rest_next (X := X) (j := j) hr
          obtain ⟨T, hTT⟩ : ∃ T, T = 2 * R + X / 2 ^ j % 2 := ⟨_, rfl⟩
          rw [← hTT] at hT HQY HQN HQW
          have hT2 : T < 18446744073709551616 := by omega
          clear hTT
          rcases Nat.lt_or_ge T Y with hTY | hTY
          · have o3 : decide (Y ≤ T) = false := by simp; omega
            have HN := Lib.hid (HQN.out hTY)
            clear HQY HQN HQW
            go_wp2_with fail
            go_round
            case rel => exact ⟨j, by omega, rfl, by rw [HN.out.1], by rw [HN.out.2]⟩
            case measure => simp [intOf]
          · have o3 : decide (Y ≤ T) = true := by simpa using hTY
            have HN := Lib.hid (HQY.out hTY)
            have hsub : IntKind.u64.wrap ((T : Int) - (Y : Int)) = ((T - Y : Nat) : Int) := by rw [IntWalk.u64_in _ (by omega)]; omega
            have HW := Lib.hid (HQW.out hTY)
            clear HQY HQN HQW
            go_wp2_with fail
            go_round
            case rel => exact ⟨j, by omega, rfl, by rw [HN.out.1, pow_next HW.out], by rw [HN.out.2]⟩
            case measure => simp [intOf]
        case zero =>
          have hz : ((0 : Nat) : Int) - 1 = -1 := rfl
          rw [hz]
          have HQ := Lib.hid (qs_last X Y)
          have HR := Lib.hid (rs_last X Y)
          rw [HQ.out, HR.out]
          obtain ⟨q, hq⟩ : ∃ q, q = X / Y := ⟨_, rfl⟩
          obtain ⟨r, hr⟩ : ∃ r, r = X % Y := ⟨_, rfl⟩
          rw [← hq] at HV ⊢
          rw [← hr]
          rw [← hr] at HV
          clear hq hr hz HQ HR
          rcases Nat.eq_zero_or_pos r with h0 | h0
          · subst h0
            go_wp2_with fail
            go_ret
            exact ⟨by rw [HV.out]; simp [wrap_u64], rfl⟩
          · have h1 : ¬ r = 0 := by omega
            have h2 : ((r : Int) != 0) = true := by simp; omega
            have HR := Lib.hid h1
            go_wp2_with fail
            go_ret
            exact ⟨by rw [HV.out, if_neg HR.out]; simp [wrap_u64_neg], rfl⟩
  · rcases Int.lt_or_le b 0 with hb0 | hb0
    · go_enter Tryd.func64, Tryd.ntmps64
      have xa := u64_pos ha0 ha.2
      have xb := u64_neg hb0 hbr.1
      have da : decide (a < 0) = false := by simpa using ha0
      have db : decide (b < 0) = true := by simpa using hb0
      have HV := Lib.hid (fdiv_unlike (a := a) (b := b) (by rw [da, db]; simp) hb)
      obtain ⟨X, hXX⟩ : ∃ X, X = a.natAbs := ⟨_, rfl⟩
      obtain ⟨Y, hYY⟩ : ∃ Y, Y = b.natAbs := ⟨_, rfl⟩
      rw [← hXX] at xa hX HV
      rw [← hYY] at xb hY hY2 HV
      clear hXX hYY hb ha hbr
      go_wp2_with fail
      clear xa xb
      go_loop [7, 8, 9] (fun sq sr si => ∃ k : Nat, k ≤ 64 ∧ si = .int .i64 ((k : Int) - 1) ∧ sq = .int .u64 (qs X Y k : Nat) ∧ sr = .int .u64 (rs X Y k : Nat)) (fun _ _ si => (intOf si + 1).toNat)
      case atStart => exact ⟨64, Nat.le_refl _, rfl, by rw [qs_start (by omega)]; rfl, by rw [rs_start (by omega)]; rfl⟩
      case round =>
        obtain ⟨k, hk, rfl, rfl, rfl⟩ := hrel
        rcases k with _ | j
        case succ =>
          have hj : ((j + 1 : Nat) : Int) - 1 = (j : Int) := by omega
          rw [hj]
          have hr := rs_small (X := X) (k := j + 1) hY hY2
          have HQY := Lib.hid (fun h => quo_yes (x := X) (y := Y) (i := j) hY h)
          have HQN := Lib.hid (fun h => quo_no (x := X) (y := Y) (i := j) hY h)
          have HQW := Lib.hid (fun h => qs_next (X := X) (Y := Y) (j := j) hY (by omega) h)
          obtain ⟨Q, hQ⟩ : ∃ Q, Q = qs X Y (j + 1) := ⟨_, rfl⟩
          obtain ⟨R, hR⟩ : ∃ R, R = rs X Y (j + 1) := ⟨_, rfl⟩
          rw [← hQ] at HQY HQN HQW ⊢
          rw [← hR] at HQY HQN HQW hr ⊢
          clear hQ hR hj
          have o1 : decide (9223372036854775808 ≤ R) = false := by simp; omega
          have o2 : decide ((9223372036854775808 : Int) ≤ (R : Int)) = false := by simp; omega
          have hT := rest_next (X := X) (j := j) hr
          obtain ⟨T, hTT⟩ : ∃ T, T = 2 * R + X / 2 ^ j % 2 := ⟨_, rfl⟩
          rw [← hTT] at hT HQY HQN HQW
          have hT2 : T < 18446744073709551616 := by omega
          clear hTT
          rcases Nat.lt_or_ge T Y with hTY | hTY
          · have o3 : decide (Y ≤ T) = false := by simp; omega
            have HN := Lib.hid (HQN.out hTY)
            clear HQY HQN HQW
            go_wp2_with fail
            go_round
            case rel => exact ⟨j, by omega, rfl, by rw [HN.out.1], by rw [HN.out.2]⟩
            case measure => simp [intOf]
          · have o3 : decide (Y ≤ T) = true := by simpa using hTY
            have HN := Lib.hid (HQY.out hTY)
            have hsub : IntKind.u64.wrap ((T : Int) - (Y : Int)) = ((T - Y : Nat) : Int) := by rw [IntWalk.u64_in _ (by omega)]; omega
            have HW := Lib.hid (HQW.out hTY)
            clear HQY HQN HQW
            go_wp2_with fail
            go_round
            case rel => exact ⟨j, by omega, rfl, by rw [HN.out.1, pow_next HW.out], by rw [HN.out.2]⟩
            case measure => simp [intOf]
        case zero =>
          have hz : ((0 : Nat) : Int) - 1 = -1 := rfl
          rw [hz]
          have HQ := Lib.hid (qs_last X Y)
          have HR := Lib.hid (rs_last X Y)
          rw [HQ.out, HR.out]
          obtain ⟨q, hq⟩ : ∃ q, q = X / Y := ⟨_, rfl⟩
          obtain ⟨r, hr⟩ : ∃ r, r = X % Y := ⟨_, rfl⟩
          rw [← hq] at HV ⊢
          rw [← hr]
          rw [← hr] at HV
          clear hq hr hz HQ HR
          rcases Nat.eq_zero_or_pos r with h0 | h0
          · subst h0
            go_wp2_with fail
            go_ret
            exact ⟨by rw [HV.out]; simp [wrap_u64], rfl⟩
          · have h1 : ¬ r = 0 := by omega
            have h2 : ((r : Int) != 0) = true := by simp; omega
            have HR := Lib.hid h1
            go_wp2_with fail
            go_ret
            exact ⟨by rw [HV.out, if_neg HR.out]; simp [wrap_u64_neg], rfl⟩
    · go_enter Tryd.func64, Tryd.ntmps64
      have xa := u64_pos ha0 ha.2
      have xb := u64_pos hb0 hbr.2
      have da : decide (a < 0) = false := by simpa using ha0
      have db : decide (b < 0) = false := by simpa using hb0
      have HV := Lib.hid (fdiv_alike (a := a) (b := b) (by rw [da, db]) hb)
      obtain ⟨X, hXX⟩ : ∃ X, X = a.natAbs := ⟨_, rfl⟩
      obtain ⟨Y, hYY⟩ : ∃ Y, Y = b.natAbs := ⟨_, rfl⟩
      rw [← hXX] at xa hX HV
      rw [← hYY] at xb hY hY2 HV
      clear hXX hYY hb ha hbr
      go_wp2_with fail
      clear xa xb
      go_loop [7, 8, 9] (fun sq sr si => ∃ k : Nat, k ≤ 64 ∧ si = .int .i64 ((k : Int) - 1) ∧ sq = .int .u64 (qs X Y k : Nat) ∧ sr = .int .u64 (rs X Y k : Nat)) (fun _ _ si => (intOf si + 1).toNat)
      case atStart => exact ⟨64, Nat.le_refl _, rfl, by rw [qs_start (by omega)]; rfl, by rw [rs_start (by omega)]; rfl⟩
      case round =>
        obtain ⟨k, hk, rfl, rfl, rfl⟩ := hrel
        rcases k with _ | j
        case succ =>
          have hj : ((j + 1 : Nat) : Int) - 1 = (j : Int) := by omega
          rw [hj]
          have hr := rs_small (X := X) (k := j + 1) hY hY2
          have HQY := Lib.hid (fun h => quo_yes (x := X) (y := Y) (i := j) hY h)
          have HQN := Lib.hid (fun h => quo_no (x := X) (y := Y) (i := j) hY h)
          have HQW := Lib.hid (fun h => qs_next (X := X) (Y := Y) (j := j) hY (by omega) h)
          obtain ⟨Q, hQ⟩ : ∃ Q, Q = qs X Y (j + 1) := ⟨_, rfl⟩
          obtain ⟨R, hR⟩ : ∃ R, R = rs X Y (j + 1) := ⟨_, rfl⟩
          rw [← hQ] at HQY HQN HQW ⊢
          rw [← hR] at HQY HQN HQW hr ⊢
          clear hQ hR hj
          have o1 : decide (9223372036854775808 ≤ R) = false := by simp; omega
          have o2 : decide ((9223372036854775808 : Int) ≤ (R : Int)) = false := by simp; omega
          have hT := rest_next (X := X) (j := j) hr
          obtain ⟨T, hTT⟩ : ∃ T, T = 2 * R + X / 2 ^ j % 2 := ⟨_, rfl⟩
          rw [← hTT] at hT HQY HQN HQW
          have hT2 : T < 18446744073709551616 := by omega
          clear hTT
          rcases Nat.lt_or_ge T Y with hTY | hTY
          · have o3 : decide (Y ≤ T) = false := by simp; omega
            have HN := Lib.hid (HQN.out hTY)
            clear HQY HQN HQW
            go_wp2_with fail
            go_round
            case rel => exact ⟨j, by omega, rfl, by rw [HN.out.1], by rw [HN.out.2]⟩
            case measure => simp [intOf]
          · have o3 : decide (Y ≤ T) = true := by simpa using hTY
            have HN := Lib.hid (HQY.out hTY)
            have hsub : IntKind.u64.wrap ((T : Int) - (Y : Int)) = ((T - Y : Nat) : Int) := by rw [IntWalk.u64_in _ (by omega)]; omega
            have HW := Lib.hid (HQW.out hTY)
            clear HQY HQN HQW
            go_wp2_with fail
            go_round
            case rel => exact ⟨j, by omega, rfl, by rw [HN.out.1, pow_next HW.out], by rw [HN.out.2]⟩
            case measure => simp [intOf]
        case zero =>
          have hz : ((0 : Nat) : Int) - 1 = -1 := rfl
          rw [hz]
          have HQ := Lib.hid (qs_last X Y)
          have HR := Lib.hid (rs_last X Y)
          rw [HQ.out, HR.out]
          obtain ⟨q, hq⟩ : ∃ q, q = X / Y := ⟨_, rfl⟩
          obtain ⟨r, hr⟩ : ∃ r, r = X % Y := ⟨_, rfl⟩
          rw [← hq] at HV ⊢
          rw [← hr]
          clear hq hr hz HQ HR
          go_wp2_with fail
          go_ret
          exact ⟨by rw [HV.out]; rfl, rfl⟩

end Go.Proofs.YtojeggeimnenbaaDoor
