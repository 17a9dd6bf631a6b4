/- Plain facts: a quotient, digit by digit. Conditions: none. -/
import Derived.Test.YtojeggeimnenbaaDoorGround
set_option linter.unusedSimpArgs false
set_option linter.unusedVariables false
namespace Go.Proofs.YtojeggeimnenbaaDoor.P

/-- What the quotient's and the rest's digits are down to the digit i. -/
def qs (x y i : Nat) : Nat := x / 2 ^ i / y * 2 ^ i
def rs (x y i : Nat) : Nat := x / 2 ^ i % y

theorem qs_start {x y : Nat} (hx : x < 18446744073709551616) : qs x y 64 = 0 := by
  unfold qs
  rw [Nat.div_eq_of_lt (show x < 2 ^ 64 from hx)]
  simp
theorem rs_start {x y : Nat} (hx : x < 18446744073709551616) : rs x y 64 = 0 := by
  unfold rs
  rw [Nat.div_eq_of_lt (show x < 2 ^ 64 from hx)]
  simp
theorem half_pow (x i : Nat) : x / 2 ^ i = 2 * (x / 2 ^ (i + 1)) + x / 2 ^ i % 2 := by
  have h : x / 2 ^ (i + 1) = x / 2 ^ i / 2 := by rw [Nat.pow_succ, Nat.div_div_eq_div_mul]
  rw [h]
  omega
theorem rs_lt {x y : Nat} (i : Nat) (hy : 0 < y) : rs x y i < y := Nat.mod_lt _ hy
theorem quo_parts {X y b : Nat} (hy : 0 < y) (hb : b < 2) :
    (y ≤ 2 * (X % y) + b → (2 * X + b) / y = 2 * (X / y) + 1 ∧ (2 * X + b) % y = 2 * (X % y) + b - y) ∧
    (2 * (X % y) + b < y → (2 * X + b) / y = 2 * (X / y) ∧ (2 * X + b) % y = 2 * (X % y) + b) := by
  have h1 := Nat.div_add_mod X y
  have h2 := Nat.mod_lt X hy
  generalize X / y = Y at h1 ⊢
  generalize X % y = R at h1 h2 ⊢
  have e : 2 * X + b = (2 * R + b) + y * (2 * Y) := by
    have : y * (2 * Y) = 2 * (y * Y) := by rw [← Nat.mul_assoc, Nat.mul_comm y 2, Nat.mul_assoc]
    omega
  constructor
  · intro h
    have e2 : 2 * X + b = (2 * R + b - y) + y * (2 * Y + 1) := by rw [e, Nat.mul_add, Nat.mul_one]; omega
    have e3 : 2 * R + b - y < y := by omega
    rw [e2, Nat.add_mul_div_left _ _ hy, Nat.add_mul_mod_self_left, Nat.div_eq_of_lt e3, Nat.mod_eq_of_lt e3]
    omega
  · intro h
    rw [e, Nat.add_mul_div_left _ _ hy, Nat.add_mul_mod_self_left, Nat.div_eq_of_lt h, Nat.mod_eq_of_lt h]
    omega
theorem quo_yes {x y i : Nat} (hy : 0 < y) (h : y ≤ 2 * rs x y (i + 1) + x / 2 ^ i % 2) : qs x y i = qs x y (i + 1) + 2 ^ i ∧ rs x y i = 2 * rs x y (i + 1) + x / 2 ^ i % 2 - y := by
  unfold qs rs at *
  obtain ⟨h1, h2⟩ := (quo_parts (X := x / 2 ^ (i + 1)) (b := x / 2 ^ i % 2) hy (by omega)).1 h
  rw [← half_pow] at h1 h2
  rw [h1, h2]
  refine ⟨?_, rfl⟩
  rw [Nat.add_mul, Nat.one_mul, Nat.pow_succ, Nat.mul_comm 2 (_ / _), Nat.mul_assoc, Nat.mul_comm 2]
theorem quo_no {x y i : Nat} (hy : 0 < y) (h : 2 * rs x y (i + 1) + x / 2 ^ i % 2 < y) : qs x y i = qs x y (i + 1) ∧ rs x y i = 2 * rs x y (i + 1) + x / 2 ^ i % 2 := by
  unfold qs rs at *
  obtain ⟨h1, h2⟩ := (quo_parts (X := x / 2 ^ (i + 1)) (b := x / 2 ^ i % 2) hy (by omega)).2 h
  rw [← half_pow] at h1 h2
  rw [h1, h2]
  refine ⟨?_, rfl⟩
  rw [Nat.pow_succ, Nat.mul_comm 2 (_ / _), Nat.mul_assoc, Nat.mul_comm 2]
theorem qs_le (x y i : Nat) : qs x y i ≤ x := by
  unfold qs
  exact Nat.le_trans (Nat.mul_le_mul_right _ (Nat.div_le_self _ _)) (Nat.div_mul_le_self _ _)
theorem qs_last (x y : Nat) : qs x y 0 = x / y := by simp [qs]
theorem rs_last (x y : Nat) : rs x y 0 = x % y := by simp [rs]

/-- What the sign makes of it. -/
theorem fdiv_alike {a b : Int} (h : decide (a < 0) = decide (b < 0)) (hb : b ≠ 0) : Int.fdiv a b = ((a.natAbs / b.natAbs : Nat) : Int) := by
  rcases Int.lt_or_le a 0 with ha | ha
  · have hb' : b < 0 := by simpa [ha] using h.symm
    have e1 : a = -(a.natAbs : Int) := by omega
    have e2 : b = -(b.natAbs : Int) := by omega
    rw [e1, e2, Int.neg_fdiv_neg]
    exact (Int.ofNat_fdiv _ _).symm.trans (by simp)
  · have hb' : ¬ b < 0 := by
      have : decide (a < 0) = false := by simpa using ha
      rw [this] at h
      simpa using h.symm
    have e1 : a = (a.natAbs : Int) := by omega
    have e2 : b = (b.natAbs : Int) := by omega
    rw [e1, e2]
    exact (Int.ofNat_fdiv _ _).symm.trans (by simp)
theorem fdiv_unlike {a b : Int} (h : decide (a < 0) ≠ decide (b < 0)) (hb : b ≠ 0) :
    Int.fdiv a b = -(((a.natAbs / b.natAbs + if a.natAbs % b.natAbs = 0 then 0 else 1 : Nat)) : Int) := by
  have key : ∀ m n : Nat, 0 < n → Int.fdiv (-(m : Int)) (n : Int) = -(((m / n + if m % n = 0 then 0 else 1 : Nat)) : Int) := by
    intro m n hn
    have h1 := Nat.div_add_mod m n
    have h2 := Nat.mod_lt m hn
    rw [Int.fdiv_eq_ediv_of_nonneg _ (by omega)]
    generalize m / n = q at h1 ⊢
    generalize m % n = r at h1 h2 ⊢
    have h3 : (n : Int) * (q : Int) + (r : Int) = (m : Int) := by exact_mod_cast h1
    by_cases e : r = 0
    · rw [if_pos e]
      have e1 : -(m : Int) = (n : Int) * (-(q : Int)) := by rw [← h3, e]; simp [Int.mul_neg]
      rw [e1, Int.mul_ediv_cancel_left _ (by omega)]
      simp
    · rw [if_neg e]
      have e1 : -(m : Int) = ((n : Int) - (r : Int)) + (n : Int) * (-((q : Int) + 1)) := by rw [← h3, Int.mul_neg, Int.mul_add, Int.mul_one]; omega
      rw [e1, Int.add_mul_ediv_left _ _ (by omega), Int.ediv_eq_zero_of_lt (by omega) (by omega)]
      omega
  rcases Int.lt_or_le a 0 with ha | ha
  · have hb' : ¬ b < 0 := by
      have : decide (a < 0) = true := by simpa using ha
      rw [this] at h
      simpa using h.symm
    have e1 : a = -(a.natAbs : Int) := by omega
    have e2 : b = (b.natAbs : Int) := by omega
    have := key a.natAbs b.natAbs (by omega)
    rw [← e1, ← e2] at this
    exact this
  · have hb' : b < 0 := by
      have : decide (a < 0) = false := by simpa using ha
      rw [this] at h
      simpa using h.symm
    have e1 : a = (a.natAbs : Int) := by omega
    have e2 : b = -(b.natAbs : Int) := by omega
    rw [show Int.fdiv a b = Int.fdiv (-a) (-b) by rw [Int.neg_fdiv_neg], show -b = (b.natAbs : Int) by omega]
    rw [show -a = -(a.natAbs : Int) by omega]
    exact key a.natAbs b.natAbs (by omega)

end Go.Proofs.YtojeggeimnenbaaDoor.P
