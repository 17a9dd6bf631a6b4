/- What the card TopProduct leans on: Cell. Conditions: none but those of its theorems. -/
import Derived.Test.YtihndbkaoejnnaaGreatDoorProg
import Derived.Test.YtihndbkaoejnnaaGreatDoorProductB
set_option linter.unusedSimpArgs false
set_option linter.unusedVariables false
namespace Go.Proofs.YtihndbkaoejnnaaGreatDoor
open Go Go.RowKit Go.Proofs.YtihndbkaoejnnaaGreatDoor.P

theorem fdiv_even {a b : Int} (h : a.tmod b = 0) : Int.fdiv a b = a.tdiv b := by
  rw [Int.fdiv_eq_tdiv]
  have := Int.dvd_of_tmod_eq_zero h
  simp [this]

theorem fdiv_m1 (a : Int) : Int.fdiv a (-1) = -a := by rw [fdiv_even (by simp), Int.tdiv_neg, Int.tdiv_one]

theorem tmod_sign {a b : Int} (h : a.tmod b ≠ 0) : (a.tmod b < 0 ↔ a < 0) := by
  constructor
  · intro h1
    have : ¬ 0 ≤ a := fun ha => by have := Int.tmod_nonneg b ha; omega
    omega
  · intro h1
    have h2 := Int.tmod_nonneg b (a := -a) (by omega)
    rw [Int.neg_tmod] at h2
    omega
theorem fdiv_same {a b : Int} (h : a.tmod b ≠ 0) (hs : decide (a.tmod b < 0) = decide (b < 0)) : Int.fdiv a b = a.tdiv b := by
  have hd : ¬ b ∣ a := fun h1 => h (Int.dvd_iff_tmod_eq_zero.1 h1)
  have hs' := tmod_sign h
  have hs2 : (a.tmod b < 0 ↔ b < 0) := by simpa using hs
  rw [Int.fdiv_eq_tdiv, if_neg hd]
  by_cases ha : 0 ≤ a
  · rw [if_pos ha, if_pos (by omega)]; omega
  · rw [if_neg ha, if_neg (by omega), Int.sign_eq_neg_one_of_neg (by omega)]; omega
theorem fdiv_other {a b : Int} (hb : b ≠ 0) (h : a.tmod b ≠ 0) (hs : decide (a.tmod b < 0) ≠ decide (b < 0)) : Int.fdiv a b = a.tdiv b - 1 := by
  have hd : ¬ b ∣ a := fun h1 => h (Int.dvd_iff_tmod_eq_zero.1 h1)
  have hs' := tmod_sign h
  have hs2 : ¬ (a.tmod b < 0 ↔ b < 0) := by simpa using hs
  rw [Int.fdiv_eq_tdiv, if_neg hd]
  by_cases ha : 0 ≤ a
  · rw [if_pos ha, if_neg (by omega)]
  · rw [if_neg ha, if_pos (by omega), Int.sign_eq_one_of_pos (by omega)]

set_option maxHeartbeats 400000 in
theorem floor_any (a b : Int) (w : World) (hb : b ≠ 0) :
    Calls Tryz.prog 54 #[.int .i64 a, .int .i64 b] w fun e w' => e = .returned (.int .i64 (wrap64 (Int.fdiv a b))) ∧ Below w.heap.size w w' := by
  by_cases h1 : b = -1
  · subst h1
    go_enter Tryz.func54, Tryz.ntmps54
    go_wp2_with fail
    go_ret
    exact ⟨by rw [fdiv_m1]; rfl, by go_grown⟩
  · have h2 : ((b == -1) : Bool) = false := by simpa using h1
    have h3 : ((b == 0) : Bool) = false := by simpa using hb
    go_enter Tryz.func54, Tryz.ntmps54
    go_wp2_with fail
    go_region
    by_cases h4 : a.tmod b = 0
    · have h4' : (a.tmod b != 0) = false := by simpa using h4
      go_wp2_with fail
      go_ret
      exact ⟨by rw [fdiv_even h4]; rfl, by go_grown⟩
    · have h4' : (a.tmod b != 0) = true := by simpa using h4
      by_cases h5 : decide (a.tmod b < 0) = decide (b < 0)
      · have h5' : (decide (a.tmod b < 0) != decide (b < 0)) = false := by simp [h5]
        have h6 : (decide (a.tmod b < 0) == decide (b < 0)) = true := by rw [h5]; cases decide (b < 0) <;> rfl
        have e := fdiv_same h4 h5
        clear h5
        go_wp2_with fail
        go_ret
        exact ⟨by rw [e]; rfl, by go_grown⟩
      · have h5' : (decide (a.tmod b < 0) != decide (b < 0)) = true := by simpa using h5
        have h6 : (decide (a.tmod b < 0) == decide (b < 0)) = false := by revert h5; cases decide (a.tmod b < 0) <;> cases decide (b < 0) <;> simp
        have e := fdiv_other hb h4 h5
        clear h5
        go_wp2_with fail
        go_ret
        exact ⟨by rw [e, show wrap64 (a.tdiv b - 1) = wrap64 (wrap64 (a.tdiv b) - 1) from (wrap_add_l (a.tdiv b) (-1)).symm]; rfl, by go_grown⟩

set_option maxHeartbeats 400000 in
theorem two_div (a b : Int) (w : World) (hb : b ≠ 0) :
    Calls Tryz.prog 39 #[.int .i64 4, .int .i64 a, .int .i64 b] w fun e w' => e = .returned (.tuple #[.int .i64 (wrap64 (Int.fdiv a b)), .nilIface]) ∧ Below w.heap.size w w' := by
  have h3 : ((b == 0) : Bool) = false := by simpa using hb
  go_enter Tryz.func39, Tryz.ntmps39
  go_wp2_with fail
  refine (floor_any a b _ hb).mono ?_
  rintro e w1 ⟨rfl, hb1⟩
  go_wp2_with fail
  refine bodyPost_ret (v := .tuple #[.int .i64 (wrap64 (Int.fdiv a b)), .nilIface]) (by simp [results, Tryz.results39, go_sem]) rfl ?_
  exact ⟨rfl, by go_grown⟩

set_option maxHeartbeats 400000 in
theorem two_res (a b : Int) (w : World) (ha : a ≠ 0) :
    Calls Tryz.prog 39 #[.int .i64 5, .int .i64 a, .int .i64 b] w fun e w' => e = .returned (.tuple #[.int .i64 (wrap64 (b - a * Int.fdiv b a)), .nilIface]) ∧ Below w.heap.size w w' := by
  have h3 : ((a == 0) : Bool) = false := by simpa using ha
  go_enter Tryz.func39, Tryz.ntmps39
  go_wp2_with fail
  refine (floor_any b a _ ha).mono ?_
  rintro e w1 ⟨rfl, hb1⟩
  have e1 : wrap64 (b - wrap64 (a * wrap64 (Int.fdiv b a))) = wrap64 (b - a * Int.fdiv b a) := by
    rw [wrap_mul_r]
    obtain ⟨q, hq⟩ := wrap_eq (a * Int.fdiv b a)
    exact wrap_congr ⟨-q, by rw [hq]; omega⟩
  go_wp2_with fail
  refine bodyPost_ret (v := .tuple #[.int .i64 (wrap64 (b - a * Int.fdiv b a)), .nilIface]) (by simp [results, Tryz.results39, go_sem, e1]) rfl ?_
  exact ⟨rfl, by go_grown⟩

end Go.Proofs.YtihndbkaoejnnaaGreatDoor
