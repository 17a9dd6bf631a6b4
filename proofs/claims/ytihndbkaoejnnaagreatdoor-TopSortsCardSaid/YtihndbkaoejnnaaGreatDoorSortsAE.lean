/- What the card TopSorts leans on: CmpWalk. Conditions: none but those of its theorems. -/
import Derived.Test.YtihndbkaoejnnaaGreatDoorSortsC
import Derived.Test.YtihndbkaoejnnaaGreatDoorSortsAB
set_option linter.unusedSimpArgs false
set_option linter.unusedVariables false
namespace Go.Proofs.YtihndbkaoejnnaaGreatDoor
open Go Go.RowKit Go.Proofs.YtihndbkaoejnnaaGreatDoor.P
theorem isNaN_any (x : Int) (w : World) : Calls Tryz.prog 72 #[.int .i64 x] w fun e w' => e = .returned (.bool false) ∧ w' = w := by
  go_enter Tryz.func72, Tryz.ntmps72
  go_wp2_with fail
  go_ret
  exact ⟨by simp, rfl⟩
theorem compare1_any (x y : Int) (w : World) : Calls Tryz.prog 53 #[.int .i64 x, .int .i64 y] w fun e w' => e = .returned (.int .i64 (if x < y then -1 else if y < x then 1 else 0)) ∧ w' = w := by
  rcases Int.lt_trichotomy x y with h | h | h
  · rw [if_pos h]
    have d1 : decide (x < y) = true := decide_eq_true h
    go_enter Tryz.func53, Tryz.ntmps53
    go_wp2_with fail
    refine (isNaN_any _ _).mono ?_
    rintro e w1 ⟨rfl, rfl⟩
    go_wp2_with fail
    refine (isNaN_any _ _).mono ?_
    rintro e w1 ⟨rfl, rfl⟩
    go_wp2_with fail
    go_ret
    exact ⟨rfl, rfl⟩
  · subst h
    rw [if_neg (Int.lt_irrefl x), if_neg (Int.lt_irrefl x)]
    have d1 : decide (x < x) = false := decide_eq_false (Int.lt_irrefl x)
    go_enter Tryz.func53, Tryz.ntmps53
    go_wp2_with fail
    refine (isNaN_any _ _).mono ?_
    rintro e w1 ⟨rfl, rfl⟩
    go_wp2_with fail
    refine (isNaN_any _ _).mono ?_
    rintro e w1 ⟨rfl, rfl⟩
    go_wp2_with fail
    go_ret
    exact ⟨rfl, rfl⟩
  · rw [if_neg (by omega), if_pos h]
    have d1 : decide (x < y) = false := decide_eq_false (by omega)
    have d2 : decide (y < x) = true := decide_eq_true h
    have d3 : decide (x > y) = true := decide_eq_true h
    have d4 : ¬ x < y := by omega
    go_enter Tryz.func53, Tryz.ntmps53
    go_wp2_with fail
    refine (isNaN_any _ _).mono ?_
    rintro e w1 ⟨rfl, rfl⟩
    go_wp2_with fail
    refine (isNaN_any _ _).mono ?_
    rintro e w1 ⟨rfl, rfl⟩
    go_wp2_with fail
    go_ret
    exact ⟨rfl, rfl⟩
theorem cmpL_drop {xs ys : List Int} {k : Nat} {x y : Int} (hx : xs[k]? = some x) (hy : ys[k]? = some y) : cmpL (xs.drop k) (ys.drop k) = if x < y then -1 else if y < x then 1 else cmpL (xs.drop (k + 1)) (ys.drop (k + 1)) := by
  have h1 : xs.drop k = x :: xs.drop (k + 1) := by
    obtain ⟨h, e⟩ := List.getElem?_eq_some_iff.1 hx
    rw [List.drop_eq_getElem_cons h, e]
  have h2 : ys.drop k = y :: ys.drop (k + 1) := by
    obtain ⟨h, e⟩ := List.getElem?_eq_some_iff.1 hy
    rw [List.drop_eq_getElem_cons h, e]
  rw [h1, h2]; rfl
theorem cmpL_left {xs ys : List Int} {k : Nat} (hx : k < xs.length) (hy : ys.length ≤ k) : cmpL (xs.drop k) (ys.drop k) = 1 := by
  rw [List.drop_eq_getElem_cons hx, List.drop_of_length_le hy]; rfl
theorem cmpL_right {xs ys : List Int} {k : Nat} (hx : xs.length ≤ k) : cmpL (xs.drop k) (ys.drop k) = if k < ys.length then -1 else 0 := by
  rw [List.drop_of_length_le hx]
  split
  · rename_i h; rw [List.drop_eq_getElem_cons h]; rfl
  · rename_i h; rw [List.drop_of_length_le (by omega)]; rfl
set_option maxHeartbeats 800000 in
theorem cmpL_any {v1 v2 : Value} {xs ys : List Int} {w : World} (hx : IsInts w v1 xs) (hy : IsInts w v2 ys) :
    Calls Tryz.prog 37 #[v1, v2] w fun e w' => e = .returned (.int .i64 (cmpL xs ys)) ∧ w' = w := by
  obtain ⟨A, c, rfl, c1, c2, c3, EX, -⟩ := hx.open_
  obtain ⟨B, d, rfl, d1, d2, d3, EY, -⟩ := hy.open_
  clear hx hy
  go_enter Tryz.func37, Tryz.ntmps37
  go_wp2_with fail
  go_loopw [11] (fun i wr => ∃ k : Nat, k ≤ xs.length ∧ k ≤ ys.length ∧ i = .int .i64 k ∧ Hid (cmpL xs ys = cmpL (xs.drop k) (ys.drop k)) ∧ wr = w) (fun i _ => xs.length - (intOf i).toNat)
  case atStart => exact ⟨0, Nat.zero_le _, Nat.zero_le _, rfl, Lib.hid (by simp), rfl⟩
  case round =>
    obtain ⟨k, hk, hk2, rfl, he, rfl⟩ := hrel
    rcases Nat.lt_or_ge k xs.length with hlt | hge
    · obtain ⟨ad, x, rfl, hxk, hal, hcx⟩ := Elems.at_ EX hlt
      have HX := Lib.hid hxk
      clear hxk
      rcases Nat.lt_or_ge k ys.length with hlt2 | hge2
      · obtain ⟨ae, y, rfl, hyk, hae, hcy⟩ := Elems.at_ EY hlt2
        have HY := Lib.hid (cmpL_drop HX.out hyk)
        clear hyk
        have gk : decide ((k : Int) ≥ (ys.length : Int)) = false := decide_eq_false (by omega)
        go_wp2_with fail
        refine (compare1_any _ _ _).mono ?_
        rintro e w1 ⟨rfl, rfl⟩
        rcases Int.lt_trichotomy x y with h | h | h
        · have HE := Lib.hid (show cmpL xs ys = -1 by rw [he.out, HY.out, if_pos h])
          rw [if_pos h]
          go_wp2_with fail
          go_ret
          exact ⟨by simp [HE.out], rfl⟩
        · subst h
          have HE := Lib.hid (show cmpL xs ys = cmpL (xs.drop (k + 1)) (ys.drop (k + 1)) by rw [he.out, HY.out, if_neg (Int.lt_irrefl x), if_neg (Int.lt_irrefl x)])
          rw [if_neg (Int.lt_irrefl x), if_neg (Int.lt_irrefl x)]
          go_wp2_with fail
          go_roundw
          case rel => exact ⟨k + 1, hlt, hlt2, by go_num, HE, trivial⟩
          case measure => simp [intOf]; omega
        · have HE := Lib.hid (show cmpL xs ys = 1 by rw [he.out, HY.out, if_neg (by omega), if_pos h])
          rw [if_neg (by omega), if_pos h]
          go_wp2_with fail
          go_ret
          exact ⟨by simp [HE.out], rfl⟩
      · have gk : decide ((k : Int) ≥ (ys.length : Int)) = true := decide_eq_true (by omega)
        have gk2 : (ys.length : Int) ≤ (k : Int) := by omega
        have HE := Lib.hid (show cmpL xs ys = 1 by rw [he.out, cmpL_left hlt hge2])
        go_wp2_with fail
        go_ret
        exact ⟨by simp [HE.out], rfl⟩
    · obtain rfl : k = xs.length := by omega
      have HE := Lib.hid (he.out.trans (cmpL_right (Nat.le_refl _)))
      rcases Nat.lt_or_ge xs.length ys.length with h | h
      · rw [if_pos h] at HE
        go_wp2_with fail
        go_ret
        exact ⟨by simp [HE.out], rfl⟩
      · rw [if_neg (by omega)] at HE
        have h5 : ¬ (xs.length : Int) < (ys.length : Int) := by omega
        go_wp2_with fail
        go_ret
        exact ⟨by simp [HE.out], rfl⟩
end Go.Proofs.YtihndbkaoejnnaaGreatDoor
