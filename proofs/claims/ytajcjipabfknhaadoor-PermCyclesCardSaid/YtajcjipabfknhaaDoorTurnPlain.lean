/- Plain facts: an order turned round, cell by cell; powers by halves; Horner's value as a sum. Conditions: none. -/
import Derived.Test.YtajcjipabfknhaaDoorPower
set_option linter.unusedSimpArgs false
set_option linter.unusedVariables false
namespace Go.Proofs.YtajcjipabfknhaaDoor.P

/-- What is written so far of an order turned round: the numbers below k, and k where it stands ahead of i. -/
def turnTo (s : List Nat) (k i : Nat) : List Nat := (inv s).take k ++ if s.idxOf k < i then [s.idxOf k] else []
theorem turn_zero (s : List Nat) (k : Nat) : turnTo s k 0 = (inv s).take k := by simp [turnTo]
theorem turn_all {s : List Nat} {k : Nat} (hs : Perm s) (hk : k < s.length) : turnTo s k s.length = (inv s).take (k + 1) := by
  unfold turnTo
  rw [if_pos (idx_lt hs hk), List.take_add_one, List.getElem?_eq_getElem (by rw [inv_length]; exact hk)]
  simp [inv]
theorem turn_hit {s : List Nat} {k i : Nat} (hs : Perm s) (hi : i < s.length) (e : s.getD i 0 = k) : turnTo s k (i + 1) = turnTo s k i ++ [i] := by
  have h := idx_of hs hi
  rw [e] at h
  unfold turnTo
  rw [h, if_pos (by omega), if_neg (by omega)]
  simp
theorem turn_miss {s : List Nat} {k i : Nat} (hs : Perm s) (hk : k < s.length) (e : s.getD i 0 ≠ k) : turnTo s k (i + 1) = turnTo s k i := by
  have h : s.idxOf k ≠ i := fun h => e (by rw [← h]; exact idx_get hs hk)
  unfold turnTo
  by_cases c : s.idxOf k < i
  · rw [if_pos c, if_pos (by omega)]
  · rw [if_neg c, if_neg (by omega)]
theorem turn_length {s : List Nat} {k i : Nat} (hk : k < s.length) : (turnTo s k i).length ≤ k + 1 := by
  unfold turnTo
  rw [List.length_append, List.length_take]
  by_cases c : s.idxOf k < i
  · rw [if_pos c]; simp; omega
  · rw [if_neg c]; simp; omega

theorem pwr_back_one {p : List Nat} (h : Perm p) : pwr p (-1) = inv p := by
  have h1 := pwr_add h (-1) 1
  rw [pwr_one h, show (-1 : Int) + 1 = 0 from rfl, pwr_zero h] at h1
  have h2 : aft (aft (pwr p (-1)) p) (inv p) = aft (pwr p (-1)) (aft p (inv p)) := aft_assoc fun k hk => by rw [inv_length] at hk; rw [getD_inv hk]; exact idx_lt h hk
  rw [h1, aft_inv_right h, aft_idn_left (n := p.length) (fun k hk => by have := (inv_perm h).lt hk; rw [inv_length] at this; exact this)] at h2
  rw [h2]
  have h3 := aft_idn_right (pwr p (-1))
  rw [pwr_length] at h3
  exact h3.symm
theorem pwr_even {p : List Nat} (h : Perm p) (k : Int) : pwr p (k + k) = aft (pwr p k) (pwr p k) := (pwr_add h k k).symm
theorem pwr_odd {p : List Nat} (h : Perm p) (k : Int) : pwr p (k + k + 1) = aft p (aft (pwr p k) (pwr p k)) := by
  rw [pwr_add h, show k + k + 1 = 1 + (k + k) by omega, ← pwr_add h 1, pwr_one h]
theorem pwr_odd' {p : List Nat} (h : Perm p) (k : Int) : pwr p (k + k - 1) = aft (inv p) (aft (pwr p k) (pwr p k)) := by
  rw [pwr_add h, show k + k - 1 = -1 + (k + k) by omega, ← pwr_add h (-1), pwr_back_one h]

end Go.Proofs.YtajcjipabfknhaaDoor.P
