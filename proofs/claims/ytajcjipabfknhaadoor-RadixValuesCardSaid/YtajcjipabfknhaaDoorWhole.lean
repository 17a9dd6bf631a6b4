/- Plain facts: a number's digits have its value, in 64 bits. Conditions: none. -/
import Derived.Test.YtajcjipabfknhaaDoorDigitsBack
set_option linter.unusedSimpArgs false
set_option linter.unusedVariables false
namespace Go.Proofs.YtajcjipabfknhaaDoor.P
open Go Go.RowKit

theorem prd_cons (b : Int) (bs : List Int) : prd (b :: bs) = b * prd bs := by
  have hm : ∀ (l : List Int) (a c : Int), l.foldl (fun n b => n * b) (a * c) = a * l.foldl (fun n b => n * b) c := by
    intro l
    induction l with
    | nil => intro a c; rfl
    | cons x xs ih => intro a c; rw [List.foldl_cons, List.foldl_cons, Int.mul_assoc, ih]
  unfold prd
  rw [List.foldl_cons, Int.one_mul]
  have := hm bs b 1
  rwa [Int.mul_one] at this

theorem hv_cons {b d : Int} {bs ds : List Int} (h : ds.length = bs.length) : hv (b :: bs) (d :: ds) = d * prd bs + hv bs ds := by
  unfold hv prd
  rw [List.zip_cons_cons, List.foldl_cons]
  have := foldl_from (bs.zip ds) d 0
  rw [Int.add_zero, map_fst_zip' h.symm] at this
  rw [← this]
  simp

/-- One step: nothing is lost, in 64 bits. -/
theorem step_whole (b n : Int) : ∃ q : Int, left b n * b + digit b n = n + q * 18446744073709551616 := by
  unfold left digit
  by_cases h : b = 0
  · rw [if_pos h, if_pos h]
    exact ⟨0, by simp⟩
  · rw [if_neg h, if_neg h]
    obtain ⟨q1, e1⟩ := wrap_eq (Int.fdiv n b)
    obtain ⟨q2, e2⟩ := wrap_eq (n - b * Int.fdiv n b)
    refine ⟨q1 * b + q2, ?_⟩
    rw [e1, e2, Int.add_mul, Int.add_mul, Int.mul_comm (Int.fdiv n b) b, Int.mul_right_comm]
    omega

theorem digs_whole : ∀ (bs : List Int) (n : Int), ∃ q : Int, (digs bs n).2 * prd bs + hv bs (digs bs n).1 = n + q * 18446744073709551616
  | [], n => ⟨0, by simp [digs, prd, hv]⟩
  | b :: bs, n => by
    obtain ⟨q1, e1⟩ := digs_whole bs n
    obtain ⟨q2, e2⟩ := step_whole b (digs bs n).2
    refine ⟨q2 * prd bs + q1, ?_⟩
    simp only [digs]
    rw [prd_cons, hv_cons (digs_length bs n), ← Int.mul_assoc, ← Int.add_assoc, ← Int.add_mul, e2, Int.add_mul, Int.add_mul, Int.mul_right_comm]
    omega

theorem wrap_small {n : Int} (h : n.natAbs ≤ 9000000000000000000) : wrap64 n = n := by unfold wrap64; omega

theorem digit_small {n b : Int} (hb : b ≠ 0) : (n - b * Int.fdiv n b).natAbs ≤ b.natAbs := by
  have key : ∀ (m c : Int), 0 < c → (m - c * Int.fdiv m c).natAbs ≤ c.natAbs := fun m c hc => by
    have e := Int.mul_fdiv_add_fmod m c
    have h1 := Int.fmod_nonneg_of_pos m hc
    have h2 := Int.fmod_lt_of_pos m hc
    omega
  rcases Int.lt_or_gt_of_ne hb with h | h
  · have h1 := key (-n) (-b) (by omega)
    rw [Int.neg_fdiv_neg, Int.neg_mul] at h1
    omega
  · exact key n b h

/-- Each of them no further than 1000 from 0, and not 0. -/
def Fit (bs : List Int) : Prop := ∀ b ∈ bs, b ≠ 0 ∧ b.natAbs ≤ 1000

theorem prd_fit : ∀ {bs : List Int}, Fit bs → (prd bs).natAbs ≤ 1000 ^ bs.length
  | [], _ => by simp [prd]
  | b :: bs, h => by
    rw [prd_cons, Int.natAbs_mul, List.length_cons, Nat.pow_succ, Nat.mul_comm (1000 ^ bs.length)]
    exact Nat.mul_le_mul (h b List.mem_cons_self).2 (prd_fit fun x hx => h x (List.mem_cons_of_mem _ hx))

theorem prd_ne {bs : List Int} (h : Fit bs) : prd bs ≠ 0 := by
  induction bs with
  | nil => simp [prd]
  | cons b bs ih =>
    rw [prd_cons]
    exact Int.mul_ne_zero (h b List.mem_cons_self).1 (ih fun x hx => h x (List.mem_cons_of_mem _ hx))

/-- The digits of a number near 0 at few small bases: nothing wraps. -/
theorem digs_exact : ∀ (bs : List Int) (n : Int), Fit bs → n.natAbs ≤ 1099511627776 →
    (digs bs n).2 * prd bs + hv bs (digs bs n).1 = n ∧ (digs bs n).2.natAbs ≤ 1099511627776 ∧ (hv bs (digs bs n).1).natAbs ≤ bs.length * 1000 ^ bs.length
  | [], n, _, hn => by simp [digs, prd, hv]; exact hn
  | b :: bs, n, h, hn => by
    have hf : Fit bs := fun x hx => h x (List.mem_cons_of_mem _ hx)
    obtain ⟨h1, h2, h3⟩ := digs_exact bs n hf hn
    obtain ⟨hb, hb'⟩ := h b List.mem_cons_self
    have hq := Int.natAbs_fdiv_le_natAbs (digs bs n).2 b
    have hd := digit_small (n := (digs bs n).2) hb
    have el : left b (digs bs n).2 = Int.fdiv (digs bs n).2 b := by unfold left; rw [if_neg hb, wrap_small (by omega)]
    have ed : digit b (digs bs n).2 = (digs bs n).2 - b * Int.fdiv (digs bs n).2 b := by unfold digit; rw [if_neg hb, wrap_small (by omega)]
    have hp := prd_fit hf
    simp only [digs]
    rw [prd_cons, hv_cons (digs_length bs n), el, ed]
    refine ⟨?_, by omega, ?_⟩
    · rw [← Int.mul_assoc, ← Int.add_assoc, ← Int.add_mul, Int.mul_comm (Int.fdiv _ _) b, show b * (digs bs n).2.fdiv b + ((digs bs n).2 - b * (digs bs n).2.fdiv b) = (digs bs n).2 by omega]
      exact h1
    · refine Nat.le_trans (Int.natAbs_add_le _ _) ?_
      rw [Int.natAbs_mul, List.length_cons, Nat.pow_succ]
      have h4 : ((digs bs n).2 - b * (digs bs n).2.fdiv b).natAbs * (prd bs).natAbs ≤ 1000 * 1000 ^ bs.length := Nat.mul_le_mul (by omega) hp
      have h5 : bs.length * 1000 ^ bs.length ≤ bs.length * (1000 ^ bs.length * 1000) := Nat.mul_le_mul_left _ (Nat.le_mul_of_pos_right _ (by omega))
      have h6 : (bs.length + 1) * (1000 ^ bs.length * 1000) = bs.length * (1000 ^ bs.length * 1000) + 1000 ^ bs.length * 1000 := Nat.succ_mul _ _
      have h7 : 1000 * 1000 ^ bs.length = 1000 ^ bs.length * 1000 := Nat.mul_comm _ _
      omega

end Go.Proofs.YtajcjipabfknhaaDoor.P
