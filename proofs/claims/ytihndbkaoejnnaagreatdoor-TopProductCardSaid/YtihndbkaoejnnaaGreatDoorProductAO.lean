/- What the card TopProduct leans on: FoldScan, ClimbPlain, ActNum. Conditions: none but those of its theorems. -/
import Derived.Test.YtihndbkaoejnnaaGreatDoorProductAN
import Derived.Test.YtihndbkaoejnnaaGreatDoorProductAA
set_option linter.unusedSimpArgs false
set_option linter.unusedVariables false
namespace Go.Proofs.YtihndbkaoejnnaaGreatDoor.P
theorem noneElse_prod {t : List Nat} {k : Nat} (h : NoneElse t k) : prod t = 0 := by
  obtain ⟨j, hj, -, hz⟩ := h
  apply Classical.byContradiction
  intro h0
  have e : t[j]? = some (t.getD j 0) := by rw [List.getD_eq_getElem?_getD, List.getElem?_eq_getElem hj]; rfl
  have h1 := Go.Proofs.YtihndbkaoejnnaaGreatDoor.prod_take_le h0 (j + 1)
  have h2 : prod t = prod (t.take (j + 1)) * prod (t.drop (j + 1)) := by rw [← prod_append, List.take_append_drop]
  rw [Go.Proofs.YtihndbkaoejnnaaGreatDoor.prod_take_succ e, hz, Nat.mul_zero, Nat.zero_mul] at h2
  exact h0 h2
theorem lineF_prod {t : List Nat} {k : Nat} (hk : k < t.length) : (lineF t k).1 * (lineF t k).2.1 * (lineF t k).2.2 = prod t := by
  unfold lineF
  by_cases h : NoneElse t k
  · rw [if_pos h, noneElse_prod h]; simp
  · rw [if_neg h, prod_axis hk]
theorem lineF_long (t : List Nat) (k : Nat) : (lineF t k).2.1 = t.getD k 0 := by
  unfold lineF
  by_cases h : NoneElse t k
  · rw [if_pos h]
  · rw [if_neg h]
theorem lineF_out {t : List Nat} {k : Nat} (h : ∀ n ∈ t, n ≤ 4096) (hl : t.length ≤ 6) (hk : k < t.length) : (lineF t k).1 ≤ 1152921504606846976 := by
  unfold lineF
  by_cases c : NoneElse t k
  · rw [if_pos c]; exact Nat.zero_le _
  · rw [if_neg c, ← out_all hk]; exact out_top h hl hk
theorem lineF_in {t : List Nat} {k : Nat} (h : ∀ n ∈ t, n ≤ 4096) (hl : t.length ≤ 6) (hk : k < t.length) : (lineF t k).2.2 ≤ 1152921504606846976 := by
  unfold lineF
  by_cases c : NoneElse t k
  · rw [if_pos c]; exact Nat.zero_le _
  · rw [if_neg c, ← in_all]; exact in_top h hl hk
/-- The lines, told by the place of what they fold to. -/
def lnAt (d : List Int) (L I n : Nat) (fr lg : Nat → Nat) (q : Nat) : List Int := Go.Proofs.YtihndbkaoejnnaaGreatDoor.fline d L I fr lg (q / I / n) (q / I % n) (q % I)
theorem lnAt_at {d : List Int} {L I n o k i : Nat} {fr lg : Nat → Nat} (hk : k < n) (hi : i < I) : lnAt d L I n fr lg ((o * n + k) * I + i) = Go.Proofs.YtihndbkaoejnnaaGreatDoor.fline d L I fr lg o k i := by
  unfold lnAt
  have h1 : ((o * n + k) * I + i) / I = o * n + k := by rw [Nat.add_comm, Nat.add_mul_div_right _ _ (by omega), Nat.div_eq_of_lt hi]; omega
  have h2 : ((o * n + k) * I + i) % I = i := by rw [Nat.add_comm, Nat.add_mul_mod_self_right, Nat.mod_eq_of_lt hi]
  have h3 : (o * n + k) / n = o := by rw [Nat.add_comm, Nat.add_mul_div_right _ _ (by omega), Nat.div_eq_of_lt hk]; omega
  have h4 : (o * n + k) % n = k := by rw [Nat.add_comm, Nat.add_mul_mod_self_right, Nat.mod_eq_of_lt hk]
  rw [h1, h2, h3, h4]
end Go.Proofs.YtihndbkaoejnnaaGreatDoor.P
namespace Go.Proofs.YtihndbkaoejnnaaGreatDoor
open Go Go.RowKit Go.Proofs.YtihndbkaoejnnaaGreatDoor.P

theorem zero_any (i : Int) (W : World) : Calls Tryz.prog 26 (#[.int .i64 i] ++ #[]) W fun e W' => e = .returned (.int .i64 ((0 : Nat) : Int)) ∧ W = W' := by
  simp only [List.append_toArray, List.append_nil]
  go_enter Tryz.func26, Tryz.ntmps26
  go_wp2_with fail
  go_ret
  exact ⟨rfl, rfl⟩
end Go.Proofs.YtihndbkaoejnnaaGreatDoor

namespace Go.Proofs.YtihndbkaoejnnaaGreatDoor.P
/-- Functions that fail at no number. -/
def Tame (f : Int) : Prop := 1 ≤ f ∧ f ≤ 16 ∧ f ≠ 4 ∧ f ≠ 16
theorem Tame.two {f : Int} (h : Tame f) (a b : Int) : twoE f a b = 0 := twoE_ok h.1 h.2.1 (fun e => absurd e h.2.2.1) (fun e => absurd e h.2.2.2)
theorem Tame.of {f : Int} (h : Tame f) : ∀ {l : List Int}, l ≠ [] → (ofR f l).2 = 0
  | [], hl => absurd rfl hl
  | [x], _ => rfl
  | x :: y :: l, _ => by
    rw [ofR_cons (by simp), h.of (l := y :: l) (by simp)]
    simp [h.two]
theorem Tame.cons {f : Int} (h : Tame f) {x : Int} {l : List Int} (hl : l ≠ []) : (ofR f (x :: l)).1 = twoV f x (ofR f l).1 := by
  rw [ofR_cons hl, h.of hl]; simp
theorem one_line {m : Nat} : lineF [m] 0 = (1, m, 1) := by
  unfold lineF
  rw [if_neg]
  · simp [outerOf, innerOf, prod]
  · rintro ⟨j, hj, hne, -⟩
    simp at hj; omega
end Go.Proofs.YtihndbkaoejnnaaGreatDoor.P
namespace Go.Proofs.YtihndbkaoejnnaaGreatDoor
open Go Go.RowKit Go.Proofs.YtihndbkaoejnnaaGreatDoor.P
end Go.Proofs.YtihndbkaoejnnaaGreatDoor

namespace Go.Proofs.YtihndbkaoejnnaaGreatDoor
open Go Go.RowKit Go.Proofs.YtihndbkaoejnnaaGreatDoor.P

theorem ok_num (x : Int) : Ok ⟨false, [], [x]⟩ [] := ⟨rfl, ⟨by simp, by simp, by simp [prod]⟩, by simp [prod], fun e => by cases e⟩
end Go.Proofs.YtihndbkaoejnnaaGreatDoor
