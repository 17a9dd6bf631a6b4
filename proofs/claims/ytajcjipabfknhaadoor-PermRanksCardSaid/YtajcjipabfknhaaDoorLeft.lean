/- Plain facts: the numbers that are left, as bits; the rank's steps. Conditions: none. -/
import Derived.Test.YtajcjipabfknhaaDoorLehmer
set_option linter.unusedSimpArgs false
set_option linter.unusedVariables false
namespace Go.Proofs.YtajcjipabfknhaaDoor.P

/-- The bits of a number are those of a list. -/
def BitsOf (L : Nat) (l : List Nat) : Prop := L < 4096 ∧ ∀ m, L.testBit m = decide (m ∈ l)

theorem bitsOf_all {n : Nat} (hn : n ≤ 12) : BitsOf (2 ^ n - 1) (List.range n) := by
  refine ⟨?_, fun m => ?_⟩
  · have : 2 ^ n ≤ 2 ^ 12 := Nat.pow_le_pow_right (by omega) hn
    have := Nat.two_pow_pos n
    omega
  · rw [Nat.testBit_two_pow_sub_one]
    simp
theorem BitsOf.erase {L : Nat} {l : List Nat} (h : BitsOf L l) (hn : l.Nodup) (x : Nat) (hx : x < 64) : BitsOf (L &&& (18446744073709551615 - 2 ^ x)) (l.erase x) := by
  refine ⟨Nat.lt_of_le_of_lt Nat.and_le_left h.1, fun m => ?_⟩
  rw [Nat.testBit_and, h.2 m]
  by_cases hm : m < 64
  · have e : (18446744073709551615 - 2 ^ x).testBit m = !((2 ^ x).testBit m) := by
      rw [show 18446744073709551615 - 2 ^ x = 2 ^ 64 - (2 ^ x + 1) by have := Nat.pow_lt_pow_right (a := 2) (by omega) hx; omega]
      rw [Nat.testBit_two_pow_sub_succ (Nat.pow_lt_pow_right (by omega) hx)]
      simp [hm]
    rw [e, Nat.testBit_two_pow]
    by_cases hxm : x = m
    · subst hxm
      simp [hn.not_mem_erase]
    · have : (m ∈ l.erase x) ↔ m ∈ l := by rw [hn.mem_erase_iff]; exact ⟨fun h => h.2, fun h => ⟨fun e => hxm e.symm, h⟩⟩
      simp [hxm, this]
  · have h1 : L.testBit m = false := Nat.testBit_lt_two_pow (Nat.lt_of_lt_of_le h.1 (Nat.le_trans (by decide : 4096 ≤ 2 ^ 64) (Nat.pow_le_pow_right (by omega) (by omega))))
    have h2 : m ∉ l := fun hm2 => by have := h.2 m; rw [h1] at this; simp [hm2] at this
    have h3 : m ∉ l.erase x := fun hm2 => h2 (List.mem_of_mem_erase hm2)
    simp [h2, h3]

theorem idx_count : ∀ {l : List Nat} {x : Nat}, l.Pairwise (· < ·) → x ∈ l → l.idxOf x = (l.filter fun m => decide (m < x)).length
  | z :: l, x, hp, hx => by
    obtain ⟨h1, h2⟩ := List.pairwise_cons.1 hp
    rw [List.idxOf_cons]
    by_cases e : z = x
    · subst e
      have : l.filter (fun m => decide (m < z)) = [] := by
        rw [List.filter_eq_nil_iff]
        intro m hm
        have := h1 m hm
        simp; omega
      simp [this]
    · have mx : x ∈ l := by rcases List.mem_cons.1 hx with h | h; exact absurd h.symm e; exact h
      have hb : (z == x) = false := by simpa using e
      have hz := h1 x mx
      rw [hb]
      simp only [cond_false, List.filter_cons, hz, decide_true, if_true, List.length_cons]
      rw [idx_count h2 mx]
  | [], x, _, hx => by simp at hx

/-- The bits below x of what is left without x: as many as stand ahead of x. -/
theorem ones_idx {L : Nat} {l : List Nat} {x : Nat} (h : BitsOf L (l.erase x)) (hl : l.Pairwise (· < ·)) (hx : x ∈ l) (hlt : ∀ m ∈ l, m < 12) : (List.range 12).countP (fun m => (L &&& (2 ^ x - 1)).testBit m) = l.idxOf x := by
  have hn : l.Nodup := List.nodup_iff_pairwise_ne.2 (hl.imp fun h => Nat.ne_of_lt h)
  rw [idx_count hl hx, List.countP_eq_length_filter]
  apply List.Perm.length_eq
  rw [List.perm_ext_iff_of_nodup (List.nodup_range.sublist List.filter_sublist) (hn.sublist List.filter_sublist)]
  intro m
  simp only [List.mem_filter, List.mem_range, Nat.testBit_and, h.2 m, Nat.testBit_two_pow_sub_one, Bool.and_eq_true, decide_eq_true_eq, hn.mem_erase_iff]
  constructor
  · rintro ⟨_, ⟨_, h2⟩, h3⟩
    exact ⟨h2, h3⟩
  · rintro ⟨h1, h2⟩
    exact ⟨hlt m h1, ⟨by omega, h1⟩, h2⟩

/-- The rank so far: what is left of it comes of what is left. -/
def RankTo (p : List Nat) (k : Nat) (l : List Nat) (r : Nat) : Prop := (p.drop k).Perm l ∧ l.Pairwise (· < ·) ∧ rank p = r * fac (p.length - k) + lv (code l (p.drop k))
theorem RankTo.zero {p : List Nat} (h : Perm p) : RankTo p 0 (List.range p.length) 0 := ⟨by simpa using perm_range h, range_sorted _, by simp [rank]⟩
theorem drop_getD {p : List Nat} {k : Nat} (hk : k < p.length) : p.drop k = p.getD k 0 :: p.drop (k + 1) := by rw [List.drop_eq_getElem_cons hk, getD_lt hk]
theorem RankTo.mem {p l : List Nat} {k r : Nat} (h : RankTo p k l r) (hk : k < p.length) : p.getD k 0 ∈ l := by
  rw [← h.1.mem_iff, drop_getD hk]
  exact List.mem_cons_self
theorem RankTo.succ {p l : List Nat} {k r : Nat} (h : RankTo p k l r) (hk : k < p.length) : RankTo p (k + 1) (l.erase (p.getD k 0)) (r * (p.length - k) + l.idxOf (p.getD k 0)) := by
  obtain ⟨h1, h2, h3⟩ := h
  rw [drop_getD hk] at h1 h3
  refine ⟨by have := h1.erase (p.getD k 0); simpa using this, h2.sublist List.erase_sublist, ?_⟩
  have hp : (p.drop (k + 1)).Perm (l.erase (p.getD k 0)) := by have := h1.erase (p.getD k 0); simpa using this
  have hlen : (code (l.erase (p.getD k 0)) (p.drop (k + 1))).length = p.length - (k + 1) := by
    have e1 := falls_length (code_falls hp)
    have e2 := hp.length_eq
    rw [List.length_drop] at e2
    omega
  rw [h3]
  simp only [code, lv]
  rw [hlen]
  obtain ⟨d, hd⟩ : ∃ d, p.length - k = d + 1 := ⟨p.length - k - 1, by omega⟩
  rw [hd, show p.length - (k + 1) = d by omega]
  simp only [fac]
  rw [Nat.add_mul (r * (d + 1)), Nat.mul_assoc r, Nat.add_assoc]
theorem RankTo.all {p l : List Nat} {r : Nat} (h : RankTo p p.length l r) : rank p = r := by
  obtain ⟨_, _, h3⟩ := h
  rw [h3]
  simp [code, lv, fac]
theorem fac_le {n : Nat} (hn : n ≤ 12) : fac n ≤ 479001600 := by
  have key : ∀ m, m ≤ 12 → fac m ≤ fac 12 := fun m hm => by
    have step : ∀ d m, m + d = 12 → fac m ≤ fac 12 := fun d => by
      induction d with
      | zero => intro m h; rw [show m = 12 by omega]; exact Nat.le_refl _
      | succ d ih =>
        intro m h
        refine Nat.le_trans ?_ (ih (m + 1) (by omega))
        simp only [fac]
        exact Nat.le_mul_of_pos_left _ (by omega)
    exact step (12 - m) m (by omega)
  have := key n hn
  have e : fac 12 = 479001600 := by decide
  omega
theorem RankTo.small {p l : List Nat} {k r : Nat} (h : RankTo p k l r) (hp : Perm p) (hl : p.length ≤ 12) : r ≤ 479001600 := by
  have h1 := rank_lt hp
  have h2 := fac_le hl
  have h3 := fac_pos (p.length - k)
  have h4 : r * 1 ≤ r * fac (p.length - k) := Nat.mul_le_mul_left _ h3
  have := h.2.2
  omega

end Go.Proofs.YtajcjipabfknhaaDoor.P
