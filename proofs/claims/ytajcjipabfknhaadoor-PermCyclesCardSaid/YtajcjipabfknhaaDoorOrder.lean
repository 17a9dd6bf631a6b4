/- Plain facts: orders, one by another one, turned round. Conditions: none. -/
import Derived.Test.YtajcjipabfknhaaDoorArr
set_option linter.unusedSimpArgs false
set_option linter.unusedVariables false
namespace Go.Proofs.YtajcjipabfknhaaDoor.P

/-- The numbers from 0 on, each once. -/
def Perm (p : List Nat) : Prop := p.Nodup ∧ ∀ x ∈ p, x < p.length

/-- One by another one; turned round; not at all. -/
def aft (p q : List Nat) : List Nat := q.map fun j => p.getD j 0
def inv (p : List Nat) : List Nat := (List.range p.length).map fun k => p.idxOf k
def idn (n : Nat) : List Nat := List.range n

theorem aft_length (p q : List Nat) : (aft p q).length = q.length := by simp [aft]
theorem inv_length (p : List Nat) : (inv p).length = p.length := by simp [inv]
theorem idn_length (n : Nat) : (idn n).length = n := by simp [idn]
theorem idn_perm (n : Nat) : Perm (idn n) := ⟨List.nodup_range, fun x hx => by simpa [idn] using hx⟩

theorem getD_lt {p : List Nat} {k : Nat} (h : k < p.length) : p.getD k 0 = p[k] := by simp [List.getD_eq_getElem?_getD, h]
theorem Perm.lt {p : List Nat} (h : Perm p) {k : Nat} (hk : k < p.length) : p.getD k 0 < p.length := by
  rw [getD_lt hk]
  exact h.2 _ (List.getElem_mem hk)
theorem Perm.inj {p : List Nat} (h : Perm p) {i j : Nat} (hi : i < p.length) (hj : j < p.length) (e : p.getD i 0 = p.getD j 0) : i = j := by
  rw [getD_lt hi, getD_lt hj] at e
  exact (List.getElem_inj h.1).1 e

theorem perm_all {p : List Nat} (h : Perm p) {k : Nat} (hk : k < p.length) : k ∈ p := by
  apply Classical.byContradiction
  intro hn
  have hs : (k :: p) ⊆ List.range p.length := fun x hx => by
    rcases List.mem_cons.1 hx with e | e
    · rw [e]; simpa using hk
    · simpa using h.2 x e
  have := List.Nodup.length_le_of_subset (List.nodup_cons.2 ⟨hn, h.1⟩) hs
  simp at this
  omega
theorem perm_range {p : List Nat} (h : Perm p) : p.Perm (List.range p.length) :=
  (List.perm_ext_iff_of_nodup h.1 List.nodup_range).2 fun a => ⟨fun ha => by simpa using h.2 a ha, fun ha => perm_all h (by simpa using ha)⟩

theorem getD_aft {p q : List Nat} {k : Nat} (hk : k < q.length) : (aft p q).getD k 0 = p.getD (q.getD k 0) 0 := by
  simp [aft, List.getD_eq_getElem?_getD, hk]
theorem getD_inv {p : List Nat} {k : Nat} (hk : k < p.length) : (inv p).getD k 0 = p.idxOf k := by
  simp [inv, List.getD_eq_getElem?_getD, hk]
theorem getD_idn {n k : Nat} (hk : k < n) : (idn n).getD k 0 = k := by
  simp [idn, List.getD_eq_getElem?_getD, hk]

theorem idx_lt {p : List Nat} (h : Perm p) {k : Nat} (hk : k < p.length) : p.idxOf k < p.length := List.idxOf_lt_length_of_mem (perm_all h hk)
theorem idx_get {p : List Nat} (h : Perm p) {k : Nat} (hk : k < p.length) : p.getD (p.idxOf k) 0 = k := by
  rw [getD_lt (idx_lt h hk)]
  exact List.getElem_idxOf (idx_lt h hk)
theorem idx_of {p : List Nat} (h : Perm p) {k : Nat} (hk : k < p.length) : p.idxOf (p.getD k 0) = k :=
  h.inj (idx_lt h (h.lt hk)) hk (idx_get h (h.lt hk))

theorem ext_getD {p q : List Nat} (hl : p.length = q.length) (h : ∀ k, k < p.length → p.getD k 0 = q.getD k 0) : p = q := by
  apply List.ext_getElem hl
  intro k h1 h2
  have := h k h1
  rwa [getD_lt h1, getD_lt h2] at this

theorem perm_of {p : List Nat} (h1 : ∀ k, k < p.length → p.getD k 0 < p.length) (h2 : ∀ i j, i < p.length → j < p.length → p.getD i 0 = p.getD j 0 → i = j) : Perm p := by
  constructor
  · rw [List.nodup_iff_pairwise_ne, List.pairwise_iff_getElem]
    intro i j hi hj hij e
    have := h2 i j hi hj (by rw [getD_lt hi, getD_lt hj, e])
    omega
  · intro x hx
    obtain ⟨k, hk, rfl⟩ := List.getElem_of_mem hx
    have := h1 k hk
    rwa [getD_lt hk] at this

theorem aft_perm {p q : List Nat} (hp : Perm p) (hq : Perm q) (hl : p.length = q.length) : Perm (aft p q) := by
  apply perm_of
  · intro k hk
    rw [aft_length] at hk ⊢
    rw [getD_aft hk, ← hl]
    exact hp.lt (by rw [hl]; exact hq.lt hk)
  · intro i j hi hj e
    rw [aft_length] at hi hj
    rw [getD_aft hi, getD_aft hj] at e
    exact hq.inj hi hj (hp.inj (by rw [hl]; exact hq.lt hi) (by rw [hl]; exact hq.lt hj) e)
theorem inv_perm {p : List Nat} (hp : Perm p) : Perm (inv p) := by
  apply perm_of
  · intro k hk
    rw [inv_length] at hk ⊢
    rw [getD_inv hk]
    exact idx_lt hp hk
  · intro i j hi hj e
    rw [inv_length] at hi hj
    rw [getD_inv hi, getD_inv hj] at e
    rw [← idx_get hp hi, ← idx_get hp hj, e]

theorem aft_assoc {p q r : List Nat} (hr : ∀ k, k < r.length → r.getD k 0 < q.length) : aft (aft p q) r = aft p (aft q r) := by
  apply ext_getD (by simp [aft_length])
  intro k hk
  rw [aft_length] at hk
  rw [getD_aft hk, getD_aft (hr k hk), getD_aft (by rw [aft_length]; exact hk), getD_aft hk]
theorem aft_inv_left {p q : List Nat} (hp : Perm p) (hq : ∀ k, k < q.length → q.getD k 0 < p.length) : aft (inv p) (aft p q) = q := by
  apply ext_getD (by simp [aft_length])
  intro k hk
  rw [aft_length, aft_length] at hk
  rw [getD_aft (by rw [aft_length]; exact hk), getD_aft hk, getD_inv (hp.lt (hq k hk)), idx_of hp (hq k hk)]
theorem aft_inv_right {p : List Nat} (hp : Perm p) : aft p (inv p) = idn p.length := by
  apply ext_getD (by simp [aft_length, inv_length, idn_length])
  intro k hk
  rw [aft_length, inv_length] at hk
  rw [getD_aft (by rw [inv_length]; exact hk), getD_inv hk, idx_get hp hk, getD_idn hk]
theorem aft_idn_right (p : List Nat) : aft p (idn p.length) = p := by
  apply ext_getD (by simp [aft_length, idn_length])
  intro k hk
  rw [aft_length, idn_length] at hk
  rw [getD_aft (by rw [idn_length]; exact hk), getD_idn hk]
theorem aft_idn_left {p : List Nat} {n : Nat} (hp : ∀ k, k < p.length → p.getD k 0 < n) : aft (idn n) p = p := by
  apply ext_getD (by simp [aft_length])
  intro k hk
  rw [aft_length] at hk
  rw [getD_aft hk, getD_idn (hp k hk)]
theorem inv_aft {p q : List Nat} (hp : Perm p) (hq : Perm q) (hl : p.length = q.length) : inv (aft p q) = aft (inv q) (inv p) := by
  have hx := aft_perm hp hq hl
  apply ext_getD (by simp [aft_length, inv_length, hl])
  intro k hk
  rw [inv_length, aft_length] at hk
  have hkp : k < p.length := by omega
  have hi : p.idxOf k < q.length := by rw [← hl]; exact idx_lt hp hkp
  rw [getD_inv (by rw [aft_length]; exact hk), getD_aft (by rw [inv_length]; exact hkp), getD_inv hkp, getD_inv hi]
  apply hx.inj (idx_lt hx (by rw [aft_length]; exact hk)) (by rw [aft_length]; exact idx_lt hq hi)
  rw [idx_get hx (by rw [aft_length]; exact hk), getD_aft (idx_lt hq hi), idx_get hq hi, idx_get hp hkp]

/-- A list of numbers that is an order. -/
def IsOrder (p : List Int) : Prop := p.Nodup ∧ ∀ x ∈ p, 0 ≤ x ∧ x < (p.length : Int)
instance (p : List Int) : Decidable (IsOrder p) := inferInstanceAs (Decidable (_ ∧ _))

theorem order_ints {t : List Nat} : IsOrder (ints t) ↔ Perm t := by
  unfold IsOrder Perm
  rw [length_ints]
  constructor
  · intro ⟨h1, h2⟩
    refine ⟨?_, fun x hx => ?_⟩
    · unfold ints at h1
      rw [List.nodup_iff_pairwise_ne, List.pairwise_map] at h1
      exact h1.imp fun h e => h (by rw [e])
    · have := h2 (x : Int) (List.mem_map.2 ⟨x, hx, rfl⟩)
      omega
  · intro ⟨h1, h2⟩
    refine ⟨?_, fun x hx => ?_⟩
    · unfold ints
      rw [List.nodup_iff_pairwise_ne, List.pairwise_map]
      exact List.Pairwise.imp (fun h e => h (by omega)) (List.nodup_iff_pairwise_ne.1 h1)
    · obtain ⟨y, hy, rfl⟩ := List.mem_map.1 hx
      have := h2 y hy
      omega
theorem order_open {p : List Int} (h : IsOrder p) : ∃ t, p = ints t ∧ Perm t := by
  have e : p = ints (p.map Int.toNat) := by
    unfold ints
    rw [List.map_map]
    symm
    calc _ = p.map id := List.map_congr_left fun x hx => by have := h.2 x hx; simp; omega
      _ = p := List.map_id p
  refine ⟨_, e, ?_⟩
  rw [e] at h
  exact order_ints.1 h

/-- What is wrong with an order; with two of them. -/
def ordErr (p : List Int) : Int := if 4096 < p.length then 7 else if IsOrder p then 0 else 6
def aftErr (p q : List Int) : Int := if ordErr p ≠ 0 then ordErr p else if ordErr q ≠ 0 then ordErr q else if p.length ≠ q.length then 4 else 0

theorem ordErr_zero {p : List Int} (h : ordErr p = 0) : ∃ t, p = ints t ∧ Perm t ∧ t.length ≤ 4096 := by
  unfold ordErr at h
  by_cases h1 : 4096 < p.length
  · rw [if_pos h1] at h; omega
  · rw [if_neg h1] at h
    by_cases h2 : IsOrder p
    · obtain ⟨t, rfl, ht⟩ := order_open h2
      rw [length_ints] at h1
      exact ⟨t, rfl, ht, by omega⟩
    · rw [if_neg h2] at h; omega
theorem ordErr_ok {t : List Nat} (h : Perm t) (hl : t.length ≤ 4096) : ordErr (ints t) = 0 := by
  unfold ordErr
  rw [length_ints, if_neg (by omega), if_pos (order_ints.2 h)]
theorem aftErr_zero {p q : List Int} (h : aftErr p q = 0) : ∃ s t, p = ints s ∧ q = ints t ∧ Perm s ∧ Perm t ∧ s.length = t.length ∧ s.length ≤ 4096 := by
  unfold aftErr at h
  by_cases h1 : ordErr p ≠ 0
  · rw [if_pos h1] at h; exact absurd h h1
  · rw [if_neg h1] at h
    by_cases h2 : ordErr q ≠ 0
    · rw [if_pos h2] at h; exact absurd h h2
    · rw [if_neg h2] at h
      by_cases h3 : p.length ≠ q.length
      · rw [if_pos h3] at h; omega
      · obtain ⟨s, rfl, hs, hl⟩ := ordErr_zero (by simpa using h1)
        obtain ⟨t, rfl, ht, hl'⟩ := ordErr_zero (by simpa using h2)
        rw [length_ints, length_ints] at h3
        exact ⟨s, t, rfl, rfl, hs, ht, by simpa using h3, hl⟩

/-- Which numbers have been seen, bit by bit. -/
def Seen (S : List Nat) (l : List Nat) : Prop := S.length = 65 ∧ (∀ k, k < 65 → S.getD k 0 < 18446744073709551616) ∧ ∀ i, i < 4160 → (S.getD (i / 64) 0).testBit (i % 64) = decide (i ∈ l)
theorem Seen.nil : Seen (List.replicate 65 0) [] := by
  refine ⟨by simp, fun k hk => ?_, fun i hi => ?_⟩
  · rw [List.getD_eq_getElem?_getD, List.getElem?_replicate, if_pos hk]; simp
  · rw [List.getD_eq_getElem?_getD, List.getElem?_replicate, if_pos (by omega)]; simp
theorem Seen.add {S : List Nat} {l : List Nat} (h : Seen S l) {i : Nat} (hi : i < 4160) : Seen (S.set (i / 64) (S.getD (i / 64) 0 ||| 2 ^ (i % 64))) (l ++ [i]) := by
  obtain ⟨h1, h2, h3⟩ := h
  have hp : 2 ^ (i % 64) < 2 ^ 64 := Nat.pow_lt_pow_right (by omega) (by omega)
  have hlt : S.getD (i / 64) 0 ||| 2 ^ (i % 64) < 2 ^ 64 := Nat.or_lt_two_pow (h2 _ (by omega)) hp
  refine ⟨by simp [h1], fun k hk => ?_, fun j hj => ?_⟩
  · rw [List.getD_eq_getElem?_getD, List.getElem?_set]
    by_cases e : i / 64 = k
    · rw [if_pos e, if_pos (by omega)]
      simpa using hlt
    · rw [if_neg e, ← List.getD_eq_getElem?_getD]
      exact h2 k hk
  · rw [List.getD_eq_getElem?_getD, List.getElem?_set]
    by_cases e : i / 64 = j / 64
    · rw [if_pos e, if_pos (by omega), Option.getD_some, Nat.testBit_or, Nat.testBit_two_pow]
      rw [e, h3 j hj]
      by_cases e2 : i = j
      · subst e2; simp
      · have : i % 64 ≠ j % 64 := by omega
        simp [this, Ne.symm e2]
    · rw [if_neg e, ← List.getD_eq_getElem?_getD, h3 j hj]
      have : j ≠ i := by omega
      simp [this]

end Go.Proofs.YtajcjipabfknhaaDoor.P
