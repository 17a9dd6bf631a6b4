/- Plain facts: the cycles of an order; its sign and its powers by them. Conditions: none. -/
import Derived.Test.YtajcjipabfknhaaDoorSign
import Derived.Test.YtajcjipabfknhaaDoorPower
set_option linter.unusedSimpArgs false
set_option linter.unusedVariables false
namespace Go.Proofs.YtajcjipabfknhaaDoor.P

/-- Where a number goes, m times. -/
def orb (p : List Nat) (m i : Nat) : List Nat := (List.range m).map fun k => it p k i
theorem orb_length (p : List Nat) (m i : Nat) : (orb p m i).length = m := by simp [orb]
theorem orb_succ (p : List Nat) (m i : Nat) : orb p (m + 1) i = orb p m i ++ [it p m i] := by simp [orb, List.range_succ]
theorem mem_orb {p : List Nat} {m i x : Nat} : x ∈ orb p m i ↔ ∃ k, k < m ∧ it p k i = x := by simp [orb]
theorem getD_orb {p : List Nat} {m i k : Nat} (hk : k < m) : (orb p m i).getD k 0 = it p k i := by simp [orb, List.getD_eq_getElem?_getD, hk]
theorem orb_lt {p : List Nat} (h : Perm p) {m i x : Nat} (hi : i < p.length) (hx : x ∈ orb p m i) : x < p.length := by
  obtain ⟨k, _, rfl⟩ := mem_orb.1 hx
  exact it_lt h k hi

/-- A cycle: a number's way until it comes back. -/
def IsRound (p c : List Nat) : Prop := ∃ i, i < p.length ∧ 1 ≤ c.length ∧ c = orb p c.length i ∧ it p c.length i = i ∧ c.Nodup
/-- What holds of a number just if it holds of the one that it goes to. -/
def Shut (p D : List Nat) : Prop := ∀ x, x < p.length → (p.getD x 0 ∈ D ↔ x ∈ D)

theorem IsRound.lt {p c : List Nat} (h : Perm p) (hc : IsRound p c) {x : Nat} (hx : x ∈ c) : x < p.length := by
  obtain ⟨i, hi, _, e, _⟩ := hc
  rw [e] at hx
  exact orb_lt h hi hx
theorem IsRound.shut {p c : List Nat} (h : Perm p) (hc : IsRound p c) : Shut p c := by
  obtain ⟨i, hi, hl, e, hb, _⟩ := hc
  intro x hx
  generalize hL : c.length = L at *
  rw [e]
  constructor
  · intro hm
    obtain ⟨k, hk, ek⟩ := mem_orb.1 hm
    cases k with
    | zero =>
      have e2 : p.getD (it p (L - 1) i) 0 = p.getD x 0 := by
        have : it p (L - 1 + 1) i = i := by rw [show L - 1 + 1 = L by omega]; exact hb
        simp only [it] at this ek
        rw [this, ek]
      exact mem_orb.2 ⟨L - 1, by omega, h.inj (it_lt h _ hi) hx e2⟩
    | succ k =>
      exact mem_orb.2 ⟨k, by omega, h.inj (it_lt h _ hi) hx ek⟩
  · intro hm
    obtain ⟨k, hk, ek⟩ := mem_orb.1 hm
    by_cases h1 : k + 1 < L
    · exact mem_orb.2 ⟨k + 1, h1, by simp only [it]; rw [ek]⟩
    · refine mem_orb.2 ⟨0, by omega, ?_⟩
      have : it p (k + 1) i = i := by rw [show k + 1 = L by omega]; exact hb
      simp only [it] at this ⊢
      rw [ek] at this
      exact this.symm
theorem Shut.nil (p : List Nat) : Shut p [] := fun x _ => by simp
theorem Shut.append {p C D : List Nat} (h : Shut p C) (k : Shut p D) : Shut p (C ++ D) := fun x hx => by
  rw [List.mem_append, List.mem_append, h x hx, k x hx]
theorem Shut.it {p D : List Nat} (hp : Perm p) (h : Shut p D) (m : Nat) {i : Nat} (hi : i < p.length) : it p m i ∈ D ↔ i ∈ D := by
  induction m with
  | zero => rfl
  | succ m ih =>
    show p.getD (P.it p m i) 0 ∈ D ↔ _
    rw [h _ (it_lt hp m hi), ih]

/-- A number met again is the first one: the cycle is shut. -/
theorem orb_shut {p D : List Nat} (hp : Perm p) (hD : Shut p D) {m i : Nat} (hi : i < p.length) (hiD : i ∉ D) (hn : (orb p m i).Nodup) (hj : P.it p m i ∈ D ++ orb p m i) : 1 ≤ m ∧ IsRound p (orb p m i) := by
  have h1 : P.it p m i ∉ D := fun h => hiD ((hD.it hp m hi).1 h)
  rcases List.mem_append.1 hj with h | h
  · exact absurd h h1
  · obtain ⟨k, hk, ek⟩ := mem_orb.1 h
    have hm : 1 ≤ m := by omega
    refine ⟨hm, i, hi, by rw [orb_length]; exact hm, by rw [orb_length], ?_, hn⟩
    rw [orb_length]
    rcases Nat.eq_zero_or_pos k with h0 | h0
    · subst h0
      exact ek.symm
    · -- the one ahead of it stands twice
      have e2 : P.it p (m - k) i = i := by
        have e3 : P.it p m i = P.it p k (P.it p (m - k) i) := by rw [← it_add]; congr 1; omega
        rw [e3] at ek
        exact (it_inj hp k hi (it_lt hp _ hi) ek).symm
      exfalso
      rw [List.nodup_iff_pairwise_ne, List.pairwise_iff_getElem] at hn
      have := hn 0 (m - k) (by rw [orb_length]; omega) (by rw [orb_length]; omega) (by omega)
      simp only [orb, List.getElem_map, List.getElem_range] at this
      exact this (by rw [e2]; rfl)

/-- Cycles so far: none meets another. -/
def Rounds (p : List Nat) (cs : List (List Nat)) : Prop := (∀ c ∈ cs, IsRound p c) ∧ cs.flatten.Nodup
theorem Rounds.nil (p : List Nat) : Rounds p [] := ⟨by simp, by simp⟩
theorem Rounds.shut {p : List Nat} (hp : Perm p) : ∀ {cs : List (List Nat)}, (∀ c ∈ cs, IsRound p c) → Shut p cs.flatten
  | [], _ => Shut.nil p
  | c :: cs, h => by
    rw [List.flatten_cons]
    exact ((h c List.mem_cons_self).shut hp).append (Rounds.shut hp fun d hd => h d (List.mem_cons_of_mem _ hd))
theorem Rounds.add {p : List Nat} {cs : List (List Nat)} {c : List Nat} (h : Rounds p cs) (hc : IsRound p c) (hd : ∀ y ∈ c, y ∉ cs.flatten) : Rounds p (cs ++ [c]) := by
  refine ⟨fun d hm => ?_, ?_⟩
  · rcases List.mem_append.1 hm with hm | hm
    · exact h.1 d hm
    · simp at hm; rw [hm]; exact hc
  · obtain ⟨_, _, _, _, _, hn⟩ := hc
    rw [List.flatten_append, List.nodup_append]
    refine ⟨h.2, by simpa using hn, fun a ha b hb e => ?_⟩
    simp at hb
    exact hd b hb (e ▸ ha)
theorem Rounds.lt {p : List Nat} (hp : Perm p) {cs : List (List Nat)} (h : Rounds p cs) {x : Nat} (hx : x ∈ cs.flatten) : x < p.length := by
  obtain ⟨c, hc, hm⟩ := List.mem_flatten.1 hx
  exact (h.1 c hc).lt hp hm
theorem Rounds.len {p : List Nat} (hp : Perm p) {cs : List (List Nat)} (h : Rounds p cs) : cs.flatten.length ≤ p.length := by
  have := List.Nodup.length_le_of_subset h.2 (l₂ := List.range p.length) fun x hx => by simpa using h.lt hp hx
  simpa using this

/-- An order on some numbers, and not at all on the others. -/
def part (p D : List Nat) : List Nat := (List.range p.length).map fun x => if x ∈ D then p.getD x 0 else x
theorem part_length (p D : List Nat) : (part p D).length = p.length := by simp [part]
theorem getD_part {p D : List Nat} {x : Nat} (hx : x < p.length) : (part p D).getD x 0 = if x ∈ D then p.getD x 0 else x := by simp [part, List.getD_eq_getElem?_getD, hx]
theorem part_nil (p : List Nat) : part p [] = idn p.length := by
  apply ext_getD (by rw [part_length, idn_length])
  intro x hx
  rw [part_length] at hx
  rw [getD_part hx, getD_idn hx]
  simp
theorem part_all {p D : List Nat} (h : ∀ x, x < p.length → x ∈ D) : part p D = p := by
  apply ext_getD (part_length _ _)
  intro x hx
  rw [part_length] at hx
  rw [getD_part hx, if_pos (h x hx)]
theorem part_perm {p D : List Nat} (hp : Perm p) (hD : Shut p D) : Perm (part p D) := by
  apply perm_of
  · intro x hx
    rw [part_length] at hx ⊢
    rw [getD_part hx]
    split
    · exact hp.lt hx
    · exact hx
  · intro x y hx hy e
    rw [part_length] at hx hy
    rw [getD_part hx, getD_part hy] at e
    by_cases h1 : x ∈ D
    · by_cases h2 : y ∈ D
      · rw [if_pos h1, if_pos h2] at e
        exact hp.inj hx hy e
      · rw [if_pos h1, if_neg h2] at e
        exact absurd ((hD x hx).2 h1) (e ▸ h2)
    · by_cases h2 : y ∈ D
      · rw [if_neg h1, if_pos h2] at e
        exact absurd ((hD y hy).2 h2) (e ▸ h1)
      · rw [if_neg h1, if_neg h2] at e
        exact e

/-- A cycle of which m numbers are in. -/
def mid (p D : List Nat) (i m : Nat) : List Nat := (List.range p.length).map fun x => if x ∈ D then p.getD x 0 else if x ∈ orb p m i then (if x = P.it p (m - 1) i then i else p.getD x 0) else x
theorem mid_length (p D : List Nat) (i m : Nat) : (mid p D i m).length = p.length := by simp [mid]
theorem getD_mid {p D : List Nat} {i m x : Nat} (hx : x < p.length) : (mid p D i m).getD x 0 = if x ∈ D then p.getD x 0 else if x ∈ orb p m i then (if x = P.it p (m - 1) i then i else p.getD x 0) else x := by simp [mid, List.getD_eq_getElem?_getD, hx]

theorem mid_one {p D : List Nat} {i : Nat} : mid p D i 1 = part p D := by
  apply ext_getD (by rw [mid_length, part_length])
  intro x hx
  rw [mid_length] at hx
  rw [getD_mid hx, getD_part hx]
  by_cases h1 : x ∈ D
  · rw [if_pos h1, if_pos h1]
  · rw [if_neg h1, if_neg h1]
    by_cases h2 : x = i
    · subst h2
      have hm : x ∈ orb p 1 x := mem_orb.2 ⟨0, by omega, rfl⟩
      rw [if_pos hm, if_pos (show x = P.it p (1 - 1) x from rfl)]
    · rw [if_neg]
      intro h
      obtain ⟨k, hk, e⟩ := mem_orb.1 h
      obtain rfl : k = 0 := by omega
      exact h2 e.symm
theorem mid_next {p D : List Nat} (hp : Perm p) {i m L : Nat} (hi : i < p.length) (h1 : 1 ≤ m) (hm : m < L) (hn : (orb p L i).Nodup) (hd : ∀ y ∈ orb p L i, y ∉ D) :
    mid p D i (m + 1) = swp (mid p D i m) (P.it p (m - 1) i) (P.it p m i) := by
  have ha := it_lt hp (m - 1) hi
  have hb := it_lt hp m hi
  have dist : ∀ k l, k < L → l < L → P.it p k i = P.it p l i → k = l := fun k l hk hl e => by
    rw [List.nodup_iff_pairwise_ne, List.pairwise_iff_getElem] at hn
    rcases Nat.lt_trichotomy k l with h | h | h
    · have := hn k l (by rw [orb_length]; exact hk) (by rw [orb_length]; exact hl) h
      simp only [orb, List.getElem_map, List.getElem_range] at this
      exact absurd e this
    · exact h
    · have := hn l k (by rw [orb_length]; exact hl) (by rw [orb_length]; exact hk) h
      simp only [orb, List.getElem_map, List.getElem_range] at this
      exact absurd e.symm this
  have haD : P.it p (m - 1) i ∉ D := hd _ (mem_orb.2 ⟨m - 1, by omega, rfl⟩)
  have hbD : P.it p m i ∉ D := hd _ (mem_orb.2 ⟨m, by omega, rfl⟩)
  have hao : P.it p (m - 1) i ∈ orb p m i := mem_orb.2 ⟨m - 1, by omega, rfl⟩
  have hbo : P.it p m i ∉ orb p m i := fun h => by
    obtain ⟨k, hk, e⟩ := mem_orb.1 h
    have := dist k m (by omega) (by omega) e
    omega
  have hab : P.it p (m - 1) i ≠ P.it p m i := fun h => by have := dist _ _ (by omega) (by omega) h; omega
  have hpa : p.getD (P.it p (m - 1) i) 0 = P.it p m i := by
    obtain ⟨k, rfl⟩ : ∃ k, m = k + 1 := ⟨m - 1, by omega⟩
    rfl
  apply ext_getD (by rw [mid_length, swp_length, mid_length])
  intro x hx
  rw [mid_length] at hx
  rw [getD_swp (by rw [mid_length]; exact ha) (by rw [mid_length]; exact hb) (by rw [mid_length]; exact hx), getD_mid hx, getD_mid ha, getD_mid hb, getD_mid hx]
  rw [if_neg haD, if_pos hao, if_pos rfl, if_neg hbD, if_neg hbo, Nat.add_sub_cancel]
  by_cases e1 : x = P.it p m i
  · rw [if_pos e1, e1, if_neg hbD, if_pos (mem_orb.2 ⟨m, by omega, rfl⟩), if_pos rfl]
  · rw [if_neg e1]
    by_cases e2 : x = P.it p (m - 1) i
    · rw [if_pos e2, e2, if_neg haD, if_pos (mem_orb.2 ⟨m - 1, by omega, rfl⟩), if_neg hab, hpa]
    · rw [if_neg e2, if_neg e2]
      by_cases e3 : x ∈ D
      · rw [if_neg e1, if_pos e3, if_pos e3]
      · rw [if_neg e1, if_neg e3, if_neg e3]
        by_cases e4 : x ∈ orb p m i
        · have h5 : x ∈ orb p (m + 1) i := by rw [orb_succ]; exact List.mem_append_left _ e4
          rw [if_pos e4, if_pos h5]
        · rw [if_neg e4, if_neg]
          rw [orb_succ]
          intro h
          rcases List.mem_append.1 h with h | h
          · exact e4 h
          · simp at h; exact e1 h

theorem mid_sgn {p D : List Nat} (hp : Perm p) (hD : Shut p D) {i L : Nat} (hi : i < p.length) (hn : (orb p L i).Nodup) (hd : ∀ y ∈ orb p L i, y ∉ D) : ∀ m, m + 1 ≤ L →
    Perm (mid p D i (m + 1)) ∧ sgn (mid p D i (m + 1)) = if (m + 1) % 2 = 0 then -sgn (part p D) else sgn (part p D)
  | 0, _ => by rw [mid_one]; exact ⟨part_perm hp hD, rfl⟩
  | m + 1, h => by
    obtain ⟨h1, h2⟩ := mid_sgn hp hD hi hn hd m (by omega)
    have hm := mid_next (D := D) hp hi (m := m + 1) (by omega) (by omega) hn hd
    have ha : P.it p (m + 1 - 1) i < (mid p D i (m + 1)).length := by rw [mid_length]; exact it_lt hp _ hi
    have hb : P.it p (m + 1) i < (mid p D i (m + 1)).length := by rw [mid_length]; exact it_lt hp _ hi
    have hne : P.it p (m + 1 - 1) i ≠ P.it p (m + 1) i := fun e => by
      rw [List.nodup_iff_pairwise_ne, List.pairwise_iff_getElem] at hn
      have := hn (m + 1 - 1) (m + 1) (by rw [orb_length]; omega) (by rw [orb_length]; omega) (by omega)
      simp only [orb, List.getElem_map, List.getElem_range] at this
      exact this e
    rw [hm]
    refine ⟨swp_perm h1 ha hb, ?_⟩
    rw [sgn_swp h1 ha hb hne, h2]
    by_cases c : (m + 1) % 2 = 0
    · rw [if_pos c, if_neg (by omega)]; omega
    · rw [if_neg c, if_pos (by omega)]

theorem sgn_part_add {p D c : List Nat} (hp : Perm p) (hD : Shut p D) (hc : IsRound p c) (hd : ∀ y ∈ c, y ∉ D) :
    sgn (part p (D ++ c)) = if c.length % 2 = 0 then -sgn (part p D) else sgn (part p D) := by
  obtain ⟨i, hi, hl, e, hb, hn⟩ := hc
  generalize hL : c.length = L at *
  subst e
  obtain ⟨m, rfl⟩ : ∃ m, L = m + 1 := ⟨L - 1, by omega⟩
  have h := (mid_sgn hp hD hi hn hd m (Nat.le_refl _)).2
  have e2 : mid p D i (m + 1) = part p (D ++ orb p (m + 1) i) := by
    apply ext_getD (by rw [mid_length, part_length])
    intro x hx
    rw [mid_length] at hx
    rw [getD_mid hx, getD_part hx, Nat.add_sub_cancel]
    by_cases h1 : x ∈ D
    · rw [if_pos h1, if_pos (List.mem_append_left _ h1)]
    · rw [if_neg h1]
      by_cases h2 : x ∈ orb p (m + 1) i
      · rw [if_pos h2, if_pos (List.mem_append_right _ h2)]
        by_cases h3 : x = P.it p m i
        · rw [if_pos h3, h3]; exact hb.symm
        · rw [if_neg h3]
      · rw [if_neg h2, if_neg]
        intro h
        rcases List.mem_append.1 h with h | h
        · exact h1 h
        · exact h2 h
  rw [← e2]
  exact h

/-- A power, along a cycle. -/
theorem round_pwr {p c : List Nat} (hp : Perm p) (hc : IsRound p c) (K : Int) {k : Nat} (hk : k < c.length) :
    ∃ r : Nat, r < c.length ∧ ((k : Int) + K.tmod c.length + c.length).tmod c.length = r ∧ c.getD r 0 = (pwr p K).getD (c.getD k 0) 0 ∧ 0 ≤ (k : Int) + K.tmod c.length + c.length := by
  obtain ⟨i, hi, hl, e, hb, hn⟩ := hc
  generalize hL : c.length = L at *
  have hLn : L ≤ p.length := by
    have := List.Nodup.length_le_of_subset hn (l₂ := List.range p.length) fun x hx => by
      rw [e] at hx
      simpa using orb_lt hp hi hx
    rw [hL] at this
    simpa using this
  subst e
  have ht1 := Int.lt_tmod_of_pos K (show (0 : Int) < L by omega)
  have ht2 := Int.tmod_lt_of_pos K (show (0 : Int) < L by omega)
  have h0 : 0 ≤ K.tmod L + L := by omega
  obtain ⟨m, hm⟩ : ∃ m : Nat, K.tmod L + L = m := ⟨(K.tmod L + L).toNat, by omega⟩
  have hmod : (m : Int) % (L : Int) = K % (L : Int) := by
    rw [← hm, Int.add_emod_right]
    have := Int.mul_tdiv_add_tmod K L
    conv => rhs; rw [← this]
    rw [Int.add_comm, Int.add_mul_emod_self_left]
  refine ⟨(k + m) % L, Nat.mod_lt _ (by omega), ?_, ?_, by omega⟩
  · rw [Int.add_assoc, hm, ← Int.natCast_add, Int.tmod_eq_emod_of_nonneg (by omega), Int.natCast_emod]
  · rw [getD_orb (Nat.mod_lt _ (by omega)), getD_orb hk]
    have hb' : P.it p L (P.it p k i) = P.it p k i := by rw [← it_add, Nat.add_comm, it_add, hb]
    rw [pwr_at hp (it_lt hp k hi) hl hLn hb' hmod, ← it_add, Nat.add_comm m k]
    exact (it_mod hb _).symm

end Go.Proofs.YtajcjipabfknhaaDoor.P
