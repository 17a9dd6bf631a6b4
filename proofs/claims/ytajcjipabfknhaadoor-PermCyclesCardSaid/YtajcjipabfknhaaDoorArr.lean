/- Plain facts on arrays: what is wrong with one, its cells by their indices, an array laid out by a function of the indices. Conditions: none. -/
import Derived.Test.YtajcjipabfknhaaDoorPlain
set_option linter.unusedSimpArgs false
set_option linter.unusedVariables false
namespace Go.Proofs.YtajcjipabfknhaaDoor.P

/-- An array as it stands in memory, right or wrong. -/
structure Arr where
  ch : Bool
  sh : List Int
  da : List Int

/-- The array without anything. -/
def Arr.nil : Arr := ⟨false, [], []⟩

/-- What is wrong with the lengths one by one: 0, 4 (below 0) or 7 (too long). -/
def scanErr : List Int → Int
  | [] => 0
  | n :: r => if n < 0 then 4 else if 4096 < n then 7 else scanErr r

/-- The product, as it is reckoned from the first on; none: too great on the way. -/
def grow : Int → List Int → Option Int
  | p, [] => some p
  | p, n :: r => if 4096 < p * n then none else grow (p * n) r

def cntErr (s : List Int) : Int :=
  if 6 < s.length then 3
  else if scanErr s ≠ 0 then scanErr s
  else if (0 : Int) ∈ s then 0
  else match grow 1 s with | none => 7 | some _ => 0

def cntVal (s : List Int) : Int :=
  if 6 < s.length then 0
  else if scanErr s ≠ 0 then 0
  else if (0 : Int) ∈ s then 0
  else match grow 1 s with | none => 0 | some p => p

def badRune (c : Int) : Bool := c < 0 || 1114111 < c || (55296 ≤ c && c ≤ 57343)

def arrErr (a : Arr) : Int :=
  if cntErr a.sh ≠ 0 then cntErr a.sh
  else if (a.da.length : Int) ≠ cntVal a.sh then 4
  else if a.ch && a.da.any badRune then 6
  else 0

/-- A shape that may be. -/
def GoodSh (s : List Nat) : Prop := s.length ≤ 6 ∧ (∀ n ∈ s, n ≤ 4096) ∧ prod s ≤ 4096

def ints (s : List Nat) : List Int := s.map fun n : Nat => (n : Int)

theorem length_ints (s : List Nat) : (ints s).length = s.length := by simp [ints]
theorem getElem?_ints (s : List Nat) (k : Nat) : (ints s)[k]? = s[k]?.map fun n : Nat => (n : Int) := by simp [ints]

theorem scanErr_ints : ∀ {s : List Nat}, (∀ n ∈ s, n ≤ 4096) → scanErr (ints s) = 0
  | [], _ => rfl
  | n :: s, h => by
    have h1 := h n (by simp)
    have h2 := scanErr_ints (s := s) fun m hm => h m (by simp [hm])
    simp only [ints, List.map_cons, scanErr] at h2 ⊢
    rw [if_neg (by omega), if_neg (by omega)]
    exact h2

theorem scanErr_zero : ∀ {s : List Int}, scanErr s = 0 → ∃ t : List Nat, s = ints t ∧ ∀ n ∈ t, n ≤ 4096
  | [], _ => ⟨[], rfl, by simp⟩
  | n :: s, h => by
    simp only [scanErr] at h
    by_cases h1 : n < 0
    · rw [if_pos h1] at h; omega
    · rw [if_neg h1] at h
      by_cases h2 : 4096 < n
      · rw [if_pos h2] at h; omega
      · rw [if_neg h2] at h
        obtain ⟨t, rfl, ht⟩ := scanErr_zero h
        refine ⟨n.toNat :: t, ?_, ?_⟩
        · simp only [ints, List.map_cons]
          rw [Int.toNat_of_nonneg (by omega)]
        · intro m hm
          rcases List.mem_cons.1 hm with rfl | hm
          · omega
          · exact ht m hm

theorem prod_pos : ∀ {s : List Nat}, 0 ∉ s → 0 < prod s
  | [], _ => by simp [prod]
  | n :: s, h => by
    simp only [List.mem_cons, not_or] at h
    simp only [prod]
    exact Nat.mul_pos (by omega) (prod_pos h.2)

theorem prod_zero : ∀ {s : List Nat}, 0 ∈ s → prod s = 0
  | n :: s, h => by
    simp only [prod]
    rcases List.mem_cons.1 h with h | h
    · rw [← h]; simp
    · rw [prod_zero h]; simp

theorem grow_ints : ∀ {s : List Nat} (p : Nat), 0 ∉ s → p * prod s ≤ 4096 → grow p (ints s) = some ((p * prod s : Nat) : Int)
  | [], p, _, _ => by simp [grow, ints, prod]
  | n :: s, p, h, hp => by
    simp only [List.mem_cons, not_or] at h
    have hpos := prod_pos h.2
    simp only [prod] at hp ⊢
    rw [← Nat.mul_assoc] at hp ⊢
    have h1 : p * n ≤ p * n * prod s := Nat.le_mul_of_pos_right _ hpos
    have h2 := grow_ints (s := s) (p * n) h.2 hp
    simp only [ints, List.map_cons, grow] at h2 ⊢
    have e : (p : Int) * (n : Int) = ((p * n : Nat) : Int) := by simp
    rw [e, if_neg (by omega), h2]

theorem grow_some : ∀ {s : List Nat} {p : Nat} {q : Int}, 0 ∉ s → p ≤ 4096 → grow p (ints s) = some q → p * prod s ≤ 4096
  | [], p, q, _, hp, h => by simpa [prod] using hp
  | n :: s, p, q, hn, hp, h => by
    simp only [List.mem_cons, not_or] at hn
    simp only [ints, List.map_cons, grow] at h
    have e : (p : Int) * (n : Int) = ((p * n : Nat) : Int) := by simp
    rw [e] at h
    by_cases h1 : (4096 : Int) < ((p * n : Nat) : Int)
    · rw [if_pos h1] at h; cases h
    · rw [if_neg h1] at h
      have := grow_some (s := s) (p := p * n) hn.2 (by omega) h
      simp only [prod]
      rw [← Nat.mul_assoc]
      exact this

theorem mem_ints_zero {s : List Nat} : (0 : Int) ∈ ints s ↔ 0 ∈ s := by
  simp only [ints, List.mem_map]
  constructor
  · rintro ⟨n, hn, h⟩
    have : n = 0 := by omega
    rw [← this]; exact hn
  · intro h
    exact ⟨0, h, rfl⟩

theorem cntErr_ints {s : List Nat} (h : GoodSh s) : cntErr (ints s) = 0 := by
  obtain ⟨h1, h2, h3⟩ := h
  unfold cntErr
  rw [if_neg (by rw [length_ints]; omega), if_neg (by rw [scanErr_ints h2]; simp)]
  by_cases h0 : 0 ∈ s
  · rw [if_pos (mem_ints_zero.2 h0)]
  · rw [if_neg (fun h => h0 (mem_ints_zero.1 h))]
    have := grow_ints (s := s) 1 h0 (by omega)
    rw [show ((1 : Nat) : Int) = 1 from rfl] at this
    rw [this]

theorem cntVal_ints {s : List Nat} (h : GoodSh s) : cntVal (ints s) = (prod s : Int) := by
  obtain ⟨h1, h2, h3⟩ := h
  unfold cntVal
  rw [if_neg (by rw [length_ints]; omega), if_neg (by rw [scanErr_ints h2]; simp)]
  by_cases h0 : 0 ∈ s
  · rw [if_pos (mem_ints_zero.2 h0), prod_zero h0]; rfl
  · rw [if_neg (fun h => h0 (mem_ints_zero.1 h))]
    have := grow_ints (s := s) 1 h0 (by omega)
    rw [show ((1 : Nat) : Int) = 1 from rfl] at this
    rw [this]; simp

theorem cntErr_zero {s : List Int} (h : cntErr s = 0) : ∃ t, s = ints t ∧ GoodSh t := by
  unfold cntErr at h
  by_cases h1 : 6 < s.length
  · rw [if_pos h1] at h; omega
  · rw [if_neg h1] at h
    by_cases h2 : scanErr s ≠ 0
    · rw [if_pos h2] at h; exact absurd h h2
    · rw [if_neg h2] at h
      obtain ⟨t, rfl, ht⟩ := scanErr_zero (by simpa using h2)
      refine ⟨t, rfl, by rw [length_ints] at h1; omega, ht, ?_⟩
      by_cases h0 : 0 ∈ t
      · rw [prod_zero h0]; omega
      · rw [if_neg (fun h => h0 (mem_ints_zero.1 h))] at h
        rcases hg : grow 1 (ints t) with _ | q
        · rw [hg] at h; simp at h
        · have := grow_some (p := 1) h0 (by omega) hg
          omega

/-- An array without a fault, its lengths being t. -/
structure Ok (a : Arr) (t : List Nat) : Prop where
  sh : a.sh = ints t
  good : GoodSh t
  len : a.da.length = prod t
  rune : a.ch = true → a.da.any badRune = false

theorem arrErr_ok {a : Arr} {t : List Nat} (h : Ok a t) : arrErr a = 0 := by
  unfold arrErr
  rw [h.sh, if_neg (by rw [cntErr_ints h.good]; simp), if_neg (by rw [cntVal_ints h.good, h.len]; simp)]
  rw [if_neg]
  intro hb
  simp only [Bool.and_eq_true] at hb
  have := h.rune hb.1
  rw [hb.2] at this
  cases this

theorem ok_of_arrErr {a : Arr} (h : arrErr a = 0) : ∃ t, Ok a t := by
  unfold arrErr at h
  by_cases h1 : cntErr a.sh ≠ 0
  · rw [if_pos h1] at h; exact absurd h h1
  · rw [if_neg h1] at h
    obtain ⟨t, ht, hg⟩ := cntErr_zero (by simpa using h1)
    by_cases h2 : (a.da.length : Int) ≠ cntVal a.sh
    · rw [if_pos h2] at h; omega
    · rw [if_neg h2] at h
      have h2' : (a.da.length : Int) = cntVal a.sh := by simpa using h2
      rw [ht, cntVal_ints hg] at h2'
      refine ⟨t, ht, hg, by omega, fun hc => ?_⟩
      by_cases h3 : a.da.any badRune = true
      · rw [if_pos (by simp [hc, h3])] at h; omega
      · simpa using h3

theorem ints_inj : ∀ {s t : List Nat}, ints s = ints t → s = t
  | [], [], _ => rfl
  | n :: s, m :: t, h => by
    simp only [ints, List.map_cons, List.cons.injEq] at h
    rw [ints_inj (s := s) (t := t) h.2]
    have : n = m := by omega
    rw [this]
  | [], _ :: _, h => by simp [ints] at h
  | _ :: _, [], h => by simp [ints] at h

/-- The lengths as numbers from 0 on. -/
def Arr.nsh (a : Arr) : List Nat := a.sh.map Int.toNat

theorem toNat_ints (s : List Nat) : (ints s).map Int.toNat = s := by
  induction s with
  | nil => rfl
  | cons n s ih => simp only [ints, List.map_cons] at ih ⊢; rw [ih]; simp

theorem Ok.nsh_eq {a : Arr} {t : List Nat} (h : Ok a t) : a.nsh = t := by
  unfold Arr.nsh; rw [h.sh, toNat_ints]

/-- The cell at some indices. -/
def Arr.cell (a : Arr) (ix : List Nat) : Int := a.da.getD (place a.nsh ix) 0

/-- An array laid out by a function of the indices. -/
def tab (c : Bool) (s : List Nat) (g : List Nat → Int) : Arr := ⟨c, ints s, (List.range (prod s)).map fun p => g (coords s p)⟩

theorem tab_nsh (c : Bool) (s : List Nat) (g : List Nat → Int) : (tab c s g).nsh = s := toNat_ints s
theorem tab_len (c : Bool) (s : List Nat) (g : List Nat → Int) : (tab c s g).da.length = prod s := by simp [tab]

theorem tab_cell {c : Bool} {s : List Nat} {g : List Nat → Int} {ix : List Nat} (h : Inside s ix) : (tab c s g).cell ix = g ix := by
  unfold Arr.cell
  rw [tab_nsh]
  simp [tab, List.getD_eq_getElem?_getD, place_lt h, coords_place h]

theorem tab_congr {c : Bool} {s : List Nat} {g g' : List Nat → Int} (h : ∀ ix, Inside s ix → g ix = g' ix) : tab c s g = tab c s g' := by
  unfold tab
  congr 1
  apply List.map_congr_left
  intro p hp
  exact h _ (coords_inside (by simpa using hp))

theorem Ok.eq_tab {a : Arr} {t : List Nat} (h : Ok a t) : a = tab a.ch t a.cell := by
  obtain ⟨c, s, d⟩ := a
  unfold tab
  have hs := h.sh
  have hl := h.len
  simp only at hs hl
  subst hs
  congr 1
  apply List.ext_getElem?
  intro p
  by_cases hp : p < prod t
  · have hn := h.nsh_eq
    simp only [List.getElem?_map, List.getElem?_range hp, Option.map_some, Arr.cell, hn, place_coords hp, List.getD_eq_getElem?_getD]
    rw [List.getElem?_eq_getElem (by omega)]
    simp
  · rw [List.getElem?_eq_none (by omega), List.getElem?_eq_none (by simp; omega)]

/-- What makes an array the one that is laid out. -/
theorem eq_tab {a : Arr} {c : Bool} {s : List Nat} {g : List Nat → Int} (hc : a.ch = c) (hs : a.sh = ints s) (hl : a.da.length = prod s)
    (hg : ∀ ix, Inside s ix → a.da[place s ix]? = some (g ix)) : a = tab c s g := by
  obtain ⟨c', s', d⟩ := a
  simp only at hc hs hl hg
  subst hc hs
  unfold tab
  congr 1
  apply List.ext_getElem?
  intro p
  by_cases hp : p < prod s
  · have h1 := hg _ (coords_inside hp)
    rw [place_coords hp] at h1
    simp [List.getElem?_range hp, h1]
  · rw [List.getElem?_eq_none (by omega), List.getElem?_eq_none (by simp; omega)]

/-- Arrays of one shape are the same if all their cells are. -/
theorem Ok.ext {a b : Arr} {t : List Nat} (ha : Ok a t) (hb : Ok b t) (hc : a.ch = b.ch) (h : ∀ ix, Inside t ix → a.cell ix = b.cell ix) : a = b := by
  rw [ha.eq_tab, hb.eq_tab, hc]
  exact tab_congr h

theorem any_bad_iff {d : List Int} : d.any badRune = false ↔ ∀ c ∈ d, badRune c = false := by simp

/-- An array laid out is without a fault, if its shape is and its cells may be. -/
theorem ok_tab {c : Bool} {s : List Nat} {g : List Nat → Int} (hs : GoodSh s) (hr : c = true → ∀ ix, Inside s ix → badRune (g ix) = false) : Ok (tab c s g) s := by
  refine ⟨rfl, hs, tab_len _ _ _, fun hc => ?_⟩
  rw [any_bad_iff]
  intro x hx
  simp only [tab, List.mem_map, List.mem_range] at hx
  obtain ⟨p, hp, rfl⟩ := hx
  exact hr hc _ (coords_inside hp)

theorem Ok.rune_cell {a : Arr} {t : List Nat} (h : Ok a t) (hc : a.ch = true) {ix : List Nat} (hi : Inside t ix) : badRune (a.cell ix) = false := by
  have h1 := any_bad_iff.1 (h.rune hc)
  unfold Arr.cell
  rw [h.nsh_eq]
  have hl := place_lt hi
  rw [← h.len] at hl
  rw [List.getD_eq_getElem?_getD, List.getElem?_eq_getElem hl]
  exact h1 _ (by simp)

end Go.Proofs.YtajcjipabfknhaaDoor.P
