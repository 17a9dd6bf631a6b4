/- What the card TopOnce leans on: Plain, Arr, Axis, Order, Cut, Keep, SeekPlain, LexPlain, IntsAt, Flip, CutLaw, TopPlain. Conditions: none but those of its theorems. -/

set_option linter.unusedSimpArgs false
set_option linter.unusedVariables false
namespace Go.Proofs.YtihndbkaoejnnaaGreatDoor.P

/-- How many cells a shape has. -/
def prod : List Nat → Nat
  | [] => 1
  | n :: s => n * prod s

/-- The place of a cell, the last axis fastest. -/
def place : List Nat → List Nat → Nat
  | _ :: s, i :: a => i * prod s + place s a
  | _, _ => 0

/-- Are these the indices of a cell? -/
def Inside : List Nat → List Nat → Prop
  | [], [] => True
  | n :: s, i :: a => i < n ∧ Inside s a
  | _, _ => False

/-- The indices of a place. -/
def coords : List Nat → Nat → List Nat
  | [], _ => []
  | _ :: s, p => p / prod s :: coords s (p % prod s)

theorem inside_length : ∀ {s a : List Nat}, Inside s a → a.length = s.length
  | [], [], _ => rfl
  | _ :: _, _ :: _, h => by simp [inside_length h.2]
  | [], _ :: _, h => h.elim
  | _ :: _, [], h => h.elim

theorem length_coords : ∀ (s : List Nat) (p : Nat), (coords s p).length = s.length
  | [], _ => rfl
  | _ :: s, p => by simp [coords, length_coords s]

theorem place_lt : ∀ {s a : List Nat}, Inside s a → place s a < prod s
  | [], [], _ => by simp [place, prod]
  | n :: s, i :: a, h => by
    have h1 := place_lt h.2
    have h2 : (i + 1) * prod s ≤ n * prod s := Nat.mul_le_mul_right _ h.1
    simp only [place, prod]
    rw [Nat.add_mul] at h2
    omega
  | [], _ :: _, h => h.elim
  | _ :: _, [], h => h.elim

theorem coords_inside : ∀ {s : List Nat} {p : Nat}, p < prod s → Inside s (coords s p)
  | [], _, _ => trivial
  | n :: s, p, h => by
    simp only [prod] at h
    have hp : 0 < prod s := by
      rcases Nat.eq_zero_or_pos (prod s) with h0 | h0
      · rw [h0] at h; omega
      · exact h0
    exact ⟨(Nat.div_lt_iff_lt_mul hp).2 h, coords_inside (Nat.mod_lt _ hp)⟩

theorem place_coords : ∀ {s : List Nat} {p : Nat}, p < prod s → place s (coords s p) = p
  | [], p, h => by simp [prod] at h; simp [place, h]
  | n :: s, p, h => by
    simp only [prod] at h
    have hp : 0 < prod s := by
      rcases Nat.eq_zero_or_pos (prod s) with h0 | h0
      · rw [h0] at h; omega
      · exact h0
    simp only [place, coords]
    rw [place_coords (Nat.mod_lt _ hp)]
    exact Nat.div_add_mod' p (prod s)

theorem coords_place : ∀ {s a : List Nat}, Inside s a → coords s (place s a) = a
  | [], [], _ => rfl
  | n :: s, i :: a, h => by
    have h1 := place_lt h.2
    simp only [place, coords]
    have e1 : (i * prod s + place s a) / prod s = i := by
      rw [Nat.mul_comm, Nat.mul_add_div (by omega), Nat.div_eq_of_lt h1]; rfl
    have e2 : (i * prod s + place s a) % prod s = place s a := by
      rw [Nat.mul_comm, Nat.mul_add_mod, Nat.mod_eq_of_lt h1]
    rw [e1, e2, coords_place h.2]
  | [], _ :: _, h => h.elim
  | _ :: _, [], h => h.elim

theorem place_inj {s a b : List Nat} (ha : Inside s a) (hb : Inside s b) (h : place s a = place s b) : a = b := by
  rw [← coords_place ha, ← coords_place hb, h]

theorem prod_append : ∀ (s t : List Nat), prod (s ++ t) = prod s * prod t
  | [], t => by simp [prod]
  | n :: s, t => by simp [prod, prod_append s t, Nat.mul_assoc]

theorem place_append : ∀ {s a : List Nat} (t b : List Nat), a.length = s.length → place (s ++ t) (a ++ b) = place s a * prod t + place t b
  | [], [], t, b, _ => by simp [place]
  | n :: s, i :: a, t, b, h => by
    simp only [List.cons_append, place]
    rw [place_append t b (by simpa using h), prod_append]
    rw [Nat.add_mul, Nat.mul_assoc]
    omega
  | [], _ :: _, _, _, h => by simp at h
  | _ :: _, [], _, _, h => by simp at h

theorem inside_append : ∀ {s a : List Nat} (t b : List Nat), a.length = s.length → (Inside (s ++ t) (a ++ b) ↔ Inside s a ∧ Inside t b)
  | [], [], t, b, _ => by simp [Inside]
  | n :: s, i :: a, t, b, h => by
    simp only [List.cons_append, Inside]
    rw [inside_append t b (by simpa using h), and_assoc]
  | [], _ :: _, _, _, h => by simp at h
  | _ :: _, [], _, _, h => by simp at h

theorem inside_iff : ∀ {s a : List Nat}, Inside s a ↔ a.length = s.length ∧ ∀ k, k < s.length → a.getD k 0 < s.getD k 0
  | [], [] => by simp [Inside]
  | n :: s, i :: a => by
    simp only [Inside]
    rw [inside_iff (s := s)]
    constructor
    · rintro ⟨h1, h2, h3⟩
      refine ⟨by simp [h2], fun k hk => ?_⟩
      rcases k with _ | k
      · simpa using h1
      · simpa using h3 k (by simpa using hk)
    · rintro ⟨h1, h2⟩
      refine ⟨by simpa using h2 0 (by simp), by simpa using h1, fun k hk => ?_⟩
      simpa using h2 (k + 1) (by simpa using hk)
  | [], _ :: _ => by simp [Inside]
  | _ :: _, [] => by simp [Inside]

/-- One further; true: it has come round. -/
def next : List Nat → List Nat → List Nat × Bool
  | n :: s, i :: a =>
    if (next s a).2 then if i + 1 < n then ((i + 1) :: (next s a).1, false) else (0 :: (next s a).1, true)
    else (i :: (next s a).1, false)
  | _, _ => ([], true)

end Go.Proofs.YtihndbkaoejnnaaGreatDoor.P

namespace Go.Proofs.YtihndbkaoejnnaaGreatDoor.P

/-- An array as it stands in memory, right or wrong. -/
structure Arr where
  ch : Bool
  sh : List Int
  da : List Int

/-- The array without anything. -/
def Arr.nil : Arr := ⟨false, [], []⟩

/-- What is wrong with the lengths one by one: 0, 4 (below 0) or 7 (too long). -/
def scanErr : List Int → Int
  | [] => 0
  | n :: r => if n < 0 then 4 else if 4096 < n then 7 else scanErr r

/-- The product, as it is reckoned from the first on; none: too great on the way. -/
def grow : Int → List Int → Option Int
  | p, [] => some p
  | p, n :: r => if 4096 < p * n then none else grow (p * n) r

def cntErr (s : List Int) : Int :=
  if 6 < s.length then 3
  else if scanErr s ≠ 0 then scanErr s
  else if (0 : Int) ∈ s then 0
  else match grow 1 s with | none => 7 | some _ => 0

def cntVal (s : List Int) : Int :=
  if 6 < s.length then 0
  else if scanErr s ≠ 0 then 0
  else if (0 : Int) ∈ s then 0
  else match grow 1 s with | none => 0 | some p => p

def badRune (c : Int) : Bool := c < 0 || 1114111 < c || (55296 ≤ c && c ≤ 57343)

def arrErr (a : Arr) : Int :=
  if cntErr a.sh ≠ 0 then cntErr a.sh
  else if (a.da.length : Int) ≠ cntVal a.sh then 4
  else if a.ch && a.da.any badRune then 6
  else 0

/-- A shape that may be. -/
def GoodSh (s : List Nat) : Prop := s.length ≤ 6 ∧ (∀ n ∈ s, n ≤ 4096) ∧ prod s ≤ 4096

def ints (s : List Nat) : List Int := s.map fun n : Nat => (n : Int)

theorem length_ints (s : List Nat) : (ints s).length = s.length := by simp [ints]
theorem getElem?_ints (s : List Nat) (k : Nat) : (ints s)[k]? = s[k]?.map fun n : Nat => (n : Int) := by simp [ints]

theorem scanErr_ints : ∀ {s : List Nat}, (∀ n ∈ s, n ≤ 4096) → scanErr (ints s) = 0
  | [], _ => rfl
  | n :: s, h => by
    have h1 := h n (by simp)
    have h2 := scanErr_ints (s := s) fun m hm => h m (by simp [hm])
    simp only [ints, List.map_cons, scanErr] at h2 ⊢
    rw [if_neg (by omega), if_neg (by omega)]
    exact h2

theorem scanErr_zero : ∀ {s : List Int}, scanErr s = 0 → ∃ t : List Nat, s = ints t ∧ ∀ n ∈ t, n ≤ 4096
  | [], _ => ⟨[], rfl, by simp⟩
  | n :: s, h => by
    simp only [scanErr] at h
    by_cases h1 : n < 0
    · rw [if_pos h1] at h; omega
    · rw [if_neg h1] at h
      by_cases h2 : 4096 < n
      · rw [if_pos h2] at h; omega
      · rw [if_neg h2] at h
        obtain ⟨t, rfl, ht⟩ := scanErr_zero h
        refine ⟨n.toNat :: t, ?_, ?_⟩
        · simp only [ints, List.map_cons]
          rw [Int.toNat_of_nonneg (by omega)]
        · intro m hm
          rcases List.mem_cons.1 hm with rfl | hm
          · omega
          · exact ht m hm

theorem prod_pos : ∀ {s : List Nat}, 0 ∉ s → 0 < prod s
  | [], _ => by simp [prod]
  | n :: s, h => by
    simp only [List.mem_cons, not_or] at h
    simp only [prod]
    exact Nat.mul_pos (by omega) (prod_pos h.2)

theorem prod_zero : ∀ {s : List Nat}, 0 ∈ s → prod s = 0
  | n :: s, h => by
    simp only [prod]
    rcases List.mem_cons.1 h with h | h
    · rw [← h]; simp
    · rw [prod_zero h]; simp

theorem grow_ints : ∀ {s : List Nat} (p : Nat), 0 ∉ s → p * prod s ≤ 4096 → grow p (ints s) = some ((p * prod s : Nat) : Int)
  | [], p, _, _ => by simp [grow, ints, prod]
  | n :: s, p, h, hp => by
    simp only [List.mem_cons, not_or] at h
    have hpos := prod_pos h.2
    simp only [prod] at hp ⊢
    rw [← Nat.mul_assoc] at hp ⊢
    have h1 : p * n ≤ p * n * prod s := Nat.le_mul_of_pos_right _ hpos
    have h2 := grow_ints (s := s) (p * n) h.2 hp
    simp only [ints, List.map_cons, grow] at h2 ⊢
    have e : (p : Int) * (n : Int) = ((p * n : Nat) : Int) := by simp
    rw [e, if_neg (by omega), h2]

theorem grow_some : ∀ {s : List Nat} {p : Nat} {q : Int}, 0 ∉ s → p ≤ 4096 → grow p (ints s) = some q → p * prod s ≤ 4096
  | [], p, q, _, hp, h => by simpa [prod] using hp
  | n :: s, p, q, hn, hp, h => by
    simp only [List.mem_cons, not_or] at hn
    simp only [ints, List.map_cons, grow] at h
    have e : (p : Int) * (n : Int) = ((p * n : Nat) : Int) := by simp
    rw [e] at h
    by_cases h1 : (4096 : Int) < ((p * n : Nat) : Int)
    · rw [if_pos h1] at h; cases h
    · rw [if_neg h1] at h
      have := grow_some (s := s) (p := p * n) hn.2 (by omega) h
      simp only [prod]
      rw [← Nat.mul_assoc]
      exact this

theorem mem_ints_zero {s : List Nat} : (0 : Int) ∈ ints s ↔ 0 ∈ s := by
  simp only [ints, List.mem_map]
  constructor
  · rintro ⟨n, hn, h⟩
    have : n = 0 := by omega
    rw [← this]; exact hn
  · intro h
    exact ⟨0, h, rfl⟩

theorem cntErr_ints {s : List Nat} (h : GoodSh s) : cntErr (ints s) = 0 := by
  obtain ⟨h1, h2, h3⟩ := h
  unfold cntErr
  rw [if_neg (by rw [length_ints]; omega), if_neg (by rw [scanErr_ints h2]; simp)]
  by_cases h0 : 0 ∈ s
  · rw [if_pos (mem_ints_zero.2 h0)]
  · rw [if_neg (fun h => h0 (mem_ints_zero.1 h))]
    have := grow_ints (s := s) 1 h0 (by omega)
    rw [show ((1 : Nat) : Int) = 1 from rfl] at this
    rw [this]

theorem cntVal_ints {s : List Nat} (h : GoodSh s) : cntVal (ints s) = (prod s : Int) := by
  obtain ⟨h1, h2, h3⟩ := h
  unfold cntVal
  rw [if_neg (by rw [length_ints]; omega), if_neg (by rw [scanErr_ints h2]; simp)]
  by_cases h0 : 0 ∈ s
  · rw [if_pos (mem_ints_zero.2 h0), prod_zero h0]; rfl
  · rw [if_neg (fun h => h0 (mem_ints_zero.1 h))]
    have := grow_ints (s := s) 1 h0 (by omega)
    rw [show ((1 : Nat) : Int) = 1 from rfl] at this
    rw [this]; simp

theorem cntErr_zero {s : List Int} (h : cntErr s = 0) : ∃ t, s = ints t ∧ GoodSh t := by
  unfold cntErr at h
  by_cases h1 : 6 < s.length
  · rw [if_pos h1] at h; omega
  · rw [if_neg h1] at h
    by_cases h2 : scanErr s ≠ 0
    · rw [if_pos h2] at h; exact absurd h h2
    · rw [if_neg h2] at h
      obtain ⟨t, rfl, ht⟩ := scanErr_zero (by simpa using h2)
      refine ⟨t, rfl, by rw [length_ints] at h1; omega, ht, ?_⟩
      by_cases h0 : 0 ∈ t
      · rw [prod_zero h0]; omega
      · rw [if_neg (fun h => h0 (mem_ints_zero.1 h))] at h
        rcases hg : grow 1 (ints t) with _ | q
        · rw [hg] at h; simp at h
        · have := grow_some (p := 1) h0 (by omega) hg
          omega

/-- An array without a fault, its lengths being t. -/
structure Ok (a : Arr) (t : List Nat) : Prop where
  sh : a.sh = ints t
  good : GoodSh t
  len : a.da.length = prod t
  rune : a.ch = true → a.da.any badRune = false

theorem arrErr_ok {a : Arr} {t : List Nat} (h : Ok a t) : arrErr a = 0 := by
  unfold arrErr
  rw [h.sh, if_neg (by rw [cntErr_ints h.good]; simp), if_neg (by rw [cntVal_ints h.good, h.len]; simp)]
  rw [if_neg]
  intro hb
  simp only [Bool.and_eq_true] at hb
  have := h.rune hb.1
  rw [hb.2] at this
  cases this

theorem ok_of_arrErr {a : Arr} (h : arrErr a = 0) : ∃ t, Ok a t := by
  unfold arrErr at h
  by_cases h1 : cntErr a.sh ≠ 0
  · rw [if_pos h1] at h; exact absurd h h1
  · rw [if_neg h1] at h
    obtain ⟨t, ht, hg⟩ := cntErr_zero (by simpa using h1)
    by_cases h2 : (a.da.length : Int) ≠ cntVal a.sh
    · rw [if_pos h2] at h; omega
    · rw [if_neg h2] at h
      have h2' : (a.da.length : Int) = cntVal a.sh := by simpa using h2
      rw [ht, cntVal_ints hg] at h2'
      refine ⟨t, ht, hg, by omega, fun hc => ?_⟩
      by_cases h3 : a.da.any badRune = true
      · rw [if_pos (by simp [hc, h3])] at h; omega
      · simpa using h3

theorem ints_inj : ∀ {s t : List Nat}, ints s = ints t → s = t
  | [], [], _ => rfl
  | n :: s, m :: t, h => by
    simp only [ints, List.map_cons, List.cons.injEq] at h
    rw [ints_inj (s := s) (t := t) h.2]
    have : n = m := by omega
    rw [this]
  | [], _ :: _, h => by simp [ints] at h
  | _ :: _, [], h => by simp [ints] at h

/-- The lengths as numbers from 0 on. -/
def Arr.nsh (a : Arr) : List Nat := a.sh.map Int.toNat

theorem toNat_ints (s : List Nat) : (ints s).map Int.toNat = s := by
  induction s with
  | nil => rfl
  | cons n s ih => simp only [ints, List.map_cons] at ih ⊢; rw [ih]; simp

theorem Ok.nsh_eq {a : Arr} {t : List Nat} (h : Ok a t) : a.nsh = t := by
  unfold Arr.nsh; rw [h.sh, toNat_ints]

/-- The cell at some indices. -/
def Arr.cell (a : Arr) (ix : List Nat) : Int := a.da.getD (place a.nsh ix) 0

/-- An array laid out by a function of the indices. -/
def tab (c : Bool) (s : List Nat) (g : List Nat → Int) : Arr := ⟨c, ints s, (List.range (prod s)).map fun p => g (coords s p)⟩

theorem tab_nsh (c : Bool) (s : List Nat) (g : List Nat → Int) : (tab c s g).nsh = s := toNat_ints s
theorem tab_len (c : Bool) (s : List Nat) (g : List Nat → Int) : (tab c s g).da.length = prod s := by simp [tab]

theorem tab_cell {c : Bool} {s : List Nat} {g : List Nat → Int} {ix : List Nat} (h : Inside s ix) : (tab c s g).cell ix = g ix := by
  unfold Arr.cell
  rw [tab_nsh]
  simp [tab, List.getD_eq_getElem?_getD, place_lt h, coords_place h]

theorem tab_congr {c : Bool} {s : List Nat} {g g' : List Nat → Int} (h : ∀ ix, Inside s ix → g ix = g' ix) : tab c s g = tab c s g' := by
  unfold tab
  congr 1
  apply List.map_congr_left
  intro p hp
  exact h _ (coords_inside (by simpa using hp))

theorem Ok.eq_tab {a : Arr} {t : List Nat} (h : Ok a t) : a = tab a.ch t a.cell := by
  obtain ⟨c, s, d⟩ := a
  unfold tab
  have hs := h.sh
  have hl := h.len
  simp only at hs hl
  subst hs
  congr 1
  apply List.ext_getElem?
  intro p
  by_cases hp : p < prod t
  · have hn := h.nsh_eq
    simp only [List.getElem?_map, List.getElem?_range hp, Option.map_some, Arr.cell, hn, place_coords hp, List.getD_eq_getElem?_getD]
    rw [List.getElem?_eq_getElem (by omega)]
    simp
  · rw [List.getElem?_eq_none (by omega), List.getElem?_eq_none (by simp; omega)]

/-- What makes an array the one that is laid out. -/
theorem eq_tab {a : Arr} {c : Bool} {s : List Nat} {g : List Nat → Int} (hc : a.ch = c) (hs : a.sh = ints s) (hl : a.da.length = prod s)
    (hg : ∀ ix, Inside s ix → a.da[place s ix]? = some (g ix)) : a = tab c s g := by
  obtain ⟨c', s', d⟩ := a
  simp only at hc hs hl hg
  subst hc hs
  unfold tab
  congr 1
  apply List.ext_getElem?
  intro p
  by_cases hp : p < prod s
  · have h1 := hg _ (coords_inside hp)
    rw [place_coords hp] at h1
    simp [List.getElem?_range hp, h1]
  · rw [List.getElem?_eq_none (by omega), List.getElem?_eq_none (by simp; omega)]

/-- Arrays of one shape are the same if all their cells are. -/
theorem Ok.ext {a b : Arr} {t : List Nat} (ha : Ok a t) (hb : Ok b t) (hc : a.ch = b.ch) (h : ∀ ix, Inside t ix → a.cell ix = b.cell ix) : a = b := by
  rw [ha.eq_tab, hb.eq_tab, hc]
  exact tab_congr h

theorem any_bad_iff {d : List Int} : d.any badRune = false ↔ ∀ c ∈ d, badRune c = false := by simp

/-- An array laid out is without a fault, if its shape is and its cells may be. -/
theorem ok_tab {c : Bool} {s : List Nat} {g : List Nat → Int} (hs : GoodSh s) (hr : c = true → ∀ ix, Inside s ix → badRune (g ix) = false) : Ok (tab c s g) s := by
  refine ⟨rfl, hs, tab_len _ _ _, fun hc => ?_⟩
  rw [any_bad_iff]
  intro x hx
  simp only [tab, List.mem_map, List.mem_range] at hx
  obtain ⟨p, hp, rfl⟩ := hx
  exact hr hc _ (coords_inside hp)

theorem Ok.rune_cell {a : Arr} {t : List Nat} (h : Ok a t) (hc : a.ch = true) {ix : List Nat} (hi : Inside t ix) : badRune (a.cell ix) = false := by
  have h1 := any_bad_iff.1 (h.rune hc)
  unfold Arr.cell
  rw [h.nsh_eq]
  have hl := place_lt hi
  rw [← h.len] at hl
  rw [List.getD_eq_getElem?_getD, List.getElem?_eq_getElem hl]
  exact h1 _ (by simp)

end Go.Proofs.YtihndbkaoejnnaaGreatDoor.P

namespace Go.Proofs.YtihndbkaoejnnaaGreatDoor.P

/-- How many cells lie ahead of an axis, and behind it. -/
def outerOf (s : List Nat) (k : Nat) : Nat := prod (s.take k)
def innerOf (s : List Nat) (k : Nat) : Nat := prod (s.drop (k + 1))

theorem prod_axis {s : List Nat} {k : Nat} (hk : k < s.length) : prod s = outerOf s k * s.getD k 0 * innerOf s k := by
  have h : s = s.take k ++ s[k] :: s.drop (k + 1) := by simp
  conv => lhs; rw [h]
  rw [prod_append, prod, Nat.mul_assoc]
  simp [outerOf, innerOf, List.getD_eq_getElem?_getD, hk]

theorem place_axis {s ix : List Nat} {k : Nat} (hk : k < s.length) (hl : ix.length = s.length) :
    place s ix = (place (s.take k) (ix.take k) * s.getD k 0 + ix.getD k 0) * innerOf s k + place (s.drop (k + 1)) (ix.drop (k + 1)) := by
  have h : s = s.take k ++ s[k] :: s.drop (k + 1) := by simp
  have hk' : k < ix.length := by omega
  have h' : ix = ix.take k ++ ix[k] :: ix.drop (k + 1) := by simp
  conv => lhs; rw [h, h']
  rw [place_append _ _ (by simp; omega)]
  simp only [place, prod, innerOf, List.getD_eq_getElem?_getD, List.getElem?_eq_getElem hk, List.getElem?_eq_getElem hk', Option.getD_some]
  rw [Nat.add_mul, Nat.mul_assoc]
  omega

theorem place_axis_set {s ix : List Nat} {k x : Nat} (hk : k < s.length) (hl : ix.length = s.length) :
    place s (ix.set k x) = (place (s.take k) (ix.take k) * s.getD k 0 + x) * innerOf s k + place (s.drop (k + 1)) (ix.drop (k + 1)) := by
  rw [place_axis hk (by simpa using hl)]
  have hk' : k < ix.length := by omega
  have e1 : (ix.set k x).take k = ix.take k := by rw [List.take_set, List.set_eq_of_length_le (by simp; omega)]
  have e2 : (ix.set k x).drop (k + 1) = ix.drop (k + 1) := by simp [List.drop_set]
  have e3 : (ix.set k x).getD k 0 = x := by simp [List.getD_eq_getElem?_getD, hk']
  rw [e1, e2, e3]

/-- The cell whose place is made of o, i, r. -/
theorem exists_axis {s : List Nat} {k o i r : Nat} (hk : k < s.length) (ho : o < outerOf s k) (hi : i < s.getD k 0) (hr : r < innerOf s k) :
    ∃ ix, Inside s ix ∧ place (s.take k) (ix.take k) = o ∧ ix.getD k 0 = i ∧ place (s.drop (k + 1)) (ix.drop (k + 1)) = r := by
  have hs : s = s.take k ++ s[k] :: s.drop (k + 1) := by simp
  have lo : (coords (s.take k) o).length = k := by rw [length_coords]; simp; omega
  refine ⟨coords (s.take k) o ++ i :: coords (s.drop (k + 1)) r, ?_, ?_, ?_, ?_⟩
  · rw [hs, inside_append _ _ (by rw [length_coords]; simp)]
    refine ⟨by simpa using coords_inside ho, ?_⟩
    simp only [List.getD_eq_getElem?_getD, List.getElem?_eq_getElem hk, Option.getD_some] at hi
    exact ⟨hi, by simpa using coords_inside hr⟩
  · rw [List.take_left' lo]
    exact place_coords ho
  · rw [List.getD_eq_getElem?_getD, List.getElem?_append_right (by omega), lo]
    simp
  · rw [show coords (s.take k) o ++ i :: coords (s.drop (k + 1)) r = (coords (s.take k) o ++ [i]) ++ coords (s.drop (k + 1)) r from by simp, List.drop_left' (by simp [lo])]
    exact place_coords hr

theorem set_getD {ix : List Nat} {k : Nat} : ix.set k (ix.getD k 0) = ix := by
  apply List.ext_getElem?
  intro j
  rw [List.getElem?_set]
  by_cases h : k = j
  · subst h
    by_cases hk : k < ix.length
    · simp [hk, List.getD_eq_getElem?_getD]
    · simp [hk]
  · simp [h]

theorem getD_set {ix : List Nat} {k x : Nat} (hk : k < ix.length) : (ix.set k x).getD k 0 = x := by simp [List.getD_eq_getElem?_getD, hk]
/-- A piece behind what is there already. -/
theorem take_piece {T d : List Int} {b p m : Nat} (h : ∀ r, r < m → T[b + r]? = d[p + r]?) :
    T.take b ++ (d.drop p).take m = T.take (b + m) := by
  rw [List.take_add]
  congr 1
  apply List.ext_getElem?
  intro r
  by_cases hr : r < m
  · rw [List.getElem?_take_of_lt hr, List.getElem?_take_of_lt hr, List.getElem?_drop, List.getElem?_drop, h r hr]
  · rw [List.getElem?_take_eq_none (by omega), List.getElem?_take_eq_none (by omega)]

/-! ### Reversed, moved round -/

end Go.Proofs.YtihndbkaoejnnaaGreatDoor.P

namespace Go.Proofs.YtihndbkaoejnnaaGreatDoor.P

/-- The numbers from 0 on, each once. -/
def Perm (p : List Nat) : Prop := p.Nodup ∧ ∀ x ∈ p, x < p.length

/-- One by another one; turned round; not at all. -/
def aft (p q : List Nat) : List Nat := q.map fun j => p.getD j 0
def inv (p : List Nat) : List Nat := (List.range p.length).map fun k => p.idxOf k
def idn (n : Nat) : List Nat := List.range n

theorem aft_length (p q : List Nat) : (aft p q).length = q.length := by simp [aft]
theorem inv_length (p : List Nat) : (inv p).length = p.length := by simp [inv]
theorem idn_length (n : Nat) : (idn n).length = n := by simp [idn]
theorem getD_lt {p : List Nat} {k : Nat} (h : k < p.length) : p.getD k 0 = p[k] := by simp [List.getD_eq_getElem?_getD, h]
theorem Perm.lt {p : List Nat} (h : Perm p) {k : Nat} (hk : k < p.length) : p.getD k 0 < p.length := by
  rw [getD_lt hk]
  exact h.2 _ (List.getElem_mem hk)
theorem Perm.inj {p : List Nat} (h : Perm p) {i j : Nat} (hi : i < p.length) (hj : j < p.length) (e : p.getD i 0 = p.getD j 0) : i = j := by
  rw [getD_lt hi, getD_lt hj] at e
  exact (List.getElem_inj h.1).1 e

theorem perm_all {p : List Nat} (h : Perm p) {k : Nat} (hk : k < p.length) : k ∈ p := by
  apply Classical.byContradiction
  intro hn
  have hs : (k :: p) ⊆ List.range p.length := fun x hx => by
    rcases List.mem_cons.1 hx with e | e
    · rw [e]; simpa using hk
    · simpa using h.2 x e
  have := List.Nodup.length_le_of_subset (List.nodup_cons.2 ⟨hn, h.1⟩) hs
  simp at this
  omega
theorem perm_range {p : List Nat} (h : Perm p) : p.Perm (List.range p.length) :=
  (List.perm_ext_iff_of_nodup h.1 List.nodup_range).2 fun a => ⟨fun ha => by simpa using h.2 a ha, fun ha => perm_all h (by simpa using ha)⟩

theorem getD_aft {p q : List Nat} {k : Nat} (hk : k < q.length) : (aft p q).getD k 0 = p.getD (q.getD k 0) 0 := by
  simp [aft, List.getD_eq_getElem?_getD, hk]
theorem getD_inv {p : List Nat} {k : Nat} (hk : k < p.length) : (inv p).getD k 0 = p.idxOf k := by
  simp [inv, List.getD_eq_getElem?_getD, hk]
theorem getD_idn {n k : Nat} (hk : k < n) : (idn n).getD k 0 = k := by
  simp [idn, List.getD_eq_getElem?_getD, hk]

theorem idx_lt {p : List Nat} (h : Perm p) {k : Nat} (hk : k < p.length) : p.idxOf k < p.length := List.idxOf_lt_length_of_mem (perm_all h hk)
theorem idx_get {p : List Nat} (h : Perm p) {k : Nat} (hk : k < p.length) : p.getD (p.idxOf k) 0 = k := by
  rw [getD_lt (idx_lt h hk)]
  exact List.getElem_idxOf (idx_lt h hk)
theorem idx_of {p : List Nat} (h : Perm p) {k : Nat} (hk : k < p.length) : p.idxOf (p.getD k 0) = k :=
  h.inj (idx_lt h (h.lt hk)) hk (idx_get h (h.lt hk))

theorem ext_getD {p q : List Nat} (hl : p.length = q.length) (h : ∀ k, k < p.length → p.getD k 0 = q.getD k 0) : p = q := by
  apply List.ext_getElem hl
  intro k h1 h2
  have := h k h1
  rwa [getD_lt h1, getD_lt h2] at this

theorem perm_of {p : List Nat} (h1 : ∀ k, k < p.length → p.getD k 0 < p.length) (h2 : ∀ i j, i < p.length → j < p.length → p.getD i 0 = p.getD j 0 → i = j) : Perm p := by
  constructor
  · rw [List.nodup_iff_pairwise_ne, List.pairwise_iff_getElem]
    intro i j hi hj hij e
    have := h2 i j hi hj (by rw [getD_lt hi, getD_lt hj, e])
    omega
  · intro x hx
    obtain ⟨k, hk, rfl⟩ := List.getElem_of_mem hx
    have := h1 k hk
    rwa [getD_lt hk] at this

theorem inv_perm {p : List Nat} (hp : Perm p) : Perm (inv p) := by
  apply perm_of
  · intro k hk
    rw [inv_length] at hk ⊢
    rw [getD_inv hk]
    exact idx_lt hp hk
  · intro i j hi hj e
    rw [inv_length] at hi hj
    rw [getD_inv hi, getD_inv hj] at e
    rw [← idx_get hp hi, ← idx_get hp hj, e]

theorem aft_assoc {p q r : List Nat} (hr : ∀ k, k < r.length → r.getD k 0 < q.length) : aft (aft p q) r = aft p (aft q r) := by
  apply ext_getD (by simp [aft_length])
  intro k hk
  rw [aft_length] at hk
  rw [getD_aft hk, getD_aft (hr k hk), getD_aft (by rw [aft_length]; exact hk), getD_aft hk]
theorem aft_inv_right {p : List Nat} (hp : Perm p) : aft p (inv p) = idn p.length := by
  apply ext_getD (by simp [aft_length, inv_length, idn_length])
  intro k hk
  rw [aft_length, inv_length] at hk
  rw [getD_aft (by rw [inv_length]; exact hk), getD_inv hk, idx_get hp hk, getD_idn hk]
theorem aft_idn_right (p : List Nat) : aft p (idn p.length) = p := by
  apply ext_getD (by simp [aft_length, idn_length])
  intro k hk
  rw [aft_length, idn_length] at hk
  rw [getD_aft (by rw [idn_length]; exact hk), getD_idn hk]
/-- A list of numbers that is an order. -/
def IsOrder (p : List Int) : Prop := p.Nodup ∧ ∀ x ∈ p, 0 ≤ x ∧ x < (p.length : Int)
instance (p : List Int) : Decidable (IsOrder p) := inferInstanceAs (Decidable (_ ∧ _))

/-- Which numbers have been seen, bit by bit. -/
def Seen (S : List Nat) (l : List Nat) : Prop := S.length = 65 ∧ (∀ k, k < 65 → S.getD k 0 < 18446744073709551616) ∧ ∀ i, i < 4160 → (S.getD (i / 64) 0).testBit (i % 64) = decide (i ∈ l)
theorem Seen.nil : Seen (List.replicate 65 0) [] := by
  refine ⟨by simp, fun k hk => ?_, fun i hi => ?_⟩
  · rw [List.getD_eq_getElem?_getD, List.getElem?_replicate, if_pos hk]; simp
  · rw [List.getD_eq_getElem?_getD, List.getElem?_replicate, if_pos (by omega)]; simp
theorem Seen.add {S : List Nat} {l : List Nat} (h : Seen S l) {i : Nat} (hi : i < 4160) : Seen (S.set (i / 64) (S.getD (i / 64) 0 ||| 2 ^ (i % 64))) (l ++ [i]) := by
  obtain ⟨h1, h2, h3⟩ := h
  have hp : 2 ^ (i % 64) < 2 ^ 64 := Nat.pow_lt_pow_right (by omega) (by omega)
  have hlt : S.getD (i / 64) 0 ||| 2 ^ (i % 64) < 2 ^ 64 := Nat.or_lt_two_pow (h2 _ (by omega)) hp
  refine ⟨by simp [h1], fun k hk => ?_, fun j hj => ?_⟩
  · rw [List.getD_eq_getElem?_getD, List.getElem?_set]
    by_cases e : i / 64 = k
    · rw [if_pos e, if_pos (by omega)]
      simpa using hlt
    · rw [if_neg e, ← List.getD_eq_getElem?_getD]
      exact h2 k hk
  · rw [List.getD_eq_getElem?_getD, List.getElem?_set]
    by_cases e : i / 64 = j / 64
    · rw [if_pos e, if_pos (by omega), Option.getD_some, Nat.testBit_or, Nat.testBit_two_pow]
      rw [e, h3 j hj]
      by_cases e2 : i = j
      · subst e2; simp
      · have : i % 64 ≠ j % 64 := by omega
        simp [this, Ne.symm e2]
    · rw [if_neg e, ← List.getD_eq_getElem?_getD, h3 j hj]
      have : j ≠ i := by omega
      simp [this]

end Go.Proofs.YtihndbkaoejnnaaGreatDoor.P

namespace Go.Proofs.YtihndbkaoejnnaaGreatDoor.P

def adds (ix : List Nat) (fr : List Int) : List Int := List.zipWith (fun (i : Nat) (f : Int) => (i : Int) + f) ix fr
/-- The first k of these indices are those of a cell. -/
def WinIn (t : List Nat) (js : List Int) (k : Nat) : Prop := ∀ m, m < k → 0 ≤ js.getD m 0 ∧ js.getD m 0 < (t.getD m 0 : Int)
instance (t : List Nat) (js : List Int) (k : Nat) : Decidable (WinIn t js k) := inferInstanceAs (Decidable (∀ m, m < k → _))
theorem WinIn.zero (t : List Nat) (js : List Int) : WinIn t js 0 := fun m h => by omega
def fillOf (c : Bool) : Int := if c then 32 else 0
/-- A part of an array, from these indices on, of this shape; elsewhere fills. -/
def win (fr : List Int) (s : List Nat) (a : Arr) : Arr := tab a.ch s fun ix => if WinIn a.nsh (adds ix fr) a.nsh.length then a.cell ((adds ix fr).map Int.toNat) else fillOf a.ch

/-- Some of an axis. -/
def part (k lo len : Nat) (a : Arr) : Arr := tab a.ch (a.nsh.set k len) fun ix => a.cell (ix.set k (ix.getD k 0 + lo))

theorem getD_set_if {l : List Nat} {k j x : Nat} (hj : j < l.length) : (l.set k x).getD j 0 = if k = j then x else l.getD j 0 := by
  simp only [List.getD_eq_getElem?_getD, List.getElem?_set]
  split
  · rename_i e; subst e; simp [hj]
  · rfl
theorem mem_getD {l : List Nat} {x : Nat} (h : x ∈ l) : ∃ k, k < l.length ∧ l.getD k 0 = x := by
  obtain ⟨k, hk, rfl⟩ := List.getElem_of_mem h
  exact ⟨k, hk, getD_lt hk⟩
theorem good_set {t : List Nat} {k len : Nat} (h : GoodSh t) (hl : len ≤ 4096) (hp : prod (t.set k len) ≤ 4096) : GoodSh (t.set k len) := by
  refine ⟨by rw [List.length_set]; exact h.1, fun n hn => ?_, hp⟩
  obtain ⟨j, hj, rfl⟩ := mem_getD hn
  rw [List.length_set] at hj
  rw [getD_set_if hj]
  split
  · exact hl
  · exact h.2.1 _ (by rw [getD_lt hj]; exact List.getElem_mem hj)
theorem take_set_self {t : List Nat} {k x : Nat} : (t.set k x).take k = t.take k := by
  rw [List.take_set, List.set_eq_of_length_le (by simp; omega)]
theorem drop_set_self {t : List Nat} {k x : Nat} : (t.set k x).drop (k + 1) = t.drop (k + 1) := by
  simp [List.drop_set]
theorem outer_set {t : List Nat} {k x : Nat} : outerOf (t.set k x) k = outerOf t k := by
  unfold outerOf
  rw [List.take_set, List.set_eq_of_length_le (by simp; omega)]
theorem inner_set {t : List Nat} {k x : Nat} : innerOf (t.set k x) k = innerOf t k := by
  unfold innerOf
  simp [List.drop_set]
theorem prod_set {t : List Nat} {k x : Nat} (hk : k < t.length) : prod (t.set k x) = outerOf t k * x * innerOf t k := by
  rw [prod_axis (k := k) (by simpa using hk), outer_set, inner_set, getD_set hk]
theorem good_less {t : List Nat} {k len : Nat} (h : GoodSh t) (hk : k < t.length) (hl : len ≤ t.getD k 0) : GoodSh (t.set k len) := by
  have h1 : t.getD k 0 ≤ 4096 := h.2.1 _ (by rw [getD_lt hk]; exact List.getElem_mem hk)
  refine good_set h (by omega) ?_
  rw [prod_set hk]
  have h2 := h.2.2
  rw [prod_axis hk] at h2
  have h3 : outerOf t k * len * innerOf t k ≤ outerOf t k * t.getD k 0 * innerOf t k := Nat.mul_le_mul_right _ (Nat.mul_le_mul_left _ hl)
  omega

theorem inside_move {t ix : List Nat} {k m l x : Nat} (h : Inside (t.set k m) ix) (hx : x < l) : Inside (t.set k l) (ix.set k x) := by
  obtain ⟨h1, h2⟩ := inside_iff.1 h
  rw [List.length_set] at h1 h2
  rw [inside_iff]
  refine ⟨by simp [h1], fun j hj => ?_⟩
  rw [List.length_set] at hj
  have h3 := h2 j hj
  rw [getD_set_if hj] at h3 ⊢
  rw [getD_set_if (by omega)]
  by_cases e : k = j
  · rw [if_pos e, if_pos e]; exact hx
  · rw [if_neg e] at h3; rw [if_neg e, if_neg e]; exact h3
theorem inside_at {t ix : List Nat} {k m : Nat} (hk : k < t.length) (h : Inside (t.set k m) ix) : ix.getD k 0 < m := by
  have := (inside_iff.1 h).2 k (by simpa using hk)
  rwa [getD_set hk] at this

theorem cell_get {a : Arr} {t ix : List Nat} (h : Ok a t) (hi : Inside t ix) : a.da[place t ix]? = some (a.cell ix) := by
  have hl := place_lt hi
  unfold Arr.cell
  rw [h.nsh_eq, List.getD_eq_getElem?_getD, List.getElem?_eq_getElem (by rw [h.len]; exact hl)]
  rfl
end Go.Proofs.YtihndbkaoejnnaaGreatDoor.P

namespace Go.Proofs.YtihndbkaoejnnaaGreatDoor.P

/-- How many ones are among the first i of a mask. -/
def cnt (m : List Int) (i : Nat) : Nat := (m.take i).countP (· == 1)
theorem cnt_zero (m : List Int) : cnt m 0 = 0 := by simp [cnt]
theorem cnt_one {m : List Int} {i : Nat} (h : m[i]? = some 1) : cnt m (i + 1) = cnt m i + 1 := by
  unfold cnt
  rw [List.take_add_one, h]
  simp
theorem cnt_other {m : List Int} {i : Nat} {x : Int} (h : m[i]? = some x) (hx : x ≠ 1) : cnt m (i + 1) = cnt m i := by
  unfold cnt
  rw [List.take_add_one, h]
  simp [hx]
theorem cnt_mono {m : List Int} {i j : Nat} (h : i ≤ j) : cnt m i ≤ cnt m j := by
  unfold cnt
  rw [show m.take i = (m.take j).take i by rw [List.take_take, Nat.min_eq_left h]]
  exact (List.take_sublist _ _).countP_le
theorem cnt_le (m : List Int) (i : Nat) : cnt m i ≤ i := by
  unfold cnt
  have := List.countP_le_length (p := (· == (1 : Int))) (l := m.take i)
  simp at this
  omega

/-- Where the j-th one is. -/
def posOf : List Int → Nat → Nat
  | [], _ => 0
  | x :: m, j => if x = 1 then (match j with | 0 => 0 | j + 1 => posOf m j + 1) else posOf m j + 1

theorem cnt_cons (x : Int) (m : List Int) (i : Nat) : cnt (x :: m) (i + 1) = (if x = 1 then 1 else 0) + cnt m i := by
  unfold cnt
  rw [List.take_succ_cons, List.countP_cons]
  by_cases h : x = 1 <;> simp [h] ; omega
theorem posOf_spec : ∀ {m : List Int} {j : Nat}, j < cnt m m.length → posOf m j < m.length ∧ m[posOf m j]? = some 1 ∧ cnt m (posOf m j) = j
  | [], j, h => by simp [cnt] at h
  | x :: m, j, h => by
    rw [List.length_cons, cnt_cons] at h
    unfold posOf
    by_cases hx : x = 1
    · subst hx
      simp only [if_true] at h ⊢
      match j, h with
      | 0, _ => simp [cnt]
      | j + 1, h =>
        obtain ⟨h1, h2, h3⟩ := posOf_spec (m := m) (j := j) (by omega)
        refine ⟨by simpa using h1, by simpa using h2, ?_⟩
        rw [cnt_cons, h3]; simp; omega
    · rw [if_neg hx] at h ⊢
      obtain ⟨h1, h2, h3⟩ := posOf_spec (m := m) (j := j) (by omega)
      refine ⟨by simpa using h1, by simpa using h2, ?_⟩
      rw [cnt_cons, h3]; simp [hx]
theorem posOf_cnt : ∀ {m : List Int} {i : Nat}, m[i]? = some 1 → posOf m (cnt m i) = i
  | [], i, h => by simp at h
  | x :: m, 0, h => by
    simp only [List.getElem?_cons_zero, Option.some.injEq] at h
    subst h
    simp [posOf, cnt]
  | x :: m, i + 1, h => by
    simp only [List.getElem?_cons_succ] at h
    have ih := posOf_cnt h
    rw [cnt_cons]
    unfold posOf
    by_cases hx : x = 1
    · subst hx
      simp only [if_true]
      rw [Nat.add_comm 1]
      simp only [ih]
    · simp only [if_neg hx, Nat.zero_add, ih]
theorem cnt_lt {m : List Int} {i : Nat} (h : m[i]? = some 1) : cnt m i < cnt m m.length := by
  have hl := (List.getElem?_eq_some_iff.1 h).1
  have h1 := cnt_one h
  have h2 := cnt_mono (m := m) (show i + 1 ≤ m.length by omega)
  omega

/-- Only zeros and ones. -/
def Mask (m : List Int) : Prop := ∀ x ∈ m, x = 0 ∨ x = 1
instance (m : List Int) : Decidable (Mask m) := inferInstanceAs (Decidable (∀ x ∈ m, x = 0 ∨ x = 1))
def others (m : List Int) : List Int := m.map fun x => 1 - x
theorem mask_at {m : List Int} (h : Mask m) {i : Nat} {x : Int} (hi : m[i]? = some x) : x = 0 ∨ x = 1 := h x (List.mem_of_getElem? hi)
/-- What a mask keeps. -/
def keep (m : List Int) (k : Nat) (a : Arr) : Arr := tab a.ch (a.nsh.set k (cnt m m.length)) fun ix => a.cell (ix.set k (posOf m (ix.getD k 0)))
theorem inside_to {t ix : List Nat} {k l x : Nat} (h : Inside (t.set k l) ix) (hx : x < t.getD k 0) : Inside t (ix.set k x) := by
  have := inside_move (l := t.getD k 0) h hx
  rwa [set_getD] at this

theorem keep_ok {a : Arr} {t : List Nat} {k : Nat} {m : List Int} (h : Ok a t) (hk : k < t.length) (hm : m.length = t.getD k 0) : Ok (keep m k a) (t.set k (cnt m m.length)) := by
  unfold keep
  rw [h.nsh_eq]
  refine ok_tab (good_less h.good hk (by have := cnt_le m m.length; omega)) fun hc ix hi => h.rune_cell hc (inside_to hi ?_)
  have := posOf_spec (inside_at hk hi)
  omega
theorem keep_cell {a : Arr} {t ix : List Nat} {k : Nat} {m : List Int} (h : Ok a t) (hi : Inside (t.set k (cnt m m.length)) ix) : (keep m k a).cell ix = a.cell (ix.set k (posOf m (ix.getD k 0))) := by
  unfold keep
  rw [h.nsh_eq, tab_cell hi]
/-- The cells of what a mask keeps, one piece behind the other. -/
theorem keep_da {a : Arr} {t : List Nat} {k : Nat} {m : List Int} (h : Ok a t) (hk : k < t.length) (hm : m.length = t.getD k 0) {o i r : Nat} (ho : o < outerOf t k) (hi : m[i]? = some 1) (hr : r < innerOf t k) :
    (keep m k a).da[(o * cnt m m.length + cnt m i) * innerOf t k + r]? = a.da[(o * t.getD k 0 + i) * innerOf t k + r]? := by
  have hil := (List.getElem?_eq_some_iff.1 hi).1
  obtain ⟨ix, h1, h2, h3, h4⟩ := exists_axis hk ho (show i < t.getD k 0 by omega) hr
  have hl := inside_length h1
  have e1 := place_axis hk hl
  rw [h2, h3, h4] at e1
  have hin : Inside (t.set k (cnt m m.length)) (ix.set k (cnt m i)) := by
    have h5 : Inside (t.set k (t.getD k 0)) ix := by rw [set_getD]; exact h1
    exact inside_move h5 (cnt_lt hi)
  have e2 := place_axis_set (s := t.set k (cnt m m.length)) (ix := ix) (k := k) (x := cnt m i) (by simpa using hk) (by simpa using hl)
  rw [inner_set, getD_set hk, take_set_self, h2, drop_set_self, h4] at e2
  rw [← e1, ← e2, cell_get h h1, cell_get (keep_ok h hk hm) hin, keep_cell h hin]
  have hkx : k < ix.length := by omega
  rw [getD_set hkx, List.set_set, posOf_cnt hi, ← h3, set_getD]
end Go.Proofs.YtihndbkaoejnnaaGreatDoor.P

namespace Go.Proofs.YtihndbkaoejnnaaGreatDoor.P

/-- The cells of a list, from the i-th on, of which it is so. -/
def selFrom (q : Nat → Int → Bool) : Nat → List Int → List Int
  | _, [] => []
  | i, c :: d => if q i c then c :: selFrom q (i + 1) d else selFrom q (i + 1) d
def sel (q : Nat → Int → Bool) (d : List Int) : List Int := selFrom q 0 d

theorem selFrom_append (q : Nat → Int → Bool) : ∀ (i : Nat) (d e : List Int), selFrom q i (d ++ e) = selFrom q i d ++ selFrom q (i + d.length) e
  | i, [], e => by simp [selFrom]
  | i, c :: d, e => by
    have ih := selFrom_append q (i + 1) d e
    simp only [List.cons_append, selFrom, List.length_cons]
    rw [ih, show i + 1 + d.length = i + (d.length + 1) by omega]
    split <;> simp
theorem sel_zero (q : Nat → Int → Bool) (d : List Int) : sel q (d.take 0) = [] := by simp [sel, selFrom]
theorem sel_yes {q : Nat → Int → Bool} {d : List Int} {k : Nat} {c : Int} (h : d[k]? = some c) (hq : q k c = true) : sel q (d.take (k + 1)) = sel q (d.take k) ++ [c] := by
  have hk := (List.getElem?_eq_some_iff.1 h).1
  unfold sel
  rw [List.take_add_one, h, selFrom_append, List.length_take, Nat.zero_add, Nat.min_eq_left (by omega)]
  simp [selFrom, hq]
theorem sel_no {q : Nat → Int → Bool} {d : List Int} {k : Nat} {c : Int} (h : d[k]? = some c) (hq : q k c = false) : sel q (d.take (k + 1)) = sel q (d.take k) := by
  have hk := (List.getElem?_eq_some_iff.1 h).1
  unfold sel
  rw [List.take_add_one, h, selFrom_append, List.length_take, Nat.zero_add, Nat.min_eq_left (by omega)]
  simp [selFrom, hq]
/-- Each cell once. -/
def firstB (d : List Int) (i : Nat) (c : Int) : Bool := decide (d.idxOf c = i)
def nubD (d : List Int) : List Int := sel (firstB d) d
def vecOf (c : Bool) (d : List Int) : Arr := ⟨c, [(d.length : Int)], d⟩
theorem ok_da_le {a : Arr} {t : List Nat} (h : Ok a t) : a.da.length ≤ 4096 := by rw [h.len]; exact h.good.2.2

/-- Does an array have a cell? -/
def hasB (b : Arr) (c : Bool) (x : Int) : Bool := decide (x ∈ b.da) && decide (c = b.ch)
theorem hasB_iff {b : Arr} {c : Bool} {x : Int} : hasB b c x = true ↔ x ∈ b.da ∧ c = b.ch := by simp [hasB]
/-- Where a cell is first. -/
def findN (a : Arr) (c : Bool) (x : Int) : Nat := if hasB a c x then a.da.idxOf x else a.da.length
theorem findN_le (a : Arr) (c : Bool) (x : Int) : findN a c x ≤ a.da.length := by
  unfold findN
  split
  · exact List.idxOf_le_length
  · exact Nat.le_refl _
def index (a b : Arr) : Arr := ⟨false, b.sh, b.da.map fun x => ((findN a b.ch x : Nat) : Int)⟩
def nub (a : Arr) : Arr := vecOf a.ch (nubD a.da)
def twoErr (a b : Arr) : Int := if arrErr a ≠ 0 then arrErr a else arrErr b
def indexErr (a b : Arr) : Int := if twoErr a b ≠ 0 then twoErr a b else if a.sh.length ≠ 1 then 3 else 0
def nubErr (a : Arr) : Int := if arrErr a ≠ 0 then arrErr a else if a.sh.length ≠ 1 then 3 else 0
theorem twoErr_zero {a b : Arr} (h : twoErr a b = 0) : ∃ s t, Ok a s ∧ Ok b t := by
  unfold twoErr at h
  by_cases h1 : arrErr a ≠ 0
  · rw [if_pos h1] at h; exact absurd h h1
  · rw [if_neg h1] at h
    obtain ⟨s, hs⟩ := ok_of_arrErr (by simpa using h1)
    obtain ⟨t, ht⟩ := ok_of_arrErr h
    exact ⟨s, t, hs, ht⟩
theorem twoErr_ok {a b : Arr} {s t : List Nat} (ha : Ok a s) (hb : Ok b t) : twoErr a b = 0 := by
  unfold twoErr
  rw [arrErr_ok ha, arrErr_ok hb]; rfl
theorem indexErr_zero {a b : Arr} (h : indexErr a b = 0) : ∃ s t, Ok a s ∧ Ok b t ∧ a.sh.length = 1 := by
  unfold indexErr at h
  by_cases h1 : twoErr a b ≠ 0
  · rw [if_pos h1] at h; exact absurd h h1
  · rw [if_neg h1] at h
    obtain ⟨s, t, hs, ht⟩ := twoErr_zero (by simpa using h1)
    by_cases h2 : a.sh.length ≠ 1
    · rw [if_pos h2] at h; omega
    · exact ⟨s, t, hs, ht, by simpa using h2⟩
theorem nubErr_zero {a : Arr} (h : nubErr a = 0) : ∃ s, Ok a s ∧ a.sh.length = 1 := by
  unfold nubErr at h
  by_cases h1 : arrErr a ≠ 0
  · rw [if_pos h1] at h; exact absurd h h1
  · rw [if_neg h1] at h
    obtain ⟨s, hs⟩ := ok_of_arrErr (by simpa using h1)
    by_cases h2 : a.sh.length ≠ 1
    · rw [if_pos h2] at h; omega
    · exact ⟨s, hs, by simpa using h2⟩
end Go.Proofs.YtihndbkaoejnnaaGreatDoor.P

namespace Go.Proofs.YtihndbkaoejnnaaGreatDoor.P

/-- The rune of a function's sign. -/
def glyphR (f : Int) : Int := if f = 1 then 43 else if f = 2 then 45 else if f = 3 then 215 else if f = 4 then 247 else if f = 5 then 124 else if f = 6 then 8968 else if f = 7 then 8970 else if f = 8 then 61 else if f = 9 then 8800 else if f = 10 then 60 else if f = 11 then 8804 else if f = 12 then 8805 else if f = 13 then 62 else if f = 14 then 8743 else if f = 15 then 8744 else if f = 16 then 42 else if f = 17 then 126 else if f = 18 then 9076 else if f = 19 then 44 else if f = 20 then 9021 else if f = 21 then 9033 else if f = 22 then 8593 else if f = 23 then 8595 else if f = 24 then 9075 else if f = 25 then 8714 else if f = 26 then 9035 else if f = 27 then 9042 else if f = 28 then 8746 else if f = 29 then 8745 else if f = 30 then 8869 else if f = 31 then 8868 else if f = 32 then 8801 else if f = 33 then 47 else if f = 34 then 92 else 0
/-- The rune of a sign of a kind. -/
def signR (f : Int) : Int := if f = 5 then 40 else if f = 6 then 41 else if f = 7 then 91 else if f = 8 then 93 else if f = 9 then 59 else if f = 10 then 8592 else if f = 11 then 8728 else if f = 12 then 46 else if f = 13 then 9064 else if f = 14 then 123 else if f = 15 then 125 else if f = 16 then 58 else if f = 17 then 8900 else if f = 18 then 9082 else if f = 19 then 9077 else if f = 20 then 8711 else 0
def digB (x : Int) : Bool := decide (48 ≤ x) && decide (x ≤ 57)
def letB (x : Int) : Bool := (decide (97 ≤ x) && decide (x ≤ 122)) || (decide (65 ≤ x) && decide (x ≤ 90))
def inB (x : Int) : Bool := letB x || digB x || decide (x = 95)
def spB (x : Int) : Bool := decide (x = 32)
theorem digB_yes {x : Int} (h1 : 48 ≤ x) (h2 : x ≤ 57) : digB x = true := by simp [digB, h1, h2]
theorem digB_lo {x : Int} (h1 : ¬ 48 ≤ x) : digB x = false := by simp [digB, h1]
theorem digB_hi {x : Int} (h1 : ¬ x ≤ 57) : digB x = false := by simp [digB, h1]

/-- The first function whose sign is this rune. -/
def FnOf (c F : Int) : Prop := 1 ≤ F ∧ F ≤ 34 ∧ glyphR F = c ∧ ∀ j, 1 ≤ j → j < F → glyphR j ≠ c
def NoFn (c : Int) : Prop := ∀ j, 1 ≤ j → j ≤ 34 → glyphR j ≠ c
/-- The first kind whose sign is this rune. -/
def SignOf (c K : Int) : Prop := 5 ≤ K ∧ K ≤ 20 ∧ signR K = c ∧ ∀ j, 5 ≤ j → j < K → signR j ≠ c

theorem below_nat {m n : Nat} {p : Int → Prop} (h : ∀ j : Nat, j < n → p ((m : Int) + j)) : ∀ j : Int, (m : Int) ≤ j → j < (m : Int) + n → p j := by
  intro j h1 h2
  have := h (j - m).toNat (by omega)
  rwa [show (m : Int) + ((j - m).toNat : Int) = j by omega] at this
end Go.Proofs.YtihndbkaoejnnaaGreatDoor.P

namespace Go.Proofs.YtihndbkaoejnnaaGreatDoor.P

theorem ints_getD {s : List Nat} {k : Nat} {x : Int} (h : (ints s)[k]? = some x) : x = (s.getD k 0 : Nat) ∧ k < s.length := by
  rw [getElem?_ints, Option.map_eq_some_iff] at h
  obtain ⟨n, hn, rfl⟩ := h
  have := (List.getElem?_eq_some_iff.1 hn).1
  exact ⟨by rw [List.getD_eq_getElem?_getD, hn]; rfl, this⟩
theorem ints_get {s : List Nat} {k : Nat} (h : k < s.length) : (ints s)[k]? = some ((s.getD k 0 : Nat) : Int) := by
  rw [getElem?_ints, List.getD_eq_getElem?_getD, List.getElem?_eq_getElem h]
  rfl
end Go.Proofs.YtihndbkaoejnnaaGreatDoor.P

namespace Go.Proofs.YtihndbkaoejnnaaGreatDoor.P

theorem prod_perm {l m : List Nat} (h : l.Perm m) : prod l = prod m := by
  induction h with
  | nil => rfl
  | cons x _ ih => simp only [prod, ih]
  | swap x y l => simp only [prod]; rw [← Nat.mul_assoc, ← Nat.mul_assoc, Nat.mul_comm y x]
  | trans _ _ h1 h2 => rw [h1, h2]

theorem map_getD_range (t : List Nat) : (List.range t.length).map (fun k => t.getD k 0) = t := by
  apply ext_getD (by simp)
  intro k hk
  simp only [List.length_map, List.length_range] at hk
  simp [List.getD_eq_getElem?_getD, hk]

theorem aft_of_perm {t q : List Nat} (hq : Perm q) (hl : q.length = t.length) : (aft t q).Perm t := by
  have h := (perm_range hq).map (fun k => t.getD k 0)
  rw [hl, map_getD_range] at h
  exact h

/-- The lengths of it with its axes in another order. -/
def flipSh (q t : List Nat) : List Nat := aft t (inv q)
theorem flipSh_length (q t : List Nat) : (flipSh q t).length = q.length := by rw [flipSh, aft_length, inv_length]
theorem flipSh_perm {q t : List Nat} (hq : Perm q) (hl : q.length = t.length) : (flipSh q t).Perm t := aft_of_perm (inv_perm hq) (by rw [inv_length]; exact hl)
theorem flipSh_at {q t : List Nat} (hq : Perm q) {k : Nat} (hk : k < q.length) : (flipSh q t).getD (q.getD k 0) 0 = t.getD k 0 := by
  rw [flipSh, getD_aft (by rw [inv_length]; exact hq.lt hk), getD_inv (hq.lt hk), idx_of hq hk]
def flip (q : List Nat) (a : Arr) : Arr := tab a.ch (flipSh q a.nsh) fun ix => a.cell (aft ix q)

theorem aft_inside {q t ix : List Nat} (hq : Perm q) (hl : q.length = t.length) (h : Inside (flipSh q t) ix) : Inside t (aft ix q) := by
  obtain ⟨h1, h2⟩ := inside_iff.1 h
  rw [inside_iff]
  refine ⟨by rw [aft_length, hl], fun k hk => ?_⟩
  have hk' : k < q.length := by omega
  have h3 := h2 (q.getD k 0) (by rw [flipSh_length]; exact hq.lt hk')
  rw [flipSh_at hq hk'] at h3
  rw [getD_aft hk']
  exact h3
theorem inside_flip {q t ix : List Nat} (hq : Perm q) (hl : q.length = t.length) (h : Inside t ix) : Inside (flipSh q t) (aft ix (inv q)) := by
  obtain ⟨h1, h2⟩ := inside_iff.1 h
  rw [inside_iff]
  refine ⟨by rw [aft_length, inv_length, flipSh_length], fun k hk => ?_⟩
  rw [flipSh_length] at hk
  rw [flipSh, getD_aft (by rw [inv_length]; exact hk), getD_aft (by rw [inv_length]; exact hk)]
  exact h2 _ (by rw [getD_inv hk, ← hl]; exact idx_lt hq hk)

theorem aft_back {ix q : List Nat} (hq : Perm q) (hl : ix.length = q.length) : aft (aft ix (inv q)) q = ix := by
  rw [aft_assoc (fun k hk => by rw [inv_length]; exact hq.lt hk)]
  have : aft (inv q) q = idn q.length := by
    apply ext_getD (by rw [aft_length, idn_length])
    intro k hk
    rw [aft_length] at hk
    rw [getD_aft hk, getD_inv (hq.lt hk), idx_of hq hk, getD_idn hk]
  rw [this, ← hl, aft_idn_right]
theorem aft_forth {ix q : List Nat} (hq : Perm q) (hl : ix.length = q.length) : aft (aft ix q) (inv q) = ix := by
  rw [aft_assoc (fun k hk => by rw [inv_length] at hk; rw [getD_inv hk]; exact idx_lt hq hk), aft_inv_right hq, ← hl, aft_idn_right]
/-- Where the p-th cell goes. -/
def flipTo (q t : List Nat) (p : Nat) : Nat := place (flipSh q t) (aft (coords t p) (inv q))
theorem flipTo_lt {q t : List Nat} (hq : Perm q) (hl : q.length = t.length) {p : Nat} (hp : p < prod t) : flipTo q t p < prod t := by
  have := place_lt (inside_flip hq hl (coords_inside hp))
  rwa [prod_perm (flipSh_perm hq hl)] at this
theorem flipTo_inj {q t : List Nat} (hq : Perm q) (hl : q.length = t.length) {i j : Nat} (hi : i < prod t) (hj : j < prod t) (e : flipTo q t i = flipTo q t j) : i = j := by
  have h := place_inj (inside_flip hq hl (coords_inside hi)) (inside_flip hq hl (coords_inside hj)) e
  have h2 : aft (aft (coords t i) (inv q)) q = aft (aft (coords t j) (inv q)) q := by rw [h]
  rw [aft_back hq (by rw [length_coords]; exact hl.symm), aft_back hq (by rw [length_coords]; exact hl.symm)] at h2
  rw [← place_coords hi, ← place_coords hj, h2]

/-- The first i cells lie where they go. -/
def Filled (q t : List Nat) (d : List Int) (i : Nat) (D : List Int) : Prop := D.length = prod t ∧ ∀ j, j < i → D[flipTo q t j]? = d[j]?
theorem Filled.zero (q t : List Nat) (d : List Int) : Filled q t d 0 (List.replicate (prod t) 0) := ⟨by simp, fun j hj => by omega⟩
theorem Filled.step {q t : List Nat} {d D : List Int} {i : Nat} {x : Int} (hq : Perm q) (hl : q.length = t.length) (h : Filled q t d i D) (hi : i < prod t) (hx : d[i]? = some x) : Filled q t d (i + 1) (D.set (flipTo q t i) x) := by
  refine ⟨by rw [List.length_set]; exact h.1, fun j hj => ?_⟩
  rw [List.getElem?_set]
  by_cases e : flipTo q t i = flipTo q t j
  · have := flipTo_inj hq hl hi (by omega) e
    subst this
    rw [if_pos rfl, if_pos (by rw [h.1]; exact flipTo_lt hq hl hi), hx]
  · rw [if_neg e]
    exact h.2 j (by
      have : j ≠ i := fun e2 => e (by rw [e2])
      omega)
theorem Filled.all {a : Arr} {q t : List Nat} {D : List Int} (ha : Ok a t) (hq : Perm q) (hl : q.length = t.length) (h : Filled q t a.da (prod t) D) : (⟨a.ch, ints (flipSh q t), D⟩ : Arr) = flip q a := by
  unfold flip
  rw [ha.nsh_eq]
  refine eq_tab rfl rfl (by rw [prod_perm (flipSh_perm hq hl)]; exact h.1) fun ix hi => ?_
  have hin := aft_inside hq hl hi
  have hlt := place_lt hin
  have := h.2 (place t (aft ix q)) hlt
  unfold flipTo at this
  rw [coords_place hin, aft_forth hq (by rw [inside_length hi, flipSh_length])] at this
  simp only
  rw [this]
  unfold Arr.cell
  rw [ha.nsh_eq, List.getD_eq_getElem?_getD, List.getElem?_eq_getElem (by rw [ha.len]; exact hlt)]
  rfl

end Go.Proofs.YtihndbkaoejnnaaGreatDoor.P

namespace Go.Proofs.YtihndbkaoejnnaaGreatDoor.P

def takeSh (n : List Int) : List Nat := n.map Int.natAbs
def takeFr (n : List Int) (t : List Nat) : List Int := List.zipWith (fun (m : Int) (l : Nat) => if m < 0 then (l : Int) + m else 0) n t
def takeFar (n : List Int) : Prop := ∃ m ∈ n, 4096 < m ∨ m < -4096
instance (n : List Int) : Decidable (takeFar n) := inferInstanceAs (Decidable (∃ m ∈ n, _))
def take (n : List Int) (a : Arr) : Arr := win (takeFr n a.nsh) (takeSh n) a

def clamp (m : Int) (l : Nat) : Int := min (max m (-(l : Int))) l
def dropSh (n : List Int) (t : List Nat) : List Nat := List.zipWith (fun (m : Int) (l : Nat) => if 0 ≤ clamp m l then l - (clamp m l).toNat else ((l : Int) + clamp m l).toNat) n t
def dropFr (n : List Int) (t : List Nat) : List Int := List.zipWith (fun (m : Int) (l : Nat) => if 0 ≤ clamp m l then clamp m l else 0) n t
def drop (n : List Int) (a : Arr) : Arr := win (dropFr n a.nsh) (dropSh n a.nsh) a

/-- The first ones of a line. -/
def first (m : Nat) (a : Arr) : Arr := tab a.ch [m] fun ix => if ix.getD 0 0 < a.nsh.getD 0 0 then a.cell ix else fillOf a.ch
end Go.Proofs.YtihndbkaoejnnaaGreatDoor.P

namespace Go.Proofs.YtihndbkaoejnnaaGreatDoor.P

/-- 1 where it is so, else 0. -/
def maskFrom (q : Nat → Int → Bool) : Nat → List Int → List Int
  | _, [] => []
  | i, x :: d => (if q i x then 1 else 0) :: maskFrom q (i + 1) d
theorem maskFrom_len (q : Nat → Int → Bool) : ∀ (i : Nat) (d : List Int), (maskFrom q i d).length = d.length
  | _, [] => rfl
  | i, x :: d => by simp [maskFrom, maskFrom_len q (i + 1) d]
theorem maskFrom_at {q : Nat → Int → Bool} : ∀ {i : Nat} {d : List Int} {k : Nat} {x : Int}, d[k]? = some x → (maskFrom q i d)[k]? = some (if q (i + k) x then 1 else 0)
  | i, [], k, x, h => by simp at h
  | i, y :: d, 0, x, h => by
    simp only [List.getElem?_cons_zero, Option.some.injEq] at h
    subst h
    simp [maskFrom]
  | i, y :: d, k + 1, x, h => by
    simp only [List.getElem?_cons_succ] at h
    simp only [maskFrom, List.getElem?_cons_succ]
    rw [maskFrom_at h, show i + 1 + k = i + (k + 1) by omega]
theorem cnt_maskFrom (q : Nat → Int → Bool) : ∀ (i : Nat) (d : List Int), cnt (maskFrom q i d) d.length = (selFrom q i d).length
  | _, [] => rfl
  | i, x :: d => by
    rw [maskFrom, List.length_cons, cnt_cons, cnt_maskFrom q (i + 1) d, selFrom]
    by_cases hq : q i x = true
    · simp [hq]; omega
    · simp [hq]
theorem sel_maskFrom (q : Nat → Int → Bool) : ∀ (d : List Int) (i k : Nat) (x : Int), d[k]? = some x → q (i + k) x = true → (selFrom q i d)[cnt (maskFrom q i d) k]? = some x
  | [], i, k, x, h, _ => by simp at h
  | y :: d, i, 0, x, h, hq => by
    simp only [List.getElem?_cons_zero, Option.some.injEq] at h
    subst h
    rw [Nat.add_zero] at hq
    rw [cnt_zero, selFrom, if_pos hq]
    simp
  | y :: d, i, k + 1, x, h, hq => by
    simp only [List.getElem?_cons_succ] at h
    have hq' : q (i + 1 + k) x = true := by rw [show i + 1 + k = i + (k + 1) by omega]; exact hq
    have ih := sel_maskFrom q d (i + 1) k x h hq'
    rw [maskFrom, cnt_cons, selFrom]
    by_cases hy : q i y = true
    · rw [if_pos hy, if_pos hy, if_pos rfl, Nat.add_comm 1, List.getElem?_cons_succ]
      exact ih
    · rw [if_neg hy, if_neg hy, if_neg (by decide), Nat.zero_add]
      exact ih
theorem keep_sel {a : Arr} {q : Nat → Int → Bool} (h : Ok a [a.da.length]) : keep (maskFrom q 0 a.da) 0 a = vecOf a.ch (sel q a.da) := by
  have hm : (maskFrom q 0 a.da).length = [a.da.length].getD 0 0 := by simp [maskFrom_len]
  have hko := keep_ok h (k := 0) (by simp) hm
  have hcn := cnt_maskFrom q 0 a.da
  have hft := sel_maskFrom q a.da 0
  have hat : ∀ (k : Nat) (x : Int), a.da[k]? = some x → (maskFrom q 0 a.da)[k]? = some (if q (0 + k) x then 1 else 0) := fun k x hk => maskFrom_at hk
  have hlen := maskFrom_len q 0 a.da
  obtain ⟨m, hme⟩ : ∃ m, m = maskFrom q 0 a.da := ⟨_, rfl⟩
  rw [← hme] at hm hko hcn hft hat hlen ⊢
  have hcm : cnt m m.length = (sel q a.da).length := by rw [hlen]; exact hcn
  have hke : keep m 0 a = ⟨a.ch, ints [(sel q a.da).length], (keep m 0 a).da⟩ := by
    have hs := hko.sh
    rw [show ([a.da.length] : List Nat).set 0 (cnt m m.length) = [(sel q a.da).length] by rw [hcm]; rfl] at hs
    rw [← hs]
    rfl
  rw [hke]
  have hd : (keep m 0 a).da = sel q a.da := by
    apply List.ext_getElem?
    intro j
    by_cases hj : j < cnt m m.length
    · obtain ⟨p1, p2, p3⟩ := posOf_spec hj
      have h1 := keep_da h (k := 0) (by simp) hm (o := 0) (i := posOf m j) (r := 0) (by simp [outerOf, prod]) p2 (by simp [innerOf, prod])
      simp only [innerOf, List.drop_succ_cons, List.drop_zero, prod, Nat.zero_mul, Nat.zero_add, Nat.mul_one, Nat.add_zero, p3] at h1
      rw [h1]
      rw [hlen] at p1
      have hx : a.da[posOf m j]? = some a.da[posOf m j] := List.getElem?_eq_getElem p1
      have hpx : q (0 + posOf m j) a.da[posOf m j] = true := by
        have h2 := hat _ _ hx
        rw [p2] at h2
        by_cases hc : q (0 + posOf m j) a.da[posOf m j] = true
        · exact hc
        · rw [if_neg hc] at h2
          simp at h2
      have := hft (posOf m j) _ hx hpx
      rw [p3] at this
      rw [hx]
      exact this.symm
    · have hl1 := hko.len
      rw [List.getElem?_eq_none (by rw [hl1, prod_set (by simp)]; simp [outerOf, innerOf, prod]; omega), List.getElem?_eq_none (by omega)]
  rw [hd]
  rfl

end Go.Proofs.YtihndbkaoejnnaaGreatDoor.P
