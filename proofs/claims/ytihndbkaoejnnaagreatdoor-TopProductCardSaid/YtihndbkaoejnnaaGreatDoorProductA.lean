/- What the card TopProduct leans on: Plain, Arr, Axis, Order, Cut, Keep, SeekPlain, LexPlain, IntsAt. Conditions: none but those of its theorems. -/

set_option linter.unusedSimpArgs false
set_option linter.unusedVariables false
namespace Go.Proofs.YtihndbkaoejnnaaGreatDoor.P

/-- How many cells a shape has. -/
def prod : List Nat → Nat
  | [] => 1
  | n :: s => n * prod s

/-- The place of a cell, the last axis fastest. -/
def place : List Nat → List Nat → Nat
  | _ :: s, i :: a => i * prod s + place s a
  | _, _ => 0

/-- Are these the indices of a cell? -/
def Inside : List Nat → List Nat → Prop
  | [], [] => True
  | n :: s, i :: a => i < n ∧ Inside s a
  | _, _ => False

/-- The indices of a place. -/
def coords : List Nat → Nat → List Nat
  | [], _ => []
  | _ :: s, p => p / prod s :: coords s (p % prod s)

theorem coords_inside : ∀ {s : List Nat} {p : Nat}, p < prod s → Inside s (coords s p)
  | [], _, _ => trivial
  | n :: s, p, h => by
    simp only [prod] at h
    have hp : 0 < prod s := by
      rcases Nat.eq_zero_or_pos (prod s) with h0 | h0
      · rw [h0] at h; omega
      · exact h0
    exact ⟨(Nat.div_lt_iff_lt_mul hp).2 h, coords_inside (Nat.mod_lt _ hp)⟩

theorem place_coords : ∀ {s : List Nat} {p : Nat}, p < prod s → place s (coords s p) = p
  | [], p, h => by simp [prod] at h; simp [place, h]
  | n :: s, p, h => by
    simp only [prod] at h
    have hp : 0 < prod s := by
      rcases Nat.eq_zero_or_pos (prod s) with h0 | h0
      · rw [h0] at h; omega
      · exact h0
    simp only [place, coords]
    rw [place_coords (Nat.mod_lt _ hp)]
    exact Nat.div_add_mod' p (prod s)

theorem prod_append : ∀ (s t : List Nat), prod (s ++ t) = prod s * prod t
  | [], t => by simp [prod]
  | n :: s, t => by simp [prod, prod_append s t, Nat.mul_assoc]

/-- One further; true: it has come round. -/
def next : List Nat → List Nat → List Nat × Bool
  | n :: s, i :: a =>
    if (next s a).2 then if i + 1 < n then ((i + 1) :: (next s a).1, false) else (0 :: (next s a).1, true)
    else (i :: (next s a).1, false)
  | _, _ => ([], true)

end Go.Proofs.YtihndbkaoejnnaaGreatDoor.P

namespace Go.Proofs.YtihndbkaoejnnaaGreatDoor.P

/-- An array as it stands in memory, right or wrong. -/
structure Arr where
  ch : Bool
  sh : List Int
  da : List Int

/-- The array without anything. -/
def Arr.nil : Arr := ⟨false, [], []⟩

/-- What is wrong with the lengths one by one: 0, 4 (below 0) or 7 (too long). -/
def scanErr : List Int → Int
  | [] => 0
  | n :: r => if n < 0 then 4 else if 4096 < n then 7 else scanErr r

/-- The product, as it is reckoned from the first on; none: too great on the way. -/
def grow : Int → List Int → Option Int
  | p, [] => some p
  | p, n :: r => if 4096 < p * n then none else grow (p * n) r

def cntErr (s : List Int) : Int :=
  if 6 < s.length then 3
  else if scanErr s ≠ 0 then scanErr s
  else if (0 : Int) ∈ s then 0
  else match grow 1 s with | none => 7 | some _ => 0

def cntVal (s : List Int) : Int :=
  if 6 < s.length then 0
  else if scanErr s ≠ 0 then 0
  else if (0 : Int) ∈ s then 0
  else match grow 1 s with | none => 0 | some p => p

def badRune (c : Int) : Bool := c < 0 || 1114111 < c || (55296 ≤ c && c ≤ 57343)

def arrErr (a : Arr) : Int :=
  if cntErr a.sh ≠ 0 then cntErr a.sh
  else if (a.da.length : Int) ≠ cntVal a.sh then 4
  else if a.ch && a.da.any badRune then 6
  else 0

/-- A shape that may be. -/
def GoodSh (s : List Nat) : Prop := s.length ≤ 6 ∧ (∀ n ∈ s, n ≤ 4096) ∧ prod s ≤ 4096

def ints (s : List Nat) : List Int := s.map fun n : Nat => (n : Int)

theorem length_ints (s : List Nat) : (ints s).length = s.length := by simp [ints]
theorem getElem?_ints (s : List Nat) (k : Nat) : (ints s)[k]? = s[k]?.map fun n : Nat => (n : Int) := by simp [ints]

theorem scanErr_ints : ∀ {s : List Nat}, (∀ n ∈ s, n ≤ 4096) → scanErr (ints s) = 0
  | [], _ => rfl
  | n :: s, h => by
    have h1 := h n (by simp)
    have h2 := scanErr_ints (s := s) fun m hm => h m (by simp [hm])
    simp only [ints, List.map_cons, scanErr] at h2 ⊢
    rw [if_neg (by omega), if_neg (by omega)]
    exact h2

theorem scanErr_zero : ∀ {s : List Int}, scanErr s = 0 → ∃ t : List Nat, s = ints t ∧ ∀ n ∈ t, n ≤ 4096
  | [], _ => ⟨[], rfl, by simp⟩
  | n :: s, h => by
    simp only [scanErr] at h
    by_cases h1 : n < 0
    · rw [if_pos h1] at h; omega
    · rw [if_neg h1] at h
      by_cases h2 : 4096 < n
      · rw [if_pos h2] at h; omega
      · rw [if_neg h2] at h
        obtain ⟨t, rfl, ht⟩ := scanErr_zero h
        refine ⟨n.toNat :: t, ?_, ?_⟩
        · simp only [ints, List.map_cons]
          rw [Int.toNat_of_nonneg (by omega)]
        · intro m hm
          rcases List.mem_cons.1 hm with rfl | hm
          · omega
          · exact ht m hm

theorem prod_pos : ∀ {s : List Nat}, 0 ∉ s → 0 < prod s
  | [], _ => by simp [prod]
  | n :: s, h => by
    simp only [List.mem_cons, not_or] at h
    simp only [prod]
    exact Nat.mul_pos (by omega) (prod_pos h.2)

theorem prod_zero : ∀ {s : List Nat}, 0 ∈ s → prod s = 0
  | n :: s, h => by
    simp only [prod]
    rcases List.mem_cons.1 h with h | h
    · rw [← h]; simp
    · rw [prod_zero h]; simp

theorem grow_ints : ∀ {s : List Nat} (p : Nat), 0 ∉ s → p * prod s ≤ 4096 → grow p (ints s) = some ((p * prod s : Nat) : Int)
  | [], p, _, _ => by simp [grow, ints, prod]
  | n :: s, p, h, hp => by
    simp only [List.mem_cons, not_or] at h
    have hpos := prod_pos h.2
    simp only [prod] at hp ⊢
    rw [← Nat.mul_assoc] at hp ⊢
    have h1 : p * n ≤ p * n * prod s := Nat.le_mul_of_pos_right _ hpos
    have h2 := grow_ints (s := s) (p * n) h.2 hp
    simp only [ints, List.map_cons, grow] at h2 ⊢
    have e : (p : Int) * (n : Int) = ((p * n : Nat) : Int) := by simp
    rw [e, if_neg (by omega), h2]

theorem grow_some : ∀ {s : List Nat} {p : Nat} {q : Int}, 0 ∉ s → p ≤ 4096 → grow p (ints s) = some q → p * prod s ≤ 4096
  | [], p, q, _, hp, h => by simpa [prod] using hp
  | n :: s, p, q, hn, hp, h => by
    simp only [List.mem_cons, not_or] at hn
    simp only [ints, List.map_cons, grow] at h
    have e : (p : Int) * (n : Int) = ((p * n : Nat) : Int) := by simp
    rw [e] at h
    by_cases h1 : (4096 : Int) < ((p * n : Nat) : Int)
    · rw [if_pos h1] at h; cases h
    · rw [if_neg h1] at h
      have := grow_some (s := s) (p := p * n) hn.2 (by omega) h
      simp only [prod]
      rw [← Nat.mul_assoc]
      exact this

theorem mem_ints_zero {s : List Nat} : (0 : Int) ∈ ints s ↔ 0 ∈ s := by
  simp only [ints, List.mem_map]
  constructor
  · rintro ⟨n, hn, h⟩
    have : n = 0 := by omega
    rw [← this]; exact hn
  · intro h
    exact ⟨0, h, rfl⟩

theorem cntErr_ints {s : List Nat} (h : GoodSh s) : cntErr (ints s) = 0 := by
  obtain ⟨h1, h2, h3⟩ := h
  unfold cntErr
  rw [if_neg (by rw [length_ints]; omega), if_neg (by rw [scanErr_ints h2]; simp)]
  by_cases h0 : 0 ∈ s
  · rw [if_pos (mem_ints_zero.2 h0)]
  · rw [if_neg (fun h => h0 (mem_ints_zero.1 h))]
    have := grow_ints (s := s) 1 h0 (by omega)
    rw [show ((1 : Nat) : Int) = 1 from rfl] at this
    rw [this]

theorem cntVal_ints {s : List Nat} (h : GoodSh s) : cntVal (ints s) = (prod s : Int) := by
  obtain ⟨h1, h2, h3⟩ := h
  unfold cntVal
  rw [if_neg (by rw [length_ints]; omega), if_neg (by rw [scanErr_ints h2]; simp)]
  by_cases h0 : 0 ∈ s
  · rw [if_pos (mem_ints_zero.2 h0), prod_zero h0]; rfl
  · rw [if_neg (fun h => h0 (mem_ints_zero.1 h))]
    have := grow_ints (s := s) 1 h0 (by omega)
    rw [show ((1 : Nat) : Int) = 1 from rfl] at this
    rw [this]; simp

theorem cntErr_zero {s : List Int} (h : cntErr s = 0) : ∃ t, s = ints t ∧ GoodSh t := by
  unfold cntErr at h
  by_cases h1 : 6 < s.length
  · rw [if_pos h1] at h; omega
  · rw [if_neg h1] at h
    by_cases h2 : scanErr s ≠ 0
    · rw [if_pos h2] at h; exact absurd h h2
    · rw [if_neg h2] at h
      obtain ⟨t, rfl, ht⟩ := scanErr_zero (by simpa using h2)
      refine ⟨t, rfl, by rw [length_ints] at h1; omega, ht, ?_⟩
      by_cases h0 : 0 ∈ t
      · rw [prod_zero h0]; omega
      · rw [if_neg (fun h => h0 (mem_ints_zero.1 h))] at h
        rcases hg : grow 1 (ints t) with _ | q
        · rw [hg] at h; simp at h
        · have := grow_some (p := 1) h0 (by omega) hg
          omega

/-- An array without a fault, its lengths being t. -/
structure Ok (a : Arr) (t : List Nat) : Prop where
  sh : a.sh = ints t
  good : GoodSh t
  len : a.da.length = prod t
  rune : a.ch = true → a.da.any badRune = false

theorem arrErr_ok {a : Arr} {t : List Nat} (h : Ok a t) : arrErr a = 0 := by
  unfold arrErr
  rw [h.sh, if_neg (by rw [cntErr_ints h.good]; simp), if_neg (by rw [cntVal_ints h.good, h.len]; simp)]
  rw [if_neg]
  intro hb
  simp only [Bool.and_eq_true] at hb
  have := h.rune hb.1
  rw [hb.2] at this
  cases this

theorem ok_of_arrErr {a : Arr} (h : arrErr a = 0) : ∃ t, Ok a t := by
  unfold arrErr at h
  by_cases h1 : cntErr a.sh ≠ 0
  · rw [if_pos h1] at h; exact absurd h h1
  · rw [if_neg h1] at h
    obtain ⟨t, ht, hg⟩ := cntErr_zero (by simpa using h1)
    by_cases h2 : (a.da.length : Int) ≠ cntVal a.sh
    · rw [if_pos h2] at h; omega
    · rw [if_neg h2] at h
      have h2' : (a.da.length : Int) = cntVal a.sh := by simpa using h2
      rw [ht, cntVal_ints hg] at h2'
      refine ⟨t, ht, hg, by omega, fun hc => ?_⟩
      by_cases h3 : a.da.any badRune = true
      · rw [if_pos (by simp [hc, h3])] at h; omega
      · simpa using h3

theorem ints_inj : ∀ {s t : List Nat}, ints s = ints t → s = t
  | [], [], _ => rfl
  | n :: s, m :: t, h => by
    simp only [ints, List.map_cons, List.cons.injEq] at h
    rw [ints_inj (s := s) (t := t) h.2]
    have : n = m := by omega
    rw [this]
  | [], _ :: _, h => by simp [ints] at h
  | _ :: _, [], h => by simp [ints] at h

/-- The lengths as numbers from 0 on. -/
def Arr.nsh (a : Arr) : List Nat := a.sh.map Int.toNat

theorem toNat_ints (s : List Nat) : (ints s).map Int.toNat = s := by
  induction s with
  | nil => rfl
  | cons n s ih => simp only [ints, List.map_cons] at ih ⊢; rw [ih]; simp

theorem Ok.nsh_eq {a : Arr} {t : List Nat} (h : Ok a t) : a.nsh = t := by
  unfold Arr.nsh; rw [h.sh, toNat_ints]

/-- The cell at some indices. -/
def Arr.cell (a : Arr) (ix : List Nat) : Int := a.da.getD (place a.nsh ix) 0

/-- An array laid out by a function of the indices. -/
def tab (c : Bool) (s : List Nat) (g : List Nat → Int) : Arr := ⟨c, ints s, (List.range (prod s)).map fun p => g (coords s p)⟩

theorem tab_congr {c : Bool} {s : List Nat} {g g' : List Nat → Int} (h : ∀ ix, Inside s ix → g ix = g' ix) : tab c s g = tab c s g' := by
  unfold tab
  congr 1
  apply List.map_congr_left
  intro p hp
  exact h _ (coords_inside (by simpa using hp))

theorem Ok.eq_tab {a : Arr} {t : List Nat} (h : Ok a t) : a = tab a.ch t a.cell := by
  obtain ⟨c, s, d⟩ := a
  unfold tab
  have hs := h.sh
  have hl := h.len
  simp only at hs hl
  subst hs
  congr 1
  apply List.ext_getElem?
  intro p
  by_cases hp : p < prod t
  · have hn := h.nsh_eq
    simp only [List.getElem?_map, List.getElem?_range hp, Option.map_some, Arr.cell, hn, place_coords hp, List.getD_eq_getElem?_getD]
    rw [List.getElem?_eq_getElem (by omega)]
    simp
  · rw [List.getElem?_eq_none (by omega), List.getElem?_eq_none (by simp; omega)]

/-- What makes an array the one that is laid out. -/
theorem eq_tab {a : Arr} {c : Bool} {s : List Nat} {g : List Nat → Int} (hc : a.ch = c) (hs : a.sh = ints s) (hl : a.da.length = prod s)
    (hg : ∀ ix, Inside s ix → a.da[place s ix]? = some (g ix)) : a = tab c s g := by
  obtain ⟨c', s', d⟩ := a
  simp only at hc hs hl hg
  subst hc hs
  unfold tab
  congr 1
  apply List.ext_getElem?
  intro p
  by_cases hp : p < prod s
  · have h1 := hg _ (coords_inside hp)
    rw [place_coords hp] at h1
    simp [List.getElem?_range hp, h1]
  · rw [List.getElem?_eq_none (by omega), List.getElem?_eq_none (by simp; omega)]

/-- Arrays of one shape are the same if all their cells are. -/
theorem Ok.ext {a b : Arr} {t : List Nat} (ha : Ok a t) (hb : Ok b t) (hc : a.ch = b.ch) (h : ∀ ix, Inside t ix → a.cell ix = b.cell ix) : a = b := by
  rw [ha.eq_tab, hb.eq_tab, hc]
  exact tab_congr h

end Go.Proofs.YtihndbkaoejnnaaGreatDoor.P

namespace Go.Proofs.YtihndbkaoejnnaaGreatDoor.P

/-- How many cells lie ahead of an axis, and behind it. -/
def outerOf (s : List Nat) (k : Nat) : Nat := prod (s.take k)
def innerOf (s : List Nat) (k : Nat) : Nat := prod (s.drop (k + 1))

theorem prod_axis {s : List Nat} {k : Nat} (hk : k < s.length) : prod s = outerOf s k * s.getD k 0 * innerOf s k := by
  have h : s = s.take k ++ s[k] :: s.drop (k + 1) := by simp
  conv => lhs; rw [h]
  rw [prod_append, prod, Nat.mul_assoc]
  simp [outerOf, innerOf, List.getD_eq_getElem?_getD, hk]

/-! ### Reversed, moved round -/

end Go.Proofs.YtihndbkaoejnnaaGreatDoor.P

namespace Go.Proofs.YtihndbkaoejnnaaGreatDoor.P

/-- The numbers from 0 on, each once. -/
def Perm (p : List Nat) : Prop := p.Nodup ∧ ∀ x ∈ p, x < p.length

theorem getD_lt {p : List Nat} {k : Nat} (h : k < p.length) : p.getD k 0 = p[k] := by simp [List.getD_eq_getElem?_getD, h]
theorem Perm.lt {p : List Nat} (h : Perm p) {k : Nat} (hk : k < p.length) : p.getD k 0 < p.length := by
  rw [getD_lt hk]
  exact h.2 _ (List.getElem_mem hk)
theorem Perm.inj {p : List Nat} (h : Perm p) {i j : Nat} (hi : i < p.length) (hj : j < p.length) (e : p.getD i 0 = p.getD j 0) : i = j := by
  rw [getD_lt hi, getD_lt hj] at e
  exact (List.getElem_inj h.1).1 e

/-- A list of numbers that is an order. -/
def IsOrder (p : List Int) : Prop := p.Nodup ∧ ∀ x ∈ p, 0 ≤ x ∧ x < (p.length : Int)
instance (p : List Int) : Decidable (IsOrder p) := inferInstanceAs (Decidable (_ ∧ _))

/-- Which numbers have been seen, bit by bit. -/
def Seen (S : List Nat) (l : List Nat) : Prop := S.length = 65 ∧ (∀ k, k < 65 → S.getD k 0 < 18446744073709551616) ∧ ∀ i, i < 4160 → (S.getD (i / 64) 0).testBit (i % 64) = decide (i ∈ l)
theorem Seen.nil : Seen (List.replicate 65 0) [] := by
  refine ⟨by simp, fun k hk => ?_, fun i hi => ?_⟩
  · rw [List.getD_eq_getElem?_getD, List.getElem?_replicate, if_pos hk]; simp
  · rw [List.getD_eq_getElem?_getD, List.getElem?_replicate, if_pos (by omega)]; simp
theorem Seen.add {S : List Nat} {l : List Nat} (h : Seen S l) {i : Nat} (hi : i < 4160) : Seen (S.set (i / 64) (S.getD (i / 64) 0 ||| 2 ^ (i % 64))) (l ++ [i]) := by
  obtain ⟨h1, h2, h3⟩ := h
  have hp : 2 ^ (i % 64) < 2 ^ 64 := Nat.pow_lt_pow_right (by omega) (by omega)
  have hlt : S.getD (i / 64) 0 ||| 2 ^ (i % 64) < 2 ^ 64 := Nat.or_lt_two_pow (h2 _ (by omega)) hp
  refine ⟨by simp [h1], fun k hk => ?_, fun j hj => ?_⟩
  · rw [List.getD_eq_getElem?_getD, List.getElem?_set]
    by_cases e : i / 64 = k
    · rw [if_pos e, if_pos (by omega)]
      simpa using hlt
    · rw [if_neg e, ← List.getD_eq_getElem?_getD]
      exact h2 k hk
  · rw [List.getD_eq_getElem?_getD, List.getElem?_set]
    by_cases e : i / 64 = j / 64
    · rw [if_pos e, if_pos (by omega), Option.getD_some, Nat.testBit_or, Nat.testBit_two_pow]
      rw [e, h3 j hj]
      by_cases e2 : i = j
      · subst e2; simp
      · have : i % 64 ≠ j % 64 := by omega
        simp [this, Ne.symm e2]
    · rw [if_neg e, ← List.getD_eq_getElem?_getD, h3 j hj]
      have : j ≠ i := by omega
      simp [this]

end Go.Proofs.YtihndbkaoejnnaaGreatDoor.P

namespace Go.Proofs.YtihndbkaoejnnaaGreatDoor.P

/-- The first k of these indices are those of a cell. -/
def WinIn (t : List Nat) (js : List Int) (k : Nat) : Prop := ∀ m, m < k → 0 ≤ js.getD m 0 ∧ js.getD m 0 < (t.getD m 0 : Int)
instance (t : List Nat) (js : List Int) (k : Nat) : Decidable (WinIn t js k) := inferInstanceAs (Decidable (∀ m, m < k → _))
theorem WinIn.zero (t : List Nat) (js : List Int) : WinIn t js 0 := fun m h => by omega
end Go.Proofs.YtihndbkaoejnnaaGreatDoor.P

namespace Go.Proofs.YtihndbkaoejnnaaGreatDoor.P

/-- Only zeros and ones. -/
def Mask (m : List Int) : Prop := ∀ x ∈ m, x = 0 ∨ x = 1
instance (m : List Int) : Decidable (Mask m) := inferInstanceAs (Decidable (∀ x ∈ m, x = 0 ∨ x = 1))
def others (m : List Int) : List Int := m.map fun x => 1 - x
end Go.Proofs.YtihndbkaoejnnaaGreatDoor.P

namespace Go.Proofs.YtihndbkaoejnnaaGreatDoor.P

/-- Does an array have a cell? -/
def hasB (b : Arr) (c : Bool) (x : Int) : Bool := decide (x ∈ b.da) && decide (c = b.ch)
/-- Where a cell is first. -/
def findN (a : Arr) (c : Bool) (x : Int) : Nat := if hasB a c x then a.da.idxOf x else a.da.length
def index (a b : Arr) : Arr := ⟨false, b.sh, b.da.map fun x => ((findN a b.ch x : Nat) : Int)⟩
end Go.Proofs.YtihndbkaoejnnaaGreatDoor.P

namespace Go.Proofs.YtihndbkaoejnnaaGreatDoor.P

/-- The rune of a function's sign. -/
def glyphR (f : Int) : Int := if f = 1 then 43 else if f = 2 then 45 else if f = 3 then 215 else if f = 4 then 247 else if f = 5 then 124 else if f = 6 then 8968 else if f = 7 then 8970 else if f = 8 then 61 else if f = 9 then 8800 else if f = 10 then 60 else if f = 11 then 8804 else if f = 12 then 8805 else if f = 13 then 62 else if f = 14 then 8743 else if f = 15 then 8744 else if f = 16 then 42 else if f = 17 then 126 else if f = 18 then 9076 else if f = 19 then 44 else if f = 20 then 9021 else if f = 21 then 9033 else if f = 22 then 8593 else if f = 23 then 8595 else if f = 24 then 9075 else if f = 25 then 8714 else if f = 26 then 9035 else if f = 27 then 9042 else if f = 28 then 8746 else if f = 29 then 8745 else if f = 30 then 8869 else if f = 31 then 8868 else if f = 32 then 8801 else if f = 33 then 47 else if f = 34 then 92 else 0
/-- The rune of a sign of a kind. -/
def signR (f : Int) : Int := if f = 5 then 40 else if f = 6 then 41 else if f = 7 then 91 else if f = 8 then 93 else if f = 9 then 59 else if f = 10 then 8592 else if f = 11 then 8728 else if f = 12 then 46 else if f = 13 then 9064 else if f = 14 then 123 else if f = 15 then 125 else if f = 16 then 58 else if f = 17 then 8900 else if f = 18 then 9082 else if f = 19 then 9077 else if f = 20 then 8711 else 0
def digB (x : Int) : Bool := decide (48 ≤ x) && decide (x ≤ 57)
def letB (x : Int) : Bool := (decide (97 ≤ x) && decide (x ≤ 122)) || (decide (65 ≤ x) && decide (x ≤ 90))
def inB (x : Int) : Bool := letB x || digB x || decide (x = 95)
def spB (x : Int) : Bool := decide (x = 32)
theorem digB_yes {x : Int} (h1 : 48 ≤ x) (h2 : x ≤ 57) : digB x = true := by simp [digB, h1, h2]
theorem digB_lo {x : Int} (h1 : ¬ 48 ≤ x) : digB x = false := by simp [digB, h1]
theorem digB_hi {x : Int} (h1 : ¬ x ≤ 57) : digB x = false := by simp [digB, h1]

/-- The first function whose sign is this rune. -/
def FnOf (c F : Int) : Prop := 1 ≤ F ∧ F ≤ 34 ∧ glyphR F = c ∧ ∀ j, 1 ≤ j → j < F → glyphR j ≠ c
def NoFn (c : Int) : Prop := ∀ j, 1 ≤ j → j ≤ 34 → glyphR j ≠ c
/-- The first kind whose sign is this rune. -/
def SignOf (c K : Int) : Prop := 5 ≤ K ∧ K ≤ 20 ∧ signR K = c ∧ ∀ j, 5 ≤ j → j < K → signR j ≠ c

theorem below_nat {m n : Nat} {p : Int → Prop} (h : ∀ j : Nat, j < n → p ((m : Int) + j)) : ∀ j : Int, (m : Int) ≤ j → j < (m : Int) + n → p j := by
  intro j h1 h2
  have := h (j - m).toNat (by omega)
  rwa [show (m : Int) + ((j - m).toNat : Int) = j by omega] at this
end Go.Proofs.YtihndbkaoejnnaaGreatDoor.P

namespace Go.Proofs.YtihndbkaoejnnaaGreatDoor.P

theorem ints_getD {s : List Nat} {k : Nat} {x : Int} (h : (ints s)[k]? = some x) : x = (s.getD k 0 : Nat) ∧ k < s.length := by
  rw [getElem?_ints, Option.map_eq_some_iff] at h
  obtain ⟨n, hn, rfl⟩ := h
  have := (List.getElem?_eq_some_iff.1 hn).1
  exact ⟨by rw [List.getD_eq_getElem?_getD, hn]; rfl, this⟩
end Go.Proofs.YtihndbkaoejnnaaGreatDoor.P
