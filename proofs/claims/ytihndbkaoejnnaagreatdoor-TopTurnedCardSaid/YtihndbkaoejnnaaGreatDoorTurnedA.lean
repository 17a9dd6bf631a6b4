/- What the card TopTurned leans on: Plain, Arr, Axis, Order, Cut, Keep, SeekPlain, LexPlain, IntsAt, Flip, Odo. Conditions: none but those of its theorems. -/

set_option linter.unusedSimpArgs false
set_option linter.unusedVariables false
namespace Go.Proofs.YtihndbkaoejnnaaGreatDoor.P

/-- How many cells a shape has. -/
def prod : List Nat → Nat
  | [] => 1
  | n :: s => n * prod s

/-- The place of a cell, the last axis fastest. -/
def place : List Nat → List Nat → Nat
  | _ :: s, i :: a => i * prod s + place s a
  | _, _ => 0

/-- Are these the indices of a cell? -/
def Inside : List Nat → List Nat → Prop
  | [], [] => True
  | n :: s, i :: a => i < n ∧ Inside s a
  | _, _ => False

/-- The indices of a place. -/
def coords : List Nat → Nat → List Nat
  | [], _ => []
  | _ :: s, p => p / prod s :: coords s (p % prod s)

theorem inside_length : ∀ {s a : List Nat}, Inside s a → a.length = s.length
  | [], [], _ => rfl
  | _ :: _, _ :: _, h => by simp [inside_length h.2]
  | [], _ :: _, h => h.elim
  | _ :: _, [], h => h.elim

theorem length_coords : ∀ (s : List Nat) (p : Nat), (coords s p).length = s.length
  | [], _ => rfl
  | _ :: s, p => by simp [coords, length_coords s]

theorem place_lt : ∀ {s a : List Nat}, Inside s a → place s a < prod s
  | [], [], _ => by simp [place, prod]
  | n :: s, i :: a, h => by
    have h1 := place_lt h.2
    have h2 : (i + 1) * prod s ≤ n * prod s := Nat.mul_le_mul_right _ h.1
    simp only [place, prod]
    rw [Nat.add_mul] at h2
    omega
  | [], _ :: _, h => h.elim
  | _ :: _, [], h => h.elim

theorem coords_inside : ∀ {s : List Nat} {p : Nat}, p < prod s → Inside s (coords s p)
  | [], _, _ => trivial
  | n :: s, p, h => by
    simp only [prod] at h
    have hp : 0 < prod s := by
      rcases Nat.eq_zero_or_pos (prod s) with h0 | h0
      · rw [h0] at h; omega
      · exact h0
    exact ⟨(Nat.div_lt_iff_lt_mul hp).2 h, coords_inside (Nat.mod_lt _ hp)⟩

theorem place_coords : ∀ {s : List Nat} {p : Nat}, p < prod s → place s (coords s p) = p
  | [], p, h => by simp [prod] at h; simp [place, h]
  | n :: s, p, h => by
    simp only [prod] at h
    have hp : 0 < prod s := by
      rcases Nat.eq_zero_or_pos (prod s) with h0 | h0
      · rw [h0] at h; omega
      · exact h0
    simp only [place, coords]
    rw [place_coords (Nat.mod_lt _ hp)]
    exact Nat.div_add_mod' p (prod s)

theorem coords_place : ∀ {s a : List Nat}, Inside s a → coords s (place s a) = a
  | [], [], _ => rfl
  | n :: s, i :: a, h => by
    have h1 := place_lt h.2
    simp only [place, coords]
    have e1 : (i * prod s + place s a) / prod s = i := by
      rw [Nat.mul_comm, Nat.mul_add_div (by omega), Nat.div_eq_of_lt h1]; rfl
    have e2 : (i * prod s + place s a) % prod s = place s a := by
      rw [Nat.mul_comm, Nat.mul_add_mod, Nat.mod_eq_of_lt h1]
    rw [e1, e2, coords_place h.2]
  | [], _ :: _, h => h.elim
  | _ :: _, [], h => h.elim

theorem place_inj {s a b : List Nat} (ha : Inside s a) (hb : Inside s b) (h : place s a = place s b) : a = b := by
  rw [← coords_place ha, ← coords_place hb, h]

theorem prod_append : ∀ (s t : List Nat), prod (s ++ t) = prod s * prod t
  | [], t => by simp [prod]
  | n :: s, t => by simp [prod, prod_append s t, Nat.mul_assoc]

theorem inside_iff : ∀ {s a : List Nat}, Inside s a ↔ a.length = s.length ∧ ∀ k, k < s.length → a.getD k 0 < s.getD k 0
  | [], [] => by simp [Inside]
  | n :: s, i :: a => by
    simp only [Inside]
    rw [inside_iff (s := s)]
    constructor
    · rintro ⟨h1, h2, h3⟩
      refine ⟨by simp [h2], fun k hk => ?_⟩
      rcases k with _ | k
      · simpa using h1
      · simpa using h3 k (by simpa using hk)
    · rintro ⟨h1, h2⟩
      refine ⟨by simpa using h2 0 (by simp), by simpa using h1, fun k hk => ?_⟩
      simpa using h2 (k + 1) (by simpa using hk)
  | [], _ :: _ => by simp [Inside]
  | _ :: _, [] => by simp [Inside]

theorem inside_zero {s : List Nat} (h : 0 < prod s) : Inside s (List.replicate s.length 0) := by
  rw [inside_iff]
  refine ⟨by simp, fun k hk => ?_⟩
  have hpos : ∀ (s : List Nat), 0 < prod s → ∀ k, k < s.length → 0 < s.getD k 0 := by
    intro s
    induction s with
    | nil => intro _ k hk; simp at hk
    | cons n s ih =>
      intro h k hk
      simp only [prod] at h
      rcases k with _ | k
      · simpa using Nat.pos_of_mul_pos_right h
      · simpa using ih (Nat.pos_of_mul_pos_left h) k (by simpa using hk)
  have h1 := hpos s h k hk
  simp only [List.getD_eq_getElem?_getD, List.getElem?_replicate, hk, if_true, Option.getD_some]
  simpa using h1

/-- One further; true: it has come round. -/
def next : List Nat → List Nat → List Nat × Bool
  | n :: s, i :: a =>
    if (next s a).2 then if i + 1 < n then ((i + 1) :: (next s a).1, false) else (0 :: (next s a).1, true)
    else (i :: (next s a).1, false)
  | _, _ => ([], true)

theorem next_spec : ∀ {s a : List Nat}, Inside s a →
    ((next s a).2 = true → place s a + 1 = prod s ∧ (next s a).1 = List.replicate s.length 0) ∧
    ((next s a).2 = false → Inside s (next s a).1 ∧ place s (next s a).1 = place s a + 1)
  | [], [], _ => by simp [next, place, prod]
  | n :: s, i :: a, h => by
    obtain ⟨i1, i2⟩ := next_spec h.2
    have hl := place_lt h.2
    unfold next
    by_cases hc : (next s a).2 = true
    · obtain ⟨e1, e2⟩ := i1 hc
      rw [if_pos hc]
      by_cases hi : i + 1 < n
      · rw [if_pos hi]
        refine ⟨fun h => by simp at h, fun _ => ⟨⟨hi, ?_⟩, ?_⟩⟩
        · rw [e2]; exact inside_zero (by omega)
        · simp only [place]
          have e3 : place s (next s a).1 = 0 := by
            rw [e2]
            have hz : ∀ s : List Nat, place s (List.replicate s.length 0) = 0 := by
              intro s
              induction s with
              | nil => rfl
              | cons n s ih => simp [place, List.replicate_succ, ih]
            exact hz s
          rw [e3, Nat.add_mul]
          omega
      · rw [if_neg hi]
        refine ⟨fun _ => ⟨?_, ?_⟩, fun h => by simp at h⟩
        · have : n = i + 1 := by have := h.1; omega
          subst this
          simp only [place, prod]
          rw [Nat.add_mul]
          omega
        · simp [e2, List.replicate_succ]
    · rw [if_neg hc]
      have hc' : (next s a).2 = false := by simpa using hc
      obtain ⟨e1, e2⟩ := i2 hc'
      refine ⟨fun h => by simp at h, fun _ => ⟨⟨h.1, e1⟩, ?_⟩⟩
      simp only [place]
      omega
  | [], _ :: _, h => h.elim
  | _ :: _, [], h => h.elim

theorem coords_zero : ∀ (s : List Nat), coords s 0 = List.replicate s.length 0
  | [] => rfl
  | n :: s => by simp [coords, coords_zero s, List.replicate_succ]

theorem next_coords {s : List Nat} {p : Nat} (h : p + 1 < prod s) : (next s (coords s p)).1 = coords s (p + 1) := by
  have hp : p < prod s := by omega
  have hi := coords_inside hp
  have e := place_coords hp
  have hn := next_spec hi
  by_cases hc : (next s (coords s p)).2 = true
  · have := (hn.1 hc).1
    omega
  · obtain ⟨h1, h2⟩ := hn.2 (by simpa using hc)
    refine place_inj h1 (coords_inside h) ?_
    rw [h2, e, place_coords h]

end Go.Proofs.YtihndbkaoejnnaaGreatDoor.P

namespace Go.Proofs.YtihndbkaoejnnaaGreatDoor.P

/-- An array as it stands in memory, right or wrong. -/
structure Arr where
  ch : Bool
  sh : List Int
  da : List Int

/-- The array without anything. -/
def Arr.nil : Arr := ⟨false, [], []⟩

/-- What is wrong with the lengths one by one: 0, 4 (below 0) or 7 (too long). -/
def scanErr : List Int → Int
  | [] => 0
  | n :: r => if n < 0 then 4 else if 4096 < n then 7 else scanErr r

/-- The product, as it is reckoned from the first on; none: too great on the way. -/
def grow : Int → List Int → Option Int
  | p, [] => some p
  | p, n :: r => if 4096 < p * n then none else grow (p * n) r

def cntErr (s : List Int) : Int :=
  if 6 < s.length then 3
  else if scanErr s ≠ 0 then scanErr s
  else if (0 : Int) ∈ s then 0
  else match grow 1 s with | none => 7 | some _ => 0

def cntVal (s : List Int) : Int :=
  if 6 < s.length then 0
  else if scanErr s ≠ 0 then 0
  else if (0 : Int) ∈ s then 0
  else match grow 1 s with | none => 0 | some p => p

def badRune (c : Int) : Bool := c < 0 || 1114111 < c || (55296 ≤ c && c ≤ 57343)

def arrErr (a : Arr) : Int :=
  if cntErr a.sh ≠ 0 then cntErr a.sh
  else if (a.da.length : Int) ≠ cntVal a.sh then 4
  else if a.ch && a.da.any badRune then 6
  else 0

/-- A shape that may be. -/
def GoodSh (s : List Nat) : Prop := s.length ≤ 6 ∧ (∀ n ∈ s, n ≤ 4096) ∧ prod s ≤ 4096

def ints (s : List Nat) : List Int := s.map fun n : Nat => (n : Int)

theorem length_ints (s : List Nat) : (ints s).length = s.length := by simp [ints]
theorem getElem?_ints (s : List Nat) (k : Nat) : (ints s)[k]? = s[k]?.map fun n : Nat => (n : Int) := by simp [ints]

theorem scanErr_ints : ∀ {s : List Nat}, (∀ n ∈ s, n ≤ 4096) → scanErr (ints s) = 0
  | [], _ => rfl
  | n :: s, h => by
    have h1 := h n (by simp)
    have h2 := scanErr_ints (s := s) fun m hm => h m (by simp [hm])
    simp only [ints, List.map_cons, scanErr] at h2 ⊢
    rw [if_neg (by omega), if_neg (by omega)]
    exact h2

theorem scanErr_zero : ∀ {s : List Int}, scanErr s = 0 → ∃ t : List Nat, s = ints t ∧ ∀ n ∈ t, n ≤ 4096
  | [], _ => ⟨[], rfl, by simp⟩
  | n :: s, h => by
    simp only [scanErr] at h
    by_cases h1 : n < 0
    · rw [if_pos h1] at h; omega
    · rw [if_neg h1] at h
      by_cases h2 : 4096 < n
      · rw [if_pos h2] at h; omega
      · rw [if_neg h2] at h
        obtain ⟨t, rfl, ht⟩ := scanErr_zero h
        refine ⟨n.toNat :: t, ?_, ?_⟩
        · simp only [ints, List.map_cons]
          rw [Int.toNat_of_nonneg (by omega)]
        · intro m hm
          rcases List.mem_cons.1 hm with rfl | hm
          · omega
          · exact ht m hm

theorem prod_pos : ∀ {s : List Nat}, 0 ∉ s → 0 < prod s
  | [], _ => by simp [prod]
  | n :: s, h => by
    simp only [List.mem_cons, not_or] at h
    simp only [prod]
    exact Nat.mul_pos (by omega) (prod_pos h.2)

theorem prod_zero : ∀ {s : List Nat}, 0 ∈ s → prod s = 0
  | n :: s, h => by
    simp only [prod]
    rcases List.mem_cons.1 h with h | h
    · rw [← h]; simp
    · rw [prod_zero h]; simp

theorem grow_ints : ∀ {s : List Nat} (p : Nat), 0 ∉ s → p * prod s ≤ 4096 → grow p (ints s) = some ((p * prod s : Nat) : Int)
  | [], p, _, _ => by simp [grow, ints, prod]
  | n :: s, p, h, hp => by
    simp only [List.mem_cons, not_or] at h
    have hpos := prod_pos h.2
    simp only [prod] at hp ⊢
    rw [← Nat.mul_assoc] at hp ⊢
    have h1 : p * n ≤ p * n * prod s := Nat.le_mul_of_pos_right _ hpos
    have h2 := grow_ints (s := s) (p * n) h.2 hp
    simp only [ints, List.map_cons, grow] at h2 ⊢
    have e : (p : Int) * (n : Int) = ((p * n : Nat) : Int) := by simp
    rw [e, if_neg (by omega), h2]

theorem grow_some : ∀ {s : List Nat} {p : Nat} {q : Int}, 0 ∉ s → p ≤ 4096 → grow p (ints s) = some q → p * prod s ≤ 4096
  | [], p, q, _, hp, h => by simpa [prod] using hp
  | n :: s, p, q, hn, hp, h => by
    simp only [List.mem_cons, not_or] at hn
    simp only [ints, List.map_cons, grow] at h
    have e : (p : Int) * (n : Int) = ((p * n : Nat) : Int) := by simp
    rw [e] at h
    by_cases h1 : (4096 : Int) < ((p * n : Nat) : Int)
    · rw [if_pos h1] at h; cases h
    · rw [if_neg h1] at h
      have := grow_some (s := s) (p := p * n) hn.2 (by omega) h
      simp only [prod]
      rw [← Nat.mul_assoc]
      exact this

theorem mem_ints_zero {s : List Nat} : (0 : Int) ∈ ints s ↔ 0 ∈ s := by
  simp only [ints, List.mem_map]
  constructor
  · rintro ⟨n, hn, h⟩
    have : n = 0 := by omega
    rw [← this]; exact hn
  · intro h
    exact ⟨0, h, rfl⟩

theorem cntErr_ints {s : List Nat} (h : GoodSh s) : cntErr (ints s) = 0 := by
  obtain ⟨h1, h2, h3⟩ := h
  unfold cntErr
  rw [if_neg (by rw [length_ints]; omega), if_neg (by rw [scanErr_ints h2]; simp)]
  by_cases h0 : 0 ∈ s
  · rw [if_pos (mem_ints_zero.2 h0)]
  · rw [if_neg (fun h => h0 (mem_ints_zero.1 h))]
    have := grow_ints (s := s) 1 h0 (by omega)
    rw [show ((1 : Nat) : Int) = 1 from rfl] at this
    rw [this]

theorem cntVal_ints {s : List Nat} (h : GoodSh s) : cntVal (ints s) = (prod s : Int) := by
  obtain ⟨h1, h2, h3⟩ := h
  unfold cntVal
  rw [if_neg (by rw [length_ints]; omega), if_neg (by rw [scanErr_ints h2]; simp)]
  by_cases h0 : 0 ∈ s
  · rw [if_pos (mem_ints_zero.2 h0), prod_zero h0]; rfl
  · rw [if_neg (fun h => h0 (mem_ints_zero.1 h))]
    have := grow_ints (s := s) 1 h0 (by omega)
    rw [show ((1 : Nat) : Int) = 1 from rfl] at this
    rw [this]; simp

theorem cntErr_zero {s : List Int} (h : cntErr s = 0) : ∃ t, s = ints t ∧ GoodSh t := by
  unfold cntErr at h
  by_cases h1 : 6 < s.length
  · rw [if_pos h1] at h; omega
  · rw [if_neg h1] at h
    by_cases h2 : scanErr s ≠ 0
    · rw [if_pos h2] at h; exact absurd h h2
    · rw [if_neg h2] at h
      obtain ⟨t, rfl, ht⟩ := scanErr_zero (by simpa using h2)
      refine ⟨t, rfl, by rw [length_ints] at h1; omega, ht, ?_⟩
      by_cases h0 : 0 ∈ t
      · rw [prod_zero h0]; omega
      · rw [if_neg (fun h => h0 (mem_ints_zero.1 h))] at h
        rcases hg : grow 1 (ints t) with _ | q
        · rw [hg] at h; simp at h
        · have := grow_some (p := 1) h0 (by omega) hg
          omega

/-- An array without a fault, its lengths being t. -/
structure Ok (a : Arr) (t : List Nat) : Prop where
  sh : a.sh = ints t
  good : GoodSh t
  len : a.da.length = prod t
  rune : a.ch = true → a.da.any badRune = false

theorem arrErr_ok {a : Arr} {t : List Nat} (h : Ok a t) : arrErr a = 0 := by
  unfold arrErr
  rw [h.sh, if_neg (by rw [cntErr_ints h.good]; simp), if_neg (by rw [cntVal_ints h.good, h.len]; simp)]
  rw [if_neg]
  intro hb
  simp only [Bool.and_eq_true] at hb
  have := h.rune hb.1
  rw [hb.2] at this
  cases this

theorem ok_of_arrErr {a : Arr} (h : arrErr a = 0) : ∃ t, Ok a t := by
  unfold arrErr at h
  by_cases h1 : cntErr a.sh ≠ 0
  · rw [if_pos h1] at h; exact absurd h h1
  · rw [if_neg h1] at h
    obtain ⟨t, ht, hg⟩ := cntErr_zero (by simpa using h1)
    by_cases h2 : (a.da.length : Int) ≠ cntVal a.sh
    · rw [if_pos h2] at h; omega
    · rw [if_neg h2] at h
      have h2' : (a.da.length : Int) = cntVal a.sh := by simpa using h2
      rw [ht, cntVal_ints hg] at h2'
      refine ⟨t, ht, hg, by omega, fun hc => ?_⟩
      by_cases h3 : a.da.any badRune = true
      · rw [if_pos (by simp [hc, h3])] at h; omega
      · simpa using h3

theorem ints_inj : ∀ {s t : List Nat}, ints s = ints t → s = t
  | [], [], _ => rfl
  | n :: s, m :: t, h => by
    simp only [ints, List.map_cons, List.cons.injEq] at h
    rw [ints_inj (s := s) (t := t) h.2]
    have : n = m := by omega
    rw [this]
  | [], _ :: _, h => by simp [ints] at h
  | _ :: _, [], h => by simp [ints] at h

/-- The lengths as numbers from 0 on. -/
def Arr.nsh (a : Arr) : List Nat := a.sh.map Int.toNat

theorem toNat_ints (s : List Nat) : (ints s).map Int.toNat = s := by
  induction s with
  | nil => rfl
  | cons n s ih => simp only [ints, List.map_cons] at ih ⊢; rw [ih]; simp

theorem Ok.nsh_eq {a : Arr} {t : List Nat} (h : Ok a t) : a.nsh = t := by
  unfold Arr.nsh; rw [h.sh, toNat_ints]

/-- The cell at some indices. -/
def Arr.cell (a : Arr) (ix : List Nat) : Int := a.da.getD (place a.nsh ix) 0

/-- An array laid out by a function of the indices. -/
def tab (c : Bool) (s : List Nat) (g : List Nat → Int) : Arr := ⟨c, ints s, (List.range (prod s)).map fun p => g (coords s p)⟩

theorem tab_len (c : Bool) (s : List Nat) (g : List Nat → Int) : (tab c s g).da.length = prod s := by simp [tab]

theorem tab_congr {c : Bool} {s : List Nat} {g g' : List Nat → Int} (h : ∀ ix, Inside s ix → g ix = g' ix) : tab c s g = tab c s g' := by
  unfold tab
  congr 1
  apply List.map_congr_left
  intro p hp
  exact h _ (coords_inside (by simpa using hp))

theorem Ok.eq_tab {a : Arr} {t : List Nat} (h : Ok a t) : a = tab a.ch t a.cell := by
  obtain ⟨c, s, d⟩ := a
  unfold tab
  have hs := h.sh
  have hl := h.len
  simp only at hs hl
  subst hs
  congr 1
  apply List.ext_getElem?
  intro p
  by_cases hp : p < prod t
  · have hn := h.nsh_eq
    simp only [List.getElem?_map, List.getElem?_range hp, Option.map_some, Arr.cell, hn, place_coords hp, List.getD_eq_getElem?_getD]
    rw [List.getElem?_eq_getElem (by omega)]
    simp
  · rw [List.getElem?_eq_none (by omega), List.getElem?_eq_none (by simp; omega)]

/-- What makes an array the one that is laid out. -/
theorem eq_tab {a : Arr} {c : Bool} {s : List Nat} {g : List Nat → Int} (hc : a.ch = c) (hs : a.sh = ints s) (hl : a.da.length = prod s)
    (hg : ∀ ix, Inside s ix → a.da[place s ix]? = some (g ix)) : a = tab c s g := by
  obtain ⟨c', s', d⟩ := a
  simp only at hc hs hl hg
  subst hc hs
  unfold tab
  congr 1
  apply List.ext_getElem?
  intro p
  by_cases hp : p < prod s
  · have h1 := hg _ (coords_inside hp)
    rw [place_coords hp] at h1
    simp [List.getElem?_range hp, h1]
  · rw [List.getElem?_eq_none (by omega), List.getElem?_eq_none (by simp; omega)]

/-- Arrays of one shape are the same if all their cells are. -/
theorem Ok.ext {a b : Arr} {t : List Nat} (ha : Ok a t) (hb : Ok b t) (hc : a.ch = b.ch) (h : ∀ ix, Inside t ix → a.cell ix = b.cell ix) : a = b := by
  rw [ha.eq_tab, hb.eq_tab, hc]
  exact tab_congr h

theorem any_bad_iff {d : List Int} : d.any badRune = false ↔ ∀ c ∈ d, badRune c = false := by simp

/-- An array laid out is without a fault, if its shape is and its cells may be. -/
theorem ok_tab {c : Bool} {s : List Nat} {g : List Nat → Int} (hs : GoodSh s) (hr : c = true → ∀ ix, Inside s ix → badRune (g ix) = false) : Ok (tab c s g) s := by
  refine ⟨rfl, hs, tab_len _ _ _, fun hc => ?_⟩
  rw [any_bad_iff]
  intro x hx
  simp only [tab, List.mem_map, List.mem_range] at hx
  obtain ⟨p, hp, rfl⟩ := hx
  exact hr hc _ (coords_inside hp)

theorem Ok.rune_cell {a : Arr} {t : List Nat} (h : Ok a t) (hc : a.ch = true) {ix : List Nat} (hi : Inside t ix) : badRune (a.cell ix) = false := by
  have h1 := any_bad_iff.1 (h.rune hc)
  unfold Arr.cell
  rw [h.nsh_eq]
  have hl := place_lt hi
  rw [← h.len] at hl
  rw [List.getD_eq_getElem?_getD, List.getElem?_eq_getElem hl]
  exact h1 _ (by simp)

end Go.Proofs.YtihndbkaoejnnaaGreatDoor.P

namespace Go.Proofs.YtihndbkaoejnnaaGreatDoor.P

/-- How many cells lie ahead of an axis, and behind it. -/
def outerOf (s : List Nat) (k : Nat) : Nat := prod (s.take k)
def innerOf (s : List Nat) (k : Nat) : Nat := prod (s.drop (k + 1))

theorem prod_axis {s : List Nat} {k : Nat} (hk : k < s.length) : prod s = outerOf s k * s.getD k 0 * innerOf s k := by
  have h : s = s.take k ++ s[k] :: s.drop (k + 1) := by simp
  conv => lhs; rw [h]
  rw [prod_append, prod, Nat.mul_assoc]
  simp [outerOf, innerOf, List.getD_eq_getElem?_getD, hk]

theorem getD_set {ix : List Nat} {k x : Nat} (hk : k < ix.length) : (ix.set k x).getD k 0 = x := by simp [List.getD_eq_getElem?_getD, hk]
/-! ### Reversed, moved round -/

end Go.Proofs.YtihndbkaoejnnaaGreatDoor.P

namespace Go.Proofs.YtihndbkaoejnnaaGreatDoor.P

/-- The numbers from 0 on, each once. -/
def Perm (p : List Nat) : Prop := p.Nodup ∧ ∀ x ∈ p, x < p.length

/-- One by another one; turned round; not at all. -/
def aft (p q : List Nat) : List Nat := q.map fun j => p.getD j 0
def inv (p : List Nat) : List Nat := (List.range p.length).map fun k => p.idxOf k
def idn (n : Nat) : List Nat := List.range n

theorem aft_length (p q : List Nat) : (aft p q).length = q.length := by simp [aft]
theorem inv_length (p : List Nat) : (inv p).length = p.length := by simp [inv]
theorem idn_length (n : Nat) : (idn n).length = n := by simp [idn]
theorem getD_lt {p : List Nat} {k : Nat} (h : k < p.length) : p.getD k 0 = p[k] := by simp [List.getD_eq_getElem?_getD, h]
theorem Perm.lt {p : List Nat} (h : Perm p) {k : Nat} (hk : k < p.length) : p.getD k 0 < p.length := by
  rw [getD_lt hk]
  exact h.2 _ (List.getElem_mem hk)
theorem Perm.inj {p : List Nat} (h : Perm p) {i j : Nat} (hi : i < p.length) (hj : j < p.length) (e : p.getD i 0 = p.getD j 0) : i = j := by
  rw [getD_lt hi, getD_lt hj] at e
  exact (List.getElem_inj h.1).1 e

theorem perm_all {p : List Nat} (h : Perm p) {k : Nat} (hk : k < p.length) : k ∈ p := by
  apply Classical.byContradiction
  intro hn
  have hs : (k :: p) ⊆ List.range p.length := fun x hx => by
    rcases List.mem_cons.1 hx with e | e
    · rw [e]; simpa using hk
    · simpa using h.2 x e
  have := List.Nodup.length_le_of_subset (List.nodup_cons.2 ⟨hn, h.1⟩) hs
  simp at this
  omega
theorem perm_range {p : List Nat} (h : Perm p) : p.Perm (List.range p.length) :=
  (List.perm_ext_iff_of_nodup h.1 List.nodup_range).2 fun a => ⟨fun ha => by simpa using h.2 a ha, fun ha => perm_all h (by simpa using ha)⟩

theorem getD_aft {p q : List Nat} {k : Nat} (hk : k < q.length) : (aft p q).getD k 0 = p.getD (q.getD k 0) 0 := by
  simp [aft, List.getD_eq_getElem?_getD, hk]
theorem getD_inv {p : List Nat} {k : Nat} (hk : k < p.length) : (inv p).getD k 0 = p.idxOf k := by
  simp [inv, List.getD_eq_getElem?_getD, hk]
theorem getD_idn {n k : Nat} (hk : k < n) : (idn n).getD k 0 = k := by
  simp [idn, List.getD_eq_getElem?_getD, hk]

theorem idx_lt {p : List Nat} (h : Perm p) {k : Nat} (hk : k < p.length) : p.idxOf k < p.length := List.idxOf_lt_length_of_mem (perm_all h hk)
theorem idx_get {p : List Nat} (h : Perm p) {k : Nat} (hk : k < p.length) : p.getD (p.idxOf k) 0 = k := by
  rw [getD_lt (idx_lt h hk)]
  exact List.getElem_idxOf (idx_lt h hk)
theorem idx_of {p : List Nat} (h : Perm p) {k : Nat} (hk : k < p.length) : p.idxOf (p.getD k 0) = k :=
  h.inj (idx_lt h (h.lt hk)) hk (idx_get h (h.lt hk))

theorem ext_getD {p q : List Nat} (hl : p.length = q.length) (h : ∀ k, k < p.length → p.getD k 0 = q.getD k 0) : p = q := by
  apply List.ext_getElem hl
  intro k h1 h2
  have := h k h1
  rwa [getD_lt h1, getD_lt h2] at this

theorem perm_of {p : List Nat} (h1 : ∀ k, k < p.length → p.getD k 0 < p.length) (h2 : ∀ i j, i < p.length → j < p.length → p.getD i 0 = p.getD j 0 → i = j) : Perm p := by
  constructor
  · rw [List.nodup_iff_pairwise_ne, List.pairwise_iff_getElem]
    intro i j hi hj hij e
    have := h2 i j hi hj (by rw [getD_lt hi, getD_lt hj, e])
    omega
  · intro x hx
    obtain ⟨k, hk, rfl⟩ := List.getElem_of_mem hx
    have := h1 k hk
    rwa [getD_lt hk] at this

theorem inv_perm {p : List Nat} (hp : Perm p) : Perm (inv p) := by
  apply perm_of
  · intro k hk
    rw [inv_length] at hk ⊢
    rw [getD_inv hk]
    exact idx_lt hp hk
  · intro i j hi hj e
    rw [inv_length] at hi hj
    rw [getD_inv hi, getD_inv hj] at e
    rw [← idx_get hp hi, ← idx_get hp hj, e]

theorem aft_assoc {p q r : List Nat} (hr : ∀ k, k < r.length → r.getD k 0 < q.length) : aft (aft p q) r = aft p (aft q r) := by
  apply ext_getD (by simp [aft_length])
  intro k hk
  rw [aft_length] at hk
  rw [getD_aft hk, getD_aft (hr k hk), getD_aft (by rw [aft_length]; exact hk), getD_aft hk]
theorem aft_inv_right {p : List Nat} (hp : Perm p) : aft p (inv p) = idn p.length := by
  apply ext_getD (by simp [aft_length, inv_length, idn_length])
  intro k hk
  rw [aft_length, inv_length] at hk
  rw [getD_aft (by rw [inv_length]; exact hk), getD_inv hk, idx_get hp hk, getD_idn hk]
theorem aft_idn_right (p : List Nat) : aft p (idn p.length) = p := by
  apply ext_getD (by simp [aft_length, idn_length])
  intro k hk
  rw [aft_length, idn_length] at hk
  rw [getD_aft (by rw [idn_length]; exact hk), getD_idn hk]
/-- A list of numbers that is an order. -/
def IsOrder (p : List Int) : Prop := p.Nodup ∧ ∀ x ∈ p, 0 ≤ x ∧ x < (p.length : Int)
instance (p : List Int) : Decidable (IsOrder p) := inferInstanceAs (Decidable (_ ∧ _))

/-- Which numbers have been seen, bit by bit. -/
def Seen (S : List Nat) (l : List Nat) : Prop := S.length = 65 ∧ (∀ k, k < 65 → S.getD k 0 < 18446744073709551616) ∧ ∀ i, i < 4160 → (S.getD (i / 64) 0).testBit (i % 64) = decide (i ∈ l)
theorem Seen.nil : Seen (List.replicate 65 0) [] := by
  refine ⟨by simp, fun k hk => ?_, fun i hi => ?_⟩
  · rw [List.getD_eq_getElem?_getD, List.getElem?_replicate, if_pos hk]; simp
  · rw [List.getD_eq_getElem?_getD, List.getElem?_replicate, if_pos (by omega)]; simp
theorem Seen.add {S : List Nat} {l : List Nat} (h : Seen S l) {i : Nat} (hi : i < 4160) : Seen (S.set (i / 64) (S.getD (i / 64) 0 ||| 2 ^ (i % 64))) (l ++ [i]) := by
  obtain ⟨h1, h2, h3⟩ := h
  have hp : 2 ^ (i % 64) < 2 ^ 64 := Nat.pow_lt_pow_right (by omega) (by omega)
  have hlt : S.getD (i / 64) 0 ||| 2 ^ (i % 64) < 2 ^ 64 := Nat.or_lt_two_pow (h2 _ (by omega)) hp
  refine ⟨by simp [h1], fun k hk => ?_, fun j hj => ?_⟩
  · rw [List.getD_eq_getElem?_getD, List.getElem?_set]
    by_cases e : i / 64 = k
    · rw [if_pos e, if_pos (by omega)]
      simpa using hlt
    · rw [if_neg e, ← List.getD_eq_getElem?_getD]
      exact h2 k hk
  · rw [List.getD_eq_getElem?_getD, List.getElem?_set]
    by_cases e : i / 64 = j / 64
    · rw [if_pos e, if_pos (by omega), Option.getD_some, Nat.testBit_or, Nat.testBit_two_pow]
      rw [e, h3 j hj]
      by_cases e2 : i = j
      · subst e2; simp
      · have : i % 64 ≠ j % 64 := by omega
        simp [this, Ne.symm e2]
    · rw [if_neg e, ← List.getD_eq_getElem?_getD, h3 j hj]
      have : j ≠ i := by omega
      simp [this]

end Go.Proofs.YtihndbkaoejnnaaGreatDoor.P

namespace Go.Proofs.YtihndbkaoejnnaaGreatDoor.P

/-- The first k of these indices are those of a cell. -/
def WinIn (t : List Nat) (js : List Int) (k : Nat) : Prop := ∀ m, m < k → 0 ≤ js.getD m 0 ∧ js.getD m 0 < (t.getD m 0 : Int)
instance (t : List Nat) (js : List Int) (k : Nat) : Decidable (WinIn t js k) := inferInstanceAs (Decidable (∀ m, m < k → _))
theorem WinIn.zero (t : List Nat) (js : List Int) : WinIn t js 0 := fun m h => by omega
/-- Some of an axis. -/
def part (k lo len : Nat) (a : Arr) : Arr := tab a.ch (a.nsh.set k len) fun ix => a.cell (ix.set k (ix.getD k 0 + lo))

end Go.Proofs.YtihndbkaoejnnaaGreatDoor.P

namespace Go.Proofs.YtihndbkaoejnnaaGreatDoor.P

/-- Only zeros and ones. -/
def Mask (m : List Int) : Prop := ∀ x ∈ m, x = 0 ∨ x = 1
instance (m : List Int) : Decidable (Mask m) := inferInstanceAs (Decidable (∀ x ∈ m, x = 0 ∨ x = 1))
def others (m : List Int) : List Int := m.map fun x => 1 - x
end Go.Proofs.YtihndbkaoejnnaaGreatDoor.P

namespace Go.Proofs.YtihndbkaoejnnaaGreatDoor.P

/-- Does an array have a cell? -/
def hasB (b : Arr) (c : Bool) (x : Int) : Bool := decide (x ∈ b.da) && decide (c = b.ch)
/-- Where a cell is first. -/
def findN (a : Arr) (c : Bool) (x : Int) : Nat := if hasB a c x then a.da.idxOf x else a.da.length
def index (a b : Arr) : Arr := ⟨false, b.sh, b.da.map fun x => ((findN a b.ch x : Nat) : Int)⟩
end Go.Proofs.YtihndbkaoejnnaaGreatDoor.P

namespace Go.Proofs.YtihndbkaoejnnaaGreatDoor.P

/-- The rune of a function's sign. -/
def glyphR (f : Int) : Int := if f = 1 then 43 else if f = 2 then 45 else if f = 3 then 215 else if f = 4 then 247 else if f = 5 then 124 else if f = 6 then 8968 else if f = 7 then 8970 else if f = 8 then 61 else if f = 9 then 8800 else if f = 10 then 60 else if f = 11 then 8804 else if f = 12 then 8805 else if f = 13 then 62 else if f = 14 then 8743 else if f = 15 then 8744 else if f = 16 then 42 else if f = 17 then 126 else if f = 18 then 9076 else if f = 19 then 44 else if f = 20 then 9021 else if f = 21 then 9033 else if f = 22 then 8593 else if f = 23 then 8595 else if f = 24 then 9075 else if f = 25 then 8714 else if f = 26 then 9035 else if f = 27 then 9042 else if f = 28 then 8746 else if f = 29 then 8745 else if f = 30 then 8869 else if f = 31 then 8868 else if f = 32 then 8801 else if f = 33 then 47 else if f = 34 then 92 else 0
/-- The rune of a sign of a kind. -/
def signR (f : Int) : Int := if f = 5 then 40 else if f = 6 then 41 else if f = 7 then 91 else if f = 8 then 93 else if f = 9 then 59 else if f = 10 then 8592 else if f = 11 then 8728 else if f = 12 then 46 else if f = 13 then 9064 else if f = 14 then 123 else if f = 15 then 125 else if f = 16 then 58 else if f = 17 then 8900 else if f = 18 then 9082 else if f = 19 then 9077 else if f = 20 then 8711 else 0
def digB (x : Int) : Bool := decide (48 ≤ x) && decide (x ≤ 57)
def letB (x : Int) : Bool := (decide (97 ≤ x) && decide (x ≤ 122)) || (decide (65 ≤ x) && decide (x ≤ 90))
def inB (x : Int) : Bool := letB x || digB x || decide (x = 95)
def spB (x : Int) : Bool := decide (x = 32)
theorem digB_yes {x : Int} (h1 : 48 ≤ x) (h2 : x ≤ 57) : digB x = true := by simp [digB, h1, h2]
theorem digB_lo {x : Int} (h1 : ¬ 48 ≤ x) : digB x = false := by simp [digB, h1]
theorem digB_hi {x : Int} (h1 : ¬ x ≤ 57) : digB x = false := by simp [digB, h1]

/-- The first function whose sign is this rune. -/
def FnOf (c F : Int) : Prop := 1 ≤ F ∧ F ≤ 34 ∧ glyphR F = c ∧ ∀ j, 1 ≤ j → j < F → glyphR j ≠ c
def NoFn (c : Int) : Prop := ∀ j, 1 ≤ j → j ≤ 34 → glyphR j ≠ c
/-- The first kind whose sign is this rune. -/
def SignOf (c K : Int) : Prop := 5 ≤ K ∧ K ≤ 20 ∧ signR K = c ∧ ∀ j, 5 ≤ j → j < K → signR j ≠ c

theorem below_nat {m n : Nat} {p : Int → Prop} (h : ∀ j : Nat, j < n → p ((m : Int) + j)) : ∀ j : Int, (m : Int) ≤ j → j < (m : Int) + n → p j := by
  intro j h1 h2
  have := h (j - m).toNat (by omega)
  rwa [show (m : Int) + ((j - m).toNat : Int) = j by omega] at this
end Go.Proofs.YtihndbkaoejnnaaGreatDoor.P

namespace Go.Proofs.YtihndbkaoejnnaaGreatDoor.P

theorem ints_getD {s : List Nat} {k : Nat} {x : Int} (h : (ints s)[k]? = some x) : x = (s.getD k 0 : Nat) ∧ k < s.length := by
  rw [getElem?_ints, Option.map_eq_some_iff] at h
  obtain ⟨n, hn, rfl⟩ := h
  have := (List.getElem?_eq_some_iff.1 hn).1
  exact ⟨by rw [List.getD_eq_getElem?_getD, hn]; rfl, this⟩
theorem ints_get {s : List Nat} {k : Nat} (h : k < s.length) : (ints s)[k]? = some ((s.getD k 0 : Nat) : Int) := by
  rw [getElem?_ints, List.getD_eq_getElem?_getD, List.getElem?_eq_getElem h]
  rfl
end Go.Proofs.YtihndbkaoejnnaaGreatDoor.P

namespace Go.Proofs.YtihndbkaoejnnaaGreatDoor.P

/-- The place as a sum over the axes. -/
def placeTerms (s a : List Nat) : List Nat := (List.range s.length).map fun k => a.getD k 0 * innerOf s k
theorem place_sum : ∀ {s a : List Nat}, a.length = s.length → place s a = (placeTerms s a).sum
  | [], [], _ => rfl
  | n :: s, i :: a, h => by
    have ih := place_sum (s := s) (a := a) (by simpa using h)
    unfold placeTerms at ih ⊢
    rw [List.length_cons, List.range_succ_eq_map, List.map_cons, List.sum_cons, List.map_map]
    simp only [place, ih]
    congr 1
  | [], _ :: _, h => by simp at h
  | _ :: _, [], h => by simp at h

theorem sum_perm {l m : List Nat} (h : l.Perm m) : l.sum = m.sum := by
  induction h with
  | nil => rfl
  | cons x _ ih => simp only [List.sum_cons, ih]
  | swap x y l => simp only [List.sum_cons]; omega
  | trans _ _ h1 h2 => rw [h1, h2]
theorem prod_perm {l m : List Nat} (h : l.Perm m) : prod l = prod m := by
  induction h with
  | nil => rfl
  | cons x _ ih => simp only [prod, ih]
  | swap x y l => simp only [prod]; rw [← Nat.mul_assoc, ← Nat.mul_assoc, Nat.mul_comm y x]
  | trans _ _ h1 h2 => rw [h1, h2]

theorem map_getD_range (t : List Nat) : (List.range t.length).map (fun k => t.getD k 0) = t := by
  apply ext_getD (by simp)
  intro k hk
  simp only [List.length_map, List.length_range] at hk
  simp [List.getD_eq_getElem?_getD, hk]

theorem aft_of_perm {t q : List Nat} (hq : Perm q) (hl : q.length = t.length) : (aft t q).Perm t := by
  have h := (perm_range hq).map (fun k => t.getD k 0)
  rw [hl, map_getD_range] at h
  exact h

/-- The lengths of it with its axes in another order. -/
def flipSh (q t : List Nat) : List Nat := aft t (inv q)
theorem flipSh_length (q t : List Nat) : (flipSh q t).length = q.length := by rw [flipSh, aft_length, inv_length]
theorem flipSh_perm {q t : List Nat} (hq : Perm q) (hl : q.length = t.length) : (flipSh q t).Perm t := aft_of_perm (inv_perm hq) (by rw [inv_length]; exact hl)
theorem flipSh_at {q t : List Nat} (hq : Perm q) {k : Nat} (hk : k < q.length) : (flipSh q t).getD (q.getD k 0) 0 = t.getD k 0 := by
  rw [flipSh, getD_aft (by rw [inv_length]; exact hq.lt hk), getD_inv (hq.lt hk), idx_of hq hk]
theorem flipSh_good {q t : List Nat} (hq : Perm q) (hl : q.length = t.length) (h : GoodSh t) : GoodSh (flipSh q t) := by
  refine ⟨by rw [flipSh_length, hl]; exact h.1, fun n hn => h.2.1 n ((flipSh_perm hq hl).mem_iff.1 hn), ?_⟩
  rw [prod_perm (flipSh_perm hq hl)]
  exact h.2.2

def flip (q : List Nat) (a : Arr) : Arr := tab a.ch (flipSh q a.nsh) fun ix => a.cell (aft ix q)

theorem aft_inside {q t ix : List Nat} (hq : Perm q) (hl : q.length = t.length) (h : Inside (flipSh q t) ix) : Inside t (aft ix q) := by
  obtain ⟨h1, h2⟩ := inside_iff.1 h
  rw [inside_iff]
  refine ⟨by rw [aft_length, hl], fun k hk => ?_⟩
  have hk' : k < q.length := by omega
  have h3 := h2 (q.getD k 0) (by rw [flipSh_length]; exact hq.lt hk')
  rw [flipSh_at hq hk'] at h3
  rw [getD_aft hk']
  exact h3
theorem inside_flip {q t ix : List Nat} (hq : Perm q) (hl : q.length = t.length) (h : Inside t ix) : Inside (flipSh q t) (aft ix (inv q)) := by
  obtain ⟨h1, h2⟩ := inside_iff.1 h
  rw [inside_iff]
  refine ⟨by rw [aft_length, inv_length, flipSh_length], fun k hk => ?_⟩
  rw [flipSh_length] at hk
  rw [flipSh, getD_aft (by rw [inv_length]; exact hk), getD_aft (by rw [inv_length]; exact hk)]
  exact h2 _ (by rw [getD_inv hk, ← hl]; exact idx_lt hq hk)

theorem flip_ok {a : Arr} {t q : List Nat} (h : Ok a t) (hq : Perm q) (hl : q.length = t.length) : Ok (flip q a) (flipSh q t) := by
  unfold flip
  rw [h.nsh_eq]
  exact ok_tab (flipSh_good hq hl h.good) fun hc ix hi => h.rune_cell hc (aft_inside hq hl hi)

theorem aft_back {ix q : List Nat} (hq : Perm q) (hl : ix.length = q.length) : aft (aft ix (inv q)) q = ix := by
  rw [aft_assoc (fun k hk => by rw [inv_length]; exact hq.lt hk)]
  have : aft (inv q) q = idn q.length := by
    apply ext_getD (by rw [aft_length, idn_length])
    intro k hk
    rw [aft_length] at hk
    rw [getD_aft hk, getD_inv (hq.lt hk), idx_of hq hk, getD_idn hk]
  rw [this, ← hl, aft_idn_right]
theorem aft_forth {ix q : List Nat} (hq : Perm q) (hl : ix.length = q.length) : aft (aft ix q) (inv q) = ix := by
  rw [aft_assoc (fun k hk => by rw [inv_length] at hk; rw [getD_inv hk]; exact idx_lt hq hk), aft_inv_right hq, ← hl, aft_idn_right]
/-- Where the p-th cell goes. -/
def flipTo (q t : List Nat) (p : Nat) : Nat := place (flipSh q t) (aft (coords t p) (inv q))
theorem flipTo_lt {q t : List Nat} (hq : Perm q) (hl : q.length = t.length) {p : Nat} (hp : p < prod t) : flipTo q t p < prod t := by
  have := place_lt (inside_flip hq hl (coords_inside hp))
  rwa [prod_perm (flipSh_perm hq hl)] at this
theorem flipTo_inj {q t : List Nat} (hq : Perm q) (hl : q.length = t.length) {i j : Nat} (hi : i < prod t) (hj : j < prod t) (e : flipTo q t i = flipTo q t j) : i = j := by
  have h := place_inj (inside_flip hq hl (coords_inside hi)) (inside_flip hq hl (coords_inside hj)) e
  have h2 : aft (aft (coords t i) (inv q)) q = aft (aft (coords t j) (inv q)) q := by rw [h]
  rw [aft_back hq (by rw [length_coords]; exact hl.symm), aft_back hq (by rw [length_coords]; exact hl.symm)] at h2
  rw [← place_coords hi, ← place_coords hj, h2]

/-- The first i cells lie where they go. -/
def Filled (q t : List Nat) (d : List Int) (i : Nat) (D : List Int) : Prop := D.length = prod t ∧ ∀ j, j < i → D[flipTo q t j]? = d[j]?
theorem Filled.zero (q t : List Nat) (d : List Int) : Filled q t d 0 (List.replicate (prod t) 0) := ⟨by simp, fun j hj => by omega⟩
theorem Filled.step {q t : List Nat} {d D : List Int} {i : Nat} {x : Int} (hq : Perm q) (hl : q.length = t.length) (h : Filled q t d i D) (hi : i < prod t) (hx : d[i]? = some x) : Filled q t d (i + 1) (D.set (flipTo q t i) x) := by
  refine ⟨by rw [List.length_set]; exact h.1, fun j hj => ?_⟩
  rw [List.getElem?_set]
  by_cases e : flipTo q t i = flipTo q t j
  · have := flipTo_inj hq hl hi (by omega) e
    subst this
    rw [if_pos rfl, if_pos (by rw [h.1]; exact flipTo_lt hq hl hi), hx]
  · rw [if_neg e]
    exact h.2 j (by
      have : j ≠ i := fun e2 => e (by rw [e2])
      omega)
theorem Filled.all {a : Arr} {q t : List Nat} {D : List Int} (ha : Ok a t) (hq : Perm q) (hl : q.length = t.length) (h : Filled q t a.da (prod t) D) : (⟨a.ch, ints (flipSh q t), D⟩ : Arr) = flip q a := by
  unfold flip
  rw [ha.nsh_eq]
  refine eq_tab rfl rfl (by rw [prod_perm (flipSh_perm hq hl)]; exact h.1) fun ix hi => ?_
  have hin := aft_inside hq hl hi
  have hlt := place_lt hin
  have := h.2 (place t (aft ix q)) hlt
  unfold flipTo at this
  rw [coords_place hin, aft_forth hq (by rw [inside_length hi, flipSh_length])] at this
  simp only
  rw [this]
  unfold Arr.cell
  rw [ha.nsh_eq, List.getD_eq_getElem?_getD, List.getElem?_eq_getElem (by rw [ha.len]; exact hlt)]
  rfl

/-- The sum so far. -/
def flipSum (q t ix : List Nat) (k : Nat) : Nat := ((List.range k).map fun j => ix.getD j 0 * innerOf (flipSh q t) (q.getD j 0)).sum
theorem flipSum_succ (q t ix : List Nat) (k : Nat) : flipSum q t ix (k + 1) = flipSum q t ix k + ix.getD k 0 * innerOf (flipSh q t) (q.getD k 0) := by
  unfold flipSum
  rw [List.range_succ, List.map_append, List.sum_append]
  simp
theorem flipSum_all {q t ix : List Nat} (hq : Perm q) (hl : q.length = t.length) (h : Inside t ix) : flipSum q t ix t.length = place (flipSh q t) (aft ix (inv q)) := by
  rw [place_sum (by rw [aft_length, inv_length, flipSh_length])]
  unfold flipSum placeTerms
  rw [flipSh_length]
  have hp := (perm_range hq).symm.map (fun k => (aft ix (inv q)).getD k 0 * innerOf (flipSh q t) k)
  rw [sum_perm hp]
  have e : q = (List.range q.length).map fun k => q.getD k 0 := (map_getD_range q).symm
  conv => rhs; rw [e]
  rw [List.map_map, ← hl]
  congr 1
  apply List.map_congr_left
  intro k hk
  have hk' : k < q.length := by simpa using hk
  simp only [Function.comp]
  rw [← e, getD_aft (by rw [inv_length]; exact hq.lt hk'), getD_inv (hq.lt hk'), idx_of hq hk']
theorem flipSum_lt {q t ix : List Nat} (hq : Perm q) (hl : q.length = t.length) (h : Inside t ix) {k : Nat} (hk : k ≤ t.length) : flipSum q t ix k < prod t := by
  have h1 : flipSum q t ix k ≤ flipSum q t ix t.length := by
    have hs : ∀ d, flipSum q t ix k ≤ flipSum q t ix (k + d) := by
      intro d
      induction d with
      | zero => exact Nat.le_refl _
      | succ d ih => rw [← Nat.add_assoc, flipSum_succ]; omega
    have := hs (t.length - k)
    rwa [show k + (t.length - k) = t.length by omega] at this
  rw [flipSum_all hq hl h] at h1
  have := place_lt (inside_flip hq hl h)
  rw [prod_perm (flipSh_perm hq hl)] at this
  omega

end Go.Proofs.YtihndbkaoejnnaaGreatDoor.P

namespace Go.Proofs.YtihndbkaoejnnaaGreatDoor.P

theorem next_true {n i : Nat} {s a : List Nat} (h : (next s a).2 = true) : next (n :: s) (i :: a) = if i + 1 < n then ((i + 1) :: (next s a).1, false) else (0 :: (next s a).1, true) := by
  rw [next, if_pos h]
theorem next_false {n i : Nat} {s a : List Nat} (h : (next s a).2 = false) : next (n :: s) (i :: a) = (i :: (next s a).1, false) := by
  rw [next, if_neg (by rw [h]; simp)]
theorem next_ahead : ∀ {s1 a1 s2 a2 : List Nat}, a1.length = s1.length → (next s2 a2).2 = false → next (s1 ++ s2) (a1 ++ a2) = (a1 ++ (next s2 a2).1, false)
  | [], [], s2, a2, _, h => by
    simp only [List.nil_append]
    exact Prod.ext rfl h
  | n :: s1, i :: a1, s2, a2, hl, h => by
    have ih := next_ahead (s1 := s1) (a1 := a1) (by simpa using hl) h
    simp only [List.cons_append]
    rw [next_false (by rw [ih]), ih]
  | [], _ :: _, _, _, h, _ => by simp at h
  | _ :: _, [], _, _, h, _ => by simp at h

/-- Behind the first k axes it has come round. -/
def Odo (t ix : List Nat) (k : Nat) (b : List Nat) : Prop := b = ix.take k ++ List.replicate (t.length - k) 0 ∧ (next (t.drop k) (ix.drop k)).2 = true

theorem inside_drop : ∀ {t ix : List Nat} (k : Nat), Inside t ix → Inside (t.drop k) (ix.drop k)
  | t, ix, 0, h => by simpa using h
  | n :: t, i :: ix, k + 1, h => by simpa using inside_drop k h.2
  | [], [], k + 1, _ => by simp [Inside]
  | [], _ :: _, _ + 1, h => h.elim
  | _ :: _, [], _ + 1, h => h.elim

theorem Odo.start {t ix : List Nat} (h : Inside t ix) : Odo t ix t.length ix := by
  have hl := inside_length h
  refine ⟨?_, ?_⟩
  · rw [Nat.sub_self, ← hl]; simp
  · rw [List.drop_length, ← hl, List.drop_length]; rfl

theorem Odo.length {t ix b : List Nat} {k : Nat} (h : Inside t ix) (ho : Odo t ix k b) (hk : k ≤ t.length) : b.length = t.length := by
  have hl := inside_length h
  rw [ho.1]; simp; omega

theorem Odo.get {t ix b : List Nat} {k : Nat} (h : Inside t ix) (ho : Odo t ix (k + 1) b) (hk : k < t.length) : b[k]? = some (ix.getD k 0) := by
  have hl := inside_length h
  rw [ho.1, List.getElem?_append_left (by simp; omega), List.getElem?_take]
  simp [List.getD_eq_getElem?_getD, show k < ix.length by omega]

theorem odo_set {t ix b : List Nat} {k x : Nat} (hl : ix.length = t.length) (hk : k < t.length) (hb : b = ix.take (k + 1) ++ List.replicate (t.length - (k + 1)) 0) :
    b.set k x = ix.take k ++ x :: List.replicate (t.length - (k + 1)) 0 := by
  subst hb
  rw [List.set_append_left _ _ (by simp; omega), List.take_add_one, List.getElem?_eq_getElem (show k < ix.length by omega)]
  rw [List.set_append_right _ _ (by rw [List.length_take]; omega)]
  simp [show min k ix.length = k by omega]

theorem Odo.step {t ix b : List Nat} {k : Nat} (h : Inside t ix) (ho : Odo t ix (k + 1) b) (hk : k < t.length) (hi : t.getD k 0 ≤ ix.getD k 0 + 1) : Odo t ix k (b.set k 0) := by
  have hl := inside_length h
  have hk' : k < ix.length := by omega
  refine ⟨?_, ?_⟩
  · rw [odo_set hl hk ho.1]
    have e : t.length - k = (t.length - (k + 1)) + 1 := by omega
    rw [e, List.replicate_succ]
  · rw [List.drop_eq_getElem_cons hk, List.drop_eq_getElem_cons hk', next_true ho.2, if_neg]
    simp only [List.getD_eq_getElem?_getD, List.getElem?_eq_getElem hk, List.getElem?_eq_getElem hk', Option.getD_some] at hi
    omega

theorem Odo.done {t ix b : List Nat} {k : Nat} (h : Inside t ix) (ho : Odo t ix (k + 1) b) (hk : k < t.length) (hi : ix.getD k 0 + 1 < t.getD k 0) : (next t ix).1 = b.set k (ix.getD k 0 + 1) := by
  have hl := inside_length h
  have hk' : k < ix.length := by omega
  have hin := inside_drop (k + 1) h
  have hr := ((next_spec hin).1 ho.2).2
  have e1 : t = t.take k ++ t[k] :: t.drop (k + 1) := by simp
  have e2 : ix = ix.take k ++ ix[k] :: ix.drop (k + 1) := by simp
  simp only [List.getD_eq_getElem?_getD, List.getElem?_eq_getElem hk, List.getElem?_eq_getElem hk', Option.getD_some] at hi ⊢
  have hn := next_true (n := t[k]) (i := ix[k]) ho.2
  rw [if_pos hi] at hn
  have ha := next_ahead (s1 := t.take k) (a1 := ix.take k) (s2 := t[k] :: t.drop (k + 1)) (a2 := ix[k] :: ix.drop (k + 1)) (by simp; omega) (by rw [hn])
  rw [← e1, ← e2] at ha
  rw [ha, hn, odo_set hl hk ho.1, hr]
  simp

theorem Odo.all {t ix b : List Nat} (h : Inside t ix) (ho : Odo t ix 0 b) : place t ix + 1 = prod t := by
  have h2 := ho.2
  rw [List.drop_zero, List.drop_zero] at h2
  exact ((next_spec h).1 h2).1

/-- The indices of the p-th cell, if there is one. -/
def AtCell (t : List Nat) (p : Nat) (b : List Nat) : Prop := b.length = t.length ∧ (p < prod t → b = coords t p)
theorem AtCell.zero (t : List Nat) : AtCell t 0 (List.replicate t.length 0) := ⟨by simp, fun _ => (coords_zero t).symm⟩
theorem AtCell.last {t b : List Nat} {p : Nat} (hp : p < prod t) (ho : Odo t (coords t p) 0 b) : AtCell t (p + 1) b := by
  have h := coords_inside hp
  have e := ho.all h
  rw [place_coords hp] at e
  exact ⟨ho.length h (Nat.zero_le _), fun h => by omega⟩
theorem AtCell.next {t b : List Nat} {p k : Nat} (hp : p < prod t) (hk : k < t.length) (ho : Odo t (coords t p) (k + 1) b) (hi : (coords t p).getD k 0 + 1 < t.getD k 0) :
    AtCell t (p + 1) (b.set k ((coords t p).getD k 0 + 1)) := by
  have h := coords_inside hp
  refine ⟨by rw [List.length_set]; exact ho.length h (by omega), fun h2 => ?_⟩
  rw [← ho.done h hk hi]
  exact next_coords h2
theorem coords_lt {t : List Nat} {p k : Nat} (hp : p < prod t) (hk : k < t.length) : (coords t p).getD k 0 < t.getD k 0 := (inside_iff.1 (coords_inside hp)).2 k hk

end Go.Proofs.YtihndbkaoejnnaaGreatDoor.P
