/- Plain facts: lists sought in lists. Conditions: none. -/
import Derived.Test.YtfaojciballhnaaKeep
set_option linter.unusedSimpArgs false
set_option linter.unusedVariables false
namespace Go.Proofs.Ytfaojciballhnaa.P

/-- The cells of a list, from the i-th on, of which it is so. -/
def selFrom (q : Nat → Int → Bool) : Nat → List Int → List Int
  | _, [] => []
  | i, c :: d => if q i c then c :: selFrom q (i + 1) d else selFrom q (i + 1) d
def sel (q : Nat → Int → Bool) (d : List Int) : List Int := selFrom q 0 d

theorem selFrom_append (q : Nat → Int → Bool) : ∀ (i : Nat) (d e : List Int), selFrom q i (d ++ e) = selFrom q i d ++ selFrom q (i + d.length) e
  | i, [], e => by simp [selFrom]
  | i, c :: d, e => by
    have ih := selFrom_append q (i + 1) d e
    simp only [List.cons_append, selFrom, List.length_cons]
    rw [ih, show i + 1 + d.length = i + (d.length + 1) by omega]
    split <;> simp
theorem sel_zero (q : Nat → Int → Bool) (d : List Int) : sel q (d.take 0) = [] := by simp [sel, selFrom]
theorem sel_yes {q : Nat → Int → Bool} {d : List Int} {k : Nat} {c : Int} (h : d[k]? = some c) (hq : q k c = true) : sel q (d.take (k + 1)) = sel q (d.take k) ++ [c] := by
  have hk := (List.getElem?_eq_some_iff.1 h).1
  unfold sel
  rw [List.take_add_one, h, selFrom_append, List.length_take, Nat.zero_add, Nat.min_eq_left (by omega)]
  simp [selFrom, hq]
theorem sel_no {q : Nat → Int → Bool} {d : List Int} {k : Nat} {c : Int} (h : d[k]? = some c) (hq : q k c = false) : sel q (d.take (k + 1)) = sel q (d.take k) := by
  have hk := (List.getElem?_eq_some_iff.1 h).1
  unfold sel
  rw [List.take_add_one, h, selFrom_append, List.length_take, Nat.zero_add, Nat.min_eq_left (by omega)]
  simp [selFrom, hq]
theorem mem_selFrom {q : Nat → Int → Bool} {x : Int} : ∀ {i : Nat} {d : List Int}, x ∈ selFrom q i d ↔ ∃ k, d[k]? = some x ∧ q (i + k) x = true
  | i, [] => by simp [selFrom]
  | i, c :: d => by
    have ih := mem_selFrom (q := q) (x := x) (i := i + 1) (d := d)
    have e : (∃ k, (c :: d)[k]? = some x ∧ q (i + k) x = true) ↔ (c = x ∧ q i x = true) ∨ ∃ k, d[k]? = some x ∧ q (i + 1 + k) x = true := by
      constructor
      · rintro ⟨k, h1, h2⟩
        match k, h1, h2 with
        | 0, h1, h2 => exact .inl ⟨by simpa using h1, by simpa using h2⟩
        | k + 1, h1, h2 => exact .inr ⟨k, by simpa using h1, by rw [show i + 1 + k = i + (k + 1) by omega]; exact h2⟩
      · rintro (⟨rfl, h2⟩ | ⟨k, h1, h2⟩)
        · exact ⟨0, by simp, by simpa using h2⟩
        · exact ⟨k + 1, by simpa using h1, by rw [show i + (k + 1) = i + 1 + k by omega]; exact h2⟩
    rw [e, ← ih]
    simp only [selFrom]
    split
    · rename_i hq
      rw [List.mem_cons]
      constructor
      · rintro (rfl | h)
        · exact .inl ⟨rfl, hq⟩
        · exact .inr h
      · rintro (⟨rfl, _⟩ | h)
        · exact .inl rfl
        · exact .inr h
    · rename_i hq
      constructor
      · exact .inr
      · rintro (⟨rfl, h⟩ | h)
        · exact absurd h hq
        · exact h
theorem selFrom_all {q : Nat → Int → Bool} : ∀ {i : Nat} {d : List Int}, (∀ k c, d[k]? = some c → q (i + k) c = true) → selFrom q i d = d
  | i, [], _ => rfl
  | i, c :: d, h => by
    have h0 := h 0 c (by simp)
    rw [Nat.add_zero] at h0
    rw [selFrom, if_pos h0, selFrom_all (fun k x hk => by rw [show i + 1 + k = i + (k + 1) by omega]; exact h (k + 1) x (by simpa using hk))]
theorem selFrom_filter {p : Int → Bool} : ∀ {i : Nat} {d : List Int}, selFrom (fun _ c => p c) i d = d.filter p
  | i, [] => rfl
  | i, c :: d => by
    rw [selFrom, selFrom_filter, List.filter_cons]
theorem sel_filter (p : Int → Bool) (d : List Int) : sel (fun _ c => p c) d = d.filter p := selFrom_filter
theorem selFrom_length {q : Nat → Int → Bool} : ∀ {i : Nat} {d : List Int}, (selFrom q i d).length ≤ d.length
  | i, [] => by simp [selFrom]
  | i, c :: d => by
    have := selFrom_length (q := q) (i := i + 1) (d := d)
    simp only [selFrom, List.length_cons]
    split <;> simp <;> omega
theorem sel_length (q : Nat → Int → Bool) (d : List Int) : (sel q d).length ≤ d.length := selFrom_length
theorem mem_sel {q : Nat → Int → Bool} {x : Int} {d : List Int} (h : x ∈ sel q d) : x ∈ d := by
  obtain ⟨k, h1, _⟩ := mem_selFrom.1 h
  exact List.mem_of_getElem? h1

/-- Each cell once. -/
def firstB (d : List Int) (i : Nat) (c : Int) : Bool := decide (d.idxOf c = i)
def nubD (d : List Int) : List Int := sel (firstB d) d
theorem nub_rises (f : Int → Nat) : ∀ (i : Nat) (d : List Int), (∀ x ∈ selFrom (fun i c => decide (f c = i)) i d, i ≤ f x) ∧ ((selFrom (fun i c => decide (f c = i)) i d).map f).Pairwise (· < ·)
  | i, [] => by simp [selFrom]
  | i, c :: d => by
    obtain ⟨h1, h2⟩ := nub_rises f (i + 1) d
    simp only [selFrom]
    split
    · rename_i hq
      have hq' : f c = i := by simpa using hq
      refine ⟨fun x hx => ?_, ?_⟩
      · rcases List.mem_cons.1 hx with rfl | hx
        · omega
        · have := h1 x hx; omega
      · rw [List.map_cons, List.pairwise_cons]
        refine ⟨fun y hy => ?_, h2⟩
        obtain ⟨x, hx, rfl⟩ := List.mem_map.1 hy
        have := h1 x hx
        omega
    · exact ⟨fun x hx => by have := h1 x hx; omega, h2⟩
theorem nubD_rises (d : List Int) : ((nubD d).map d.idxOf).Pairwise (· < ·) := (nub_rises d.idxOf 0 d).2
theorem nubD_nodup (d : List Int) : (nubD d).Nodup := by
  have h := nubD_rises d
  rw [List.pairwise_map] at h
  exact h.imp fun h e => by rw [e] at h; omega
theorem idx_getElem {d : List Int} {c : Int} (h : c ∈ d) : d[d.idxOf c]? = some c := by
  have hl := List.idxOf_lt_length_of_mem h
  rw [List.getElem?_eq_getElem hl, List.getElem_idxOf]
theorem mem_nubD {d : List Int} {c : Int} : c ∈ nubD d ↔ c ∈ d := by
  constructor
  · exact mem_sel
  · intro h
    unfold nubD sel
    exact mem_selFrom.2 ⟨d.idxOf c, idx_getElem h, by simp [firstB]⟩
theorem idx_nodup {d : List Int} (h : d.Nodup) {k : Nat} {c : Int} (hk : d[k]? = some c) : d.idxOf c = k := by
  obtain ⟨hl, rfl⟩ := List.getElem?_eq_some_iff.1 hk
  exact h.idxOf_getElem k hl
theorem nubD_self {d : List Int} (h : d.Nodup) : nubD d = d := selFrom_all fun k c hk => by
  rw [Nat.zero_add]
  unfold firstB
  rw [decide_eq_true_iff]
  exact idx_nodup h hk

def vecOf (c : Bool) (d : List Int) : Arr := ⟨c, [(d.length : Int)], d⟩
theorem vec_ok {c : Bool} {d : List Int} (hl : d.length ≤ 4096) (hr : c = true → d.any badRune = false) : Ok (vecOf c d) [d.length] :=
  ⟨rfl, ⟨by simp, by simpa using hl, by simpa [prod] using hl⟩, by simp [prod, vecOf], hr⟩
theorem vec_sub_ok {a : Arr} {t : List Nat} {d : List Int} (h : Ok a t) (hl : d.length ≤ 4096) (hm : ∀ x ∈ d, x ∈ a.da) : Ok (vecOf a.ch d) [d.length] :=
  vec_ok hl fun hc => any_bad_iff.2 fun x hx => any_bad_iff.1 (h.rune hc) x (hm x hx)
theorem line_of {a : Arr} {t : List Nat} (h : Ok a t) (hl : a.sh.length = 1) : a = vecOf a.ch a.da ∧ t = [a.da.length] ∧ a.da.length ≤ 4096 := by
  obtain ⟨c, s, d⟩ := a
  have hs := h.sh
  have hd := h.len
  simp only at hs hd hl ⊢
  subst hs
  rw [length_ints] at hl
  match t, hl with
  | [n], _ =>
    simp [prod] at hd
    subst hd
    exact ⟨rfl, rfl, h.good.2.1 _ (by simp)⟩
theorem ok_da_le {a : Arr} {t : List Nat} (h : Ok a t) : a.da.length ≤ 4096 := by rw [h.len]; exact h.good.2.2

/-- Does an array have a cell? -/
def hasB (b : Arr) (c : Bool) (x : Int) : Bool := decide (x ∈ b.da) && decide (c = b.ch)
theorem hasB_iff {b : Arr} {c : Bool} {x : Int} : hasB b c x = true ↔ x ∈ b.da ∧ c = b.ch := by simp [hasB]
/-- Where a cell is first. -/
def findN (a : Arr) (c : Bool) (x : Int) : Nat := if hasB a c x then a.da.idxOf x else a.da.length
theorem findN_le (a : Arr) (c : Bool) (x : Int) : findN a c x ≤ a.da.length := by
  unfold findN
  split
  · exact List.idxOf_le_length
  · exact Nat.le_refl _
theorem findN_lt {a : Arr} {c : Bool} {x : Int} : findN a c x < a.da.length ↔ hasB a c x = true := by
  unfold findN
  split
  · rename_i h
    exact ⟨fun _ => h, fun _ => List.idxOf_lt_length_of_mem (hasB_iff.1 h).1⟩
  · rename_i h
    simp [h]
theorem findN_get {a : Arr} {c : Bool} {x : Int} (h : findN a c x < a.da.length) : c = a.ch ∧ a.da[findN a c x]? = some x := by
  have hb := findN_lt.1 h
  obtain ⟨h1, h2⟩ := hasB_iff.1 hb
  refine ⟨h2, ?_⟩
  unfold findN
  rw [if_pos hb]
  exact idx_getElem h1
theorem idxOf_first {d : List Int} {x : Int} : ∀ {j : Nat}, j < d.idxOf x → d[j]? ≠ some x := by
  induction d with
  | nil => simp
  | cons y d ih =>
    intro j hj
    rw [List.idxOf_cons] at hj
    by_cases e : y = x
    · subst e; simp at hj
    · have : (y == x) = false := by simpa using e
      rw [this] at hj
      simp at hj
      match j, hj with
      | 0, _ => simpa using e
      | j + 1, hj => simpa using ih (by omega)
theorem findN_first {a : Arr} {c : Bool} {x : Int} {j : Nat} (h : j < findN a c x) (hc : c = a.ch) : a.da[j]? ≠ some x := by
  unfold findN at h
  split at h
  · exact idxOf_first h
  · rename_i hb
    intro e
    exact hb (hasB_iff.2 ⟨List.mem_of_getElem? e, hc⟩)

def index (a b : Arr) : Arr := ⟨false, b.sh, b.da.map fun x => ((findN a b.ch x : Nat) : Int)⟩
def isin (a b : Arr) : Arr := ⟨false, a.sh, a.da.map fun x => if hasB b a.ch x then 1 else 0⟩
def nub (a : Arr) : Arr := vecOf a.ch (nubD a.da)
def without (a b : Arr) : Arr := vecOf a.ch (a.da.filter fun x => !hasB b a.ch x)
def meet (a b : Arr) : Arr := vecOf a.ch (a.da.filter fun x => hasB b a.ch x)
def union (a b : Arr) : Arr := vecOf a.ch (a.da ++ (without b a).da)

def twoErr (a b : Arr) : Int := if arrErr a ≠ 0 then arrErr a else arrErr b
def indexErr (a b : Arr) : Int := if twoErr a b ≠ 0 then twoErr a b else if a.sh.length ≠ 1 then 3 else 0
def nubErr (a : Arr) : Int := if arrErr a ≠ 0 then arrErr a else if a.sh.length ≠ 1 then 3 else 0
def pairErr (a b : Arr) : Int := if twoErr a b ≠ 0 then twoErr a b else if a.sh.length ≠ 1 ∨ b.sh.length ≠ 1 then 3 else 0
def unionErr (a b : Arr) : Int := if pairErr a b ≠ 0 then pairErr a b else if a.ch ≠ b.ch then 6 else if 4096 < (union a b).da.length then 7 else 0

theorem twoErr_zero {a b : Arr} (h : twoErr a b = 0) : ∃ s t, Ok a s ∧ Ok b t := by
  unfold twoErr at h
  by_cases h1 : arrErr a ≠ 0
  · rw [if_pos h1] at h; exact absurd h h1
  · rw [if_neg h1] at h
    obtain ⟨s, hs⟩ := ok_of_arrErr (by simpa using h1)
    obtain ⟨t, ht⟩ := ok_of_arrErr h
    exact ⟨s, t, hs, ht⟩
theorem twoErr_ok {a b : Arr} {s t : List Nat} (ha : Ok a s) (hb : Ok b t) : twoErr a b = 0 := by
  unfold twoErr
  rw [arrErr_ok ha, arrErr_ok hb]; rfl
theorem indexErr_zero {a b : Arr} (h : indexErr a b = 0) : ∃ s t, Ok a s ∧ Ok b t ∧ a.sh.length = 1 := by
  unfold indexErr at h
  by_cases h1 : twoErr a b ≠ 0
  · rw [if_pos h1] at h; exact absurd h h1
  · rw [if_neg h1] at h
    obtain ⟨s, t, hs, ht⟩ := twoErr_zero (by simpa using h1)
    by_cases h2 : a.sh.length ≠ 1
    · rw [if_pos h2] at h; omega
    · exact ⟨s, t, hs, ht, by simpa using h2⟩
theorem nubErr_zero {a : Arr} (h : nubErr a = 0) : ∃ s, Ok a s ∧ a.sh.length = 1 := by
  unfold nubErr at h
  by_cases h1 : arrErr a ≠ 0
  · rw [if_pos h1] at h; exact absurd h h1
  · rw [if_neg h1] at h
    obtain ⟨s, hs⟩ := ok_of_arrErr (by simpa using h1)
    by_cases h2 : a.sh.length ≠ 1
    · rw [if_pos h2] at h; omega
    · exact ⟨s, hs, by simpa using h2⟩
theorem pairErr_zero {a b : Arr} (h : pairErr a b = 0) : ∃ s t, Ok a s ∧ Ok b t ∧ a.sh.length = 1 ∧ b.sh.length = 1 := by
  unfold pairErr at h
  by_cases h1 : twoErr a b ≠ 0
  · rw [if_pos h1] at h; exact absurd h h1
  · rw [if_neg h1] at h
    obtain ⟨s, t, hs, ht⟩ := twoErr_zero (by simpa using h1)
    by_cases h2 : a.sh.length ≠ 1 ∨ b.sh.length ≠ 1
    · rw [if_pos h2] at h; omega
    · exact ⟨s, t, hs, ht, by omega, by omega⟩
theorem unionErr_zero {a b : Arr} (h : unionErr a b = 0) : pairErr a b = 0 ∧ a.ch = b.ch ∧ (union a b).da.length ≤ 4096 := by
  unfold unionErr at h
  by_cases h1 : pairErr a b ≠ 0
  · rw [if_pos h1] at h; exact absurd h h1
  · rw [if_neg h1] at h
    by_cases h2 : a.ch ≠ b.ch
    · rw [if_pos h2] at h; omega
    · rw [if_neg h2] at h
      by_cases h3 : 4096 < (union a b).da.length
      · rw [if_pos h3] at h; omega
      · exact ⟨by simpa using h1, by simpa using h2, by omega⟩
theorem nubErr_ok {a : Arr} {s : List Nat} (h : Ok a s) (hl : a.sh.length = 1) : nubErr a = 0 := by
  unfold nubErr; rw [arrErr_ok h, hl]; rfl
theorem indexErr_ok {a b : Arr} {s t : List Nat} (h : Ok a s) (hb : Ok b t) (hl : a.sh.length = 1) : indexErr a b = 0 := by
  unfold indexErr; rw [twoErr_ok h hb, hl]; rfl
theorem pairErr_ok {a b : Arr} {s t : List Nat} (h : Ok a s) (hb : Ok b t) (hl : a.sh.length = 1) (hl2 : b.sh.length = 1) : pairErr a b = 0 := by
  unfold pairErr; rw [twoErr_ok h hb, hl, hl2]; rfl

theorem nub_ok {a : Arr} {t : List Nat} (h : Ok a t) : Ok (nub a) [(nubD a.da).length] :=
  vec_sub_ok h (by have := sel_length (firstB a.da) a.da; have := ok_da_le h; unfold nubD; omega) fun x hx => mem_nubD.1 hx
theorem without_ok {a : Arr} {t : List Nat} (h : Ok a t) (b : Arr) : Ok (without a b) [(without a b).da.length] :=
  vec_sub_ok h (by have := List.length_filter_le (fun x => !hasB b a.ch x) a.da; have := ok_da_le h; omega) fun x hx => (List.mem_filter.1 hx).1
theorem meet_ok {a : Arr} {t : List Nat} (h : Ok a t) (b : Arr) : Ok (meet a b) [(meet a b).da.length] :=
  vec_sub_ok h (by have := List.length_filter_le (fun x => hasB b a.ch x) a.da; have := ok_da_le h; omega) fun x hx => (List.mem_filter.1 hx).1
theorem union_ok {a b : Arr} {s t : List Nat} (ha : Ok a s) (hb : Ok b t) (hc : a.ch = b.ch) (hl : (union a b).da.length ≤ 4096) : Ok (union a b) [(union a b).da.length] := by
  refine vec_ok hl fun h => any_bad_iff.2 fun x hx => ?_
  rcases List.mem_append.1 hx with hx | hx
  · exact any_bad_iff.1 (ha.rune h) x hx
  · exact any_bad_iff.1 (hb.rune (hc ▸ h)) x (List.mem_filter.1 hx).1

/-- Each once. -/
theorem nub_nub (a : Arr) : nub (nub a) = nub a := by
  unfold nub vecOf
  simp only
  rw [nubD_self (nubD_nodup _)]
theorem has_nub {a : Arr} {x : Int} (h : x ∈ a.da) : hasB (nub a) a.ch x = true := hasB_iff.2 ⟨mem_nubD.2 h, rfl⟩
theorem isin_nub (a : Arr) : ∀ x ∈ (isin a (nub a)).da, x = 1 := by
  intro x hx
  simp only [isin, List.mem_map] at hx
  obtain ⟨y, hy, rfl⟩ := hx
  rw [if_pos (has_nub hy)]
theorem index_nub {a : Arr} {i : Nat} {x : Int} (h : (index a (nub a)).da[i]? = some x) : ∃ y, (nubD a.da)[i]? = some y ∧ x = ((a.da.idxOf y : Nat) : Int) ∧ a.da.idxOf y < a.da.length := by
  simp only [index, List.getElem?_map, Option.map_eq_some_iff] at h
  obtain ⟨y, hy, rfl⟩ := h
  have hm := mem_nubD.1 (List.mem_of_getElem? hy)
  refine ⟨y, hy, ?_, List.idxOf_lt_length_of_mem hm⟩
  have : hasB a (nub a).ch y = true := hasB_iff.2 ⟨hm, rfl⟩
  unfold findN
  rw [if_pos this]
theorem index_nub_rises {a : Arr} {i : Nat} {x y : Int} (h1 : (index a (nub a)).da[i]? = some x) (h2 : (index a (nub a)).da[i + 1]? = some y) : x < y := by
  obtain ⟨u, hu, rfl, _⟩ := index_nub h1
  obtain ⟨v, hv, rfl, _⟩ := index_nub h2
  have hp := nubD_rises a.da
  rw [List.pairwise_iff_getElem] at hp
  obtain ⟨l1, e1⟩ := List.getElem?_eq_some_iff.1 hu
  obtain ⟨l2, e2⟩ := List.getElem?_eq_some_iff.1 hv
  have := hp i (i + 1) (by simpa using l1) (by simpa using l2) (by omega)
  simp only [List.getElem_map, e1, e2] at this
  omega

/-- Sets. -/
theorem has_union {b c : Arr} (hc : b.ch = c.ch) (ch : Bool) (x : Int) : hasB (union b c) ch x = (hasB b ch x || hasB c ch x) := by
  rw [Bool.eq_iff_iff, Bool.or_eq_true, hasB_iff, hasB_iff, hasB_iff]
  simp only [union, without, vecOf, List.mem_append, List.mem_filter, Bool.not_eq_true', ← Bool.not_eq_true]
  rw [hasB_iff]
  constructor
  · rintro ⟨h | h, e⟩
    · exact .inl ⟨h, e⟩
    · exact .inr ⟨h.1, e.trans hc⟩
  · rintro (⟨h, e⟩ | ⟨h, e⟩)
    · exact ⟨.inl h, e⟩
    · refine ⟨?_, e.trans hc.symm⟩
      by_cases hb : x ∈ b.da
      · exact .inl hb
      · exact .inr ⟨h, fun h2 => hb h2.1⟩
theorem without_union {a b c : Arr} (hc : b.ch = c.ch) : without (without a b) c = without a (union b c) := by
  unfold without
  simp only [vecOf, List.filter_filter]
  have e : (fun x => !hasB c a.ch x && !hasB b a.ch x) = fun x => !hasB (union b c) a.ch x := by
    funext x
    rw [has_union hc, Bool.not_or, Bool.and_comm]
  have e2 : List.filter (fun x => !hasB c a.ch x && !hasB b a.ch x) a.da = List.filter (fun x => !hasB (union b c) a.ch x) a.da := by rw [e]
  rw [e2]
theorem has_meet {b c : Arr} (ch : Bool) (x : Int) : hasB (meet b c) ch x = (hasB c ch x && hasB b ch x) := by
  rw [Bool.eq_iff_iff, Bool.and_eq_true, hasB_iff, hasB_iff, hasB_iff]
  simp only [meet, vecOf, List.mem_filter]
  rw [hasB_iff]
  constructor
  · rintro ⟨⟨h1, h2, h3⟩, e⟩
    exact ⟨⟨h2, e.trans h3⟩, h1, e⟩
  · rintro ⟨⟨h1, e1⟩, h2, e2⟩
    exact ⟨⟨h2, h1, e2.symm.trans e1⟩, e2⟩
theorem meet_meet (a b c : Arr) : meet (meet a b) c = meet a (meet b c) := by
  rw [show meet (meet a b) c = vecOf a.ch ((a.da.filter fun x => hasB b a.ch x).filter fun x => hasB c a.ch x) from rfl]
  rw [show meet a (meet b c) = vecOf a.ch (a.da.filter fun x => hasB (meet b c) a.ch x) from rfl]
  rw [List.filter_filter]
  congr 1
  apply List.filter_congr
  intro x _
  rw [has_meet]
theorem lengths_sum (a b : Arr) : (without a b).da.length + (meet a b).da.length = a.da.length := by
  simp only [without, meet, vecOf]
  generalize a.da = d
  induction d with
  | nil => rfl
  | cons x d ih =>
    rw [List.filter_cons, List.filter_cons]
    by_cases h : hasB b a.ch x = true
    · simp [h]; omega
    · simp [h]; omega

/-- Kept by what is there. -/
theorem keep_filter {a : Arr} {p : Int → Bool} (h : Ok a [a.da.length]) : keep (a.da.map fun x => if p x then 1 else 0) 0 a = vecOf a.ch (a.da.filter p) := by
  have hm : (a.da.map fun x => if p x then (1 : Int) else 0).length = [a.da.length].getD 0 0 := by simp
  have hko := keep_ok h (k := 0) (by simp) hm
  obtain ⟨m, hme⟩ : ∃ m, m = a.da.map fun x => if p x then (1 : Int) else 0 := ⟨_, rfl⟩
  rw [← hme] at hm hko ⊢
  have hcn : ∀ (d : List Int), cnt (d.map fun x => if p x then (1 : Int) else 0) d.length = (d.filter p).length := by
    intro d
    induction d with
    | nil => rfl
    | cons x d ih =>
      rw [List.map_cons, List.length_cons, cnt_cons, ih, List.filter_cons]
      by_cases hp : p x = true
      · simp [hp]; omega
      · simp [hp]
  have hft : ∀ (d : List Int) (i : Nat) (x : Int), d[i]? = some x → p x = true → (d.filter p)[cnt (d.map fun x => if p x then (1 : Int) else 0) i]? = some x := by
    intro d
    induction d with
    | nil => intro i x h; simp at h
    | cons y d ih =>
      intro i x hx hp
      match i, hx with
      | 0, hx =>
        simp only [List.getElem?_cons_zero, Option.some.injEq] at hx
        subst hx
        rw [cnt_zero, List.filter_cons_of_pos hp]
        simp
      | i + 1, hx =>
        simp only [List.getElem?_cons_succ] at hx
        rw [List.map_cons, cnt_cons]
        by_cases hy : p y = true
        · rw [if_pos (by simp [hy]), List.filter_cons_of_pos hy, Nat.add_comm 1, List.getElem?_cons_succ]
          exact ih i x hx hp
        · rw [if_neg (by simp [hy]), List.filter_cons_of_neg hy, Nat.zero_add]
          exact ih i x hx hp
  have hlen : m.length = a.da.length := by rw [hme]; simp
  have hcm : cnt m m.length = (a.da.filter p).length := by rw [hlen, hme]; exact hcn a.da
  have hke : keep m 0 a = ⟨a.ch, ints [(a.da.filter p).length], (keep m 0 a).da⟩ := by
    have hs := hko.sh
    rw [show ([a.da.length] : List Nat).set 0 (cnt m m.length) = [(a.da.filter p).length] by rw [hcm]; rfl] at hs
    rw [← hs]
    rfl
  rw [hke]
  have hd : (keep m 0 a).da = a.da.filter p := by
    apply List.ext_getElem?
    intro j
    by_cases hj : j < cnt m m.length
    · obtain ⟨p1, p2, p3⟩ := posOf_spec hj
      have h1 := keep_da h (k := 0) (by simp) hm (o := 0) (i := posOf m j) (r := 0) (by simp [outerOf, prod]) p2 (by simp [innerOf, prod])
      simp only [innerOf, List.drop_succ_cons, List.drop_zero, prod, Nat.zero_mul, Nat.zero_add, Nat.mul_one, Nat.add_zero, p3] at h1
      rw [h1]
      rw [hlen] at p1
      have hx : a.da[posOf m j]? = some a.da[posOf m j] := List.getElem?_eq_getElem p1
      have hpx : p a.da[posOf m j] = true := by
        have key : ∀ i : Nat, m[i]? = (a.da.map fun x => if p x then (1 : Int) else 0)[i]? := fun i => by rw [hme]
        rw [key, List.getElem?_map, hx] at p2
        by_cases hc : p a.da[posOf m j] = true
        · exact hc
        · simp [hc] at p2
      have := hft a.da (posOf m j) _ hx hpx
      rw [← hme, p3] at this
      rw [hx, this]
    · have hl1 := hko.len
      rw [List.getElem?_eq_none (by rw [hl1, prod_set (by simp)]; simp [outerOf, innerOf, prod]; omega), List.getElem?_eq_none (by omega)]
  rw [hd]
  rfl

end Go.Proofs.Ytfaojciballhnaa.P
