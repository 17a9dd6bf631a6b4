/- Plain facts: what a mask keeps of an axis, and what is spread by one. Conditions: none. -/
import Derived.Test.YtfaojciballhnaaCut
set_option linter.unusedSimpArgs false
set_option linter.unusedVariables false
namespace Go.Proofs.Ytfaojciballhnaa.P

/-- How many ones are among the first i of a mask. -/
def cnt (m : List Int) (i : Nat) : Nat := (m.take i).countP (· == 1)
theorem cnt_zero (m : List Int) : cnt m 0 = 0 := by simp [cnt]
theorem cnt_one {m : List Int} {i : Nat} (h : m[i]? = some 1) : cnt m (i + 1) = cnt m i + 1 := by
  unfold cnt
  rw [List.take_add_one, h]
  simp
theorem cnt_other {m : List Int} {i : Nat} {x : Int} (h : m[i]? = some x) (hx : x ≠ 1) : cnt m (i + 1) = cnt m i := by
  unfold cnt
  rw [List.take_add_one, h]
  simp [hx]
theorem cnt_mono {m : List Int} {i j : Nat} (h : i ≤ j) : cnt m i ≤ cnt m j := by
  unfold cnt
  rw [show m.take i = (m.take j).take i by rw [List.take_take, Nat.min_eq_left h]]
  exact (List.take_sublist _ _).countP_le
theorem cnt_le (m : List Int) (i : Nat) : cnt m i ≤ i := by
  unfold cnt
  have := List.countP_le_length (p := (· == (1 : Int))) (l := m.take i)
  simp at this
  omega

/-- Where the j-th one is. -/
def posOf : List Int → Nat → Nat
  | [], _ => 0
  | x :: m, j => if x = 1 then (match j with | 0 => 0 | j + 1 => posOf m j + 1) else posOf m j + 1

theorem cnt_cons (x : Int) (m : List Int) (i : Nat) : cnt (x :: m) (i + 1) = (if x = 1 then 1 else 0) + cnt m i := by
  unfold cnt
  rw [List.take_succ_cons, List.countP_cons]
  by_cases h : x = 1 <;> simp [h] ; omega
theorem posOf_spec : ∀ {m : List Int} {j : Nat}, j < cnt m m.length → posOf m j < m.length ∧ m[posOf m j]? = some 1 ∧ cnt m (posOf m j) = j
  | [], j, h => by simp [cnt] at h
  | x :: m, j, h => by
    rw [List.length_cons, cnt_cons] at h
    unfold posOf
    by_cases hx : x = 1
    · subst hx
      simp only [if_true] at h ⊢
      match j, h with
      | 0, _ => simp [cnt]
      | j + 1, h =>
        obtain ⟨h1, h2, h3⟩ := posOf_spec (m := m) (j := j) (by omega)
        refine ⟨by simpa using h1, by simpa using h2, ?_⟩
        rw [cnt_cons, h3]; simp; omega
    · rw [if_neg hx] at h ⊢
      obtain ⟨h1, h2, h3⟩ := posOf_spec (m := m) (j := j) (by omega)
      refine ⟨by simpa using h1, by simpa using h2, ?_⟩
      rw [cnt_cons, h3]; simp [hx]
theorem posOf_cnt : ∀ {m : List Int} {i : Nat}, m[i]? = some 1 → posOf m (cnt m i) = i
  | [], i, h => by simp at h
  | x :: m, 0, h => by
    simp only [List.getElem?_cons_zero, Option.some.injEq] at h
    subst h
    simp [posOf, cnt]
  | x :: m, i + 1, h => by
    simp only [List.getElem?_cons_succ] at h
    have ih := posOf_cnt h
    rw [cnt_cons]
    unfold posOf
    by_cases hx : x = 1
    · subst hx
      simp only [if_true]
      rw [Nat.add_comm 1]
      simp only [ih]
    · simp only [if_neg hx, Nat.zero_add, ih]
theorem cnt_lt {m : List Int} {i : Nat} (h : m[i]? = some 1) : cnt m i < cnt m m.length := by
  have hl := (List.getElem?_eq_some_iff.1 h).1
  have h1 := cnt_one h
  have h2 := cnt_mono (m := m) (show i + 1 ≤ m.length by omega)
  omega

/-- Only zeros and ones. -/
def Mask (m : List Int) : Prop := ∀ x ∈ m, x = 0 ∨ x = 1
instance (m : List Int) : Decidable (Mask m) := inferInstanceAs (Decidable (∀ x ∈ m, x = 0 ∨ x = 1))
def others (m : List Int) : List Int := m.map fun x => 1 - x
theorem others_mask {m : List Int} (h : Mask m) : Mask (others m) := by
  intro x hx
  simp only [others, List.mem_map] at hx
  obtain ⟨y, hy, rfl⟩ := hx
  rcases h y hy with rfl | rfl <;> simp
theorem others_length (m : List Int) : (others m).length = m.length := by simp [others]
theorem others_at {m : List Int} {i : Nat} : (others m)[i]? = m[i]?.map fun x => 1 - x := by simp [others]
theorem mask_at {m : List Int} (h : Mask m) {i : Nat} {x : Int} (hi : m[i]? = some x) : x = 0 ∨ x = 1 := h x (List.mem_of_getElem? hi)
theorem others_one {m : List Int} (h : Mask m) {i : Nat} : (others m)[i]? = some 1 ↔ m[i]? = some 0 := by
  rw [others_at]
  rcases hx : m[i]? with _ | x
  · simp
  · simp only [Option.map_some, Option.some.injEq]
    omega
theorem cnt_others {m : List Int} (h : Mask m) : ∀ {i : Nat}, i ≤ m.length → cnt m i + cnt (others m) i = i
  | 0, _ => by simp [cnt_zero]
  | i + 1, hi => by
    have ih := cnt_others h (i := i) (by omega)
    have hx : m[i]? = some m[i] := List.getElem?_eq_getElem (by omega)
    rcases mask_at h hx with e | e
    · have h1 := cnt_other hx (by omega)
      have h2 := cnt_one ((others_one h).2 (by rw [hx, e]))
      omega
    · have h1 := cnt_one (by rw [hx, e])
      have h2 := cnt_other (m := others m) (i := i) (x := 0) (by rw [others_at, hx, e]; rfl) (by omega)
      omega

/-- What a mask keeps. -/
def keep (m : List Int) (k : Nat) (a : Arr) : Arr := tab a.ch (a.nsh.set k (cnt m m.length)) fun ix => a.cell (ix.set k (posOf m (ix.getD k 0)))
/-- What is spread by a mask. -/
def spread (m : List Int) (k : Nat) (a : Arr) : Arr := tab a.ch (a.nsh.set k m.length) fun ix => if m[ix.getD k 0]? = some 1 then a.cell (ix.set k (cnt m (ix.getD k 0))) else fillOf a.ch

theorem inside_to {t ix : List Nat} {k l x : Nat} (h : Inside (t.set k l) ix) (hx : x < t.getD k 0) : Inside t (ix.set k x) := by
  have := inside_move (l := t.getD k 0) h hx
  rwa [set_getD] at this

theorem keep_ok {a : Arr} {t : List Nat} {k : Nat} {m : List Int} (h : Ok a t) (hk : k < t.length) (hm : m.length = t.getD k 0) : Ok (keep m k a) (t.set k (cnt m m.length)) := by
  unfold keep
  rw [h.nsh_eq]
  refine ok_tab (good_less h.good hk (by have := cnt_le m m.length; omega)) fun hc ix hi => h.rune_cell hc (inside_to hi ?_)
  have := posOf_spec (inside_at hk hi)
  omega
theorem keep_cell {a : Arr} {t ix : List Nat} {k : Nat} {m : List Int} (h : Ok a t) (hi : Inside (t.set k (cnt m m.length)) ix) : (keep m k a).cell ix = a.cell (ix.set k (posOf m (ix.getD k 0))) := by
  unfold keep
  rw [h.nsh_eq, tab_cell hi]
theorem spread_ok {a : Arr} {t : List Nat} {k : Nat} {m : List Int} (h : Ok a t) (hk : k < t.length) (hm : cnt m m.length = t.getD k 0) (hg : GoodSh (t.set k m.length)) : Ok (spread m k a) (t.set k m.length) := by
  unfold spread
  rw [h.nsh_eq]
  refine ok_tab hg fun hc ix hi => ?_
  split
  · rename_i h1
    refine h.rune_cell hc (inside_to hi ?_)
    rw [← hm]
    exact cnt_lt h1
  · exact fill_fine _
theorem spread_cell {a : Arr} {t ix : List Nat} {k : Nat} {m : List Int} (h : Ok a t) (hi : Inside (t.set k m.length) ix) :
    (spread m k a).cell ix = if m[ix.getD k 0]? = some 1 then a.cell (ix.set k (cnt m (ix.getD k 0))) else fillOf a.ch := by
  unfold spread
  rw [h.nsh_eq, tab_cell hi]

/-- The cells of what a mask keeps, one piece behind the other. -/
theorem keep_da {a : Arr} {t : List Nat} {k : Nat} {m : List Int} (h : Ok a t) (hk : k < t.length) (hm : m.length = t.getD k 0) {o i r : Nat} (ho : o < outerOf t k) (hi : m[i]? = some 1) (hr : r < innerOf t k) :
    (keep m k a).da[(o * cnt m m.length + cnt m i) * innerOf t k + r]? = a.da[(o * t.getD k 0 + i) * innerOf t k + r]? := by
  have hil := (List.getElem?_eq_some_iff.1 hi).1
  obtain ⟨ix, h1, h2, h3, h4⟩ := exists_axis hk ho (show i < t.getD k 0 by omega) hr
  have hl := inside_length h1
  have e1 := place_axis hk hl
  rw [h2, h3, h4] at e1
  have hin : Inside (t.set k (cnt m m.length)) (ix.set k (cnt m i)) := by
    have h5 : Inside (t.set k (t.getD k 0)) ix := by rw [set_getD]; exact h1
    exact inside_move h5 (cnt_lt hi)
  have e2 := place_axis_set (s := t.set k (cnt m m.length)) (ix := ix) (k := k) (x := cnt m i) (by simpa using hk) (by simpa using hl)
  rw [inner_set, getD_set hk, take_set_self, h2, drop_set_self, h4] at e2
  rw [← e1, ← e2, cell_get h h1, cell_get (keep_ok h hk hm) hin, keep_cell h hin]
  have hkx : k < ix.length := by omega
  rw [getD_set hkx, List.set_set, posOf_cnt hi, ← h3, set_getD]
theorem spread_da1 {a : Arr} {t : List Nat} {k : Nat} {m : List Int} (h : Ok a t) (hk : k < t.length) (hm : cnt m m.length = t.getD k 0) (hg : GoodSh (t.set k m.length)) {o i r : Nat} (ho : o < outerOf t k) (hi : m[i]? = some 1)
    (hr : r < innerOf t k) : (spread m k a).da[(o * m.length + i) * innerOf t k + r]? = a.da[(o * t.getD k 0 + cnt m i) * innerOf t k + r]? := by
  have hil := (List.getElem?_eq_some_iff.1 hi).1
  have hk1 : k < (t.set k m.length).length := by simpa using hk
  obtain ⟨ix, h1, h2, h3, h4⟩ := exists_axis (s := t.set k m.length) hk1 (by rw [outer_set]; exact ho) (by rw [getD_set hk]; exact hil) (by rw [inner_set]; exact hr)
  have hl := inside_length h1
  rw [List.length_set] at hl
  have e1 := place_axis (ix := ix) hk1 (by rw [List.length_set]; exact hl)
  rw [h2, h3, h4, inner_set, getD_set hk] at e1
  have h2' : place (t.take k) (ix.take k) = o := by rwa [take_set_self] at h2
  have h4' : place (t.drop (k + 1)) (ix.drop (k + 1)) = r := by rwa [drop_set_self] at h4
  have hin : Inside t (ix.set k (cnt m i)) := inside_to h1 (by rw [← hm]; exact cnt_lt hi)
  have e2 := place_axis_set (s := t) (ix := ix) (k := k) (x := cnt m i) hk hl
  rw [h2', h4'] at e2
  rw [← e1, ← e2, cell_get h hin, cell_get (spread_ok h hk hm hg) h1, spread_cell h h1, h3, if_pos hi]
theorem spread_da0 {a : Arr} {t : List Nat} {k : Nat} {m : List Int} (h : Ok a t) (hk : k < t.length) (hm : cnt m m.length = t.getD k 0) (hg : GoodSh (t.set k m.length)) {o i r : Nat} (ho : o < outerOf t k) (hil : i < m.length)
    (hi : m[i]? ≠ some 1) (hr : r < innerOf t k) : (spread m k a).da[(o * m.length + i) * innerOf t k + r]? = some (fillOf a.ch) := by
  have hk1 : k < (t.set k m.length).length := by simpa using hk
  obtain ⟨ix, h1, h2, h3, h4⟩ := exists_axis (s := t.set k m.length) hk1 (by rw [outer_set]; exact ho) (by rw [getD_set hk]; exact hil) (by rw [inner_set]; exact hr)
  have hl := inside_length h1
  rw [List.length_set] at hl
  have e1 := place_axis (ix := ix) hk1 (by rw [List.length_set]; exact hl)
  rw [h2, h3, h4, inner_set, getD_set hk] at e1
  rw [← e1, cell_get (spread_ok h hk hm hg) h1, spread_cell h h1, h3, if_neg hi]

/-- What is spread is kept. -/
theorem keep_spread {a : Arr} {t : List Nat} {k : Nat} {m : List Int} (h : Ok a t) (hk : k < t.length) (hm : cnt m m.length = t.getD k 0) (hg : GoodSh (t.set k m.length)) : keep m k (spread m k a) = a := by
  have hs := spread_ok h hk hm hg
  conv => rhs; rw [h.eq_tab]
  rw [show keep m k (spread m k a) = tab (spread m k a).ch ((spread m k a).nsh.set k (cnt m m.length)) fun ix => (spread m k a).cell (ix.set k (posOf m (ix.getD k 0))) from rfl, hs.nsh_eq, List.set_set, hm, set_getD]
  refine tab_congr fun ix hi => ?_
  have hl := inside_length hi
  have hkx : k < ix.length := by omega
  have hj := (inside_iff.1 hi).2 k hk
  obtain ⟨p1, p2, p3⟩ := posOf_spec (m := m) (j := ix.getD k 0) (by omega)
  have hi' : Inside (t.set k (t.getD k 0)) ix := by rw [set_getD]; exact hi
  rw [spread_cell h (inside_move hi' p1), getD_set hkx, if_pos p2, p3, List.set_set, set_getD]
/-- Elsewhere stand fills. -/
theorem keep_others_spread {a : Arr} {t : List Nat} {k : Nat} {m : List Int} (h : Ok a t) (hk : k < t.length) (hm : cnt m m.length = t.getD k 0) (hg : GoodSh (t.set k m.length)) (hM : Mask m) :
    ∀ x ∈ (keep (others m) k (spread m k a)).da, x = fillOf a.ch := by
  have hs := spread_ok h hk hm hg
  have hl : (others m).length = (t.set k m.length).getD k 0 := by rw [others_length, getD_set hk]
  have hko := keep_ok hs (k := k) (by simpa using hk) hl
  intro x hx
  rw [show (keep (others m) k (spread m k a)).da = (List.range _).map _ from rfl, List.mem_map] at hx
  obtain ⟨p, hp, rfl⟩ := hx
  rw [List.mem_range, hs.nsh_eq] at hp
  have hin := coords_inside hp
  rw [hs.nsh_eq]
  generalize coords ((t.set k m.length).set k (cnt (others m) (others m).length)) p = ix at hin
  rw [List.set_set] at hin
  have hkx : k < ix.length := by rw [inside_length hin]; simpa using hk
  obtain ⟨p1, p2, p3⟩ := posOf_spec (inside_at hk hin)
  rw [others_length] at p1
  show (spread m k a).cell (ix.set k (posOf (others m) (ix.getD k 0))) = _
  rw [spread_cell h (inside_move hin p1), getD_set hkx, if_neg (by rw [(others_one hM).1 p2]; simp)]
theorem keep_lengths {a : Arr} {t : List Nat} {k : Nat} {m : List Int} (h : Ok a t) (hk : k < t.length) (hm : m.length = t.getD k 0) (hM : Mask m) :
    (keep m k a).da.length + (keep (others m) k a).da.length = a.da.length := by
  have h1 := (keep_ok h hk hm).len
  have h2 := (keep_ok h hk (m := others m) (by rw [others_length]; exact hm)).len
  rw [h1, h2, h.len, prod_set hk, prod_set hk, prod_axis hk, others_length, ← hm, ← Nat.add_mul, ← Nat.mul_add, cnt_others hM (Nat.le_refl _)]

/-- What was kept and the others, each spread again. -/
theorem mesh_cell {a : Arr} {t ix : List Nat} {k : Nat} {m : List Int} (h : Ok a t) (hk : k < t.length) (hm : m.length = t.getD k 0) (hi : Inside t ix) :
    (spread m k (keep m k a)).cell ix = if m[ix.getD k 0]? = some 1 then a.cell ix else fillOf a.ch := by
  have hko := keep_ok h hk hm
  have hl := inside_length hi
  have hkx : k < ix.length := by omega
  have hin : Inside ((t.set k (cnt m m.length)).set k m.length) ix := by rw [List.set_set, hm, set_getD]; exact hi
  rw [spread_cell hko hin]
  by_cases c : m[ix.getD k 0]? = some 1
  · rw [if_pos c, if_pos c, keep_cell h, getD_set hkx, List.set_set, posOf_cnt c, set_getD]
    have hi' : Inside (t.set k (t.getD k 0)) ix := by rw [set_getD]; exact hi
    exact inside_move hi' (cnt_lt c)
  · rw [if_neg c, if_neg c]
    rfl

end Go.Proofs.Ytfaojciballhnaa.P
