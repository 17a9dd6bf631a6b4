/- Plain facts on one axis of an array: how a place is made of what lies ahead of the axis, the index on it, and what lies behind. Conditions: none. -/
import Derived.Test.YtajcjipabfknhaaDoorArr
set_option linter.unusedSimpArgs false
set_option linter.unusedVariables false
namespace Go.Proofs.YtajcjipabfknhaaDoor.P

/-- How many cells lie ahead of an axis, and behind it. -/
def outerOf (s : List Nat) (k : Nat) : Nat := prod (s.take k)
def innerOf (s : List Nat) (k : Nat) : Nat := prod (s.drop (k + 1))

theorem prod_axis {s : List Nat} {k : Nat} (hk : k < s.length) : prod s = outerOf s k * s.getD k 0 * innerOf s k := by
  have h : s = s.take k ++ s[k] :: s.drop (k + 1) := by simp
  conv => lhs; rw [h]
  rw [prod_append, prod, Nat.mul_assoc]
  simp [outerOf, innerOf, List.getD_eq_getElem?_getD, hk]

theorem place_axis {s ix : List Nat} {k : Nat} (hk : k < s.length) (hl : ix.length = s.length) :
    place s ix = (place (s.take k) (ix.take k) * s.getD k 0 + ix.getD k 0) * innerOf s k + place (s.drop (k + 1)) (ix.drop (k + 1)) := by
  have h : s = s.take k ++ s[k] :: s.drop (k + 1) := by simp
  have hk' : k < ix.length := by omega
  have h' : ix = ix.take k ++ ix[k] :: ix.drop (k + 1) := by simp
  conv => lhs; rw [h, h']
  rw [place_append _ _ (by simp; omega)]
  simp only [place, prod, innerOf, List.getD_eq_getElem?_getD, List.getElem?_eq_getElem hk, List.getElem?_eq_getElem hk', Option.getD_some]
  rw [Nat.add_mul, Nat.mul_assoc]
  omega

theorem place_axis_set {s ix : List Nat} {k x : Nat} (hk : k < s.length) (hl : ix.length = s.length) :
    place s (ix.set k x) = (place (s.take k) (ix.take k) * s.getD k 0 + x) * innerOf s k + place (s.drop (k + 1)) (ix.drop (k + 1)) := by
  rw [place_axis hk (by simpa using hl)]
  have hk' : k < ix.length := by omega
  have e1 : (ix.set k x).take k = ix.take k := by rw [List.take_set, List.set_eq_of_length_le (by simp; omega)]
  have e2 : (ix.set k x).drop (k + 1) = ix.drop (k + 1) := by simp [List.drop_set]
  have e3 : (ix.set k x).getD k 0 = x := by simp [List.getD_eq_getElem?_getD, hk']
  rw [e1, e2, e3]

theorem inside_axis {s ix : List Nat} {k : Nat} (hk : k < s.length) (h : Inside s ix) :
    place (s.take k) (ix.take k) < outerOf s k ∧ ix.getD k 0 < s.getD k 0 ∧ place (s.drop (k + 1)) (ix.drop (k + 1)) < innerOf s k := by
  have hl := inside_length h
  have hs : s = s.take k ++ s[k] :: s.drop (k + 1) := by simp
  have hk' : k < ix.length := by omega
  have hx : ix = ix.take k ++ ix[k] :: ix.drop (k + 1) := by simp
  rw [hs, hx, inside_append _ _ (by simp; omega)] at h
  refine ⟨place_lt h.1, ?_, place_lt h.2.2⟩
  simp only [List.getD_eq_getElem?_getD, List.getElem?_eq_getElem hk, List.getElem?_eq_getElem hk', Option.getD_some]
  exact h.2.1

/-- The cell whose place is made of o, i, r. -/
theorem exists_axis {s : List Nat} {k o i r : Nat} (hk : k < s.length) (ho : o < outerOf s k) (hi : i < s.getD k 0) (hr : r < innerOf s k) :
    ∃ ix, Inside s ix ∧ place (s.take k) (ix.take k) = o ∧ ix.getD k 0 = i ∧ place (s.drop (k + 1)) (ix.drop (k + 1)) = r := by
  have hs : s = s.take k ++ s[k] :: s.drop (k + 1) := by simp
  have lo : (coords (s.take k) o).length = k := by rw [length_coords]; simp; omega
  refine ⟨coords (s.take k) o ++ i :: coords (s.drop (k + 1)) r, ?_, ?_, ?_, ?_⟩
  · rw [hs, inside_append _ _ (by rw [length_coords]; simp)]
    refine ⟨by simpa using coords_inside ho, ?_⟩
    simp only [List.getD_eq_getElem?_getD, List.getElem?_eq_getElem hk, Option.getD_some] at hi
    exact ⟨hi, by simpa using coords_inside hr⟩
  · rw [List.take_left' lo]
    exact place_coords ho
  · rw [List.getD_eq_getElem?_getD, List.getElem?_append_right (by omega), lo]
    simp
  · rw [show coords (s.take k) o ++ i :: coords (s.drop (k + 1)) r = (coords (s.take k) o ++ [i]) ++ coords (s.drop (k + 1)) r from by simp, List.drop_left' (by simp [lo])]
    exact place_coords hr

/-- An array whose index on an axis is another one of an array's. -/
def pull (k : Nat) (f : Nat → Nat) (a : Arr) : Arr := tab a.ch a.nsh fun ix => a.cell (ix.set k (f (ix.getD k 0)))

theorem pull_da {a : Arr} {t : List Nat} (h : Ok a t) {k : Nat} (hk : k < t.length) {f : Nat → Nat} (hf : ∀ i, i < t.getD k 0 → f i < t.getD k 0)
    {o i r : Nat} (ho : o < outerOf t k) (hi : i < t.getD k 0) (hr : r < innerOf t k) :
    (pull k f a).da[(o * t.getD k 0 + i) * innerOf t k + r]? = a.da[(o * t.getD k 0 + f i) * innerOf t k + r]? := by
  obtain ⟨ix, h1, h2, h3, h4⟩ := exists_axis hk ho hi hr
  have hl := inside_length h1
  have e1 := place_axis hk hl
  rw [h2, h3, h4] at e1
  have e2 := place_axis_set (x := f i) hk hl
  rw [h2, h4] at e2
  have hin := inside_set (k := k) (x := f i) h1 (hf i hi)
  rw [← e1, ← e2]
  have hlt := place_lt h1
  have hlt2 := place_lt hin
  have hn := h.nsh_eq
  unfold pull tab
  simp only [hn]
  rw [List.getElem?_map, List.getElem?_range hlt, Option.map_some, coords_place h1, h3]
  unfold Arr.cell
  rw [hn, List.getD_eq_getElem?_getD, List.getElem?_eq_getElem (by rw [h.len]; exact hlt2)]
  simp

theorem pull_ok {a : Arr} {t : List Nat} (h : Ok a t) {k : Nat} {f : Nat → Nat} (hf : ∀ i, i < t.getD k 0 → f i < t.getD k 0) : Ok (pull k f a) t := by
  have hn := h.nsh_eq
  unfold pull
  rw [hn]
  refine ok_tab h.good fun hc ix hi => h.rune_cell hc ?_
  by_cases hk : k < t.length
  · refine inside_set hi (hf _ ?_)
    exact (inside_axis hk hi).2.1
  · rw [List.set_eq_of_length_le (by rw [inside_length hi]; omega)]
    exact hi

theorem pull_nsh (k : Nat) (f : Nat → Nat) (a : Arr) : (pull k f a).nsh = a.nsh := tab_nsh _ _ _

theorem pull_cell {a : Arr} {k : Nat} {f : Nat → Nat} {ix : List Nat} (hi : Inside a.nsh ix) : (pull k f a).cell ix = a.cell (ix.set k (f (ix.getD k 0))) := tab_cell hi

theorem set_getD {ix : List Nat} {k : Nat} : ix.set k (ix.getD k 0) = ix := by
  apply List.ext_getElem?
  intro j
  rw [List.getElem?_set]
  by_cases h : k = j
  · subst h
    by_cases hk : k < ix.length
    · simp [hk, List.getD_eq_getElem?_getD]
    · simp [hk]
  · simp [h]

theorem getD_set {ix : List Nat} {k x : Nat} (hk : k < ix.length) : (ix.set k x).getD k 0 = x := by simp [List.getD_eq_getElem?_getD, hk]
theorem getD_set_ne {ix : List Nat} {k j x : Nat} (hk : k ≠ j) : (ix.set k x).getD j 0 = ix.getD j 0 := by simp [List.getD_eq_getElem?_getD, hk]

theorem inside_pull {s ix : List Nat} {k : Nat} {f : Nat → Nat} (hi : Inside s ix) (hk : k < s.length) (hf : ∀ i, i < s.getD k 0 → f i < s.getD k 0) : Inside s (ix.set k (f (ix.getD k 0))) :=
  inside_set hi (hf _ (inside_axis hk hi).2.1)

/-- Pulled twice on one axis. -/
theorem pull_pull {a : Arr} {t : List Nat} (h : Ok a t) {k : Nat} (hk : k < t.length) {f g : Nat → Nat} (hg : ∀ i, i < t.getD k 0 → g i < t.getD k 0) :
    pull k g (pull k f a) = pull k (fun i => f (g i)) a := by
  have hn := h.nsh_eq
  unfold pull
  rw [tab_nsh, hn]
  refine tab_congr fun ix hi => ?_
  have hl := inside_length hi
  rw [tab_cell (inside_pull hi hk hg)]
  simp only [getD_set (show k < ix.length by omega), List.set_set]

/-- Pulled on two axes: whichever comes first. -/
theorem pull_comm {a : Arr} {t : List Nat} (h : Ok a t) {j k : Nat} (hj : j < t.length) (hk : k < t.length) (hjk : j ≠ k) {f g : Nat → Nat} (hf : ∀ i, i < t.getD j 0 → f i < t.getD j 0)
    (hg : ∀ i, i < t.getD k 0 → g i < t.getD k 0) : pull j f (pull k g a) = pull k g (pull j f a) := by
  have hn := h.nsh_eq
  unfold pull
  rw [tab_nsh, tab_nsh, hn]
  refine tab_congr fun ix hi => ?_
  rw [tab_cell (inside_pull hi hj hf), tab_cell (inside_pull hi hk hg)]
  rw [getD_set_ne hjk, getD_set_ne (Ne.symm hjk), List.set_comm _ _ hjk]

/-- Pulled by what is no change. -/
theorem pull_self {a : Arr} {t : List Nat} (h : Ok a t) {k : Nat} (hk : k < t.length) {f : Nat → Nat} (hf : ∀ i, i < t.getD k 0 → f i = i) : pull k f a = a := by
  have hn := h.nsh_eq
  conv => rhs; rw [h.eq_tab]
  unfold pull
  rw [hn]
  refine tab_congr fun ix hi => ?_
  rw [hf _ (inside_axis hk hi).2.1, set_getD]

theorem pull_congr {a : Arr} {t : List Nat} (h : Ok a t) {k : Nat} (hk : k < t.length) {f g : Nat → Nat} (hf : ∀ i, i < t.getD k 0 → f i = g i) : pull k f a = pull k g a := by
  have hn := h.nsh_eq
  unfold pull
  rw [hn]
  refine tab_congr fun ix hi => ?_
  rw [hf _ (inside_axis hk hi).2.1]

/-- A piece behind what is there already. -/
theorem take_piece {T d : List Int} {b p m : Nat} (h : ∀ r, r < m → T[b + r]? = d[p + r]?) :
    T.take b ++ (d.drop p).take m = T.take (b + m) := by
  rw [List.take_add]
  congr 1
  apply List.ext_getElem?
  intro r
  by_cases hr : r < m
  · rw [List.getElem?_take_of_lt hr, List.getElem?_take_of_lt hr, List.getElem?_drop, List.getElem?_drop, h r hr]
  · rw [List.getElem?_take_eq_none (by omega), List.getElem?_take_eq_none (by omega)]

/-! ### Reversed, moved round -/

def rev (k : Nat) (a : Arr) : Arr := pull k (fun i => a.nsh.getD k 0 - 1 - i) a
def rotBy (n : Int) (m : Nat) : Nat := (n % (m : Int)).toNat
def rot (n : Int) (k : Nat) (a : Arr) : Arr := pull k (fun i => (i + rotBy n (a.nsh.getD k 0)) % a.nsh.getD k 0) a

theorem rev_lt {m i : Nat} (h : i < m) : m - 1 - i < m := by omega
theorem rot_lt {n : Int} {m i : Nat} (h : i < m) : (i + rotBy n m) % m < m := Nat.mod_lt _ (by omega)

theorem rev_ok {a : Arr} {t : List Nat} (h : Ok a t) {k : Nat} : Ok (rev k a) t := by
  unfold rev; rw [h.nsh_eq]; exact pull_ok h fun i hi => rev_lt hi
theorem rot_ok {a : Arr} {t : List Nat} (h : Ok a t) {n : Int} {k : Nat} : Ok (rot n k a) t := by
  unfold rot; rw [h.nsh_eq]; exact pull_ok h fun i hi => rot_lt hi

theorem rev_rev {a : Arr} {t : List Nat} (h : Ok a t) {k : Nat} (hk : k < t.length) : rev k (rev k a) = a := by
  unfold rev
  rw [pull_nsh, h.nsh_eq, pull_pull h hk (fun i hi => rev_lt hi)]
  exact pull_self h hk fun i hi => by omega

theorem rev_comm {a : Arr} {t : List Nat} (h : Ok a t) {j k : Nat} (hj : j < t.length) (hk : k < t.length) : rev j (rev k a) = rev k (rev j a) := by
  by_cases e : j = k
  · rw [e]
  · unfold rev
    rw [pull_nsh, pull_nsh, h.nsh_eq]
    exact pull_comm h hj hk e (fun i hi => rev_lt hi) (fun i hi => rev_lt hi)

theorem rotBy_lt {n : Int} {m : Nat} (h : 0 < m) : rotBy n m < m := by
  unfold rotBy
  have := Int.emod_lt_of_pos n (show (0 : Int) < (m : Int) by omega)
  have := Int.emod_nonneg n (show (m : Int) ≠ 0 by omega)
  omega

theorem rotBy_cast {n : Int} {m : Nat} (h : 0 < m) : (rotBy n m : Int) = n % (m : Int) := by
  unfold rotBy
  exact Int.toNat_of_nonneg (Int.emod_nonneg n (by omega))

theorem rot_rot {a : Arr} {t : List Nat} (h : Ok a t) {k : Nat} (hk : k < t.length) (m n : Int) : rot n k (rot m k a) = rot (m + n) k a := by
  unfold rot
  rw [pull_nsh, h.nsh_eq, pull_pull h hk (fun i hi => rot_lt hi)]
  refine pull_congr h hk fun i hi => ?_
  generalize t.getD k 0 = L at hi
  have hL : 0 < L := by omega
  have e1 := rotBy_cast (n := m) hL
  have e2 := rotBy_cast (n := n) hL
  have e3 := rotBy_cast (n := m + n) hL
  have key : (((i + rotBy n L) % L + rotBy m L) % L : Nat) = ((i + rotBy (m + n) L) % L : Nat) := by
    have : ((((i + rotBy n L) % L + rotBy m L) % L : Nat) : Int) = (((i + rotBy (m + n) L) % L : Nat) : Int) := by
      push_cast
      rw [e1, e2, e3]
      simp only [Int.add_emod_emod, Int.emod_add_emod]
      congr 1
      omega
    omega
  exact key

theorem rot_zero {a : Arr} {t : List Nat} (h : Ok a t) {k : Nat} (hk : k < t.length) {n : Int} (hn : n % (t.getD k 0 : Int) = 0) : rot n k a = a := by
  unfold rot
  rw [h.nsh_eq]
  refine pull_self h hk fun i hi => ?_
  have : rotBy n (t.getD k 0) = 0 := by unfold rotBy; rw [hn]; rfl
  rw [this, Nat.add_zero, Nat.mod_eq_of_lt hi]

theorem rev_rot_rev {a : Arr} {t : List Nat} (h : Ok a t) {k : Nat} (hk : k < t.length) (n : Int) : rev k (rot n k (rev k a)) = rot (-n) k a := by
  unfold rev rot
  simp only [pull_nsh, h.nsh_eq]
  rw [pull_pull h hk (fun i hi => rot_lt hi), pull_pull h hk (fun i hi => rev_lt hi)]
  refine pull_congr h hk fun i hi => ?_
  generalize t.getD k 0 = L at hi
  have hL : 0 < L := by omega
  have e1 := rotBy_cast (n := n) hL
  have e2 := rotBy_cast (n := -n) hL
  have h1 := rotBy_lt (n := n) hL
  have h2 := rotBy_lt (n := -n) hL
  have hs : rotBy n L + rotBy (-n) L = 0 ∨ rotBy n L + rotBy (-n) L = L := by
    have : ((rotBy n L : Int) + rotBy (-n) L) % (L : Int) = 0 := by
      rw [e1, e2, ← Int.add_emod, Int.add_right_neg, Int.zero_emod]
    have h3 : (((rotBy n L + rotBy (-n) L) % L : Nat) : Int) = 0 := by push_cast; exact this
    have h4 : (rotBy n L + rotBy (-n) L) % L = 0 := by omega
    by_cases h5 : rotBy n L + rotBy (-n) L < L
    · rw [Nat.mod_eq_of_lt h5] at h4; exact .inl h4
    · rw [Nat.mod_eq_sub_mod (by omega), Nat.mod_eq_of_lt (by omega)] at h4
      exact .inr (by omega)
  generalize rotBy n L = x at *
  generalize rotBy (-n) L = y at *
  rcases hs with hs | hs
  · have hx : x = 0 := by omega
    have hy : y = 0 := by omega
    subst hx hy
    rw [Nat.add_zero, Nat.add_zero, Nat.mod_eq_of_lt (by omega), Nat.mod_eq_of_lt hi]
    omega
  · by_cases h5 : L - 1 - i + x < L
    · rw [Nat.mod_eq_of_lt h5]
      by_cases h6 : i + y < L
      · omega
      · rw [Nat.mod_eq_sub_mod (by omega), Nat.mod_eq_of_lt (by omega)]; omega
    · rw [Nat.mod_eq_sub_mod (by omega), Nat.mod_eq_of_lt (by omega)]
      by_cases h6 : i + y < L
      · rw [Nat.mod_eq_of_lt h6]; omega
      · omega

end Go.Proofs.YtajcjipabfknhaaDoor.P
