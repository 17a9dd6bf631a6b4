/- Plain facts: a part of an array, two arrays one behind the other. Conditions: none. -/
import Derived.Test.YtfaojciballhnaaAxis
import Derived.Test.YtfaojciballhnaaOrder
set_option linter.unusedSimpArgs false
set_option linter.unusedVariables false
namespace Go.Proofs.Ytfaojciballhnaa.P

def adds (ix : List Nat) (fr : List Int) : List Int := List.zipWith (fun (i : Nat) (f : Int) => (i : Int) + f) ix fr
theorem adds_get {ix : List Nat} {fr : List Int} {k : Nat} (h1 : k < ix.length) (h2 : k < fr.length) : (adds ix fr).getD k 0 = (ix.getD k 0 : Int) + fr.getD k 0 := by
  simp [adds, List.getD_eq_getElem?_getD, List.getElem?_zipWith, h1, h2]
theorem adds_length (ix : List Nat) (fr : List Int) : (adds ix fr).length = min ix.length fr.length := by simp [adds]

/-- The first k of these indices are those of a cell. -/
def WinIn (t : List Nat) (js : List Int) (k : Nat) : Prop := ∀ m, m < k → 0 ≤ js.getD m 0 ∧ js.getD m 0 < (t.getD m 0 : Int)
instance (t : List Nat) (js : List Int) (k : Nat) : Decidable (WinIn t js k) := inferInstanceAs (Decidable (∀ m, m < k → _))
theorem WinIn.zero (t : List Nat) (js : List Int) : WinIn t js 0 := fun m h => by omega
theorem winIn_succ (t : List Nat) (js : List Int) (k : Nat) : WinIn t js (k + 1) ↔ WinIn t js k ∧ 0 ≤ js.getD k 0 ∧ js.getD k 0 < (t.getD k 0 : Int) := by
  constructor
  · intro h
    exact ⟨fun m hm => h m (by omega), h k (by omega)⟩
  · rintro ⟨h1, h2⟩ m hm
    rcases Nat.lt_or_ge m k with h | h
    · exact h1 m h
    · have : m = k := by omega
      rw [this]; exact h2

def fillOf (c : Bool) : Int := if c then 32 else 0
theorem fill_fine (c : Bool) : badRune (fillOf c) = false := by cases c <;> rfl

/-- A part of an array, from these indices on, of this shape; elsewhere fills. -/
def win (fr : List Int) (s : List Nat) (a : Arr) : Arr := tab a.ch s fun ix => if WinIn a.nsh (adds ix fr) a.nsh.length then a.cell ((adds ix fr).map Int.toNat) else fillOf a.ch

theorem winIn_inside {t : List Nat} {js : List Int} (hl : js.length = t.length) (h : WinIn t js t.length) : Inside t (js.map Int.toNat) := by
  rw [inside_iff]
  refine ⟨by simp [hl], fun k hk => ?_⟩
  have h1 := h k hk
  have hk' : k < js.length := by omega
  have e1 : (js.map Int.toNat).getD k 0 = js[k].toNat := by simp [List.getD_eq_getElem?_getD, hk']
  have e2 : js.getD k 0 = js[k] := by simp [List.getD_eq_getElem?_getD, hk']
  rw [e2] at h1
  rw [e1]
  omega

theorem win_ok {a : Arr} {t s : List Nat} {fr : List Int} (h : Ok a t) (hs : GoodSh s) (hl : s.length = t.length) (hf : fr.length = t.length) : Ok (win fr s a) s := by
  unfold win
  rw [h.nsh_eq]
  refine ok_tab hs fun hc ix hi => ?_
  split
  · rename_i hw
    exact h.rune_cell hc (winIn_inside (by rw [adds_length, inside_length hi]; omega) hw)
  · exact fill_fine _

/-- Some of an axis. -/
def part (k lo len : Nat) (a : Arr) : Arr := tab a.ch (a.nsh.set k len) fun ix => a.cell (ix.set k (ix.getD k 0 + lo))

theorem getD_set_if {l : List Nat} {k j x : Nat} (hj : j < l.length) : (l.set k x).getD j 0 = if k = j then x else l.getD j 0 := by
  simp only [List.getD_eq_getElem?_getD, List.getElem?_set]
  split
  · rename_i e; subst e; simp [hj]
  · rfl
theorem inside_part {t ix : List Nat} {k lo len : Nat} (hk : k < t.length) (hb : lo + len ≤ t.getD k 0) (h : Inside (t.set k len) ix) : Inside t (ix.set k (ix.getD k 0 + lo)) := by
  obtain ⟨h1, h2⟩ := inside_iff.1 h
  rw [List.length_set] at h1 h2
  rw [inside_iff]
  refine ⟨by simp [h1], fun j hj => ?_⟩
  have h3 := h2 j hj
  rw [getD_set_if hj] at h3
  rw [getD_set_if (by omega)]
  split
  · rename_i e; subst e; rw [if_pos rfl] at h3; omega
  · rename_i e; rw [if_neg e] at h3; exact h3

theorem mem_getD {l : List Nat} {x : Nat} (h : x ∈ l) : ∃ k, k < l.length ∧ l.getD k 0 = x := by
  obtain ⟨k, hk, rfl⟩ := List.getElem_of_mem h
  exact ⟨k, hk, getD_lt hk⟩
theorem good_set {t : List Nat} {k len : Nat} (h : GoodSh t) (hl : len ≤ 4096) (hp : prod (t.set k len) ≤ 4096) : GoodSh (t.set k len) := by
  refine ⟨by rw [List.length_set]; exact h.1, fun n hn => ?_, hp⟩
  obtain ⟨j, hj, rfl⟩ := mem_getD hn
  rw [List.length_set] at hj
  rw [getD_set_if hj]
  split
  · exact hl
  · exact h.2.1 _ (by rw [getD_lt hj]; exact List.getElem_mem hj)
theorem take_set_self {t : List Nat} {k x : Nat} : (t.set k x).take k = t.take k := by
  rw [List.take_set, List.set_eq_of_length_le (by simp; omega)]
theorem drop_set_self {t : List Nat} {k x : Nat} : (t.set k x).drop (k + 1) = t.drop (k + 1) := by
  simp [List.drop_set]
theorem outer_set {t : List Nat} {k x : Nat} : outerOf (t.set k x) k = outerOf t k := by
  unfold outerOf
  rw [List.take_set, List.set_eq_of_length_le (by simp; omega)]
theorem inner_set {t : List Nat} {k x : Nat} : innerOf (t.set k x) k = innerOf t k := by
  unfold innerOf
  simp [List.drop_set]
theorem prod_set {t : List Nat} {k x : Nat} (hk : k < t.length) : prod (t.set k x) = outerOf t k * x * innerOf t k := by
  rw [prod_axis (k := k) (by simpa using hk), outer_set, inner_set, getD_set hk]
theorem good_less {t : List Nat} {k len : Nat} (h : GoodSh t) (hk : k < t.length) (hl : len ≤ t.getD k 0) : GoodSh (t.set k len) := by
  have h1 : t.getD k 0 ≤ 4096 := h.2.1 _ (by rw [getD_lt hk]; exact List.getElem_mem hk)
  refine good_set h (by omega) ?_
  rw [prod_set hk]
  have h2 := h.2.2
  rw [prod_axis hk] at h2
  have h3 : outerOf t k * len * innerOf t k ≤ outerOf t k * t.getD k 0 * innerOf t k := Nat.mul_le_mul_right _ (Nat.mul_le_mul_left _ hl)
  omega

theorem part_ok {a : Arr} {t : List Nat} {k lo len : Nat} (h : Ok a t) (hk : k < t.length) (hb : lo + len ≤ t.getD k 0) : Ok (part k lo len a) (t.set k len) := by
  unfold part
  rw [h.nsh_eq]
  exact ok_tab (good_less h.good hk (by omega)) fun hc ix hi => h.rune_cell hc (inside_part hk hb hi)

theorem getD_replicate_set {n k j : Nat} {x : Int} (hj : j < n) : ((List.replicate n (0 : Int)).set k x).getD j 0 = if k = j then x else 0 := by
  simp only [List.getD_eq_getElem?_getD, List.getElem?_set, List.getElem?_replicate]
  split
  · rename_i e; subst e; simp [hj]
  · simp [hj]

theorem win_part {a : Arr} {t : List Nat} {k lo len : Nat} (h : Ok a t) (hk : k < t.length) (hb : lo + len ≤ t.getD k 0) :
    win ((List.replicate t.length 0).set k lo) (t.set k len) a = part k lo len a := by
  unfold win part
  rw [h.nsh_eq]
  refine tab_congr fun ix hi => ?_
  have hin := inside_part hk hb hi
  obtain ⟨h1, h2⟩ := inside_iff.1 hin
  rw [List.length_set] at h1
  have hg : ∀ j, j < t.length → (adds ix ((List.replicate t.length 0).set k (lo : Int))).getD j 0 = ((ix.set k (ix.getD k 0 + lo)).getD j 0 : Nat) := by
    intro j hj
    rw [adds_get (by omega) (by simpa using hj), getD_replicate_set hj, getD_set_if (by omega)]
    split
    · rename_i e; subst e; omega
    · omega
  have hw : WinIn t (adds ix ((List.replicate t.length 0).set k (lo : Int))) t.length := by
    intro j hj
    rw [hg j hj]
    have := h2 j hj
    omega
  rw [if_pos hw]
  congr 1
  apply ext_getD (by simp [adds_length]; omega)
  intro j hj
  simp only [List.length_map, adds_length, List.length_set, List.length_replicate] at hj
  have hj' : j < t.length := by omega
  have e := hg j hj'
  rw [← Int.toNat_natCast (n := (ix.set k (ix.getD k 0 + lo)).getD j 0), ← e]
  have hlen : j < (adds ix ((List.replicate t.length 0).set k (lo : Int))).length := by rw [adds_length]; simp; omega
  simp [List.getD_eq_getElem?_getD, hlen]

/-- One and the other behind it. -/
def glue (k : Nat) (a b : Arr) : Arr := tab a.ch (a.nsh.set k (a.nsh.getD k 0 + b.nsh.getD k 0)) fun ix =>
  if ix.getD k 0 < a.nsh.getD k 0 then a.cell ix else b.cell (ix.set k (ix.getD k 0 - a.nsh.getD k 0))

theorem glue_def (k : Nat) (a b : Arr) : glue k a b = tab a.ch (a.nsh.set k (a.nsh.getD k 0 + b.nsh.getD k 0)) fun ix =>
  if ix.getD k 0 < a.nsh.getD k 0 then a.cell ix else b.cell (ix.set k (ix.getD k 0 - a.nsh.getD k 0)) := rfl
theorem part_def (k lo len : Nat) (a : Arr) : part k lo len a = tab a.ch (a.nsh.set k len) fun ix => a.cell (ix.set k (ix.getD k 0 + lo)) := rfl
theorem nsh_set {b : Arr} {t : List Nat} {k l : Nat} (hb : Ok b (t.set k l)) (hk : k < t.length) : b.nsh.getD k 0 = l := by rw [hb.nsh_eq, getD_set hk]

theorem inside_glue1 {t ix : List Nat} {k m : Nat} (hk : k < t.length) (h : Inside (t.set k m) ix) (hi : ix.getD k 0 < t.getD k 0) : Inside t ix := by
  obtain ⟨h1, h2⟩ := inside_iff.1 h
  rw [List.length_set] at h1 h2
  rw [inside_iff]
  refine ⟨h1, fun j hj => ?_⟩
  have h3 := h2 j hj
  rw [getD_set_if hj] at h3
  by_cases e : k = j
  · subst e; exact hi
  · rw [if_neg e] at h3; exact h3
theorem inside_move {t ix : List Nat} {k m l x : Nat} (h : Inside (t.set k m) ix) (hx : x < l) : Inside (t.set k l) (ix.set k x) := by
  obtain ⟨h1, h2⟩ := inside_iff.1 h
  rw [List.length_set] at h1 h2
  rw [inside_iff]
  refine ⟨by simp [h1], fun j hj => ?_⟩
  rw [List.length_set] at hj
  have h3 := h2 j hj
  rw [getD_set_if hj] at h3 ⊢
  rw [getD_set_if (by omega)]
  by_cases e : k = j
  · rw [if_pos e, if_pos e]; exact hx
  · rw [if_neg e] at h3; rw [if_neg e, if_neg e]; exact h3
theorem inside_at {t ix : List Nat} {k m : Nat} (hk : k < t.length) (h : Inside (t.set k m) ix) : ix.getD k 0 < m := by
  have := (inside_iff.1 h).2 k (by simpa using hk)
  rwa [getD_set hk] at this

theorem glue_ok {a b : Arr} {t : List Nat} {k l : Nat} (ha : Ok a t) (hb : Ok b (t.set k l)) (hk : k < t.length) (hc : b.ch = a.ch) (hg : GoodSh (t.set k (t.getD k 0 + l))) : Ok (glue k a b) (t.set k (t.getD k 0 + l)) := by
  unfold glue
  rw [nsh_set hb hk, ha.nsh_eq]
  refine ok_tab hg fun h ix hi => ?_
  split
  · rename_i h1
    exact ha.rune_cell h (inside_glue1 hk hi h1)
  · have := inside_at hk hi
    exact hb.rune_cell (hc.trans h) (inside_move hi (by omega))

theorem cell_get {a : Arr} {t ix : List Nat} (h : Ok a t) (hi : Inside t ix) : a.da[place t ix]? = some (a.cell ix) := by
  have hl := place_lt hi
  unfold Arr.cell
  rw [h.nsh_eq, List.getD_eq_getElem?_getD, List.getElem?_eq_getElem (by rw [h.len]; exact hl)]
  rfl
theorem tab_get {c : Bool} {s ix : List Nat} {g : List Nat → Int} (hi : Inside s ix) : (tab c s g).da[place s ix]? = some (g ix) := by
  simp [tab, place_lt hi, coords_place hi]

theorem glue_cell {a b : Arr} {t ix : List Nat} {k l : Nat} (ha : Ok a t) (hb : Ok b (t.set k l)) (hk : k < t.length) (hi : Inside (t.set k (t.getD k 0 + l)) ix) :
    (glue k a b).cell ix = if ix.getD k 0 < t.getD k 0 then a.cell ix else b.cell (ix.set k (ix.getD k 0 - t.getD k 0)) := by
  rw [glue_def, ha.nsh_eq, nsh_set hb hk, tab_cell hi]
theorem part_cell {a : Arr} {t ix : List Nat} {k lo len : Nat} (h : Ok a t) (hi : Inside (t.set k len) ix) : (part k lo len a).cell ix = a.cell (ix.set k (ix.getD k 0 + lo)) := by
  rw [part_def, h.nsh_eq, tab_cell hi]
theorem glue_da1 {a b : Arr} {t : List Nat} {k l : Nat} (ha : Ok a t) (hb : Ok b (t.set k l)) (hk : k < t.length) {o j r : Nat} (ho : o < outerOf t k) (hj : j < t.getD k 0) (hr : r < innerOf t k) :
    (glue k a b).da[(o * (t.getD k 0 + l) + j) * innerOf t k + r]? = a.da[(o * t.getD k 0 + j) * innerOf t k + r]? := by
  obtain ⟨ix, h1, h2, h3, h4⟩ := exists_axis hk ho hj hr
  have hl := inside_length h1
  have e1 := place_axis hk hl
  rw [h2, h3, h4] at e1
  have hin : Inside (t.set k (t.getD k 0 + l)) ix := by
    have := inside_move (m := t.getD k 0) (l := t.getD k 0 + l) (x := j) (k := k) (t := t) (ix := ix) (by rw [set_getD]; exact h1) (by omega)
    rwa [← h3, set_getD] at this
  have e2 := place_axis (s := t.set k (t.getD k 0 + l)) (ix := ix) (k := k) (by simpa using hk) (by simpa using hl)
  rw [inner_set, getD_set hk, take_set_self, h2, h3, drop_set_self, h4] at e2
  rw [← e1, ← e2, cell_get ha h1]
  unfold glue
  rw [nsh_set hb hk, ha.nsh_eq, tab_get hin, if_pos (by omega)]
theorem glue_da2 {a b : Arr} {t : List Nat} {k l : Nat} (ha : Ok a t) (hb : Ok b (t.set k l)) (hk : k < t.length) {o j r : Nat} (ho : o < outerOf t k) (hj : j < l) (hr : r < innerOf t k) :
    (glue k a b).da[(o * (t.getD k 0 + l) + (t.getD k 0 + j)) * innerOf t k + r]? = b.da[(o * l + j) * innerOf t k + r]? := by
  have hk1 : k < (t.set k l).length := by simpa using hk
  obtain ⟨ix, h1, h2, h3, h4⟩ := exists_axis (s := t.set k l) hk1 (by rw [outer_set]; exact ho) (by rw [getD_set hk]; exact hj) (by rw [inner_set]; exact hr)
  have hl := inside_length h1
  rw [List.length_set] at hl
  have e1 := place_axis (ix := ix) hk1 (by rw [List.length_set]; exact hl)
  rw [h2, h3, h4, inner_set, getD_set hk] at e1
  have hin : Inside (t.set k (t.getD k 0 + l)) (ix.set k (t.getD k 0 + j)) := inside_move h1 (by omega)
  have e2 := place_axis_set (s := t.set k (t.getD k 0 + l)) (ix := ix) (k := k) (x := t.getD k 0 + j) (by simpa using hk) (by simpa using hl)
  have h2' : place (t.take k) (ix.take k) = o := by rwa [take_set_self] at h2
  have h4' : place (t.drop (k + 1)) (ix.drop (k + 1)) = r := by rwa [drop_set_self] at h4
  rw [inner_set, getD_set hk, take_set_self, h2', drop_set_self, h4'] at e2
  rw [← e1, ← e2, cell_get hb h1]
  unfold glue
  have hkx : k < ix.length := by omega
  rw [nsh_set hb hk, ha.nsh_eq, tab_get hin, getD_set hkx, if_neg (by omega), List.set_set, show t.getD k 0 + j - t.getD k 0 = j by omega, ← h3, set_getD]

/-- Piece by piece. -/
theorem glue_piece1 {a b : Arr} {t : List Nat} {k l : Nat} (ha : Ok a t) (hb : Ok b (t.set k l)) (hk : k < t.length) {o r : Nat} (ho : o < outerOf t k) (hr : r < t.getD k 0 * innerOf t k) :
    (glue k a b).da[o * (t.getD k 0 * innerOf t k + l * innerOf t k) + r]? = a.da[o * (t.getD k 0 * innerOf t k) + r]? := by
  obtain ⟨n, hn⟩ : ∃ n, n = innerOf t k := ⟨_, rfl⟩
  have hp : 0 < n := by
    rcases Nat.eq_zero_or_pos n with h | h
    · rw [← hn, h] at hr; omega
    · exact h
  have h := glue_da1 ha hb hk (o := o) (j := r / n) (r := r % n) ho ((Nat.div_lt_iff_lt_mul hp).2 (by rw [hn]; exact hr)) (by rw [← hn]; exact Nat.mod_lt _ hp)
  rw [← hn] at h ⊢
  have e := Nat.div_add_mod' r n
  rw [Nat.add_mul, Nat.add_mul, Nat.add_assoc, Nat.add_assoc, e, Nat.mul_assoc, Nat.mul_assoc, Nat.add_mul] at h
  exact h
theorem glue_piece2 {a b : Arr} {t : List Nat} {k l : Nat} (ha : Ok a t) (hb : Ok b (t.set k l)) (hk : k < t.length) {o r : Nat} (ho : o < outerOf t k) (hr : r < l * innerOf t k) :
    (glue k a b).da[o * (t.getD k 0 * innerOf t k + l * innerOf t k) + t.getD k 0 * innerOf t k + r]? = b.da[o * (l * innerOf t k) + r]? := by
  obtain ⟨n, hn⟩ : ∃ n, n = innerOf t k := ⟨_, rfl⟩
  have hp : 0 < n := by
    rcases Nat.eq_zero_or_pos n with h | h
    · rw [← hn, h] at hr; omega
    · exact h
  have h := glue_da2 ha hb hk (o := o) (j := r / n) (r := r % n) ho ((Nat.div_lt_iff_lt_mul hp).2 (by rw [hn]; exact hr)) (by rw [← hn]; exact Nat.mod_lt _ hp)
  rw [← hn] at h ⊢
  have e := Nat.div_add_mod' r n
  have e1 : (o * (t.getD k 0 + l) + (t.getD k 0 + r / n)) * n + r % n = o * (t.getD k 0 * n + l * n) + t.getD k 0 * n + r := by
    rw [Nat.add_mul, Nat.add_mul, Nat.mul_assoc, Nat.add_mul]; omega
  have e2 : (o * l + r / n) * n + r % n = o * (l * n) + r := by
    rw [Nat.add_mul, Nat.mul_assoc]; omega
  rw [e1, e2] at h
  exact h

/-- Head and tail are all. -/
theorem glue_parts {a : Arr} {t : List Nat} {k x : Nat} (h : Ok a t) (hk : k < t.length) (hx : x ≤ t.getD k 0) : glue k (part k 0 x a) (part k x (t.getD k 0 - x) a) = a := by
  have h1 := part_ok h hk (lo := 0) (len := x) (by omega)
  have h2 := part_ok h hk (lo := x) (len := t.getD k 0 - x) (by omega)
  conv => rhs; rw [h.eq_tab]
  rw [glue_def, h1.nsh_eq, h2.nsh_eq, getD_set hk, getD_set hk, List.set_set, show x + (t.getD k 0 - x) = t.getD k 0 by omega, set_getD]
  refine tab_congr fun ix hi => ?_
  have hl := inside_length hi
  have hkx : k < ix.length := by omega
  have hik := (inside_iff.1 hi).2 k hk
  have hi' : Inside (t.set k (t.getD k 0)) ix := by rw [set_getD]; exact hi
  split
  · rename_i hc
    have hin : Inside (t.set k x) ix := by
      have := inside_move hi' hc
      rwa [set_getD] at this
    rw [part_cell h hin, Nat.add_zero, set_getD]
  · rename_i hc
    have hin : Inside (t.set k (t.getD k 0 - x)) (ix.set k (ix.getD k 0 - x)) := inside_move hi' (by omega)
    rw [part_cell h hin, getD_set hkx, List.set_set, show ix.getD k 0 - x + x = ix.getD k 0 by omega, set_getD]

/-- Whichever two come first. -/
theorem glue_assoc {a b c : Arr} {t : List Nat} {k l m : Nat} (ha : Ok a t) (hb : Ok b (t.set k l)) (hc : Ok c (t.set k m)) (hk : k < t.length)
    (hcb : b.ch = a.ch) (hg : GoodSh (t.set k (t.getD k 0 + l))) (hg2 : GoodSh (t.set k (l + m))) (hcc : c.ch = b.ch) : glue k (glue k a b) c = glue k a (glue k b c) := by
  have h1 := glue_ok ha hb hk hcb hg
  have h2 : Ok (glue k b c) (t.set k (l + m)) := by
    have := glue_ok (t := t.set k l) (k := k) (l := m) hb (by rw [List.set_set]; exact hc) (by simpa using hk) hcc (by rw [List.set_set, getD_set hk]; exact hg2)
    rwa [List.set_set, getD_set hk] at this
  have e1 : (glue k a b).ch = a.ch := rfl
  rw [glue_def k (glue k a b) c, h1.nsh_eq, nsh_set hc hk, getD_set hk, List.set_set, e1]
  rw [glue_def k a (glue k b c), h2.nsh_eq, ha.nsh_eq, getD_set hk, Nat.add_assoc]
  refine tab_congr fun ix hi => ?_
  have hl := inside_length hi
  rw [List.length_set] at hl
  have hkx : k < ix.length := by omega
  have hik := inside_at hk hi
  by_cases g1 : ix.getD k 0 < t.getD k 0
  · have hin : Inside (t.set k (t.getD k 0 + l)) ix := by
      have := inside_move hi (l := t.getD k 0 + l) (x := ix.getD k 0) (by omega)
      rwa [set_getD] at this
    rw [if_pos (by omega), if_pos g1, glue_cell ha hb hk hin, if_pos g1]
  · rw [if_neg g1]
    by_cases g2 : ix.getD k 0 < t.getD k 0 + l
    · have hin : Inside (t.set k (t.getD k 0 + l)) ix := by
        have := inside_move hi (l := t.getD k 0 + l) (x := ix.getD k 0) (by omega)
        rwa [set_getD] at this
      have hin2 : Inside (t.set k (l + m)) (ix.set k (ix.getD k 0 - t.getD k 0)) := inside_move hi (by omega)
      have e3 := glue_cell (t := t.set k l) (k := k) (l := m) hb (by rw [List.set_set]; exact hc) (by simpa using hk) (ix := ix.set k (ix.getD k 0 - t.getD k 0)) (by rw [List.set_set, getD_set hk]; exact hin2)
      rw [if_pos g2, glue_cell ha hb hk hin, if_neg g1, e3, getD_set hkx, getD_set hk, if_pos (by omega)]
    · have hin2 : Inside (t.set k (l + m)) (ix.set k (ix.getD k 0 - t.getD k 0)) := inside_move hi (by omega)
      have e3 := glue_cell (t := t.set k l) (k := k) (l := m) hb (by rw [List.set_set]; exact hc) (by simpa using hk) (ix := ix.set k (ix.getD k 0 - t.getD k 0)) (by rw [List.set_set, getD_set hk]; exact hin2)
      rw [if_neg g2, e3, getD_set hkx, getD_set hk, if_neg (by omega), List.set_set, Nat.sub_sub]

/-- With nothing joined. -/
theorem glue_none_right {a : Arr} {t : List Nat} {k : Nat} (h : Ok a t) (hk : k < t.length) : glue k a (part k 0 0 a) = a := by
  have h2 := part_ok h hk (lo := 0) (len := 0) (by omega)
  conv => rhs; rw [h.eq_tab]
  rw [glue_def, h.nsh_eq, h2.nsh_eq, getD_set hk, Nat.add_zero, set_getD]
  refine tab_congr fun ix hi => ?_
  rw [if_pos ((inside_iff.1 hi).2 k hk)]
theorem glue_none_left {a : Arr} {t : List Nat} {k : Nat} (h : Ok a t) (hk : k < t.length) : glue k (part k 0 0 a) a = a := by
  have h2 := part_ok h hk (lo := 0) (len := 0) (by omega)
  conv => rhs; rw [h.eq_tab]
  rw [glue_def, h.nsh_eq, h2.nsh_eq, getD_set hk, Nat.zero_add, List.set_set, set_getD]
  refine tab_congr fun ix hi => ?_
  rw [if_neg (by omega), Nat.sub_zero, set_getD]

end Go.Proofs.Ytfaojciballhnaa.P
