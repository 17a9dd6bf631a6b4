/- Plain facts: the first and the last ones of an axis, reversed, taken again. Conditions: none. -/
import Derived.Test.YtamlangancaccaaCut
set_option linter.unusedSimpArgs false
set_option linter.unusedVariables false
namespace Go.Proofs.Ytamlangancaccaa.P

theorem rev_cell {a : Arr} {t ix : List Nat} {k : Nat} (h : Ok a t) (hi : Inside t ix) : (rev k a).cell ix = a.cell (ix.set k (t.getD k 0 - 1 - ix.getD k 0)) := by
  unfold rev pull
  rw [h.nsh_eq, tab_cell hi]
theorem rev_glue {a b : Arr} {t : List Nat} {k l : Nat} (ha : Ok a t) (hb : Ok b (t.set k l)) (hk : k < t.length) (hcb : b.ch = a.ch) (hg : GoodSh (t.set k (t.getD k 0 + l))) :
    rev k (glue k a b) = glue k (rev k b) (rev k a) := by
  have h1 := glue_ok ha hb hk hcb hg
  have hra := rev_ok ha (k := k)
  have hrb := rev_ok hb (k := k)
  rw [show rev k (glue k a b) = tab (glue k a b).ch (glue k a b).nsh fun ix => (glue k a b).cell (ix.set k ((glue k a b).nsh.getD k 0 - 1 - ix.getD k 0)) from rfl, h1.nsh_eq, getD_set hk]
  rw [glue_def k (rev k b) (rev k a), hra.nsh_eq, hrb.nsh_eq, getD_set hk, List.set_set, Nat.add_comm l]
  have ec : (glue k a b).ch = (rev k b).ch := hcb.symm
  rw [ec]
  refine tab_congr fun ix hi => ?_
  have hl := inside_length hi
  rw [List.length_set] at hl
  have hkx : k < ix.length := by omega
  have hik := inside_at hk hi
  have hin : Inside (t.set k (t.getD k 0 + l)) (ix.set k (t.getD k 0 + l - 1 - ix.getD k 0)) := inside_move hi (by omega)
  rw [glue_cell ha hb hk hin, getD_set hkx, List.set_set]
  by_cases g : ix.getD k 0 < l
  · rw [if_neg (by omega), if_pos g]
    have hin2 : Inside (t.set k l) ix := by
      have := inside_move hi g
      rwa [set_getD] at this
    rw [rev_cell hb hin2, getD_set hk]
    rw [show t.getD k 0 + l - 1 - ix.getD k 0 - t.getD k 0 = l - 1 - ix.getD k 0 by omega]
  · rw [if_pos (by omega), if_neg g]
    have hin2 : Inside t (ix.set k (ix.getD k 0 - l)) := by
      have := inside_move hi (l := t.getD k 0) (x := ix.getD k 0 - l) (by omega)
      rwa [set_getD] at this
    rw [rev_cell ha hin2, getD_set hkx, List.set_set]
    rw [show t.getD k 0 + l - 1 - ix.getD k 0 = t.getD k 0 - 1 - (ix.getD k 0 - l) by omega]

theorem rev_part {a : Arr} {t : List Nat} {k x : Nat} (h : Ok a t) (hk : k < t.length) (hx : x ≤ t.getD k 0) : rev k (part k 0 x a) = part k (t.getD k 0 - x) x (rev k a) := by
  have h1 := part_ok h hk (lo := 0) (len := x) (by omega)
  have hr := rev_ok h (k := k)
  rw [show rev k (part k 0 x a) = tab (part k 0 x a).ch (part k 0 x a).nsh fun ix => (part k 0 x a).cell (ix.set k ((part k 0 x a).nsh.getD k 0 - 1 - ix.getD k 0)) from rfl, h1.nsh_eq, getD_set hk]
  rw [part_def k (t.getD k 0 - x) x (rev k a), hr.nsh_eq]
  refine tab_congr fun ix hi => ?_
  have hl := inside_length hi
  rw [List.length_set] at hl
  have hkx : k < ix.length := by omega
  have hik := inside_at hk hi
  have hin : Inside (t.set k x) (ix.set k (x - 1 - ix.getD k 0)) := inside_move hi (by omega)
  have hin2 : Inside t (ix.set k (ix.getD k 0 + (t.getD k 0 - x))) := by
    have := inside_move hi (l := t.getD k 0) (x := ix.getD k 0 + (t.getD k 0 - x)) (by omega)
    rwa [set_getD] at this
  rw [part_cell h hin, getD_set hkx, List.set_set, rev_cell h hin2, getD_set hkx, List.set_set]
  rw [show x - 1 - ix.getD k 0 + 0 = t.getD k 0 - 1 - (ix.getD k 0 + (t.getD k 0 - x)) by omega]

theorem part_part {a : Arr} {t : List Nat} {k lo len lo2 len2 : Nat} (h : Ok a t) (hk : k < t.length) (hb : lo + len ≤ t.getD k 0) (hb2 : lo2 + len2 ≤ len) :
    part k lo2 len2 (part k lo len a) = part k (lo + lo2) len2 a := by
  have h1 := part_ok h hk hb
  rw [part_def k lo2 len2 (part k lo len a), h1.nsh_eq, List.set_set, part_def k (lo + lo2), h.nsh_eq]
  refine tab_congr fun ix hi => ?_
  have hl := inside_length hi
  rw [List.length_set] at hl
  have hkx : k < ix.length := by omega
  have hik := inside_at hk hi
  have hin : Inside (t.set k len) (ix.set k (ix.getD k 0 + lo2)) := inside_move hi (by omega)
  rw [part_cell h hin, getD_set hkx, List.set_set, show ix.getD k 0 + lo2 + lo = ix.getD k 0 + (lo + lo2) by omega]
theorem part_empty {a : Arr} {t : List Nat} {k lo lo2 : Nat} (h : Ok a t) (hk : k < t.length) : part k lo 0 a = part k lo2 0 a := by
  unfold part
  rw [h.nsh_eq]
  refine tab_congr fun ix hi => ?_
  have := inside_at hk hi
  omega
theorem part_all {a : Arr} {t : List Nat} {k : Nat} (h : Ok a t) : part k 0 (t.getD k 0) a = a := by
  conv => rhs; rw [h.eq_tab]
  unfold part
  rw [h.nsh_eq, set_getD]
  refine tab_congr fun ix hi => ?_
  rw [Nat.add_zero, set_getD]

def takeSh (n : List Int) : List Nat := n.map Int.natAbs
def takeFr (n : List Int) (t : List Nat) : List Int := List.zipWith (fun (m : Int) (l : Nat) => if m < 0 then (l : Int) + m else 0) n t
def takeFar (n : List Int) : Prop := ∃ m ∈ n, 4096 < m ∨ m < -4096
instance (n : List Int) : Decidable (takeFar n) := inferInstanceAs (Decidable (∃ m ∈ n, _))
def takeErr (n : List Int) (a : Arr) : Int :=
  if arrErr a ≠ 0 then arrErr a else if n.length ≠ a.sh.length then 4 else if takeFar n then 7 else cntErr (ints (takeSh n))
def take (n : List Int) (a : Arr) : Arr := win (takeFr n a.nsh) (takeSh n) a

theorem takeErr_zero {n : List Int} {a : Arr} (h : takeErr n a = 0) : ∃ t, Ok a t ∧ n.length = t.length ∧ GoodSh (takeSh n) ∧ ¬ takeFar n := by
  unfold takeErr at h
  by_cases h1 : arrErr a ≠ 0
  · rw [if_pos h1] at h; exact absurd h h1
  · rw [if_neg h1] at h
    obtain ⟨t, ht⟩ := ok_of_arrErr (by simpa using h1)
    have hl : a.sh.length = t.length := by rw [ht.sh, length_ints]
    by_cases h2 : n.length ≠ a.sh.length
    · rw [if_pos h2] at h; omega
    · rw [if_neg h2] at h
      by_cases h3 : takeFar n
      · rw [if_pos h3] at h; omega
      · rw [if_neg h3] at h
        obtain ⟨u, hu, hg⟩ := cntErr_zero h
        rw [ints_inj hu]
        exact ⟨t, ht, by omega, hg, h3⟩
theorem takeErr_ok {n : List Int} {a : Arr} {t : List Nat} (h : Ok a t) (hl : n.length = t.length) (hg : GoodSh (takeSh n)) : takeErr n a = 0 ∧ ¬ takeFar n := by
  have hf : ¬ takeFar n := by
    rintro ⟨m, hm, hc⟩
    have := hg.2.1 m.natAbs (List.mem_map.2 ⟨m, hm, rfl⟩)
    omega
  refine ⟨?_, hf⟩
  unfold takeErr
  rw [arrErr_ok h, h.sh, length_ints, if_neg (by simp), if_neg (by omega), if_neg hf, cntErr_ints hg]
theorem takeSh_length (n : List Int) : (takeSh n).length = n.length := by simp [takeSh]
theorem takeFr_length (n : List Int) (t : List Nat) : (takeFr n t).length = min n.length t.length := by simp [takeFr]
theorem take_ok {n : List Int} {a : Arr} {t : List Nat} (h : Ok a t) (hl : n.length = t.length) (hg : GoodSh (takeSh n)) : Ok (take n a) (takeSh n) := by
  unfold take
  rw [h.nsh_eq]
  exact win_ok h hg (by rw [takeSh_length]; exact hl) (by rw [takeFr_length]; omega)

theorem takeSh_set (t : List Nat) (k : Nat) (x : Int) : takeSh ((ints t).set k x) = t.set k x.natAbs := by
  unfold takeSh
  rw [List.map_set]
  congr 1
  unfold ints
  rw [List.map_map]
  conv => rhs; rw [← List.map_id t]
  apply List.map_congr_left
  intro n _
  simp
theorem takeFr_set {t : List Nat} {k : Nat} (hk : k < t.length) (x : Int) : takeFr ((ints t).set k x) t = (List.replicate t.length 0).set k (if x < 0 then (t.getD k 0 : Int) + x else 0) := by
  apply List.ext_getElem?
  intro j
  by_cases hj : j < t.length
  · have h1 : j < (ints t).length := by rw [length_ints]; exact hj
    have e : (ints t)[j] = (t[j] : Int) := by simp [ints]
    by_cases hjk : k = j
    · subst hjk
      simp [takeFr, List.getElem?_zipWith, hj, h1, List.getD_eq_getElem?_getD]
    · simp [takeFr, List.getElem?_zipWith, hj, h1, hjk, e]
      omega
  · rw [List.getElem?_eq_none (by rw [takeFr_length, List.length_set, length_ints]; omega), List.getElem?_eq_none (by simp; omega)]

theorem take_first {a : Arr} {t : List Nat} {k x : Nat} (h : Ok a t) (hk : k < t.length) (hx : x ≤ t.getD k 0) : take ((ints t).set k (x : Int)) a = part k 0 x a := by
  unfold take
  rw [h.nsh_eq, takeSh_set, takeFr_set hk, if_neg (by omega), Int.natAbs_natCast]
  exact win_part h hk (lo := 0) (len := x) (by omega)
theorem take_last {a : Arr} {t : List Nat} {k x : Nat} (h : Ok a t) (hk : k < t.length) (hx : x ≤ t.getD k 0) : take ((ints t).set k (-(x : Int))) a = part k (t.getD k 0 - x) x a := by
  unfold take
  rw [h.nsh_eq, takeSh_set, takeFr_set hk, Int.natAbs_neg, Int.natAbs_natCast]
  by_cases hz : x = 0
  · subst hz
    rw [if_neg (by omega), part_empty h hk (lo2 := 0)]
    exact win_part h hk (lo := 0) (len := 0) (by omega)
  · rw [if_pos (by omega)]
    have e : (t.getD k 0 : Int) + -(x : Int) = ((t.getD k 0 - x : Nat) : Int) := by omega
    rw [e]
    exact win_part h hk (by omega)
theorem take_fine {a : Arr} {t : List Nat} {k : Nat} {x : Int} (h : Ok a t) (hk : k < t.length) (hx : x.natAbs ≤ t.getD k 0) : takeErr ((ints t).set k x) a = 0 :=
  (takeErr_ok h (by rw [List.length_set, length_ints]) (by rw [takeSh_set]; exact good_less h.good hk hx)).1

def clamp (m : Int) (l : Nat) : Int := min (max m (-(l : Int))) l
def dropSh (n : List Int) (t : List Nat) : List Nat := List.zipWith (fun (m : Int) (l : Nat) => if 0 ≤ clamp m l then l - (clamp m l).toNat else ((l : Int) + clamp m l).toNat) n t
def dropFr (n : List Int) (t : List Nat) : List Int := List.zipWith (fun (m : Int) (l : Nat) => if 0 ≤ clamp m l then clamp m l else 0) n t
def dropErr (n : List Int) (a : Arr) : Int := if arrErr a ≠ 0 then arrErr a else if n.length ≠ a.sh.length then 4 else 0
def drop (n : List Int) (a : Arr) : Arr := win (dropFr n a.nsh) (dropSh n a.nsh) a

theorem dropErr_zero {n : List Int} {a : Arr} (h : dropErr n a = 0) : ∃ t, Ok a t ∧ n.length = t.length := by
  unfold dropErr at h
  by_cases h1 : arrErr a ≠ 0
  · rw [if_pos h1] at h; exact absurd h h1
  · rw [if_neg h1] at h
    obtain ⟨t, ht⟩ := ok_of_arrErr (by simpa using h1)
    have hl : a.sh.length = t.length := by rw [ht.sh, length_ints]
    by_cases h2 : n.length ≠ a.sh.length
    · rw [if_pos h2] at h; omega
    · exact ⟨t, ht, by omega⟩
theorem dropErr_ok {n : List Int} {a : Arr} {t : List Nat} (h : Ok a t) (hl : n.length = t.length) : dropErr n a = 0 := by
  unfold dropErr
  rw [arrErr_ok h, h.sh, length_ints, if_neg (by simp), if_neg (by omega)]
theorem dropSh_length (n : List Int) (t : List Nat) : (dropSh n t).length = min n.length t.length := by simp [dropSh]
theorem dropFr_length (n : List Int) (t : List Nat) : (dropFr n t).length = min n.length t.length := by simp [dropFr]
theorem prod_mono : ∀ {s t : List Nat}, s.length = t.length → (∀ k, k < t.length → s.getD k 0 ≤ t.getD k 0) → prod s ≤ prod t
  | [], [], _, _ => Nat.le_refl _
  | n :: s, m :: t, hl, h => by
    have h0 := h 0 (by simp)
    have ih := prod_mono (s := s) (t := t) (by simpa using hl) (fun k hk => by simpa using h (k + 1) (by simpa using hk))
    simp only [List.getD_cons_zero] at h0
    exact Nat.mul_le_mul h0 ih
  | [], _ :: _, h, _ => by simp at h
  | _ :: _, [], h, _ => by simp at h
theorem dropSh_le {n : List Int} {t : List Nat} (hl : n.length = t.length) {k : Nat} (hk : k < t.length) : (dropSh n t).getD k 0 ≤ t.getD k 0 := by
  have hk' : k < n.length := by omega
  simp only [dropSh, List.getD_eq_getElem?_getD, List.getElem?_zipWith, List.getElem?_eq_getElem hk, List.getElem?_eq_getElem hk', Option.getD_some]
  split <;> omega
theorem dropSh_good {n : List Int} {t : List Nat} (hl : n.length = t.length) (h : GoodSh t) : GoodSh (dropSh n t) := by
  refine ⟨by rw [dropSh_length]; have := h.1; omega, fun x hx => ?_, Nat.le_trans (prod_mono (by rw [dropSh_length]; omega) fun k hk => dropSh_le hl hk) h.2.2⟩
  obtain ⟨k, hk, rfl⟩ := mem_getD hx
  rw [dropSh_length] at hk
  have hk' : k < t.length := by omega
  exact Nat.le_trans (dropSh_le hl hk') (h.2.1 _ (by rw [getD_lt hk']; exact List.getElem_mem hk'))
theorem drop_ok {n : List Int} {a : Arr} {t : List Nat} (h : Ok a t) (hl : n.length = t.length) : Ok (drop n a) (dropSh n t) := by
  unfold drop
  rw [h.nsh_eq]
  exact win_ok h (dropSh_good hl h.good) (by rw [dropSh_length]; omega) (by rw [dropFr_length]; omega)

theorem clamp_zero (l : Nat) : clamp 0 l = 0 := by unfold clamp; omega
theorem dropSh_set {t : List Nat} {k : Nat} (hk : k < t.length) {x : Int} (hx : x.natAbs ≤ t.getD k 0) : dropSh ((List.replicate t.length 0).set k x) t = t.set k (t.getD k 0 - x.natAbs) := by
  apply ext_getD (by rw [dropSh_length]; simp)
  intro j hj
  rw [dropSh_length, List.length_set, List.length_replicate] at hj
  have hj' : j < t.length := by omega
  rw [getD_set_if hj']
  by_cases e : k = j
  · subst e
    rw [if_pos rfl]
    have hx' := hx
    simp only [List.getD_eq_getElem?_getD, List.getElem?_eq_getElem hj', Option.getD_some] at hx' ⊢
    simp [dropSh, List.getElem?_zipWith, hj', clamp]
    split <;> omega
  · rw [if_neg e]
    simp [dropSh, List.getD_eq_getElem?_getD, List.getElem?_zipWith, hj', e, clamp_zero]
theorem dropFr_set {t : List Nat} {k : Nat} (hk : k < t.length) {x : Int} (hx : x.natAbs ≤ t.getD k 0) : dropFr ((List.replicate t.length 0).set k x) t = (List.replicate t.length 0).set k (if 0 ≤ x then x else 0) := by
  apply List.ext_getElem?
  intro j
  by_cases hj : j < t.length
  · by_cases e : k = j
    · subst e
      have hx' := hx
      simp only [List.getD_eq_getElem?_getD, List.getElem?_eq_getElem hj, Option.getD_some] at hx'
      simp [dropFr, List.getElem?_zipWith, hj, clamp]
      omega
    · simp [dropFr, List.getElem?_zipWith, hj, e, clamp_zero]
  · rw [List.getElem?_eq_none (by rw [dropFr_length, List.length_set, List.length_replicate]; omega), List.getElem?_eq_none (by simp; omega)]
theorem drop_first {a : Arr} {t : List Nat} {k x : Nat} (h : Ok a t) (hk : k < t.length) (hx : x ≤ t.getD k 0) : drop ((List.replicate t.length 0).set k (x : Int)) a = part k x (t.getD k 0 - x) a := by
  unfold drop
  rw [h.nsh_eq, dropSh_set hk (by omega), dropFr_set hk (by omega), if_pos (by omega), Int.natAbs_natCast]
  exact win_part h hk (by omega)
theorem drop_last {a : Arr} {t : List Nat} {k x : Nat} (h : Ok a t) (hk : k < t.length) (hx : x ≤ t.getD k 0) : drop ((List.replicate t.length 0).set k (-(x : Int))) a = part k 0 (t.getD k 0 - x) a := by
  unfold drop
  rw [h.nsh_eq, dropSh_set hk (by omega), dropFr_set hk (by omega), Int.natAbs_neg, Int.natAbs_natCast]
  by_cases hz : x = 0
  · subst hz
    rw [if_pos (by omega)]
    exact win_part h hk (lo := 0) (by omega)
  · rw [if_neg (by omega)]
    exact win_part h hk (lo := 0) (by omega)

/-- The first ones of a line. -/
def first (m : Nat) (a : Arr) : Arr := tab a.ch [m] fun ix => if ix.getD 0 0 < a.nsh.getD 0 0 then a.cell ix else fillOf a.ch
theorem take_line {a : Arr} {l m : Nat} (h : Ok a [l]) : take [(m : Int)] a = first m a := by
  unfold take win first
  rw [h.nsh_eq]
  have e1 : takeSh [(m : Int)] = [m] := by simp [takeSh]
  have e2 : takeFr [(m : Int)] [l] = [0] := by simp [takeFr]; omega
  rw [e1, e2]
  refine tab_congr fun ix hi => ?_
  match ix, hi with
  | [i], _ =>
    have e3 : adds [i] [0] = [(i : Int)] := by simp [adds]
    rw [e3]
    simp only [List.length_singleton, List.getD_cons_zero, List.map_cons, List.map_nil, Int.toNat_natCast]
    by_cases c : i < l
    · have hw : WinIn [l] [(i : Int)] 1 := by
        intro m hm
        have e : m = 0 := by omega
        rw [e]
        exact ⟨by simp, by simpa using c⟩
      rw [if_pos c, if_pos hw]
    · have hw : ¬ WinIn [l] [(i : Int)] 1 := by
        intro hw
        have h2 := (hw 0 (by omega)).2
        simp at h2
        omega
      rw [if_neg c, if_neg hw]
theorem first_nsh (m : Nat) (a : Arr) : (first m a).nsh = [m] := tab_nsh _ _ _
theorem good_line {m : Nat} (h : m ≤ 4096) : GoodSh [m] := ⟨by simp, by simpa using h, by simp [prod]; exact h⟩
theorem first_ok {a : Arr} {l m : Nat} (h : Ok a [l]) (hm : m ≤ 4096) : Ok (first m a) [m] := by
  unfold first
  rw [h.nsh_eq]
  refine ok_tab (good_line hm) fun hc ix hi => ?_
  split
  · rename_i hlt
    match ix, hi with
    | [i], _ => exact h.rune_cell hc (by simpa [Inside] using hlt)
  · exact fill_fine _
theorem first_first {a : Arr} {m n : Nat} (h : n ≤ m) : first n (first m a) = first n a := by
  rw [show first n (first m a) = tab (first m a).ch [n] fun ix => if ix.getD 0 0 < (first m a).nsh.getD 0 0 then (first m a).cell ix else fillOf (first m a).ch from rfl, first_nsh]
  rw [show first n a = tab a.ch [n] fun ix => if ix.getD 0 0 < a.nsh.getD 0 0 then a.cell ix else fillOf a.ch from rfl]
  refine tab_congr fun ix hi => ?_
  match ix, hi with
  | [i], hi =>
    have hi' : i < n := hi.1
    simp only [List.getD_cons_zero]
    rw [if_pos (by omega), show (first m a).cell [i] = (tab a.ch [m] fun ix => if ix.getD 0 0 < a.nsh.getD 0 0 then a.cell ix else fillOf a.ch).cell [i] from rfl, tab_cell (by simp [Inside]; omega)]
    rfl

theorem drop_line {a : Arr} {l m : Nat} (h : Ok a [l]) : drop [(m : Int)] a = part 0 (min m l) (l - min m l) a := by
  have e : drop [(m : Int)] a = drop [((min m l : Nat) : Int)] a := by
    unfold drop
    rw [h.nsh_eq]
    have : clamp (m : Int) l = clamp ((min m l : Nat) : Int) l := by unfold clamp; omega
    simp only [dropFr, dropSh, List.zipWith_cons_cons, List.zipWith_nil_left, this]
  rw [e]
  exact drop_first (t := [l]) (k := 0) (x := min m l) h (by simp) (by simp; omega)

end Go.Proofs.Ytamlangancaccaa.P
