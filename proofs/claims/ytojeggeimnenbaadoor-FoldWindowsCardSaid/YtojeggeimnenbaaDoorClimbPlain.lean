/- What is folded so far: of a list of one axis; and the greatest so far. Conditions: none. -/
import Derived.Test.YtojeggeimnenbaaDoorFoldScan
set_option linter.unusedSimpArgs false
set_option linter.unusedVariables false
namespace Go.Proofs.YtojeggeimnenbaaDoor.P
/-- What folds so far. -/
def scan1 (f : Int) (d : List Int) : List Int := (List.range d.length).map fun q => (ofR f (d.take (q + 1))).1
theorem scan1_len (f : Int) (d : List Int) : (scan1 f d).length = d.length := by unfold scan1; rw [List.length_map, List.length_range]
theorem scan1_get {f : Int} {d : List Int} {q : Nat} (h : q < d.length) : (scan1 f d)[q]? = some (ofR f (d.take (q + 1))).1 := by
  unfold scan1
  rw [List.getElem?_map, List.getElem?_range h]; rfl
theorem scan1_getD {f : Int} {d : List Int} {q : Nat} (h : q < d.length) : (scan1 f d).getD q 0 = (ofR f (d.take (q + 1))).1 := by rw [List.getD_eq_getElem?_getD, scan1_get h]; rfl
/-- Functions that fail at no number. -/
def Tame (f : Int) : Prop := 1 ≤ f ∧ f ≤ 16 ∧ f ≠ 4 ∧ f ≠ 16
theorem Tame.two {f : Int} (h : Tame f) (a b : Int) : twoE f a b = 0 := twoE_ok h.1 h.2.1 (fun e => absurd e h.2.2.1) (fun e => absurd e h.2.2.2)
theorem Tame.of {f : Int} (h : Tame f) : ∀ {l : List Int}, l ≠ [] → (ofR f l).2 = 0
  | [], hl => absurd rfl hl
  | [x], _ => rfl
  | x :: y :: l, _ => by
    rw [ofR_cons (by simp), h.of (l := y :: l) (by simp)]
    simp [h.two]
theorem Tame.cons {f : Int} (h : Tame f) {x : Int} {l : List Int} (hl : l ≠ []) : (ofR f (x :: l)).1 = twoV f x (ofR f l).1 := by
  rw [ofR_cons hl, h.of hl]; simp
theorem tame_max : Tame 6 := ⟨by omega, by omega, by omega, by omega⟩
theorem two_max (a b : Int) : twoV 6 a b = max a b := by unfold twoV; simp
theorem top_mem : ∀ {l : List Int}, l ≠ [] → (ofR 6 l).1 ∈ l
  | [], hl => absurd rfl hl
  | [x], _ => by simp [ofR]
  | x :: y :: l, _ => by
    rw [tame_max.cons (by simp), two_max]
    have := top_mem (l := y :: l) (by simp)
    rcases Int.le_total x (ofR 6 (y :: l)).1 with h | h
    · rw [Int.max_eq_right h]; exact List.mem_cons_of_mem _ this
    · rw [Int.max_eq_left h]; exact List.mem_cons_self
theorem top_le : ∀ {l : List Int} {x : Int}, x ∈ l → x ≤ (ofR 6 l).1
  | [], x, h => by simp at h
  | [y], x, h => by simp at h; subst h; exact Int.le_refl _
  | z :: y :: l, x, h => by
    rw [tame_max.cons (by simp), two_max]
    rcases List.mem_cons.1 h with rfl | h
    · exact Int.le_max_left _ _
    · exact Int.le_trans (top_le (l := y :: l) h) (Int.le_max_right _ _)
theorem top_is {l : List Int} {x : Int} (h : x ∈ l) (h2 : ∀ y ∈ l, y ≤ x) : (ofR 6 l).1 = x := by
  have h3 := top_mem (l := l) (fun e => by rw [e] at h; simp at h)
  have := top_le h
  have := h2 _ h3
  omega
theorem take_ne {d : List Int} {q : Nat} (h : q < d.length) : d.take (q + 1) ≠ [] := fun e => by
  have := congrArg List.length e
  rw [List.length_take, List.length_nil] at this
  omega
theorem mem_take_at {d : List Int} {j q : Nat} {x : Int} (h : d[j]? = some x) (hj : j ≤ q) : x ∈ d.take (q + 1) :=
  List.mem_iff_getElem?.2 ⟨j, by rw [List.getElem?_take, if_pos (by omega)]; exact h⟩
theorem climb_ge {d : List Int} {q : Nat} {x y : Int} (hx : (scan1 6 d)[q]? = some x) (hy : d[q]? = some y) : y ≤ x := by
  have hq := (List.getElem?_eq_some_iff.1 hy).1
  rw [scan1_get hq] at hx; injection hx with hx; subst hx
  exact top_le (mem_take_at hy (Nat.le_refl _))
theorem climb_rise {d : List Int} {j q : Nat} {x y : Int} (hj : j ≤ q) (hx : (scan1 6 d)[j]? = some x) (hy : (scan1 6 d)[q]? = some y) : x ≤ y := by
  have hq := (List.getElem?_eq_some_iff.1 hy).1
  rw [scan1_len] at hq
  rw [scan1_get hq] at hy; injection hy with hy; subst hy
  rw [scan1_get (by omega)] at hx; injection hx with hx; subst hx
  have h1 := top_mem (take_ne (show j < d.length by omega))
  obtain ⟨i, hi⟩ := List.mem_iff_getElem?.1 h1
  rw [List.getElem?_take] at hi
  split at hi
  · exact top_le (mem_take_at hi (by omega))
  · cases hi
theorem climb_one {d : List Int} {q : Nat} {x y z : Int} (hx : (scan1 6 d)[q + 1]? = some x) (hy : d[q + 1]? = some y) (hz : (scan1 6 d)[q]? = some z) (h : x ≠ y) : x = z := by
  have h0 := climb_rise (Nat.le_succ q) hz hx
  have hq := (List.getElem?_eq_some_iff.1 hy).1
  rw [scan1_get hq] at hx; injection hx with hx; subst hx
  rw [scan1_get (by omega)] at hz; injection hz with hz; subst hz
  have h1 := top_mem (take_ne hq)
  obtain ⟨i, hi⟩ := List.mem_iff_getElem?.1 h1
  rw [List.getElem?_take] at hi
  split at hi
  · rcases Nat.lt_or_ge i (q + 1) with h2 | h2
    · have := top_le (mem_take_at hi (show i ≤ q by omega))
      omega
    · rw [show i = q + 1 by omega, hy] at hi
      injection hi with hi
      exact absurd hi.symm h
  · cases hi
theorem climb_zero {d : List Int} {x y : Int} (hx : (scan1 6 d)[0]? = some x) (hy : d[0]? = some y) : x = y := by
  have hq := (List.getElem?_eq_some_iff.1 hy).1
  rw [scan1_get hq] at hx; injection hx with hx; subst hx
  cases d with
  | nil => simp at hq
  | cons z d => simp at hy; subst hy; simp [ofR]
theorem climb_twice (d : List Int) : scan1 6 (scan1 6 d) = scan1 6 d := by
  refine List.ext_getElem? fun q => ?_
  rcases Nat.lt_or_ge q d.length with hq | hq
  · obtain ⟨x, hx⟩ : ∃ x, (scan1 6 d)[q]? = some x := ⟨_, scan1_get hq⟩
    rw [scan1_get (by rw [scan1_len]; exact hq), hx]
    refine congrArg some (top_is (mem_take_at hx (Nat.le_refl _)) fun y hy => ?_)
    obtain ⟨i, hi⟩ := List.mem_iff_getElem?.1 hy
    rw [List.getElem?_take] at hi
    split at hi
    · exact climb_rise (by omega) hi hx
    · cases hi
  · rw [List.getElem?_eq_none (by rw [scan1_len, scan1_len]; exact hq), List.getElem?_eq_none (by rw [scan1_len]; exact hq)]
theorem climb_wf {d : List Int} (h : Wf d) : Wf (scan1 6 d) := by
  intro x hx
  obtain ⟨q, hq⟩ := List.mem_iff_getElem?.1 hx
  have hl := (List.getElem?_eq_some_iff.1 hq).1
  rw [scan1_len] at hl
  rw [scan1_get hl] at hq; injection hq with hq; subst hq
  exact h _ (List.mem_of_mem_take (top_mem (take_ne hl)))
theorem one_line {m : Nat} : lineF [m] 0 = (1, m, 1) := by
  unfold lineF
  rw [if_neg]
  · simp [outerOf, innerOf, prod]
  · rintro ⟨j, hj, hne, -⟩
    simp at hj; omega
theorem one_lnS {a : Arr} {m q : Nat} (h : Ok a [m]) (hq : q < m) : Go.Proofs.YtojeggeimnenbaaDoor.lnS a [m] 0 q = a.da.take (q + 1) := by
  have hl : a.da.length = m := by rw [h.len]; simp [prod]
  unfold Go.Proofs.YtojeggeimnenbaaDoor.lnS lnAt Go.Proofs.YtojeggeimnenbaaDoor.fline
  rw [one_line]
  refine List.ext_getElem? fun j => ?_
  simp only [List.getD_cons_zero, Nat.div_one, Nat.mod_one, Nat.mul_one, Nat.add_zero, Nat.mod_eq_of_lt hq, Nat.div_eq_of_lt hq, Nat.zero_mul, Nat.zero_add, List.getElem?_map]
  rw [List.getElem?_take]
  by_cases hj : j < q + 1
  · rw [List.getElem?_range hj, if_pos hj, List.getElem?_eq_getElem (show j < a.da.length by omega)]
    simp [List.getD_eq_getElem?_getD, List.getElem?_eq_getElem (show j < a.da.length by omega)]
  · rw [if_neg hj, List.getElem?_eq_none (by rw [List.length_range]; omega)]; rfl
end Go.Proofs.YtojeggeimnenbaaDoor.P
namespace Go.Proofs.YtojeggeimnenbaaDoor
open Go Go.RowKit Go.Proofs.YtojeggeimnenbaaDoor.P
theorem scan_vec {v : Value} {a : Arr} {m : Nat} {w : World} {f : Int} (ha : IsArr w v a) (h : Ok a [m]) (hf : Tame f) (hc : a.ch = false) (hw : Wf a.da) :
    Calls Tryd.prog 13 #[.int .i64 f, .int .i64 0, v] w (GivesOk ⟨false, a.sh, scan1 f a.da⟩ w) := by
  have hl : a.da.length = m := by rw [h.len]; simp [prod]
  have hp : prod [m] = m := by simp [prod]
  refine (scan_ok (k := 0) ha h (by simp) (hf.two 0 1) hc hw).mono fun e w' h6 => ?_
  rcases h6 with ⟨-, h7⟩ | ⟨q, hq, -, hz, -⟩
  · have e : scan1 f a.da = (List.range (prod [m])).map fun q => (ofR f (lnS a [m] 0 q)).1 := by
      unfold scan1
      rw [hp, hl]
      refine List.map_congr_left fun q hq => ?_
      rw [one_lnS h (List.mem_range.1 hq)]
    rw [e]; exact h7
  · rw [hp] at hq
    rw [one_lnS h hq] at hz
    exact absurd (hf.of (take_ne (by omega))) hz
end Go.Proofs.YtojeggeimnenbaaDoor
