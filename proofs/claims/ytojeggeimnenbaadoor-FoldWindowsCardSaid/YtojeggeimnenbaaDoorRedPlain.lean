/- What fold's functions tell, errors and all: the plain part of the cards. Conditions: none. -/
import Derived.Test.YtojeggeimnenbaaDoorFubini
import Derived.Test.YtojeggeimnenbaaDoorRefFlaw
import Derived.Test.YtojeggeimnenbaaDoorRefLine
set_option linter.unusedSimpArgs false
set_option linter.unusedVariables false
namespace Go.Proofs.YtojeggeimnenbaaDoor.P
open Go Go.RowKit
/-- The first error of some. -/
def firstErr (p : Nat → Int) : Nat → Int
  | 0 => 0
  | n + 1 => if firstErr p n ≠ 0 then firstErr p n else p n
theorem firstErr_zero {p : Nat → Int} : ∀ {n : Nat}, (∀ q, q < n → p q = 0) → firstErr p n = 0
  | 0, _ => rfl
  | n + 1, h => by
    show (if firstErr p n ≠ 0 then firstErr p n else p n) = 0
    rw [if_neg (fun k => k (firstErr_zero fun q hq => h q (by omega))), h n (by omega)]
theorem firstErr_at {p : Nat → Int} {q : Nat} (h : ∀ q', q' < q → p q' = 0) (hq : p q ≠ 0) : ∀ {n : Nat}, q < n → firstErr p n = p q
  | 0, hn => absurd hn (Nat.not_lt_zero _)
  | n + 1, hn => by
    show (if firstErr p n ≠ 0 then firstErr p n else p n) = p q
    rcases Nat.lt_or_ge q n with h1 | h1
    · rw [firstErr_at h hq h1, if_pos hq]
    · obtain rfl : q = n := by omega
      rw [if_neg (fun k => k (firstErr_zero h))]
noncomputable def redFault (f axis : Int) (a : Arr) : Int :=
  if foldErr f axis a ≠ 0 then foldErr f axis a else
  if Go.Proofs.YtojeggeimnenbaaDoor.redErr f a.nsh axis.toNat ≠ 0 then Go.Proofs.YtojeggeimnenbaaDoor.redErr f a.nsh axis.toNat else
  firstErr (fun q => (ofR f (Go.Proofs.YtojeggeimnenbaaDoor.lnR a a.nsh axis.toNat q)).2) ((lineF a.nsh axis.toNat).1 * (lineF a.nsh axis.toNat).2.2)
theorem grow_none : ∀ {s : List Nat} {p : Nat}, 0 ∉ s → 4096 < p * prod s → grow (p : Int) (ints s) = none ∨ (s = [] ∧ 4096 < p)
  | [], p, _, h => .inr ⟨rfl, by simpa [prod] using h⟩
  | n :: s, p, h0, h => by
    have h1 : 0 ∉ s := fun e => h0 (List.mem_cons_of_mem _ e)
    show (if (4096 : Int) < (p : Int) * (n : Int) then none else grow ((p : Int) * (n : Int)) (ints s)) = none ∨ _
    by_cases hc : 4096 < p * n
    · left; rw [if_pos (by rw [← Int.natCast_mul]; omega)]
    · rw [if_neg (by rw [← Int.natCast_mul]; omega), ← Int.natCast_mul]
      rcases grow_none (p := p * n) h1 (by rw [Nat.mul_assoc]; exact h) with h2 | ⟨-, h2⟩
      · exact .inl h2
      · omega
theorem cntErr_big {s : List Nat} (hl : s.length ≤ 6) (h4 : ∀ n ∈ s, n ≤ 4096) : cntErr (ints s) = if 4096 < prod s then 7 else 0 := by
  by_cases h : 4096 < prod s
  · rw [if_pos h]
    have h0 : 0 ∉ s := fun e => by rw [prod_zero e] at h; omega
    unfold cntErr
    rw [length_ints, if_neg (by omega), if_neg (by rw [scanErr_ints h4]; simp), if_neg (fun e => h0 (mem_ints_zero.1 e))]
    rcases grow_none (s := s) (p := 1) h0 (by rw [Nat.one_mul]; exact h) with h2 | ⟨-, h2⟩
    · have h3 : grow 1 (ints s) = none := h2
      rw [h3]
    · omega
  · rw [if_neg h]; exact cntErr_ints ⟨hl, h4, by omega⟩
/-- The indices of a line. -/
def through (c : List Nat) (k : Nat) : List Nat := c.take k ++ 0 :: c.drop k
theorem place_through {A C : List Nat} {m j : Nat} {c : List Nat} (hc : Inside (A ++ C) c) : place (A ++ m :: C) ((through c A.length).set A.length j) = (place (A ++ C) c / prod C * m + j) * prod C + place (A ++ C) c % prod C := by
  have hl := inside_length hc
  rw [List.length_append] at hl
  have h1 : (c.take A.length).length = A.length := by rw [List.length_take]; omega
  have e1 : (through c A.length).set A.length j = c.take A.length ++ j :: c.drop A.length := by
    unfold through
    rw [List.set_append, if_neg (by omega), h1, Nat.sub_self]; rfl
  have e2 : place (A ++ C) c = place A (c.take A.length) * prod C + place C (c.drop A.length) := by
    have := place_append (s := A) (a := c.take A.length) C (c.drop A.length) h1
    rwa [List.take_append_drop] at this
  have h3 : Inside C (c.drop A.length) := by
    have := (inside_append (s := A) (a := c.take A.length) C (c.drop A.length) h1).1 (by rw [List.take_append_drop]; exact hc)
    exact this.2
  have h4 := place_lt h3
  obtain ⟨d1, d2⟩ := div_mix h4 e2
  rw [e1, place_append _ _ h1, d1, d2]
  show place A (c.take A.length) * (m * prod C) + (j * prod C + place C (c.drop A.length)) = _
  rw [Nat.add_mul, Nat.mul_assoc]; omega
theorem through_line {a : Arr} {t c : List Nat} {k q : Nat} (hk : k < t.length) (hq : q < prod (t.eraseIdx k)) (hc : c = coords (t.eraseIdx k) q) :
    Go.Proofs.YtojeggeimnenbaaDoor.rline a t (through c k) k 0 (t.getD k 0) = Go.Proofs.YtojeggeimnenbaaDoor.lnR a t k q := by
  have hq' : q < (lineF t k).1 * (lineF t k).2.2 := by rw [but_prod hk]; exact hq
  rw [lnR_eq hq']
  unfold Go.Proofs.YtojeggeimnenbaaDoor.rline
  refine List.map_congr_left fun j _ => ?_
  obtain ⟨A, m, C, rfl, rfl⟩ := split_axis hk
  obtain ⟨-, gg, ii, ee⟩ := mid_axis A C m
  rw [ee] at hq hc
  rw [gg, ii, Nat.zero_add, place_through (by rw [hc]; exact coords_inside hq), hc, place_coords hq]
end Go.Proofs.YtojeggeimnenbaaDoor.P
namespace Go.Proofs.YtojeggeimnenbaaDoor
open Go Go.RowKit Go.Proofs.YtojeggeimnenbaaDoor.P
theorem FoldTells.told {f : Int} {ln : Nat → List Int} {N : Nat} {s : List Int} {w : World} {e : Ending} {w' : World} (h : FoldTells f ln N s w e w') :
    Told ⟨false, s, (List.range N).map fun q => (ofR f (ln q)).1⟩ (firstErr (fun q => (ofR f (ln q)).2) N) w e w' := by
  rcases h with ⟨h1, h2⟩ | ⟨q, h1, h2, h3, h4⟩
  · exact .inl ⟨firstErr_zero h1, h2⟩
  · have e1 : firstErr (fun q => (ofR f (ln q)).2) N = (ofR f (ln q)).2 := firstErr_at (p := fun q => (ofR f (ln q)).2) h2 h3 h1
    exact .inr ⟨by rw [e1]; exact h3, by rw [e1]; exact h4⟩
theorem reduce_told {v : Value} {a : Arr} {w : World} {f axis : Int} (ha : IsArr w v a) (hw : Wf a.da) :
    Calls Tryd.prog 10 #[.int .i64 f, .int .i64 axis, v] w (Told (redOf f a a.nsh axis.toNat) (redFault f axis a) w) := by
  by_cases hE : foldErr f axis a = 0
  · obtain ⟨t, k, h, rfl, hk, hc, hf⟩ := foldErr_zero hE
    refine (reduce_ok ha h hk hf hc hw).mono fun e w' h6 => ?_
    unfold redFault
    rw [if_neg (fun h => h hE), h.nsh_eq, Int.toNat_natCast]
    rcases h6 with ⟨h7, h8⟩ | ⟨h7, h8⟩
    · rw [if_pos h7]; exact .inr ⟨h7, h8⟩
    · rw [if_neg (fun h => h h7)]; exact h8.told
  · refine (reduce_bad ha hE).mono fun e w' h6 => .inr ?_
    unfold redFault
    rw [if_pos hE]
    exact ⟨hE, h6⟩
end Go.Proofs.YtojeggeimnenbaaDoor
namespace Go.Proofs.YtojeggeimnenbaaDoor.P
open Go Go.RowKit
theorem through_length {c : List Nat} {k : Nat} (hk : k ≤ c.length) : (through c k).length = c.length + 1 := by
  unfold through
  rw [List.length_append, List.length_cons, List.length_take, List.length_drop]; omega
theorem through_in {t c : List Nat} {k : Nat} (hk : k < t.length) (hc : Inside (t.eraseIdx k) c) : ∀ j, j < t.length → j ≠ k → (through c k).getD j 0 < t.getD j 0 := by
  intro j hj hne
  obtain ⟨h1, h2⟩ := inside_iff.1 hc
  rw [List.length_eraseIdx, if_pos hk] at h1 h2
  have hkc : k ≤ c.length := by omega
  have ht : (c.take k).length = k := by rw [List.length_take]; omega
  unfold through
  rcases Nat.lt_or_gt_of_ne hne with h | h
  · have h3 := h2 j (by omega)
    rw [List.getD_eq_getElem?_getD, List.getElem?_append_left (by omega), List.getElem?_take, if_pos h, ← List.getD_eq_getElem?_getD]
    rw [List.getD_eq_getElem?_getD (l := t.eraseIdx k), List.getElem?_eraseIdx, if_pos h, ← List.getD_eq_getElem?_getD] at h3
    exact h3
  · obtain ⟨i, rfl⟩ : ∃ i, j = i + 1 := ⟨j - 1, by omega⟩
    have h3 := h2 i (by omega)
    rw [List.getD_eq_getElem?_getD, List.getElem?_append_right (by omega), ht, show i + 1 - k = (i - k) + 1 by omega, List.getElem?_cons_succ, List.getElem?_drop, show k + (i - k) = i by omega, ← List.getD_eq_getElem?_getD]
    rw [List.getD_eq_getElem?_getD (l := t.eraseIdx k), List.getElem?_eraseIdx, if_neg (by omega), ← List.getD_eq_getElem?_getD] at h3
    exact h3
theorem redErr_small {f : Int} {t : List Nat} {k : Nat} (hk : k < t.length) (hg : GoodSh t) (hn : t.getD k 0 = 0 → neutE f = 0) : Go.Proofs.YtojeggeimnenbaaDoor.redErr f t k = if 4096 < prod (t.eraseIdx k) then 7 else 0 := by
  unfold Go.Proofs.YtojeggeimnenbaaDoor.redErr
  rw [but_prod hk]
  by_cases h0 : t.getD k 0 = 0
  · rw [if_pos h0, if_neg (by rw [hn h0]; simp)]
  · rw [if_neg h0]
    have h1 := hg.2.2
    rw [prod_but_ax hk] at h1
    have h2 : 1 * prod (t.eraseIdx k) ≤ t.getD k 0 * prod (t.eraseIdx k) := Nat.mul_le_mul_right _ (by omega)
    rw [if_neg (by omega)]
/-- How many have been kept. -/
def kept1 (k i : Nat) : Nat := if i ≤ k then i else i - 1
theorem kept1_hit {xs : List Int} {k i : Nat} {x : Int} (h : xs[i]? = some x) (hne : i ≠ k) : (xs.eraseIdx k)[kept1 k i]? = some x ∧ kept1 k (i + 1) = kept1 k i + 1 := by
  unfold kept1
  rcases Nat.lt_or_gt_of_ne hne with h1 | h1
  · rw [if_pos (by omega), if_pos (by omega), List.getElem?_eraseIdx, if_pos h1]; exact ⟨h, rfl⟩
  · rw [if_neg (by omega), if_neg (by omega), List.getElem?_eraseIdx, if_neg (by omega), show i - 1 + 1 = i by omega]; exact ⟨h, by omega⟩
theorem kept1_miss {k : Nat} : kept1 k (k + 1) = kept1 k k := by unfold kept1; rw [if_neg (by omega), if_pos (by omega)]; omega
theorem kept1_all {n k : Nat} (h : k < n) : kept1 k n = n - 1 := by unfold kept1; rw [if_neg (by omega)]
end Go.Proofs.YtojeggeimnenbaaDoor.P
