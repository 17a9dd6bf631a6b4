/- Orders of rows, in plain Lean: comparison of lists, the one order that is stable, each row's place. Conditions: none but these. -/
import Derived.Test.YtfaojciballhnaaStabPlain
set_option linter.unusedSimpArgs false
set_option linter.unusedVariables false
set_option linter.unusedSectionVars false
set_option linter.unusedVariables false
namespace Go.Proofs.Ytfaojciballhnaa.P
open Go.Sort
/-- as slices.Compare has it. -/
def cmpL : List Int → List Int → Int
  | [], [] => 0
  | [], _ :: _ => -1
  | _ :: _, [] => 1
  | x :: xs, y :: ys => if x < y then -1 else if y < x then 1 else cmpL xs ys
theorem cmpL_neg : ∀ x y, cmpL y x = - cmpL x y
  | [], [] => rfl
  | [], _ :: _ => rfl
  | _ :: _, [] => rfl
  | x :: xs, y :: ys => by
    simp only [cmpL]
    have := cmpL_neg xs ys
    split <;> split <;> omega
theorem cmpL_three : ∀ x y, cmpL x y = -1 ∨ cmpL x y = 0 ∨ cmpL x y = 1
  | [], [] => .inr (.inl rfl)
  | [], _ :: _ => .inl rfl
  | _ :: _, [] => .inr (.inr rfl)
  | x :: xs, y :: ys => by
    simp only [cmpL]
    have := cmpL_three xs ys
    split
    · exact .inl rfl
    · split
      · exact .inr (.inr rfl)
      · exact this
theorem cmpL_eq : ∀ {x y : List Int}, cmpL x y = 0 ↔ x = y
  | [], [] => by simp [cmpL]
  | [], _ :: _ => by simp [cmpL]
  | _ :: _, [] => by simp [cmpL]
  | x :: xs, y :: ys => by
    simp only [cmpL, List.cons.injEq]
    have := @cmpL_eq xs ys
    split
    · simp; omega
    · split
      · simp; omega
      · rw [this]; constructor
        · intro h; exact ⟨by omega, h⟩
        · intro h; exact h.2
theorem cmpL_le : ∀ {x y z : List Int}, cmpL x y ≤ 0 → cmpL y z ≤ 0 → cmpL x z ≤ 0
  | [], [], _ => by intro _ h; exact h
  | [], _ :: _, [] => by intro _ _; simp [cmpL]
  | [], _ :: _, _ :: _ => by intro _ _; simp [cmpL]
  | _ :: _, [], _ => by intro h; simp [cmpL] at h
  | x :: xs, y :: ys, [] => by intro _ h; simp [cmpL] at h
  | x :: xs, y :: ys, z :: zs => by
    have := @cmpL_le xs ys zs
    simp only [cmpL]
    intro h1 h2
    by_cases a1 : x < y
    · by_cases a2 : y < z
      · rw [if_pos (by omega)]; omega
      · rw [if_neg a2] at h2
        by_cases a3 : z < y
        · rw [if_pos a3] at h2; omega
        · rw [if_pos (by omega)]; omega
    · rw [if_neg a1] at h1
      by_cases a4 : y < x
      · rw [if_pos a4] at h1; omega
      · rw [if_neg a4] at h1
        obtain rfl : x = y := by omega
        by_cases a2 : x < z
        · rw [if_pos a2]; omega
        · rw [if_neg a2] at h2 ⊢
          by_cases a3 : z < x
          · rw [if_pos a3] at h2; omega
          · rw [if_neg a3] at h2 ⊢; exact this h1 h2
/-- less by a list that belongs to each. -/
def ltBy {α : Type} (r : α → List Int) (x y : α) : Bool := decide (cmpL (r x) (r y) < 0)
def gtBy {α : Type} (r : α → List Int) (x y : α) : Bool := decide (cmpL (r y) (r x) < 0)
theorem ltBy_swo {α : Type} (r : α → List Int) : SWO (ltBy r) := by
  unfold ltBy
  refine ⟨fun x => ?_, fun x y z h1 h2 => ?_, fun x y z h1 h2 => ?_⟩
  · rw [cmpL_eq.2 rfl]; rfl
  · simp only [decide_eq_true_eq] at h1 h2 ⊢
    have h3 := cmpL_le (x := r x) (y := r y) (z := r z) (by omega) (by omega)
    rcases Int.lt_or_le (cmpL (r x) (r z)) 0 with h | h
    · exact h
    · have e := cmpL_eq.1 (show cmpL (r x) (r z) = 0 by omega)
      rw [e, cmpL_neg] at h1; omega
  · simp only [decide_eq_false_iff_not] at h1 h2 ⊢
    have h3 := cmpL_le (x := r z) (y := r y) (z := r x) (by rw [cmpL_neg]; omega) (by rw [cmpL_neg]; omega)
    rw [cmpL_neg] at h3; omega
theorem gtBy_swo {α : Type} (r : α → List Int) : SWO (gtBy r) := by
  have h := ltBy_swo r
  exact ⟨h.irrefl, fun x y z h1 h2 => h.trans z y x h2 h1, fun x y z h1 h2 => h.ntrans z y x h2 h1⟩

/-! ### the order of the first n -/
def IsOrd (lt : Nat → Nat → Bool) (n : Nat) (l : List Nat) : Prop := l.Perm (List.range n) ∧ l.Pairwise fun x y => stb lt id y x = false
theorem IsOrd.one {lt : Nat → Nat → Bool} {n : Nat} {l l' : List Nat} (h : IsOrd lt n l) (h' : IsOrd lt n l') : l = l' :=
  List.Perm.eq_of_pairwise (fun x y _ _ h1 h2 => stb_anti h2 h1 (fun _ _ e => e)) h.2 h'.2 (h.1.trans h'.1.symm)
def ordOf (lt : Nat → Nat → Bool) (n : Nat) : List Nat := (List.range n).mergeSort (fun x y => !stb lt id y x)
theorem ordOf_is {lt : Nat → Nat → Bool} (hS : SWO lt) (n : Nat) : IsOrd lt n (ordOf lt n) := by
  have hO := stb_swo hS id
  refine ⟨List.mergeSort_perm _ _, ?_⟩
  have h := List.pairwise_mergeSort (le := fun x y => !stb lt id y x) (fun a b c h1 h2 => by
    simp only [Bool.not_eq_true'] at h1 h2 ⊢
    exact hO.ntrans c b a h2 h1) (fun a b => by
    cases h : stb lt id b a with
    | false => simp
    | true => simp [hO.asymmA h]) (List.range n)
  exact h.imp fun h => by simpa using h
theorem IsOrd.length {lt : Nat → Nat → Bool} {n : Nat} {l : List Nat} (h : IsOrd lt n l) : l.length = n := by rw [h.1.length_eq, List.length_range]
theorem IsOrd.lt {lt : Nat → Nat → Bool} {n : Nat} {l : List Nat} (h : IsOrd lt n l) {x : Nat} (hx : x ∈ l) : x < n := by simpa using h.1.mem_iff.1 hx
theorem IsOrd.mem {lt : Nat → Nat → Bool} {n : Nat} {l : List Nat} (h : IsOrd lt n l) {x : Nat} (hx : x < n) : x ∈ l := h.1.mem_iff.2 (by simpa using hx)
theorem IsOrd.nodup {lt : Nat → Nat → Bool} {n : Nat} {l : List Nat} (h : IsOrd lt n l) : l.Nodup := h.1.nodup_iff.2 List.nodup_range
/-- of two the one that stands ahead is ahead. -/
theorem IsOrd.ahead {lt : Nat → Nat → Bool} {n : Nat} {l : List Nat} (h : IsOrd lt n l) {i j : Nat} (hij : i < j) (hj : j < l.length) : stb lt id (l[i]'(by omega)) l[j] = true := by
  have h1 := List.pairwise_iff_getElem.1 h.2 i j (by omega) hj hij
  cases h2 : stb lt id (l[i]'(by omega)) l[j] with
  | true => rfl
  | false =>
    have := stb_anti h2 h1 (fun _ _ e => e)
    have := (List.nodup_iff_pairwise_ne.1 h.nodup)
    have := List.pairwise_iff_getElem.1 this i j (by omega) hj hij
    contradiction
/-- how many of the first k are ahead of one. -/
def aheadTo (lt : Nat → Nat → Bool) (i k : Nat) : Nat := (List.range k).countP fun j => stb lt id j i
theorem aheadTo_succ (lt : Nat → Nat → Bool) (i k : Nat) : aheadTo lt i (k + 1) = aheadTo lt i k + if stb lt id k i then 1 else 0 := by
  unfold aheadTo; rw [List.range_succ, List.countP_append, List.countP_singleton]
theorem aheadTo_le (lt : Nat → Nat → Bool) (i k : Nat) : aheadTo lt i k ≤ k := by
  unfold aheadTo
  have := List.countP_le_length (p := fun j => stb lt id j i) (l := List.range k)
  rwa [List.length_range] at this
theorem IsOrd.place {lt : Nat → Nat → Bool} (hS : SWO lt) {n : Nat} {l : List Nat} (h : IsOrd lt n l) {k : Nat} (hk : k < l.length) : aheadTo lt l[k] n = k := by
  unfold aheadTo
  rw [← h.1.countP_eq, show List.countP (fun j => stb lt id j (l[k]'hk)) l = List.countP (fun j => stb lt id j (l[k]'hk)) (l.take k) + List.countP (fun j => stb lt id j (l[k]'hk)) (l.drop k) by rw [← List.countP_append, List.take_append_drop]]
  have e1 : List.countP (fun j => stb lt id j (l[k]'hk)) (l.take k) = k := by
    have : List.countP (fun j => stb lt id j (l[k]'hk)) (l.take k) = (l.take k).length := List.countP_eq_length.2 fun x hx => by
      obtain ⟨i, hi, rfl⟩ := List.getElem_of_mem hx
      rw [List.length_take] at hi
      rw [List.getElem_take]
      exact h.ahead (by omega) hk
    rw [this, List.length_take]; omega
  have e2 : List.countP (fun j => stb lt id j (l[k]'hk)) (l.drop k) = 0 := List.countP_eq_zero.2 fun x hx => by
    obtain ⟨i, hi, rfl⟩ := List.getElem_of_mem hx
    rw [List.length_drop] at hi
    rw [List.getElem_drop]
    rcases Nat.eq_zero_or_pos i with e | e
    · subst e; simp only [Nat.add_zero]; rw [(stb_swo hS id).irrefl]; decide
    · have := List.pairwise_iff_getElem.1 h.2 k (k + i) hk (by omega) (by omega)
      rw [this]; decide
  rw [e1, e2, Nat.add_zero]
theorem IsOrd.placed {lt : Nat → Nat → Bool} (hS : SWO lt) {n : Nat} {l : List Nat} (h : IsOrd lt n l) {i : Nat} (hi : i < n) : ∃ hk : aheadTo lt i n < l.length, l[aheadTo lt i n] = i := by
  obtain ⟨k, hk, e⟩ := List.getElem_of_mem (h.mem hi)
  have := h.place hS hk
  rw [e] at this
  exact ⟨by omega, by simp only [this]; exact e⟩
/-- the places, one row behind the other. -/
def placesOfTo (lt : Nat → Nat → Bool) (n : Nat) : Nat → List Int
  | 0 => List.replicate n 0
  | i + 1 => (placesOfTo lt n i).set (aheadTo lt i n) i
theorem placesOfTo_length (lt : Nat → Nat → Bool) (n : Nat) : ∀ i, (placesOfTo lt n i).length = n
  | 0 => by simp [placesOfTo]
  | i + 1 => by rw [placesOfTo, List.length_set, placesOfTo_length lt n i]
theorem placesOfTo_at {lt : Nat → Nat → Bool} (hS : SWO lt) {n : Nat} {l : List Nat} (h : IsOrd lt n l) : ∀ i, i ≤ n → ∀ k (hk : k < l.length), (placesOfTo lt n i)[k]? = some (if l[k] < i then (l[k] : Int) else 0)
  | 0, _, k, hk => by rw [if_neg (Nat.not_lt_zero _)]; rw [h.length] at hk; simp [placesOfTo, hk]
  | i + 1, hi, k, hk => by
    have ih := placesOfTo_at hS h i (by omega) k hk
    obtain ⟨h1, h2⟩ := h.placed hS (show i < n by omega)
    rw [placesOfTo, List.getElem?_set]
    by_cases e : aheadTo lt i n = k
    · subst e
      rw [if_pos rfl, if_pos (by rw [placesOfTo_length]; rw [h.length] at hk; exact hk), h2, if_pos (Nat.lt_succ_self _)]
    · rw [if_neg e, ih]
      have : l[k] ≠ i := fun e2 => e (by have := h.place hS hk; rw [e2] at this; exact this)
      by_cases e3 : l[k] < i
      · rw [if_pos e3, if_pos (by omega)]
      · rw [if_neg e3, if_neg (by omega)]
theorem placesOfTo_all {lt : Nat → Nat → Bool} (hS : SWO lt) (n : Nat) : placesOfTo lt n n = (ordOf lt n).map (fun i => ((i : Nat) : Int)) := by
  have h := ordOf_is hS n
  refine List.ext_getElem? fun k => ?_
  rcases Nat.lt_or_ge k n with hk | hk
  · have hk' : k < (ordOf lt n).length := by rw [h.length]; exact hk
    rw [placesOfTo_at hS h n (Nat.le_refl _) k hk', if_pos (h.lt (List.getElem_mem _)), List.getElem?_map, List.getElem?_eq_getElem hk']; rfl
  · rw [List.getElem?_eq_none (by rw [placesOfTo_length]; exact hk), List.getElem?_eq_none (by rw [List.length_map, h.length]; exact hk)]
end Go.Proofs.Ytfaojciballhnaa.P
