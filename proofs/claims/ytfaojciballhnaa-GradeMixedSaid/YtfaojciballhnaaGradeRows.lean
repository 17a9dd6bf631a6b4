/- Orders of rows, further: an order's order, the rows in order, orders that say the same. Conditions: none but these. -/
import Derived.Test.YtfaojciballhnaaGradePlain
set_option linter.unusedSimpArgs false
set_option linter.unusedVariables false
set_option linter.unusedSectionVars false
set_option linter.unusedVariables false
namespace Go.Proofs.Ytfaojciballhnaa.P
open Go.Sort
theorem stb_congr {lt lt' : Nat → Nat → Bool} {x y : Nat} (h1 : lt x y = lt' x y) (h2 : lt y x = lt' y x) : stb lt id x y = stb lt' id x y := by unfold stb; rw [h1, h2]
theorem IsOrd.congr {lt lt' : Nat → Nat → Bool} {n : Nat} {l : List Nat} (h : IsOrd lt n l) (he : ∀ x y, x < n → y < n → lt x y = lt' x y) : IsOrd lt' n l :=
  ⟨h.1, h.2.imp_of_mem fun {a b} ha hb h0 => by rw [← stb_congr (he b a (h.lt hb) (h.lt ha)) (he a b (h.lt ha) (h.lt hb))]; exact h0⟩
theorem ordOf_congr {lt lt' : Nat → Nat → Bool} {n : Nat} (hS : SWO lt) (hS' : SWO lt') (he : ∀ x y, x < n → y < n → lt x y = lt' x y) : ordOf lt n = ordOf lt' n :=
  ((ordOf_is hS n).congr he).one (ordOf_is hS' n)
/-- that which tells each one's place. -/
def invOf (p : List Nat) : List Nat := (List.range p.length).map fun v => p.idxOf v
theorem invOf_length (p : List Nat) : (invOf p).length = p.length := by unfold invOf; simp
theorem perm_mem {p : List Nat} (h : p.Perm (List.range p.length)) {v : Nat} (hv : v < p.length) : v ∈ p := h.mem_iff.2 (by simpa using hv)
theorem invOf_at {p : List Nat} {v : Nat} (hv : v < p.length) : (invOf p)[v]'(by rw [invOf_length]; exact hv) = p.idxOf v := by unfold invOf; simp
theorem invOf_perm {p : List Nat} (h : p.Perm (List.range p.length)) : (invOf p).Perm (List.range p.length) := by
  have hn : (invOf p).Nodup := by
    rw [List.nodup_iff_pairwise_ne, List.pairwise_iff_getElem]
    intro i j hi hj hij e
    rw [invOf_length] at hi hj
    rw [invOf_at hi, invOf_at hj] at e
    have h1 := List.getElem_idxOf (List.idxOf_lt_length_iff.2 (perm_mem h hi))
    have h2 := List.getElem_idxOf (List.idxOf_lt_length_iff.2 (perm_mem h hj))
    simp only [e] at h1
    omega
  refine (List.perm_ext_iff_of_nodup hn List.nodup_range).2 fun x => ⟨fun hx => ?_, fun hx => ?_⟩
  · unfold invOf at hx
    obtain ⟨v, hv, rfl⟩ := List.mem_map.1 hx
    simpa using List.idxOf_lt_length_iff.2 (perm_mem h (by simpa using hv))
  · have hx' : x < p.length := by simpa using hx
    have hpn : p.Nodup := h.nodup_iff.2 List.nodup_range
    have hpx : p[x] < p.length := by simpa using h.mem_iff.1 (List.getElem_mem hx')
    refine List.mem_map.2 ⟨p[x], by simpa using hpx, ?_⟩
    exact hpn.idxOf_getElem x hx'
theorem invOf_two {p : List Nat} (h : p.Perm (List.range p.length)) : invOf (invOf p) = p := by
  refine List.ext_getElem (by rw [invOf_length, invOf_length]) fun i h1 h2 => ?_
  have h3 := invOf_perm h
  have h3' : (invOf p).Perm (List.range (invOf p).length) := by rw [invOf_length]; exact h3
  have hn : (invOf p).Nodup := h3.nodup_iff.2 List.nodup_range
  rw [invOf_at (by rw [invOf_length]; exact h2)]
  have hpx : p[i] < p.length := by simpa using h.mem_iff.1 (List.getElem_mem h2)
  have e : (invOf p)[p[i]]'(by rw [invOf_length]; exact hpx) = i := by
    rw [invOf_at hpx]
    exact (h.nodup_iff.2 List.nodup_range).idxOf_getElem i h2
  have := hn.idxOf_getElem p[i] (by rw [invOf_length]; exact hpx)
  rw [e] at this
  exact this
/-- THE ORDER OF AN ORDER is it turned round. -/
theorem ordOf_perm {p : List Nat} (h : p.Perm (List.range p.length)) : ordOf (ltBy fun i => [((p.getD i 0 : Nat) : Int)]) p.length = invOf p := by
  refine (ordOf_is (ltBy_swo _) _).one ⟨invOf_perm h, ?_⟩
  rw [List.pairwise_iff_getElem]
  intro i j hi hj hij
  rw [invOf_length] at hi hj
  rw [invOf_at hi, invOf_at hj, stb_no]
  have h1 := List.getElem_idxOf (List.idxOf_lt_length_iff.2 (perm_mem h hi))
  have h2 := List.getElem_idxOf (List.idxOf_lt_length_iff.2 (perm_mem h hj))
  have g1 : p.getD (p.idxOf i) 0 = i := by rw [List.getD_eq_getElem?_getD, List.getElem?_eq_getElem (List.idxOf_lt_length_iff.2 (perm_mem h hi)), Option.getD_some]; exact h1
  have g2 : p.getD (p.idxOf j) 0 = j := by rw [List.getD_eq_getElem?_getD, List.getElem?_eq_getElem (List.idxOf_lt_length_iff.2 (perm_mem h hj)), Option.getD_some]; exact h2
  unfold ltBy
  simp only [g1, g2, cmpL]
  rw [if_neg (by omega), if_pos (by omega), if_pos (by omega)]
  simp
/-- Rows in order: a list of rows, of which none is greater than the next. -/
def InOrder (R : List (List Int)) : Prop := R.Pairwise fun x y => cmpL x y ≤ 0
theorem InOrder.one {R R' : List (List Int)} (h : InOrder R) (h' : InOrder R') (hp : R.Perm R') : R = R' :=
  List.Perm.eq_of_pairwise (fun x y _ _ h1 h2 => cmpL_eq.1 (by rw [cmpL_neg] at h2; omega)) h h' hp
theorem ordOf_inOrder (r : Nat → List Int) (n : Nat) : InOrder ((ordOf (ltBy r) n).map r) := by
  have h := (ordOf_is (ltBy_swo r) n).2
  refine List.pairwise_map.2 (h.imp fun {x y} h => ?_)
  have := (stb_no _ _ |>.1 h).1
  unfold ltBy at this
  simp only [decide_eq_false_iff_not] at this
  rw [cmpL_neg]; omega
theorem ordOf_rows (r : Nat → List Int) (n : Nat) : ((ordOf (ltBy r) n).map r).Perm ((List.range n).map r) := (ordOf_is (ltBy_swo r) n).1.map r
/-- Rows that stand in order stay. -/
theorem ordOf_stays {r : Nat → List Int} {n : Nat} (h : InOrder ((List.range n).map r)) : ordOf (ltBy r) n = List.range n := by
  refine (ordOf_is (ltBy_swo r) n).one ⟨List.Perm.refl _, ?_⟩
  have h1 := List.pairwise_map.1 h
  rw [List.pairwise_iff_getElem] at h1 ⊢
  intro i j hi hj hij
  have h2 := h1 i j hi hj hij
  simp only [List.getElem_range] at h2 ⊢
  rw [stb_no]
  refine ⟨?_, .inr (by simp; omega)⟩
  unfold ltBy
  rw [cmpL_neg]; simp; omega
/-- In whichever order they stood. -/
theorem ordOf_mixed {r r' : Nat → List Int} {n : Nat} (h : ((List.range n).map r').Perm ((List.range n).map r)) : (ordOf (ltBy r') n).map r' = (ordOf (ltBy r) n).map r :=
  (ordOf_inOrder r' n).one (ordOf_inOrder r n) ((ordOf_rows r' n).trans (h.trans (ordOf_rows r n).symm))
/-- What the library's sort leaves is the order. -/
theorem ord_of_sorted {N : Nat} {lt : Nat → Nat → Bool} {ltf : Fin (N + 1) → Fin (N + 1) → Bool} (hc : ∀ x y : Fin (N + 1), ltf x y = lt x.val y.val) {d0 d' : Array (Fin (N + 1))} (h0 : d0.toList.map Fin.val = List.range (N + 1)) (hz : d0.size = N + 1)
    (hP : PermIn 0 (N + 1) d0 d') (hs : SortedIn (stb ltf Fin.val) 0 (N + 1) d') : IsOrd lt (N + 1) (d'.toList.map Fin.val) := by
  obtain ⟨h1, -, h2⟩ := hP
  rw [hz] at h1
  have e1 : d'.extract 0 (N + 1) = d' := by have := Array.extract_size (xs := d'); rwa [h1] at this
  have e2 : d0.extract 0 (N + 1) = d0 := by have := Array.extract_size (xs := d0); rwa [hz] at this
  rw [e1, e2] at h2
  refine ⟨by rw [← h0]; exact h2.map _, List.pairwise_map.2 ?_⟩
  rw [List.pairwise_iff_getElem]
  intro i j hi hj hij
  have hi' : i < d'.size := by simpa using hi
  have hj' : j < d'.size := by simpa using hj
  have h3 := hs i j (Nat.zero_le _) hij (by omega)
  rw [getElem!_pos d' i hi', getElem!_pos d' j hj'] at h3
  have e : ∀ x y : Fin (N + 1), stb lt id x.val y.val = stb ltf Fin.val x y := fun x y => by unfold stb; rw [hc, hc]; rfl
  rw [e]
  simpa using h3
/-- turned round: rows of numbers, each taken from -1. -/
theorem cmpL_opp : ∀ {x y : List Int}, x.length = y.length → cmpL (x.map fun v => -1 - v) (y.map fun v => -1 - v) = cmpL y x
  | [], [], _ => rfl
  | x :: xs, y :: ys, h => by
    have := @cmpL_opp xs ys (by simpa using h)
    simp only [List.map_cons, cmpL]
    rw [this]
    by_cases a : x < y
    · rw [if_neg (by omega), if_pos (by omega), if_neg (by omega), if_pos a]
    · by_cases b : y < x
      · rw [if_pos (by omega), if_pos b]
      · rw [if_neg (by omega), if_neg (by omega), if_neg b, if_neg a]
end Go.Proofs.Ytfaojciballhnaa.P
