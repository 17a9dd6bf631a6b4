/- Plain facts: an order's rank as a sum; a rank's order, number by number. Conditions: none. -/
import Derived.Test.YtajcjipabfknhaaDoorLehmer
set_option linter.unusedSimpArgs false
set_option linter.unusedVariables false
namespace Go.Proofs.YtajcjipabfknhaaDoor.P

/-- An order's rank: for each number, how many behind it are less, times the orders of those. -/
def rk : List Nat → Nat
  | [] => 0
  | x :: xs => xs.countP (fun y => decide (y < x)) * fac xs.length + rk xs

theorem idx_countP : ∀ {l : List Nat} {x : Nat}, l.Pairwise (· < ·) → x ∈ l → l.idxOf x = l.countP (fun y => decide (y < x))
  | z :: l, x, hp, hx => by
    obtain ⟨h1, h2⟩ := List.pairwise_cons.1 hp
    rw [List.idxOf_cons, List.countP_cons]
    by_cases e : z = x
    · subst e
      have h3 : l.countP (fun y => decide (y < z)) = 0 := List.countP_eq_zero.2 fun y hy => by have := h1 y hy; simp; omega
      simp [h3]
    · have hb : (z == x) = false := by simpa using e
      have mx : x ∈ l := by rcases List.mem_cons.1 hx with h | h; exact absurd h.symm e; exact h
      have h4 := h1 x mx
      rw [hb, idx_countP h2 mx]
      simp [h4]
  | [], x, _, hx => by simp at hx
theorem code_length : ∀ (l p : List Nat), (code l p).length = p.length
  | _, [] => rfl
  | l, x :: xs => by simp [code, code_length (l.erase x) xs]
theorem lv_code : ∀ {l p : List Nat}, l.Pairwise (· < ·) → p.Perm l → lv (code l p) = rk p
  | l, [], _, _ => by simp [code, lv, rk]
  | l, x :: xs, hl, h => by
    have hx : x ∈ l := h.mem_iff.1 List.mem_cons_self
    have h2 : xs.Perm (l.erase x) := by
      have := h.erase x
      simpa using this
    have h3 : l.idxOf x = xs.countP (fun y => decide (y < x)) := by
      rw [idx_countP hl hx, ← h.countP_eq, List.countP_cons]
      simp
    simp only [code, lv, rk]
    rw [code_length, h3, lv_code (hl.sublist List.erase_sublist) h2]
theorem rank_rk {p : List Nat} (h : Perm p) : rank p = rk p := by
  unfold rank
  exact lv_code (range_sorted _) (perm_range h)
theorem rk_drop {p : List Nat} {i : Nat} (h : i < p.length) : rk (p.drop i) = (p.drop (i + 1)).countP (fun y => decide (y < p.getD i 0)) * fac (p.length - 1 - i) + rk (p.drop (i + 1)) := by
  rw [List.drop_eq_getElem_cons h]
  simp only [rk]
  rw [getD_lt h, List.length_drop, show p.length - (i + 1) = p.length - 1 - i by omega]
theorem rk_le {p : List Nat} (i : Nat) : rk (p.drop i) ≤ rk p := by
  induction p generalizing i with
  | nil => simp [rk]
  | cons x xs ih =>
    cases i with
    | zero => simp
    | succ i =>
      simp only [List.drop_succ_cons, rk]
      have := ih i
      omega
theorem countP_next {p : List Nat} {q : Nat → Bool} {i j : Nat} (hij : i ≤ j) (hj : j < p.length) : ((p.drop i).take (j + 1 - i)).countP q = ((p.drop i).take (j - i)).countP q + if q (p.getD j 0) then 1 else 0 := by
  rw [show j + 1 - i = (j - i) + 1 by omega, List.take_add_one, List.countP_append, List.getElem?_drop, show i + (j - i) = j by omega, List.getElem?_eq_getElem hj, getD_lt hj]
  simp [List.countP_cons]
theorem countP_all {p : List Nat} {q : Nat → Bool} {i : Nat} : ((p.drop i).take (p.length - i)).countP q = (p.drop i).countP q := by
  rw [List.take_of_length_le (by simp)]

/-- Those that are left of the numbers below n. -/
def lefts (n : Nat) (U : List Bool) : List Nat := (List.range n).filter fun c => !U.getD c true
/-- How many of those below c are left. -/
def leftTo (U : List Bool) (c : Nat) : Nat := ((List.range c).filter fun c => !U.getD c true).length
theorem leftTo_zero (U : List Bool) : leftTo U 0 = 0 := rfl
theorem leftTo_used {U : List Bool} {c : Nat} (h : U.getD c true = true) : leftTo U (c + 1) = leftTo U c := by
  unfold leftTo
  rw [List.range_succ, List.filter_append]
  simp [-List.getD_eq_getElem?_getD, h]
theorem leftTo_free {U : List Bool} {c : Nat} (h : U.getD c true = false) : leftTo U (c + 1) = leftTo U c + 1 := by
  unfold leftTo
  rw [List.range_succ, List.filter_append]
  simp [-List.getD_eq_getElem?_getD, h]
theorem leftTo_all (U : List Bool) (n : Nat) : leftTo U n = (lefts n U).length := rfl
theorem leftTo_mono (U : List Bool) {a b : Nat} (h : a ≤ b) : leftTo U a ≤ leftTo U b := by
  induction b with
  | zero => rw [show a = 0 by omega]; exact Nat.le_refl _
  | succ b ih =>
    by_cases e : a = b + 1
    · rw [e]; exact Nat.le_refl _
    · have h1 := ih (by omega)
      cases hu : U.getD b true
      · rw [leftTo_free hu]; omega
      · rw [leftTo_used hu]; exact h1
theorem left_sorted (n : Nat) (U : List Bool) : (lefts n U).Pairwise (· < ·) := (range_sorted n).filter _
theorem left_at {n : Nat} {U : List Bool} {c : Nat} (hc : c < n) (h : U.getD c true = false) : (lefts n U).getD (leftTo U c) 0 = c ∧ (lefts n U).idxOf c = leftTo U c := by
  have hm : c ∈ lefts n U := by unfold lefts; rw [List.mem_filter]; exact ⟨by simpa using hc, by rw [h]; rfl⟩
  have h1 := idx_countP (left_sorted n U) hm
  have h2 : (lefts n U).countP (fun y => decide (y < c)) = leftTo U c := by
    unfold lefts leftTo
    rw [List.countP_eq_length_filter, List.filter_filter]
    have e : List.range n = List.range c ++ (List.range (n - c)).map (c + ·) := by rw [← List.range_add]; congr 1; omega
    rw [e, List.filter_append]
    have e2 : ((List.range (n - c)).map (c + ·)).filter (fun a => (decide (a < c) && !U.getD a true)) = [] := by
      rw [List.filter_eq_nil_iff]
      intro a ha
      obtain ⟨b, -, rfl⟩ := List.mem_map.1 ha
      have : decide (c + b < c) = false := by simp
      rw [this]
      simp
    rw [e2, List.append_nil]
    congr 1
    apply List.filter_congr
    intro a ha
    have : a < c := by simpa using ha
    simp [this]
  rw [h2] at h1
  refine ⟨?_, h1⟩
  have hl := List.idxOf_lt_length_of_mem hm
  rw [← h1, getD_lt hl]
  exact List.getElem_idxOf hl
theorem left_set {n : Nat} {U : List Bool} {c : Nat} (hc : c < n) (hl : c < U.length) (h : U.getD c true = false) : lefts n (U.set c true) = (lefts n U).eraseIdx (leftTo U c) := by
  have hm : c ∈ lefts n U := by unfold lefts; rw [List.mem_filter]; exact ⟨by simpa using hc, by rw [h]; rfl⟩
  rw [← (left_at hc h).2, erase_idx hm, List.Nodup.erase_eq_filter ((left_sorted n U).imp fun h => by omega)]
  unfold lefts
  rw [List.filter_filter]
  apply List.filter_congr
  intro a ha
  by_cases e : a = c
  · subst e
    simp [List.getD_eq_getElem?_getD, hl]
  · have : (U.set c true).getD a true = U.getD a true := by
      simp only [List.getD_eq_getElem?_getD]
      rw [List.getElem?_set_ne (fun h => e h.symm)]
    rw [this]
    simp [e]
theorem lefts_none (n : Nat) : lefts n (List.replicate n false) = List.range n := by
  unfold lefts
  rw [List.filter_eq_self]
  intro a ha
  have : a < n := by simpa using ha
  simp [List.getD_eq_getElem?_getD, this]

/-- What is written so far, and what is to come. -/
def UnTo (n k i : Nat) (U : List Bool) (O : List Nat) (K : Nat) : Prop :=
  U.length = n ∧ i ≤ n ∧ (lefts n U).length = n - i ∧ K < fac (n - i) ∧ unrank n k = O ++ decode (lefts n U) (lds (n - i) K)
theorem UnTo.start {n k : Nat} (h : k < fac n) : UnTo n k 0 (List.replicate n false) [] k := by
  refine ⟨by simp, Nat.zero_le _, by rw [lefts_none]; simp, by simpa using h, ?_⟩
  rw [lefts_none]
  rfl
theorem UnTo.done {n k : Nat} {U : List Bool} {O : List Nat} {K : Nat} (h : UnTo n k n U O K) : unrank n k = O := by
  rw [h.2.2.2.2, Nat.sub_self]
  simp [lds, decode]
theorem UnTo.next {n k i : Nat} {U : List Bool} {O : List Nat} {K c : Nat} (h : UnTo n k i U O K) (hi : i < n) (hc : c < n) (hu : U.getD c true = false) (h1 : leftTo U c * fac (n - 1 - i) ≤ K) (h2 : K - leftTo U c * fac (n - 1 - i) < fac (n - 1 - i)) :
    UnTo n k (i + 1) (U.set c true) (O ++ [c]) (K - leftTo U c * fac (n - 1 - i)) := by
  obtain ⟨e1, e2, e3, e4, e5⟩ := h
  have hd : K / fac (n - 1 - i) = leftTo U c := by
    apply Nat.div_eq_of_lt_le
    · exact h1
    · rw [Nat.add_mul, Nat.one_mul]; omega
  have hm : K % fac (n - 1 - i) = K - leftTo U c * fac (n - 1 - i) := by
    have := Nat.div_add_mod K (fac (n - 1 - i))
    rw [hd, Nat.mul_comm] at this
    omega
  have hlt : leftTo U c < n - i := by
    have := (left_at hc hu).2
    have hm : c ∈ lefts n U := by unfold lefts; rw [List.mem_filter]; exact ⟨by simpa using hc, by rw [hu]; rfl⟩
    have := List.idxOf_lt_length_of_mem hm
    omega
  refine ⟨by simpa using e1, hi, ?_, ?_, ?_⟩
  · rw [left_set hc (by rw [e1]; exact hc) hu, List.length_eraseIdx_of_lt (by rw [e3]; exact hlt), e3]
    omega
  · rw [show n - (i + 1) = n - 1 - i by omega]; exact h2
  · rw [e5, show n - i = (n - 1 - i) + 1 by omega]
    simp only [lds, decode]
    rw [hd, hm, (left_at hc hu).1, left_set hc (by rw [e1]; exact hc) hu, show n - (i + 1) = n - 1 - i by omega]
    simp
/-- There is one to be found. -/
theorem UnTo.some {n k i : Nat} {U : List Bool} {O : List Nat} {K : Nat} (h : UnTo n k i U O K) (hi : i < n) : K < leftTo U n * fac (n - 1 - i) := by
  obtain ⟨e1, e2, e3, e4, e5⟩ := h
  rw [leftTo_all, e3, show n - i = (n - 1 - i) + 1 by omega]
  rw [show n - i = (n - 1 - i) + 1 by omega] at e4
  exact e4

end Go.Proofs.YtajcjipabfknhaaDoor.P
