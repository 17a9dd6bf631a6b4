/- What the card TopSorts leans on: StabPlain, StabBlocks, GradePlain, GradeRows. Conditions: none but those of its theorems. -/
import Derived.Sort.LotA
set_option linter.unusedSimpArgs false
set_option linter.unusedVariables false
set_option linter.unusedSectionVars false
namespace Go.Proofs.YtihndbkaoejnnaaGreatDoor.P
open Go.Sort
variable {α : Type} [Inhabited α]

/-- less, and of two that are equal the one of the less index. -/
def stb (lt : α → α → Bool) (ix : α → Nat) (x y : α) : Bool := lt x y || (!lt y x && decide (ix x < ix y))
theorem stb_eq {lt : α → α → Bool} {ix : α → Nat} (x y : α) : stb lt ix x y = true ↔ lt x y = true ∨ (lt y x = false ∧ ix x < ix y) := by
  unfold stb; cases lt x y <;> cases lt y x <;> simp
theorem stb_no {lt : α → α → Bool} {ix : α → Nat} (x y : α) : stb lt ix x y = false ↔ lt x y = false ∧ (lt y x = true ∨ ix y ≤ ix x) := by
  unfold stb; cases lt x y <;> cases lt y x <;> simp
theorem stb_swo {lt : α → α → Bool} (h : SWO lt) (ix : α → Nat) : SWO (stb lt ix) := by
  refine ⟨fun x => ?_, fun x y z h1 h2 => ?_, fun x y z h1 h2 => ?_⟩
  · rw [stb_no]; exact ⟨h.irrefl x, .inr (Nat.le_refl _)⟩
  · rw [stb_eq] at h1 h2 ⊢
    rcases h1 with h1 | ⟨h1, i1⟩ <;> rcases h2 with h2 | ⟨h2, i2⟩
    · exact .inl (h.trans _ _ _ h1 h2)
    · cases h3 : lt x z with
      | true => exact .inl rfl
      | false => exact absurd (h.ntrans _ _ _ h3 h2) (by rw [h1]; decide)
    · cases h3 : lt x z with
      | true => exact .inl rfl
      | false => exact absurd (h.ntrans _ _ _ h1 h3) (by rw [h2]; decide)
    · cases h3 : lt x z with
      | true => exact .inl rfl
      | false => exact .inr ⟨h.ntrans _ _ _ h2 h1, by omega⟩
  · rw [stb_no] at h1 h2 ⊢
    obtain ⟨h1, i1⟩ := h1
    obtain ⟨h2, i2⟩ := h2
    refine ⟨h.ntrans _ _ _ h1 h2, ?_⟩
    rcases i1 with i1 | i1
    · left
      cases h3 : lt z x with
      | true => rfl
      | false => exact absurd (h.ntrans _ _ _ h2 h3) (by rw [i1]; decide)
    · rcases i2 with i2 | i2
      · left
        cases h3 : lt z x with
        | true => rfl
        | false => exact absurd (h.ntrans _ _ _ h3 h1) (by rw [i2]; decide)
      · right; omega
theorem stb_anti {lt : α → α → Bool} {ix : α → Nat} {x y : α} (h1 : stb lt ix x y = false) (h2 : stb lt ix y x = false) (hi : ∀ x y, ix x = ix y → x = y) : x = y := by
  rw [stb_no] at h1 h2
  obtain ⟨h1, i1⟩ := h1
  obtain ⟨h2, i2⟩ := h2
  rw [h2] at i1; rw [h1] at i2
  simp at i1 i2
  exact hi _ _ (by omega)
theorem stb_after {lt : α → α → Bool} {ix : α → Nat} {x y : α} (h : ix y < ix x) : stb lt ix x y = lt x y := by
  cases h1 : lt x y with
  | true => rw [stb_eq]; exact .inl h1
  | false => rw [stb_no]; exact ⟨h1, .inr (by omega)⟩
/-! ### insertion: with indices that rise it does not matter which order -/
theorem insInner_stb {lt : α → α → Bool} {ix : α → Nat} (a : Nat) : ∀ (j : Nat) (d : Array α), j < d.size → (∀ p, a ≤ p → p < j → ix d[p]! < ix d[j]!) → insInner lt a j d = insInner (stb lt ix) a j d
  | 0, d, _, _ => by unfold insInner; rfl
  | j + 1, d, hj, h => by
    unfold insInner
    by_cases hja : j + 1 > a
    · rw [stb_after (h j (by omega) (by omega))]
      split
      · refine insInner_stb a j _ (by rw [swp_size]; omega) fun p hp hpj => ?_
        rw [swp_get d hj (by omega), swp_get d hj (by omega), if_neg (by omega), if_neg (by omega), if_pos rfl]
        exact h p hp (by omega)
      · rfl
    · rw [if_neg (by simp [hja]), if_neg (by simp [hja])]
theorem insOuter_more {lt : α → α → Bool} {a b i : Nat} {d : Array α} (h : i < b) : insOuter lt a b i d = insOuter lt a b (i + 1) (insInner lt a i d) := by rw [insOuter, if_pos h]
theorem insOuter_stb {lt : α → α → Bool} {ix : α → Nat} (hS : SWO lt) (a b : Nat) : ∀ (n i : Nat) (d : Array α), b - i = n → a ≤ i → b ≤ d.size → SortedIn (stb lt ix) a i d →
    (∀ p q, a ≤ p → p < q → i ≤ q → q < b → ix d[p]! < ix d[q]!) → insOuter lt a b i d = insOuter (stb lt ix) a b i d
  | 0, i, d, hn, _, _, _, _ => by rw [insOuter, if_neg (by omega), insOuter, if_neg (by omega)]
  | n + 1, i, d, hn, ha, hb, hs, h => by
    have hi : i < b := by omega
    rw [insOuter_more hi, insOuter_more hi, insInner_stb (ix := ix) a i d (by omega) (fun p hp hpi => h p i hp hpi (Nat.le_refl _) hi)]
    have h1 := insInner_spec (stb_swo hS ix) swp_permIn permIn_refl permIn_trans a (i + 1) i (Nat.lt_succ_self _) i d ha (Nat.le_refl _) (by omega) ⟨fun p q hap hpq hqi _ hq => hs p q hap hpq (by omega), fun q h1 h2 => by omega⟩
    refine insOuter_stb hS a b n (i + 1) _ (by omega) (by omega) (by rw [h1.1.1]; exact hb) h1.2 fun p q hp hpq hq hqb => ?_
    rw [h1.1.2.1 q (.inr (by omega))]
    rcases Nat.lt_or_ge p (i + 1) with h2 | h2
    · exact permIn_all d _ a (i + 1) (fun x => ix x < ix d[q]!) (by omega) h1.1 (fun k hk1 hk2 => h k q hk1 (by omega) (by omega) hqb) p hp h2
    · rw [h1.1.2.1 p (.inr h2)]; exact h p q hp hpq (by omega) hqb
theorem insertion_stb {lt : α → α → Bool} {ix : α → Nat} (hS : SWO lt) {d : Array α} {a b : Nat} (hab : a ≤ b) (hb : b ≤ d.size) (h : ∀ p q, a ≤ p → p < q → q < b → ix d[p]! < ix d[q]!) :
    PermIn a b d (insertionSort lt d a b) ∧ SortedIn (stb lt ix) a b (insertionSort lt d a b) := by
  have e : insertionSort lt d a b = insertionSort (stb lt ix) d a b := by
    unfold insertionSort
    exact insOuter_stb hS a b _ (a + 1) d rfl (by omega) hb (fun i j h1 h2 h3 => by omega) (fun p q hp hpq _ hq => h p q hp hpq hq)
  rw [e]
  exact insertionSort_holds (stb_swo hS ix) d a b hab hb

/-! ### exchanges of two stretches -/
def swpN (d : Array α) (a b : Nat) : Nat → Array α
  | 0 => d
  | k + 1 => swp (swpN d a b k) (a + k) (b + k)
theorem swpN_size (d : Array α) (a b : Nat) : ∀ k, (swpN d a b k).size = d.size
  | 0 => rfl
  | k + 1 => by rw [swpN, swp_size, swpN_size d a b k]
theorem swpN_get {d : Array α} {a b : Nat} : ∀ {n : Nat}, a + n ≤ b → b + n ≤ d.size → ∀ k, (swpN d a b n)[k]! = if a ≤ k ∧ k < a + n then d[k - a + b]! else if b ≤ k ∧ k < b + n then d[k - b + a]! else d[k]!
  | 0, _, _, k => by rw [if_neg (by omega), if_neg (by omega)]; rfl
  | n + 1, h1, h2, k => by
    have ih := @swpN_get d a b n (by omega) (by omega)
    rw [swpN, swp_get _ (by rw [swpN_size]; omega) (by rw [swpN_size]; omega), ih, ih, ih]
    by_cases e1 : k = b + n
    · subst e1
      rw [if_pos rfl, if_neg (by omega), if_neg (by omega), if_neg (by omega), if_pos (by omega)]
      congr 1; omega
    · rw [if_neg e1]
      by_cases e2 : k = a + n
      · subst e2
        rw [if_pos rfl, if_neg (by omega), if_neg (by omega), if_pos (by omega)]
        congr 1; omega
      · rw [if_neg e2]
        by_cases e3 : a ≤ k ∧ k < a + n
        · rw [if_pos e3, if_pos (by omega)]
        · rw [if_neg e3, if_neg (by omega : ¬ (a ≤ k ∧ k < a + (n + 1)))]
          by_cases e4 : b ≤ k ∧ k < b + n
          · rw [if_pos e4, if_pos (by omega)]
          · rw [if_neg e4, if_neg (by omega)]
theorem swpN_perm {d : Array α} {a b lo hi : Nat} (hlo : lo ≤ a) : ∀ {n : Nat}, a + n ≤ b → b + n ≤ hi → hi ≤ d.size → PermIn lo hi d (swpN d a b n)
  | 0, _, _, _ => permIn_refl _ _ _
  | n + 1, h1, h2, h3 => permIn_trans _ _ _ _ _ (swpN_perm (n := n) hlo (by omega) (by omega) h3) (swp_permIn _ _ _ _ _ (by omega) (by omega) (by omega) (by omega) (by rw [swpN_size]; exact h3))

/-! ### rotation -/
/-- [s, m) and [m, e) change places. -/
def Rot (s m e : Nat) (d d' : Array α) : Prop :=
  PermIn s e d d' ∧ (∀ k, s ≤ k → k < s + (e - m) → d'[k]! = d[k + (m - s)]!) ∧ (∀ k, s + (e - m) ≤ k → k < e → d'[k]! = d[k - (e - m)]!)
theorem Rot.left (m e : Nat) (d : Array α) : Rot m m e d d :=
  ⟨permIn_refl _ _ _, fun k _ _ => by rw [Nat.sub_self, Nat.add_zero], fun k h1 h2 => by omega⟩
theorem Rot.right (s m : Nat) (d : Array α) : Rot s m m d d :=
  ⟨permIn_refl _ _ _, fun k _ _ => by omega, fun k h1 h2 => by rw [Nat.sub_self, Nat.sub_zero]⟩
theorem Rot.same {s m e : Nat} {d : Array α} (h1 : s ≤ m) (h2 : m - s = e - m) (h3 : m ≤ e) (h4 : e ≤ d.size) : Rot s m e d (swpN d s m (m - s)) := by
  refine ⟨swpN_perm (Nat.le_refl _) (by omega) (by omega) h4, fun k hk1 hk2 => ?_, fun k hk1 hk2 => ?_⟩
  · rw [swpN_get (by omega) (by omega), if_pos (by omega)]; congr 1; omega
  · rw [swpN_get (by omega) (by omega), if_neg (by omega), if_pos (by omega)]; congr 1; omega
theorem Rot.gt {s m e : Nat} {d d' : Array α} (h1 : s ≤ m) (h2 : e - m < m - s) (h3 : m ≤ e) (h4 : e ≤ d.size) (h : Rot (s + (e - m)) m e (swpN d s m (e - m)) d') : Rot s m e d d' := by
  obtain ⟨hp, hl, hr⟩ := h
  refine ⟨permIn_trans _ _ _ _ _ (swpN_perm (Nat.le_refl _) (by omega) (by omega) h4) (permIn_mono _ _ _ _ _ _ (by omega) (Nat.le_refl _) (by rw [swpN_size]; exact h4) hp), fun k hk1 hk2 => ?_, fun k hk1 hk2 => ?_⟩
  · rw [hp.2.1 k (.inl (by omega)), swpN_get (by omega) (by omega), if_pos (by omega)]; congr 1; omega
  · rcases Nat.lt_or_ge k (s + (e - m) + (e - m)) with h5 | h5
    · rw [hl k (by omega) h5, swpN_get (by omega) (by omega)]
      rcases Nat.lt_or_ge (k + (m - (s + (e - m)))) m with h6 | h6
      · rw [if_neg (by omega), if_neg (by omega)]; congr 1; omega
      · rw [if_neg (by omega), if_pos (by omega)]; congr 1; omega
    · rw [hr k h5 hk2, swpN_get (by omega) (by omega), if_neg (by omega), if_neg (by omega)]
theorem Rot.lt {s m e : Nat} {d d' : Array α} (h1 : s ≤ m) (h2 : m - s < e - m) (h3 : m ≤ e) (h4 : e ≤ d.size) (h : Rot s m (e - (m - s)) (swpN d s (e - (m - s)) (m - s)) d') : Rot s m e d d' := by
  obtain ⟨hp, hl, hr⟩ := h
  refine ⟨permIn_trans _ _ _ _ _ (swpN_perm (Nat.le_refl _) (by omega) (by omega) h4) (permIn_mono _ _ _ _ _ _ (Nat.le_refl _) (by omega) (by rw [swpN_size]; exact h4) hp), fun k hk1 hk2 => ?_, fun k hk1 hk2 => ?_⟩
  · rcases Nat.lt_or_ge k (s + (e - (m - s) - m)) with h5 | h5
    · rw [hl k hk1 h5, swpN_get (by omega) (by omega), if_neg (by omega), if_neg (by omega)]
    · rw [hr k h5 (by omega), swpN_get (by omega) (by omega), if_pos (by omega)]; congr 1; omega
  · rw [hp.2.1 k (.inr (by omega)), swpN_get (by omega) (by omega), if_neg (by omega), if_pos (by omega)]; congr 1; omega
theorem Rot.up {s k : Nat} {d d' : Array α} (h1 : s ≤ k) (h4 : k + 1 < d.size) (h : Rot s (s + 1) (k + 1) d d') : Rot s (s + 1) (k + 2) d (swp d' k (k + 1)) := by
  obtain ⟨hp, hl, hr⟩ := h
  have hz : d'.size = d.size := hp.1
  refine ⟨permIn_trans _ _ _ _ _ (permIn_mono _ _ _ _ _ _ (Nat.le_refl _) (by omega) (by omega) hp) (swp_permIn _ _ _ _ _ (by omega) (by omega) (by omega) (by omega) (by omega)), fun q hq1 hq2 => ?_, fun q hq1 hq2 => ?_⟩
  · rw [swp_get _ (by omega) (by omega), if_neg (by omega)]
    by_cases e : q = k
    · subst e; rw [if_pos rfl, hp.2.1 _ (.inr (by omega))]; congr 1; omega
    · rw [if_neg e, hl q hq1 (by omega)]
  · rw [swp_get _ (by omega) (by omega), if_pos (by omega), hr k (by omega) (by omega)]; congr 1; omega
theorem Rot.down {k m : Nat} {d d' : Array α} (h1 : 0 < k) (h2 : k ≤ m) (h4 : m < d.size) (h : Rot k m (m + 1) d d') : Rot (k - 1) m (m + 1) d (swp d' k (k - 1)) := by
  obtain ⟨hp, hl, hr⟩ := h
  have hz : d'.size = d.size := hp.1
  refine ⟨permIn_trans _ _ _ _ _ (permIn_mono _ _ _ _ _ _ (by omega) (Nat.le_refl _) (by omega) hp) (swp_permIn _ _ _ _ _ (by omega) (by omega) (by omega) (by omega) (by omega)), fun q hq1 hq2 => ?_, fun q hq1 hq2 => ?_⟩
  · rw [swp_get _ (by omega) (by omega), if_pos (by omega), hl k (Nat.le_refl _) (by omega)]; congr 1; omega
  · rw [swp_get _ (by omega) (by omega), if_neg (by omega)]
    by_cases e : q = k
    · subst e; rw [if_pos rfl, hp.2.1 _ (.inl (by omega))]; congr 1; omega
    · rw [if_neg e, hr q (by omega) hq2]

/-! ### the merge -/
/-- Two stretches, each in order, the first one's indices all less. -/
structure Mer (lt : α → α → Bool) (ix : α → Nat) (a m b : Nat) (d : Array α) : Prop where
  l : SortedIn (stb lt ix) a m d
  r : SortedIn (stb lt ix) m b d
  x : ∀ p q, a ≤ p → p < m → m ≤ q → q < b → ix d[p]! < ix d[q]!
variable {lt : α → α → Bool} {ix : α → Nat}
theorem SortedIn.le (hS : SWO lt) {a b : Nat} {d : Array α} (h : SortedIn (stb lt ix) a b d) {p q : Nat} (hp : a ≤ p) (hpq : p ≤ q) (hq : q < b) : stb lt ix d[q]! d[p]! = false := by
  rcases Nat.lt_or_ge p q with e | e
  · exact h p q hp e hq
  · rw [show p = q by omega]; exact (stb_swo hS ix).irrefl _
/-- The test that the search asks, and what it says. -/
theorem Mer.test {a m b : Nat} {d : Array α} (h : Mer lt ix a m b d) {p q : Nat} (hp : a ≤ p) (hpm : p < m) (hq : m ≤ q) (hqb : q < b) : lt d[q]! d[p]! = stb lt ix d[q]! d[p]! := (stb_after (h.x p q hp hpm hq hqb)).symm
theorem Mer.one_true (hS : SWO lt) {a m b p H : Nat} {d : Array α} (h : Mer lt ix a m b d) (hH : H < b) (ht : stb lt ix d[H]! d[p]! = true) : ∀ q, m ≤ q → q ≤ H → stb lt ix d[q]! d[p]! = true := fun q h1 h2 => by
  cases h3 : stb lt ix d[q]! d[p]! with
  | true => rfl
  | false => exact absurd ((stb_swo hS ix).ntrans _ _ _ (SortedIn.le hS h.r h1 h2 hH) h3) (by rw [ht]; decide)
theorem Mer.one_false (hS : SWO lt) {a m b p H : Nat} {d : Array α} (h : Mer lt ix a m b d) (hH : m ≤ H) (ht : stb lt ix d[H]! d[p]! = false) : ∀ q, H ≤ q → q < b → stb lt ix d[q]! d[p]! = false := fun q h1 h2 =>
  (stb_swo hS ix).ntrans _ _ _ (SortedIn.le hS h.r hH h1 h2) ht
theorem Mer.last_false (hS : SWO lt) {a m b q H : Nat} {d : Array α} (h : Mer lt ix a m b d) (hH : H < m) (ht : stb lt ix d[q]! d[H]! = false) : ∀ p, a ≤ p → p ≤ H → stb lt ix d[q]! d[p]! = false := fun p h1 h2 =>
  (stb_swo hS ix).ntrans _ _ _ ht (SortedIn.le hS h.l h1 h2 hH)
theorem Mer.last_true (hS : SWO lt) {a m b q H : Nat} {d : Array α} (h : Mer lt ix a m b d) (hH : a ≤ H) (ht : stb lt ix d[q]! d[H]! = true) : ∀ p, H ≤ p → p < m → stb lt ix d[q]! d[p]! = true := fun p h1 h2 => by
  cases h3 : stb lt ix d[q]! d[p]! with
  | true => rfl
  | false => exact absurd ((stb_swo hS ix).ntrans _ _ _ h3 (SortedIn.le hS h.l hH h1 h2)) (by rw [ht]; decide)
/-- What stands ahead, and what behind, once two stretches have changed places. -/
theorem Mer.parts (hS : SWO lt) {a m b s e : Nat} {d d1 : Array α} (h : Mer lt ix a m b d) (h1 : a ≤ s) (h2 : s ≤ m) (h3 : m ≤ e) (h4 : e ≤ b) (h5 : b ≤ d.size) (hR : Rot s m e d d1)
    (hlo : ∀ p q, a ≤ p → p < s → e ≤ q → q < b → stb lt ix d[q]! d[p]! = false) (hhi : ∀ p q, s ≤ p → p < m → m ≤ q → q < e → stb lt ix d[p]! d[q]! = false) :
    Mer lt ix a s (s + (e - m)) d1 ∧ Mer lt ix (s + (e - m)) e b d1 ∧ ∀ p q, a ≤ p → p < s + (e - m) → s + (e - m) ≤ q → q < b → stb lt ix d1[q]! d1[p]! = false := by
  obtain ⟨hp, hl, hr⟩ := hR
  have g1 : ∀ k, k < s → d1[k]! = d[k]! := fun k hk => hp.2.1 k (.inl hk)
  have g4 : ∀ k, e ≤ k → d1[k]! = d[k]! := fun k hk => hp.2.1 k (.inr hk)
  refine ⟨⟨fun i j hi hij hj => ?_, fun i j hi hij hj => ?_, fun p q hp1 hp2 hq1 hq2 => ?_⟩, ⟨fun i j hi hij hj => ?_, fun i j hi hij hj => ?_, fun p q hp1 hp2 hq1 hq2 => ?_⟩, fun p q hp1 hp2 hq1 hq2 => ?_⟩
  · rw [g1 i (by omega), g1 j hj]; exact h.l i j hi hij (by omega)
  · rw [hl i hi (by omega), hl j (by omega) hj]; exact h.r _ _ (by omega) (by omega) (by omega)
  · rw [g1 p hp2, hl q hq1 hq2]; exact h.x _ _ hp1 (by omega) (by omega) (by omega)
  · rw [hr i hi (by omega), hr j (by omega) hj]; exact h.l _ _ (by omega) (by omega) (by omega)
  · rw [g4 i hi, g4 j (by omega)]; exact h.r _ _ (by omega) hij hj
  · rw [hr p hp1 hp2, g4 q hq1]; exact h.x _ _ (by omega) (by omega) (by omega) hq2
  · rcases Nat.lt_or_ge p s with k1 | k1 <;> rcases Nat.lt_or_ge q e with k2 | k2
    · rw [g1 p k1, hr q hq1 k2]; exact h.l _ _ hp1 (by omega) (by omega)
    · rw [g1 p k1, g4 q k2]; exact hlo p q hp1 k1 k2 hq2
    · rw [hl p k1 hp2, hr q hq1 k2]; exact hhi _ _ (by omega) (by omega) (by omega) (by omega)
    · rw [hl p k1 hp2, g4 q k2]; exact h.r _ _ (by omega) (by omega) hq2
/-- Two halves, each put in order. -/
theorem halves {a c b : Nat} {d1 d2 d3 : Array α} (h1 : a ≤ c) (h2 : c ≤ b) (h3 : b ≤ d1.size) (hx : ∀ p q, a ≤ p → p < c → c ≤ q → q < b → stb lt ix d1[q]! d1[p]! = false)
    (p1 : PermIn a c d1 d2) (s1 : SortedIn (stb lt ix) a c d2) (p2 : PermIn c b d2 d3) (s2 : SortedIn (stb lt ix) c b d3) : PermIn a b d1 d3 ∧ SortedIn (stb lt ix) a b d3 := by
  have hz : d2.size = d1.size := p1.1
  refine ⟨permIn_trans _ _ _ _ _ (permIn_mono _ _ _ _ _ _ (Nat.le_refl _) h2 h3 p1) (permIn_mono _ _ _ _ _ _ h1 (Nat.le_refl _) (by omega) p2), fun i j hi hij hj => ?_⟩
  rcases Nat.lt_or_ge i c with k1 | k1
  · rw [p2.2.1 i (.inl k1)]
    rcases Nat.lt_or_ge j c with k2 | k2
    · rw [p2.2.1 j (.inl k2)]; exact s1 i j hi hij k2
    · refine permIn_all d2 d3 c b (fun x => stb lt ix x d2[i]! = false) (by omega) p2 (fun q hq1 hq2 => ?_) j k2 hj
      rw [p1.2.1 q (.inr hq1)]
      exact permIn_all d1 d2 a c (fun x => stb lt ix d1[q]! x = false) (by omega) p1 (fun p hp1 hp2 => hx p q hp1 hp2 hq1 hq2) i hi k1
  · exact s2 i j k1 hij hj
theorem SortedIn.join (hS : SWO lt) {a c b : Nat} {d : Array α} (h1 : SortedIn (stb lt ix) a c d) (h2 : SortedIn (stb lt ix) c b d) (hx : ∀ p q, a ≤ p → p < c → c ≤ q → q < b → stb lt ix d[q]! d[p]! = false) : SortedIn (stb lt ix) a b d := fun i j hi hij hj => by
  rcases Nat.lt_or_ge i c with k1 | k1
  · rcases Nat.lt_or_ge j c with k2 | k2
    · exact h1 i j hi hij k2
    · exact hx i j hi k1 k2 hj
  · exact h2 i j k1 hij hj
/-- One element into the second stretch. -/
theorem Mer.one (hS : SWO lt) {a b i : Nat} {d d1 : Array α} (h : Mer lt ix a (a + 1) b d) (h3 : a + 1 ≤ i) (h4 : i ≤ b) (h5 : b ≤ d.size) (hR : Rot a (a + 1) i d d1)
    (hlo : ∀ q, a + 1 ≤ q → q < i → stb lt ix d[q]! d[a]! = true) (hhi : ∀ q, i ≤ q → q < b → stb lt ix d[q]! d[a]! = false) : PermIn a b d d1 ∧ SortedIn (stb lt ix) a b d1 := by
  obtain ⟨m1, m2, mx⟩ := h.parts hS (Nat.le_refl a) (Nat.le_succ a) h3 h4 h5 hR (fun p q h1 h2 => by omega) (fun p q hp1 hp2 hq1 hq2 => by
    rw [show p = a by omega]; exact (stb_swo hS ix).asymmA (hlo q hq1 hq2))
  refine ⟨permIn_mono _ _ _ _ _ _ (Nat.le_refl _) h4 h5 hR.1, SortedIn.join hS m1.r (SortedIn.join hS m2.l m2.r fun p q hp1 hp2 hq1 hq2 => ?_) mx⟩
  obtain ⟨hp, hl, hr⟩ := hR
  rw [hr p hp1 hp2, hp.2.1 q (.inr hq1), show p - (i - (a + 1)) = a by omega]
  exact hhi q hq1 hq2
/-- One element into the first stretch. -/
theorem Mer.last (hS : SWO lt) {a m i : Nat} {d d1 : Array α} (h : Mer lt ix a m (m + 1) d) (h3 : a ≤ i) (h4 : i ≤ m) (h5 : m + 1 ≤ d.size) (hR : Rot i m (m + 1) d d1)
    (hlo : ∀ p, a ≤ p → p < i → stb lt ix d[m]! d[p]! = false) (hhi : ∀ p, i ≤ p → p < m → stb lt ix d[m]! d[p]! = true) : PermIn a (m + 1) d d1 ∧ SortedIn (stb lt ix) a (m + 1) d1 := by
  obtain ⟨m1, m2, mx⟩ := h.parts hS h3 h4 (Nat.le_succ m) (Nat.le_refl _) h5 hR (fun p q h1 h2 => by omega) (fun p q hp1 hp2 hq1 hq2 => by
    rw [show q = m by omega]; exact (stb_swo hS ix).asymmA (hhi p hp1 hp2))
  refine ⟨permIn_mono _ _ _ _ _ _ h3 (Nat.le_refl _) h5 hR.1, SortedIn.join hS (SortedIn.join hS m1.l m1.r fun p q hp1 hp2 hq1 hq2 => ?_) (SortedIn.join hS m2.l m2.r fun p q hp1 hp2 hq1 hq2 => by omega) mx⟩
  obtain ⟨hp, hl, hr⟩ := hR
  rw [hl q hq1 hq2, hp.2.1 p (.inl hp2), show q + (m - i) = m by omega]
  exact hlo p hp1 hp2
/-- Where the search of the symmetric merge stops: what it has shown lets the stretches change places. -/
theorem Mer.cut (hS : SWO lt) {a m b s0 r0 s mid : Nat} {d d1 : Array α} (h : Mer lt ix a m b d) (h5 : b ≤ d.size) (ham : a ≤ m) (hmb : m ≤ b) (hmid : a ≤ mid ∧ mid ≤ b)
    (hs0 : s0 = if mid < m then mid + m - b else a) (hr0 : r0 = if mid < m then mid else m) (h1 : s0 ≤ s) (h2 : s ≤ r0) (hab : a + b ≤ 2 * mid + 1) (hab2 : 2 * mid ≤ a + b)
    (hlo : ∀ c, s0 ≤ c → c < s → stb lt ix d[mid + m - 1 - c]! d[c]! = false) (hhi : ∀ c, s ≤ c → c < r0 → stb lt ix d[mid + m - 1 - c]! d[c]! = true) (hR : Rot s m (mid + m - s) d d1) :
    Mer lt ix a s mid d1 ∧ Mer lt ix mid (mid + m - s) b d1 ∧ ∀ p q, a ≤ p → p < mid → mid ≤ q → q < b → stb lt ix d1[q]! d1[p]! = false := by
  have hO := stb_swo hS ix
  have hsm : a ≤ s ∧ s ≤ m ∧ s ≤ mid ∧ m ≤ mid + m - s ∧ mid + m - s ≤ b := by
    split at hs0 <;> split at hr0 <;> omega
  have e : s + (mid + m - s - m) = mid := by omega
  have := h.parts hS hsm.1 hsm.2.1 hsm.2.2.2.1 hsm.2.2.2.2 h5 hR (fun p q hp1 hp2 hq1 hq2 => ?_) (fun p q hp1 hp2 hq1 hq2 => ?_)
  · rwa [e] at this
  · -- p < s, q ≥ end
    have hs : s0 < s := by split at hs0 <;> omega
    have t1 := hlo (s - 1) (by omega) (by omega)
    have t2 := SortedIn.le hS h.l hp1 (show p ≤ s - 1 by omega) (by omega)
    have t3 := SortedIn.le hS h.r (show m ≤ mid + m - 1 - (s - 1) by omega) (show mid + m - 1 - (s - 1) ≤ q by omega) hq2
    exact hO.ntrans _ _ _ (hO.ntrans _ _ _ t3 t1) t2
  · -- p ≥ s, q < end
    have hs : s < r0 := by split at hr0 <;> omega
    have t1 := hO.asymmA (hhi s (Nat.le_refl _) hs)
    have t2 := SortedIn.le hS h.l (show a ≤ s by omega) hp1 hp2
    have t3 := SortedIn.le hS h.r hq1 (show q ≤ mid + m - 1 - s by omega) (by omega)
    exact hO.ntrans _ _ _ (hO.ntrans _ _ _ t2 t1) t3
end Go.Proofs.YtihndbkaoejnnaaGreatDoor.P

namespace Go.Proofs.YtihndbkaoejnnaaGreatDoor.P
open Go.Sort
variable {α : Type} [Inhabited α] {lt : α → α → Bool} {ix : α → Nat}
/-- [a, b) is in order, and holds the elements that stood there first. -/
def Seg (lt : α → α → Bool) (ix : α → Nat) (a b : Nat) (d : Array α) : Prop := SortedIn (stb lt ix) a b d ∧ ∀ p, a ≤ p → p < b → a ≤ ix d[p]! ∧ ix d[p]! < b
theorem Seg.keep {a b t u : Nat} {d d' : Array α} (h : Seg lt ix a b d) (hp : PermIn t u d d') (ho : b ≤ t ∨ u ≤ a) : Seg lt ix a b d' := by
  have g : ∀ p, a ≤ p → p < b → d'[p]! = d[p]! := fun p h1 h2 => hp.2.1 p (by omega)
  refine ⟨fun i j hi hij hj => ?_, fun p h1 h2 => ?_⟩
  · rw [g i hi (by omega), g j (by omega) hj]; exact h.1 i j hi hij hj
  · rw [g p h1 h2]; exact h.2 p h1 h2
theorem Seg.new {a b : Nat} {d d' : Array α} (hb : b ≤ d.size) (h : ∀ p, a ≤ p → p < b → a ≤ ix d[p]! ∧ ix d[p]! < b) (hp : PermIn a b d d') (hs : SortedIn (stb lt ix) a b d') : Seg lt ix a b d' :=
  ⟨hs, permIn_all d d' a b (fun x => a ≤ ix x ∧ ix x < b) hb hp h⟩
/-- Two blocks side by side. -/
theorem Seg.mer {a m b : Nat} {d : Array α} (h1 : Seg lt ix a m d) (h2 : Seg lt ix m b d) : Mer lt ix a m b d :=
  ⟨h1.1, h2.1, fun p q hp1 hp2 hq1 hq2 => by have := (h1.2 p hp1 hp2).2; have := (h2.2 q hq1 hq2).1; omega⟩
theorem Seg.both {a m b : Nat} {d : Array α} (h1 : Seg lt ix a m d) (h2 : Seg lt ix m b d) (ham : a ≤ m) (hmb : m ≤ b) : ∀ p, a ≤ p → p < b → a ≤ ix d[p]! ∧ ix d[p]! < b := fun p h3 h4 => by
  rcases Nat.lt_or_ge p m with h | h
  · have := h1.2 p h3 h; omega
  · have := h2.2 p h h4; omega
/-- The blocks of s that begin below t are in order. -/
def Upto (lt : α → α → Bool) (ix : α → Nat) (s t : Nat) (d : Array α) : Prop := ∀ a, s ∣ a → a < t → a < d.size → Seg lt ix a (min (a + s) d.size) d
def From (lt : α → α → Bool) (ix : α → Nat) (s t : Nat) (d : Array α) : Prop := ∀ a, s ∣ a → t ≤ a → a < d.size → Seg lt ix a (min (a + s) d.size) d
theorem next_le {s a t : Nat} (h1 : s ∣ a) (h2 : s ∣ t) (h : a < t) : a + s ≤ t := by
  have := Nat.le_of_dvd (by omega) (Nat.dvd_sub h2 h1); omega
theorem Upto.none (s : Nat) (d : Array α) : Upto lt ix s 0 d := fun a _ h => absurd h (Nat.not_lt_zero _)
theorem Upto.add {s t : Nat} {d d' : Array α} (hs : 0 < s) (h : Upto lt ix s t d) (ht : s ∣ t) (hp : PermIn t (min (t + s) d.size) d d') (hg : t < d.size → Seg lt ix t (min (t + s) d.size) d') : Upto lt ix s (t + s) d' := fun a ha hlt hz => by
  rw [hp.1] at hz ⊢
  rcases Nat.lt_or_ge a t with h1 | h1
  · exact (h a ha h1 hz).keep hp (.inl (by have := next_le ha ht h1; omega))
  · rcases Nat.lt_or_ge t a with h2 | h2
    · have := next_le ht ha h2; omega
    · obtain rfl : a = t := by omega
      exact hg hz
theorem Upto.all {s t : Nat} {d : Array α} (h : Upto lt ix s t d) (ht : d.size ≤ t) : From lt ix s 0 d := fun a ha _ hz => h a ha (by omega) hz
theorem From.keep {s t u : Nat} {d d' : Array α} (h : From lt ix s t d) (hp : PermIn u (min t d.size) d d') : From lt ix s t d' := fun a ha hlt hz => by
  rw [hp.1] at hz ⊢
  exact (h a ha hlt hz).keep hp (.inr (by omega))
theorem From.le {s t u : Nat} {d : Array α} (h : From lt ix s t d) (hu : t ≤ u) : From lt ix s u d := fun a ha hlt hz => h a ha (by omega) hz
theorem From.whole {s : Nat} {d : Array α} (h : From lt ix s 0 d) (hs : d.size ≤ s) : SortedIn (stb lt ix) 0 d.size d := by
  rcases Nat.eq_zero_or_pos d.size with e | e
  · intro i j _ _ h3; omega
  · have := (h 0 (Nat.dvd_zero _) (Nat.le_refl _) e).1
    rwa [Nat.zero_add, Nat.min_eq_right hs] at this
/-- The merge's two blocks, of s each or the last one less. -/
theorem From.two {s t b : Nat} {d : Array α} (h : From lt ix s t d) (ht : s ∣ t) (hm : t + s < d.size) (hb : b = min (t + 2 * s) d.size) :
    Mer lt ix t (t + s) b d ∧ ∀ p, t ≤ p → p < b → t ≤ ix d[p]! ∧ ix d[p]! < b := by
  have h1 := h t ht (Nat.le_refl _) (by omega)
  have h2 := h (t + s) (Nat.dvd_add ht (Nat.dvd_refl _)) (by omega) hm
  rw [Nat.min_eq_left (by omega)] at h1
  rw [show min (t + s + s) d.size = b by omega] at h2
  exact ⟨h1.mer h2, h1.both h2 (by omega) (by omega)⟩
theorem From.one {s t : Nat} {d : Array α} (h : From lt ix s t d) (ht : s ∣ t) (hz : t < d.size) (hm : d.size ≤ t + s) (hs : 0 < s) : Seg lt ix t (min (t + 2 * s) d.size) d := by
  have h1 := h t ht (Nat.le_refl _) hz
  rwa [show min (t + 2 * s) d.size = min (t + s) d.size by omega]
/-- The first pass: insertion. -/
theorem first_step {t b : Nat} {d : Array α} (hS : SWO lt) (h : Upto lt ix 20 t d) (h2 : ∀ p, t ≤ p → p < d.size → ix d[p]! = p) (ht : 20 ∣ t) (hb : b = min (t + 20) d.size) (htz : t ≤ d.size) :
    PermIn t b d (insertionSort lt d t b) ∧ Upto lt ix 20 (t + 20) (insertionSort lt d t b) ∧ ∀ p, t + 20 ≤ p → p < d.size → ix (insertionSort lt d t b)[p]! = p := by
  have hi := insertion_stb (ix := ix) hS (d := d) (a := t) (b := b) (by omega) (by omega) (fun p q hp hpq hq => by rw [h2 p hp (by omega), h2 q (by omega) (by omega)]; exact hpq)
  refine ⟨hi.1, h.add (by omega) ht (by rw [← hb]; exact hi.1) (fun hz => ?_), fun p hp hz => ?_⟩
  · rw [← hb]
    exact Seg.new (by omega) (fun p h3 h4 => by rw [h2 p h3 (by omega)]; omega) hi.1 hi.2
  · rw [hi.1.2.1 p (.inr (by omega))]; exact h2 p (by omega) hz
/-- A step of a later pass. -/
theorem merge_step {s t b : Nat} {d d' : Array α} (hs : 0 < s) (hu : Upto lt ix (2 * s) t d) (hf : From lt ix s t d) (ht : 2 * s ∣ t) (hm : t + s < d.size) (hb : b = min (t + 2 * s) d.size)
    (hp : PermIn t b d d') (hso : SortedIn (stb lt ix) t b d') : Upto lt ix (2 * s) (t + 2 * s) d' ∧ From lt ix s (t + 2 * s) d' := by
  have hst : s ∣ t := Nat.dvd_trans ⟨2, by omega⟩ ht
  obtain ⟨h1, h2⟩ := hf.two hst hm hb
  rw [hb] at hp hso h2
  exact ⟨hu.add (by omega) ht hp fun _ => Seg.new (by omega) h2 hp hso, (hf.le (Nat.le_add_right _ _)).keep hp⟩
theorem merge_end {s t : Nat} {d : Array α} (hs : 0 < s) (hu : Upto lt ix (2 * s) t d) (hf : From lt ix s t d) (ht : 2 * s ∣ t) (hm : d.size ≤ t + s) : From lt ix (2 * s) 0 d := by
  have hst : s ∣ t := Nat.dvd_trans ⟨2, by omega⟩ ht
  exact (hu.add (d' := d) (by omega) ht (permIn_refl _ _ _) fun hz => hf.one hst hz hm hs).all (by omega)
end Go.Proofs.YtihndbkaoejnnaaGreatDoor.P

namespace Go.Proofs.YtihndbkaoejnnaaGreatDoor.P
open Go.Sort
/-- as slices.Compare has it. -/
def cmpL : List Int → List Int → Int
  | [], [] => 0
  | [], _ :: _ => -1
  | _ :: _, [] => 1
  | x :: xs, y :: ys => if x < y then -1 else if y < x then 1 else cmpL xs ys
theorem cmpL_neg : ∀ x y, cmpL y x = - cmpL x y
  | [], [] => rfl
  | [], _ :: _ => rfl
  | _ :: _, [] => rfl
  | x :: xs, y :: ys => by
    simp only [cmpL]
    have := cmpL_neg xs ys
    split <;> split <;> omega
theorem cmpL_eq : ∀ {x y : List Int}, cmpL x y = 0 ↔ x = y
  | [], [] => by simp [cmpL]
  | [], _ :: _ => by simp [cmpL]
  | _ :: _, [] => by simp [cmpL]
  | x :: xs, y :: ys => by
    simp only [cmpL, List.cons.injEq]
    have := @cmpL_eq xs ys
    split
    · simp; omega
    · split
      · simp; omega
      · rw [this]; constructor
        · intro h; exact ⟨by omega, h⟩
        · intro h; exact h.2
theorem cmpL_le : ∀ {x y z : List Int}, cmpL x y ≤ 0 → cmpL y z ≤ 0 → cmpL x z ≤ 0
  | [], [], _ => by intro _ h; exact h
  | [], _ :: _, [] => by intro _ _; simp [cmpL]
  | [], _ :: _, _ :: _ => by intro _ _; simp [cmpL]
  | _ :: _, [], _ => by intro h; simp [cmpL] at h
  | x :: xs, y :: ys, [] => by intro _ h; simp [cmpL] at h
  | x :: xs, y :: ys, z :: zs => by
    have := @cmpL_le xs ys zs
    simp only [cmpL]
    intro h1 h2
    by_cases a1 : x < y
    · by_cases a2 : y < z
      · rw [if_pos (by omega)]; omega
      · rw [if_neg a2] at h2
        by_cases a3 : z < y
        · rw [if_pos a3] at h2; omega
        · rw [if_pos (by omega)]; omega
    · rw [if_neg a1] at h1
      by_cases a4 : y < x
      · rw [if_pos a4] at h1; omega
      · rw [if_neg a4] at h1
        obtain rfl : x = y := by omega
        by_cases a2 : x < z
        · rw [if_pos a2]; omega
        · rw [if_neg a2] at h2 ⊢
          by_cases a3 : z < x
          · rw [if_pos a3] at h2; omega
          · rw [if_neg a3] at h2 ⊢; exact this h1 h2
/-- less by a list that belongs to each. -/
def ltBy {α : Type} (r : α → List Int) (x y : α) : Bool := decide (cmpL (r x) (r y) < 0)
def gtBy {α : Type} (r : α → List Int) (x y : α) : Bool := decide (cmpL (r y) (r x) < 0)
theorem ltBy_swo {α : Type} (r : α → List Int) : SWO (ltBy r) := by
  unfold ltBy
  refine ⟨fun x => ?_, fun x y z h1 h2 => ?_, fun x y z h1 h2 => ?_⟩
  · rw [cmpL_eq.2 rfl]; rfl
  · simp only [decide_eq_true_eq] at h1 h2 ⊢
    have h3 := cmpL_le (x := r x) (y := r y) (z := r z) (by omega) (by omega)
    rcases Int.lt_or_le (cmpL (r x) (r z)) 0 with h | h
    · exact h
    · have e := cmpL_eq.1 (show cmpL (r x) (r z) = 0 by omega)
      rw [e, cmpL_neg] at h1; omega
  · simp only [decide_eq_false_iff_not] at h1 h2 ⊢
    have h3 := cmpL_le (x := r z) (y := r y) (z := r x) (by rw [cmpL_neg]; omega) (by rw [cmpL_neg]; omega)
    rw [cmpL_neg] at h3; omega
theorem gtBy_swo {α : Type} (r : α → List Int) : SWO (gtBy r) := by
  have h := ltBy_swo r
  exact ⟨h.irrefl, fun x y z h1 h2 => h.trans z y x h2 h1, fun x y z h1 h2 => h.ntrans z y x h2 h1⟩

/-! ### the order of the first n -/
def IsOrd (lt : Nat → Nat → Bool) (n : Nat) (l : List Nat) : Prop := l.Perm (List.range n) ∧ l.Pairwise fun x y => stb lt id y x = false
theorem IsOrd.one {lt : Nat → Nat → Bool} {n : Nat} {l l' : List Nat} (h : IsOrd lt n l) (h' : IsOrd lt n l') : l = l' :=
  List.Perm.eq_of_pairwise (fun x y _ _ h1 h2 => stb_anti h2 h1 (fun _ _ e => e)) h.2 h'.2 (h.1.trans h'.1.symm)
def ordOf (lt : Nat → Nat → Bool) (n : Nat) : List Nat := (List.range n).mergeSort (fun x y => !stb lt id y x)
theorem ordOf_is {lt : Nat → Nat → Bool} (hS : SWO lt) (n : Nat) : IsOrd lt n (ordOf lt n) := by
  have hO := stb_swo hS id
  refine ⟨List.mergeSort_perm _ _, ?_⟩
  have h := List.pairwise_mergeSort (le := fun x y => !stb lt id y x) (fun a b c h1 h2 => by
    simp only [Bool.not_eq_true'] at h1 h2 ⊢
    exact hO.ntrans c b a h2 h1) (fun a b => by
    cases h : stb lt id b a with
    | false => simp
    | true => simp [hO.asymmA h]) (List.range n)
  exact h.imp fun h => by simpa using h
theorem IsOrd.length {lt : Nat → Nat → Bool} {n : Nat} {l : List Nat} (h : IsOrd lt n l) : l.length = n := by rw [h.1.length_eq, List.length_range]
theorem IsOrd.lt {lt : Nat → Nat → Bool} {n : Nat} {l : List Nat} (h : IsOrd lt n l) {x : Nat} (hx : x ∈ l) : x < n := by simpa using h.1.mem_iff.1 hx
theorem IsOrd.nodup {lt : Nat → Nat → Bool} {n : Nat} {l : List Nat} (h : IsOrd lt n l) : l.Nodup := h.1.nodup_iff.2 List.nodup_range
/-- of two the one that stands ahead is ahead. -/
theorem IsOrd.ahead {lt : Nat → Nat → Bool} {n : Nat} {l : List Nat} (h : IsOrd lt n l) {i j : Nat} (hij : i < j) (hj : j < l.length) : stb lt id (l[i]'(by omega)) l[j] = true := by
  have h1 := List.pairwise_iff_getElem.1 h.2 i j (by omega) hj hij
  cases h2 : stb lt id (l[i]'(by omega)) l[j] with
  | true => rfl
  | false =>
    have := stb_anti h2 h1 (fun _ _ e => e)
    have := (List.nodup_iff_pairwise_ne.1 h.nodup)
    have := List.pairwise_iff_getElem.1 this i j (by omega) hj hij
    contradiction
/-- how many of the first k are ahead of one. -/
def aheadTo (lt : Nat → Nat → Bool) (i k : Nat) : Nat := (List.range k).countP fun j => stb lt id j i
theorem IsOrd.place {lt : Nat → Nat → Bool} (hS : SWO lt) {n : Nat} {l : List Nat} (h : IsOrd lt n l) {k : Nat} (hk : k < l.length) : aheadTo lt l[k] n = k := by
  unfold aheadTo
  rw [← h.1.countP_eq, show List.countP (fun j => stb lt id j (l[k]'hk)) l = List.countP (fun j => stb lt id j (l[k]'hk)) (l.take k) + List.countP (fun j => stb lt id j (l[k]'hk)) (l.drop k) by rw [← List.countP_append, List.take_append_drop]]
  have e1 : List.countP (fun j => stb lt id j (l[k]'hk)) (l.take k) = k := by
    have : List.countP (fun j => stb lt id j (l[k]'hk)) (l.take k) = (l.take k).length := List.countP_eq_length.2 fun x hx => by
      obtain ⟨i, hi, rfl⟩ := List.getElem_of_mem hx
      rw [List.length_take] at hi
      rw [List.getElem_take]
      exact h.ahead (by omega) hk
    rw [this, List.length_take]; omega
  have e2 : List.countP (fun j => stb lt id j (l[k]'hk)) (l.drop k) = 0 := List.countP_eq_zero.2 fun x hx => by
    obtain ⟨i, hi, rfl⟩ := List.getElem_of_mem hx
    rw [List.length_drop] at hi
    rw [List.getElem_drop]
    rcases Nat.eq_zero_or_pos i with e | e
    · subst e; simp only [Nat.add_zero]; rw [(stb_swo hS id).irrefl]; decide
    · have := List.pairwise_iff_getElem.1 h.2 k (k + i) hk (by omega) (by omega)
      rw [this]; decide
  rw [e1, e2, Nat.add_zero]
end Go.Proofs.YtihndbkaoejnnaaGreatDoor.P

namespace Go.Proofs.YtihndbkaoejnnaaGreatDoor.P
open Go.Sort
theorem stb_congr {lt lt' : Nat → Nat → Bool} {x y : Nat} (h1 : lt x y = lt' x y) (h2 : lt y x = lt' y x) : stb lt id x y = stb lt' id x y := by unfold stb; rw [h1, h2]
theorem IsOrd.congr {lt lt' : Nat → Nat → Bool} {n : Nat} {l : List Nat} (h : IsOrd lt n l) (he : ∀ x y, x < n → y < n → lt x y = lt' x y) : IsOrd lt' n l :=
  ⟨h.1, h.2.imp_of_mem fun {a b} ha hb h0 => by rw [← stb_congr (he b a (h.lt hb) (h.lt ha)) (he a b (h.lt ha) (h.lt hb))]; exact h0⟩
theorem ordOf_congr {lt lt' : Nat → Nat → Bool} {n : Nat} (hS : SWO lt) (hS' : SWO lt') (he : ∀ x y, x < n → y < n → lt x y = lt' x y) : ordOf lt n = ordOf lt' n :=
  ((ordOf_is hS n).congr he).one (ordOf_is hS' n)
/-- that which tells each one's place. -/
def invOf (p : List Nat) : List Nat := (List.range p.length).map fun v => p.idxOf v
theorem invOf_length (p : List Nat) : (invOf p).length = p.length := by unfold invOf; simp
theorem perm_mem {p : List Nat} (h : p.Perm (List.range p.length)) {v : Nat} (hv : v < p.length) : v ∈ p := h.mem_iff.2 (by simpa using hv)
theorem invOf_at {p : List Nat} {v : Nat} (hv : v < p.length) : (invOf p)[v]'(by rw [invOf_length]; exact hv) = p.idxOf v := by unfold invOf; simp
theorem invOf_perm {p : List Nat} (h : p.Perm (List.range p.length)) : (invOf p).Perm (List.range p.length) := by
  have hn : (invOf p).Nodup := by
    rw [List.nodup_iff_pairwise_ne, List.pairwise_iff_getElem]
    intro i j hi hj hij e
    rw [invOf_length] at hi hj
    rw [invOf_at hi, invOf_at hj] at e
    have h1 := List.getElem_idxOf (List.idxOf_lt_length_iff.2 (perm_mem h hi))
    have h2 := List.getElem_idxOf (List.idxOf_lt_length_iff.2 (perm_mem h hj))
    simp only [e] at h1
    omega
  refine (List.perm_ext_iff_of_nodup hn List.nodup_range).2 fun x => ⟨fun hx => ?_, fun hx => ?_⟩
  · unfold invOf at hx
    obtain ⟨v, hv, rfl⟩ := List.mem_map.1 hx
    simpa using List.idxOf_lt_length_iff.2 (perm_mem h (by simpa using hv))
  · have hx' : x < p.length := by simpa using hx
    have hpn : p.Nodup := h.nodup_iff.2 List.nodup_range
    have hpx : p[x] < p.length := by simpa using h.mem_iff.1 (List.getElem_mem hx')
    refine List.mem_map.2 ⟨p[x], by simpa using hpx, ?_⟩
    exact hpn.idxOf_getElem x hx'
/-- THE ORDER OF AN ORDER is it turned round. -/
theorem ordOf_perm {p : List Nat} (h : p.Perm (List.range p.length)) : ordOf (ltBy fun i => [((p.getD i 0 : Nat) : Int)]) p.length = invOf p := by
  refine (ordOf_is (ltBy_swo _) _).one ⟨invOf_perm h, ?_⟩
  rw [List.pairwise_iff_getElem]
  intro i j hi hj hij
  rw [invOf_length] at hi hj
  rw [invOf_at hi, invOf_at hj, stb_no]
  have h1 := List.getElem_idxOf (List.idxOf_lt_length_iff.2 (perm_mem h hi))
  have h2 := List.getElem_idxOf (List.idxOf_lt_length_iff.2 (perm_mem h hj))
  have g1 : p.getD (p.idxOf i) 0 = i := by rw [List.getD_eq_getElem?_getD, List.getElem?_eq_getElem (List.idxOf_lt_length_iff.2 (perm_mem h hi)), Option.getD_some]; exact h1
  have g2 : p.getD (p.idxOf j) 0 = j := by rw [List.getD_eq_getElem?_getD, List.getElem?_eq_getElem (List.idxOf_lt_length_iff.2 (perm_mem h hj)), Option.getD_some]; exact h2
  unfold ltBy
  simp only [g1, g2, cmpL]
  rw [if_neg (by omega), if_pos (by omega), if_pos (by omega)]
  simp
/-- Rows in order: a list of rows, of which none is greater than the next. -/
def InOrder (R : List (List Int)) : Prop := R.Pairwise fun x y => cmpL x y ≤ 0
theorem InOrder.one {R R' : List (List Int)} (h : InOrder R) (h' : InOrder R') (hp : R.Perm R') : R = R' :=
  List.Perm.eq_of_pairwise (fun x y _ _ h1 h2 => cmpL_eq.1 (by rw [cmpL_neg] at h2; omega)) h h' hp
/-- What the library's sort leaves is the order. -/
theorem ord_of_sorted {N : Nat} {lt : Nat → Nat → Bool} {ltf : Fin (N + 1) → Fin (N + 1) → Bool} (hc : ∀ x y : Fin (N + 1), ltf x y = lt x.val y.val) {d0 d' : Array (Fin (N + 1))} (h0 : d0.toList.map Fin.val = List.range (N + 1)) (hz : d0.size = N + 1)
    (hP : PermIn 0 (N + 1) d0 d') (hs : SortedIn (stb ltf Fin.val) 0 (N + 1) d') : IsOrd lt (N + 1) (d'.toList.map Fin.val) := by
  obtain ⟨h1, -, h2⟩ := hP
  rw [hz] at h1
  have e1 : d'.extract 0 (N + 1) = d' := by have := Array.extract_size (xs := d'); rwa [h1] at this
  have e2 : d0.extract 0 (N + 1) = d0 := by have := Array.extract_size (xs := d0); rwa [hz] at this
  rw [e1, e2] at h2
  refine ⟨by rw [← h0]; exact h2.map _, List.pairwise_map.2 ?_⟩
  rw [List.pairwise_iff_getElem]
  intro i j hi hj hij
  have hi' : i < d'.size := by simpa using hi
  have hj' : j < d'.size := by simpa using hj
  have h3 := hs i j (Nat.zero_le _) hij (by omega)
  rw [getElem!_pos d' i hi', getElem!_pos d' j hj'] at h3
  have e : ∀ x y : Fin (N + 1), stb lt id x.val y.val = stb ltf Fin.val x y := fun x y => by unfold stb; rw [hc, hc]; rfl
  rw [e]
  simpa using h3
end Go.Proofs.YtihndbkaoejnnaaGreatDoor.P
