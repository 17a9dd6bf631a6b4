/- The stable sort's blocks, in plain Lean: blocks in order, then blocks of twice the length, until one block is all. Conditions: none but these. -/
import Derived.Test.YtfaojciballhnaaStabPlain
set_option linter.unusedSimpArgs false
set_option linter.unusedVariables false
set_option linter.unusedSectionVars false
set_option linter.unusedVariables false
namespace Go.Proofs.Ytfaojciballhnaa.P
open Go.Sort
variable {α : Type} [Inhabited α] {lt : α → α → Bool} {ix : α → Nat}
/-- [a, b) is in order, and holds the elements that stood there first. -/
def Seg (lt : α → α → Bool) (ix : α → Nat) (a b : Nat) (d : Array α) : Prop := SortedIn (stb lt ix) a b d ∧ ∀ p, a ≤ p → p < b → a ≤ ix d[p]! ∧ ix d[p]! < b
theorem Seg.keep {a b t u : Nat} {d d' : Array α} (h : Seg lt ix a b d) (hp : PermIn t u d d') (ho : b ≤ t ∨ u ≤ a) : Seg lt ix a b d' := by
  have g : ∀ p, a ≤ p → p < b → d'[p]! = d[p]! := fun p h1 h2 => hp.2.1 p (by omega)
  refine ⟨fun i j hi hij hj => ?_, fun p h1 h2 => ?_⟩
  · rw [g i hi (by omega), g j (by omega) hj]; exact h.1 i j hi hij hj
  · rw [g p h1 h2]; exact h.2 p h1 h2
theorem Seg.new {a b : Nat} {d d' : Array α} (hb : b ≤ d.size) (h : ∀ p, a ≤ p → p < b → a ≤ ix d[p]! ∧ ix d[p]! < b) (hp : PermIn a b d d') (hs : SortedIn (stb lt ix) a b d') : Seg lt ix a b d' :=
  ⟨hs, permIn_all d d' a b (fun x => a ≤ ix x ∧ ix x < b) hb hp h⟩
/-- Two blocks side by side. -/
theorem Seg.mer {a m b : Nat} {d : Array α} (h1 : Seg lt ix a m d) (h2 : Seg lt ix m b d) : Mer lt ix a m b d :=
  ⟨h1.1, h2.1, fun p q hp1 hp2 hq1 hq2 => by have := (h1.2 p hp1 hp2).2; have := (h2.2 q hq1 hq2).1; omega⟩
theorem Seg.both {a m b : Nat} {d : Array α} (h1 : Seg lt ix a m d) (h2 : Seg lt ix m b d) (ham : a ≤ m) (hmb : m ≤ b) : ∀ p, a ≤ p → p < b → a ≤ ix d[p]! ∧ ix d[p]! < b := fun p h3 h4 => by
  rcases Nat.lt_or_ge p m with h | h
  · have := h1.2 p h3 h; omega
  · have := h2.2 p h h4; omega
/-- The blocks of s that begin below t are in order. -/
def Upto (lt : α → α → Bool) (ix : α → Nat) (s t : Nat) (d : Array α) : Prop := ∀ a, s ∣ a → a < t → a < d.size → Seg lt ix a (min (a + s) d.size) d
def From (lt : α → α → Bool) (ix : α → Nat) (s t : Nat) (d : Array α) : Prop := ∀ a, s ∣ a → t ≤ a → a < d.size → Seg lt ix a (min (a + s) d.size) d
theorem next_le {s a t : Nat} (h1 : s ∣ a) (h2 : s ∣ t) (h : a < t) : a + s ≤ t := by
  have := Nat.le_of_dvd (by omega) (Nat.dvd_sub h2 h1); omega
theorem Upto.none (s : Nat) (d : Array α) : Upto lt ix s 0 d := fun a _ h => absurd h (Nat.not_lt_zero _)
theorem Upto.add {s t : Nat} {d d' : Array α} (hs : 0 < s) (h : Upto lt ix s t d) (ht : s ∣ t) (hp : PermIn t (min (t + s) d.size) d d') (hg : t < d.size → Seg lt ix t (min (t + s) d.size) d') : Upto lt ix s (t + s) d' := fun a ha hlt hz => by
  rw [hp.1] at hz ⊢
  rcases Nat.lt_or_ge a t with h1 | h1
  · exact (h a ha h1 hz).keep hp (.inl (by have := next_le ha ht h1; omega))
  · rcases Nat.lt_or_ge t a with h2 | h2
    · have := next_le ht ha h2; omega
    · obtain rfl : a = t := by omega
      exact hg hz
theorem Upto.all {s t : Nat} {d : Array α} (h : Upto lt ix s t d) (ht : d.size ≤ t) : From lt ix s 0 d := fun a ha _ hz => h a ha (by omega) hz
theorem From.keep {s t u : Nat} {d d' : Array α} (h : From lt ix s t d) (hp : PermIn u (min t d.size) d d') : From lt ix s t d' := fun a ha hlt hz => by
  rw [hp.1] at hz ⊢
  exact (h a ha hlt hz).keep hp (.inr (by omega))
theorem From.le {s t u : Nat} {d : Array α} (h : From lt ix s t d) (hu : t ≤ u) : From lt ix s u d := fun a ha hlt hz => h a ha (by omega) hz
theorem From.whole {s : Nat} {d : Array α} (h : From lt ix s 0 d) (hs : d.size ≤ s) : SortedIn (stb lt ix) 0 d.size d := by
  rcases Nat.eq_zero_or_pos d.size with e | e
  · intro i j _ _ h3; omega
  · have := (h 0 (Nat.dvd_zero _) (Nat.le_refl _) e).1
    rwa [Nat.zero_add, Nat.min_eq_right hs] at this
/-- The merge's two blocks, of s each or the last one less. -/
theorem From.two {s t b : Nat} {d : Array α} (h : From lt ix s t d) (ht : s ∣ t) (hm : t + s < d.size) (hb : b = min (t + 2 * s) d.size) :
    Mer lt ix t (t + s) b d ∧ ∀ p, t ≤ p → p < b → t ≤ ix d[p]! ∧ ix d[p]! < b := by
  have h1 := h t ht (Nat.le_refl _) (by omega)
  have h2 := h (t + s) (Nat.dvd_add ht (Nat.dvd_refl _)) (by omega) hm
  rw [Nat.min_eq_left (by omega)] at h1
  rw [show min (t + s + s) d.size = b by omega] at h2
  exact ⟨h1.mer h2, h1.both h2 (by omega) (by omega)⟩
theorem From.one {s t : Nat} {d : Array α} (h : From lt ix s t d) (ht : s ∣ t) (hz : t < d.size) (hm : d.size ≤ t + s) (hs : 0 < s) : Seg lt ix t (min (t + 2 * s) d.size) d := by
  have h1 := h t ht (Nat.le_refl _) hz
  rwa [show min (t + 2 * s) d.size = min (t + s) d.size by omega]
/-- The first pass: insertion. -/
theorem first_step {t b : Nat} {d : Array α} (hS : SWO lt) (h : Upto lt ix 20 t d) (h2 : ∀ p, t ≤ p → p < d.size → ix d[p]! = p) (ht : 20 ∣ t) (hb : b = min (t + 20) d.size) (htz : t ≤ d.size) :
    PermIn t b d (insertionSort lt d t b) ∧ Upto lt ix 20 (t + 20) (insertionSort lt d t b) ∧ ∀ p, t + 20 ≤ p → p < d.size → ix (insertionSort lt d t b)[p]! = p := by
  have hi := insertion_stb (ix := ix) hS (d := d) (a := t) (b := b) (by omega) (by omega) (fun p q hp hpq hq => by rw [h2 p hp (by omega), h2 q (by omega) (by omega)]; exact hpq)
  refine ⟨hi.1, h.add (by omega) ht (by rw [← hb]; exact hi.1) (fun hz => ?_), fun p hp hz => ?_⟩
  · rw [← hb]
    exact Seg.new (by omega) (fun p h3 h4 => by rw [h2 p h3 (by omega)]; omega) hi.1 hi.2
  · rw [hi.1.2.1 p (.inr (by omega))]; exact h2 p (by omega) hz
/-- A step of a later pass. -/
theorem merge_step {s t b : Nat} {d d' : Array α} (hs : 0 < s) (hu : Upto lt ix (2 * s) t d) (hf : From lt ix s t d) (ht : 2 * s ∣ t) (hm : t + s < d.size) (hb : b = min (t + 2 * s) d.size)
    (hp : PermIn t b d d') (hso : SortedIn (stb lt ix) t b d') : Upto lt ix (2 * s) (t + 2 * s) d' ∧ From lt ix s (t + 2 * s) d' := by
  have hst : s ∣ t := Nat.dvd_trans ⟨2, by omega⟩ ht
  obtain ⟨h1, h2⟩ := hf.two hst hm hb
  rw [hb] at hp hso h2
  exact ⟨hu.add (by omega) ht hp fun _ => Seg.new (by omega) h2 hp hso, (hf.le (Nat.le_add_right _ _)).keep hp⟩
theorem merge_end {s t : Nat} {d : Array α} (hs : 0 < s) (hu : Upto lt ix (2 * s) t d) (hf : From lt ix s t d) (ht : 2 * s ∣ t) (hm : d.size ≤ t + s) : From lt ix (2 * s) 0 d := by
  have hst : s ∣ t := Nat.dvd_trans ⟨2, by omega⟩ ht
  exact (hu.add (d' := d) (by omega) ht (permIn_refl _ _ _) fun hz => hf.one hst hz hm hs).all (by omega)
end Go.Proofs.Ytfaojciballhnaa.P
