/- The walks of turn.Reverse and turn.Rotate. Conditions: none. -/
import Derived.Test.YtajcjipabfknhaaDoorMoved
set_option linter.unusedSimpArgs false
set_option linter.unusedVariables false
namespace Go.Proofs.YtajcjipabfknhaaDoor
open Go Go.RowKit Go.Proofs.YtajcjipabfknhaaDoor.P

theorem Fails.nil {k : Int} {w w' : World} {e : Ending} (h : Fails zeroArr k w e w') : e = .returned (.tuple #[zeroArr, .iface 23 (.int .i64 k)]) := h.1

/-- What is wrong with an axis of an array. -/
def axErr (axis : Int) (a : Arr) : Int := if arrErr a ≠ 0 then arrErr a else if axis < 0 ∨ (a.sh.length : Int) ≤ axis then 5 else 0

theorem axErr_zero {axis : Int} {a : Arr} (h : axErr axis a = 0) : ∃ t k, Ok a t ∧ axis = (k : Nat) ∧ k < t.length := by
  unfold axErr at h
  by_cases h1 : arrErr a ≠ 0
  · rw [if_pos h1] at h; exact absurd h h1
  · rw [if_neg h1] at h
    obtain ⟨t, ht⟩ := ok_of_arrErr (by simpa using h1)
    by_cases h2 : axis < 0 ∨ (a.sh.length : Int) ≤ axis
    · rw [if_pos h2] at h; omega
    · have hl : a.sh.length = t.length := by rw [ht.sh, length_ints]
      exact ⟨t, axis.toNat, ht, by omega, by omega⟩

theorem axErr_ok {a : Arr} {t : List Nat} {k : Nat} (h : Ok a t) (hk : k < t.length) : axErr k a = 0 := by
  have hl : a.sh.length = t.length := by rw [h.sh, length_ints]
  unfold axErr
  rw [if_neg (by rw [arrErr_ok h]; simp), if_neg (by omega)]

/-- What 'moved' is handed, and what it lays. -/
theorem line_moved {a : Arr} {t : List Nat} {k : Nat} (h : Ok a t) (hk : k < t.length) {f : Nat → Nat} (hf : ∀ i, i < t.getD k 0 → f i < t.getD k 0) {o l n : Nat} (hl : lineOf t k = (o, l, n)) :
    (pull k f a).da.length = o * l * n ∧ a.da.length = o * l * n ∧ (∀ x i r, x < o → i < l → r < n → (pull k f a).da[(x * l + i) * n + r]? = a.da[(x * l + f i) * n + r]?) ∧
      a.da.length ≤ 4096 ∧ o * l ≤ 4096 ∧ o ≤ 4096 ∧ l ≤ 4096 ∧ n ≤ 4096 ∧ (∀ i, i < l → f i < l) ∧ (l = 0 ∨ l = t.getD k 0) := by
  have hp := pull_ok h (k := k) hf
  have hlen := h.len
  have hg := h.good.2.2
  unfold lineOf at hl
  by_cases h0 : prod t = 0
  · rw [if_pos h0] at hl
    cases hl
    refine ⟨by rw [hp.len, h0], by rw [hlen, h0], fun x i r hx => by omega, by omega, by omega, by omega, by omega, by omega, fun i hi => by omega, .inl rfl⟩
  · rw [if_neg h0] at hl
    simp only [Prod.mk.injEq] at hl
    obtain ⟨rfl, rfl, rfl⟩ := hl
    have e := prod_axis hk
    have hi : 0 < innerOf t k := by
      rcases Nat.eq_zero_or_pos (innerOf t k) with h1 | h1
      · rw [h1] at e; omega
      · exact h1
    have hol : 0 < outerOf t k * t.getD k 0 := by
      rcases Nat.eq_zero_or_pos (outerOf t k * t.getD k 0) with h1 | h1
      · rw [h1] at e; omega
      · exact h1
    have hl0 : 0 < t.getD k 0 := Nat.pos_of_mul_pos_left hol
    have ho0 : 0 < outerOf t k := Nat.pos_of_mul_pos_right hol
    have h1 : outerOf t k * t.getD k 0 ≤ prod t := by rw [e]; exact Nat.le_mul_of_pos_right _ hi
    have h2 : outerOf t k ≤ outerOf t k * t.getD k 0 := Nat.le_mul_of_pos_right _ hl0
    have h3 : t.getD k 0 ≤ outerOf t k * t.getD k 0 := Nat.le_mul_of_pos_left _ ho0
    have h4 : innerOf t k ≤ prod t := by rw [e]; exact Nat.le_mul_of_pos_left _ hol
    exact ⟨by rw [hp.len, e], by rw [hlen, e], fun x i r hx hi hr => pull_da h hk hf hx hi hr, by omega, by omega, by omega, by omega, by omega, hf, .inr rfl⟩

theorem pull_parts {a : Arr} {t : List Nat} (h : Ok a t) (k : Nat) (f : Nat → Nat) : (⟨a.ch, a.sh, (pull k f a).da⟩ : Arr) = pull k f a := by
  unfold pull tab
  rw [h.sh, h.nsh_eq]

/-- A call tells some array and some error. -/
def GivesSome (w : World) (e : Ending) (w' : World) : Prop := ∃ r ev b, e = .returned (.tuple #[r, ev]) ∧ IsArr w' r b ∧ Below w.heap.size w w'
theorem isArr_zero (w : World) : IsArr w zeroArr Arr.nil := ⟨_, _, rfl, (Owns.nil w 0).isInts, (Owns.nil w 0).isInts⟩
theorem GivesOk.some {a : Arr} {w w' : World} {e : Ending} (h : GivesOk a w e w') : GivesSome w e w' := by
  obtain ⟨r, he, hr, hb⟩ := h
  exact ⟨r, _, a, he, hr, hb⟩
theorem Fails.some {k : Int} {w w' : World} {e : Ending} (h : Fails zeroArr k w e w') : GivesSome w e w' := ⟨_, _, Arr.nil, h.1, isArr_zero w', h.2⟩

end Go.Proofs.YtajcjipabfknhaaDoor
