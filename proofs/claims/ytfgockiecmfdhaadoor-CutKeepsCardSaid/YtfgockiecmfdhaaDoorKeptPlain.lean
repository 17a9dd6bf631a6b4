/- Plain facts: the cells that a mask keeps, met one by one in the order of the array. Conditions: none. -/
import Derived.Test.YtfgockiecmfdhaaDoorKeep
import Derived.Test.YtfgockiecmfdhaaDoorOdo
namespace Go.Proofs.YtfgockiecmfdhaaDoor.P
/-- Behind c cells (l along the axis, n behind each) K of them are kept. -/
def KAt (m : List Int) (l n c K : Nat) : Prop := ∃ o i r, i < l ∧ r < n ∧ c = (o * l + i) * n + r ∧ K = (o * cnt m l + cnt m i) * n + (if m[i]? = some 1 then r else 0)
theorem KAt.start (m : List Int) {l n : Nat} (hl : 0 < l) (hn : 0 < n) : KAt m l n 0 0 := ⟨0, 0, 0, hl, hn, by simp, by simp [cnt_zero]⟩
theorem KAt.step {m : List Int} {l n c K : Nat} (hm : m.length = l) (h : KAt m l n c K) :
    ∃ o i r, i < l ∧ r < n ∧ c = (o * l + i) * n + r ∧ K = (o * cnt m l + cnt m i) * n + (if m[i]? = some 1 then r else 0) ∧ KAt m l n (c + 1) (K + if m[i]? = some 1 then 1 else 0) := by
  obtain ⟨o, i, r, hi, hr, hc, hK⟩ := h
  refine ⟨o, i, r, hi, hr, hc, hK, ?_⟩
  have hcnt : cnt m (i + 1) = cnt m i + if m[i]? = some 1 then 1 else 0 := by
    by_cases e : m[i]? = some 1
    · rw [if_pos e, cnt_one e]
    · have hx : m[i]? = some (m[i]'(by omega)) := List.getElem?_eq_getElem (by omega)
      rw [if_neg e, cnt_other hx (fun e2 => e (by rw [hx, e2]))]
      rfl
  have hn2 : ∀ x y : Nat, (x + (y + 1)) * n = (x + y) * n + n := fun x y => by rw [← Nat.add_assoc, Nat.add_mul, Nat.one_mul]
  rcases Nat.lt_or_ge (r + 1) n with h1 | h1
  · exact ⟨o, i, r + 1, hi, h1, by omega, by rw [hK]; split <;> omega⟩
  · have hrn : r + 1 = n := by omega
    rcases Nat.lt_or_ge (i + 1) l with h2 | h2
    · refine ⟨o, i + 1, 0, h2, by omega, by rw [hn2]; omega, ?_⟩
      rw [hK, hcnt, ite_self]
      split
      · simp only [Nat.add_zero]; rw [hn2]; omega
      · simp only [Nat.add_zero]
    · have hil : i + 1 = l := by omega
      have e1 : (o + 1) * l = o * l + (i + 1) := by rw [Nat.add_mul, Nat.one_mul, hil]
      have e2 : (o + 1) * cnt m l = o * cnt m l + cnt m (i + 1) := by rw [Nat.add_mul, Nat.one_mul, hil]
      refine ⟨o + 1, 0, 0, by omega, by omega, by simp only [Nat.add_zero]; rw [e1, hn2]; omega, ?_⟩
      rw [hK, e2, hcnt, cnt_zero, ite_self]
      split
      · simp only [Nat.add_zero]; rw [hn2]; omega
      · simp only [Nat.add_zero]
theorem KAt.last {m : List Int} {l n O K : Nat} (hl : 0 < l) (hn : 0 < n) (h : KAt m l n (O * l * n) K) : K = O * cnt m l * n := by
  obtain ⟨o, i, r, hi, hr, hc, hK⟩ := h
  have h1 : O * l = o * l + i := by
    have e := congrArg (· / n) hc
    simp only [Nat.mul_div_cancel _ hn] at e
    rw [e, Nat.add_comm, Nat.add_mul_div_right _ _ hn, Nat.div_eq_of_lt hr, Nat.zero_add]
  have h2 : O = o := by
    have e := congrArg (· / l) h1
    simp only [Nat.mul_div_cancel _ hl] at e
    rw [e, Nat.add_comm, Nat.add_mul_div_right _ _ hl, Nat.div_eq_of_lt hi, Nat.zero_add]
  subst h2
  have h3 : i = 0 := by omega
  subst h3
  rw [Nat.add_zero] at hc
  have h4 : r = 0 := by omega
  subst h4
  rw [hK, cnt_zero, ite_self]
  simp
theorem axis_coord {t : List Nat} {k o i r : Nat} (hk : k < t.length) (ho : o < outerOf t k) (hi : i < t.getD k 0) (hr : r < innerOf t k) : (coords t ((o * t.getD k 0 + i) * innerOf t k + r)).getD k 0 = i := by
  obtain ⟨ix, h1, h2, h3, h4⟩ := exists_axis hk ho hi hr
  have e1 := place_axis hk (inside_length h1)
  rw [h2, h3, h4] at e1
  rw [← e1, coords_place h1, h3]
/-- One more cell: it is kept, or it is not. -/
theorem kept_step {a : Arr} {t : List Nat} {k c K : Nat} {m : List Int} (h : Ok a t) (hk : k < t.length) (hm : m.length = t.getD k 0) (hc : c < prod t) (hK : KAt m (t.getD k 0) (innerOf t k) c K) :
    (m[(coords t c).getD k 0]? = some 1 → (keep m k a).da[K]? = a.da[c]? ∧ KAt m (t.getD k 0) (innerOf t k) (c + 1) (K + 1)) ∧
    (m[(coords t c).getD k 0]? ≠ some 1 → KAt m (t.getD k 0) (innerOf t k) (c + 1) K) := by
  obtain ⟨o, i, r, hi, hr, e, eK, hn⟩ := hK.step hm
  have ho : o < outerOf t k := by
    rcases Nat.lt_or_ge o (outerOf t k) with h1 | h1
    · exact h1
    · exfalso
      have h2 := Nat.mul_le_mul_right (innerOf t k) (Nat.le_trans (Nat.mul_le_mul_right (t.getD k 0) h1) (Nat.le_add_right _ i))
      rw [← prod_axis hk] at h2
      omega
  have hco : (coords t c).getD k 0 = i := by rw [e]; exact axis_coord hk ho hi hr
  rw [hco]
  constructor
  · intro h1
    rw [if_pos h1] at hn eK
    exact ⟨by rw [eK, e, ← hm]; rw [hm]; have := keep_da h hk hm ho h1 hr; rw [hm] at this; exact this, hn⟩
  · intro h1
    rw [if_neg h1] at hn
    exact hn
end Go.Proofs.YtfgockiecmfdhaaDoor.P
