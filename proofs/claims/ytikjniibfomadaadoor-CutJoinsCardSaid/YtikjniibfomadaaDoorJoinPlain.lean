/- Plain facts: what is wrong with two arrays that are joined; the pieces. Conditions: none. -/
import Derived.Test.YtikjniibfomadaaDoorCutLaw
import Derived.Test.YtikjniibfomadaaDoorMem
namespace Go.Proofs.YtikjniibfomadaaDoor.P

/-- Do lengths differ elsewhere than on that axis? -/
def Differ (k : Int) (s u : List Int) : Prop := ∃ j, j < s.length ∧ (j : Int) ≠ k ∧ s.getD j 0 ≠ u.getD j 0
def joinSh (k : Nat) (s u : List Int) : List Int := s.set k (s.getD k 0 + u.getD k 0)
theorem differ_iff {k : Int} {s u : List Int} : ((List.range s.length).any fun j => decide ((j : Int) ≠ k) && decide (s.getD j 0 ≠ u.getD j 0)) = true ↔ Differ k s u := by
  unfold Differ
  rw [List.any_eq_true]
  constructor
  · rintro ⟨j, h1, h2⟩
    rw [Bool.and_eq_true] at h2
    exact ⟨j, List.mem_range.1 h1, of_decide_eq_true h2.1, of_decide_eq_true h2.2⟩
  · rintro ⟨j, h1, h2, h3⟩
    exact ⟨j, List.mem_range.2 h1, by rw [Bool.and_eq_true]; exact ⟨decide_eq_true h2, decide_eq_true h3⟩⟩
instance (k : Int) (s u : List Int) : Decidable (Differ k s u) := decidable_of_iff _ differ_iff
def joinErr (axis : Int) (a b : Arr) : Int :=
  if arrErr a ≠ 0 then arrErr a else if arrErr b ≠ 0 then arrErr b
  else if a.sh.length ≠ b.sh.length then 3
  else if axis < 0 ∨ (a.sh.length : Int) ≤ axis then 5
  else if Differ axis a.sh b.sh then 4
  else if a.ch ≠ b.ch then 6
  else cntErr (joinSh axis.toNat a.sh b.sh)

theorem same_set {t u : List Nat} {k : Nat} (hl : u.length = t.length) (hk : k < t.length) (h : ¬ Differ k (ints t) (ints u)) : u = t.set k (u.getD k 0) := by
  apply ext_getD (by rw [List.length_set, hl])
  intro j hj
  have hj' : j < t.length := by omega
  rw [getD_set_if hj']
  by_cases e : k = j
  · subst e; rw [if_pos rfl]
  · rw [if_neg e]
    by_cases c : t.getD j 0 = u.getD j 0
    · exact c.symm
    · exfalso
      refine h ⟨j, by rw [length_ints]; exact hj', by omega, fun e2 => c ?_⟩
      simp only [List.getD_eq_getElem?_getD, getElem?_ints, List.getElem?_eq_getElem hj', List.getElem?_eq_getElem hj, Option.map_some, Option.getD_some] at e2 ⊢
      omega
theorem joinSh_ints {t : List Nat} {k l : Nat} (hk : k < t.length) : joinSh k (ints t) (ints (t.set k l)) = ints (t.set k (t.getD k 0 + l)) := by
  have h1 : (ints t).getD k 0 = ((t.getD k 0 : Nat) : Int) := by
    simp only [List.getD_eq_getElem?_getD, getElem?_ints, List.getElem?_eq_getElem hk, Option.map_some, Option.getD_some]
  have h2 : (ints (t.set k l)).getD k 0 = (l : Int) := by
    simp only [List.getD_eq_getElem?_getD, getElem?_ints, List.getElem?_set_self hk, Option.map_some, Option.getD_some]
  unfold joinSh
  rw [h1, h2]
  simp [ints, List.map_set]
theorem joinErr_zero {axis : Int} {a b : Arr} (h : joinErr axis a b = 0) : ∃ t k l, Ok a t ∧ axis = (k : Nat) ∧ k < t.length ∧ Ok b (t.set k l) ∧ b.ch = a.ch ∧ GoodSh (t.set k (t.getD k 0 + l)) := by
  unfold joinErr at h
  by_cases h1 : arrErr a ≠ 0
  · rw [if_pos h1] at h; exact absurd h h1
  rw [if_neg h1] at h
  by_cases h2 : arrErr b ≠ 0
  · rw [if_pos h2] at h; exact absurd h h2
  rw [if_neg h2] at h
  obtain ⟨t, ht⟩ := ok_of_arrErr (by simpa using h1)
  obtain ⟨u, hu⟩ := ok_of_arrErr (by simpa using h2)
  have la : a.sh.length = t.length := by rw [ht.sh, length_ints]
  have lb : b.sh.length = u.length := by rw [hu.sh, length_ints]
  by_cases h3 : a.sh.length ≠ b.sh.length
  · rw [if_pos h3] at h; omega
  rw [if_neg h3] at h
  by_cases h4 : axis < 0 ∨ (a.sh.length : Int) ≤ axis
  · rw [if_pos h4] at h; omega
  rw [if_neg h4] at h
  by_cases h5 : Differ axis a.sh b.sh
  · rw [if_pos h5] at h; omega
  rw [if_neg h5] at h
  by_cases h6 : a.ch ≠ b.ch
  · rw [if_pos h6] at h; omega
  rw [if_neg h6] at h
  obtain ⟨k, rfl⟩ := Int.eq_ofNat_of_zero_le (show 0 ≤ axis by omega)
  have hk : k < t.length := by omega
  rw [ht.sh, hu.sh] at h5
  have e := same_set (k := k) (by omega) hk h5
  refine ⟨t, k, u.getD k 0, ht, rfl, hk, by rw [← e]; exact hu, (by simpa using h6 : a.ch = b.ch).symm, ?_⟩
  rw [ht.sh, hu.sh, e] at h
  have hkn : ((k : Nat) : Int).toNat = k := by omega
  rw [hkn, joinSh_ints hk] at h
  obtain ⟨v, hv, hg⟩ := cntErr_zero h
  have e2 := ints_inj hv
  rw [e2]
  exact hg
theorem joinErr_ok {a b : Arr} {t : List Nat} {k l : Nat} (ha : Ok a t) (hk : k < t.length) (hb : Ok b (t.set k l)) (hc : b.ch = a.ch) (hg : GoodSh (t.set k (t.getD k 0 + l))) : joinErr k a b = 0 := by
  have la : a.sh.length = t.length := by rw [ha.sh, length_ints]
  have lb : b.sh.length = t.length := by rw [hb.sh, length_ints, List.length_set]
  unfold joinErr
  rw [if_neg (by rw [arrErr_ok ha]; simp), if_neg (by rw [arrErr_ok hb]; simp), if_neg (by omega), if_neg (by omega), if_neg, if_neg (by rw [hc]; simp), ha.sh, hb.sh]
  · have hkn : ((k : Nat) : Int).toNat = k := by omega
    rw [hkn, joinSh_ints hk]
    exact cntErr_ints hg
  · rintro ⟨j, h1, h2, h3⟩
    rw [ha.sh, length_ints] at h1
    rw [ha.sh, hb.sh] at h3
    apply h3
    have hne : k ≠ j := by omega
    simp only [List.getD_eq_getElem?_getD, getElem?_ints, List.getElem?_set_ne hne]

/-- The products of the lengths from an axis on. -/
def RunTo (t : List Nat) (k j : Nat) (P : Int) : Prop := P = ((prod ((t.drop k).take (j - k)) : Nat) : Int)
theorem RunTo.zero (t : List Nat) (k : Nat) : RunTo t k k 1 := by simp [RunTo, prod]
theorem RunTo.next {t : List Nat} {k j : Nat} {P : Int} (h : RunTo t k j P) (hkj : k ≤ j) (hj : j < t.length) (hb : prod ((t.drop k).take (j + 1 - k)) ≤ 1000000) : RunTo t k (j + 1) (Go.RowKit.wrap64 (P * ((t.getD j 0 : Nat) : Int))) := by
  unfold RunTo at *
  have e : prod ((t.drop k).take (j + 1 - k)) = prod ((t.drop k).take (j - k)) * t.getD j 0 := by
    rw [show j + 1 - k = (j - k) + 1 by omega, List.take_add_one, List.getElem?_drop, show k + (j - k) = j by omega, List.getElem?_eq_getElem hj, prod_append]
    simp [prod, List.getD_eq_getElem?_getD, hj]
  rw [e] at hb ⊢
  rw [h, ← Int.natCast_mul]
  generalize prod ((t.drop k).take (j - k)) * t.getD j 0 = q at *
  unfold Go.RowKit.wrap64
  omega
theorem run_all {t : List Nat} {k : Nat} (hk : k < t.length) : prod ((t.drop k).take (t.length - k)) = t.getD k 0 * innerOf t k := by
  rw [List.take_of_length_le (by rw [List.length_drop]; exact Nat.le_refl _), List.drop_eq_getElem_cons hk, prod, getD_lt hk]
  rfl

end Go.Proofs.YtikjniibfomadaaDoor.P
