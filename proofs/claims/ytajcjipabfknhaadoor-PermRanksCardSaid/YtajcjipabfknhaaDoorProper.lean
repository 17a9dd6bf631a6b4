/- Plain facts: digits below their bases are those of their value; lists in order of their digits are in order of their values. Conditions: none. -/
import Derived.Test.YtajcjipabfknhaaDoorWhole
set_option linter.unusedSimpArgs false
set_option linter.unusedVariables false
namespace Go.Proofs.YtajcjipabfknhaaDoor.P
open Go Go.RowKit

/-- Below 0, 0, above 0: the first digit that differs tells. -/
def cmp : List Int → List Int → Int
  | x :: xs, y :: ys => if x < y then -1 else if y < x then 1 else cmp xs ys
  | _, _ => 0

/-- Digits that stand below their bases, all bases above 0. -/
def Below1 (bs ds : List Int) : Prop := ds.length = bs.length ∧ ∀ (k : Nat) (b d : Int), bs[k]? = some b → ds[k]? = some d → 1 ≤ b ∧ 0 ≤ d ∧ d < b
def Proper (bs ds : List Int) : Prop := Below1 bs ds ∧ bs.length ≤ 62 ∧ prd bs ≤ 4611686018427387904

theorem below1_cons {b d : Int} {bs ds : List Int} (h : Below1 (b :: bs) (d :: ds)) : (1 ≤ b ∧ 0 ≤ d ∧ d < b) ∧ Below1 bs ds :=
  ⟨h.2 0 b d rfl rfl, by simpa using h.1, fun k x y hx hy => h.2 (k + 1) x y (by simpa using hx) (by simpa using hy)⟩

theorem hv_bound : ∀ {bs ds : List Int}, Below1 bs ds → 0 ≤ hv bs ds ∧ hv bs ds < prd bs
  | [], ds, _ => by simp [hv, prd]
  | b :: bs, [], h => by simp [Below1] at h
  | b :: bs, d :: ds, h => by
    obtain ⟨⟨h1, h2, h3⟩, h4⟩ := below1_cons h
    obtain ⟨h5, h6⟩ := hv_bound h4
    rw [hv_cons h4.1, prd_cons]
    have h7 : 0 ≤ d * prd bs := Int.mul_nonneg h2 (by omega)
    have h8 : (d + 1) * prd bs ≤ b * prd bs := Int.mul_le_mul_of_nonneg_right (by omega) (by omega)
    rw [Int.add_mul] at h8
    omega

theorem digs_hv : ∀ {bs ds : List Int} (m : Int), Below1 bs ds → 0 ≤ m → hv bs ds + m * prd bs ≤ 4611686018427387904 → digs bs (hv bs ds + m * prd bs) = (ds, m)
  | [], [], m, _, _, _ => by simp [hv, prd, digs]
  | [], d :: ds, m, h, _, _ => by simp [Below1] at h
  | b :: bs, [], m, h, _, _ => by simp [Below1] at h
  | b :: bs, d :: ds, m, h, hm, hn => by
    obtain ⟨⟨h1, h2, h3⟩, h4⟩ := below1_cons h
    obtain ⟨h5, h6⟩ := hv_bound h4
    have e : hv (b :: bs) (d :: ds) + m * prd (b :: bs) = hv bs ds + (d + m * b) * prd bs := by
      rw [hv_cons h4.1, prd_cons, Int.add_mul, Int.mul_assoc]
      omega
    rw [e] at hn ⊢
    have h7 : 0 ≤ m * b := Int.mul_nonneg hm (by omega)
    have h8 : (d + m * b) * 1 ≤ (d + m * b) * prd bs := Int.mul_le_mul_of_nonneg_left (by omega) (by omega)
    have h9 : m * 1 ≤ m * b := Int.mul_le_mul_of_nonneg_left (by omega) hm
    have ih := digs_hv (d + m * b) h4 (by omega) hn
    simp only [digs, ih]
    have ed : Int.fdiv (d + m * b) b = m := by
      rw [Int.add_mul_fdiv_right _ _ (by omega), Int.fdiv_eq_zero_of_lt h2 h3, Int.zero_add]
    unfold digit left
    have ee : d + m * b - b * m = d := by rw [Int.mul_comm b m]; omega
    rw [if_neg (by omega), if_neg (by omega), ed, ee, wrap_small (by omega), wrap_small (by omega)]

theorem hv_order : ∀ {bs ds es : List Int}, Below1 bs ds → Below1 bs es → (hv bs ds < hv bs es ↔ cmp ds es < 0)
  | [], [], [], _, _ => by simp [hv, cmp]
  | [], d :: ds, _, h, _ => by simp [Below1] at h
  | [], [], e :: es, _, h => by simp [Below1] at h
  | b :: bs, [], _, h, _ => by simp [Below1] at h
  | b :: bs, d :: ds, [], _, h => by simp [Below1] at h
  | b :: bs, d :: ds, e :: es, hd, he => by
    obtain ⟨⟨h1, h2, h3⟩, h4⟩ := below1_cons hd
    obtain ⟨⟨g1, g2, g3⟩, g4⟩ := below1_cons he
    obtain ⟨h5, h6⟩ := hv_bound h4
    obtain ⟨g5, g6⟩ := hv_bound g4
    rw [hv_cons h4.1, hv_cons g4.1]
    simp only [cmp]
    have ih := hv_order h4 g4
    by_cases c1 : d < e
    · rw [if_pos c1]
      have : (d + 1) * prd bs ≤ e * prd bs := Int.mul_le_mul_of_nonneg_right (by omega) (by omega)
      rw [Int.add_mul] at this
      omega
    · rw [if_neg c1]
      by_cases c2 : e < d
      · rw [if_pos c2]
        have : (e + 1) * prd bs ≤ d * prd bs := Int.mul_le_mul_of_nonneg_right (by omega) (by omega)
        rw [Int.add_mul] at this
        omega
      · rw [if_neg c2]
        have : d = e := by omega
        subst this
        omega

theorem cmp_drop {xs ys : List Int} {k : Nat} {x y : Int} (hx : xs[k]? = some x) (hy : ys[k]? = some y) : cmp (xs.drop k) (ys.drop k) = if x < y then -1 else if y < x then 1 else cmp (xs.drop (k + 1)) (ys.drop (k + 1)) := by
  have key : ∀ {xs : List Int} {x : Int}, xs[k]? = some x → xs.drop k = x :: xs.drop (k + 1) := fun {xs x} h => by
    have hk := (List.getElem?_eq_some_iff.1 h).1
    rw [List.drop_eq_getElem_cons hk]
    rw [List.getElem?_eq_getElem hk] at h
    injection h with h
    rw [h]
  rw [key hx, key hy]
  rfl

theorem cmp_nil_left (ys : List Int) : cmp [] ys = 0 := by cases ys <;> rfl

theorem radix_back {bs ds : List Int} (h : Proper bs ds) : wrap64 (hv bs ds) = hv bs ds ∧ 0 ≤ hv bs ds ∧ (digs bs (hv bs ds)).1 = ds := by
  obtain ⟨h1, h2⟩ := hv_bound h.1
  have h3 := h.2.2
  refine ⟨wrap_small (by omega), h1, ?_⟩
  have := digs_hv 0 h.1 (Int.le_refl 0) (by simp; omega)
  simp only [Int.zero_mul, Int.add_zero] at this
  rw [this]

end Go.Proofs.YtajcjipabfknhaaDoor.P
