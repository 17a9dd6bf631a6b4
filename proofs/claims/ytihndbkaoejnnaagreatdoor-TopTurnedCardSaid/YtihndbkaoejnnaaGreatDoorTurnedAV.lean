/- What the card TopTurned leans on: TurnedPlain. Conditions: none but those of its theorems. -/
import Derived.Test.YtihndbkaoejnnaaGreatDoorTurnedAO
import Derived.Test.YtihndbkaoejnnaaGreatDoorTurnedA
import Derived.Test.YtihndbkaoejnnaaGreatDoorTurnedAQ
set_option linter.unusedSimpArgs false
set_option linter.unusedVariables false
namespace Go.Proofs.YtihndbkaoejnnaaGreatDoor.P
open Go Go.RowKit

theorem swap_perm : Perm [1, 0] := ⟨by decide, by decide⟩
theorem flip_sh (m n : Nat) : flipSh [1, 0] [m, n] = [n, m] := by
  unfold flipSh
  rw [show inv [1, 0] = [1, 0] by decide]
  rfl
theorem flip_ok2 {a : Arr} {m n : Nat} (h : Ok a [m, n]) : Ok (flip [1, 0] a) [n, m] := by
  have := flip_ok h swap_perm rfl
  rwa [flip_sh] at this
theorem flip_get {a : Arr} {m n : Nat} (h : Ok a [m, n]) {k : Nat} (hk : k < n * m) : (flip [1, 0] a).da.getD k 0 = a.da.getD (k % m * n + k / m) 0 := by
  rw [List.getD_eq_getElem?_getD]
  unfold flip tab
  rw [h.nsh_eq, flip_sh]
  simp only []
  rw [List.getElem?_map, List.getElem?_range (by simpa [prod] using hk)]
  simp only [Option.map_some, Option.getD_some, Arr.cell, h.nsh_eq]
  congr 1
  simp [coords, prod, aft, place]
theorem mod_add_mul (i j L : Nat) (hj : j < L) : (i * L + j) % L = j ∧ (i * L + j) / L = i := by
  constructor
  · rw [Nat.add_comm, Nat.add_mul_mod_self_right, Nat.mod_eq_of_lt hj]
  · rw [Nat.add_comm, Nat.add_mul_div_right _ _ (by omega), Nat.div_eq_of_lt hj, Nat.zero_add]
theorem dot_turned {a b : Arr} {p L r : Nat} (h1 : Ok a [p, L]) (h2 : Ok b [L, r]) {k : Nat} (hk : k < r * p) :
    dotL a.da b.da L r (k % p * r + k / p) = dotL (flip [1, 0] b).da (flip [1, 0] a).da L p k := by
  have hp : 0 < p := by
    rcases Nat.eq_zero_or_pos p with h | h
    · subst h
      simp at hk
    · exact h
  have hkp : k / p < r := (Nat.div_lt_iff_lt_mul hp).2 hk
  have hkm : k % p < p := Nat.mod_lt _ hp
  obtain ⟨e1, e2⟩ := mod_add_mul (k % p) (k / p) r hkp
  unfold dotL
  rw [e1, e2]
  apply List.map_congr_left
  intro j hj
  have hj : j < L := by simpa using hj
  obtain ⟨f1, f2⟩ := mod_add_mul (k / p) j L hj
  obtain ⟨g1, g2⟩ := mod_add_mul j (k % p) p hkm
  have b1 : k / p * L + j < r * L := by
    have : (k / p + 1) * L ≤ r * L := Nat.mul_le_mul_right _ hkp
    rw [Nat.add_mul, Nat.one_mul] at this
    omega
  have b2 : j * p + k % p < L * p := by
    have : (j + 1) * p ≤ L * p := Nat.mul_le_mul_right _ hj
    rw [Nat.add_mul, Nat.one_mul] at this
    omega
  rw [flip_get h2 b1, flip_get h1 b2, f1, f2, g1, g2]
  unfold twoV
  simp [Int.mul_comm]
theorem innerD_get {A B : List Int} {L N C k : Nat} (hk : k < N) : (innerD A B L N C).getD k 0 = (ofR 1 (dotL A B L C k)).1 := by
  unfold innerD
  rw [List.getD_eq_getElem?_getD, List.getElem?_map, List.getElem?_range hk]
  rfl
theorem innerD_ok {A B : List Int} {L p r : Nat} (hg : GoodSh [p, r]) : Ok ⟨false, [(p : Int), (r : Int)], innerD A B L (p * r) r⟩ [p, r] :=
  ⟨rfl, hg, by simp [innerD, prod], fun e => by cases e⟩
theorem turned {a b : Arr} {p L r : Nat} (h1 : Ok a [p, L]) (h2 : Ok b [L, r]) (hg : GoodSh [p, r]) :
    flip [1, 0] ⟨false, [(p : Int), (r : Int)], innerD a.da b.da L (p * r) r⟩ = ⟨false, [(r : Int), (p : Int)], innerD (flip [1, 0] b).da (flip [1, 0] a).da L (r * p) p⟩ := by
  have hI := innerD_ok (A := a.da) (B := b.da) (L := L) hg
  have hF := flip_ok2 hI
  have hs := hF.sh
  have hl := hF.len
  have hc : (flip [1, 0] (⟨false, [(p : Int), (r : Int)], innerD a.da b.da L (p * r) r⟩ : Arr)).ch = false := rfl
  have hd : (flip [1, 0] (⟨false, [(p : Int), (r : Int)], innerD a.da b.da L (p * r) r⟩ : Arr)).da = innerD (flip [1, 0] b).da (flip [1, 0] a).da L (r * p) p := by
    apply List.ext_getElem
    · rw [hl]; simp [innerD, prod]
    · intro k h3 h4
      have hk : k < r * p := by simpa [innerD] using h4
      have e1 := flip_get hI hk
      have hp : 0 < p := by
        rcases Nat.eq_zero_or_pos p with h | h
        · subst h
          simp at hk
        · exact h
      have hkp : k / p < r := (Nat.div_lt_iff_lt_mul hp).2 hk
      have hb : k % p * r + k / p < p * r := by
        have : (k % p + 1) * r ≤ p * r := Nat.mul_le_mul_right _ (Nat.mod_lt _ hp)
        rw [Nat.add_mul, Nat.one_mul] at this
        omega
      rw [innerD_get hb, dot_turned h1 h2 hk, ← innerD_get (N := r * p) hk] at e1
      rw [List.getD_eq_getElem?_getD, List.getD_eq_getElem?_getD, List.getElem?_eq_getElem h3, List.getElem?_eq_getElem h4] at e1
      exact e1
  generalize flip [1, 0] (⟨false, [(p : Int), (r : Int)], innerD a.da b.da L (p * r) r⟩ : Arr) = z at hs hc hd ⊢
  obtain ⟨zc, zs, zd⟩ := z
  simp only at hs hc hd
  subst hs hc hd
  rfl
theorem dot_lists {a b : Arr} {n : Nat} (h1 : Ok a [n]) (hca : a.ch = false) (hcb : b.ch = false) : innerD a.da b.da n 1 1 = [(ofR 1 (zipA 3 a b).da).1] := by
  have hl : a.da.length = n := by rw [h1.len]; simp [prod]
  unfold innerD
  rw [show List.range 1 = [0] from rfl, List.map_cons, List.map_nil]
  congr 3
  unfold dotL zipA
  simp only [hl]
  apply List.map_congr_left
  intro j _
  unfold cellV
  simp [hca, hcb, Nat.mod_one]
theorem zip_okN {f : Int} {a b : Arr} {t : List Nat} (h1 : Ok a t) : Ok (zipA f a b) t := ⟨h1.sh, h1.good, by simp [zipA, h1.len], fun e => by cases e⟩
theorem zip_wf3 {a b : Arr} (hca : a.ch = false) (hcb : b.ch = false) : Wf (zipA 3 a b).da := by
  intro x hx
  unfold zipA at hx
  obtain ⟨j, -, rfl⟩ := List.mem_map.1 hx
  have e : cellV a.ch b.ch 3 (a.da.getD j 0) (b.da.getD j 0) = wrap64 (a.da.getD j 0 * b.da.getD j 0) := by
    unfold cellV twoV
    simp [hca, hcb]
  rw [e]
  exact word_wf.2 (word_wrap _)
theorem sum_no_err (l : List Int) : (ofR 1 l).2 = 0 := by
  by_cases h : l = []
  · rw [h]; rfl
  · exact Tame.of (by unfold Tame; omega) h

end Go.Proofs.YtihndbkaoejnnaaGreatDoor.P
