/- What the card TopSums leans on: TopSumsPlain. Conditions: none but those of its theorems. -/
import Derived.Test.YtihndbkaoejnnaaGreatDoorSumsAJ
import Derived.Test.YtihndbkaoejnnaaGreatDoorSumsAN
set_option linter.unusedSimpArgs false
set_option linter.unusedVariables false
namespace Go.Proofs.YtihndbkaoejnnaaGreatDoor.P
open Go Go.RowKit

theorem sums_plain {v : Arr} {n : Nat} (h : Ok v [n]) (hn : 1 ≤ n) (hc : v.ch = false) (hw : Wf v.da) : zipA 2 ⟨false, v.sh, scan1 1 v.da⟩ ⟨false, [((n - 1 + 1 : Nat) : Int)], 0 :: (scan1 1 v.da).take (n - 1)⟩ = v := by
  have hl : v.da.length = n := by rw [h.len]; simp [prod]
  have hsl : (scan1 1 v.da).length = n := by rw [scan1_len, hl]
  obtain ⟨c, s, d⟩ := v
  simp only at hc hw hl hsl h ⊢
  subst hc
  unfold zipA
  simp only
  congr 1
  rw [hsl]
  apply List.ext_getElem?
  intro i
  rw [List.getElem?_map]
  by_cases hi : i < n
  · rw [List.getElem?_range hi, Option.map_some]
    have hx : (scan1 1 d)[i]? = some ((scan1 1 d).getD i 0) := by
      rw [List.getD_eq_getElem?_getD, List.getElem?_eq_getElem (by omega)]; rfl
    have hy : d[i]? = some (d.getD i 0) := by
      rw [List.getD_eq_getElem?_getD, List.getElem?_eq_getElem (by omega)]; rfl
    rw [hy]
    congr 1
    show (if false ≠ false then _ else twoV 2 _ _) = _
    rw [if_neg (by simp)]
    cases i with
    | zero =>
      have e := sums_zero hx hy
      rw [e]
      show wrap64 (d.getD 0 0 - 0) = _
      rw [Int.sub_zero]
      exact word_same (wf_words hw _ (List.mem_of_getElem? hy))
    | succ j =>
      have hz : (scan1 1 d)[j]? = some ((scan1 1 d).getD j 0) := by
        rw [List.getD_eq_getElem?_getD, List.getElem?_eq_getElem (by omega)]; rfl
      have e : (0 :: (scan1 1 d).take (n - 1)).getD (j + 1) 0 = (scan1 1 d).getD j 0 := by
        rw [List.getD_eq_getElem?_getD, List.getElem?_cons_succ, List.getElem?_take, if_pos (by omega), ← List.getD_eq_getElem?_getD]
      rw [e]
      exact sums_step hw hx hz hy
  · rw [List.getElem?_eq_none (by simp; omega), List.getElem?_eq_none (by omega)]
    rfl

end Go.Proofs.YtihndbkaoejnnaaGreatDoor.P
