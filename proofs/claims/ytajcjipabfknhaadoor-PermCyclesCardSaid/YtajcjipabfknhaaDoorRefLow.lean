/- The walks of the references' small functions: what is wrong with a shape, how many cells, the indices of a place, the place of indices. Conditions: none but these. -/
import Derived.Test.YtajcjipabfknhaaDoorCount
import Derived.Test.YtajcjipabfknhaaDoorOdo
import Derived.Test.YtajcjipabfknhaaDoorList
import Derived.Test.YtajcjipabfknhaaDoorMoved
import Derived.Test.YtajcjipabfknhaaDoorMore
import Derived.Test.YtajcjipabfknhaaDoorIntsAt
import Derived.BigQuiet
import Derived.Deep.QuietTactic
set_option linter.unusedSimpArgs false
set_option linter.unusedVariables false
namespace Go.Proofs.YtajcjipabfknhaaDoor.P

theorem cnt_rank {s : List Int} (h : 6 < s.length) : cntErr s = 3 := by unfold cntErr; rw [if_pos h]
theorem cnt_scan {s : List Int} (h : ¬ 6 < s.length) {k : Int} (hk : scanErr s = k) (h0 : k ≠ 0) : cntErr s = k := by
  subst hk; unfold cntErr; rw [if_neg h, if_pos h0]
theorem cnt_none {s : List Int} (h : ¬ 6 < s.length) (hk : scanErr s = 0) (h0 : (0 : Int) ∈ s) : cntErr s = 0 := by
  unfold cntErr; rw [if_neg h, if_neg (by rw [hk]; simp), if_pos h0]
theorem cnt_full {s : List Int} (h : ¬ 6 < s.length) (hk : scanErr s = 0) (h0 : (0 : Int) ∉ s) (hg : grow 1 s = none) : cntErr s = 7 := by
  unfold cntErr; rw [if_neg h, if_neg (by rw [hk]; simp), if_neg h0, hg]
theorem cnt_fine {s : List Int} (h : ¬ 6 < s.length) (hk : scanErr s = 0) (h0 : (0 : Int) ∉ s) {p : Int} (hg : grow 1 s = some p) : cntErr s = 0 := by
  unfold cntErr; rw [if_neg h, if_neg (by rw [hk]; simp), if_neg h0, hg]
theorem mem_take_succ {s : List Int} {k : Nat} {x y : Int} (h : s[k]? = some x) : y ∈ s.take (k + 1) ↔ y ∈ s.take k ∨ y = x := by
  rw [List.take_add_one, h]; simp
theorem room_div {q x : Nat} : 4096 / q / x = 4096 / (q * x) := Nat.div_div_eq_div_mul ..
theorem place_drop {t ix : List Nat} {k : Nat} (hk : k < t.length) (hl : ix.length = t.length) : place (t.drop k) (ix.drop k) = ix.getD k 0 * prod (t.drop (k + 1)) + place (t.drop (k + 1)) (ix.drop (k + 1)) := by
  rw [List.drop_eq_getElem_cons hk, List.drop_eq_getElem_cons (show k < ix.length by omega), place, List.getD_eq_getElem?_getD, List.getElem?_eq_getElem (show k < ix.length by omega)]
  rfl
theorem prod_drop {t : List Nat} {k : Nat} (hk : k < t.length) : prod (t.drop k) = t.getD k 0 * prod (t.drop (k + 1)) := by
  rw [List.drop_eq_getElem_cons hk, prod, List.getD_eq_getElem?_getD, List.getElem?_eq_getElem hk]
  rfl
theorem prod_drop_le {t : List Nat} (h : prod t ≠ 0) (k : Nat) : prod (t.drop k) ≤ prod t := by
  have e : prod t = prod (t.take k) * prod (t.drop k) := by rw [← prod_append, List.take_append_drop]
  rw [e] at h ⊢
  exact Nat.le_mul_of_pos_left _ (Nat.pos_of_ne_zero fun h0 => h (by rw [h0, Nat.zero_mul]))
end Go.Proofs.YtajcjipabfknhaaDoor.P
namespace Go.Proofs.YtajcjipabfknhaaDoor
open Go Go.RowKit Go.Proofs.YtajcjipabfknhaaDoor.P

end Go.Proofs.YtajcjipabfknhaaDoor
