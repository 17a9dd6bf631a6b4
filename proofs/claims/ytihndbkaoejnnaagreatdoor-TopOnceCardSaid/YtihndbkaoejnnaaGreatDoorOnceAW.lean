/- What the card TopOnce leans on: ActZip, TopOncePlain. Conditions: none but those of its theorems. -/
import Derived.Test.YtihndbkaoejnnaaGreatDoorOnceAU
import Derived.Test.YtihndbkaoejnnaaGreatDoorOnceAB
import Derived.Test.YtihndbkaoejnnaaGreatDoorOnceAJ
import Derived.Test.YtihndbkaoejnnaaGreatDoorOnceAR
import Derived.Test.YtihndbkaoejnnaaGreatDoorOnceAV
import Derived.Test.YtihndbkaoejnnaaGreatDoorOnceA
set_option linter.unusedSimpArgs false
set_option linter.unusedVariables false
namespace Go.Proofs.YtihndbkaoejnnaaGreatDoor
open Go Go.RowKit Go.Proofs.YtihndbkaoejnnaaGreatDoor.P

theorem cell_no_err {f : Int} (hf : f = 1 ∨ f = 2 ∨ f = 3 ∨ f = 8) (ca cb : Bool) (x y : Int) : cellE ca cb f x y = 0 := by
  unfold cellE
  split
  · rfl
  · exact twoE_ok (by omega) (by omega) (by omega) (by omega)
theorem eachErr_same {f : Int} {a b : Arr} {t : List Nat} (hf : f = 1 ∨ f = 2 ∨ f = 3 ∨ f = 8) (ha : Ok a t) (hb : Ok b t) (hc : f = 8 ∨ (a.ch = false ∧ b.ch = false)) : eachErr f a b = 0 := by
  have hs : a.sh = b.sh := by rw [ha.sh, hb.sh]
  unfold eachErr
  rw [if_neg (by rw [twoE_ok (by omega) (by omega) (by omega) (by omega)]; simp), if_neg (by rw [arrErr_ok ha]; simp), if_neg (by rw [arrErr_ok hb]; simp)]
  rw [hs]
  simp only [ne_eq, not_true_eq_false, if_false]
  rcases hc with rfl | ⟨h1, h2⟩
  · simp
  · simp [h1, h2]
theorem act_zip {f : Int} {a b : Arr} {t : List Nat} (hf : f = 1 ∨ f = 2 ∨ f = 3 ∨ f = 8) (ha : Ok a t) (hb : Ok b t) (hc : f = 8 ∨ (a.ch = false ∧ b.ch = false)) (hwb : Wf b.da) : ActTwo 0 f 0 a b (zipA f a b) :=
  two_both (arrErr_ok ha) (arrErr_ok hb) (by omega) (fun W => known_cells hf 0 W) (both_cells hf (fun W v1 v2 h1 h2 => each_zip_new h1 h2 hwb ha hb ⟨eachErr_same hf ha hb hc, fun i _ => cell_no_err hf _ _ _ _⟩))

end Go.Proofs.YtihndbkaoejnnaaGreatDoor

namespace Go.Proofs.YtihndbkaoejnnaaGreatDoor.P
open Go Go.RowKit

theorem maskFrom_mask (q : Nat → Int → Bool) : ∀ (i : Nat) (d : List Int), Mask (maskFrom q i d)
  | _, [] => fun x h => by cases h
  | i, y :: d => fun x h => by
    rw [maskFrom] at h
    rcases List.mem_cons.1 h with rfl | h
    · split
      · exact .inr rfl
      · exact .inl rfl
    · exact maskFrom_mask q (i + 1) d x h
theorem index_mask {v : Arr} {n : Nat} (h : Ok v [n]) : zipA 8 (firstNums n) (index v v) = ⟨false, [(n : Int)], maskFrom (firstB v.da) 0 v.da⟩ := by
  have hl : v.da.length = n := by rw [h.len]; simp [prod]
  have hfl : (firstNums n).da.length = n := by simp [firstNums, ints]
  unfold zipA
  rw [hfl]
  show (⟨false, [(n : Int)], _⟩ : Arr) = _
  congr 1
  apply List.ext_getElem?
  intro i
  rw [List.getElem?_map]
  by_cases hi : i < n
  · rw [List.getElem?_range hi, Option.map_some]
    have hx : v.da[i]? = some (v.da.getD i 0) := by
      rw [List.getD_eq_getElem?_getD, List.getElem?_eq_getElem (by omega)]; rfl
    rw [maskFrom_at hx]
    congr 1
    have e1 : (firstNums n).da.getD i 0 = (i : Int) := by
      rw [List.getD_eq_getElem?_getD]
      simp [firstNums, ints, hi]
    have e2 : (index v v).da.getD i 0 = ((v.da.idxOf (v.da.getD i 0) : Nat) : Int) := by
      rw [List.getD_eq_getElem?_getD]
      simp only [index, List.getElem?_map, hx, Option.map_some, Option.getD_some]
      unfold findN
      rw [if_pos (hasB_iff.2 ⟨List.mem_of_getElem? hx, rfl⟩)]
    rw [e1, e2]
    show (if false ≠ false then _ else twoV 8 _ _) = _
    rw [if_neg (by simp)]
    have e3 : twoV 8 (i : Int) ((v.da.idxOf (v.da.getD i 0) : Nat) : Int) = bitV ((i : Int) = ((v.da.idxOf (v.da.getD i 0) : Nat) : Int)) := by unfold twoV; simp
    rw [e3, Nat.zero_add]
    unfold bitV firstB
    by_cases hq : v.da.idxOf (v.da.getD i 0) = i
    · rw [if_pos (by omega), if_pos (by simpa using hq)]
    · rw [if_neg (by omega), if_neg (by simpa using hq)]
  · rw [List.getElem?_eq_none (by simp; omega), List.getElem?_eq_none (by rw [maskFrom_len]; omega)]
    rfl
end Go.Proofs.YtihndbkaoejnnaaGreatDoor.P
namespace Go.Proofs.YtihndbkaoejnnaaGreatDoor
open Go Go.RowKit Go.Proofs.YtihndbkaoejnnaaGreatDoor.P
theorem mask_keepErr {v : Arr} {n : Nat} (h : Ok v [n]) : keepErr (maskFrom (firstB v.da) 0 v.da) 0 v = 0 := by
  have hl : v.da.length = n := by rw [h.len]; simp [prod]
  have hs : v.sh = [(n : Int)] := by rw [h.sh]; rfl
  unfold keepErr
  rw [if_neg (by rw [arrErr_ok h]; simp), hs, if_neg (by simp), if_neg (by rw [maskFrom_len, hl]; simp), if_neg (by simpa using maskFrom_mask _ _ _)]
theorem once_keep {v : Arr} {n : Nat} (h : Ok v [n]) : keep (maskFrom (firstB v.da) 0 v.da) 0 v = nub v := by
  have hl : v.da.length = n := by rw [h.len]; simp [prod]
  rw [keep_sel (by rw [hl]; exact h)]
  rfl
end Go.Proofs.YtihndbkaoejnnaaGreatDoor
