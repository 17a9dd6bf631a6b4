/- A line in two parts: the plain law. Conditions: a function of which it is the same whichever two come first. -/
import Derived.Test.YtojeggeimnenbaaDoorAxesFold
import Derived.Test.YtojeggeimnenbaaDoorCellsPlain
import Derived.Test.YtojeggeimnenbaaDoorGround
set_option linter.unusedSimpArgs false
set_option linter.unusedVariables false
namespace Go.Proofs.YtojeggeimnenbaaDoor.P
open Go Go.RowKit
theorem S_append {f : Int} (hm : Mono f) : ∀ (l1 l2 : List Int), (∀ x ∈ l1, Word x) → (∀ x ∈ l2, Word x) → S f (l1 ++ l2) = twoV f (S f l1) (S f l2)
  | [], l2, _, h2 => by rw [List.nil_append, S_nil, hm.comm, two_neut hm (S_word hm h2)]
  | x :: l1, l2, h1, h2 => by
    rw [List.cons_append, S_cons hm (h1 x List.mem_cons_self), S_cons hm (h1 x List.mem_cons_self), S_append hm l1 l2 (fun y hy => h1 y (List.mem_cons_of_mem _ hy)) h2, hm.assoc]
theorem erase_set {t : List Nat} {k l : Nat} : (t.set k l).eraseIdx k = t.eraseIdx k := by
  induction t generalizing k with
  | nil => rfl
  | cons x t ih =>
    cases k with
    | zero => rfl
    | succ k => exact congrArg (x :: ·) ih
theorem but_two {t : List Nat} {k : Nat} (hk : k < t.length) : outerOf t k * innerOf t k = prod (t.eraseIdx k) := by
  obtain ⟨A, n, C, rfl, rfl⟩ := split_axis hk
  obtain ⟨oo, -, ii, ee⟩ := mid_axis A C n
  rw [oo, ii, ee, prod_append]
theorem join_small {f : Int} {t : List Nat} {k l : Nat} (hm : Mono f) (hk : k < t.length) (hg : GoodSh (t.set k (t.getD k 0 + l))) (he : Go.Proofs.YtojeggeimnenbaaDoor.redErr f (t.set k (t.getD k 0 + l)) k = 0) : prod (t.eraseIdx k) ≤ 4096 := by
  have := red_small hm (by simpa using hk) hg he
  rwa [erase_set] at this
theorem red_fine {f : Int} {t : List Nat} {k : Nat} (hm : Mono f) (hk : k < t.length) (h : prod (t.eraseIdx k) ≤ 4096) : Go.Proofs.YtojeggeimnenbaaDoor.redErr f t k = 0 := by
  rw [redErr_mono hm hk, if_neg fun h2 => by omega]
theorem wf_cell {a : Arr} (hw : Wf a.da) (ix : List Nat) : (Lit.int .i64 (a.cell ix)).wf = true := word_wf.2 (word_getD hw _)
theorem wf_glue {a b : Arr} {k : Nat} (ha : Wf a.da) (hb : Wf b.da) : Wf (glue k a b).da := by
  intro x hx
  unfold glue tab at hx
  obtain ⟨p, -, rfl⟩ := List.mem_map.1 hx
  dsimp only
  split
  · exact wf_cell ha _
  · exact wf_cell hb _
theorem glue_fold {f : Int} {a b : Arr} {t : List Nat} {k l : Nat} (hm : Mono f) (ha : Ok a t) (hb : Ok b (t.set k l)) (hk : k < t.length) (hc : b.ch = a.ch) (hg : GoodSh (t.set k (t.getD k 0 + l))) (hwa : Wf a.da) (hwb : Wf b.da) (hp : prod (t.eraseIdx k) ≤ 4096) :
    ZipFine f (redOf f a t k) (redOf f b (t.set k l) k) ∧ redOf f (glue k a b) (t.set k (t.getD k 0 + l)) k = zipA f (redOf f a t k) (redOf f b (t.set k l) k) := by
  have hk2 : k < (t.set k l).length := by simpa using hk
  have hk3 : k < (t.set k (t.getD k 0 + l)).length := by simpa using hk
  have oA := redOf_ok (f := f) ha hk hp
  have oB : Ok (redOf f b (t.set k l) k) (t.eraseIdx k) := by
    have := redOf_ok (f := f) hb hk2 (by rw [erase_set]; exact hp)
    rwa [erase_set] at this
  have oG := redOf_ok (f := f) (glue_ok ha hb hk hc hg) hk3 (by rw [erase_set]; exact hp)
  rw [erase_set] at oG
  refine ⟨⟨eachErr_like (hm.tame.two 0 1) oA oB (by rintro ⟨-, -, h | h⟩ <;> cases h), fun i hi => ?_⟩, ?_⟩
  · show (if false ≠ false then 0 else twoE f _ _) = 0
    rw [if_neg (by simp)]
    exact hm.tame.two _ _
  · have hda : (redOf f (glue k a b) (t.set k (t.getD k 0 + l)) k).da = (zipA f (redOf f a t k) (redOf f b (t.set k l) k)).da := by
      refine ext_getDI (by rw [oG.len, (zipA_ok (f := f) (b := redOf f b (t.set k l) k) oA).len]) fun q hq => ?_
      rw [oG.len] at hq
      have hqa : q < (redOf f a t k).da.length := by rw [oA.len]; exact hq
      have e1 : (zipA f (redOf f a t k) (redOf f b (t.set k l) k)).da.getD q 0 = twoV f ((redOf f a t k).da.getD q 0) ((redOf f b (t.set k l) k).da.getD q 0) := by
        show ((List.range (redOf f a t k).da.length).map fun i => cellV false false f ((redOf f a t k).da.getD i 0) ((redOf f b (t.set k l) k).da.getD i 0)).getD q 0 = _
        rw [List.getD_eq_getElem?_getD, List.getElem?_map, List.getElem?_range hqa]
        show cellV false false f _ _ = _
        unfold cellV
        rw [if_neg (by simp)]
      rw [e1, redOf_getD hk3 (by rw [erase_set]; exact hq), redOf_getD hk hq, redOf_getD hk2 (by rw [erase_set]; exact hq)]
      rw [getD_set hk, getD_set hk, inner_set, inner_set]
      have hq' : q < outerOf t k * innerOf t k := by rw [but_two hk]; exact hq
      have hI : 0 < innerOf t k := by
        rcases Nat.eq_zero_or_pos (innerOf t k) with e | e
        · rw [e] at hq'; omega
        · exact e
      have ho : q / innerOf t k < outerOf t k := (Nat.div_lt_iff_lt_mul hI).2 hq'
      have hr : q % innerOf t k < innerOf t k := Nat.mod_lt _ hI
      have g1 : ∀ j, j < t.getD k 0 → (glue k a b).da.getD ((q / innerOf t k * (t.getD k 0 + l) + j) * innerOf t k + q % innerOf t k) 0 = a.da.getD ((q / innerOf t k * t.getD k 0 + j) * innerOf t k + q % innerOf t k) 0 := fun j hj => by
        have h1 := glue_da1 ha hb hk ho hj hr
        rw [List.getD_eq_getElem?_getD (l := (glue k a b).da), h1, ← List.getD_eq_getElem?_getD]
      have g2 : ∀ j, j < l → (glue k a b).da.getD ((q / innerOf t k * (t.getD k 0 + l) + (t.getD k 0 + j)) * innerOf t k + q % innerOf t k) 0 = b.da.getD ((q / innerOf t k * l + j) * innerOf t k + q % innerOf t k) 0 := fun j hj => by
        have h1 := glue_da2 ha hb hk ho hj hr
        rw [List.getD_eq_getElem?_getD (l := (glue k a b).da), h1, ← List.getD_eq_getElem?_getD]
      rw [List.range_add, List.map_append, List.map_map]
      have m1 : (List.range (t.getD k 0)).map (fun j => (glue k a b).da.getD ((q / innerOf t k * (t.getD k 0 + l) + j) * innerOf t k + q % innerOf t k) 0) = (List.range (t.getD k 0)).map fun j => a.da.getD ((q / innerOf t k * t.getD k 0 + j) * innerOf t k + q % innerOf t k) 0 :=
        List.map_congr_left fun j hj => g1 j (List.mem_range.1 hj)
      have m2 : (List.range l).map ((fun j => (glue k a b).da.getD ((q / innerOf t k * (t.getD k 0 + l) + j) * innerOf t k + q % innerOf t k) 0) ∘ fun x => t.getD k 0 + x) = (List.range l).map fun j => b.da.getD ((q / innerOf t k * l + j) * innerOf t k + q % innerOf t k) 0 :=
        List.map_congr_left fun j hj => g2 j (List.mem_range.1 hj)
      rw [m1, m2, S_append hm]
      · intro x hx
        obtain ⟨j, -, rfl⟩ := List.mem_map.1 hx
        exact word_getD hwa _
      · intro x hx
        obtain ⟨j, -, rfl⟩ := List.mem_map.1 hx
        exact word_getD hwb _
    have hsh : (redOf f (glue k a b) (t.set k (t.getD k 0 + l)) k).sh = (zipA f (redOf f a t k) (redOf f b (t.set k l) k)).sh := by rw [oG.sh, (zipA_ok (f := f) (b := redOf f b (t.set k l) k) oA).sh]
    have h1 : (redOf f (glue k a b) (t.set k (t.getD k 0 + l)) k).ch = false := rfl
    have h2 : (zipA f (redOf f a t k) (redOf f b (t.set k l) k)).ch = false := rfl
    cases e1 : redOf f (glue k a b) (t.set k (t.getD k 0 + l)) k
    cases e2 : zipA f (redOf f a t k) (redOf f b (t.set k l) k)
    rw [e1] at hsh hda h1
    rw [e2] at hsh hda h2
    simp only at hsh hda h1 h2
    rw [hsh, hda, h1, h2]
end Go.Proofs.YtojeggeimnenbaaDoor.P
