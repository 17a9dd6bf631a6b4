/- What the law of two axes uses: the outcomes of fold.Reduce at a function of which it is the same whichever two come first. Conditions: none but these. -/
import Derived.Test.YtojeggeimnenbaaDoorFubini
import Derived.Test.YtojeggeimnenbaaDoorMonoWalk
set_option linter.unusedSimpArgs false
set_option linter.unusedVariables false
namespace Go.Proofs.YtojeggeimnenbaaDoor.P
open Go Go.RowKit
theorem sq_line : lineF [2, 2] 0 = (1, 2, 2) := by
  unfold lineF
  rw [if_neg]
  · simp [outerOf, innerOf, prod]
  · rintro ⟨j, hj, hne, hz⟩
    have : j = 0 ∨ j = 1 := by simp at hj; omega
    rcases this with rfl | rfl <;> simp at hz
theorem sq_ok : Ok ⟨false, [2, 2], [1, 2, 3, 4]⟩ [2, 2] := ⟨rfl, ⟨by decide, by decide, by decide⟩, by decide, fun e => by cases e⟩
theorem sq_da : (redOf 1 ⟨false, [2, 2], [1, 2, 3, 4]⟩ [2, 2] 0).da = [4, 6] := by
  unfold redOf Go.Proofs.YtojeggeimnenbaaDoor.lnR
  simp only [sq_line]
  decide +kernel
theorem sq_red : redOf 1 ⟨false, [2, 2], [1, 2, 3, 4]⟩ [2, 2] 0 = ⟨false, [2], [4, 6]⟩ := by
  have h := sq_da
  cases e : redOf 1 ⟨false, [2, 2], [1, 2, 3, 4]⟩ [2, 2] 0 with
  | mk c s d =>
    rw [e] at h
    have h1 : (redOf 1 ⟨false, [2, 2], [1, 2, 3, 4]⟩ [2, 2] 0).ch = false := rfl
    have h2 : (redOf 1 ⟨false, [2, 2], [1, 2, 3, 4]⟩ [2, 2] 0).sh = [2] := rfl
    rw [e] at h1 h2
    simp only at h h1 h2
    rw [h, h1, h2]
end Go.Proofs.YtojeggeimnenbaaDoor.P
namespace Go.Proofs.YtojeggeimnenbaaDoor
open Go Go.RowKit Go.Proofs.YtojeggeimnenbaaDoor.P
theorem reduce_fail {v : Value} {a : Arr} {t : List Nat} {w : World} {f : Int} {k : Nat} (ha : IsArr w v a) (h : Ok a t) (hk : k < t.length) (hm : Mono f) (hc : a.ch = false) (hw : Wf a.da) (he : redErr f t k ≠ 0) :
    Calls Tryd.prog 10 #[.int .i64 f, .int .i64 k, v] w (Fails zeroArr 7 w) := by
  have h7 : redErr f t k = 7 := by
    rw [redErr_mono hm hk] at he ⊢
    split
    · rfl
    · rename_i hn; rw [if_neg hn] at he; exact absurd rfl he
  refine (reduce_ok ha h hk (hm.tame.two 0 1) hc hw).mono fun e w' h6 => ?_
  rcases h6 with ⟨-, h8⟩ | ⟨h8, -⟩
  · rw [h7] at h8; exact h8
  · exact absurd h8 he
/-- Where it folds, and where it fails. -/
theorem mono_told (f axis : Int) (a : Arr) (hm : Mono f) : (∃ t k, Ok a t ∧ axis = ((k : Nat) : Int) ∧ k < t.length ∧ a.ch = false ∧ redErr f t k = 0) ∨
    (Wf a.da → ∃ x : Int, x ≠ 0 ∧ ∀ (v : Value) (w : World), IsArr w v a → Calls Tryd.prog 10 #[.int .i64 f, .int .i64 axis, v] w (Fails zeroArr x w)) := by
  by_cases hE : foldErr f axis a = 0
  · obtain ⟨t, k, h, rfl, hk, hc, -⟩ := foldErr_zero hE
    by_cases he : redErr f t k = 0
    · exact .inl ⟨t, k, h, rfl, hk, hc, he⟩
    · exact .inr fun hw => ⟨7, by decide, fun v w ha => reduce_fail ha h hk hm hc hw he⟩
  · exact .inr fun _ => ⟨_, hE, fun v w ha => reduce_bad ha hE⟩
theorem reduce_some {v : Value} {a : Arr} {w : World} {f axis : Int} (ha : IsArr w v a) (hw : Wf a.da) (hm : Mono f) : Calls Tryd.prog 10 #[.int .i64 f, .int .i64 axis, v] w (GivesSome w) := by
  rcases mono_told f axis a hm with ⟨t, k, h, rfl, hk, hc, he⟩ | h
  · exact (reduce_mono ha h hk hm hc hw he).mono fun e w' h => h.some
  · obtain ⟨x, -, h2⟩ := h hw
    exact (h2 v w ha).mono fun e w' h3 => ⟨zeroArr, _, Arr.nil, h3.1, isArr_zero w', h3.2⟩
end Go.Proofs.YtojeggeimnenbaaDoor
