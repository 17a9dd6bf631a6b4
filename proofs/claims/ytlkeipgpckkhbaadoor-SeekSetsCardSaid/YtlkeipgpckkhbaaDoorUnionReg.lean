/- The invariant of a statement that clones a list, appends another one and lays both into a new array, its order open. Conditions: none. -/
import Derived.Test.YtlkeipgpckkhbaaDoorInv
import Derived.Test.YtlkeipgpckkhbaaDoorMake
namespace Go.Proofs.YtlkeipgpckkhbaaDoor
open Go Go.RowKit Go.Proofs.YtlkeipgpckkhbaaDoor.P

/-- A list that the call made. -/
def Got (W : World) (n : Nat) (xs : List Int) (v : Value) (wr : World) : Prop := ∃ A c, v = .slice A n c ∧ Owns wr W.heap.size v n xs

/-- V: what the operations that only read yield; 4: the clone; 7: the append; 8: the struct; 9: the variable; 10: the store. -/
def UInv (V : Nat → Value → Prop) (W : World) (ch : Bool) (n m : Nat) (xs ys : List Int) (done : Nat → Bool) (u : Nat → Value) (wr : World) : Prop :=
  Below W.heap.size W wr ∧ (∀ j, done j = true → V j (u j)) ∧
  (done 4 = true → done 7 = false → Got W n xs (u 4) wr) ∧
  (done 7 = true → done 4 = true ∧ Got W (n + m) (xs ++ ys) (u 7) wr) ∧
  (done 8 = true → done 7 = true ∧ u 8 = .agg #[.bool ch, .slice none 0 0, u 7]) ∧
  (done 9 = true → ∃ g, u 9 = .pointer (some ⟨g, 0, none⟩) ∧ W.heap.size ≤ g ∧ (done 10 = false → Box wr g 24 #[.bool false, .slice none 0 0, .slice none 0 0]) ∧ (done 10 = true → Box wr g 24 #[.bool ch, .slice none 0 0, u 7])) ∧
  (done 10 = true → done 8 = true ∧ done 9 = true)

section
variable {V : Nat → Value → Prop} {W wr w' : World} {ch : Bool} {n m : Nat} {xs ys : List Int} {done : Nat → Bool} {u : Nat → Value} {v : Value} {i : Nat}

theorem Got.below (h : Got W n xs v wr) (hb : Below wr.heap.size wr w') : Got W n xs v w' := by
  obtain ⟨A, c, e, ho⟩ := h
  exact ⟨A, c, e, ho.below hb⟩
theorem vals_step (h : ∀ j, done j = true → V j (u j)) (hv : V i v) : ∀ j, did done i j = true → V j (upd u i v j) := by
  intro j hj
  by_cases e : j = i
  · subst e; rw [upd_same]; exact hv
  · rw [did_other _ e] at hj; rw [upd_other _ _ e]; exact h j hj

theorem UInv.start : ∀ u, UInv V W ch n m xs ys (fun _ => false) u W.drew :=
  fun u => ⟨(Below.refl _ _).drew, (fun j h => by simp at h), (fun h => by simp at h), (fun h => by simp at h), (fun h => by simp at h), (fun h => by simp at h), (fun h => by simp at h)⟩

theorem UInv.keep (h : UInv V W ch n m xs ys done u wr) (hn : done i = false) (hi : i ≠ 4 ∧ i ≠ 7 ∧ i ≠ 8 ∧ i ≠ 9 ∧ i ≠ 10) (hv : V i v) : UInv V W ch n m xs ys (did done i) (upd u i v) wr := by
  obtain ⟨h1, h2, h3, h4, h5, h6, h7⟩ := h
  obtain ⟨i4, i7, i8, i9, i10⟩ := hi
  refine ⟨h1, vals_step h2 hv, ?_, ?_, ?_, ?_, ?_⟩ <;>
    simp only [did_other _ (Ne.symm i4), did_other _ (Ne.symm i7), did_other _ (Ne.symm i8), did_other _ (Ne.symm i9), did_other _ (Ne.symm i10), upd_other _ _ (Ne.symm i4), upd_other _ _ (Ne.symm i7), upd_other _ _ (Ne.symm i8), upd_other _ _ (Ne.symm i9)]
  · exact h3
  · exact h4
  · exact h5
  · exact h6
  · exact h7

theorem no_later {p q : Nat} (hn : done q = false) (h : done p = true → done q = true) : done p = false := by
  cases e : done p
  · rfl
  · rw [h e] at hn; cases hn

theorem UInv.clone (h : UInv V W ch n m xs ys done u wr) (hn : done 4 = false) (hv : V 4 v) (hb : Below wr.heap.size wr w') (hg : Got W n xs v w') : UInv V W ch n m xs ys (did done 4) (upd u 4 v) w' := by
  obtain ⟨h1, h2, h3, h4, h5, h6, h7⟩ := h
  have n7 := no_later (p := 7) hn fun e => (h4 e).1
  have n8 := no_later (p := 8) n7 fun e => (h5 e).1
  have n10 := no_later (p := 10) n8 fun e => (h7 e).1
  refine ⟨h1.trans (hb.mono h1.size), vals_step h2 hv, ?_, ?_, ?_, ?_, ?_⟩ <;>
    simp only [did_same, upd_same, did_other done (show 7 ≠ 4 by decide), did_other done (show 8 ≠ 4 by decide), did_other done (show 9 ≠ 4 by decide), did_other done (show 10 ≠ 4 by decide), upd_other u v (show 7 ≠ 4 by decide), upd_other u v (show 8 ≠ 4 by decide), upd_other u v (show 9 ≠ 4 by decide)]
  · exact fun _ _ => hg
  · intro e; rw [n7] at e; cases e
  · intro e; rw [n8] at e; cases e
  · intro e
    obtain ⟨g, e1, e2, e3, e4⟩ := h6 e
    exact ⟨g, e1, e2, fun x => (e3 x).below hb, fun x => (e4 x).below hb⟩
  · intro e; rw [n10] at e; cases e

theorem UInv.append (h : UInv V W ch n m xs ys done u wr) (hn : done 7 = false) (hd : done 4 = true) (hv : V 7 v) (hb : wr.grownBy w' (u 4).ownBlock) (hg : Got W (n + m) (xs ++ ys) v w') : UInv V W ch n m xs ys (did done 7) (upd u 7 v) w' := by
  obtain ⟨h1, h2, h3, h4, h5, h6, h7⟩ := h
  have n8 := no_later (p := 8) hn fun e => (h5 e).1
  have n10 := no_later (p := 10) n8 fun e => (h7 e).1
  obtain ⟨A, c, e0, ho⟩ := h3 hd hn
  refine ⟨h1.grown hb h1.size (fun j e => (ho.lt e).1), vals_step h2 hv, ?_, ?_, ?_, ?_, ?_⟩ <;>
    simp only [did_same, upd_same, did_other done (show 4 ≠ 7 by decide), did_other done (show 8 ≠ 7 by decide), did_other done (show 9 ≠ 7 by decide), did_other done (show 10 ≠ 7 by decide), upd_other u v (show 4 ≠ 7 by decide), upd_other u v (show 8 ≠ 7 by decide), upd_other u v (show 9 ≠ 7 by decide)]
  · intro _ e; cases e
  · exact fun _ => ⟨hd, hg⟩
  · intro e; rw [n8] at e; cases e
  · intro e
    obtain ⟨g, e1, e2, e3, e4⟩ := h6 e
    exact ⟨g, e1, e2, fun x => (e3 x).grown hb (ho.ne_box (e3 x) (by decide)), fun x => by rw [n10] at x; cases x⟩
  · intro e; rw [n10] at e; cases e

theorem UInv.build (h : UInv V W ch n m xs ys done u wr) (hn : done 8 = false) (hd : done 7 = true) (hv : V 8 v) (he : v = .agg #[.bool ch, .slice none 0 0, u 7]) : UInv V W ch n m xs ys (did done 8) (upd u 8 v) wr := by
  obtain ⟨h1, h2, h3, h4, h5, h6, h7⟩ := h
  have n10 := no_later (p := 10) hn fun e => (h7 e).1
  refine ⟨h1, vals_step h2 hv, ?_, ?_, ?_, ?_, ?_⟩ <;>
    simp only [did_same, upd_same, did_other done (show 4 ≠ 8 by decide), did_other done (show 7 ≠ 8 by decide), did_other done (show 9 ≠ 8 by decide), did_other done (show 10 ≠ 8 by decide), upd_other u v (show 4 ≠ 8 by decide), upd_other u v (show 7 ≠ 8 by decide), upd_other u v (show 9 ≠ 8 by decide)]
  · exact h3
  · exact h4
  · exact fun _ => ⟨hd, he⟩
  · exact h6
  · intro e; rw [n10] at e; cases e

theorem UInv.var (h : UInv V W ch n m xs ys done u wr) (hn : done 9 = false) {o : Obj} (ho : o = .cells #[.bool false, .slice none 0 0, .slice none 0 0] 24) (hv : V 9 v) (he : v = .pointer (some ⟨wr.heap.size, 0, none⟩)) : UInv V W ch n m xs ys (did done 9) (upd u 9 v) (wr.alloc o) := by
  subst ho
  obtain ⟨h1, h2, h3, h4, h5, h6, h7⟩ := h
  have n10 := no_later (p := 10) hn fun e => (h7 e).2
  have hb := below_one wr (.cells #[.bool false, .slice none 0 0, .slice none 0 0] 24)
  refine ⟨h1.trans (hb.mono h1.size), vals_step h2 hv, ?_, ?_, ?_, ?_, ?_⟩ <;>
    simp only [did_same, upd_same, did_other done (show 4 ≠ 9 by decide), did_other done (show 7 ≠ 9 by decide), did_other done (show 8 ≠ 9 by decide), did_other done (show 10 ≠ 9 by decide), upd_other u v (show 4 ≠ 9 by decide), upd_other u v (show 7 ≠ 9 by decide), upd_other u v (show 8 ≠ 9 by decide)]
  · exact fun d4 d7 => (h3 d4 d7).below hb
  · exact fun d7 => ⟨(h4 d7).1, (h4 d7).2.below hb⟩
  · exact h5
  · exact fun _ => ⟨_, he, h1.size, fun _ => Box.new _ _ _, fun x => by rw [n10] at x; cases x⟩
  · intro e; rw [n10] at e; cases e

theorem UInv.store (h : UInv V W ch n m xs ys done u wr) (hn : done 10 = false) (d8 : done 8 = true) (d9 : done 9 = true) {g : Nat} (hg : u 9 = .pointer (some ⟨g, 0, none⟩)) (hv : V 10 v) {A : Option Addr} {c : Nat} (hA : u 7 = .slice A (n + m) c) :
    UInv V W ch n m xs ys (did done 10) (upd u 10 v) (((wr.setCell ⟨g, 0, none⟩ (.bool ch)).setCell ⟨g, 1, none⟩ (.slice none 0 0)).setCell ⟨g, 2, none⟩ (.slice A (n + m) c)) := by
  obtain ⟨h1, h2, h3, h4, h5, h6, h7⟩ := h
  have d7 := (h5 d8).1
  obtain ⟨d4, A', c', e0, ho⟩ := h4 d7
  obtain ⟨g', e1, e2, e3, -⟩ := h6 d9
  have e3 := e3 hn
  obtain rfl : g = g' := by rw [hg] at e1; injection e1 with e1; injection e1 with e1; injection e1
  have hgg := grownBy_three wr g (.bool ch) (.slice none 0 0) (.slice A (n + m) c)
  refine ⟨h1.grown hgg h1.size (fun j e => by cases e; omega), vals_step h2 hv, ?_, ?_, ?_, ?_, ?_⟩ <;>
    simp only [did_same, did_other done (show 4 ≠ 10 by decide), did_other done (show 7 ≠ 10 by decide), did_other done (show 8 ≠ 10 by decide), did_other done (show 9 ≠ 10 by decide), upd_other u v (show 4 ≠ 10 by decide), upd_other u v (show 7 ≠ 10 by decide), upd_other u v (show 8 ≠ 10 by decide), upd_other u v (show 9 ≠ 10 by decide)]
  · intro _ e; rw [d7] at e; cases e
  · exact fun _ => ⟨d4, A', c', e0, ho.kept hgg (.inr (ho.ne_box e3 (by decide)))⟩
  · exact h5
  · refine fun _ => ⟨g, hg, e2, (fun e => by cases e), fun _ => ?_⟩
    have i1 := ((e3.store 0 (.bool ch)).store 1 (.slice none 0 0)).store 2 (.slice A (n + m) c)
    simp only [List.setIfInBounds_toArray, List.set_cons_zero, List.set_cons_succ] at i1
    rw [hA]
    exact i1
  · exact fun _ => ⟨d8, d9⟩
end

end Go.Proofs.YtlkeipgpckkhbaaDoor
