/- The invariant of a statement 'out.Data = append(out.Data, f(a))', its order open. Conditions: none. -/
import Derived.Test.YtikjniibfomadaaDoorInv
import Derived.Test.YtikjniibfomadaaDoorList
import Derived.Test.YtikjniibfomadaaDoorStoreList
namespace Go.Proofs.YtikjniibfomadaaDoor
open Go Go.RowKit Go.Proofs.YtikjniibfomadaaDoor.P

/-- V: what the operations that only read, and the call, yield; 4: the list of the new number; 5: the append; 7: the store. -/
def SInv (V : Nat → Value → Prop) (W : World) (g P c2 : Nat) (v0 v1 : Value) (A2 : Option Addr) (xs : List Int) (f : Int) (done : Nat → Bool) (u : Nat → Value) (wr : World) : Prop :=
  Below W.heap.size W wr ∧ (∀ j, done j = true → V j (u j)) ∧
  (done 4 = true → ∃ m, u 4 = .slice (some ⟨m, 0, none⟩) 1 1 ∧ (done 5 = false → Row wr m [f])) ∧
  (done 5 = false → Owns wr W.heap.size (.slice A2 P c2) P xs) ∧
  (done 5 = true → ∃ A4 c4, u 5 = .slice A4 (P + 1) c4 ∧ Owns wr W.heap.size (.slice A4 (P + 1) c4) (P + 1) (xs ++ [f])) ∧
  (done 7 = false → Box wr g 24 #[v0, v1, .slice A2 P c2]) ∧
  (done 7 = true → Box wr g 24 #[v0, v1, u 5]) ∧ (done 7 = true → done 5 = true) ∧ (done 5 = true → done 1 = true)

section
variable {V : Nat → Value → Prop} {W wr w' : World} {g P c2 : Nat} {v0 v1 : Value} {A2 : Option Addr} {xs : List Int} {f : Int} {done : Nat → Bool} {u : Nat → Value} {v : Value} {i : Nat}

theorem svals_step (h : ∀ j, done j = true → V j (u j)) (hv : V i v) : ∀ j, did done i j = true → V j (upd u i v j) := by
  intro j hj
  by_cases e : j = i
  · subst e; rw [upd_same]; exact hv
  · rw [did_other _ e] at hj; rw [upd_other _ _ e]; exact h j hj

theorem SInv.call (h : SInv V W g P c2 v0 v1 A2 xs f done u wr) (hi : i ≠ 4 ∧ i ≠ 5 ∧ i ≠ 7) (hv : V i v) (hb : Below wr.heap.size wr w') : SInv V W g P c2 v0 v1 A2 xs f (did done i) (upd u i v) w' := by
  obtain ⟨h1, h2, h3, h5, h6, h7, h8, h9, h10⟩ := h
  obtain ⟨i4, i5, i7⟩ := hi
  refine ⟨h1.trans (hb.mono h1.size), svals_step h2 hv, ?_, ?_, ?_, ?_, ?_, ?_, ?_⟩ <;>
    simp only [did_other _ (Ne.symm i4), did_other _ (Ne.symm i5), did_other _ (Ne.symm i7), upd_other _ _ (Ne.symm i4), upd_other _ _ (Ne.symm i5)]
  · intro d
    obtain ⟨m, e, hr⟩ := h3 d
    exact ⟨m, e, fun x => Box.below (hr x) hb⟩
  · exact fun d => (h5 d).below hb
  · intro d
    obtain ⟨A4, c4, e, ho⟩ := h6 d
    exact ⟨A4, c4, e, ho.below hb⟩
  · exact fun d => (h7 d).below hb
  · exact fun d => (h8 d).below hb
  · exact h9
  · intro d
    by_cases e : i = 1
    · subst e; exact did_same _ _
    · rw [did_other _ (Ne.symm e)]; exact h10 d
theorem SInv.keep (h : SInv V W g P c2 v0 v1 A2 xs f done u wr) (hi : i ≠ 4 ∧ i ≠ 5 ∧ i ≠ 7) (hv : V i v) : SInv V W g P c2 v0 v1 A2 xs f (did done i) (upd u i v) wr := h.call hi hv (Below.refl _ _)

theorem SInv.make (h : SInv V W g P c2 v0 v1 A2 xs f done u wr) (hv : V 4 v) {o : Obj} (ho : o = .cells #[.int .i64 f] 3) (he : v = .slice (some ⟨wr.heap.size, 0, none⟩) 1 1) : SInv V W g P c2 v0 v1 A2 xs f (did done 4) (upd u 4 v) (wr.alloc o) := by
  subst ho
  obtain ⟨h1, h2, h3, h5, h6, h7, h8, h9, h10⟩ := h
  have hb := below_one wr (.cells #[.int .i64 f] 3)
  refine ⟨h1.trans (hb.mono h1.size), svals_step h2 hv, ?_, ?_, ?_, ?_, ?_, ?_, ?_⟩ <;>
    simp only [did_same, upd_same, did_other done (show 5 ≠ 4 by decide), did_other done (show 7 ≠ 4 by decide), did_other done (show 1 ≠ 4 by decide), upd_other u v (show 5 ≠ 4 by decide)]
  · exact fun _ => ⟨_, he, fun _ => Box.new _ _ _⟩
  · exact fun d => (h5 d).below hb
  · intro d
    obtain ⟨A4, c4, e, ho⟩ := h6 d
    exact ⟨A4, c4, e, ho.below hb⟩
  · exact fun d => (h7 d).below hb
  · exact fun d => (h8 d).below hb
  · exact h9
  · exact h10

theorem SInv.append (h : SInv V W g P c2 v0 v1 A2 xs f done u wr) (hn : done 5 = false) (hd1 : done 1 = true) (hv : V 5 v) {A4 : Option Addr} {c4 : Nat} (he : v = .slice A4 (P + 1) c4) (hb : wr.grownBy w' (Value.slice A2 P c2).ownBlock)
    (ho : Owns w' W.heap.size (.slice A4 (P + 1) c4) (P + 1) (xs ++ [f])) : SInv V W g P c2 v0 v1 A2 xs f (did done 5) (upd u 5 v) w' := by
  obtain ⟨h1, h2, h3, h5, h6, h7, h8, h9, h10⟩ := h
  have ow := h5 hn
  have n7 : done 7 = false := by
    cases e : done 7
    · rfl
    · rw [h9 e] at hn; cases hn
  refine ⟨h1.grown hb h1.size (fun j e => (ow.lt e).1), svals_step h2 hv, ?_, ?_, ?_, ?_, ?_, ?_, ?_⟩ <;>
    simp only [did_same, upd_same, did_other done (show 4 ≠ 5 by decide), did_other done (show 7 ≠ 5 by decide), did_other done (show 1 ≠ 5 by decide), upd_other u v (show 4 ≠ 5 by decide)]
  · intro d
    obtain ⟨m, e, -⟩ := h3 d
    exact ⟨m, e, (fun x => by cases x)⟩
  · intro e; cases e
  · exact fun _ => ⟨A4, c4, he, ho⟩
  · exact fun d => Box.grown (h7 d) hb (ow.ne_box (h7 d) (by decide))
  · intro d; rw [n7] at d; cases d
  · intro d; rw [n7] at d; cases d
  · exact fun _ => hd1

theorem SInv.store (h : SInv V W g P c2 v0 v1 A2 xs f done u wr) (hn : done 7 = false) (d5 : done 5 = true) (hv : V 7 v) (hWg : W.heap.size ≤ g) {A4 : Option Addr} {c4 : Nat} (he : u 5 = .slice A4 (P + 1) c4) :
    SInv V W g P c2 v0 v1 A2 xs f (did done 7) (upd u 7 v) (wr.setCell ⟨g, 2, none⟩ (.slice A4 (P + 1) c4)) := by
  obtain ⟨h1, h2, h3, h5, h6, h7, h8, h9, h10⟩ := h
  obtain ⟨A5, c5, e5, ow⟩ := h6 d5
  have b := h7 hn
  refine ⟨h1.setCell (p := ⟨g, 2, none⟩) (by simp; omega) _, svals_step h2 hv, ?_, ?_, ?_, ?_, ?_, ?_, ?_⟩ <;>
    simp only [did_same, did_other done (show 4 ≠ 7 by decide), did_other done (show 5 ≠ 7 by decide), did_other done (show 1 ≠ 7 by decide), upd_other u v (show 4 ≠ 7 by decide), upd_other u v (show 5 ≠ 7 by decide)]
  · intro d
    obtain ⟨m, e, hr⟩ := h3 d
    exact ⟨m, e, (fun x => by rw [d5] at x; cases x)⟩
  · intro e; rw [d5] at e; cases e
  · exact fun _ => ⟨A5, c5, e5, ow.setCell (p := ⟨g, 2, none⟩) (ow.ne_box b (by decide)) _⟩
  · intro e; cases e
  · intro _
    have s := b.store 2 (.slice A4 (P + 1) c4)
    simp only [List.setIfInBounds_toArray, List.set_cons_zero, List.set_cons_succ] at s
    rw [he]
    exact s
  · exact fun _ => d5
  · exact h10
end

/-- Some more numbers behind the data of the array that is made, all of it in new blocks. -/
theorem spread_step {W wr w4 : World} {d : Nat} {g : Nat} {v0 v1 : Value} {A2 A4 : Option Addr} {c2 c4 p q : Nat} {xs ys : List Int}
    (h1 : Box wr g 24 #[v0, v1, .slice A2 p c2]) (h2 : Owns wr W.heap.size (.slice A2 p c2) p xs) (h5 : Below W.heap.size W wr) (hg : W.heap.size ≤ g)
    (hgrow : (wr.drewN d).grownBy w4 (Value.slice A2 p c2).ownBlock) (hown : Owns w4 W.heap.size (.slice A4 (p + q) c4) (p + q) ys) :
    Box (w4.setCell ⟨g, 2, none⟩ (.slice A4 (p + q) c4)) g 24 #[v0, v1, .slice A4 (p + q) c4] ∧ Owns (w4.setCell ⟨g, 2, none⟩ (.slice A4 (p + q) c4)) W.heap.size (.slice A4 (p + q) c4) (p + q) ys ∧
      Below W.heap.size W (w4.setCell ⟨g, 2, none⟩ (.slice A4 (p + q) c4)) := by
  have b4 := Box.grown (w := wr.drewN d) (h1.drewN d) hgrow (h2.ne_box h1 (by decide))
  have s := b4.store 2 (.slice A4 (p + q) c4)
  simp only [List.setIfInBounds_toArray, List.set_cons_zero, List.set_cons_succ] at s
  exact ⟨s, hown.setCell (p := ⟨g, 2, none⟩) (hown.ne_box b4 (by decide)) _, ((h5.trans (below_draws _ _ d)).grown hgrow (by have := h5.size; simpa using this) (fun j e => (h2.lt e).1)).setCell (p := ⟨g, 2, none⟩) (by simp; omega) _⟩

end Go.Proofs.YtikjniibfomadaaDoor
