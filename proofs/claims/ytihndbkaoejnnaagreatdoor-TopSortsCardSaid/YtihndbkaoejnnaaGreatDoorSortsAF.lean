/- What the card TopSorts leans on: GradeOrder. Conditions: none but those of its theorems. -/
import Derived.Deep.QuietTactic
import Derived.BigQuiet
import Derived.Test.YtihndbkaoejnnaaGreatDoorSortsAD
import Derived.Test.YtihndbkaoejnnaaGreatDoorSortsAE
import Derived.Test.YtihndbkaoejnnaaGreatDoorSortsAB
set_option linter.unusedSimpArgs false
set_option linter.unusedVariables false
namespace Go.Proofs.YtihndbkaoejnnaaGreatDoor
open Go Go.RowKit Go.Proofs.YtihndbkaoejnnaaGreatDoor.P
open Go.Sort (Holds putRow PermIn SortedIn)
/-- A block of rows. -/
def RowsAt (w : World) (g n : Nat) (r : Nat → List Int) : Prop := ∃ cs : Array Value, Box w g 23 cs ∧ ∀ i, i < n → ∃ A c, cs[i]? = some (.slice A (r i).length c) ∧ IsInts w (.slice A (r i).length c) (r i)
theorem RowsAt.below {w w' : World} {g n : Nat} {r : Nat → List Int} (h : RowsAt w g n r) (hb : Below w.heap.size w w') : RowsAt w' g n r := by
  obtain ⟨cs, h1, h2⟩ := h
  exact ⟨cs, h1.below hb, fun i hi => by obtain ⟨A, c, h3, h4⟩ := h2 i hi; exact ⟨A, c, h3, h4.mono hb⟩⟩
theorem RowsAt.at_ {w : World} {g n : Nat} {r : Nat → List Int} (h : RowsAt w g n r) {i : Nat} (hi : i < n) : ∃ A c, w.cell? ⟨g, i, none⟩ = some (.slice A (r i).length c) ∧ IsInts w (.slice A (r i).length c) (r i) := by
  obtain ⟨cs, h1, h2⟩ := h
  obtain ⟨A, c, h3, h4⟩ := h2 i hi
  exact ⟨A, c, by rw [h1.cell]; exact h3, h4⟩
/-- A function that compares two lists. -/
def Cmps (f : Nat) (c : List Int → List Int → Int) : Prop := ∀ (W : World) (vx vy : Value) (xs ys : List Int), IsInts W vx xs → IsInts W vy ys → Calls Tryz.prog f #[vx, vy] W fun e w' => e = .returned (.int .i64 (c xs ys)) ∧ w' = W
theorem cmps_up : Cmps 37 cmpL := fun _ _ _ _ _ h1 h2 => cmpL_any h1 h2
set_option maxHeartbeats 1000000 in
theorem closure_any {f : Nat} {c : List Int → List Int → Int} (ef : ∀ args w, (callFunc f args).run Tryz.prog w = .ok (.enter f args) w) (hf : Cmps f c) {W : World} {b2 b3 g n : Nat} {r : Nat → List Int}
    (h2 : Box W b2 71 #[.slice (some ⟨g, 0, none⟩) n n]) (h3 : Box W b3 75 #[.func (.func f) #[] #[]]) (hr : RowsAt W g n r) {x y : Nat} (hx : x < n) (hy : y < n) (hn : n ≤ 4096) :
    Calls Tryz.prog 52 #[.int .i64 x, .int .i64 y, .pointer (some ⟨b3, 0, none⟩), .pointer (some ⟨b2, 0, none⟩)] W fun e w' => e = .returned (.int .i64 (c (r x) (r y))) ∧ ∃ q, w' = W.drewN q := by
  obtain ⟨A, ca, c1, i1⟩ := hr.at_ hx
  obtain ⟨B, cb, c2, i2⟩ := hr.at_ hy
  have q2 := h2.one
  have q3 := h3.one
  obtain ⟨R, hR⟩ : ∃ R, R = c (r x) (r y) := ⟨_, rfl⟩
  have H : ∀ k, Calls Tryz.prog f #[.slice A (r x).length ca, .slice B (r y).length cb] (W.drewN k) fun e w' => e = .returned (.int .i64 R) ∧ w' = W.drewN k := fun k => by
    rw [hR]; exact hf _ _ _ _ _ (i1.mono (below_draws _ _ _)) (i2.mono (below_draws _ _ _))
  rw [← hR]
  have gx : (x : Int) < (n : Int) := by omega
  have gy : (y : Int) < (n : Int) := by omega
  clear hR i1 i2 h2 h3 hr hf
  go_enter Tryz.func52, Tryz.ntmps52
  go_wp2_with fail
  go_quiet (first | (go_at_fn f; refine Calls.quiet_of_same (H _)))
  all_goals
    go_wp2_with fail
    go_ret
    exact ⟨rfl, _, rfl⟩
theorem below_sortWorld {α : Type} [Inhabited α] (enc : α → Value) (w : World) (blk off m : Nat) (dk : Array α) (os : Array Obj) {B : Nat} (h : B ≤ blk) (hw : B ≤ w.heap.size) : Below B w (sortWorld enc w blk off m dk os) := by
  refine ⟨rfl, rfl, rfl, ?_, fun k hk => ?_⟩
  · show w.heap.size ≤ (w.heap.modify blk _ ++ os).size
    simp
  · show (w.heap.modify blk _ ++ os)[k]? = _
    rw [Array.getElem?_append, Array.size_modify, if_pos (by omega), Array.getElem?_modify, if_neg (by omega)]
theorem box_sortWorld {α : Type} [Inhabited α] {enc : α → Value} {w : World} {blk off m b : Nat} {dk : Array α} {os : Array Obj} {t : TypeId} {cs : Array Value} (h : Box w b t cs) (hne : b ≠ blk) : Box (sortWorld enc w blk off m dk os) b t cs := by
  have hb := h.lt
  show (w.heap.modify blk _ ++ os)[b]? = _
  rw [Array.getElem?_append, Array.size_modify, if_pos hb, Array.getElem?_modify, if_neg (fun e => hne e.symm)]
  exact h
end Go.Proofs.YtihndbkaoejnnaaGreatDoor
