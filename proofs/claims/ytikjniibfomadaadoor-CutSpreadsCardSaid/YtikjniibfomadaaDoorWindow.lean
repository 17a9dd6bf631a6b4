/- The walk of cut.window. Conditions: none. -/
import Derived.Test.YtikjniibfomadaaDoorArrOf
import Derived.Test.YtikjniibfomadaaDoorMoved
import Derived.Test.YtikjniibfomadaaDoorList
import Derived.Test.YtikjniibfomadaaDoorWinPlain
import Derived.Test.YtikjniibfomadaaDoorAxes
import Derived.Deep.QuietTactic
import Derived.BigQuiet
namespace Go.Proofs.YtikjniibfomadaaDoor
open Go Go.RowKit Go.Proofs.YtikjniibfomadaaDoor.P

set_option maxHeartbeats 400000 in
theorem fill_any {v : Value} {a : Arr} {w : World} (ha : IsArr w v a) : Calls Tryd.prog 32 #[v] w fun e w' => e = .returned (.int .i64 (fillOf a.ch)) ∧ Below w.heap.size w w' := by
  obtain ⟨A, ca, D, cd, rfl, hs, hd⟩ := ha.open_
  clear ha hs hd
  cases hc : a.ch
  · go_enter Tryd.func32, Tryd.ntmps32
    go_wp2_with fail
    go_ret
    exact ⟨rfl, below_one _ _⟩
  · go_enter Tryd.func32, Tryd.ntmps32
    go_wp2_with fail
    go_ret
    exact ⟨rfl, below_one _ _⟩

/-- What the loops of 'window' keep: p cells have been laid, the indices are b. -/
def WinInv (w : World) (a : Arr) (A : Option Addr) (ca : Nat) (D : Option Addr) (cd g : Nat) (A' : Option Addr) (c' g2 : Nat) (s : List Nat) (T : List Int) (p : Nat) (b : List Nat) (wr : World) : Prop :=
  ∃ A2 c2, Box wr g 24 #[.bool a.ch, .slice A' s.length c', .slice A2 p c2] ∧ Owns wr (w.heap.size + 2) (.slice A2 p c2) p (T.take p) ∧ Owns wr (w.heap.size + 2) (.slice A' s.length c') s.length (ints s) ∧
    ((Value.slice A' s.length c').ownBlock = none ∨ (Value.slice A' s.length c').ownBlock ≠ (Value.slice A2 p c2).ownBlock) ∧
    Row wr g2 (ints b) ∧ (Value.slice A2 p c2).ownBlock ≠ some g2 ∧ (Value.slice A' s.length c').ownBlock ≠ some g2 ∧
    Box wr w.heap.size 24 #[.bool a.ch, .slice A a.sh.length ca, .slice D a.da.length cd] ∧
    Box wr (w.heap.size + 1) 24 #[.bool false, .slice none 0 0, .slice none 0 0] ∧ Below w.heap.size w wr

theorem WinInv.mono {w : World} {a : Arr} {A : Option Addr} {ca : Nat} {D : Option Addr} {cd g : Nat} {A' : Option Addr} {c' g2 : Nat} {s : List Nat} {T : List Int} {p : Nat} {b : List Nat} {wr w' : World} (h : WinInv w a A ca D cd g A' c' g2 s T p b wr) (hb : Below wr.heap.size wr w') :
    WinInv w a A ca D cd g A' c' g2 s T p b w' := by
  obtain ⟨A2, c2, h1, h2, h3, h4, h5, h6, h7, h8, h9, h10⟩ := h
  exact ⟨A2, c2, h1.below hb, h2.below hb, h3.below hb, h4, Box.below h5 hb, h6, h7, h8.below hb, h9.below hb, h10.trans (hb.mono h10.size)⟩
theorem WinInv.put {w : World} {a : Arr} {A : Option Addr} {ca : Nat} {D : Option Addr} {cd g : Nat} {A' : Option Addr} {c' g2 : Nat} {s : List Nat} {T : List Int} {p : Nat} {b : List Nat} {wr : World} (h : WinInv w a A ca D cd g A' c' g2 s T p b wr)
    (h1 : w.heap.size + 2 ≤ g) (h2 : g < g2) (k x : Nat) : WinInv w a A ca D cd g A' c' g2 s T p (b.set k x) (wr.setCell ⟨g2, k, none⟩ (.int .i64 x)) := by
  obtain ⟨A2, c2, i1, i2, i3, i4, i5, i6, i7, i8, i9, i10⟩ := h
  have hr := i5.store k (x : Int)
  rw [show (ints b).set k (x : Int) = ints (b.set k x) by simp [ints, List.map_set]] at hr
  exact ⟨A2, c2, i1.far (p := ⟨g2, k, none⟩) (by simp; omega) _, i2.setCell (p := ⟨g2, k, none⟩) i6 _, i3.setCell (p := ⟨g2, k, none⟩) i7 _, i4, hr, i6, i7, i8.far (p := ⟨g2, k, none⟩) (by simp; omega) _, i9.far (p := ⟨g2, k, none⟩) (by simp; omega) _,
    i10.setCell (p := ⟨g2, k, none⟩) (by simp; omega) _⟩
theorem win_step {w : World} {a : Arr} {A : Option Addr} {ca : Nat} {D : Option Addr} {cd g : Nat} {A' : Option Addr} {c' g2 : Nat} {s : List Nat} {T L : List Int} {p : Nat} {b : List Nat} {wr w4 : World} {o : Obj} {A2 A4 : Option Addr} {c2 c4 : Nat}
    (h1 : Box wr g 24 #[.bool a.ch, .slice A' s.length c', .slice A2 p c2]) (h2 : Owns wr (w.heap.size + 2) (.slice A2 p c2) p (T.take p)) (h3 : Owns wr (w.heap.size + 2) (.slice A' s.length c') s.length (ints s))
    (h4 : (Value.slice A' s.length c').ownBlock = none ∨ (Value.slice A' s.length c').ownBlock ≠ (Value.slice A2 p c2).ownBlock) (h5 : Row wr g2 (ints b)) (h6 : (Value.slice A2 p c2).ownBlock ≠ some g2) (h7 : (Value.slice A' s.length c').ownBlock ≠ some g2)
    (h8 : Box wr w.heap.size 24 #[.bool a.ch, .slice A a.sh.length ca, .slice D a.da.length cd]) (h9 : Box wr (w.heap.size + 1) 24 #[.bool false, .slice none 0 0, .slice none 0 0]) (h10 : Below w.heap.size w wr)
    (hg : w.heap.size + 2 ≤ g) (hg2 : g < g2) (hgrow : (wr.alloc o).grownBy w4 (Value.slice A2 p c2).ownBlock) (hown : Owns w4 (w.heap.size + 2) (.slice A4 (p + 1) c4) (p + 1) L) (hL : L = T.take (p + 1))
    (hat : (Value.slice A4 (p + 1) c4).ownBlock = (Value.slice A2 p c2).ownBlock ∨ (Value.slice A4 (p + 1) c4).ownBlock = some (wr.heap.size + 1)) :
    WinInv w a A ca D cd g A' c' g2 s T (p + 1) b (w4.setCell ⟨g, 2, none⟩ (.slice A4 (p + 1) c4)) := by
  have b4 := Box.grown (w := wr.alloc o) (h1.alloc o) hgrow (h2.ne_box h1 (by decide))
  have hs4 := grownBy_setCell w4 g 2 (.slice A4 (p + 1) c4)
  have h3' : Owns w4 (w.heap.size + 2) (.slice A' s.length c') s.length (ints s) := (h3.alloc o).kept hgrow h4
  have hr4 := Box.grown (w := wr.alloc o) (Box.alloc h5 o) hgrow h6
  have hl2 := Box.lt h5
  subst hL
  refine ⟨A4, c4, b4.store 2 _, hown.setCell (p := ⟨g, 2, none⟩) (hown.ne_box b4 (by decide)) _, h3'.setCell (p := ⟨g, 2, none⟩) (h3'.ne_box b4 (by decide)) _, ?_, Box.grown hr4 hs4 (by simp; omega), ?_, h7,
    (Box.grown (w := wr.alloc o) (h8.alloc o) hgrow (h2.ne_low (by omega))).grown hs4 (by simp; omega), (Box.grown (w := wr.alloc o) (h9.alloc o) hgrow (h2.ne_low (by omega))).grown hs4 (by simp; omega), ?_⟩
  · rcases h4 with h4 | h4
    · exact .inl h4
    · right
      rcases hat with hat | hat
      · rw [hat]; exact h4
      · rw [hat]
        intro e
        have := (h3.lt e).2
        omega
  · rcases hat with hat | hat
    · rw [hat]; exact h6
    · rw [hat]
      intro e
      injection e with e
      omega
  · exact ((h10.alloc h10.size o).grown hgrow (by have := h10.size; simp; omega) (fun j e => by have := (h2.lt e).1; omega)).setCell (p := ⟨g, 2, none⟩) (by simp; omega) _

def winB (t : List Nat) (js : List Int) (k : Nat) : Bool := decide (WinIn t js k)
theorem winB_zero (t : List Nat) (js : List Int) : winB t js 0 = true := by unfold winB; rw [decide_eq_true (WinIn.zero t js)]
theorem winB_yes {t : List Nat} {js : List Int} {k : Nat} (h : winB t js k = true) (h1 : 0 ≤ js.getD k 0) (h2 : js.getD k 0 < (t.getD k 0 : Int)) : winB t js (k + 1) = true := by
  unfold winB at *
  rw [decide_eq_true_iff] at *
  exact (winIn_succ t js k).2 ⟨h, h1, h2⟩
theorem winB_no {t : List Nat} {js : List Int} {k : Nat} (h : winB t js k = false ∨ js.getD k 0 < 0 ∨ (t.getD k 0 : Int) ≤ js.getD k 0) : winB t js (k + 1) = false := by
  unfold winB at h ⊢
  rw [decide_eq_false_iff_not, winIn_succ]
  rintro ⟨h1, h2, h3⟩
  rcases h with h | h | h
  · exact (of_decide_eq_false h) h1
  · omega
  · omega

end Go.Proofs.YtikjniibfomadaaDoor
