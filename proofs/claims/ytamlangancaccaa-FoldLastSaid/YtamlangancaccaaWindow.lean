/- The walk of cut.window. Conditions: none. -/
import Derived.Test.YtamlangancaccaaArrOf
import Derived.Test.YtamlangancaccaaMoved
import Derived.Test.YtamlangancaccaaList
import Derived.Test.YtamlangancaccaaWinPlain
import Derived.Test.YtamlangancaccaaAxes
import Derived.Deep.QuietTactic
import Derived.BigQuiet
set_option linter.unusedSimpArgs false
set_option linter.unusedVariables false
namespace Go.Proofs.Ytamlangancaccaa
open Go Go.RowKit Go.Proofs.Ytamlangancaccaa.P

set_option maxHeartbeats 400000 in
theorem fill_any {v : Value} {a : Arr} {w : World} (ha : IsArr w v a) : Calls Try.prog 34 #[v] w fun e w' => e = .returned (.int .i64 (fillOf a.ch)) ∧ Below w.heap.size w w' := by
  obtain ⟨A, ca, D, cd, rfl, hs, hd⟩ := ha.open_
  clear ha hs hd
  cases hc : a.ch
  · go_enter Try.func34, Try.ntmps34
    go_wp2_with fail
    go_ret
    exact ⟨rfl, below_one _ _⟩
  · go_enter Try.func34, Try.ntmps34
    go_wp2_with fail
    go_ret
    exact ⟨rfl, below_one _ _⟩

/-- What the loops of 'window' keep: p cells have been laid, the indices are b. -/
def WinInv (w : World) (a : Arr) (A : Option Addr) (ca : Nat) (D : Option Addr) (cd g : Nat) (A' : Option Addr) (c' g2 : Nat) (s : List Nat) (T : List Int) (p : Nat) (b : List Nat) (wr : World) : Prop :=
  ∃ A2 c2, Box wr g 25 #[.bool a.ch, .slice A' s.length c', .slice A2 p c2] ∧ Owns wr (w.heap.size + 2) (.slice A2 p c2) p (T.take p) ∧ Owns wr (w.heap.size + 2) (.slice A' s.length c') s.length (ints s) ∧
    ((Value.slice A' s.length c').ownBlock = none ∨ (Value.slice A' s.length c').ownBlock ≠ (Value.slice A2 p c2).ownBlock) ∧
    Row wr g2 (ints b) ∧ (Value.slice A2 p c2).ownBlock ≠ some g2 ∧ (Value.slice A' s.length c').ownBlock ≠ some g2 ∧
    Box wr w.heap.size 25 #[.bool a.ch, .slice A a.sh.length ca, .slice D a.da.length cd] ∧
    Box wr (w.heap.size + 1) 25 #[.bool false, .slice none 0 0, .slice none 0 0] ∧ Below w.heap.size w wr

theorem WinInv.mono {w : World} {a : Arr} {A : Option Addr} {ca : Nat} {D : Option Addr} {cd g : Nat} {A' : Option Addr} {c' g2 : Nat} {s : List Nat} {T : List Int} {p : Nat} {b : List Nat} {wr w' : World} (h : WinInv w a A ca D cd g A' c' g2 s T p b wr) (hb : Below wr.heap.size wr w') :
    WinInv w a A ca D cd g A' c' g2 s T p b w' := by
  obtain ⟨A2, c2, h1, h2, h3, h4, h5, h6, h7, h8, h9, h10⟩ := h
  exact ⟨A2, c2, h1.below hb, h2.below hb, h3.below hb, h4, Box.below h5 hb, h6, h7, h8.below hb, h9.below hb, h10.trans (hb.mono h10.size)⟩
theorem WinInv.put {w : World} {a : Arr} {A : Option Addr} {ca : Nat} {D : Option Addr} {cd g : Nat} {A' : Option Addr} {c' g2 : Nat} {s : List Nat} {T : List Int} {p : Nat} {b : List Nat} {wr : World} (h : WinInv w a A ca D cd g A' c' g2 s T p b wr)
    (h1 : w.heap.size + 2 ≤ g) (h2 : g < g2) (k x : Nat) : WinInv w a A ca D cd g A' c' g2 s T p (b.set k x) (wr.setCell ⟨g2, k, none⟩ (.int .i64 x)) := by
  obtain ⟨A2, c2, i1, i2, i3, i4, i5, i6, i7, i8, i9, i10⟩ := h
  have hr := i5.store k (x : Int)
  rw [show (ints b).set k (x : Int) = ints (b.set k x) by simp [ints, List.map_set]] at hr
  exact ⟨A2, c2, i1.far (p := ⟨g2, k, none⟩) (by simp; omega) _, i2.setCell (p := ⟨g2, k, none⟩) i6 _, i3.setCell (p := ⟨g2, k, none⟩) i7 _, i4, hr, i6, i7, i8.far (p := ⟨g2, k, none⟩) (by simp; omega) _, i9.far (p := ⟨g2, k, none⟩) (by simp; omega) _,
    i10.setCell (p := ⟨g2, k, none⟩) (by simp; omega) _⟩
theorem win_step {w : World} {a : Arr} {A : Option Addr} {ca : Nat} {D : Option Addr} {cd g : Nat} {A' : Option Addr} {c' g2 : Nat} {s : List Nat} {T L : List Int} {p : Nat} {b : List Nat} {wr w4 : World} {o : Obj} {A2 A4 : Option Addr} {c2 c4 : Nat}
    (h1 : Box wr g 25 #[.bool a.ch, .slice A' s.length c', .slice A2 p c2]) (h2 : Owns wr (w.heap.size + 2) (.slice A2 p c2) p (T.take p)) (h3 : Owns wr (w.heap.size + 2) (.slice A' s.length c') s.length (ints s))
    (h4 : (Value.slice A' s.length c').ownBlock = none ∨ (Value.slice A' s.length c').ownBlock ≠ (Value.slice A2 p c2).ownBlock) (h5 : Row wr g2 (ints b)) (h6 : (Value.slice A2 p c2).ownBlock ≠ some g2) (h7 : (Value.slice A' s.length c').ownBlock ≠ some g2)
    (h8 : Box wr w.heap.size 25 #[.bool a.ch, .slice A a.sh.length ca, .slice D a.da.length cd]) (h9 : Box wr (w.heap.size + 1) 25 #[.bool false, .slice none 0 0, .slice none 0 0]) (h10 : Below w.heap.size w wr)
    (hg : w.heap.size + 2 ≤ g) (hg2 : g < g2) (hgrow : (wr.alloc o).grownBy w4 (Value.slice A2 p c2).ownBlock) (hown : Owns w4 (w.heap.size + 2) (.slice A4 (p + 1) c4) (p + 1) L) (hL : L = T.take (p + 1))
    (hat : (Value.slice A4 (p + 1) c4).ownBlock = (Value.slice A2 p c2).ownBlock ∨ (Value.slice A4 (p + 1) c4).ownBlock = some (wr.heap.size + 1)) :
    WinInv w a A ca D cd g A' c' g2 s T (p + 1) b (w4.setCell ⟨g, 2, none⟩ (.slice A4 (p + 1) c4)) := by
  have b4 := Box.grown (w := wr.alloc o) (h1.alloc o) hgrow (h2.ne_box h1 (by decide))
  have hs4 := grownBy_setCell w4 g 2 (.slice A4 (p + 1) c4)
  have h3' : Owns w4 (w.heap.size + 2) (.slice A' s.length c') s.length (ints s) := (h3.alloc o).kept hgrow h4
  have hr4 := Box.grown (w := wr.alloc o) (Box.alloc h5 o) hgrow h6
  have hl2 := Box.lt h5
  subst hL
  refine ⟨A4, c4, b4.store 2 _, hown.setCell (p := ⟨g, 2, none⟩) (hown.ne_box b4 (by decide)) _, h3'.setCell (p := ⟨g, 2, none⟩) (h3'.ne_box b4 (by decide)) _, ?_, Box.grown hr4 hs4 (by simp; omega), ?_, h7,
    (Box.grown (w := wr.alloc o) (h8.alloc o) hgrow (h2.ne_low (by omega))).grown hs4 (by simp; omega), (Box.grown (w := wr.alloc o) (h9.alloc o) hgrow (h2.ne_low (by omega))).grown hs4 (by simp; omega), ?_⟩
  · rcases h4 with h4 | h4
    · exact .inl h4
    · right
      rcases hat with hat | hat
      · rw [hat]; exact h4
      · rw [hat]
        intro e
        have := (h3.lt e).2
        omega
  · rcases hat with hat | hat
    · rw [hat]; exact h6
    · rw [hat]
      intro e
      injection e with e
      omega
  · exact ((h10.alloc h10.size o).grown hgrow (by have := h10.size; simp; omega) (fun j e => by have := (h2.lt e).1; omega)).setCell (p := ⟨g, 2, none⟩) (by simp; omega) _

def winB (t : List Nat) (js : List Int) (k : Nat) : Bool := decide (WinIn t js k)
theorem winB_zero (t : List Nat) (js : List Int) : winB t js 0 = true := by unfold winB; rw [decide_eq_true (WinIn.zero t js)]
theorem winB_yes {t : List Nat} {js : List Int} {k : Nat} (h : winB t js k = true) (h1 : 0 ≤ js.getD k 0) (h2 : js.getD k 0 < (t.getD k 0 : Int)) : winB t js (k + 1) = true := by
  unfold winB at *
  rw [decide_eq_true_iff] at *
  exact (winIn_succ t js k).2 ⟨h, h1, h2⟩
theorem winB_no {t : List Nat} {js : List Int} {k : Nat} (h : winB t js k = false ∨ js.getD k 0 < 0 ∨ (t.getD k 0 : Int) ≤ js.getD k 0) : winB t js (k + 1) = false := by
  unfold winB at h ⊢
  rw [decide_eq_false_iff_not, winIn_succ]
  rintro ⟨h1, h2, h3⟩
  rcases h with h | h | h
  · exact (of_decide_eq_false h) h1
  · omega
  · omega

set_option maxRecDepth 100000 in
set_option maxHeartbeats 4000000 in
theorem window_new {v vf vs : Value} {a : Arr} {t s : List Nat} {fr : List Int} {w : World} (ha : IsArr w v a) (hf : IsInts w vf fr) (hs : IsInts w vs (ints s)) (h : Ok a t) (hg : GoodSh s)
    (hl : s.length = t.length) (hfl : fr.length = t.length) (hfb : ∀ (k : Nat) (f : Int), fr[k]? = some f → -8192 ≤ f ∧ f ≤ 8192) :
    Calls Try.prog 30 #[v, vf, vs] w (GivesN (win fr s a) w) := by
  obtain ⟨A, ca, D, cd, rfl, hsh, hd⟩ := ha.open_
  obtain ⟨A0, ca0, eA, a1, a2, a3, a0, a4⟩ := id hsh
  cases eA
  obtain ⟨D0, cd0, eD, d1, d2, d3, d0, d4⟩ := id hd
  cases eD
  have hsh0 := Lib.hid (show Elems w A a.sh from a4)
  have D4 := Lib.hid (show Elems w D a.da from d4)
  have ha0 := Lib.hid ha
  clear a4 d4 a0 d0 hsh hd
  obtain ⟨S, cs, rfl, s1, s2, s3, ES, HS0⟩ := hs.open_
  obtain ⟨Fv, cf, rfl, f1, f2, f3, EF, HF0⟩ := hf.open_
  simp only [length_ints] at s1 s3 HS0 ⊢
  have hN := hg.2.2
  have HG := Lib.hid hg
  obtain ⟨N, hNN⟩ : ∃ N, N = prod s := ⟨_, rfl⟩
  have hmk := run_make_ints N (by omega)
  have hmk2 := run_make_list s.length (by omega)
  have hct := fun W hb => count_ok (.slice S s.length cs) s W (HS0.mono (w' := W) hb) hg
  rw [← hNN] at hct hN
  have HN := Lib.hid hNN
  have HCT := Lib.hid hct
  have ES' := Lib.hid ES
  have EF' := Lib.hid EF
  have HL := Lib.hid hl
  have HFL := Lib.hid hfl
  have HFB := Lib.hid hfb
  have H := Lib.hid h
  clear hg hNN hct ES EF hfl hfb h hs hf ha hl
  go_enter Try.func30, Try.ntmps30
  go_wp2_with fail
  refine (HCT.out _ (below_two _ _ _)).mono ?_
  rintro e w1 ⟨rfl, rfl⟩
  have bA : Box ((w.alloc (.cells #[.bool a.ch, .slice A a.sh.length ca, .slice D a.da.length cd] 25)).alloc (.cells #[.bool false, .slice none 0 0, .slice none 0 0] 25)) w.heap.size 25 #[.bool a.ch, .slice A a.sh.length ca, .slice D a.da.length cd] := (Box.new _ _ _).alloc _
  have bR : Box ((w.alloc (.cells #[.bool a.ch, .slice A a.sh.length ca, .slice D a.da.length cd] 25)).alloc (.cells #[.bool false, .slice none 0 0, .slice none 0 0] 25)) (w.heap.size + 1) 25 #[.bool false, .slice none 0 0, .slice none 0 0] := by simpa using Box.new (w.alloc _) _ _
  obtain ⟨t0, t1, t2⟩ := bA.three
  go_wp2_with fail
  refine wp_region_open (fun i v lo hi w' => match i with
    | 0 => v = .pointer (some ⟨w.heap.size, 0, none⟩)
    | 1 => v = .bool a.ch
    | 2 => v = .slice S s.length cs
    | 3 => ∃ A' c', v = .slice A' s.length c' ∧ Owns w' lo v s.length (ints s) ∧ (∀ b, v.ownBlock = some b → b < hi) ∧ w.heap.size + 2 ≤ lo
    | 4 => v = .int .i64 N
    | 5 => ∃ m, v = .slice (some ⟨m, 0, none⟩) 0 N ∧ Owns w' lo v 0 [] ∧ m < hi ∧ w.heap.size + 2 ≤ lo
    | 6 => ∃ A' c' m, v = .agg #[.bool a.ch, .slice A' s.length c', .slice (some ⟨m, 0, none⟩) 0 N] ∧ Owns w' (w.heap.size + 2) (.slice A' s.length c') s.length (ints s) ∧ Owns w' (w.heap.size + 2) (.slice (some ⟨m, 0, none⟩) 0 N) 0 [] ∧ (Value.slice A' s.length c').ownBlock ≠ some m
    | 7 => ∃ g, v = .pointer (some ⟨g, 0, none⟩) ∧ Box w' g 25 #[.bool false, .slice none 0 0, .slice none 0 0] ∧ w.heap.size + 2 ≤ g
    | _ => True) (by kernel_rfl) (by kernel_rfl) (by kernel_rfl) ?hV ?step ?last
  case hV =>
    intro i v lo hi w1 w2 h hb
    match i, h with
    | 0, h => exact h
    | 1, h => exact h
    | 2, h => exact h
    | 3, ⟨A', c', e, ho, hl, hz⟩ => exact ⟨A', c', e, ho.below hb, hl, hz⟩
    | 4, h => exact h
    | 5, ⟨m, e, ho, hl, hz⟩ => exact ⟨m, e, ho.below hb, hl, hz⟩
    | 6, ⟨A', c', m, e, ho, ho', hne⟩ => exact ⟨A', c', m, e, ho.below hb, ho'.below hb, hne⟩
    | 7, ⟨g, e, hx, hz⟩ => exact ⟨g, e, hx.below hb, hz⟩
    | i + 8, _ => trivial
  case step =>
    simp only [putAll, Act.put, List.setIfInBounds_toArray, List.set_cons_zero, List.set_cons_succ, Nat.reduceAdd, Nat.zero_add]
    intro i o ho hi uu lo up wr hbr hd hj K hK
    obtain ⟨hcw, hfw⟩ := bcell hbr
    match i, ho with
    | 0, ho =>
      simp only [List.getElem?_cons_zero, Option.some.injEq] at ho
      subst ho
      first | (simp [Region.binds] at hd; simp only [hd] at hK) | skip
      refine wpOp_step rfl fun K' hK' => ?_
      go_simp
      exact hK' _ _ (hK _ _ (Below.refl _ _) rfl)
    | 1, ho =>
      simp only [List.getElem?_cons_succ, List.getElem?_cons_zero, Option.some.injEq] at ho
      subst ho
      first | (simp [Region.binds] at hd; simp only [hd] at hK) | skip
      refine wpOp_step rfl fun K' hK' => ?_
      go_simp
      exact hK' _ _ (hK _ _ (Below.refl _ _) rfl)
    | 2, ho =>
      simp only [List.getElem?_cons_succ, List.getElem?_cons_zero, Option.some.injEq] at ho
      subst ho
      first | (simp [Region.binds] at hd; simp only [hd] at hK) | skip
      refine wpOp_step rfl fun K' hK' => ?_
      go_simp
      exact hK' _ _ (hK _ _ (Below.refl _ _) rfl)
    | 3, ho =>
      simp only [List.getElem?_cons_succ, List.getElem?_cons_zero, Option.some.injEq] at ho
      subst ho
      first | (simp [Region.binds] at hd; simp only [hd] at hK) | skip
      refine wpOp_step rfl fun K' hK' => ?_
      go_simp
      refine (clone_any _ (ints s) _ (HS0.mono ((below_two w _ _).trans (hbr.mono (by simp <;> omega))))).mono ?_
      rintro e w1 ⟨A1, c1, rfl, ho, hb1⟩
      try simp only [length_ints] at ho hK' ⊢
      have hz := hbr.size
      try simp only [World.size_alloc] at hz
      exact hK' _ _ (hK _ _ hb1 ⟨A1, c1, rfl, ho, fun b e => (ho.lt e).2, by omega⟩)
    | 4, ho =>
      simp only [List.getElem?_cons_succ, List.getElem?_cons_zero, Option.some.injEq] at ho
      subst ho
      first | (simp [Region.binds] at hd; simp only [hd] at hK) | skip
      refine wpOp_step rfl fun K' hK' => ?_
      go_simp
      exact hK' _ _ (hK _ _ (Below.refl _ _) rfl)
    | 5, ho =>
      simp only [List.getElem?_cons_succ, List.getElem?_cons_zero, Option.some.injEq] at ho
      subst ho
      first | (simp [Region.binds] at hd; simp only [hd] at hK) | skip
      have hz := hbr.size
      try simp only [World.size_alloc] at hz
      refine wpOp_step rfl fun K' hK' => ?_
      go_simp
      exact hK' _ _ (hK _ _ (below_one _ _) ⟨_, rfl, ⟨World.ownsRow_made _ _ _ (Nat.le_refl _) (by unfold maxLen; omega) (by simp [size_madeCells]), by omega⟩, by simp, by omega⟩)
    | 6, ho =>
      simp only [List.getElem?_cons_succ, List.getElem?_cons_zero, Option.some.injEq] at ho
      subst ho
      have h1 : uu 1 = .bool a.ch := hd ⟨1, .data⟩ (by simp) rfl
      obtain ⟨A', c', es, os, ls, zs⟩ := hd ⟨3, .data⟩ (by simp) rfl
      obtain ⟨m, ed, od, ld, zd⟩ := hd ⟨5, .data⟩ (by simp) rfl
      have hdj := hj ⟨3, .data⟩ (by simp) ⟨5, .data⟩ (by simp) rfl rfl (by simp)
      dsimp only at os ls zs od ld zd hdj
      simp only [h1, es, ed] at hK
      rw [es] at os ls
      rw [ed] at od
      have hne : (Value.slice A' s.length c').ownBlock ≠ some m := fun e => by have h1 := (os.lt e).1; have h2 := ls m e; have h3 := (od.lt (k := m) rfl).1; omega
      refine wpOp_step rfl fun K' hK' => ?_
      go_simp
      exact hK' _ _ (hK _ _ (Below.refl _ _) ⟨A', c', m, rfl, os.base (by omega), od.base (by omega), hne⟩)
    | 7, ho =>
      simp only [List.getElem?_cons_succ, List.getElem?_cons_zero, Option.some.injEq] at ho
      subst ho
      first | (simp [Region.binds] at hd; simp only [hd] at hK) | skip
      have hz := hbr.size
      try simp only [World.size_alloc] at hz
      refine wpOp_step rfl fun K' hK' => ?_
      go_simp
      exact hK' _ _ (hK _ _ (below_one _ _) ⟨_, rfl, Box.new _ _ _, by omega⟩)
    | i + 8, ho => simp at hi; omega
  case last =>
    simp only [putAll, Act.put, List.setIfInBounds_toArray, List.set_cons_zero, List.set_cons_succ, Nat.reduceAdd, Nat.zero_add]
    intro uu wr lo up hbr hv hj
    obtain ⟨A', c', m, e9, o4, o8, hne⟩ := hv 6 (by simp)
    obtain ⟨g, e10, bg, hg⟩ := hv 7 (by simp)
    obtain ⟨g0, g1, g2⟩ := bg.three
    have gf := bg.frozen
    simp only [e9, e10]
    clear hv hj e9 e10
    refine wpOp_step rfl fun K' hK' => ?_
    go_simp
    refine hK' _ _ ?_
    have hbw := (below_two w _ _).trans (hbr.mono (by simp <;> omega))
    have hgg := grownBy_three wr g (.bool a.ch) (.slice A' s.length c') (.slice (some ⟨m, 0, none⟩) 0 N)
    have i1 := ((bg.store 0 (.bool a.ch)).store 1 (.slice A' s.length c')).store 2 (.slice (some ⟨m, 0, none⟩) 0 N)
    simp only [List.setIfInBounds_toArray, List.set_cons_zero, List.set_cons_succ] at i1
    have i3 := o4.kept hgg (.inr (o4.ne_box bg (by decide)))
    have i2 := o8.kept hgg (.inr (o8.ne_box bg (by decide)))
    have i4 := Box.grown (Box.below bA hbr) hgg (by simp; omega)
    have i5 := Box.grown (Box.below bR hbr) hgg (by simp; omega)
    have iw := hbw.grown hgg hbw.size (fun j e => by cases e; omega)
    have hgl : g < (((wr.setCell ⟨g, 0, none⟩ (.bool a.ch)).setCell ⟨g, 1, none⟩ (.slice A' s.length c')).setCell ⟨g, 2, none⟩ (.slice (some ⟨m, 0, none⟩) 0 N)).heap.size := i1.lt
    clear hbr hgg o4 o8 bg g0 g1 g2 gf hbw hK' bA bR t0 t1 t2 hmk
    generalize (((wr.setCell ⟨g, 0, none⟩ (.bool a.ch)).setCell ⟨g, 1, none⟩ (.slice A' s.length c')).setCell ⟨g, 2, none⟩ (.slice (some ⟨m, 0, none⟩) 0 N)) = W2 at i3 i2 i4 i5 i1 iw hgl ⊢
    have hml : m < W2.heap.size := by have := (i2.lt (k := m) rfl).2; exact this
    have hiw := iw.size
    obtain ⟨g3, hg3⟩ : ∃ g3, g3 = W2.heap.size := ⟨_, rfl⟩
    have hrow := Row.made W2 s.length
    have hinv : WinInv w a A ca D cd g A' c' g3 s (win fr s a).da 0 (List.replicate s.length 0) (W2.alloc (.cells (madeCells #[.int .i64 0] s.length) 3)) :=
      ⟨_, _, i1.alloc _, by rw [List.take_zero]; exact i2.alloc _, i3.alloc _, .inr hne, by rw [hg3, show ints (List.replicate s.length 0) = List.replicate s.length 0 by simp [ints]]; exact hrow,
        (fun e => by have := (i2.lt e).2; omega), (fun e => by have := (i3.lt e).2; omega), i4.alloc _, i5.alloc _, iw.alloc iw.size _⟩
    have hwl := win_ok H.out HG.out HL.out HFL.out
    have hTl : (win fr s a).da.length = N := by rw [hwl.len, HN.out]
    have HTL := Lib.hid hTl
    have hord : w.heap.size + 2 ≤ g ∧ g < g3 := ⟨by omega, by omega⟩
    have HO := Lib.hid hord
    have Hinv := Lib.hid hinv
    have hs6 : s.length ≤ 6 := HG.out.1
    have l0 : ∀ p b wx, WinInv w a A ca D cd g A' c' g3 s (win fr s a).da p b wx → wx.cell? ⟨w.heap.size, 0, none⟩ = some (.bool a.ch) ∧ wx.cell? ⟨w.heap.size, 1, none⟩ = some (.slice A a.sh.length ca) ∧ wx.cell? ⟨w.heap.size, 2, none⟩ = some (.slice D a.da.length cd) := by
      rintro p b wx ⟨A2, c2, h1, h2, h3, h4, h5, h6, h7, h8, h9, h10⟩
      exact h8.three
    have L0 := Lib.hid l0
    clear i1 i2 i3 i4 i5 iw hrow hinv hwl hTl l0 hne hg hgl hml hiw hord
    go_wp2_with fail
    rw [← hg3]
    clear hg3
    go_loopw [34] (fun q wx => ∃ (p : Nat) (b : List Nat), p ≤ N ∧ q = .int .i64 p ∧ AtCell s p b ∧ WinInv w a A ca D cd g A' c' g3 s (win fr s a).da p b wx) (fun q _ => N - (intOf q).toNat)
    case atStart => exact ⟨0, _, Nat.zero_le _, rfl, AtCell.zero s, Hinv.out⟩
    case round =>
      clear Hinv
      obtain ⟨p, b, hp, rfl, hat, hi⟩ := hrel
      rcases Nat.lt_or_ge p N with hlt | hge
      · have hps : p < prod s := by rw [← HN.out]; exact hlt
        have HPS := Lib.hid hps
        have HB := Lib.hid (hat.2 hps)
        have Hi := Lib.hid hi
        obtain ⟨js, hjs⟩ : ∃ js, js = adds (coords s p) fr := ⟨_, rfl⟩
        have hjl : js.length = t.length := by rw [hjs, adds_length, length_coords, HL.out, HFL.out, Nat.min_self]
        have HJ := Lib.hid hjs
        have HJL := Lib.hid hjl
        clear hps hat hi hjs hjl
        go_wp2_with fail
        obtain ⟨wo, rfl⟩ : ∃ wo : World, wo = wr := ⟨_, rfl⟩
        go_loopw [11, 12, 38] (fun P I i wx => ∃ (k : Nat) (Pz : Int), k ≤ s.length ∧ i = .int .i64 k ∧ P = .int .i64 Pz ∧ I = .bool (winB t js k) ∧ WinPlace t js k Pz ∧ WinInv w a A ca D cd g A' c' g3 s (win fr s a).da p b wx) (fun _ _ i _ => s.length - (intOf i).toNat)
        case atStart => exact ⟨0, 0, Nat.zero_le _, rfl, rfl, by rw [winB_zero], WinPlace.zero _ _, Hi.out⟩
        case round =>
          obtain ⟨k, Pz, hk, rfl, rfl, rfl, hpl, hi⟩ := hrel
          obtain ⟨c0, c1, c2⟩ := L0.out _ _ _ hi
          have Hi2 := Lib.hid hi
          obtain ⟨A2, c2', h1, h2, h3, h4, h5, h6, h7, h8, h9, h10⟩ := hi
          rcases Nat.lt_or_ge k s.length with hkl | hkg
          · have hkb : k < b.length := by rw [HB.out, length_coords]; exact hkl
            have hcb := h5.at_ (ints_get hkb)
            rw [HB.out] at hcb
            obtain ⟨af, f, rfl, hf, haf, hcf⟩ := Elems.later EF'.out h10 (k := k) (by rw [HFL.out, ← HL.out]; exact hkl)
            obtain ⟨f0, f1⟩ := HFB.out k f hf
            have hsh : a.sh.length = t.length := by rw [H.out.sh, length_ints]
            obtain ⟨ae, y, rfl, hy, hae, hcy⟩ := Elems.later (hsh0.out) h10 (k := k) (by rw [hsh, ← HL.out]; exact hkl)
            rw [H.out.sh] at hy
            obtain ⟨rfl, hkt⟩ := ints_getD hy
            have hkc : k < (coords s p).length := by rw [length_coords]; exact hkl
            have hX4 : (coords s p).getD k 0 ≤ 4096 := by
              have h11 := coords_lt HPS.out hkl
              have h12 : s.getD k 0 ≤ 4096 := by rw [getD_lt hkl]; exact HG.out.2.1 _ (List.getElem_mem _)
              omega
            have hY4 : t.getD k 0 ≤ 4096 := by rw [getD_lt hkt]; exact H.out.good.2.1 _ (List.getElem_mem _)
            have hjk : js.getD k 0 = (((coords s p).getD k 0 : Nat) : Int) + f := by
              rw [HJ.out, adds_get hkc (by rw [HFL.out, ← HL.out]; exact hkl)]
              congr 1
              rw [List.getD_eq_getElem?_getD, hf]; rfl
            have hstep := WinPlace.step H.out.good HJL.out hkt hpl
            have hwy := @winB_yes t js k
            have hwn := @winB_no t js k
            rw [hjk] at hstep hwy hwn
            obtain ⟨X, hX⟩ : ∃ X, X = (coords s p).getD k 0 := ⟨_, rfl⟩
            obtain ⟨Y, hY⟩ : ∃ Y, Y = t.getD k 0 := ⟨_, rfl⟩
            rw [← hX] at hcb hX4 hstep hwy hwn
            rw [← hY] at hcy hY4 hstep hwy hwn
            have HS' := Lib.hid hstep
            have HWY := Lib.hid hwy
            have HWN := Lib.hid hwn
            have hkA : k < a.sh.length := by rw [hsh]; exact hkt
            have hkF : k < fr.length := by rw [HFL.out, ← HL.out]; exact hkl
            clear hf hy hX hY hstep hwy hwn hjk hpl h1 h2 h3 h4 h5 h6 h7 h8 h9 h10 hkc hkt hsh hkb
            cases hwb : winB t js k
            · have hn := Lib.hid (HWN.out (.inl hwb))
              clear hwb
              go_wp2_with fail
              go_roundw
              case rel => exact ⟨k + 1, _, by omega, by go_num, rfl, by rw [hn.out], HS'.out, Hi2.out⟩
              case measure => simp [intOf]; omega
            · rcases Int.lt_or_le ((X : Int) + f) 0 with hj0 | hj0
              · have hn := Lib.hid (HWN.out (.inr (.inl hj0)))
                have d1 : decide ((0 : Int) ≤ (X : Int) + f) = false := by simp; omega
                clear hwb
                go_wp2_with fail
                go_roundw
                case rel => exact ⟨k + 1, _, by omega, by go_num, rfl, by rw [hn.out], HS'.out, Hi2.out⟩
                case measure => simp [intOf]; omega
              · have d1 : decide ((0 : Int) ≤ (X : Int) + f) = true := by simp; omega
                rcases Int.lt_or_le ((X : Int) + f) (Y : Int) with hj1 | hj1
                · have hn := Lib.hid (HWY.out hwb hj0 hj1)
                  have d2 : decide ((X : Int) + f < (Y : Int)) = true := by simp; omega
                  clear hwb
                  go_wp2_with fail
                  go_roundw
                  case rel => exact ⟨k + 1, _, by omega, by go_num, rfl, by rw [hn.out], HS'.out, Hi2.out⟩
                  case measure => simp [intOf]; omega
                · have hn := Lib.hid (HWN.out (.inr (.inr hj1)))
                  have d2 : decide ((X : Int) + f < (Y : Int)) = false := by simp; omega
                  clear hwb
                  go_wp2_with fail
                  go_roundw
                  case rel => exact ⟨k + 1, _, by omega, by go_num, rfl, by rw [hn.out], HS'.out, Hi2.out⟩
                  case measure => simp [intOf]; omega
          · have hke : k = t.length := by rw [← HL.out]; omega
            subst hke
            have hbw1 := h10
            have ia : IsArr wr (.agg #[.bool a.ch, .slice A a.sh.length ca, .slice D a.da.length cd]) a := ha0.out.mono h10
            have HPL := Lib.hid hpl
            clear hpl h1 h2 h3 h4 h5 h6 h7 h8 h9
            go_wp2_with fail
            refine (fill_any ia).mono ?_
            rintro e w1 ⟨rfl, hb1⟩
            have Hi3 := Lib.hid (Hi2.out.mono hb1)
            obtain ⟨c0, c1, c2⟩ := L0.out _ _ _ Hi3.out
            clear hb1 ia hbw1 h10
            have key : ∀ x : Int, (win fr s a).da[p]? = some x → (winB t js t.length = true → ∃ q, q < a.da.length ∧ Pz = (q : Nat) ∧ a.da[q]? = some x) ∧ (winB t js t.length = false → x = fillOf a.ch) := by
              intro x hx
              refine ⟨fun hw => ?_, fun hw => ?_⟩
              · have hw' : WinIn t js t.length := by unfold winB at hw; simpa using hw
                have hwi := win_in (fr := fr) H.out HPS.out (by rw [← HJ.out]; exact HJL.out) (by rw [← HJ.out]; exact hw')
                rw [← HJ.out] at hwi
                refine ⟨_, hwi.2, HPL.out.all HJL.out hw', ?_⟩
                rw [← hwi.1]; exact hx
              · have hw' : ¬ WinIn t js t.length := by unfold winB at hw; simpa using hw
                have hwo := win_out (fr := fr) H.out HPS.out (by rw [← HJ.out]; exact hw')
                rw [hwo] at hx
                injection hx with hx
                exact hx.symm
            obtain ⟨x, hx⟩ : ∃ x, (win fr s a).da[p]? = some x := ⟨_, List.getElem?_eq_getElem (by rw [HTL.out]; exact hlt)⟩
            obtain ⟨ky, kn⟩ := key x hx
            have HKY := Lib.hid ky
            have HKN := Lib.hid kn
            have HX := Lib.hid hx
            clear key hx ky kn
            have hto : ∀ r : World, True := fun _ => trivial
            clear hto
            cases hwb : winB t js t.length
            · obtain rfl : x = fillOf a.ch := HKN.out hwb
              have fin : True := trivial
              clear fin
              clear HKY HKN hwb
              obtain ⟨A2, c2', h1, h2, h3, h4, h5, h6, h7, h8, h9, h10⟩ := Hi3.out
              obtain ⟨g0, g1, g2⟩ := h1.three
              have gf := h1.frozen
              have gl := h1.lt
              have hsz := h10.size
              obtain ⟨o1, o2⟩ := HO.out
              go_wp2_with (at_builtin; refine wpList_append_ints _ rfl rfl _ _ rfl (w.heap.size + 2) p _ ((win fr s a).da.take p) rfl (h2.alloc _) (some ⟨w1.heap.size, 0, none⟩) 1 1 [(fillOf a.ch)] rfl (by simp) (elems_new w1 (fillOf a.ch)) rfl (by omega) (by simp; omega) ?_; intro A4 c4 w4 hown4 hgrow4 hat4; have b4 := Box.grown (w := w1.alloc _) (h1.alloc _) hgrow4 (h2.ne_box h1 (by decide)); have hc4 := b4.three.2.2; have hf4 := b4.frozen 2)
              have hfin := win_step (o := .cells #[.int .i64 (fillOf a.ch)] 3) h1 h2 h3 h4 h5 h6 h7 h8 h9 h10 o1 o2 hgrow4 hown4 (take_at HX.out) (by have h := hat4; change (Value.slice A4 (p + 1) c4).ownBlock = (Value.slice A2 p c2').ownBlock ∨ _ at h; simpa using h)
              obtain ⟨w5, hw5⟩ : ∃ w5 : World, w5 = w4.setCell ⟨g, 2, none⟩ (.slice A4 (p + 1) c4) := ⟨_, rfl⟩
              rw [← hw5] at hfin
              have Hfin := Lib.hid hfin
              clear h1 h2 h3 h4 h5 h6 h7 h8 h9 h10 g0 g1 g2 gf gl hsz o1 o2 hown4 hgrow4 hat4 hfin c0 c1 c2 b4 hc4 hf4
              go_wp2_with fail
              rw [← hw5]
              clear hw5
              go_loopw [17] (fun q wx => ∃ (k : Nat) (mm : Int) (b' : List Nat), (k : Int) = mm + 1 ∧ k ≤ s.length ∧ q = .int .i64 mm ∧ Odo s (coords s p) k b' ∧ WinInv w a A ca D cd g A' c' g3 s (win fr s a).da (p + 1) b' wx) (fun q _ => (intOf q + 1).toNat)
              case atStart => exact ⟨s.length, _, b, by omega, Nat.le_refl _, rfl, by rw [HB.out]; exact Odo.start (coords_inside HPS.out), Hfin.out⟩
              case round =>
                obtain ⟨k, mm, b', hkm, hk, rfl, ho, hi⟩ := hrel
                have hcin := coords_inside HPS.out
                have hbl' := ho.length hcin hk
                rcases k with _ | k
                case succ =>
                  obtain rfl : mm = k := by omega
                  have Hi3 := Lib.hid hi
                  obtain ⟨A2, c2', h1, h2, h3, h4, h5, h6, h7, h8, h9, h10⟩ := hi
                  have hkb : k < b'.length := by omega
                  have hget := ho.get hcin (by omega)
                  have hc1 := h5.at_ (ints_get hkb)
                  rw [List.getD_eq_getElem?_getD, hget, Option.getD_some] at hc1
                  have hclt := coords_lt HPS.out (show k < s.length by omega)
                  obtain ⟨ae, y, rfl, hy, hae, hcy⟩ := Elems.later ES'.out h10 (k := k) (by rw [length_ints]; omega)
                  obtain ⟨rfl, -⟩ := ints_getD hy
                  obtain ⟨X, hX⟩ : ∃ X, X = (coords s p).getD k 0 := ⟨_, rfl⟩
                  obtain ⟨Y, hY⟩ : ∃ Y, Y = s.getD k 0 := ⟨_, rfl⟩
                  have hY4 : Y ≤ 4096 := by
                    rw [hY, getD_lt (by omega)]
                    exact HG.out.2.1 _ (List.getElem_mem _)
                  rw [← hX] at hc1 hclt
                  rw [← hY] at hcy hclt
                  have hfz := Box.frozen h5 k
                  have hlt2 := Box.lt h5
                  obtain ⟨o1, o2⟩ := HO.out
                  have hp1 := Hi3.out.put o1 o2 k (X + 1)
                  have hcys : (wr.setCell ⟨g3, k, none⟩ (.int .i64 ((X + 1 : Nat) : Int))).cell? (ae.add k) = some (.int .i64 (Y : Nat)) := cellS hcy (by rw [addr_block_add]; simp; omega)
                  have hgs : (wr.setCell ⟨g3, k, none⟩ (.int .i64 ((X + 1 : Nat) : Int))).cell? ⟨g3, k, none⟩ = some (.int .i64 ((X + 1 : Nat) : Int)) := by
                    obtain ⟨_, _, -, -, -, -, q5, -⟩ := hp1
                    have := q5.at_ (ints_get (by rw [List.length_set]; exact hkb))
                    rwa [getD_set hkb] at this
                  have hfs : (wr.setCell ⟨g3, k, none⟩ (.int .i64 ((X + 1 : Nat) : Int))).frozen? ⟨g3, k, none⟩ = false := by
                    obtain ⟨_, _, -, -, -, -, q5, -⟩ := hp1
                    exact Box.frozen q5 k
                  have hfin0 : ∀ n, WinInv w a A ca D cd g A' c' g3 s (win fr s a).da (p + 1) (b'.set k 0) (((wr.setCell ⟨g3, k, none⟩ (.int .i64 ((X + 1 : Nat) : Int))).drewN n).setCell ⟨g3, k, none⟩ (.int .i64 0)) := fun n => by
                    have := (hp1.mono (below_draws _ _ n)).put o1 o2 k 0
                    rwa [List.set_set] at this
                  have hls : g3 < (wr.setCell ⟨g3, k, none⟩ (.int .i64 ((X + 1 : Nat) : Int))).heap.size := by simpa using hlt2
                  have HX' := Lib.hid hX
                  have HY' := Lib.hid hY
                  have HO' := Lib.hid ho
                  have Hp1 := Lib.hid hp1
                  have HF0 := Lib.hid hfin0
                  have hcast : ((X + 1 : Nat) : Int) = (X : Int) + 1 := by simp
                  rw [hcast] at hcys hgs hfs hls
                  clear hy hget hX hY ho hp1 hfin0 h1 h2 h3 h4 h5 h6 h7 h8 h9 h10 hcin hkm hkb hbl' hcast
                  rcases Nat.lt_or_ge (X + 1) Y with hxy | hxy
                  · have hd : decide ((X : Int) + 1 < (Y : Int)) = true := by simp; omega
                    go_wp2_with fail
                    go_quiet (fail)
                    all_goals go_wp2_with fail
                    go_roundw
                    case rel => exact ⟨p + 1, b'.set k (X + 1), by omega, by go_num, by rw [HX'.out]; exact AtCell.next HPS.out (by omega) HO'.out (by rw [← HX'.out, ← HY'.out]; exact hxy), Hp1.out.mono (below_draws _ _ _)⟩
                    case measure => simp [intOf]; omega
                  · have hd : decide ((X : Int) + 1 < (Y : Int)) = false := by simp; omega
                    go_wp2_with fail
                    go_quiet (fail)
                    all_goals go_wp2_with fail
                    go_roundw
                    case rel => exact ⟨k, (k : Int) - 1, b'.set k 0, by omega, by omega, rfl, HO'.out.step (coords_inside HPS.out) (by omega) (by rw [← HX'.out, ← HY'.out]; exact hxy), HF0.out _⟩
                    case measure => simp [intOf]
                · obtain rfl : mm = -1 := by omega
                  have Hi3 := Lib.hid hi
                  have HO' := Lib.hid ho
                  clear hi ho hkm hcin hbl'
                  go_wp2_with fail
                  go_roundw
                  case rel => exact ⟨p + 1, b', by omega, by go_num, AtCell.last HPS.out HO'.out, Hi3.out⟩
                  case measure => simp [intOf]; omega
            · obtain ⟨q, hq, rfl, hqx⟩ := HKY.out hwb
              have h10' : Below w.heap.size w w1 := by obtain ⟨_, _, _, _, _, _, _, _, _, _, _, r10⟩ := Hi3.out; exact r10
              obtain ⟨ad, x', rfl, hx', hal, hcx⟩ := Elems.later D4.out h10' hq
              obtain rfl : x = x' := by rw [hqx] at hx'; injection hx' with hx'
              clear hqx hx' h10'
              clear HKY HKN hwb
              obtain ⟨A2, c2', h1, h2, h3, h4, h5, h6, h7, h8, h9, h10⟩ := Hi3.out
              obtain ⟨g0, g1, g2⟩ := h1.three
              have gf := h1.frozen
              have gl := h1.lt
              have hsz := h10.size
              obtain ⟨o1, o2⟩ := HO.out
              go_wp2_with (at_builtin; refine wpList_append_ints _ rfl rfl _ _ rfl (w.heap.size + 2) p _ ((win fr s a).da.take p) rfl (h2.alloc _) (some ⟨w1.heap.size, 0, none⟩) 1 1 [x] rfl (by simp) (elems_new w1 x) rfl (by omega) (by simp; omega) ?_; intro A4 c4 w4 hown4 hgrow4 hat4; have b4 := Box.grown (w := w1.alloc _) (h1.alloc _) hgrow4 (h2.ne_box h1 (by decide)); have hc4 := b4.three.2.2; have hf4 := b4.frozen 2)
              have hfin := win_step (o := .cells #[.int .i64 x] 3) h1 h2 h3 h4 h5 h6 h7 h8 h9 h10 o1 o2 hgrow4 hown4 (take_at HX.out) (by have h := hat4; change (Value.slice A4 (p + 1) c4).ownBlock = (Value.slice A2 p c2').ownBlock ∨ _ at h; simpa using h)
              obtain ⟨w5, hw5⟩ : ∃ w5 : World, w5 = w4.setCell ⟨g, 2, none⟩ (.slice A4 (p + 1) c4) := ⟨_, rfl⟩
              rw [← hw5] at hfin
              have Hfin := Lib.hid hfin
              clear h1 h2 h3 h4 h5 h6 h7 h8 h9 h10 g0 g1 g2 gf gl hsz o1 o2 hown4 hgrow4 hat4 hfin c0 c1 c2 b4 hc4 hf4
              go_wp2_with fail
              rw [← hw5]
              clear hw5
              go_loopw [17] (fun q wx => ∃ (k : Nat) (mm : Int) (b' : List Nat), (k : Int) = mm + 1 ∧ k ≤ s.length ∧ q = .int .i64 mm ∧ Odo s (coords s p) k b' ∧ WinInv w a A ca (some ad) cd g A' c' g3 s (win fr s a).da (p + 1) b' wx) (fun q _ => (intOf q + 1).toNat)
              case atStart => exact ⟨s.length, _, b, by omega, Nat.le_refl _, rfl, by rw [HB.out]; exact Odo.start (coords_inside HPS.out), Hfin.out⟩
              case round =>
                obtain ⟨k, mm, b', hkm, hk, rfl, ho, hi⟩ := hrel
                have hcin := coords_inside HPS.out
                have hbl' := ho.length hcin hk
                rcases k with _ | k
                case succ =>
                  obtain rfl : mm = k := by omega
                  have Hi3 := Lib.hid hi
                  obtain ⟨A2, c2', h1, h2, h3, h4, h5, h6, h7, h8, h9, h10⟩ := hi
                  have hkb : k < b'.length := by omega
                  have hget := ho.get hcin (by omega)
                  have hc1 := h5.at_ (ints_get hkb)
                  rw [List.getD_eq_getElem?_getD, hget, Option.getD_some] at hc1
                  have hclt := coords_lt HPS.out (show k < s.length by omega)
                  obtain ⟨ae, y, rfl, hy, hae, hcy⟩ := Elems.later ES'.out h10 (k := k) (by rw [length_ints]; omega)
                  obtain ⟨rfl, -⟩ := ints_getD hy
                  obtain ⟨X, hX⟩ : ∃ X, X = (coords s p).getD k 0 := ⟨_, rfl⟩
                  obtain ⟨Y, hY⟩ : ∃ Y, Y = s.getD k 0 := ⟨_, rfl⟩
                  have hY4 : Y ≤ 4096 := by
                    rw [hY, getD_lt (by omega)]
                    exact HG.out.2.1 _ (List.getElem_mem _)
                  rw [← hX] at hc1 hclt
                  rw [← hY] at hcy hclt
                  have hfz := Box.frozen h5 k
                  have hlt2 := Box.lt h5
                  obtain ⟨o1, o2⟩ := HO.out
                  have hp1 := Hi3.out.put o1 o2 k (X + 1)
                  have hcys : (wr.setCell ⟨g3, k, none⟩ (.int .i64 ((X + 1 : Nat) : Int))).cell? (ae.add k) = some (.int .i64 (Y : Nat)) := cellS hcy (by rw [addr_block_add]; simp; omega)
                  have hgs : (wr.setCell ⟨g3, k, none⟩ (.int .i64 ((X + 1 : Nat) : Int))).cell? ⟨g3, k, none⟩ = some (.int .i64 ((X + 1 : Nat) : Int)) := by
                    obtain ⟨_, _, -, -, -, -, q5, -⟩ := hp1
                    have := q5.at_ (ints_get (by rw [List.length_set]; exact hkb))
                    rwa [getD_set hkb] at this
                  have hfs : (wr.setCell ⟨g3, k, none⟩ (.int .i64 ((X + 1 : Nat) : Int))).frozen? ⟨g3, k, none⟩ = false := by
                    obtain ⟨_, _, -, -, -, -, q5, -⟩ := hp1
                    exact Box.frozen q5 k
                  have hfin0 : ∀ n, WinInv w a A ca (some ad) cd g A' c' g3 s (win fr s a).da (p + 1) (b'.set k 0) (((wr.setCell ⟨g3, k, none⟩ (.int .i64 ((X + 1 : Nat) : Int))).drewN n).setCell ⟨g3, k, none⟩ (.int .i64 0)) := fun n => by
                    have := (hp1.mono (below_draws _ _ n)).put o1 o2 k 0
                    rwa [List.set_set] at this
                  have hls : g3 < (wr.setCell ⟨g3, k, none⟩ (.int .i64 ((X + 1 : Nat) : Int))).heap.size := by simpa using hlt2
                  have HX' := Lib.hid hX
                  have HY' := Lib.hid hY
                  have HO' := Lib.hid ho
                  have Hp1 := Lib.hid hp1
                  have HF0 := Lib.hid hfin0
                  have hcast : ((X + 1 : Nat) : Int) = (X : Int) + 1 := by simp
                  rw [hcast] at hcys hgs hfs hls
                  clear hy hget hX hY ho hp1 hfin0 h1 h2 h3 h4 h5 h6 h7 h8 h9 h10 hcin hkm hkb hbl' hcast
                  rcases Nat.lt_or_ge (X + 1) Y with hxy | hxy
                  · have hd : decide ((X : Int) + 1 < (Y : Int)) = true := by simp; omega
                    go_wp2_with fail
                    go_quiet (fail)
                    all_goals go_wp2_with fail
                    go_roundw
                    case rel => exact ⟨p + 1, b'.set k (X + 1), by omega, by go_num, by rw [HX'.out]; exact AtCell.next HPS.out (by omega) HO'.out (by rw [← HX'.out, ← HY'.out]; exact hxy), Hp1.out.mono (below_draws _ _ _)⟩
                    case measure => simp [intOf]; omega
                  · have hd : decide ((X : Int) + 1 < (Y : Int)) = false := by simp; omega
                    go_wp2_with fail
                    go_quiet (fail)
                    all_goals go_wp2_with fail
                    go_roundw
                    case rel => exact ⟨k, (k : Int) - 1, b'.set k 0, by omega, by omega, rfl, HO'.out.step (coords_inside HPS.out) (by omega) (by rw [← HX'.out, ← HY'.out]; exact hxy), HF0.out _⟩
                    case measure => simp [intOf]
                · obtain rfl : mm = -1 := by omega
                  have Hi3 := Lib.hid hi
                  have HO' := Lib.hid ho
                  clear hi ho hkm hcin hbl'
                  go_wp2_with fail
                  go_roundw
                  case rel => exact ⟨p + 1, b', by omega, by go_num, AtCell.last HPS.out HO'.out, Hi3.out⟩
                  case measure => simp [intOf]; omega
      · have hpe : p = prod s := by have := HN.out; omega
        obtain ⟨A2, c2', h1, h2, h3, h4, h5, h6, h7, h8, h9, h10⟩ := hi
        obtain ⟨g0, g1, g2⟩ := h1.three
        obtain ⟨f0, f1, f2⟩ := h9.three
        have ff := h9.frozen
        have hlr := h9.lt
        have hpl : p = (win fr s a).da.length := by rw [HTL.out]; omega
        have HPL := Lib.hid hpl
        have HT2 := Lib.hid (show (win fr s a).da.take p = (win fr s a).da from List.take_of_length_le (by omega))
        clear hpe hpl hat h5
        go_wp2_with fail
        refine bodyPost_ret (v := .agg #[.bool a.ch, .slice A' s.length c', .slice A2 p c2']) (by simp [results, Try.results30, go_sem, f0, f1, f2, g0, g1, g2, hlr]) rfl ?_
        have hgf := grownBy_three wr (w.heap.size + 1) (.bool a.ch) (.slice A' s.length c') (.slice A2 p c2')
        have r1 := (h3.kept hgf (.inr (h3.ne_low (by omega)))).isInts
        have r2 := (h2.kept hgf (.inr (h2.ne_low (by omega)))).isInts
        rw [HT2.out] at r2
        exact ⟨_, rfl, ⟨_, _, rfl, r1, r2⟩, h10.grown hgf h10.size (fun j e => by cases e; omega), ⟨_, _, _, _, _, _, _, rfl, fun k e => by have := (h3.lt e).1; omega, fun k e => by have := (h2.lt e).1; omega⟩⟩

set_option maxHeartbeats 400000 in
theorem window_ok {v vf vs : Value} {a : Arr} {t s : List Nat} {fr : List Int} {w : World} (ha : IsArr w v a) (hf : IsInts w vf fr) (hs : IsInts w vs (ints s)) (h : Ok a t) (hg : GoodSh s)
    (hl : s.length = t.length) (hfl : fr.length = t.length) (hfb : ∀ (k : Nat) (f : Int), fr[k]? = some f → -8192 ≤ f ∧ f ≤ 8192) :
    Calls Try.prog 30 #[v, vf, vs] w (Gives (win fr s a) w) := (window_new ha hf hs h hg hl hfl hfb).mono fun _ _ h => h.old

end Go.Proofs.Ytamlangancaccaa
