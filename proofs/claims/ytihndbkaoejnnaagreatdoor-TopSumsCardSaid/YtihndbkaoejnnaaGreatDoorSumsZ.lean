/- What the card TopSums leans on: Moved, Rev, Window, Drop, Join. Conditions: none but those of its theorems. -/
import Derived.Deep.DeepCutAuto
import Derived.Deep.QuietTactic
import Derived.BigQuiet
import Derived.Test.YtihndbkaoejnnaaGreatDoorSumsG
import Derived.Test.YtihndbkaoejnnaaGreatDoorSumsR
import Derived.Test.YtihndbkaoejnnaaGreatDoorSumsC
import Derived.Test.YtihndbkaoejnnaaGreatDoorSumsE
import Derived.Test.YtihndbkaoejnnaaGreatDoorSumsL
import Derived.Test.YtihndbkaoejnnaaGreatDoorSumsY
import Derived.Test.YtihndbkaoejnnaaGreatDoorSumsX
import Derived.Test.YtihndbkaoejnnaaGreatDoorSumsA
import Derived.Test.YtihndbkaoejnnaaGreatDoorSumsB
set_option linter.unusedSimpArgs false
set_option linter.unusedVariables false
namespace Go.Proofs.YtihndbkaoejnnaaGreatDoor
open Go Go.RowKit Go.Proofs.YtihndbkaoejnnaaGreatDoor.P

/-- make([]int, 0, n), made known ahead of the walk. -/
theorem run_make_ints (n : Nat) (hn : n ≤ 35184372088832) (w : World) :
    (Instr.makeSlice 23 (.int .i64 0) (.int .i64 n)).run Tryz.prog w = .ok (.slice (some ⟨w.heap.size, 0, none⟩) 0 n) (w.alloc (.cells (madeCells #[.int .i64 0] n) 3)) := by
  obtain ⟨i0, hi, hz0, hz1, hz2⟩ := info_parts int_info
  have hr := run_make (P := Tryz.prog) w 23 3 i0 (.int .i64 0) Tryz.underlying23 hi hz0 .i64 .i64 0 n (by omega) (by omega) (by rw [hz2]; omega) (by omega)
  rw [hz1] at hr
  simp only [Int.toNat_natCast, Int.toNat_zero, Nat.mul_one] at hr
  exact hr

theorem quiet_call {P : Program} {f : FuncId} {args : Array Value} {w : World} {v : Value} (h : Calls P f args w fun e w' => e = .returned v ∧ w = w') : Calls P f args w fun e w' => e = .returned v ∧ w' = w := h.mono fun _ _ ⟨he, hw⟩ => ⟨he, hw.symm⟩

end Go.Proofs.YtihndbkaoejnnaaGreatDoor

namespace Go.Proofs.YtihndbkaoejnnaaGreatDoor
open Go Go.RowKit Go.Proofs.YtihndbkaoejnnaaGreatDoor.P

theorem Fails.nil {k : Int} {w w' : World} {e : Ending} (h : Fails zeroArr k w e w') : e = .returned (.tuple #[zeroArr, .iface 54 (.int .i64 k)]) := h.1

/-- A call tells some array and some error. -/
def GivesSome (w : World) (e : Ending) (w' : World) : Prop := ∃ r ev b, e = .returned (.tuple #[r, ev]) ∧ IsArr w' r b ∧ Below w.heap.size w w'
theorem isArr_zero (w : World) : IsArr w zeroArr Arr.nil := ⟨_, _, rfl, (Owns.nil w 0).isInts, (Owns.nil w 0).isInts⟩
theorem GivesOk.some {a : Arr} {w w' : World} {e : Ending} (h : GivesOk a w e w') : GivesSome w e w' := by
  obtain ⟨r, he, hr, hb⟩ := h
  exact ⟨r, _, a, he, hr, hb⟩
theorem Fails.some {k : Int} {w w' : World} {e : Ending} (h : Fails zeroArr k w e w') : GivesSome w e w' := ⟨_, _, Arr.nil, h.1, isArr_zero w', h.2⟩

end Go.Proofs.YtihndbkaoejnnaaGreatDoor

namespace Go.Proofs.YtihndbkaoejnnaaGreatDoor
open Go Go.RowKit Go.Proofs.YtihndbkaoejnnaaGreatDoor.P

set_option maxHeartbeats 400000 in
theorem fill_any {v : Value} {a : Arr} {w : World} (ha : IsArr w v a) : Calls Tryz.prog 223 #[v] w fun e w' => e = .returned (.int .i64 (fillOf a.ch)) ∧ Below w.heap.size w w' := by
  obtain ⟨A, ca, D, cd, rfl, hs, hd⟩ := ha.open_
  clear ha hs hd
  cases hc : a.ch
  · go_enter Tryz.func223, Tryz.ntmps223
    go_wp2_with fail
    go_ret
    exact ⟨rfl, below_one _ _⟩
  · go_enter Tryz.func223, Tryz.ntmps223
    go_wp2_with fail
    go_ret
    exact ⟨rfl, below_one _ _⟩

/-- What the loops of 'window' keep: p cells have been laid, the indices are b. -/
def WinInv (w : World) (a : Arr) (A : Option Addr) (ca : Nat) (D : Option Addr) (cd g : Nat) (A' : Option Addr) (c' g2 : Nat) (s : List Nat) (T : List Int) (p : Nat) (b : List Nat) (wr : World) : Prop :=
  ∃ A2 c2, Box wr g 25 #[.bool a.ch, .slice A' s.length c', .slice A2 p c2] ∧ Owns wr (w.heap.size + 2) (.slice A2 p c2) p (T.take p) ∧ Owns wr (w.heap.size + 2) (.slice A' s.length c') s.length (ints s) ∧
    ((Value.slice A' s.length c').ownBlock = none ∨ (Value.slice A' s.length c').ownBlock ≠ (Value.slice A2 p c2).ownBlock) ∧
    Row wr g2 (ints b) ∧ (Value.slice A2 p c2).ownBlock ≠ some g2 ∧ (Value.slice A' s.length c').ownBlock ≠ some g2 ∧
    Box wr w.heap.size 25 #[.bool a.ch, .slice A a.sh.length ca, .slice D a.da.length cd] ∧
    Box wr (w.heap.size + 1) 25 #[.bool false, .slice none 0 0, .slice none 0 0] ∧ Below w.heap.size w wr

theorem WinInv.mono {w : World} {a : Arr} {A : Option Addr} {ca : Nat} {D : Option Addr} {cd g : Nat} {A' : Option Addr} {c' g2 : Nat} {s : List Nat} {T : List Int} {p : Nat} {b : List Nat} {wr w' : World} (h : WinInv w a A ca D cd g A' c' g2 s T p b wr) (hb : Below wr.heap.size wr w') :
    WinInv w a A ca D cd g A' c' g2 s T p b w' := by
  obtain ⟨A2, c2, h1, h2, h3, h4, h5, h6, h7, h8, h9, h10⟩ := h
  exact ⟨A2, c2, h1.below hb, h2.below hb, h3.below hb, h4, Box.below h5 hb, h6, h7, h8.below hb, h9.below hb, h10.trans (hb.mono h10.size)⟩
theorem WinInv.put {w : World} {a : Arr} {A : Option Addr} {ca : Nat} {D : Option Addr} {cd g : Nat} {A' : Option Addr} {c' g2 : Nat} {s : List Nat} {T : List Int} {p : Nat} {b : List Nat} {wr : World} (h : WinInv w a A ca D cd g A' c' g2 s T p b wr)
    (h1 : w.heap.size + 2 ≤ g) (h2 : g < g2) (k x : Nat) : WinInv w a A ca D cd g A' c' g2 s T p (b.set k x) (wr.setCell ⟨g2, k, none⟩ (.int .i64 x)) := by
  obtain ⟨A2, c2, i1, i2, i3, i4, i5, i6, i7, i8, i9, i10⟩ := h
  have hr := i5.store k (x : Int)
  rw [show (ints b).set k (x : Int) = ints (b.set k x) by simp [ints, List.map_set]] at hr
  exact ⟨A2, c2, i1.far (p := ⟨g2, k, none⟩) (by simp; omega) _, i2.setCell (p := ⟨g2, k, none⟩) i6 _, i3.setCell (p := ⟨g2, k, none⟩) i7 _, i4, hr, i6, i7, i8.far (p := ⟨g2, k, none⟩) (by simp; omega) _, i9.far (p := ⟨g2, k, none⟩) (by simp; omega) _,
    i10.setCell (p := ⟨g2, k, none⟩) (by simp; omega) _⟩
theorem win_step {w : World} {a : Arr} {A : Option Addr} {ca : Nat} {D : Option Addr} {cd g : Nat} {A' : Option Addr} {c' g2 : Nat} {s : List Nat} {T L : List Int} {p : Nat} {b : List Nat} {wr w4 : World} {o : Obj} {A2 A4 : Option Addr} {c2 c4 : Nat}
    (h1 : Box wr g 25 #[.bool a.ch, .slice A' s.length c', .slice A2 p c2]) (h2 : Owns wr (w.heap.size + 2) (.slice A2 p c2) p (T.take p)) (h3 : Owns wr (w.heap.size + 2) (.slice A' s.length c') s.length (ints s))
    (h4 : (Value.slice A' s.length c').ownBlock = none ∨ (Value.slice A' s.length c').ownBlock ≠ (Value.slice A2 p c2).ownBlock) (h5 : Row wr g2 (ints b)) (h6 : (Value.slice A2 p c2).ownBlock ≠ some g2) (h7 : (Value.slice A' s.length c').ownBlock ≠ some g2)
    (h8 : Box wr w.heap.size 25 #[.bool a.ch, .slice A a.sh.length ca, .slice D a.da.length cd]) (h9 : Box wr (w.heap.size + 1) 25 #[.bool false, .slice none 0 0, .slice none 0 0]) (h10 : Below w.heap.size w wr)
    (hg : w.heap.size + 2 ≤ g) (hg2 : g < g2) (hgrow : (wr.alloc o).grownBy w4 (Value.slice A2 p c2).ownBlock) (hown : Owns w4 (w.heap.size + 2) (.slice A4 (p + 1) c4) (p + 1) L) (hL : L = T.take (p + 1))
    (hat : (Value.slice A4 (p + 1) c4).ownBlock = (Value.slice A2 p c2).ownBlock ∨ (Value.slice A4 (p + 1) c4).ownBlock = some (wr.heap.size + 1)) :
    WinInv w a A ca D cd g A' c' g2 s T (p + 1) b (w4.setCell ⟨g, 2, none⟩ (.slice A4 (p + 1) c4)) := by
  have b4 := Box.grown (w := wr.alloc o) (h1.alloc o) hgrow (h2.ne_box h1 (by decide))
  have hs4 := grownBy_setCell w4 g 2 (.slice A4 (p + 1) c4)
  have h3' : Owns w4 (w.heap.size + 2) (.slice A' s.length c') s.length (ints s) := (h3.alloc o).kept hgrow h4
  have hr4 := Box.grown (w := wr.alloc o) (Box.alloc h5 o) hgrow h6
  have hl2 := Box.lt h5
  subst hL
  refine ⟨A4, c4, b4.store 2 _, hown.setCell (p := ⟨g, 2, none⟩) (hown.ne_box b4 (by decide)) _, h3'.setCell (p := ⟨g, 2, none⟩) (h3'.ne_box b4 (by decide)) _, ?_, Box.grown hr4 hs4 (by simp; omega), ?_, h7,
    (Box.grown (w := wr.alloc o) (h8.alloc o) hgrow (h2.ne_low (by omega))).grown hs4 (by simp; omega), (Box.grown (w := wr.alloc o) (h9.alloc o) hgrow (h2.ne_low (by omega))).grown hs4 (by simp; omega), ?_⟩
  · rcases h4 with h4 | h4
    · exact .inl h4
    · right
      rcases hat with hat | hat
      · rw [hat]; exact h4
      · rw [hat]
        intro e
        have := (h3.lt e).2
        omega
  · rcases hat with hat | hat
    · rw [hat]; exact h6
    · rw [hat]
      intro e
      injection e with e
      omega
  · exact ((h10.alloc h10.size o).grown hgrow (by have := h10.size; simp; omega) (fun j e => by have := (h2.lt e).1; omega)).setCell (p := ⟨g, 2, none⟩) (by simp; omega) _

def winB (t : List Nat) (js : List Int) (k : Nat) : Bool := decide (WinIn t js k)
theorem winB_zero (t : List Nat) (js : List Int) : winB t js 0 = true := by unfold winB; rw [decide_eq_true (WinIn.zero t js)]
theorem winB_yes {t : List Nat} {js : List Int} {k : Nat} (h : winB t js k = true) (h1 : 0 ≤ js.getD k 0) (h2 : js.getD k 0 < (t.getD k 0 : Int)) : winB t js (k + 1) = true := by
  unfold winB at *
  rw [decide_eq_true_iff] at *
  exact (winIn_succ t js k).2 ⟨h, h1, h2⟩
theorem winB_no {t : List Nat} {js : List Int} {k : Nat} (h : winB t js k = false ∨ js.getD k 0 < 0 ∨ (t.getD k 0 : Int) ≤ js.getD k 0) : winB t js (k + 1) = false := by
  unfold winB at h ⊢
  rw [decide_eq_false_iff_not, winIn_succ]
  rintro ⟨h1, h2, h3⟩
  rcases h with h | h | h
  · exact (of_decide_eq_false h) h1
  · omega
  · omega

set_option maxRecDepth 100000 in
set_option maxHeartbeats 4000000 in
theorem window_new {v vf vs : Value} {a : Arr} {t s : List Nat} {fr : List Int} {w : World} (ha : IsArr w v a) (hf : IsInts w vf fr) (hs : IsInts w vs (ints s)) (h : Ok a t) (hg : GoodSh s)
    (hl : s.length = t.length) (hfl : fr.length = t.length) (hfb : ∀ (k : Nat) (f : Int), fr[k]? = some f → -8192 ≤ f ∧ f ≤ 8192) :
    Calls Tryz.prog 220 #[v, vf, vs] w (GivesN (win fr s a) w) := by
  obtain ⟨A, ca, D, cd, rfl, hsh, hd⟩ := ha.open_
  obtain ⟨A0, ca0, eA, a1, a2, a3, a0, a4⟩ := id hsh
  cases eA
  obtain ⟨D0, cd0, eD, d1, d2, d3, d0, d4⟩ := id hd
  cases eD
  have hsh0 := Lib.hid (show Elems w A a.sh from a4)
  have D4 := Lib.hid (show Elems w D a.da from d4)
  have ha0 := Lib.hid ha
  clear a4 d4 a0 d0 hsh hd
  obtain ⟨S, cs, rfl, s1, s2, s3, ES, HS0⟩ := hs.open_
  obtain ⟨Fv, cf, rfl, f1, f2, f3, EF, HF0⟩ := hf.open_
  simp only [length_ints] at s1 s3 HS0 ⊢
  have hN := hg.2.2
  have HG := Lib.hid hg
  obtain ⟨N, hNN⟩ : ∃ N, N = prod s := ⟨_, rfl⟩
  have hmk := run_make_ints N (by omega)
  have hmk2 := run_make_list s.length (by omega)
  have hct := fun W hb => count_ok (.slice S s.length cs) s W (HS0.mono (w' := W) hb) hg
  rw [← hNN] at hct hN
  have HN := Lib.hid hNN
  have HCT := Lib.hid hct
  have ES' := Lib.hid ES
  have EF' := Lib.hid EF
  have HL := Lib.hid hl
  have HFL := Lib.hid hfl
  have HFB := Lib.hid hfb
  have H := Lib.hid h
  clear hg hNN hct ES EF hfl hfb h hs hf ha hl
  go_enter Tryz.func220, Tryz.ntmps220
  go_wp2_with fail
  refine (HCT.out _ (below_two _ _ _)).mono ?_
  rintro e w1 ⟨rfl, rfl⟩
  have bA : Box ((w.alloc (.cells #[.bool a.ch, .slice A a.sh.length ca, .slice D a.da.length cd] 25)).alloc (.cells #[.bool false, .slice none 0 0, .slice none 0 0] 25)) w.heap.size 25 #[.bool a.ch, .slice A a.sh.length ca, .slice D a.da.length cd] := (Box.new _ _ _).alloc _
  have bR : Box ((w.alloc (.cells #[.bool a.ch, .slice A a.sh.length ca, .slice D a.da.length cd] 25)).alloc (.cells #[.bool false, .slice none 0 0, .slice none 0 0] 25)) (w.heap.size + 1) 25 #[.bool false, .slice none 0 0, .slice none 0 0] := by simpa using Box.new (w.alloc _) _ _
  obtain ⟨t0, t1, t2⟩ := bA.three
  go_wp2_with fail
  refine wp_region_open (fun i v lo hi w' => match i with
    | 0 => v = .pointer (some ⟨w.heap.size, 0, none⟩)
    | 1 => v = .bool a.ch
    | 2 => v = .slice S s.length cs
    | 3 => ∃ A' c', v = .slice A' s.length c' ∧ Owns w' lo v s.length (ints s) ∧ (∀ b, v.ownBlock = some b → b < hi) ∧ w.heap.size + 2 ≤ lo
    | 4 => v = .int .i64 N
    | 5 => ∃ m, v = .slice (some ⟨m, 0, none⟩) 0 N ∧ Owns w' lo v 0 [] ∧ m < hi ∧ w.heap.size + 2 ≤ lo
    | 6 => ∃ A' c' m, v = .agg #[.bool a.ch, .slice A' s.length c', .slice (some ⟨m, 0, none⟩) 0 N] ∧ Owns w' (w.heap.size + 2) (.slice A' s.length c') s.length (ints s) ∧ Owns w' (w.heap.size + 2) (.slice (some ⟨m, 0, none⟩) 0 N) 0 [] ∧ (Value.slice A' s.length c').ownBlock ≠ some m
    | 7 => ∃ g, v = .pointer (some ⟨g, 0, none⟩) ∧ Box w' g 25 #[.bool false, .slice none 0 0, .slice none 0 0] ∧ w.heap.size + 2 ≤ g
    | _ => True) (by kernel_rfl) (by kernel_rfl) (by kernel_rfl) ?hV ?step ?last
  case hV =>
    intro i v lo hi w1 w2 h hb
    match i, h with
    | 0, h => exact h
    | 1, h => exact h
    | 2, h => exact h
    | 3, ⟨A', c', e, ho, hl, hz⟩ => exact ⟨A', c', e, ho.below hb, hl, hz⟩
    | 4, h => exact h
    | 5, ⟨m, e, ho, hl, hz⟩ => exact ⟨m, e, ho.below hb, hl, hz⟩
    | 6, ⟨A', c', m, e, ho, ho', hne⟩ => exact ⟨A', c', m, e, ho.below hb, ho'.below hb, hne⟩
    | 7, ⟨g, e, hx, hz⟩ => exact ⟨g, e, hx.below hb, hz⟩
    | i + 8, _ => trivial
  case step =>
    simp only [putAll, Act.put, List.setIfInBounds_toArray, List.set_cons_zero, List.set_cons_succ, Nat.reduceAdd, Nat.zero_add]
    intro i o ho hi uu lo up wr hbr hd hj K hK
    obtain ⟨hcw, hfw⟩ := bcell hbr
    match i, ho with
    | 0, ho =>
      simp only [List.getElem?_cons_zero, Option.some.injEq] at ho
      subst ho
      first | (simp [Region.binds] at hd; simp only [hd] at hK) | skip
      refine wpOp_step rfl fun K' hK' => ?_
      go_simp
      exact hK' _ _ (hK _ _ (Below.refl _ _) rfl)
    | 1, ho =>
      simp only [List.getElem?_cons_succ, List.getElem?_cons_zero, Option.some.injEq] at ho
      subst ho
      first | (simp [Region.binds] at hd; simp only [hd] at hK) | skip
      refine wpOp_step rfl fun K' hK' => ?_
      go_simp
      exact hK' _ _ (hK _ _ (Below.refl _ _) rfl)
    | 2, ho =>
      simp only [List.getElem?_cons_succ, List.getElem?_cons_zero, Option.some.injEq] at ho
      subst ho
      first | (simp [Region.binds] at hd; simp only [hd] at hK) | skip
      refine wpOp_step rfl fun K' hK' => ?_
      go_simp
      exact hK' _ _ (hK _ _ (Below.refl _ _) rfl)
    | 3, ho =>
      simp only [List.getElem?_cons_succ, List.getElem?_cons_zero, Option.some.injEq] at ho
      subst ho
      first | (simp [Region.binds] at hd; simp only [hd] at hK) | skip
      refine wpOp_step rfl fun K' hK' => ?_
      go_simp
      refine (clone_any _ (ints s) _ (HS0.mono ((below_two w _ _).trans (hbr.mono (by simp <;> omega))))).mono ?_
      rintro e w1 ⟨A1, c1, rfl, ho, hb1⟩
      try simp only [length_ints] at ho hK' ⊢
      have hz := hbr.size
      try simp only [World.size_alloc] at hz
      exact hK' _ _ (hK _ _ hb1 ⟨A1, c1, rfl, ho, fun b e => (ho.lt e).2, by omega⟩)
    | 4, ho =>
      simp only [List.getElem?_cons_succ, List.getElem?_cons_zero, Option.some.injEq] at ho
      subst ho
      first | (simp [Region.binds] at hd; simp only [hd] at hK) | skip
      refine wpOp_step rfl fun K' hK' => ?_
      go_simp
      exact hK' _ _ (hK _ _ (Below.refl _ _) rfl)
    | 5, ho =>
      simp only [List.getElem?_cons_succ, List.getElem?_cons_zero, Option.some.injEq] at ho
      subst ho
      first | (simp [Region.binds] at hd; simp only [hd] at hK) | skip
      have hz := hbr.size
      try simp only [World.size_alloc] at hz
      refine wpOp_step rfl fun K' hK' => ?_
      go_simp
      exact hK' _ _ (hK _ _ (below_one _ _) ⟨_, rfl, ⟨World.ownsRow_made _ _ _ (Nat.le_refl _) (by unfold maxLen; omega) (by simp [size_madeCells]), by omega⟩, by simp, by omega⟩)
    | 6, ho =>
      simp only [List.getElem?_cons_succ, List.getElem?_cons_zero, Option.some.injEq] at ho
      subst ho
      have h1 : uu 1 = .bool a.ch := hd ⟨1, .data⟩ (by simp) rfl
      obtain ⟨A', c', es, os, ls, zs⟩ := hd ⟨3, .data⟩ (by simp) rfl
      obtain ⟨m, ed, od, ld, zd⟩ := hd ⟨5, .data⟩ (by simp) rfl
      have hdj := hj ⟨3, .data⟩ (by simp) ⟨5, .data⟩ (by simp) rfl rfl (by simp)
      dsimp only at os ls zs od ld zd hdj
      simp only [h1, es, ed] at hK
      rw [es] at os ls
      rw [ed] at od
      have hne : (Value.slice A' s.length c').ownBlock ≠ some m := fun e => by have h1 := (os.lt e).1; have h2 := ls m e; have h3 := (od.lt (k := m) rfl).1; omega
      refine wpOp_step rfl fun K' hK' => ?_
      go_simp
      exact hK' _ _ (hK _ _ (Below.refl _ _) ⟨A', c', m, rfl, os.base (by omega), od.base (by omega), hne⟩)
    | 7, ho =>
      simp only [List.getElem?_cons_succ, List.getElem?_cons_zero, Option.some.injEq] at ho
      subst ho
      first | (simp [Region.binds] at hd; simp only [hd] at hK) | skip
      have hz := hbr.size
      try simp only [World.size_alloc] at hz
      refine wpOp_step rfl fun K' hK' => ?_
      go_simp
      exact hK' _ _ (hK _ _ (below_one _ _) ⟨_, rfl, Box.new _ _ _, by omega⟩)
    | i + 8, ho => simp at hi; omega
  case last =>
    simp only [putAll, Act.put, List.setIfInBounds_toArray, List.set_cons_zero, List.set_cons_succ, Nat.reduceAdd, Nat.zero_add]
    intro uu wr lo up hbr hv hj
    obtain ⟨A', c', m, e9, o4, o8, hne⟩ := hv 6 (by simp)
    obtain ⟨g, e10, bg, hg⟩ := hv 7 (by simp)
    obtain ⟨g0, g1, g2⟩ := bg.three
    have gf := bg.frozen
    simp only [e9, e10]
    clear hv hj e9 e10
    refine wpOp_step rfl fun K' hK' => ?_
    go_simp
    refine hK' _ _ ?_
    have hbw := (below_two w _ _).trans (hbr.mono (by simp <;> omega))
    have hgg := grownBy_three wr g (.bool a.ch) (.slice A' s.length c') (.slice (some ⟨m, 0, none⟩) 0 N)
    have i1 := ((bg.store 0 (.bool a.ch)).store 1 (.slice A' s.length c')).store 2 (.slice (some ⟨m, 0, none⟩) 0 N)
    simp only [List.setIfInBounds_toArray, List.set_cons_zero, List.set_cons_succ] at i1
    have i3 := o4.kept hgg (.inr (o4.ne_box bg (by decide)))
    have i2 := o8.kept hgg (.inr (o8.ne_box bg (by decide)))
    have i4 := Box.grown (Box.below bA hbr) hgg (by simp; omega)
    have i5 := Box.grown (Box.below bR hbr) hgg (by simp; omega)
    have iw := hbw.grown hgg hbw.size (fun j e => by cases e; omega)
    have hgl : g < (((wr.setCell ⟨g, 0, none⟩ (.bool a.ch)).setCell ⟨g, 1, none⟩ (.slice A' s.length c')).setCell ⟨g, 2, none⟩ (.slice (some ⟨m, 0, none⟩) 0 N)).heap.size := i1.lt
    clear hbr hgg o4 o8 bg g0 g1 g2 gf hbw hK' bA bR t0 t1 t2 hmk
    generalize (((wr.setCell ⟨g, 0, none⟩ (.bool a.ch)).setCell ⟨g, 1, none⟩ (.slice A' s.length c')).setCell ⟨g, 2, none⟩ (.slice (some ⟨m, 0, none⟩) 0 N)) = W2 at i3 i2 i4 i5 i1 iw hgl ⊢
    have hml : m < W2.heap.size := by have := (i2.lt (k := m) rfl).2; exact this
    have hiw := iw.size
    obtain ⟨g3, hg3⟩ : ∃ g3, g3 = W2.heap.size := ⟨_, rfl⟩
    have hrow := Row.made W2 s.length
    have hinv : WinInv w a A ca D cd g A' c' g3 s (win fr s a).da 0 (List.replicate s.length 0) (W2.alloc (.cells (madeCells #[.int .i64 0] s.length) 3)) :=
      ⟨_, _, i1.alloc _, by rw [List.take_zero]; exact i2.alloc _, i3.alloc _, .inr hne, by rw [hg3, show ints (List.replicate s.length 0) = List.replicate s.length 0 by simp [ints]]; exact hrow,
        (fun e => by have := (i2.lt e).2; omega), (fun e => by have := (i3.lt e).2; omega), i4.alloc _, i5.alloc _, iw.alloc iw.size _⟩
    have hwl := win_ok H.out HG.out HL.out HFL.out
    have hTl : (win fr s a).da.length = N := by rw [hwl.len, HN.out]
    have HTL := Lib.hid hTl
    have hord : w.heap.size + 2 ≤ g ∧ g < g3 := ⟨by omega, by omega⟩
    have HO := Lib.hid hord
    have Hinv := Lib.hid hinv
    have hs6 : s.length ≤ 6 := HG.out.1
    have l0 : ∀ p b wx, WinInv w a A ca D cd g A' c' g3 s (win fr s a).da p b wx → wx.cell? ⟨w.heap.size, 0, none⟩ = some (.bool a.ch) ∧ wx.cell? ⟨w.heap.size, 1, none⟩ = some (.slice A a.sh.length ca) ∧ wx.cell? ⟨w.heap.size, 2, none⟩ = some (.slice D a.da.length cd) := by
      rintro p b wx ⟨A2, c2, h1, h2, h3, h4, h5, h6, h7, h8, h9, h10⟩
      exact h8.three
    have L0 := Lib.hid l0
    clear i1 i2 i3 i4 i5 iw hrow hinv hwl hTl l0 hne hg hgl hml hiw hord
    go_wp2_with fail
    rw [← hg3]
    clear hg3
    go_loopw [34] (fun q wx => ∃ (p : Nat) (b : List Nat), p ≤ N ∧ q = .int .i64 p ∧ AtCell s p b ∧ WinInv w a A ca D cd g A' c' g3 s (win fr s a).da p b wx) (fun q _ => N - (intOf q).toNat)
    case atStart => exact ⟨0, _, Nat.zero_le _, rfl, AtCell.zero s, Hinv.out⟩
    case round =>
      clear Hinv
      obtain ⟨p, b, hp, rfl, hat, hi⟩ := hrel
      rcases Nat.lt_or_ge p N with hlt | hge
      · have hps : p < prod s := by rw [← HN.out]; exact hlt
        have HPS := Lib.hid hps
        have HB := Lib.hid (hat.2 hps)
        have Hi := Lib.hid hi
        obtain ⟨js, hjs⟩ : ∃ js, js = adds (coords s p) fr := ⟨_, rfl⟩
        have hjl : js.length = t.length := by rw [hjs, adds_length, length_coords, HL.out, HFL.out, Nat.min_self]
        have HJ := Lib.hid hjs
        have HJL := Lib.hid hjl
        clear hps hat hi hjs hjl
        go_wp2_with fail
        obtain ⟨wo, rfl⟩ : ∃ wo : World, wo = wr := ⟨_, rfl⟩
        go_loopw [11, 12, 38] (fun P I i wx => ∃ (k : Nat) (Pz : Int), k ≤ s.length ∧ i = .int .i64 k ∧ P = .int .i64 Pz ∧ I = .bool (winB t js k) ∧ WinPlace t js k Pz ∧ WinInv w a A ca D cd g A' c' g3 s (win fr s a).da p b wx) (fun _ _ i _ => s.length - (intOf i).toNat)
        case atStart => exact ⟨0, 0, Nat.zero_le _, rfl, rfl, by rw [winB_zero], WinPlace.zero _ _, Hi.out⟩
        case round =>
          obtain ⟨k, Pz, hk, rfl, rfl, rfl, hpl, hi⟩ := hrel
          obtain ⟨c0, c1, c2⟩ := L0.out _ _ _ hi
          have Hi2 := Lib.hid hi
          obtain ⟨A2, c2', h1, h2, h3, h4, h5, h6, h7, h8, h9, h10⟩ := hi
          rcases Nat.lt_or_ge k s.length with hkl | hkg
          · have hkb : k < b.length := by rw [HB.out, length_coords]; exact hkl
            have hcb := h5.at_ (ints_get hkb)
            rw [HB.out] at hcb
            obtain ⟨af, f, rfl, hf, haf, hcf⟩ := Elems.later EF'.out h10 (k := k) (by rw [HFL.out, ← HL.out]; exact hkl)
            obtain ⟨f0, f1⟩ := HFB.out k f hf
            have hsh : a.sh.length = t.length := by rw [H.out.sh, length_ints]
            obtain ⟨ae, y, rfl, hy, hae, hcy⟩ := Elems.later (hsh0.out) h10 (k := k) (by rw [hsh, ← HL.out]; exact hkl)
            rw [H.out.sh] at hy
            obtain ⟨rfl, hkt⟩ := ints_getD hy
            have hkc : k < (coords s p).length := by rw [length_coords]; exact hkl
            have hX4 : (coords s p).getD k 0 ≤ 4096 := by
              have h11 := coords_lt HPS.out hkl
              have h12 : s.getD k 0 ≤ 4096 := by rw [getD_lt hkl]; exact HG.out.2.1 _ (List.getElem_mem _)
              omega
            have hY4 : t.getD k 0 ≤ 4096 := by rw [getD_lt hkt]; exact H.out.good.2.1 _ (List.getElem_mem _)
            have hjk : js.getD k 0 = (((coords s p).getD k 0 : Nat) : Int) + f := by
              rw [HJ.out, adds_get hkc (by rw [HFL.out, ← HL.out]; exact hkl)]
              congr 1
              rw [List.getD_eq_getElem?_getD, hf]; rfl
            have hstep := WinPlace.step H.out.good HJL.out hkt hpl
            have hwy := @winB_yes t js k
            have hwn := @winB_no t js k
            rw [hjk] at hstep hwy hwn
            obtain ⟨X, hX⟩ : ∃ X, X = (coords s p).getD k 0 := ⟨_, rfl⟩
            obtain ⟨Y, hY⟩ : ∃ Y, Y = t.getD k 0 := ⟨_, rfl⟩
            rw [← hX] at hcb hX4 hstep hwy hwn
            rw [← hY] at hcy hY4 hstep hwy hwn
            have HS' := Lib.hid hstep
            have HWY := Lib.hid hwy
            have HWN := Lib.hid hwn
            have hkA : k < a.sh.length := by rw [hsh]; exact hkt
            have hkF : k < fr.length := by rw [HFL.out, ← HL.out]; exact hkl
            clear hf hy hX hY hstep hwy hwn hjk hpl h1 h2 h3 h4 h5 h6 h7 h8 h9 h10 hkc hkt hsh hkb
            cases hwb : winB t js k
            · have hn := Lib.hid (HWN.out (.inl hwb))
              clear hwb
              go_wp2_with fail
              go_roundw
              case rel => exact ⟨k + 1, _, by omega, by go_num, rfl, by rw [hn.out], HS'.out, Hi2.out⟩
              case measure => simp [intOf]; omega
            · rcases Int.lt_or_le ((X : Int) + f) 0 with hj0 | hj0
              · have hn := Lib.hid (HWN.out (.inr (.inl hj0)))
                have d1 : decide ((0 : Int) ≤ (X : Int) + f) = false := by simp; omega
                clear hwb
                go_wp2_with fail
                go_roundw
                case rel => exact ⟨k + 1, _, by omega, by go_num, rfl, by rw [hn.out], HS'.out, Hi2.out⟩
                case measure => simp [intOf]; omega
              · have d1 : decide ((0 : Int) ≤ (X : Int) + f) = true := by simp; omega
                rcases Int.lt_or_le ((X : Int) + f) (Y : Int) with hj1 | hj1
                · have hn := Lib.hid (HWY.out hwb hj0 hj1)
                  have d2 : decide ((X : Int) + f < (Y : Int)) = true := by simp; omega
                  clear hwb
                  go_wp2_with fail
                  go_roundw
                  case rel => exact ⟨k + 1, _, by omega, by go_num, rfl, by rw [hn.out], HS'.out, Hi2.out⟩
                  case measure => simp [intOf]; omega
                · have hn := Lib.hid (HWN.out (.inr (.inr hj1)))
                  have d2 : decide ((X : Int) + f < (Y : Int)) = false := by simp; omega
                  clear hwb
                  go_wp2_with fail
                  go_roundw
                  case rel => exact ⟨k + 1, _, by omega, by go_num, rfl, by rw [hn.out], HS'.out, Hi2.out⟩
                  case measure => simp [intOf]; omega
          · have hke : k = t.length := by rw [← HL.out]; omega
            subst hke
            have hbw1 := h10
            have ia : IsArr wr (.agg #[.bool a.ch, .slice A a.sh.length ca, .slice D a.da.length cd]) a := ha0.out.mono h10
            have HPL := Lib.hid hpl
            clear hpl h1 h2 h3 h4 h5 h6 h7 h8 h9
            go_wp2_with fail
            refine (fill_any ia).mono ?_
            rintro e w1 ⟨rfl, hb1⟩
            have Hi3 := Lib.hid (Hi2.out.mono hb1)
            obtain ⟨c0, c1, c2⟩ := L0.out _ _ _ Hi3.out
            clear hb1 ia hbw1 h10
            have key : ∀ x : Int, (win fr s a).da[p]? = some x → (winB t js t.length = true → ∃ q, q < a.da.length ∧ Pz = (q : Nat) ∧ a.da[q]? = some x) ∧ (winB t js t.length = false → x = fillOf a.ch) := by
              intro x hx
              refine ⟨fun hw => ?_, fun hw => ?_⟩
              · have hw' : WinIn t js t.length := by unfold winB at hw; simpa using hw
                have hwi := win_in (fr := fr) H.out HPS.out (by rw [← HJ.out]; exact HJL.out) (by rw [← HJ.out]; exact hw')
                rw [← HJ.out] at hwi
                refine ⟨_, hwi.2, HPL.out.all HJL.out hw', ?_⟩
                rw [← hwi.1]; exact hx
              · have hw' : ¬ WinIn t js t.length := by unfold winB at hw; simpa using hw
                have hwo := win_out (fr := fr) H.out HPS.out (by rw [← HJ.out]; exact hw')
                rw [hwo] at hx
                injection hx with hx
                exact hx.symm
            obtain ⟨x, hx⟩ : ∃ x, (win fr s a).da[p]? = some x := ⟨_, List.getElem?_eq_getElem (by rw [HTL.out]; exact hlt)⟩
            obtain ⟨ky, kn⟩ := key x hx
            have HKY := Lib.hid ky
            have HKN := Lib.hid kn
            have HX := Lib.hid hx
            clear key hx ky kn
            have hto : ∀ r : World, True := fun _ => trivial
            clear hto
            cases hwb : winB t js t.length
            · obtain rfl : x = fillOf a.ch := HKN.out hwb
              have fin : True := trivial
              clear fin
              clear HKY HKN hwb
              obtain ⟨A2, c2', h1, h2, h3, h4, h5, h6, h7, h8, h9, h10⟩ := Hi3.out
              obtain ⟨g0, g1, g2⟩ := h1.three
              have gf := h1.frozen
              have gl := h1.lt
              have hsz := h10.size
              obtain ⟨o1, o2⟩ := HO.out
              go_wp2_with (at_builtin; refine wpList_append_ints _ rfl rfl _ _ rfl (w.heap.size + 2) p _ ((win fr s a).da.take p) rfl (h2.alloc _) (some ⟨w1.heap.size, 0, none⟩) 1 1 [(fillOf a.ch)] rfl (by simp) (elems_new w1 (fillOf a.ch)) rfl (by omega) (by simp; omega) ?_; intro A4 c4 w4 hown4 hgrow4 hat4; have b4 := Box.grown (w := w1.alloc _) (h1.alloc _) hgrow4 (h2.ne_box h1 (by decide)); have hc4 := b4.three.2.2; have hf4 := b4.frozen 2)
              have hfin := win_step (o := .cells #[.int .i64 (fillOf a.ch)] 3) h1 h2 h3 h4 h5 h6 h7 h8 h9 h10 o1 o2 hgrow4 hown4 (take_at HX.out) (by have h := hat4; change (Value.slice A4 (p + 1) c4).ownBlock = (Value.slice A2 p c2').ownBlock ∨ _ at h; simpa using h)
              obtain ⟨w5, hw5⟩ : ∃ w5 : World, w5 = w4.setCell ⟨g, 2, none⟩ (.slice A4 (p + 1) c4) := ⟨_, rfl⟩
              rw [← hw5] at hfin
              have Hfin := Lib.hid hfin
              clear h1 h2 h3 h4 h5 h6 h7 h8 h9 h10 g0 g1 g2 gf gl hsz o1 o2 hown4 hgrow4 hat4 hfin c0 c1 c2 b4 hc4 hf4
              go_wp2_with fail
              rw [← hw5]
              clear hw5
              go_loopw [17] (fun q wx => ∃ (k : Nat) (mm : Int) (b' : List Nat), (k : Int) = mm + 1 ∧ k ≤ s.length ∧ q = .int .i64 mm ∧ Odo s (coords s p) k b' ∧ WinInv w a A ca D cd g A' c' g3 s (win fr s a).da (p + 1) b' wx) (fun q _ => (intOf q + 1).toNat)
              case atStart => exact ⟨s.length, _, b, by omega, Nat.le_refl _, rfl, by rw [HB.out]; exact Odo.start (coords_inside HPS.out), Hfin.out⟩
              case round =>
                obtain ⟨k, mm, b', hkm, hk, rfl, ho, hi⟩ := hrel
                have hcin := coords_inside HPS.out
                have hbl' := ho.length hcin hk
                rcases k with _ | k
                case succ =>
                  obtain rfl : mm = k := by omega
                  have Hi3 := Lib.hid hi
                  obtain ⟨A2, c2', h1, h2, h3, h4, h5, h6, h7, h8, h9, h10⟩ := hi
                  have hkb : k < b'.length := by omega
                  have hget := ho.get hcin (by omega)
                  have hc1 := h5.at_ (ints_get hkb)
                  rw [List.getD_eq_getElem?_getD, hget, Option.getD_some] at hc1
                  have hclt := coords_lt HPS.out (show k < s.length by omega)
                  obtain ⟨ae, y, rfl, hy, hae, hcy⟩ := Elems.later ES'.out h10 (k := k) (by rw [length_ints]; omega)
                  obtain ⟨rfl, -⟩ := ints_getD hy
                  obtain ⟨X, hX⟩ : ∃ X, X = (coords s p).getD k 0 := ⟨_, rfl⟩
                  obtain ⟨Y, hY⟩ : ∃ Y, Y = s.getD k 0 := ⟨_, rfl⟩
                  have hY4 : Y ≤ 4096 := by
                    rw [hY, getD_lt (by omega)]
                    exact HG.out.2.1 _ (List.getElem_mem _)
                  rw [← hX] at hc1 hclt
                  rw [← hY] at hcy hclt
                  have hfz := Box.frozen h5 k
                  have hlt2 := Box.lt h5
                  obtain ⟨o1, o2⟩ := HO.out
                  have hp1 := Hi3.out.put o1 o2 k (X + 1)
                  have hcys : (wr.setCell ⟨g3, k, none⟩ (.int .i64 ((X + 1 : Nat) : Int))).cell? (ae.add k) = some (.int .i64 (Y : Nat)) := cellS hcy (by rw [addr_block_add]; simp; omega)
                  have hgs : (wr.setCell ⟨g3, k, none⟩ (.int .i64 ((X + 1 : Nat) : Int))).cell? ⟨g3, k, none⟩ = some (.int .i64 ((X + 1 : Nat) : Int)) := by
                    obtain ⟨_, _, -, -, -, -, q5, -⟩ := hp1
                    have := q5.at_ (ints_get (by rw [List.length_set]; exact hkb))
                    rwa [getD_set hkb] at this
                  have hfs : (wr.setCell ⟨g3, k, none⟩ (.int .i64 ((X + 1 : Nat) : Int))).frozen? ⟨g3, k, none⟩ = false := by
                    obtain ⟨_, _, -, -, -, -, q5, -⟩ := hp1
                    exact Box.frozen q5 k
                  have hfin0 : ∀ n, WinInv w a A ca D cd g A' c' g3 s (win fr s a).da (p + 1) (b'.set k 0) (((wr.setCell ⟨g3, k, none⟩ (.int .i64 ((X + 1 : Nat) : Int))).drewN n).setCell ⟨g3, k, none⟩ (.int .i64 0)) := fun n => by
                    have := (hp1.mono (below_draws _ _ n)).put o1 o2 k 0
                    rwa [List.set_set] at this
                  have hls : g3 < (wr.setCell ⟨g3, k, none⟩ (.int .i64 ((X + 1 : Nat) : Int))).heap.size := by simpa using hlt2
                  have HX' := Lib.hid hX
                  have HY' := Lib.hid hY
                  have HO' := Lib.hid ho
                  have Hp1 := Lib.hid hp1
                  have HF0 := Lib.hid hfin0
                  have hcast : ((X + 1 : Nat) : Int) = (X : Int) + 1 := by simp
                  rw [hcast] at hcys hgs hfs hls
                  clear hy hget hX hY ho hp1 hfin0 h1 h2 h3 h4 h5 h6 h7 h8 h9 h10 hcin hkm hkb hbl' hcast
                  rcases Nat.lt_or_ge (X + 1) Y with hxy | hxy
                  · have hd : decide ((X : Int) + 1 < (Y : Int)) = true := by simp; omega
                    go_wp2_with fail
                    go_quiet (fail)
                    all_goals go_wp2_with fail
                    go_roundw
                    case rel => exact ⟨p + 1, b'.set k (X + 1), by omega, by go_num, by rw [HX'.out]; exact AtCell.next HPS.out (by omega) HO'.out (by rw [← HX'.out, ← HY'.out]; exact hxy), Hp1.out.mono (below_draws _ _ _)⟩
                    case measure => simp [intOf]; omega
                  · have hd : decide ((X : Int) + 1 < (Y : Int)) = false := by simp; omega
                    go_wp2_with fail
                    go_quiet (fail)
                    all_goals go_wp2_with fail
                    go_roundw
                    case rel => exact ⟨k, (k : Int) - 1, b'.set k 0, by omega, by omega, rfl, HO'.out.step (coords_inside HPS.out) (by omega) (by rw [← HX'.out, ← HY'.out]; exact hxy), HF0.out _⟩
                    case measure => simp [intOf]
                · obtain rfl : mm = -1 := by omega
                  have Hi3 := Lib.hid hi
                  have HO' := Lib.hid ho
                  clear hi ho hkm hcin hbl'
                  go_wp2_with fail
                  go_roundw
                  case rel => exact ⟨p + 1, b', by omega, by go_num, AtCell.last HPS.out HO'.out, Hi3.out⟩
                  case measure => simp [intOf]; omega
            · obtain ⟨q, hq, rfl, hqx⟩ := HKY.out hwb
              have h10' : Below w.heap.size w w1 := by obtain ⟨_, _, _, _, _, _, _, _, _, _, _, r10⟩ := Hi3.out; exact r10
              obtain ⟨ad, x', rfl, hx', hal, hcx⟩ := Elems.later D4.out h10' hq
              obtain rfl : x = x' := by rw [hqx] at hx'; injection hx' with hx'
              clear hqx hx' h10'
              clear HKY HKN hwb
              obtain ⟨A2, c2', h1, h2, h3, h4, h5, h6, h7, h8, h9, h10⟩ := Hi3.out
              obtain ⟨g0, g1, g2⟩ := h1.three
              have gf := h1.frozen
              have gl := h1.lt
              have hsz := h10.size
              obtain ⟨o1, o2⟩ := HO.out
              go_wp2_with (at_builtin; refine wpList_append_ints _ rfl rfl _ _ rfl (w.heap.size + 2) p _ ((win fr s a).da.take p) rfl (h2.alloc _) (some ⟨w1.heap.size, 0, none⟩) 1 1 [x] rfl (by simp) (elems_new w1 x) rfl (by omega) (by simp; omega) ?_; intro A4 c4 w4 hown4 hgrow4 hat4; have b4 := Box.grown (w := w1.alloc _) (h1.alloc _) hgrow4 (h2.ne_box h1 (by decide)); have hc4 := b4.three.2.2; have hf4 := b4.frozen 2)
              have hfin := win_step (o := .cells #[.int .i64 x] 3) h1 h2 h3 h4 h5 h6 h7 h8 h9 h10 o1 o2 hgrow4 hown4 (take_at HX.out) (by have h := hat4; change (Value.slice A4 (p + 1) c4).ownBlock = (Value.slice A2 p c2').ownBlock ∨ _ at h; simpa using h)
              obtain ⟨w5, hw5⟩ : ∃ w5 : World, w5 = w4.setCell ⟨g, 2, none⟩ (.slice A4 (p + 1) c4) := ⟨_, rfl⟩
              rw [← hw5] at hfin
              have Hfin := Lib.hid hfin
              clear h1 h2 h3 h4 h5 h6 h7 h8 h9 h10 g0 g1 g2 gf gl hsz o1 o2 hown4 hgrow4 hat4 hfin c0 c1 c2 b4 hc4 hf4
              go_wp2_with fail
              rw [← hw5]
              clear hw5
              go_loopw [17] (fun q wx => ∃ (k : Nat) (mm : Int) (b' : List Nat), (k : Int) = mm + 1 ∧ k ≤ s.length ∧ q = .int .i64 mm ∧ Odo s (coords s p) k b' ∧ WinInv w a A ca (some ad) cd g A' c' g3 s (win fr s a).da (p + 1) b' wx) (fun q _ => (intOf q + 1).toNat)
              case atStart => exact ⟨s.length, _, b, by omega, Nat.le_refl _, rfl, by rw [HB.out]; exact Odo.start (coords_inside HPS.out), Hfin.out⟩
              case round =>
                obtain ⟨k, mm, b', hkm, hk, rfl, ho, hi⟩ := hrel
                have hcin := coords_inside HPS.out
                have hbl' := ho.length hcin hk
                rcases k with _ | k
                case succ =>
                  obtain rfl : mm = k := by omega
                  have Hi3 := Lib.hid hi
                  obtain ⟨A2, c2', h1, h2, h3, h4, h5, h6, h7, h8, h9, h10⟩ := hi
                  have hkb : k < b'.length := by omega
                  have hget := ho.get hcin (by omega)
                  have hc1 := h5.at_ (ints_get hkb)
                  rw [List.getD_eq_getElem?_getD, hget, Option.getD_some] at hc1
                  have hclt := coords_lt HPS.out (show k < s.length by omega)
                  obtain ⟨ae, y, rfl, hy, hae, hcy⟩ := Elems.later ES'.out h10 (k := k) (by rw [length_ints]; omega)
                  obtain ⟨rfl, -⟩ := ints_getD hy
                  obtain ⟨X, hX⟩ : ∃ X, X = (coords s p).getD k 0 := ⟨_, rfl⟩
                  obtain ⟨Y, hY⟩ : ∃ Y, Y = s.getD k 0 := ⟨_, rfl⟩
                  have hY4 : Y ≤ 4096 := by
                    rw [hY, getD_lt (by omega)]
                    exact HG.out.2.1 _ (List.getElem_mem _)
                  rw [← hX] at hc1 hclt
                  rw [← hY] at hcy hclt
                  have hfz := Box.frozen h5 k
                  have hlt2 := Box.lt h5
                  obtain ⟨o1, o2⟩ := HO.out
                  have hp1 := Hi3.out.put o1 o2 k (X + 1)
                  have hcys : (wr.setCell ⟨g3, k, none⟩ (.int .i64 ((X + 1 : Nat) : Int))).cell? (ae.add k) = some (.int .i64 (Y : Nat)) := cellS hcy (by rw [addr_block_add]; simp; omega)
                  have hgs : (wr.setCell ⟨g3, k, none⟩ (.int .i64 ((X + 1 : Nat) : Int))).cell? ⟨g3, k, none⟩ = some (.int .i64 ((X + 1 : Nat) : Int)) := by
                    obtain ⟨_, _, -, -, -, -, q5, -⟩ := hp1
                    have := q5.at_ (ints_get (by rw [List.length_set]; exact hkb))
                    rwa [getD_set hkb] at this
                  have hfs : (wr.setCell ⟨g3, k, none⟩ (.int .i64 ((X + 1 : Nat) : Int))).frozen? ⟨g3, k, none⟩ = false := by
                    obtain ⟨_, _, -, -, -, -, q5, -⟩ := hp1
                    exact Box.frozen q5 k
                  have hfin0 : ∀ n, WinInv w a A ca (some ad) cd g A' c' g3 s (win fr s a).da (p + 1) (b'.set k 0) (((wr.setCell ⟨g3, k, none⟩ (.int .i64 ((X + 1 : Nat) : Int))).drewN n).setCell ⟨g3, k, none⟩ (.int .i64 0)) := fun n => by
                    have := (hp1.mono (below_draws _ _ n)).put o1 o2 k 0
                    rwa [List.set_set] at this
                  have hls : g3 < (wr.setCell ⟨g3, k, none⟩ (.int .i64 ((X + 1 : Nat) : Int))).heap.size := by simpa using hlt2
                  have HX' := Lib.hid hX
                  have HY' := Lib.hid hY
                  have HO' := Lib.hid ho
                  have Hp1 := Lib.hid hp1
                  have HF0 := Lib.hid hfin0
                  have hcast : ((X + 1 : Nat) : Int) = (X : Int) + 1 := by simp
                  rw [hcast] at hcys hgs hfs hls
                  clear hy hget hX hY ho hp1 hfin0 h1 h2 h3 h4 h5 h6 h7 h8 h9 h10 hcin hkm hkb hbl' hcast
                  rcases Nat.lt_or_ge (X + 1) Y with hxy | hxy
                  · have hd : decide ((X : Int) + 1 < (Y : Int)) = true := by simp; omega
                    go_wp2_with fail
                    go_quiet (fail)
                    all_goals go_wp2_with fail
                    go_roundw
                    case rel => exact ⟨p + 1, b'.set k (X + 1), by omega, by go_num, by rw [HX'.out]; exact AtCell.next HPS.out (by omega) HO'.out (by rw [← HX'.out, ← HY'.out]; exact hxy), Hp1.out.mono (below_draws _ _ _)⟩
                    case measure => simp [intOf]; omega
                  · have hd : decide ((X : Int) + 1 < (Y : Int)) = false := by simp; omega
                    go_wp2_with fail
                    go_quiet (fail)
                    all_goals go_wp2_with fail
                    go_roundw
                    case rel => exact ⟨k, (k : Int) - 1, b'.set k 0, by omega, by omega, rfl, HO'.out.step (coords_inside HPS.out) (by omega) (by rw [← HX'.out, ← HY'.out]; exact hxy), HF0.out _⟩
                    case measure => simp [intOf]
                · obtain rfl : mm = -1 := by omega
                  have Hi3 := Lib.hid hi
                  have HO' := Lib.hid ho
                  clear hi ho hkm hcin hbl'
                  go_wp2_with fail
                  go_roundw
                  case rel => exact ⟨p + 1, b', by omega, by go_num, AtCell.last HPS.out HO'.out, Hi3.out⟩
                  case measure => simp [intOf]; omega
      · have hpe : p = prod s := by have := HN.out; omega
        obtain ⟨A2, c2', h1, h2, h3, h4, h5, h6, h7, h8, h9, h10⟩ := hi
        obtain ⟨g0, g1, g2⟩ := h1.three
        obtain ⟨f0, f1, f2⟩ := h9.three
        have ff := h9.frozen
        have hlr := h9.lt
        have hpl : p = (win fr s a).da.length := by rw [HTL.out]; omega
        have HPL := Lib.hid hpl
        have HT2 := Lib.hid (show (win fr s a).da.take p = (win fr s a).da from List.take_of_length_le (by omega))
        clear hpe hpl hat h5
        go_wp2_with fail
        refine bodyPost_ret (v := .agg #[.bool a.ch, .slice A' s.length c', .slice A2 p c2']) (by simp [results, Tryz.results220, go_sem, f0, f1, f2, g0, g1, g2, hlr]) rfl ?_
        have hgf := grownBy_three wr (w.heap.size + 1) (.bool a.ch) (.slice A' s.length c') (.slice A2 p c2')
        have r1 := (h3.kept hgf (.inr (h3.ne_low (by omega)))).isInts
        have r2 := (h2.kept hgf (.inr (h2.ne_low (by omega)))).isInts
        rw [HT2.out] at r2
        exact ⟨_, rfl, ⟨_, _, rfl, r1, r2⟩, h10.grown hgf h10.size (fun j e => by cases e; omega), ⟨_, _, _, _, _, _, _, rfl, fun k e => by have := (h3.lt e).1; omega, fun k e => by have := (h2.lt e).1; omega⟩⟩

end Go.Proofs.YtihndbkaoejnnaaGreatDoor

namespace Go.Proofs.YtihndbkaoejnnaaGreatDoor
open Go Go.RowKit Go.Proofs.YtihndbkaoejnnaaGreatDoor.P

theorem clamp_bd (m : Int) (l : Nat) : -(l : Int) ≤ clamp m l ∧ clamp m l ≤ l := by unfold clamp; omega
theorem dropSh_at {n : List Int} {t : List Nat} {k : Nat} {m : Int} (h : n[k]? = some m) (hk : k < t.length) : (ints (dropSh n t))[k]? = some (if 0 ≤ clamp m (t.getD k 0) then ((t.getD k 0 : Nat) : Int) - clamp m (t.getD k 0) else ((t.getD k 0 : Nat) : Int) + clamp m (t.getD k 0)) := by
  unfold dropSh
  rw [getElem?_ints, List.getElem?_zipWith, h, List.getElem?_eq_getElem hk, getD_lt hk]
  have := clamp_bd m t[k]
  simp only [Option.map_some, Option.some.injEq]
  split <;> omega
theorem dropFr_at {n : List Int} {t : List Nat} {k : Nat} {m : Int} (h : n[k]? = some m) (hk : k < t.length) : (dropFr n t)[k]? = some (if 0 ≤ clamp m (t.getD k 0) then clamp m (t.getD k 0) else 0) := by
  unfold dropFr
  rw [List.getElem?_zipWith, h, List.getElem?_eq_getElem hk, getD_lt hk]

set_option maxRecDepth 100000 in
set_option maxHeartbeats 4000000 in
theorem drop_new {vn v : Value} {n : List Int} {a : Arr} {w : World} (hn : IsInts w vn n) (ha : IsArr w v a) : Calls Tryz.prog 178 #[vn, v] w (ToldN (drop n a) (dropErr n a) w) := by
  obtain ⟨A, ca, D, cd, rfl, hs, hd⟩ := ha.open_
  obtain ⟨B, cb, rfl, b1, b2, b3, EB, H1⟩ := hn.open_
  obtain ⟨A0, ca0, eA, a1, a2, a3, a0, a4⟩ := id hs
  cases eA
  have EA := Lib.hid (show Elems w A a.sh from a4)
  have EN := Lib.hid EB
  clear a4 a0 EB hd
  by_cases c1 : arrErr a ≠ 0
  · have e : dropErr n a = arrErr a := by unfold dropErr; rw [if_pos c1]
    rw [e]
    have C1 := Lib.hid c1
    clear c1 e
    go_enter Tryz.func178, Tryz.ntmps178
    go_wp2_with fail
    refine (check_bad (ha.mono (below_two _ _ _)) C1.out).mono ?_
    rintro e w1 ⟨rfl, hb⟩
    have b1 := (Box.new (w.alloc (.cells #[.bool a.ch, .slice A a.sh.length ca, .slice D a.da.length cd] 25)) 25 #[.bool false, .slice none 0 0, .slice none 0 0]).below hb
    rw [World.size_alloc] at b1
    obtain ⟨q0, q1, q2⟩ := b1.three
    have f1 := b1.frozen
    have hz := b1.lt
    have hbw : Below w.heap.size w w1 := (below_two _ _ _).trans (hb.mono (by simp; omega))
    go_wp2_with fail
    refine bodyPost_ret (v := .tuple #[zeroArr, .iface 54 (.int .i64 (arrErr a))]) (by simp [results, Tryz.results178, go_sem, q0, q1, q2, hz]) rfl ?_
    exact .inr ⟨C1.out, rfl, by go_grown⟩
  obtain ⟨t, ht⟩ := ok_of_arrErr (by simpa using c1)
  have hsl : a.sh.length = t.length := by rw [ht.sh, length_ints]
  have HT := Lib.hid ht
  have HSL := Lib.hid hsl
  have ht6 := ht.good.1
  have HC1 := Lib.hid c1
  clear ht c1 hsl
  go_enter Tryz.func178, Tryz.ntmps178
  go_wp2_with fail
  refine (check_ok (ha.mono (below_two _ _ _)) HT.out).mono ?_
  rintro e w1 ⟨rfl, hb⟩
  have bA := ((Box.new w 25 #[.bool a.ch, .slice A a.sh.length ca, .slice D a.da.length cd]).alloc (.cells #[.bool false, .slice none 0 0, .slice none 0 0] 25)).below hb
  have bR := (Box.new (w.alloc (.cells #[.bool a.ch, .slice A a.sh.length ca, .slice D a.da.length cd] 25)) 25 #[.bool false, .slice none 0 0, .slice none 0 0]).below hb
  rw [World.size_alloc] at bR
  have hbw1 : Below w.heap.size w w1 := (below_two _ _ _).trans (hb.mono (by simp; omega))
  obtain ⟨p0, p1, p2⟩ := bA.three
  obtain ⟨q0, q1, q2⟩ := bR.three
  have f1 := bR.frozen
  have hz := bR.lt
  clear hb
  by_cases c2 : n.length = a.sh.length
  case neg =>
    have e : dropErr n a = 4 := by unfold dropErr; rw [if_neg HC1.out, if_pos c2]
    have HE := Lib.hid e
    have c2' : ((n.length : Int) != (a.sh.length : Int)) = true := by simp; omega
    clear c2 e
    go_wp2_with fail
    refine bodyPost_ret (v := .tuple #[zeroArr, .iface 54 (.int .i64 4)]) (by simp [results, Tryz.results178, go_sem, q0, q1, q2, hz]) rfl ?_
    exact .inr ⟨by rw [HE.out]; decide, by rw [HE.out], by go_grown⟩
  have c2' : ((n.length : Int) != (a.sh.length : Int)) = false := by simp; omega
  have C2 := Lib.hid c2
  have hn6 : n.length ≤ 6 := by have := HSL.out; omega
  have hmk := run_make_list n.length (by omega)
  have he0 : dropErr n a = 0 := by unfold dropErr; rw [if_neg HC1.out, if_neg (by have := C2.out; omega)]
  have HE := Lib.hid he0
  clear he0
  clear c2
  go_wp2_with fail
  obtain ⟨V, hVe⟩ : ∃ V : Nat → Value → World → Prop, V = fun i v w' => match i with
      | 0 => v = .pointer (some ⟨w.heap.size, 1, none⟩)
      | 1 => v = .slice A a.sh.length ca
      | 2 => ∃ A' c', v = .slice A' a.sh.length c' ∧ Owns w' (w.heap.size + 2) v a.sh.length a.sh
      | 3 => v = .slice B n.length cb
      | 4 => v = .int .i64 n.length
      | 5 => ∃ m, v = .slice (some ⟨m, 0, none⟩) n.length n.length ∧ Row w' m (List.replicate n.length 0) ∧ w.heap.size + 2 ≤ m
      | 6 => ∃ A' c', v = .slice A' a.sh.length c' ∧ Owns w' (w.heap.size + 2) v a.sh.length a.sh
      | 7 => ∃ m, v = .slice (some ⟨m, 0, none⟩) n.length n.length ∧ Row w' m (List.replicate n.length 0) ∧ w.heap.size + 2 ≤ m
      | _ => True := ⟨_, rfl⟩
  have hVm : ∀ j v w1 w2, V j v w1 → Below w1.heap.size w1 w2 → V j v w2 := by
    intro j v w1 w2 h hb
    subst hVe
    match j, h with
    | 0, h => exact h
    | 1, h => exact h
    | 2, ⟨A', c', e, hr⟩ => exact ⟨A', c', e, hr.below hb⟩
    | 3, h => exact h
    | 4, h => exact h
    | 5, ⟨m, e, hr, hm⟩ => exact ⟨m, e, Box.below hr hb, hm⟩
    | 6, ⟨A', c', e, hr⟩ => exact ⟨A', c', e, hr.below hb⟩
    | 7, ⟨m, e, hr, hm⟩ => exact ⟨m, e, Box.below hr hb, hm⟩
    | i + 8, _ => trivial
  have hV0 : ∀ v w', V 0 v w' ↔ v = .pointer (some ⟨w.heap.size, 1, none⟩) := fun _ _ => by subst hVe; rfl
  have hV1 : ∀ v w', V 1 v w' ↔ v = .slice A a.sh.length ca := fun _ _ => by subst hVe; rfl
  have hV2 : ∀ v w', V 2 v w' ↔ ∃ A' c', v = .slice A' a.sh.length c' ∧ Owns w' (w.heap.size + 2) v a.sh.length a.sh := fun _ _ => by subst hVe; rfl
  have hV3 : ∀ v w', V 3 v w' ↔ v = .slice B n.length cb := fun _ _ => by subst hVe; rfl
  have hV4 : ∀ v w', V 4 v w' ↔ v = .int .i64 n.length := fun _ _ => by subst hVe; rfl
  have hV5 : ∀ v w', V 5 v w' ↔ ∃ m, v = .slice (some ⟨m, 0, none⟩) n.length n.length ∧ Row w' m (List.replicate n.length 0) ∧ w.heap.size + 2 ≤ m := fun _ _ => by subst hVe; rfl
  have hV6 : ∀ v w', V 6 v w' ↔ ∃ A' c', v = .slice A' a.sh.length c' ∧ Owns w' (w.heap.size + 2) v a.sh.length a.sh := fun _ _ => by subst hVe; rfl
  have hV7 : ∀ v w', V 7 v w' ↔ ∃ m, v = .slice (some ⟨m, 0, none⟩) n.length n.length ∧ Row w' m (List.replicate n.length 0) ∧ w.heap.size + 2 ≤ m := fun _ _ => by subst hVe; rfl
  obtain ⟨al, hal⟩ : ∃ al : Nat → Nat, al = fun j => match j with | 6 => 2 | 7 => 5 | j => j := ⟨_, rfl⟩
  have a0 : al 0 = 0 := by subst hal; rfl
  have a1 : al 1 = 1 := by subst hal; rfl
  have a2 : al 2 = 2 := by subst hal; rfl
  have a3 : al 3 = 3 := by subst hal; rfl
  have a4 : al 4 = 4 := by subst hal; rfl
  have a5 : al 5 = 5 := by subst hal; rfl
  have a6 : al 6 = 2 := by subst hal; rfl
  have a7 : al 7 = 5 := by subst hal; rfl
  have hlt : ∀ j v m wr, (j = 2 ∨ j = 5) → V j v wr → v.ownBlock = some m → m < wr.heap.size := by
    intro j v m wr hj h e
    subst hVe
    rcases hj with rfl | rfl
    · obtain ⟨A2, c2, rfl, hr⟩ := h; exact (hr.lt e).2
    · obtain ⟨m2, rfl, hr, -⟩ := h; injection e with e; subst e; exact Box.lt hr
  clear hVe hal
  refine wp_region_inv (PairInv V w1 2 5 al) (by kernel_rfl) (by kernel_rfl) (by kernel_rfl) (PairInv.start V w1 2 5 al) ?step ?fin
  case step =>
    simp only [putAll, Act.put, List.setIfInBounds_toArray, List.set_cons_zero, List.set_cons_succ, Nat.reduceAdd, Nat.zero_add]
    intro i o ho done u_ wr hnd hdep hI K hK
    have hbr := hI.1
    have hv := hI.2.1
    match i, ho with
    | 0, ho =>
      simp only [List.getElem?_cons_zero, Option.some.injEq] at ho
      subst ho
      simp only [Act.put, List.setIfInBounds_toArray, List.set_cons_zero, List.set_cons_succ] at hK
      refine wpOp_step rfl fun K' hK' => ?_
      go_simp
      exact hK' _ _ (hK _ _ (hI.keep hnd (by decide) (by decide) hVm (Below.refl _ _) ((hV0 _ _).2 rfl) (.inl a0)))
    | 1, ho =>
      simp only [List.getElem?_cons_succ, List.getElem?_cons_zero, Option.some.injEq] at ho
      subst ho
      simp only [Act.put, List.setIfInBounds_toArray, List.set_cons_zero, List.set_cons_succ] at hK
      have e0 := (hV0 _ _).1 (hv 0 (hdep ⟨0, .data⟩ (by simp) rfl))
      simp only [e0] at hK
      have hbA := bA.below hbr
      obtain ⟨y0, y1, y2⟩ := hbA.three
      refine wpOp_step rfl fun K' hK' => ?_
      go_simp
      exact hK' _ _ (hK _ _ (hI.keep hnd (by decide) (by decide) hVm (Below.refl _ _) ((hV1 _ _).2 rfl) (.inl a1)))
    | 2, ho =>
      simp only [List.getElem?_cons_succ, List.getElem?_cons_zero, Option.some.injEq] at ho
      subst ho
      simp only [Act.put, List.setIfInBounds_toArray, List.set_cons_zero, List.set_cons_succ] at hK
      have e1 := (hV1 _ _).1 (hv 1 (hdep ⟨1, .data⟩ (by simp) rfl))
      simp only [e1] at hK
      have hz := hbr.size
      have hz2 := hbw1.size
      have hz3 := bR.lt
      refine wpOp_step rfl fun K' hK' => ?_
      go_simp
      go_at_call 24
      refine (clone_any _ a.sh _ (hs.mono (hbw1.trans (hbr.mono hbw1.size)))).mono ?_
      rintro e w5 ⟨A5, c5, rfl, ho5, hb5⟩
      exact hK' _ _ (hK _ _ (hI.made hnd (by decide) (by decide) a2 hVm (fun j v m => hlt j v m wr) hb5 (by intro m e; exact (ho5.lt e).1) ((hV2 _ _).2 ⟨A5, c5, rfl, ho5.base (by omega)⟩)))
    | 3, ho =>
      simp only [List.getElem?_cons_succ, List.getElem?_cons_zero, Option.some.injEq] at ho
      subst ho
      simp only [Act.put, List.setIfInBounds_toArray, List.set_cons_zero, List.set_cons_succ] at hK
      refine wpOp_step rfl fun K' hK' => ?_
      go_simp
      exact hK' _ _ (hK _ _ (hI.keep hnd (by decide) (by decide) hVm (Below.refl _ _) ((hV3 _ _).2 rfl) (.inl a3)))
    | 4, ho =>
      simp only [List.getElem?_cons_succ, List.getElem?_cons_zero, Option.some.injEq] at ho
      subst ho
      simp only [Act.put, List.setIfInBounds_toArray, List.set_cons_zero, List.set_cons_succ] at hK
      have e3 := (hV3 _ _).1 (hv 3 (hdep ⟨3, .data⟩ (by simp) rfl))
      simp only [e3] at hK
      refine wpOp_step rfl fun K' hK' => ?_
      go_simp
      exact hK' _ _ (hK _ _ (hI.keep hnd (by decide) (by decide) hVm (Below.refl _ _) ((hV4 _ _).2 rfl) (.inl a4)))
    | 5, ho =>
      simp only [List.getElem?_cons_succ, List.getElem?_cons_zero, Option.some.injEq] at ho
      subst ho
      simp only [Act.put, List.setIfInBounds_toArray, List.set_cons_zero, List.set_cons_succ] at hK
      have e4 := (hV4 _ _).1 (hv 4 (hdep ⟨4, .data⟩ (by simp) rfl))
      simp only [e4] at hK
      have hz := hbr.size
      have hz2 := hbw1.size
      have hz3 := bR.lt
      refine wpOp_step rfl fun K' hK' => ?_
      go_simp
      exact hK' _ _ (hK _ _ (hI.made hnd (by decide) (by decide) a5 hVm (fun j v m => hlt j v m wr) (below_one _ _) (by rintro m e; simp [Value.ownBlock] at e; omega) ((hV5 _ _).2 ⟨_, rfl, Row.made _ _, by omega⟩)))
    | 6, ho =>
      simp only [List.getElem?_cons_succ, List.getElem?_cons_zero, Option.some.injEq] at ho
      subst ho
      simp only [Act.put, List.setIfInBounds_toArray, List.set_cons_zero, List.set_cons_succ] at hK
      have dj : done 2 = true := by simp [Region.binds] at hdep; simp [hdep]
      have hvj := hv 2 dj
      refine wpOp_step rfl fun K' hK' => ?_
      go_simp
      exact hK' _ _ (hK _ _ (hI.keep hnd (by decide) (by decide) hVm (Below.refl _ _) ((hV6 _ _).2 ((hV2 _ _).1 hvj)) (.inr (by rw [a6]; exact ⟨dj, rfl⟩))))
    | 7, ho =>
      simp only [List.getElem?_cons_succ, List.getElem?_cons_zero, Option.some.injEq] at ho
      subst ho
      simp only [Act.put, List.setIfInBounds_toArray, List.set_cons_zero, List.set_cons_succ] at hK
      have dj : done 5 = true := by simp [Region.binds] at hdep; simp [hdep]
      have hvj := hv 5 dj
      refine wpOp_step rfl fun K' hK' => ?_
      go_simp
      exact hK' _ _ (hK _ _ (hI.keep hnd (by decide) (by decide) hVm (Below.refl _ _) ((hV7 _ _).2 ((hV5 _ _).1 hvj)) (.inr (by rw [a7]; exact ⟨dj, rfl⟩))))
    | i + 8, ho => simp at ho
  case fin =>
    simp only [putAll, Act.put, List.setIfInBounds_toArray, List.set_cons_zero, List.set_cons_succ, Nat.reduceAdd, Nat.zero_add]
    intro done u_ wr hd hI
    obtain ⟨hbr, hv, hap, hals⟩ := hI
    simp only [List.length_cons, List.length_nil, Nat.reduceAdd, Nat.zero_add] at hd
    have ap := hap (hd 2 (by omega)) (hd 5 (by omega))
    have q6 : u_ 6 = u_ 2 := by have := (hals 6 (hd 6 (by omega))).2; rwa [a6] at this
    have q7 : u_ 7 = u_ 5 := by have := (hals 7 (hd 7 (by omega))).2; rwa [a7] at this
    obtain ⟨As, cs, es, os⟩ := (hV6 _ _).1 (hv 6 (hd 6 (by omega)))
    obtain ⟨gf, ef, rf, hgf⟩ := (hV7 _ _).1 (hv 7 (hd 7 (by omega)))
    rw [← q6, ← q7] at ap
    rw [es, ef] at ap
    rw [es] at os
    have hne : ∀ g, As = some ⟨g, 0, none⟩ → g ≠ gf := fun g e e2 => ap g (by rw [e]; rfl) (by rw [e2]; rfl)
    simp only [es, ef]
    have bA1 := bA.below hbr
    have bR1 := bR.below hbr
    have hbw2 := hbw1.trans (hbr.mono hbw1.size)
    have hlS : (ints (dropSh n t)).length = a.sh.length := by rw [length_ints, dropSh_length, C2.out, HSL.out]; simp
    have hlF : (dropFr n t).length = n.length := by rw [dropFr_length, C2.out, HSL.out]; simp
    have HLS := Lib.hid hlS
    have HLF := Lib.hid hlF
    have rs' : SRow wr (w.heap.size + 2) As a.sh.length cs (MixTo (ints (dropSh n t)) a.sh 0) := by rw [mix_zero]; exact os.srow
    have rf' : Row wr gf (FillTo (dropFr n t) 0) := by rw [fillTo_zero, hlF]; exact rf
    have HNE := Lib.hid hne
    clear os rf ap es ef hals hap hv hd hVm hlt bA bR p0 p1 p2 q0 q1 q2 f1 hz hmk hlS hlF hne
    clear hV0 hV1 hV2 hV3 hV4 hV5 hV6 hV7 a0 a1 a2 a3 a4 a5 a6 a7 q6 q7 hbw1 hbr
    go_wp2_with fail
    go_loopw [33] (fun i wr => ∃ k : Nat, k ≤ n.length ∧ i = .int .i64 k ∧ SRow wr (w.heap.size + 2) As a.sh.length cs (MixTo (ints (dropSh n t)) a.sh k) ∧ Row wr gf (FillTo (dropFr n t) k) ∧ Box wr w.heap.size 25 #[.bool a.ch, .slice A a.sh.length ca, .slice D a.da.length cd] ∧
        Box wr (w.heap.size + 1) 25 #[.bool false, .slice none 0 0, .slice none 0 0] ∧ Below w.heap.size w wr) (fun i _ => n.length - (intOf i).toNat)
    case atStart => exact ⟨0, Nat.zero_le _, rfl, rs', rf', bA1, bR1, hbw2⟩
    case round =>
      clear rs' rf' bA1 bR1 hbw2
      obtain ⟨k, hk, rfl, rs, rf, bA, bR, hbl⟩ := hrel
      have hzA := bA.lt
      have hzR := bR.lt
      rcases Nat.lt_or_ge k n.length with hlt | hge
      · obtain ⟨ad, m, rfl, hm, hal, hcm⟩ := Elems.later EN.out hbl hlt
        have hkA : k < a.sh.length := by rw [← C2.out]; exact hlt
        have hkt : k < t.length := by rw [← HSL.out]; exact hkA
        obtain ⟨r1, r2, r3, r4, r5, r6⟩ := rs
        obtain ⟨gs, rfl, hgs, hmi⟩ := r6 (by omega)
        have hne := HNE.out gs rfl
        have hsk : (MixTo (ints (dropSh n t)) a.sh k)[k]? = some ((t.getD k 0 : Nat) : Int) := by
          rw [mix_at (by rw [HLS.out]; omega), HT.out.sh]
          exact ints_get hkt
        have hS := dropSh_at (t := t) hm hkt
        have hF := dropFr_at (t := t) hm hkt
        have hcl := clamp_bd m (t.getD k 0)
        have hY4 : t.getD k 0 ≤ 4096 := by rw [getD_lt hkt]; exact HT.out.good.2.1 _ (List.getElem_mem _)
        have gS := hmi.cell hsk
        have gF := rf.at_ (fillTo_at (X := dropFr n t) (k := k) (by rw [HLF.out]; exact hlt))
        obtain ⟨X, hX⟩ : ∃ X, X = t.getD k 0 := ⟨_, rfl⟩
        rw [← hX] at gS hS hF hcl hY4
        obtain ⟨M, hM⟩ : ∃ M, M = clamp m X := ⟨_, rfl⟩
        rw [← hM] at hS hF hcl
        have fS := hmi.frozen k
        have lS := hmi.lt
        have fF := Box.frozen rf k
        have lF := Box.lt rf
        have HS := Lib.hid hS
        have HF := Lib.hid hF
        have HM := Lib.hid hM
        have HMI := Lib.hid hmi
        have HRF := Lib.hid rf
        clear hS hF hM hX hsk hmi rf r1 r2 r3 r4 r5 r6 hm hkt
        obtain ⟨Y, hY⟩ : ∃ Y, Y = -(X : Int) := ⟨_, rfl⟩
        have hwn : IntKind.i64.wrap (-(X : Int)) = Y := by rw [hY]; exact IntWalk.i64_in _ (by omega)
        have hng : -(X : Int) = Y := hY.symm
        have hY2 : Y ≤ 0 ∧ -4096 ≤ Y ∧ Y ≤ X := ⟨by omega, by omega, by omega⟩
        obtain ⟨y0, y1, y2⟩ := hY2
        have HY := Lib.hid hY
        clear hY
        rcases Int.lt_or_le m Y with h1 | h1
        · have hM2 : Y = M := by have := HY.out; have h9 := HM.out; unfold clamp at h9; omega
          subst hM2
          have h2 : ¬ (X : Int) < Y := by omega
          clear hcl
          rcases Int.lt_or_le (Y) 0 with h0 | h0
          · skip
            have hS2 : (ints (dropSh n t))[k]? = some ((X : Int) + Y) := by rw [HS.out, if_neg (by omega)]
            have hF2 : (dropFr n t)[k]? = some 0 := by rw [HF.out, if_neg (by omega)]
            have s1 : ∀ j, Mine ((wr.drewN j).setCell ⟨gs, k, none⟩ (.int .i64 ((X : Int) + Y))) gs a.sh.length cs (MixTo (ints (dropSh n t)) a.sh (k + 1)) := fun j => by rw [← mix_set hS2 hkA]; exact (HMI.out.drewN j).store k _
            have f1 : ∀ j, Row ((wr.drewN j).setCell ⟨gs, k, none⟩ (.int .i64 ((X : Int) + Y))) gf (FillTo (dropFr n t) (k + 1)) := fun j => by rw [← fillTo_skip hF2]; exact Box.far (Box.drewN HRF.out j) (p := ⟨gs, k, none⟩) (Ne.symm hne) _
            have S1 := Lib.hid s1
            have F1 := Lib.hid f1
            clear hS2 hF2 s1 f1
            go_wp2_with fail
            go_quiet (fail)
            all_goals go_wp2_with fail
            go_roundw
            case rel => exact ⟨k + 1, by omega, by go_num, (S1.out _).srow hgs, F1.out _, (bA.drewN _).far (p := ⟨gs, k, none⟩) (by simp; omega) _, (bR.drewN _).far (p := ⟨gs, k, none⟩) (by simp; omega) _, (hbl.trans (below_draws _ _ _)).setCell (p := ⟨gs, k, none⟩) (by simp; omega) _⟩
            case measure => simp [intOf]; omega
          · skip
            have hS2 : (ints (dropSh n t))[k]? = some ((X : Int) - Y) := by first | (rw [HS.out, if_pos (by omega)]; done) | (rw [HS.out, if_pos (by omega)]; congr 1; omega)
            have hF2 : (dropFr n t)[k]? = some (Y) := by rw [HF.out, if_pos (by omega)]
            have s2 : ∀ j, Mine (((wr.drewN j).setCell ⟨gs, k, none⟩ (.int .i64 ((X : Int) - Y))).setCell ⟨gf, k, none⟩ (.int .i64 (Y))) gs a.sh.length cs (MixTo (ints (dropSh n t)) a.sh (k + 1)) := fun j => by rw [← mix_set hS2 hkA]; exact ((HMI.out.drewN j).store k _).far (p := ⟨gf, k, none⟩) hne _
            have f2 : ∀ j, Row (((wr.drewN j).setCell ⟨gs, k, none⟩ (.int .i64 ((X : Int) - Y))).setCell ⟨gf, k, none⟩ (.int .i64 (Y))) gf (FillTo (dropFr n t) (k + 1)) := fun j => by rw [← fillTo_set hF2]; exact Row.store (Box.far (Box.drewN HRF.out j) (p := ⟨gs, k, none⟩) (Ne.symm hne) _) k _
            have gF3 : (wr.setCell ⟨gs, k, none⟩ (.int .i64 ((X : Int) - Y))).cell? ⟨gf, k, none⟩ = some (.int .i64 0) := cellS gF (Ne.symm hne)
            have S2 := Lib.hid s2
            have F2 := Lib.hid f2
            clear hS2 hF2 s2 f2
            go_wp2_with fail
            go_quiet (fail)
            all_goals go_wp2_with fail
            go_roundw
            case rel => exact ⟨k + 1, by omega, by go_num, (S2.out _).srow hgs, F2.out _, ((bA.drewN _).far (p := ⟨gs, k, none⟩) (by simp; omega) _).far (p := ⟨gf, k, none⟩) (by simp; omega) _, ((bR.drewN _).far (p := ⟨gs, k, none⟩) (by simp; omega) _).far (p := ⟨gf, k, none⟩) (by simp; omega) _, ((hbl.trans (below_draws _ _ _)).setCell (p := ⟨gs, k, none⟩) (by simp; omega) _).setCell (p := ⟨gf, k, none⟩) (by simp; omega) _⟩
            case measure => simp [intOf]; omega
        have h1' : ¬ m < Y := by omega
        rcases Int.lt_or_le (X : Int) m with h2 | h2
        · have hM2 : (X : Int) = M := by have := HY.out; have h9 := HM.out; unfold clamp at h9; omega
          subst hM2
          clear hcl
          have hS2 : (ints (dropSh n t))[k]? = some (0) := by first | (rw [HS.out, if_pos (by omega)]; done) | (rw [HS.out, if_pos (by omega)]; congr 1; omega)
          have hF2 : (dropFr n t)[k]? = some ((X : Int)) := by rw [HF.out, if_pos (by omega)]
          have s2 : ∀ j, Mine (((wr.drewN j).setCell ⟨gs, k, none⟩ (.int .i64 (0))).setCell ⟨gf, k, none⟩ (.int .i64 ((X : Int)))) gs a.sh.length cs (MixTo (ints (dropSh n t)) a.sh (k + 1)) := fun j => by rw [← mix_set hS2 hkA]; exact ((HMI.out.drewN j).store k _).far (p := ⟨gf, k, none⟩) hne _
          have f2 : ∀ j, Row (((wr.drewN j).setCell ⟨gs, k, none⟩ (.int .i64 (0))).setCell ⟨gf, k, none⟩ (.int .i64 ((X : Int)))) gf (FillTo (dropFr n t) (k + 1)) := fun j => by rw [← fillTo_set hF2]; exact Row.store (Box.far (Box.drewN HRF.out j) (p := ⟨gs, k, none⟩) (Ne.symm hne) _) k _
          have gF3 : (wr.setCell ⟨gs, k, none⟩ (.int .i64 (0))).cell? ⟨gf, k, none⟩ = some (.int .i64 0) := cellS gF (Ne.symm hne)
          have S2 := Lib.hid s2
          have F2 := Lib.hid f2
          clear hS2 hF2 s2 f2
          go_wp2_with fail
          go_quiet (fail)
          all_goals go_wp2_with fail
          go_roundw
          case rel => exact ⟨k + 1, by omega, by go_num, (S2.out _).srow hgs, F2.out _, ((bA.drewN _).far (p := ⟨gs, k, none⟩) (by simp; omega) _).far (p := ⟨gf, k, none⟩) (by simp; omega) _, ((bR.drewN _).far (p := ⟨gs, k, none⟩) (by simp; omega) _).far (p := ⟨gf, k, none⟩) (by simp; omega) _, ((hbl.trans (below_draws _ _ _)).setCell (p := ⟨gs, k, none⟩) (by simp; omega) _).setCell (p := ⟨gf, k, none⟩) (by simp; omega) _⟩
          case measure => simp [intOf]; omega
        have h2' : ¬ (X : Int) < m := by omega
        · have hM2 : m = M := by have := HY.out; have h9 := HM.out; unfold clamp at h9; omega
          subst hM2
          clear hcl
          rcases Int.lt_or_le (m) 0 with h0 | h0
          · skip
            have hS2 : (ints (dropSh n t))[k]? = some ((X : Int) + m) := by rw [HS.out, if_neg (by omega)]
            have hF2 : (dropFr n t)[k]? = some 0 := by rw [HF.out, if_neg (by omega)]
            have s1 : ∀ j, Mine ((wr.drewN j).setCell ⟨gs, k, none⟩ (.int .i64 ((X : Int) + m))) gs a.sh.length cs (MixTo (ints (dropSh n t)) a.sh (k + 1)) := fun j => by rw [← mix_set hS2 hkA]; exact (HMI.out.drewN j).store k _
            have f1 : ∀ j, Row ((wr.drewN j).setCell ⟨gs, k, none⟩ (.int .i64 ((X : Int) + m))) gf (FillTo (dropFr n t) (k + 1)) := fun j => by rw [← fillTo_skip hF2]; exact Box.far (Box.drewN HRF.out j) (p := ⟨gs, k, none⟩) (Ne.symm hne) _
            have S1 := Lib.hid s1
            have F1 := Lib.hid f1
            clear hS2 hF2 s1 f1
            go_wp2_with fail
            go_quiet (fail)
            all_goals go_wp2_with fail
            go_roundw
            case rel => exact ⟨k + 1, by omega, by go_num, (S1.out _).srow hgs, F1.out _, (bA.drewN _).far (p := ⟨gs, k, none⟩) (by simp; omega) _, (bR.drewN _).far (p := ⟨gs, k, none⟩) (by simp; omega) _, (hbl.trans (below_draws _ _ _)).setCell (p := ⟨gs, k, none⟩) (by simp; omega) _⟩
            case measure => simp [intOf]; omega
          · skip
            have hS2 : (ints (dropSh n t))[k]? = some ((X : Int) - m) := by first | (rw [HS.out, if_pos (by omega)]; done) | (rw [HS.out, if_pos (by omega)]; congr 1; omega)
            have hF2 : (dropFr n t)[k]? = some (m) := by rw [HF.out, if_pos (by omega)]
            have s2 : ∀ j, Mine (((wr.drewN j).setCell ⟨gs, k, none⟩ (.int .i64 ((X : Int) - m))).setCell ⟨gf, k, none⟩ (.int .i64 (m))) gs a.sh.length cs (MixTo (ints (dropSh n t)) a.sh (k + 1)) := fun j => by rw [← mix_set hS2 hkA]; exact ((HMI.out.drewN j).store k _).far (p := ⟨gf, k, none⟩) hne _
            have f2 : ∀ j, Row (((wr.drewN j).setCell ⟨gs, k, none⟩ (.int .i64 ((X : Int) - m))).setCell ⟨gf, k, none⟩ (.int .i64 (m))) gf (FillTo (dropFr n t) (k + 1)) := fun j => by rw [← fillTo_set hF2]; exact Row.store (Box.far (Box.drewN HRF.out j) (p := ⟨gs, k, none⟩) (Ne.symm hne) _) k _
            have gF3 : (wr.setCell ⟨gs, k, none⟩ (.int .i64 ((X : Int) - m))).cell? ⟨gf, k, none⟩ = some (.int .i64 0) := cellS gF (Ne.symm hne)
            have S2 := Lib.hid s2
            have F2 := Lib.hid f2
            clear hS2 hF2 s2 f2
            go_wp2_with fail
            go_quiet (fail)
            all_goals go_wp2_with fail
            go_roundw
            case rel => exact ⟨k + 1, by omega, by go_num, (S2.out _).srow hgs, F2.out _, ((bA.drewN _).far (p := ⟨gs, k, none⟩) (by simp; omega) _).far (p := ⟨gf, k, none⟩) (by simp; omega) _, ((bR.drewN _).far (p := ⟨gs, k, none⟩) (by simp; omega) _).far (p := ⟨gf, k, none⟩) (by simp; omega) _, ((hbl.trans (below_draws _ _ _)).setCell (p := ⟨gs, k, none⟩) (by simp; omega) _).setCell (p := ⟨gf, k, none⟩) (by simp; omega) _⟩
            case measure => simp [intOf]; omega
      · have hke : k = n.length := by omega
        subst hke
        rw [mix_all (n := n.length) (by rw [HLS.out, C2.out]) C2.out.symm] at rs
        rw [show FillTo (dropFr n t) n.length = dropFr n t by rw [← HLF.out]; exact fillTo_all _] at rf
        have iS := rs.isInts
        have iF := rf.isInts (n := n.length) HLF.out.symm (by omega)
        have ia := ha.mono hbl
        have hnt : n.length = t.length := by rw [C2.out, HSL.out]
        have HG := Lib.hid (dropSh_good hnt HT.out.good)
        have HNT := Lib.hid hnt
        clear rs rf hnt
        have hfb : ∀ (k : Nat) (f : Int), (dropFr n t)[k]? = some f → -8192 ≤ f ∧ f ≤ 8192 := by
          intro k f hf
          have hkl := (List.getElem?_eq_some_iff.1 hf).1
          rw [HLF.out] at hkl
          have hkt : k < t.length := by rw [← HNT.out]; exact hkl
          have hx : n[k]? = some n[k] := List.getElem?_eq_getElem hkl
          rw [dropFr_at hx hkt] at hf
          injection hf with hf
          have h1 := clamp_bd n[k] (t.getD k 0)
          have h2 : t.getD k 0 ≤ 4096 := by rw [getD_lt hkt]; exact HT.out.good.2.1 _ (List.getElem_mem _)
          split at hf <;> omega
        have HFB := Lib.hid hfb
        clear hfb
        obtain ⟨p0, p1, p2⟩ := bA.three
        go_wp2_with fail
        refine (window_new ia iF iS HT.out HG.out (by rw [dropSh_length, HNT.out, Nat.min_self]) (by rw [HLF.out, HNT.out]) HFB.out).mono ?_
        rintro e w3 ⟨r, rfl, hr, hb3, hnv⟩
        obtain ⟨A3, ca3, D3, cd3, rfl, hs3, hd3⟩ := hr.open_
        have bR3 := bR.below hb3
        obtain ⟨q0, q1, q2⟩ := bR3.three
        have fR3 := bR3.frozen
        have hz3 := bR3.lt
        have hbw3 := hbl.trans (hb3.mono hbl.size)
        clear hb3 hs3 hd3
        have htk : drop n a = win (dropFr n t) (dropSh n t) a := by unfold drop; rw [HT.out.nsh_eq]
        have HTK := Lib.hid htk
        clear htk
        go_wp2_with fail
        refine bodyPost_ret (v := .tuple #[.agg #[.bool (win (dropFr n t) (dropSh n t) a).ch, .slice A3 (win (dropFr n t) (dropSh n t) a).sh.length ca3, .slice D3 (win (dropFr n t) (dropSh n t) a).da.length cd3], .nilIface]) (by simp [results, Tryz.results178, go_sem, q0, q1, q2, hz3]) rfl ?_
        refine .inl ⟨HE.out, ?_⟩
        rw [HTK.out]
        exact ⟨_, rfl, hr.laid bR3 _ _ _, by have := hbw3.size; go_grown, hnv.low hbl.size⟩

end Go.Proofs.YtihndbkaoejnnaaGreatDoor

namespace Go.Proofs.YtihndbkaoejnnaaGreatDoor
open Go Go.RowKit Go.Proofs.YtihndbkaoejnnaaGreatDoor.P

theorem RunTo.next' {t : List Nat} {k j : Nat} {P x : Int} (h : RunTo t k j P) (hkj : k ≤ j) (hj : j < t.length) (hb : prod ((t.drop k).take (j + 1 - k)) ≤ 1000000) (hx : x = ((t.getD j 0 : Nat) : Int)) : RunTo t k (j + 1) (Go.RowKit.wrap64 (P * x)) := by
  subst hx
  exact RunTo.next h hkj hj hb
theorem run_take_le {s : List Nat} (h : prod s ≠ 0) (m : Nat) : prod (s.take m) ≤ prod s := by
  have e : prod s = prod (s.take m) * prod (s.drop m) := by rw [← prod_append, List.take_append_drop]
  rw [e] at h ⊢
  exact Nat.le_mul_of_pos_right _ (Nat.pos_of_ne_zero fun h0 => h (by rw [h0, Nat.mul_zero]))
theorem run_drop_ne {s : List Nat} (h : prod s ≠ 0) (m : Nat) : prod (s.drop m) ≠ 0 ∧ prod (s.drop m) ≤ prod s := by
  have e : prod s = prod (s.take m) * prod (s.drop m) := by rw [← prod_append, List.take_append_drop]
  rw [e] at h ⊢
  exact ⟨fun h0 => h (by rw [h0, Nat.mul_zero]), Nat.le_mul_of_pos_left _ (Nat.pos_of_ne_zero fun h0 => h (by rw [h0, Nat.zero_mul]))⟩
theorem run_le {t : List Nat} {k x y j : Nat} (hg : GoodSh (t.set k y)) (h0 : prod (t.set k y) ≠ 0) (hx : x ≤ y) : prod (((t.set k x).drop k).take (j - k)) ≤ 4096 := by
  have h1 : prod (((t.set k x).drop k).take (j - k)) ≤ prod (((t.set k y).drop k).take (j - k)) := by
    refine prod_mono (by simp) fun i hi => ?_
    simp only [List.length_take, List.length_drop, List.length_set] at hi
    simp only [List.getD_eq_getElem?_getD, List.getElem?_take, List.getElem?_drop, List.getElem?_set]
    split
    · split
      · split
        · simpa using hx
        · exact Nat.le_refl _
      · exact Nat.le_refl _
    · exact Nat.le_refl _
  obtain ⟨h2, h3⟩ := run_drop_ne h0 k
  have h4 := run_take_le h2 (j - k)
  have := hg.2.2
  omega

/-- Some more numbers behind the data of the array that is made. -/
theorem join_step {W wr w4 : World} {d B : Nat} {g gs n cs : Nat} {v0 : Value} {A2 A4 : Option Addr} {c2 c4 p q : Nat} {xs ys ss : List Int}
    (h1 : Box wr g 25 #[v0, .slice (some ⟨gs, 0, none⟩) n cs, .slice A2 p c2]) (h2 : Owns wr (gs + 1) (.slice A2 p c2) p xs) (h3 : Mine wr gs n cs ss) (hg : gs < g) (h5 : Below B W wr) (hB : B ≤ gs) (hW : B ≤ wr.heap.size)
    (hgrow : (wr.drewN d).grownBy w4 (Value.slice A2 p c2).ownBlock) (hown : Owns w4 (gs + 1) (.slice A4 (p + q) c4) (p + q) ys) :
    Box (w4.setCell ⟨g, 2, none⟩ (.slice A4 (p + q) c4)) g 25 #[v0, .slice (some ⟨gs, 0, none⟩) n cs, .slice A4 (p + q) c4] ∧ Owns (w4.setCell ⟨g, 2, none⟩ (.slice A4 (p + q) c4)) (gs + 1) (.slice A4 (p + q) c4) (p + q) ys ∧
      Mine (w4.setCell ⟨g, 2, none⟩ (.slice A4 (p + q) c4)) gs n cs ss ∧ Below B W (w4.setCell ⟨g, 2, none⟩ (.slice A4 (p + q) c4)) ∧
      (∀ b' t cs', b' < gs → Box wr b' t cs' → Box (w4.setCell ⟨g, 2, none⟩ (.slice A4 (p + q) c4)) b' t cs') := by
  have b4 := Box.grown (w := wr.drewN d) (h1.drewN d) hgrow (h2.ne_box h1 (by decide))
  have s := b4.store 2 (.slice A4 (p + q) c4)
  simp only [List.setIfInBounds_toArray, List.set_cons_zero, List.set_cons_succ] at s
  obtain ⟨cc, m1, m2⟩ := h3
  have m4 := (Box.grown (w := wr.drewN d) (m1.drewN d) hgrow (h2.ne_low (by omega))).far (p := ⟨g, 2, none⟩) (by simp; omega) (.slice A4 (p + q) c4)
  refine ⟨s, hown.setCell (p := ⟨g, 2, none⟩) (hown.ne_box b4 (by decide)) _, ⟨cc, m4, m2⟩, ?_, fun b' t cs' hb' hx => ?_⟩
  · exact ((h5.trans (below_draws _ _ d)).grown hgrow hW (fun j e => by have := (h2.lt e).1; omega)).setCell (p := ⟨g, 2, none⟩) (by simp; omega) _
  · exact (Box.grown (w := wr.drewN d) (hx.drewN d) hgrow (h2.ne_low (by omega))).far (p := ⟨g, 2, none⟩) (by simp; omega) _

theorem glue_take1 {a b : Arr} {t : List Nat} {k l r : Nat} (ha : Ok a t) (hb : Ok b (t.set k l)) (hk : k < t.length) (hr : r < outerOf t k) {x y P L : Nat} (hx : x = t.getD k 0 * innerOf t k) (hy : y = l * innerOf t k) (hP : P = r * (x + y)) (hL : L = r * x) :
    (glue k a b).da.take P ++ (a.da.take (L + x)).drop L = (glue k a b).da.take (P + x) := by
  rw [List.drop_take, show L + x - L = x by omega]
  refine take_piece fun i hi => ?_
  rw [hP, hL, hx, hy]
  exact glue_piece1 ha hb hk hr (by rw [← hx]; exact hi)
theorem glue_take2 {a b : Arr} {t : List Nat} {k l r : Nat} (ha : Ok a t) (hb : Ok b (t.set k l)) (hk : k < t.length) (hr : r < outerOf t k) {x y P L : Nat} (hx : x = t.getD k 0 * innerOf t k) (hy : y = l * innerOf t k) (hP : P = r * (x + y)) (hL : L = r * y) :
    (glue k a b).da.take (P + x) ++ (b.da.take (L + y)).drop L = (glue k a b).da.take (P + x + y) := by
  rw [List.drop_take, show L + y - L = y by omega]
  refine take_piece fun i hi => ?_
  rw [hP, hL, hx, hy]
  exact glue_piece2 ha hb hk hr (by rw [← hy]; exact hi)

set_option maxRecDepth 100000 in
set_option maxHeartbeats 4000000 in
theorem join_new {va vb : Value} {axis : Int} {a b : Arr} {w : World} (ha : IsArr w va a) (hb : IsArr w vb b) :
    Calls Tryz.prog 184 #[.int .i64 axis, va, vb] w (ToldN (glue axis.toNat a b) (joinErr axis a b) w) := by
  obtain ⟨A, ca, D, cd, rfl, hs, hd⟩ := ha.open_
  obtain ⟨A', ca', D', cd', rfl, hs', hd'⟩ := hb.open_
  obtain ⟨_, _, e1, a1, a2, a3, -, a4⟩ := id hs
  cases e1
  obtain ⟨_, _, e1, b1, b2, b3, -, b4⟩ := id hs'
  cases e1
  obtain ⟨_, _, e1, dd1, dd2, dd3, d0, d4⟩ := id hd
  cases e1
  obtain ⟨_, _, e1, f1, f2, f3, f0, f4⟩ := id hd'
  cases e1
  have EA := Lib.hid (show Elems w A a.sh from a4)
  have EB := Lib.hid (show Elems w A' b.sh from b4)
  have DA := Lib.hid (show Elems w D a.da from d4)
  have DB := Lib.hid (show Elems w D' b.da from f4)
  have DA0 := Lib.hid d0
  have DB0 := Lib.hid f0
  have i0 : ∀ w, (Instr.index 209 (.agg #[.bool a.ch, .slice A a.sh.length ca, .slice D a.da.length cd, .bool b.ch, .slice A' b.sh.length ca', .slice D' b.da.length cd']) (.int .i64 0)).run Tryz.prog w = .ok (.agg #[.bool a.ch, .slice A a.sh.length ca, .slice D a.da.length cd]) w := fun _ => by kernel_rfl
  have i1 : ∀ w, (Instr.index 209 (.agg #[.bool a.ch, .slice A a.sh.length ca, .slice D a.da.length cd, .bool b.ch, .slice A' b.sh.length ca', .slice D' b.da.length cd']) (.int .i64 1)).run Tryz.prog w = .ok (.agg #[.bool b.ch, .slice A' b.sh.length ca', .slice D' b.da.length cd']) w := fun _ => by kernel_rfl
  have bA0 := ((Box.new w 25 #[.bool a.ch, .slice A a.sh.length ca, .slice D a.da.length cd]).alloc (.cells #[.bool b.ch, .slice A' b.sh.length ca', .slice D' b.da.length cd'] 25)).alloc (.cells #[.bool false, .slice none 0 0, .slice none 0 0] 25)
  have bB0 := (Box.new (w.alloc (.cells #[.bool a.ch, .slice A a.sh.length ca, .slice D a.da.length cd] 25)) 25 #[.bool b.ch, .slice A' b.sh.length ca', .slice D' b.da.length cd']).alloc (.cells #[.bool false, .slice none 0 0, .slice none 0 0] 25)
  have bR0 := Box.new ((w.alloc (.cells #[.bool a.ch, .slice A a.sh.length ca, .slice D a.da.length cd] 25)).alloc (.cells #[.bool b.ch, .slice A' b.sh.length ca', .slice D' b.da.length cd'] 25)) 25 #[.bool false, .slice none 0 0, .slice none 0 0]
  simp only [World.size_alloc] at bB0 bR0
  have hb0 := below_three w (.cells #[.bool a.ch, .slice A a.sh.length ca, .slice D a.da.length cd] 25) (.cells #[.bool b.ch, .slice A' b.sh.length ca', .slice D' b.da.length cd'] 25) (.cells #[.bool false, .slice none 0 0, .slice none 0 0] 25)
  obtain ⟨t0, t1, t2⟩ := bA0.three
  obtain ⟨u0, u1, u2⟩ := bB0.three
  clear a4 b4 d4 f4 d0 f0 hd hd' hs'
  go_enter Tryz.func184, Tryz.ntmps184
  go_wp2_with fail
  clear t0 t1 t2 u0 u1 u2
  go_loopw [24] (fun s wr => ∃ m : Int, s = .int .i64 m ∧ (m = 0 ∨ (m = 1 ∧ arrErr a = 0) ∨ (m = 2 ∧ arrErr a = 0 ∧ arrErr b = 0)) ∧ Box wr w.heap.size 25 #[.bool a.ch, .slice A a.sh.length ca, .slice D a.da.length cd] ∧ Box wr (w.heap.size + 1) 25 #[.bool b.ch, .slice A' b.sh.length ca', .slice D' b.da.length cd'] ∧ Box wr (w.heap.size + 1 + 1) 25 #[.bool false, .slice none 0 0, .slice none 0 0] ∧ Below w.heap.size w wr) (fun s _ => (2 - intOf s).toNat)
  case atStart => exact ⟨0, rfl, .inl rfl, bA0, bB0, bR0, hb0⟩
  case round =>
    clear bA0 bB0 bR0 hb0
    obtain ⟨m, rfl, hm, bA, bB, bR, hbl⟩ := hrel
    obtain ⟨t0, t1, t2⟩ := bA.three
    obtain ⟨u0, u1, u2⟩ := bB.three
    obtain ⟨q0, q1, q2⟩ := bR.three
    have fR := bR.frozen
    have hzA := bA.lt
    have hzB := bB.lt
    have hzR := bR.lt
    rcases hm with rfl | ⟨rfl, hea⟩ | ⟨rfl, hea, heb⟩
    · go_wp2_with fail
      by_cases c1 : arrErr a = 0
      · obtain ⟨t, ht⟩ := ok_of_arrErr c1
        have HT := Lib.hid ht
        have C1 := Lib.hid c1
        clear c1 ht
        refine (check_ok (ha.mono (hbl.trans ((below_one _ _).mono hbl.size))) HT.out).mono ?_
        rintro e w1 ⟨rfl, hb1⟩
        go_wp2_with fail
        go_roundw
        case rel => exact ⟨1, rfl, .inr (.inl ⟨rfl, C1.out⟩), (bA.alloc _).below hb1, (bB.alloc _).below hb1, (bR.alloc _).below hb1, (hbl.trans ((below_one _ _).mono hbl.size)).trans (hb1.mono (by have := hbl.size; simp; omega))⟩
        case measure => simp [intOf]
      · have e : joinErr axis a b = arrErr a := by unfold joinErr; rw [if_pos c1]
        have HE := Lib.hid e
        have C1 := Lib.hid c1
        clear e c1
        refine (check_bad (ha.mono (hbl.trans ((below_one _ _).mono hbl.size))) C1.out).mono ?_
        rintro e w1 ⟨rfl, hb1⟩
        have bR1 := (bR.alloc _).below hb1
        have hbl1 := (hbl.trans ((below_one _ _).mono hbl.size)).trans (hb1.mono (by have := hbl.size; simp; omega))
        clear bA bB bR hbl t0 t1 t2 u0 u1 u2 q0 q1 q2 fR hzA hzB hzR hb1
        have hbl := hbl1
        obtain ⟨q0, q1, q2⟩ := bR1.three
        have fR := bR1.frozen
        have hzR := bR1.lt
        go_wp2_with fail
        refine bodyPost_ret (v := .tuple #[zeroArr, .iface 54 (.int .i64 (arrErr a))]) (by simp [results, Tryz.results184, go_sem, q0, q1, q2, hzR]) rfl ?_
        exact .inr ⟨by rw [HE.out]; exact C1.out, by rw [HE.out], by have := hbl.size; go_grown⟩
    · go_wp2_with fail
      by_cases c1 : arrErr b = 0
      · obtain ⟨t, ht⟩ := ok_of_arrErr c1
        have HT := Lib.hid ht
        have C1 := Lib.hid c1
        have HEA := Lib.hid hea
        clear c1 ht hea
        refine (check_ok (hb.mono (hbl.trans ((below_one _ _).mono hbl.size))) HT.out).mono ?_
        rintro e w1 ⟨rfl, hb1⟩
        go_wp2_with fail
        go_roundw
        case rel => exact ⟨2, rfl, .inr (.inr ⟨rfl, HEA.out, C1.out⟩), (bA.alloc _).below hb1, (bB.alloc _).below hb1, (bR.alloc _).below hb1, (hbl.trans ((below_one _ _).mono hbl.size)).trans (hb1.mono (by have := hbl.size; simp; omega))⟩
        case measure => simp [intOf]
      · have e : joinErr axis a b = arrErr b := by unfold joinErr; rw [if_neg (by simp [hea]), if_pos c1]
        have HE := Lib.hid e
        have C1 := Lib.hid c1
        clear e c1 hea
        refine (check_bad (hb.mono (hbl.trans ((below_one _ _).mono hbl.size))) C1.out).mono ?_
        rintro e w1 ⟨rfl, hb1⟩
        have bR1 := (bR.alloc _).below hb1
        have hbl1 := (hbl.trans ((below_one _ _).mono hbl.size)).trans (hb1.mono (by have := hbl.size; simp; omega))
        clear bA bB bR hbl t0 t1 t2 u0 u1 u2 q0 q1 q2 fR hzA hzB hzR hb1
        have hbl := hbl1
        obtain ⟨q0, q1, q2⟩ := bR1.three
        have fR := bR1.frozen
        have hzR := bR1.lt
        go_wp2_with fail
        refine bodyPost_ret (v := .tuple #[zeroArr, .iface 54 (.int .i64 (arrErr b))]) (by simp [results, Tryz.results184, go_sem, q0, q1, q2, hzR]) rfl ?_
        exact .inr ⟨by rw [HE.out]; exact C1.out, by rw [HE.out], by have := hbl.size; go_grown⟩
    · obtain ⟨t, ht⟩ := ok_of_arrErr hea
      obtain ⟨u, hu⟩ := ok_of_arrErr heb
      have la : a.sh.length = t.length := by rw [ht.sh, length_ints]
      have lb : b.sh.length = u.length := by rw [hu.sh, length_ints]
      have HT := Lib.hid ht
      have HU := Lib.hid hu
      have HLA := Lib.hid la
      have HLB := Lib.hid lb
      have HEA := Lib.hid (show ¬ arrErr a ≠ 0 by simp [hea])
      have HEB := Lib.hid (show ¬ arrErr b ≠ 0 by simp [heb])
      have ht6 := ht.good.1
      clear ht hu la lb hea heb
      by_cases c3 : a.sh.length = b.sh.length
      case neg =>
        have c3' : ((a.sh.length : Int) != (b.sh.length : Int)) = true := by simp; omega
        have HE := Lib.hid (show joinErr axis a b = 3 by unfold joinErr; rw [if_neg HEA.out, if_neg HEB.out, if_pos c3])
        clear c3
        go_wp2_with fail
        refine bodyPost_ret (v := .tuple #[zeroArr, .iface 54 (.int .i64 (3))]) (by simp [results, Tryz.results184, go_sem, q0, q1, q2, hzR]) rfl ?_
        exact .inr ⟨by rw [HE.out]; decide, by rw [HE.out], by have := hbl.size; go_grown⟩
      have c3' : ((a.sh.length : Int) != (b.sh.length : Int)) = false := by simp; omega
      have C3 := Lib.hid c3
      clear c3
      rcases Int.lt_or_le axis 0 with g0 | g0
      · have d0 : decide (axis < (0 : Int)) = true := by simpa using g0
        have HE := Lib.hid (show joinErr axis a b = 5 by unfold joinErr; rw [if_neg HEA.out, if_neg HEB.out, if_neg (by have := C3.out; omega), if_pos (.inl g0)])
        go_wp2_with fail
        refine bodyPost_ret (v := .tuple #[zeroArr, .iface 54 (.int .i64 (5))]) (by simp [results, Tryz.results184, go_sem, q0, q1, q2, hzR]) rfl ?_
        exact .inr ⟨by rw [HE.out]; decide, by rw [HE.out], by have := hbl.size; go_grown⟩
      rcases Int.lt_or_le axis a.sh.length with g1 | g1
      case inr =>
        have d0 : decide (axis < (0 : Int)) = false := by simp; omega
        have d1 : decide ((a.sh.length : Int) ≤ axis) = true := by simpa using g1
        have HE := Lib.hid (show joinErr axis a b = 5 by unfold joinErr; rw [if_neg HEA.out, if_neg HEB.out, if_neg (by have := C3.out; omega), if_pos (.inr g1)])
        go_wp2_with fail
        refine bodyPost_ret (v := .tuple #[zeroArr, .iface 54 (.int .i64 (5))]) (by simp [results, Tryz.results184, go_sem, q0, q1, q2, hzR]) rfl ?_
        exact .inr ⟨by rw [HE.out]; decide, by rw [HE.out], by have := hbl.size; go_grown⟩
      obtain ⟨k, rfl⟩ := Int.eq_ofNat_of_zero_le g0
      have hk : k < a.sh.length := by omega
      have d1 : decide (a.sh.length ≤ k) = false := by simp; omega
      have d2 : decide ((a.sh.length : Int) ≤ (k : Int)) = false := by simp; omega
      have HX := Lib.hid (show ¬ ((k : Int) < 0 ∨ (a.sh.length : Int) ≤ (k : Int)) by omega)
      go_wp2_with fail
      refine (clone_any _ a.sh _ (hs.mono hbl)).mono ?_
      rintro e w1 ⟨As, cs, rfl, os, hb1⟩
      have rs0 := os.srow
      have bA1 := bA.below hb1
      have bB1 := bB.below hb1
      have bR1 := bR.below hb1
      have hbl1 := hbl.trans (hb1.mono hbl.size)
      have hwr := hbl.size
      obtain ⟨B1, hB1⟩ : ∃ B1, B1 = wr.heap.size := ⟨_, rfl⟩
      rw [← hB1] at rs0
      have hBB : w.heap.size + 3 ≤ B1 := by omega
      clear bA bB bR hbl t0 t1 t2 u0 u1 u2 q0 q1 q2 fR hzA hzB hzR hb1 os hB1 hwr
      go_wp2_with fail
      go_loopw [59] (fun s wr => ∃ j : Nat, j ≤ a.sh.length ∧ s = .int .i64 j ∧ (∀ i, i < j → i ≠ k → a.sh.getD i 0 = b.sh.getD i 0) ∧ SRow wr B1 As a.sh.length cs a.sh ∧ Box wr w.heap.size 25 #[.bool a.ch, .slice A a.sh.length ca, .slice D a.da.length cd] ∧ Box wr (w.heap.size + 1) 25 #[.bool b.ch, .slice A' b.sh.length ca', .slice D' b.da.length cd'] ∧ Box wr (w.heap.size + 1 + 1) 25 #[.bool false, .slice none 0 0, .slice none 0 0] ∧ Below w.heap.size w wr) (fun s _ => a.sh.length - (intOf s).toNat)
      case atStart => exact ⟨0, Nat.zero_le _, rfl, (fun i h => by omega), rs0, bA1, bB1, bR1, hbl1⟩
      case round =>
        clear bA1 bB1 bR1 hbl1 rs0
        obtain ⟨j, hj, rfl, hsame, rs, bA, bB, bR, hbl⟩ := hrel
        obtain ⟨t0, t1, t2⟩ := bA.three
        obtain ⟨u0, u1, u2⟩ := bB.three
        obtain ⟨q0, q1, q2⟩ := bR.three
        have fR := bR.frozen
        have hzA := bA.lt
        have hzB := bB.lt
        have hzR := bR.lt
        have HS := Lib.hid hsame
        clear hsame
        rcases Nat.lt_or_ge j a.sh.length with hlt | hge
        · obtain ⟨ax, x, rfl, hx, hax, hcx⟩ := Elems.later EA.out hbl hlt
          have hlt2 : j < b.sh.length := by rw [← C3.out]; exact hlt
          obtain ⟨ay, y, rfl, hy, hay, hcy⟩ := Elems.later EB.out hbl hlt2
          have HXX := Lib.hid (show a.sh.getD j 0 = x by rw [List.getD_eq_getElem?_getD, hx]; rfl)
          have HYY := Lib.hid (show b.sh.getD j 0 = y by rw [List.getD_eq_getElem?_getD, hy]; rfl)
          clear hx hy
          by_cases hjk : j = k
          · have e1 : ((j : Int) != (k : Int)) = false := by simp; omega
            have HJK := Lib.hid hjk
            clear hjk
            go_wp2_with fail
            go_quiet (fail)
            all_goals go_wp2_with fail
            go_roundw
            case rel => exact ⟨j + 1, by omega, by go_num, (fun i hi hik => HS.out i (by have := HJK.out; omega) hik), rs.mono (below_draws _ _ _), bA.drewN _, bB.drewN _, bR.drewN _, hbl.trans (below_draws _ _ _)⟩
            case measure => simp [intOf]; omega
          · have e1 : ((j : Int) != (k : Int)) = true := by simp; omega
            have HJK := Lib.hid hjk
            clear hjk
            by_cases hxy : x = y
            · have e2 : ((x : Int) != y) = false := by simp [hxy]
              have HXY := Lib.hid hxy
              clear hxy
              go_wp2_with fail
              go_quiet (fail)
              all_goals go_wp2_with fail
              go_roundw
              case rel =>
                refine ⟨j + 1, by omega, by go_num, (fun i hi hik => ?_), rs.mono (below_draws _ _ _), bA.drewN _, bB.drewN _, bR.drewN _, hbl.trans (below_draws _ _ _)⟩
                by_cases e : i = j
                · rw [e, HXX.out, HYY.out, HXY.out]
                · exact HS.out i (by omega) hik
              case measure => simp [intOf]; omega
            · have e2 : ((x : Int) != y) = true := by simp [hxy]
              have HE := Lib.hid (show joinErr k a b = 4 by unfold joinErr; rw [if_neg HEA.out, if_neg HEB.out, if_neg (by have := C3.out; omega), if_neg HX.out, if_pos ⟨j, hlt, by have := HJK.out; omega, by rw [HXX.out, HYY.out]; exact hxy⟩])
              clear hxy
              go_wp2_with fail
              go_quiet (fail)
              all_goals go_wp2_with fail
              have x0 : ∀ n, (wr.drewN n).cell? ⟨w.heap.size + 1 + 1, 0, none⟩ = some (.bool false) := fun _ => q0
              have x1 : ∀ n, (wr.drewN n).cell? ⟨w.heap.size + 1 + 1, 1, none⟩ = some (.slice none 0 0) := fun _ => q1
              have x2 : ∀ n, (wr.drewN n).cell? ⟨w.heap.size + 1 + 1, 2, none⟩ = some (.slice none 0 0) := fun _ => q2
              refine bodyPost_ret (v := .tuple #[zeroArr, .iface 54 (.int .i64 (4))]) (by simp [results, Tryz.results184, go_sem, q0, q1, q2, x0, x1, x2, hzR]) rfl ?_
              exact .inr ⟨by rw [HE.out]; decide, by rw [HE.out], by have := hbl.size; go_grown; exact hbl.trans (below_draws _ _ _)⟩
        · have hdif : ¬ Differ k a.sh b.sh := by
            rintro ⟨i, h1, h2, h3⟩
            exact h3 (HS.out i (by omega) (by omega))
          have hkt : k < t.length := by rw [← HLA.out]; exact hk
          have hu' := same_set (k := k) (t := t) (u := u) (by rw [← HLB.out, ← HLA.out, C3.out]) hkt (by rw [← HT.out.sh, ← HU.out.sh]; exact hdif)
          obtain ⟨l, hl⟩ : ∃ l, l = u.getD k 0 := ⟨_, rfl⟩
          rw [← hl] at hu'
          have hlk : (ints u)[k]? = some (l : Int) := by rw [hl]; exact ints_get (by rw [← HLB.out, ← C3.out]; exact hk)
          clear hl
          have HKT := Lib.hid hkt
          have HU2 := Lib.hid (show Ok b (t.set k l) by rw [← hu']; exact HU.out)
          have HD := Lib.hid hdif
          have hl4 : l ≤ 4096 := by
            have := HU2.out.good.2.1 l (by
              have : (t.set k l)[k]? = some l := List.getElem?_set_self hkt
              exact List.mem_of_getElem? this)
            exact this
          have hX4 : t.getD k 0 ≤ 4096 := by rw [getD_lt hkt]; exact HT.out.good.2.1 _ (List.getElem_mem _)
          clear hu' hdif hkt
          by_cases c6 : a.ch = b.ch
          case neg =>
            have c6' : (a.ch == b.ch) = false := by simp [c6]
            have HE := Lib.hid (show joinErr k a b = 6 by unfold joinErr; rw [if_neg HEA.out, if_neg HEB.out, if_neg (by have := C3.out; omega), if_neg HX.out, if_neg HD.out, if_pos c6])
            clear c6
            go_wp2_with fail
            refine bodyPost_ret (v := .tuple #[zeroArr, .iface 54 (.int .i64 (6))]) (by simp [results, Tryz.results184, go_sem, q0, q1, q2, hzR]) rfl ?_
            exact .inr ⟨by rw [HE.out]; decide, by rw [HE.out], by have := hbl.size; go_grown⟩
          have c6' : (a.ch == b.ch) = true := by simp [c6]
          have C6 := Lib.hid c6
          clear c6
          have hxk : a.sh[k]? = some ((t.getD k 0 : Nat) : Int) := by rw [HT.out.sh]; exact ints_get HKT.out
          rw [← HU.out.sh] at hlk
          obtain ⟨r1, r2, r3, r4, r5, r6⟩ := rs
          obtain ⟨gs, rfl, hgs, hmi⟩ := r6 (by omega)
          have hgk := hmi.cell hxk
          obtain ⟨be, y, rfl, hy, hbe, hcb⟩ := Elems.later EB.out hbl (k := k) (by rw [← C3.out]; exact hk)
          obtain rfl : (l : Int) = y := by rw [hlk] at hy; injection hy
          obtain ⟨X, hXe⟩ : ∃ X, X = t.getD k 0 := ⟨_, rfl⟩
          rw [← hXe] at hgk hX4
          have HXE := Lib.hid hXe
          have fgs := hmi.frozen k
          have lgs := hmi.lt
          have hkb : k < b.sh.length := by rw [← C3.out]; exact hk
          have hw9 : IntKind.i64.wrap ((X : Int) + (l : Int)) = (X : Int) + (l : Int) := IntWalk.i64_in _ (by omega)
          have HMI := Lib.hid hmi
          clear hxk hlk hy hXe hmi r1 r2 r3 r4 r5 r6
          go_wp2_with fail
          generalize decide (j < a.sh.length) = bj
          clear hge hj
          obtain ⟨wq, rfl⟩ : ∃ wq : World, wq = wr := ⟨_, rfl⟩
          refine wp_region_open (fun i v lo hi w' => match i with
            | 0 => v = .slice (some ⟨gs, 0, none⟩) a.sh.length cs
            | 1 => v = .int .i64 k
            | 2 => v = .pointer (some ⟨gs, k, none⟩)
            | 3 => v = .int .i64 X
            | 4 => v = .pointer (some ⟨w.heap.size + 1, 1, none⟩)
            | 5 => v = .slice (some be) b.sh.length ca'
            | 6 => v = .int .i64 k
            | 7 => v = .pointer (some (be.add k))
            | 8 => v = .int .i64 l
            | 9 => v = .int .i64 ((X : Int) + (l : Int))
            | 10 => v = .pointer (some ⟨gs, k, none⟩)
            | _ => True) (by kernel_rfl) (by kernel_rfl) (by kernel_rfl) ?hV ?step ?last
          case hV =>
            intro i v lo hi w1 w2 h hb
            match i, h with
            | 0, h => exact h
            | 1, h => exact h
            | 2, h => exact h
            | 3, h => exact h
            | 4, h => exact h
            | 5, h => exact h
            | 6, h => exact h
            | 7, h => exact h
            | 8, h => exact h
            | 9, h => exact h
            | 10, h => exact h
            | i + 11, _ => trivial
          case step =>
            simp only [putAll, Act.put, List.setIfInBounds_toArray, List.set_cons_zero, List.set_cons_succ, Nat.reduceAdd, Nat.zero_add]
            intro i o ho hi uu lo up wr hbr hd hj K hK
            obtain ⟨hcw, hfw⟩ := bcell hbr
            match i, ho with
            | 0, ho =>
              simp only [List.getElem?_cons_zero, Option.some.injEq] at ho
              subst ho
              simp only [Act.put, List.setIfInBounds_toArray, List.set_cons_zero, List.set_cons_succ] at hK
              first | (simp [Region.binds] at hd; simp only [hd] at hK) | skip
              refine wpOp_step rfl fun K' hK' => ?_
              go_simp
              exact hK' _ _ (hK _ _ (Below.refl _ _) rfl)
            | 1, ho =>
              simp only [List.getElem?_cons_succ, List.getElem?_cons_zero, Option.some.injEq] at ho
              subst ho
              simp only [Act.put, List.setIfInBounds_toArray, List.set_cons_zero, List.set_cons_succ] at hK
              first | (simp [Region.binds] at hd; simp only [hd] at hK) | skip
              refine wpOp_step rfl fun K' hK' => ?_
              go_simp
              exact hK' _ _ (hK _ _ (Below.refl _ _) rfl)
            | 2, ho =>
              simp only [List.getElem?_cons_succ, List.getElem?_cons_zero, Option.some.injEq] at ho
              subst ho
              simp only [Act.put, List.setIfInBounds_toArray, List.set_cons_zero, List.set_cons_succ] at hK
              first | (simp [Region.binds] at hd; simp only [hd] at hK) | skip
              refine wpOp_step rfl fun K' hK' => ?_
              go_simp
              exact hK' _ _ (hK _ _ (Below.refl _ _) rfl)
            | 3, ho =>
              simp only [List.getElem?_cons_succ, List.getElem?_cons_zero, Option.some.injEq] at ho
              subst ho
              simp only [Act.put, List.setIfInBounds_toArray, List.set_cons_zero, List.set_cons_succ] at hK
              first | (simp [Region.binds] at hd; simp only [hd] at hK) | skip
              have gS1 := hcw gs k lgs
              rw [hgk] at gS1
              refine wpOp_step rfl fun K' hK' => ?_
              go_simp
              exact hK' _ _ (hK _ _ (Below.refl _ _) rfl)
            | 4, ho =>
              simp only [List.getElem?_cons_succ, List.getElem?_cons_zero, Option.some.injEq] at ho
              subst ho
              simp only [Act.put, List.setIfInBounds_toArray, List.set_cons_zero, List.set_cons_succ] at hK
              first | (simp [Region.binds] at hd; simp only [hd] at hK) | skip
              refine wpOp_step rfl fun K' hK' => ?_
              go_simp
              exact hK' _ _ (hK _ _ (Below.refl _ _) rfl)
            | 5, ho =>
              simp only [List.getElem?_cons_succ, List.getElem?_cons_zero, Option.some.injEq] at ho
              subst ho
              simp only [Act.put, List.setIfInBounds_toArray, List.set_cons_zero, List.set_cons_succ] at hK
              first | (simp [Region.binds] at hd; simp only [hd] at hK) | skip
              have bB2 := bB.below hbr
              obtain ⟨v0, v1, v2⟩ := bB2.three
              refine wpOp_step rfl fun K' hK' => ?_
              go_simp
              exact hK' _ _ (hK _ _ (Below.refl _ _) rfl)
            | 6, ho =>
              simp only [List.getElem?_cons_succ, List.getElem?_cons_zero, Option.some.injEq] at ho
              subst ho
              simp only [Act.put, List.setIfInBounds_toArray, List.set_cons_zero, List.set_cons_succ] at hK
              first | (simp [Region.binds] at hd; simp only [hd] at hK) | skip
              refine wpOp_step rfl fun K' hK' => ?_
              go_simp
              exact hK' _ _ (hK _ _ (Below.refl _ _) rfl)
            | 7, ho =>
              simp only [List.getElem?_cons_succ, List.getElem?_cons_zero, Option.some.injEq] at ho
              subst ho
              simp only [Act.put, List.setIfInBounds_toArray, List.set_cons_zero, List.set_cons_succ] at hK
              first | (simp [Region.binds] at hd; simp only [hd] at hK) | skip
              refine wpOp_step rfl fun K' hK' => ?_
              go_simp
              exact hK' _ _ (hK _ _ (Below.refl _ _) rfl)
            | 8, ho =>
              simp only [List.getElem?_cons_succ, List.getElem?_cons_zero, Option.some.injEq] at ho
              subst ho
              simp only [Act.put, List.setIfInBounds_toArray, List.set_cons_zero, List.set_cons_succ] at hK
              first | (simp [Region.binds] at hd; simp only [hd] at hK) | skip
              have hcb2 : wr.cell? (be.add k) = some (.int .i64 (l : Int)) := (hbr.cell (by rw [addr_block_add]; exact Nat.lt_of_lt_of_le hbe (by have := hbl.size; omega))).trans hcb
              refine wpOp_step rfl fun K' hK' => ?_
              go_simp
              exact hK' _ _ (hK _ _ (Below.refl _ _) rfl)
            | 9, ho =>
              simp only [List.getElem?_cons_succ, List.getElem?_cons_zero, Option.some.injEq] at ho
              subst ho
              simp only [Act.put, List.setIfInBounds_toArray, List.set_cons_zero, List.set_cons_succ] at hK
              first | (simp [Region.binds] at hd; simp only [hd] at hK) | skip
              refine wpOp_step rfl fun K' hK' => ?_
              go_simp
              exact hK' _ _ (hK _ _ (Below.refl _ _) rfl)
            | 10, ho =>
              simp only [List.getElem?_cons_succ, List.getElem?_cons_zero, Option.some.injEq] at ho
              subst ho
              simp only [Act.put, List.setIfInBounds_toArray, List.set_cons_zero, List.set_cons_succ] at hK
              first | (simp [Region.binds] at hd; simp only [hd] at hK) | skip
              refine wpOp_step rfl fun K' hK' => ?_
              go_simp
              exact hK' _ _ (hK _ _ (Below.refl _ _) rfl)
            | i + 11, ho => simp at hi; omega
          case last =>
            simp only [putAll, Act.put, List.setIfInBounds_toArray, List.set_cons_zero, List.set_cons_succ, Nat.reduceAdd, Nat.zero_add]
            intro uu wr lo up hbr hv hj
            have e9 : uu 9 = .int .i64 ((X : Int) + (l : Int)) := hv 9 (by simp)
            have e10 : uu 10 = .pointer (some ⟨gs, k, none⟩) := hv 10 (by simp)
            simp only [e9, e10]
            obtain ⟨hcw, hfw⟩ := bcell hbr
            have gS1 := hcw gs k lgs
            rw [hgk] at gS1
            have fS1 := hfw gs k lgs
            rw [fgs] at fS1
            have lgs2 : gs < wr.heap.size := Nat.lt_of_lt_of_le lgs hbr.size
            clear hv hj e9 e10
            refine wpOp_step rfl fun K' hK' => ?_
            go_simp
            refine hK' _ _ ?_
            clear hK'
            have hm2 := (Mine.mono HMI.out hbr).store k ((X : Int) + (l : Int))
            rw [show a.sh.set k ((X : Int) + (l : Int)) = ints (t.set k (X + l)) by rw [HT.out.sh]; simp [ints, List.map_set]] at hm2
            have bA1 := (bA.below hbr).far (p := ⟨gs, k, none⟩) (by simp; omega) (.int .i64 ((X : Int) + (l : Int)))
            have bB1 := (bB.below hbr).far (p := ⟨gs, k, none⟩) (by simp; omega) (.int .i64 ((X : Int) + (l : Int)))
            have bR1 := (bR.below hbr).far (p := ⟨gs, k, none⟩) (by simp; omega) (.int .i64 ((X : Int) + (l : Int)))
            have hbl1 := (hbl.trans (hbr.mono hbl.size)).setCell (p := ⟨gs, k, none⟩) (by simp; omega) (.int .i64 ((X : Int) + (l : Int)))
            clear hcw hfw gS1 fS1 lgs2 hbr bA bB bR hbl hgk fgs lgs t0 t1 t2 u0 u1 u2 q0 q1 q2 fR hzA hzB hzR hcb
            generalize wr.setCell ⟨gs, k, none⟩ (.int .i64 ((X : Int) + (l : Int))) = Wc at hm2 bA1 bB1 bR1 hbl1 ⊢
            have iS := hm2.isInts
            have lgs := hm2.lt
            have hje : joinErr k a b = cntErr (ints (t.set k (X + l))) := by
              unfold joinErr
              rw [if_neg HEA.out, if_neg HEB.out, if_neg (by have := C3.out; omega), if_neg HX.out, if_neg HD.out, if_neg (by simp [C6.out]), show ((k : Nat) : Int).toNat = k by omega, HT.out.sh, HU2.out.sh, joinSh_ints HKT.out, ← HXE.out]
            have HJE := Lib.hid hje
            have HM2 := Lib.hid hm2
            obtain ⟨q0, q1, q2⟩ := bR1.three
            obtain ⟨t0, t1, t2⟩ := bA1.three
            obtain ⟨u0, u1, u2⟩ := bB1.three
            have fR := bR1.frozen
            have hzR := bR1.lt
            have hzA := bA1.lt
            have hzB := bB1.lt
            clear hje hm2
            by_cases c7 : cntErr (ints (t.set k (X + l))) = 0
            case neg =>
              have C7 := Lib.hid c7
              clear c7
              go_wp2_with fail
              refine (count_bad _ _ _ iS C7.out).mono ?_
              rintro e w2 ⟨rfl, rfl⟩
              go_wp2_with fail
              refine bodyPost_ret (v := .tuple #[zeroArr, .iface 54 (.int .i64 (cntErr (ints (t.set k (X + l)))))]) (by simp [results, Tryz.results184, go_sem, q0, q1, q2, hzR]) rfl ?_
              exact .inr ⟨by rw [HJE.out]; exact C7.out, by rw [HJE.out], by have := hbl1.size; go_grown⟩
            obtain ⟨u', hu', hg'⟩ := cntErr_zero c7
            rw [← ints_inj hu'] at hg'
            have HG := Lib.hid hg'
            have HJ0 := Lib.hid (show joinErr k a b = 0 by rw [HJE.out]; exact c7)
            clear c7 hg' hu'
            go_wp2_with fail
            refine (count_ok _ _ _ iS HG.out).mono ?_
            rintro e w2 ⟨rfl, rfl⟩
            obtain ⟨N, hN⟩ : ∃ N, N = prod (t.set k (X + l)) := ⟨_, rfl⟩
            rw [← hN]
            have hN4 : N ≤ 4096 := by rw [hN]; exact HG.out.2.2
            have HN := Lib.hid hN
            have hmk := run_make_ints N (by omega)
            clear hN iS
            go_wp2_with fail
            refine wp_region_open (fun i v lo hi w' => match i with
              | 0 => v = .pointer (some ⟨w.heap.size, 0, none⟩)
              | 1 => v = .bool a.ch
              | 2 => v = .slice (some ⟨gs, 0, none⟩) a.sh.length cs
              | 3 => v = .int .i64 N
              | 4 => ∃ m, v = .slice (some ⟨m, 0, none⟩) 0 N ∧ Owns w' lo v 0 [] ∧ m < hi ∧ gs + 1 ≤ lo
              | 5 => ∃ m, v = .agg #[.bool a.ch, .slice (some ⟨gs, 0, none⟩) a.sh.length cs, .slice (some ⟨m, 0, none⟩) 0 N] ∧ Owns w' (gs + 1) (.slice (some ⟨m, 0, none⟩) 0 N) 0 []
              | 6 => ∃ g, v = .pointer (some ⟨g, 0, none⟩) ∧ Box w' g 25 #[.bool false, .slice none 0 0, .slice none 0 0] ∧ gs + 1 ≤ g
              | _ => True) (by kernel_rfl) (by kernel_rfl) (by kernel_rfl) ?hV ?step ?last
            case hV =>
              intro i v lo hi w1 w2 h hb
              match i, h with
              | 0, h => exact h
              | 1, h => exact h
              | 2, h => exact h
              | 3, h => exact h
              | 4, ⟨m, e, ho, hl, hz⟩ => exact ⟨m, e, ho.below hb, hl, hz⟩
              | 5, ⟨m, e, ho'⟩ => exact ⟨m, e, ho'.below hb⟩
              | 6, ⟨g, e, hx, hz⟩ => exact ⟨g, e, hx.below hb, hz⟩
              | i + 7, _ => trivial
            case step =>
              simp only [putAll, Act.put, List.setIfInBounds_toArray, List.set_cons_zero, List.set_cons_succ, Nat.reduceAdd, Nat.zero_add]
              intro i o ho hi uu lo up wr hbr hd hj K hK
              obtain ⟨hcw, hfw⟩ := bcell hbr
              match i, ho with
              | 0, ho =>
                simp only [List.getElem?_cons_zero, Option.some.injEq] at ho
                subst ho
                first | (simp [Region.binds] at hd; simp only [hd] at hK) | skip
                refine wpOp_step rfl fun K' hK' => ?_
                go_simp
                exact hK' _ _ (hK _ _ (Below.refl _ _) rfl)
              | 1, ho =>
                simp only [List.getElem?_cons_succ, List.getElem?_cons_zero, Option.some.injEq] at ho
                subst ho
                first | (simp [Region.binds] at hd; simp only [hd] at hK) | skip
                refine wpOp_step rfl fun K' hK' => ?_
                go_simp
                exact hK' _ _ (hK _ _ (Below.refl _ _) rfl)
              | 2, ho =>
                simp only [List.getElem?_cons_succ, List.getElem?_cons_zero, Option.some.injEq] at ho
                subst ho
                first | (simp [Region.binds] at hd; simp only [hd] at hK) | skip
                refine wpOp_step rfl fun K' hK' => ?_
                go_simp
                exact hK' _ _ (hK _ _ (Below.refl _ _) rfl)
              | 3, ho =>
                simp only [List.getElem?_cons_succ, List.getElem?_cons_zero, Option.some.injEq] at ho
                subst ho
                first | (simp [Region.binds] at hd; simp only [hd] at hK) | skip
                refine wpOp_step rfl fun K' hK' => ?_
                go_simp
                exact hK' _ _ (hK _ _ (Below.refl _ _) rfl)
              | 4, ho =>
                simp only [List.getElem?_cons_succ, List.getElem?_cons_zero, Option.some.injEq] at ho
                subst ho
                first | (simp [Region.binds] at hd; simp only [hd] at hK) | skip
                have hz := hbr.size
                try simp only [World.size_alloc] at hz
                refine wpOp_step rfl fun K' hK' => ?_
                go_simp
                exact hK' _ _ (hK _ _ (below_one _ _) ⟨_, rfl, ⟨World.ownsRow_made _ _ _ (Nat.le_refl _) (by unfold maxLen; omega) (by simp [size_madeCells]), by omega⟩, by simp, by omega⟩)
              | 5, ho =>
                simp only [List.getElem?_cons_succ, List.getElem?_cons_zero, Option.some.injEq] at ho
                subst ho
                have h1 : uu 1 = .bool a.ch := hd ⟨1, .data⟩ (by simp) rfl
                have h2 : uu 2 = .slice (some ⟨gs, 0, none⟩) a.sh.length cs := hd ⟨2, .data⟩ (by simp) rfl
                obtain ⟨m, ed, od, ld, zd⟩ := hd ⟨4, .data⟩ (by simp) rfl
                dsimp only at od ld zd
                simp only [h1, h2, ed] at hK
                rw [ed] at od
                refine wpOp_step rfl fun K' hK' => ?_
                go_simp
                exact hK' _ _ (hK _ _ (Below.refl _ _) ⟨m, rfl, od.base (by omega)⟩)
              | 6, ho =>
                simp only [List.getElem?_cons_succ, List.getElem?_cons_zero, Option.some.injEq] at ho
                subst ho
                first | (simp [Region.binds] at hd; simp only [hd] at hK) | skip
                have hz := hbr.size
                try simp only [World.size_alloc] at hz
                refine wpOp_step rfl fun K' hK' => ?_
                go_simp
                exact hK' _ _ (hK _ _ (below_one _ _) ⟨_, rfl, Box.new _ _ _, by omega⟩)
              | i + 7, ho => simp at hi; omega
            case last =>
              simp only [putAll, Act.put, List.setIfInBounds_toArray, List.set_cons_zero, List.set_cons_succ, Nat.reduceAdd, Nat.zero_add]
              intro uu wr lo up hbr hv hj
              obtain ⟨m, e9, o8⟩ := hv 5 (by simp)
              obtain ⟨g, e10, bg, hg⟩ := hv 6 (by simp)
              obtain ⟨g0, g1, g2⟩ := bg.three
              have gf := bg.frozen
              simp only [e9, e10]
              clear hv hj e9 e10
              refine wpOp_step rfl fun K' hK' => ?_
              go_simp
              refine hK' _ _ ?_
              have hbw := (hbl1).trans (hbr.mono (hbl1.size))
              have hgg := grownBy_three wr g (.bool a.ch) (.slice (some ⟨gs, 0, none⟩) a.sh.length cs) (.slice (some ⟨m, 0, none⟩) 0 N)
              have i1 := ((bg.store 0 (.bool a.ch)).store 1 (.slice (some ⟨gs, 0, none⟩) a.sh.length cs)).store 2 (.slice (some ⟨m, 0, none⟩) 0 N)
              simp only [List.setIfInBounds_toArray, List.set_cons_zero, List.set_cons_succ] at i1
              have i2 := o8.kept hgg (.inr (o8.ne_box bg (by decide)))
              have i4 := Box.grown (Box.below bA1 hbr) hgg (by simp; omega)
              have i5 := Box.grown (Box.below bB1 hbr) hgg (by simp; omega)
              have i6 := Box.grown (Box.below bR1 hbr) hgg (by simp; omega)
              have j0 := ((((Mine.mono HM2.out hbr).far (p := ⟨g, 0, none⟩) (by simp; omega) (.bool a.ch)).far (p := ⟨g, 1, none⟩) (by simp; omega) (.slice (some ⟨gs, 0, none⟩) a.sh.length cs)).far (p := ⟨g, 2, none⟩) (by simp; omega) (.slice (some ⟨m, 0, none⟩) 0 N))
              have iw := hbw.grown hgg hbw.size (fun j e => by cases e; omega)
              have hgl : g < (((wr.setCell ⟨g, 0, none⟩ (.bool a.ch)).setCell ⟨g, 1, none⟩ (.slice (some ⟨gs, 0, none⟩) a.sh.length cs)).setCell ⟨g, 2, none⟩ (.slice (some ⟨m, 0, none⟩) 0 N)).heap.size := i1.lt
              clear hbr hgg o8 bg g0 g1 g2 gf hbw hK' 
              generalize (((wr.setCell ⟨g, 0, none⟩ (.bool a.ch)).setCell ⟨g, 1, none⟩ (.slice (some ⟨gs, 0, none⟩) a.sh.length cs)).setCell ⟨g, 2, none⟩ (.slice (some ⟨m, 0, none⟩) 0 N)) = W2 at i2 i4 i5 i6 j0 i1 iw hgl ⊢
              have hm3 := j0
              have hgg1 : gs < g := by omega
              clear j0 hgl
              obtain ⟨b2A, b2B, b2R⟩ : Box W2 w.heap.size 25 #[.bool a.ch, .slice A a.sh.length ca, .slice D a.da.length cd] ∧ Box W2 (w.heap.size + 1) 25 #[.bool b.ch, .slice (some be) b.sh.length ca', .slice D' b.da.length cd'] ∧ Box W2 (w.heap.size + 1 + 1) 25 #[.bool false, .slice none 0 0, .slice none 0 0] := ⟨i4, i5, i6⟩
              have HM3 := Lib.hid hm3
              have HI1 := Lib.hid i1
              have HI2 := Lib.hid i2
              clear i4 i5 i6 hm3 i1 i2 t0 t1 t2 u0 u1 u2 q0 q1 q2 fR hzR hmk
              go_wp2_with fail
              go_loopw [16, 17, 18] (fun s16 s17 s18 wx => ∃ (j : Nat) (p q : Int), k ≤ j ∧ j ≤ a.sh.length ∧ s18 = .int .i64 j ∧ s16 = .int .i64 p ∧ s17 = .int .i64 q ∧ (N ≠ 0 → RunTo t k j p ∧ RunTo (t.set k l) k j q) ∧ Below W2.heap.size W2 wx) (fun _ _ s18 _ => a.sh.length - (intOf s18).toNat)
              case atStart => exact ⟨k, 1, 1, Nat.le_refl _, by omega, rfl, rfl, rfl, fun _ => ⟨RunTo.zero _ _, RunTo.zero _ _⟩, Below.refl _ _⟩
              case round =>
                obtain ⟨j, p, q, hkj, hj, rfl, rfl, rfl, hrun, hbx⟩ := hrel
                have HRUN := Lib.hid hrun
                clear hrun
                obtain ⟨t0, t1, t2⟩ := (b2A.below hbx).three
                obtain ⟨u0, u1, u2⟩ := (b2B.below hbx).three
                have hbw := iw.trans (hbx.mono iw.size)
                rcases Nat.lt_or_ge j a.sh.length with hlt | hge
                · obtain ⟨ax, x, rfl, hx, hax, hcx⟩ := Elems.later EA.out hbw hlt
                  obtain ⟨ay, y, eay, hy, hay, hcy⟩ := Elems.later EB.out hbw (k := j) (by rw [← C3.out]; exact hlt)
                  injection eay with eay
                  subst eay
                  have hlt2 : j < b.sh.length := by rw [← C3.out]; exact hlt
                  have hjt : j < t.length := by rw [← HLA.out]; exact hlt
                  have HXX := Lib.hid (show x = ((t.getD j 0 : Nat) : Int) by rw [HT.out.sh] at hx; exact (ints_getD hx).1)
                  have HYY := Lib.hid (show y = (((t.set k l).getD j 0 : Nat) : Int) by rw [HU2.out.sh] at hy; exact (ints_getD hy).1)
                  have HJT := Lib.hid hjt
                  clear hx hy hjt
                  go_wp2_with fail
                  go_quiet (fail)
                  all_goals go_wp2_with fail
                  go_roundw
                  case rel =>
                    refine ⟨j + 1, _, _, by omega, by omega, by go_num, rfl, rfl, fun hn0 => ?_, hbx.trans (below_draws _ _ _)⟩
                    have hn1 : prod (t.set k (X + l)) ≠ 0 := by rw [← HN.out]; exact hn0
                    have r1 := run_le (t := t) (k := k) (x := X) (j := j + 1) HG.out hn1 (by omega)
                    have r2 := run_le (t := t) (k := k) (x := l) (j := j + 1) HG.out hn1 (by omega)
                    rw [HXE.out, set_getD] at r1
                    exact ⟨RunTo.next' (HRUN.out hn0).1 hkj HJT.out (by omega) HXX.out, RunTo.next' (HRUN.out hn0).2 hkj (by rw [List.length_set]; exact HJT.out) (by omega) HYY.out⟩
                  case measure => simp [intOf]; omega
                · have hje : j = t.length := by rw [← HLA.out]; omega
                  have hpq : N ≠ 0 → p = ((X * innerOf t k : Nat) : Int) ∧ q = ((l * innerOf t k : Nat) : Int) := by
                    intro hn0
                    obtain ⟨r1, r2⟩ := HRUN.out hn0
                    unfold RunTo at r1 r2
                    rw [hje, run_all HKT.out, ← HXE.out] at r1
                    have e2 := run_all (t := t.set k l) (k := k) (by rw [List.length_set]; exact HKT.out)
                    rw [List.length_set, getD_set HKT.out, inner_set] at e2
                    rw [hje, e2] at r2
                    exact ⟨r1, r2⟩
                  have HPQ := Lib.hid hpq
                  clear hpq hje HRUN
                  obtain ⟨x1, hx1⟩ : ∃ x1, x1 = X * innerOf t k := ⟨_, rfl⟩
                  obtain ⟨y1, hy1⟩ : ∃ y1, y1 = l * innerOf t k := ⟨_, rfl⟩
                  obtain ⟨ou, hou⟩ : ∃ ou, ou = outerOf t k := ⟨_, rfl⟩
                  have hNo : N = ou * (x1 + y1) := by rw [HN.out, prod_set HKT.out, hou, hx1, hy1, ← Nat.add_mul, Nat.mul_assoc]
                  rw [← hx1, ← hy1] at HPQ
                  have HX1 := Lib.hid hx1
                  have HY1 := Lib.hid hy1
                  have HOU := Lib.hid hou
                  have HNO := Lib.hid hNo
                  have hok := glue_ok HT.out HU2.out HKT.out C6.out.symm (by rw [← HXE.out]; exact HG.out)
                  rw [← HXE.out] at hok
                  have hT : (glue k a b).da.length = N := by rw [hok.len, HN.out]
                  have HOK := Lib.hid hok
                  obtain ⟨T, eT⟩ : ∃ T, T = (glue k a b).da := ⟨_, rfl⟩
                  rw [← eT] at hT
                  have HTL := Lib.hid hT
                  have HTE := Lib.hid eT
                  clear hx1 hy1 hou hNo hok hT eT
                  have g1 := HI1.out.below hbx
                  have g2 := HI2.out.below hbx
                  have g3 := Mine.mono HM3.out hbx
                  obtain ⟨z0, z1, z2⟩ := g1.three
                  go_wp2_with fail
                  generalize decide (j < a.sh.length) = bj
                  clear z0 z1 z2 t0 t1 t2 u0 u1 u2 hge hj hkj
                  have hla : a.da.length = ou * x1 := by
                    have e := prod_set (t := t) (k := k) (x := t.getD k 0) HKT.out
                    rw [set_getD] at e
                    rw [HT.out.len, e, HOU.out, HX1.out, HXE.out, Nat.mul_assoc]
                  have hlb : b.da.length = ou * y1 := by rw [HU2.out.len, prod_set HKT.out, HOU.out, HY1.out, Nat.mul_assoc]
                  have HDA := Lib.hid hla
                  have HDB := Lib.hid hlb
                  clear hla hlb
                  obtain ⟨wo, rfl⟩ : ∃ wo : World, wo = wr := ⟨_, rfl⟩
                  go_loopw [19, 20] (fun s19 s20 wy => ∃ (r : Nat) (A2 : Option Addr) (c2 : Nat), r ≤ ou ∧ s19 = .int .i64 ((r * x1 : Nat) : Int) ∧ s20 = .int .i64 ((r * y1 : Nat) : Int) ∧ Box wy g 25 #[.bool a.ch, .slice (some ⟨gs, 0, none⟩) a.sh.length cs, .slice A2 (r * (x1 + y1)) c2] ∧
                      Owns wy (gs + 1) (.slice A2 (r * (x1 + y1)) c2) (r * (x1 + y1)) (T.take (r * (x1 + y1))) ∧ Mine wy gs a.sh.length cs (ints (t.set k (X + l))) ∧ Below w.heap.size w wy ∧ Box wy w.heap.size 25 #[.bool a.ch, .slice A a.sh.length ca, .slice D a.da.length cd] ∧ Box wy (w.heap.size + 1) 25 #[.bool b.ch, .slice (some be) b.sh.length ca', .slice D' b.da.length cd'] ∧ Box wy (w.heap.size + 1 + 1) 25 #[.bool false, .slice none 0 0, .slice none 0 0])
                      (fun s19 s20 _ => N - ((intOf s19).toNat + (intOf s20).toNat))
                  case atStart => exact ⟨0, _, _, Nat.zero_le _, by simp, by simp, by rw [Nat.zero_mul]; exact g1, by rw [Nat.zero_mul, List.take_zero]; exact g2, g3, hbw, b2A.below hbx, b2B.below hbx, b2R.below hbx⟩
                  case round =>
                    clear g1 g2 g3 hbw hbx b2A b2B b2R
                    obtain ⟨r, A2, c2, hr, rfl, rfl, h1, h2, h3, hbl, bA, bB, bR⟩ := hrel
                    rcases Nat.lt_or_ge (r * (x1 + y1)) N with hlt | hge
                    · have hn0 : N ≠ 0 := by omega
                      obtain ⟨rfl, rfl⟩ := HPQ.out hn0
                      have hro : r < ou := by
                        rcases Nat.lt_or_ge r ou with h | h
                        · exact h
                        · have h2 := Nat.mul_le_mul_right (x1 + y1) h
                          rw [← HNO.out] at h2
                          omega
                      have hP1 : (r + 1) * (x1 + y1) ≤ N := by rw [HNO.out]; exact Nat.mul_le_mul_right _ hro
                      have hP2 : (r + 1) * (x1 + y1) = r * (x1 + y1) + x1 + y1 := by rw [Nat.add_mul, Nat.one_mul, Nat.add_assoc]
                      have hA1 : (r + 1) * x1 ≤ a.da.length := by rw [HDA.out]; exact Nat.mul_le_mul_right _ hro
                      have hB1 : (r + 1) * y1 ≤ b.da.length := by rw [HDB.out]; exact Nat.mul_le_mul_right _ hro
                      have hA2 : (r + 1) * x1 = r * x1 + x1 := by rw [Nat.add_mul, Nat.one_mul]
                      have hB2 : (r + 1) * y1 = r * y1 + y1 := by rw [Nat.add_mul, Nat.one_mul]
                      obtain ⟨L1, hL1⟩ : ∃ L1, L1 = r * x1 := ⟨_, rfl⟩
                      obtain ⟨M1, hM1⟩ : ∃ M1, M1 = r * y1 := ⟨_, rfl⟩
                      obtain ⟨P, hP⟩ : ∃ P, P = r * (x1 + y1) := ⟨_, rfl⟩
                      have hf1 := glue_take1 HT.out HU2.out HKT.out (by rw [← HOU.out]; exact hro) (by rw [HX1.out, HXE.out]) HY1.out hP hL1
                      have hf2 := glue_take2 HT.out HU2.out HKT.out (by rw [← HOU.out]; exact hro) (by rw [HX1.out, HXE.out]) HY1.out hP hM1
                      rw [← HTE.out] at hf1 hf2
                      have HF1 := Lib.hid hf1
                      have HF2 := Lib.hid hf2
                      rw [← hL1, ← hM1]
                      rw [← hP] at h1 h2 hlt hP2
                      rw [← hL1] at hA2
                      rw [← hM1] at hB2
                      have HR1 := Lib.hid hP2
                      have HR2 := Lib.hid (show ((((r + 1) * x1 : Nat)) : Int) = (L1 : Int) + (x1 : Int) by rw [hA2]; simp)
                      have HR3 := Lib.hid (show ((((r + 1) * y1 : Nat)) : Int) = (M1 : Int) + (y1 : Int) by rw [hB2]; simp)
                      have bP : P + x1 + y1 ≤ N := by omega
                      have bL : L1 + x1 ≤ a.da.length := by omega
                      have bM : M1 + y1 ≤ b.da.length := by omega
                      have hxy : L1 + M1 = P := by rw [hL1, hM1, hP, Nat.mul_add]
                      have hD4 : a.da.length ≤ 4096 := by rw [HT.out.len]; exact HT.out.good.2.2
                      have hE4 : b.da.length ≤ 4096 := by rw [HU2.out.len]; exact HU2.out.good.2.2
                      have hpos : 0 < x1 + y1 := by
                        rcases Nat.eq_zero_or_pos (x1 + y1) with h | h
                        · rw [h, Nat.mul_zero] at hP; rw [HNO.out, h, Nat.mul_zero] at hlt; omega
                        · exact h
                      have HRO := Lib.hid hro
                      clear hf1 hf2 hP2 hA2 hB2 hP1 hA1 hB1 hL1 hM1 hP hro hn0
                      have wX4 : IntKind.i64.wrap ((L1 : Int) + (x1 : Int)) = (L1 : Int) + (x1 : Int) := IntWalk.i64_in _ (by omega)
                      have wY4 : IntKind.i64.wrap ((M1 : Int) + (y1 : Int)) = (M1 : Int) + (y1 : Int) := IntWalk.i64_in _ (by omega)
                      obtain ⟨A3, hsl3, hel3, hn3⟩ := part_named (lo := some (.int .i64 (L1 : Int))) (hi := some (.int .i64 ((L1 : Int) + (x1 : Int)))) (L := L1) (H := L1 + x1) (Elems.mono DA.out hbl) DA0.out dd1 (.inr rfl) (.inr (by simp)) (by omega) (by omega)
                      have el3 : ((a.da.take (L1 + x1)).drop L1).length = x1 := by simp; omega
                      have He3 := Lib.hid hel3
                      have Hn3 := Lib.hid hn3
                      have Hel3 := Lib.hid el3
                      rw [show L1 + x1 - L1 = x1 by omega] at hsl3
                      obtain ⟨t0, t1, t2⟩ := bA.three
                      obtain ⟨g0, g1, g2⟩ := h1.three
                      have gf := h1.frozen
                      have gl := h1.lt
                      have hsz := hbl.size
                      have dPN : decide ((P : Int) < (N : Int)) = true := by simp; omega
                      clear hel3 hn3 el3
                      go_wp2_with fail
                      go_region_law
                        ((refine step_append_ints _ rfl rfl _ _ (by rfl) (gs + 1) P _ (T.take P) (by rfl) (h2.drewN _) A3 x1 _ ((a.da.take (L1 + x1)).drop L1) (by rfl) Hn3.out He3.out Hel3.out (by omega) (by simp; omega) ?_; intro A4 c4 w4 hown4 hgrow4 hat4; have b4 := Box.grown (w := wr.drewN _) (h1.drewN _) hgrow4 (h2.ne_box h1 (by decide)); have hc4 := b4.three.2.2; have hf4 := b4.frozen 2))
                      all_goals
                        obtain ⟨m1, m2, m3, m4, m5⟩ := join_step h1 h2 h3 hgg1 hbl (by omega) (by omega) hgrow4 hown4
                        rw [HF1.out] at m2
                        have n1 := m5 _ _ _ (by omega) bA
                        have n2 := m5 _ _ _ (by omega) bB
                        have n3 := m5 _ _ _ (by omega) bR
                        clear m5 hown4 hgrow4 hat4 b4 hc4 hf4 h1 h2 h3 hbl bA bB bR t0 t1 t2 g0 g1 g2 gf gl hsz hsl3 He3 Hn3 Hel3 wX4
                        generalize w4.setCell ⟨g, 2, none⟩ (.slice A4 (P + x1) c4) = wz at m1 m2 m3 m4 n1 n2 n3 ⊢
                        obtain ⟨A5, hsl5, hel5, hn5⟩ := part_named (lo := some (.int .i64 (M1 : Int))) (hi := some (.int .i64 ((M1 : Int) + (y1 : Int)))) (L := M1) (H := M1 + y1) (Elems.mono DB.out m4) DB0.out f1 (.inr rfl) (.inr (by simp)) (by omega) (by omega)
                        have el5 : ((b.da.take (M1 + y1)).drop M1).length = y1 := by simp; omega
                        have He5 := Lib.hid hel5
                        have Hn5 := Lib.hid hn5
                        have Hel5 := Lib.hid el5
                        rw [show M1 + y1 - M1 = y1 by omega] at hsl5
                        obtain ⟨u0, u1, u2⟩ := n2.three
                        obtain ⟨g0, g1, g2⟩ := m1.three
                        have gf := m1.frozen
                        have gl := m1.lt
                        have hsz := m4.size
                        clear hel5 hn5 el5
                        go_wp2_with fail
                        go_region_law
                          ((refine step_append_ints _ rfl rfl _ _ (by rfl) (gs + 1) (P + x1) _ (T.take (P + x1)) (by rfl) (m2.drewN _) A5 y1 _ ((b.da.take (M1 + y1)).drop M1) (by rfl) Hn5.out He5.out Hel5.out (by omega) (by simp; omega) ?_; intro A6 c6 w6 hown6 hgrow6 hat6; have b6 := Box.grown (w := wz.drewN _) (m1.drewN _) hgrow6 (m2.ne_box m1 (by decide)); have hc6 := b6.three.2.2; have hf6 := b6.frozen 2))
                        all_goals
                          have wX4 : IntKind.i64.wrap ((L1 : Int) + (x1 : Int)) = (L1 : Int) + (x1 : Int) := IntWalk.i64_in _ (by omega)
                          obtain ⟨o1, o2, o3, o4, o5⟩ := join_step m1 m2 m3 hgg1 m4 (by omega) (by omega) hgrow6 hown6
                          rw [HF2.out] at o2
                          have p1 := o5 _ _ _ (by omega) n1
                          have p2 := o5 _ _ _ (by omega) n2
                          have p3 := o5 _ _ _ (by omega) n3
                          go_wp2_with fail
                          go_roundw
                          case rel => exact ⟨r + 1, A6, c6, HRO.out, by rw [HR2.out], by rw [HR3.out], by rw [HR1.out]; exact o1, by rw [HR1.out]; exact o2, o3, o4, p1, p2, p3⟩
                          case measure => simp [intOf]; omega
                    · have hPN : r * (x1 + y1) = N := by
                        have h4 := Nat.mul_le_mul_right (x1 + y1) hr
                        rw [← HNO.out] at h4
                        omega
                      rw [hPN] at h1 h2
                      rw [List.take_of_length_le (by rw [HTL.out]; exact Nat.le_refl _)] at h2
                      have iD := h2.isInts
                      have iS := h3.isInts
                      have hia : IsArr wr (.agg #[.bool a.ch, .slice (some ⟨gs, 0, none⟩) a.sh.length cs, .slice A2 N c2]) (glue k a b) := ⟨_, _, rfl, (by rw [HOK.out.sh]; exact iS), (by rw [← HTE.out]; exact iD)⟩
                      have HIA := Lib.hid hia
                      obtain ⟨g0, g1, g2⟩ := h1.three
                      obtain ⟨q0, q1, q2⟩ := bR.three
                      have gl := h1.lt
                      have gf := h1.frozen
                      have zl := bR.lt
                      have zf := bR.frozen
                      have dPN : decide ((N : Int) < (N : Int)) = false := by simp
                      have HNV := Lib.hid (newV (b := a.ch) (block_from (B := w.heap.size) (g := gs) (o := 0) (n := a.sh.length) (c := cs) (by omega)) (h2.from_ (B' := w.heap.size) (by omega)))
                      clear hia iS iD hPN
                      go_wp2_with fail
                      refine bodyPost_ret (v := .tuple #[.agg #[.bool a.ch, .slice (some ⟨gs, 0, none⟩) a.sh.length cs, .slice A2 N c2], .nilIface]) (by simp [results, Tryz.results184, go_sem, zl, q0, q1, q2]; first | done | rfl | exact ⟨rfl, rfl, rfl⟩) rfl ?_
                      rw [show ((k : Nat) : Int).toNat = k by omega]
                      exact .inl ⟨HJ0.out, _, rfl, IsArr.laid HIA.out bR _ _ _, by have := hbl.size; go_grown, HNV.out⟩

end Go.Proofs.YtihndbkaoejnnaaGreatDoor
