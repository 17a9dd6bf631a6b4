/- The walks of package turn, second part: moved, Reverse, Rotate. Conditions: none. -/
import Derived.Test.YtlnnpcpgknfcgaaTurn
import Derived.Deep.DeepCutAuto
import Derived.Test.YtlnnpcpgknfcgaaFunnel
import Derived.Test.YtlnnpcpgknfcgaaArrOf
set_option linter.unusedSimpArgs false
set_option linter.unusedVariables false
namespace Go.Proofs.Ytlnnpcpgknfcgaa
open Go Go.RowKit Go.Proofs.Ytlnnpcpgknfcgaa.P

set_option maxHeartbeats 400000 in
theorem reverse1_any (i l : Nat) (b : Nat) (o n : Value) (w : World) (hb : Box w b 38 #[o, .int .i64 l, n]) (hl : l ≤ 4096) (hi : i < l) :
    Calls Try.prog 13 #[.int .i64 i, .pointer (some ⟨b, 0, none⟩)] w fun e w' => e = .returned (.int .i64 ((l - 1 - i : Nat) : Int)) ∧ w = w' := by
  obtain ⟨q0, q1, q2⟩ := hb.three
  go_enter Try.func13, Try.ntmps13
  go_wp2
  go_ret
  exact ⟨ret_int (by omega), rfl⟩

/-- make([]int, 0, n), made known ahead of the walk. -/
theorem run_make_ints (n : Nat) (hn : n ≤ 35184372088832) (w : World) :
    (Instr.makeSlice 23 (.int .i64 0) (.int .i64 n)).run Try.prog w = .ok (.slice (some ⟨w.heap.size, 0, none⟩) 0 n) (w.alloc (.cells (madeCells #[.int .i64 0] n) 3)) := by
  obtain ⟨i0, hi, hz0, hz1, hz2⟩ := info_parts int_info
  have hr := run_make (P := Try.prog) w 23 3 i0 (.int .i64 0) Try.underlying23 hi hz0 .i64 .i64 0 n (by omega) (by omega) (by rw [hz2]; omega) (by omega)
  rw [hz1] at hr
  simp only [Int.toNat_natCast, Int.toNat_zero, Nat.mul_one] at hr
  exact hr

theorem quiet_call {P : Program} {f : FuncId} {args : Array Value} {w : World} {v : Value} (h : Calls P f args w fun e w' => e = .returned v ∧ w = w') : Calls P f args w fun e w' => e = .returned v ∧ w' = w := h.mono fun _ _ ⟨he, hw⟩ => ⟨he, hw.symm⟩

/-- What the loops of 'moved' keep: p cells have been laid. -/
def MovedInv (w : World) (o l n : Nat) (a : Arr) (A : Option Addr) (ca : Nat) (D : Option Addr) (cd g : Nat) (A' : Option Addr) (c' : Nat) (T : List Int) (p : Nat) (wr : World) : Prop :=
  ∃ A2 c2, Box wr g 25 #[.bool a.ch, .slice A' a.sh.length c', .slice A2 p c2] ∧ Owns wr (w.heap.size + 3) (.slice A2 p c2) p (T.take p) ∧ Owns wr (w.heap.size + 3) (.slice A' a.sh.length c') a.sh.length a.sh ∧
    ((Value.slice A' a.sh.length c').ownBlock = none ∨ (Value.slice A' a.sh.length c').ownBlock ≠ (Value.slice A2 p c2).ownBlock) ∧
    Box wr w.heap.size 38 #[.int .i64 o, .int .i64 l, .int .i64 n] ∧ Box wr (w.heap.size + 1) 25 #[.bool a.ch, .slice A a.sh.length ca, .slice D a.da.length cd] ∧
    Box wr (w.heap.size + 1 + 1) 25 #[.bool false, .slice none 0 0, .slice none 0 0] ∧ Below w.heap.size w wr

theorem moved_step {w : World} {o l n : Nat} {a : Arr} {A : Option Addr} {ca : Nat} {D : Option Addr} {cd g : Nat} {A' : Option Addr} {c' : Nat} {T L : List Int} {P k : Nat} {wr w4 : World} {A2 A4 : Option Addr} {c2 c4 : Nat}
    (h1 : Box wr g 25 #[.bool a.ch, .slice A' a.sh.length c', .slice A2 P c2]) (h2 : Owns wr (w.heap.size + 3) (.slice A2 P c2) P (T.take P)) (h3 : Owns wr (w.heap.size + 3) (.slice A' a.sh.length c') a.sh.length a.sh)
    (h4 : (Value.slice A' a.sh.length c').ownBlock = none ∨ (Value.slice A' a.sh.length c').ownBlock ≠ (Value.slice A2 P c2).ownBlock)
    (h5 : Box wr w.heap.size 38 #[.int .i64 o, .int .i64 l, .int .i64 n]) (h6 : Box wr (w.heap.size + 1) 25 #[.bool a.ch, .slice A a.sh.length ca, .slice D a.da.length cd])
    (h7 : Box wr (w.heap.size + 1 + 1) 25 #[.bool false, .slice none 0 0, .slice none 0 0]) (h8 : Below w.heap.size w wr) (hg : w.heap.size + 3 ≤ g)
    (hgrow : (wr.drewN k).grownBy w4 (Value.slice A2 P c2).ownBlock) (hown : Owns w4 (w.heap.size + 3) (.slice A4 (P + n) c4) (P + n) L) (hL : L = T.take (P + n))
    (hat : (Value.slice A4 (P + n) c4).ownBlock = (Value.slice A2 P c2).ownBlock ∨ (Value.slice A4 (P + n) c4).ownBlock = some wr.heap.size) :
    MovedInv w o l n a A ca D cd g A' c' T (P + n) (w4.setCell ⟨g, 2, none⟩ (.slice A4 (P + n) c4)) := by
  have b4 := Box.grown (w := wr.drewN k) (h1.drewN k) hgrow (h2.ne_box h1 (by decide))
  have hs4 := grownBy_setCell w4 g 2 (.slice A4 (P + n) c4)
  have h3' : Owns w4 (w.heap.size + 3) (.slice A' a.sh.length c') a.sh.length a.sh := (h3.drewN k).kept hgrow h4
  subst hL
  refine ⟨A4, c4, b4.store 2 _, hown.setCell (p := ⟨g, 2, none⟩) (hown.ne_box b4 (by decide)) _, h3'.setCell (p := ⟨g, 2, none⟩) (h3'.ne_box b4 (by decide)) _, ?_,
    (Box.grown (w := wr.drewN k) (h5.drewN k) hgrow (h2.ne_low (by omega))).grown hs4 (by simp; omega), (Box.grown (w := wr.drewN k) (h6.drewN k) hgrow (h2.ne_low (by omega))).grown hs4 (by simp; omega),
    (Box.grown (w := wr.drewN k) (h7.drewN k) hgrow (h2.ne_low (by omega))).grown hs4 (by simp; omega), ?_⟩
  · rcases h4 with h4 | h4
    · exact .inl h4
    · right
      rcases hat with hat | hat
      · rw [hat]; exact h4
      · rw [hat]
        intro e
        have := (h3.lt e).2
        omega
  · exact ((h8.trans (below_draws _ _ k)).grown hgrow (by have := h8.size; simpa using this) (fun j e => by have := (h2.lt e).1; omega)).setCell (p := ⟨g, 2, none⟩) (by simp; omega) _

theorem piece_bound {o l n x i N : Nat} (hN : N = o * l * n) (hx : x < o) (hi : i < l) : (x * l + i) * n + n ≤ N := by
  have h1 : (x + 1) * l ≤ o * l := Nat.mul_le_mul_right _ hx
  have h2 : x * l + i + 1 ≤ o * l := by rw [Nat.add_mul] at h1; omega
  have h3 := Nat.mul_le_mul_right n h2
  rw [hN]
  rw [Nat.add_mul (x * l + i) 1 n] at h3
  omega

set_option maxRecDepth 100000 in
set_option maxHeartbeats 4000000 in
theorem moved_any (o l n : Nat) (v : Value) (a : Arr) (F : Nat) (caps : Array Value) (f : Nat → Nat) (T : List Int) (w : World) (ha : IsArr w v a)
    (hF : ∀ i, i < l → ∀ W, Below w.heap.size w W → Calls Try.prog F (#[.int .i64 i] ++ caps) W fun e W' => e = .returned (.int .i64 (f i)) ∧ W = W')
    (hcf : ∀ args W, (callFunc F args).run Try.prog W = .ok (.enter F args) W) (hf : ∀ i, i < l → f i < l) (hlen : a.da.length = o * l * n) (hT : T.length = o * l * n) (hsmall : a.da.length ≤ 4096) (hol : o * l ≤ 4096) (ho' : o ≤ 4096) (hl' : l ≤ 4096) (hn : n ≤ 4096)
    (hcells : ∀ x i r, x < o → i < l → r < n → T[(x * l + i) * n + r]? = a.da[(x * l + f i) * n + r]?) :
    Calls Try.prog 12 #[lineV (o, l, n), v, .func (.func F) #[] caps] w (GivesN ⟨a.ch, a.sh, T⟩ w) := by
  obtain ⟨A, ca, D, cd, rfl, hs, hd⟩ := ha.open_
  obtain ⟨D0, cd0, eD, d1, d2, d3, d0, d4⟩ := id hd
  cases eD
  have D4 := Lib.hid d4
  have D0 := Lib.hid d0
  clear d4 d0
  have HF := Lib.hid hF
  have Hf := Lib.hid hf
  have Hc := Lib.hid hcells
  have Hl := Lib.hid hlen
  have HT := Lib.hid hT
  clear hF hf hcells hlen hT
  unfold lineV
  simp only []
  have hmk := run_make_ints a.da.length (by omega)
  have bL : Box (((w.alloc (.cells #[.int .i64 o, .int .i64 l, .int .i64 n] 38)).alloc (.cells #[.bool a.ch, .slice A a.sh.length ca, .slice D a.da.length cd] 25)).alloc (.cells #[.bool false, .slice none 0 0, .slice none 0 0] 25)) w.heap.size 38 #[.int .i64 o, .int .i64 l, .int .i64 n] := ((Box.new _ _ _).alloc _).alloc _
  have bA : Box (((w.alloc (.cells #[.int .i64 o, .int .i64 l, .int .i64 n] 38)).alloc (.cells #[.bool a.ch, .slice A a.sh.length ca, .slice D a.da.length cd] 25)).alloc (.cells #[.bool false, .slice none 0 0, .slice none 0 0] 25)) (w.heap.size + 1) 25 #[.bool a.ch, .slice A a.sh.length ca, .slice D a.da.length cd] := by simpa using (Box.new (w.alloc _) _ _).alloc _
  have bR : Box (((w.alloc (.cells #[.int .i64 o, .int .i64 l, .int .i64 n] 38)).alloc (.cells #[.bool a.ch, .slice A a.sh.length ca, .slice D a.da.length cd] 25)).alloc (.cells #[.bool false, .slice none 0 0, .slice none 0 0] 25)) (w.heap.size + 1 + 1) 25 #[.bool false, .slice none 0 0, .slice none 0 0] := by simpa using Box.new ((w.alloc _).alloc _) _ _
  obtain ⟨t0, t1, t2⟩ := bA.three
  go_enter Try.func12, Try.ntmps12
  go_wp2_with fail
  refine wp_region_open (fun i v lo hi w' => match i with
    | 0 => v = .pointer (some ⟨w.heap.size + 1, 0, none⟩)
    | 1 => v = .bool a.ch
    | 2 => v = .pointer (some ⟨w.heap.size + 1, 1, none⟩)
    | 3 => v = .slice A a.sh.length ca
    | 4 => ∃ A' c', v = .slice A' a.sh.length c' ∧ Owns w' lo v a.sh.length a.sh ∧ (∀ b, v.ownBlock = some b → b < hi) ∧ w.heap.size + 3 ≤ lo
    | 5 => v = .pointer (some ⟨w.heap.size + 1, 2, none⟩)
    | 6 => v = .slice D a.da.length cd
    | 7 => v = .int .i64 a.da.length
    | 8 => ∃ m, v = .slice (some ⟨m, 0, none⟩) 0 a.da.length ∧ Owns w' lo v 0 [] ∧ m < hi ∧ w.heap.size + 3 ≤ lo
    | 9 => ∃ A' c' m, v = .agg #[.bool a.ch, .slice A' a.sh.length c', .slice (some ⟨m, 0, none⟩) 0 a.da.length] ∧ Owns w' (w.heap.size + 3) (.slice A' a.sh.length c') a.sh.length a.sh ∧ Owns w' (w.heap.size + 3) (.slice (some ⟨m, 0, none⟩) 0 a.da.length) 0 [] ∧ (Value.slice A' a.sh.length c').ownBlock ≠ some m
    | 10 => ∃ g, v = .pointer (some ⟨g, 0, none⟩) ∧ Box w' g 25 #[.bool false, .slice none 0 0, .slice none 0 0] ∧ w.heap.size + 3 ≤ g
    | _ => True) (by kernel_rfl) (by kernel_rfl) (by kernel_rfl) ?hV ?step ?last
  case hV =>
    intro i v lo hi w1 w2 h hb
    match i, h with
    | 0, h => exact h
    | 1, h => exact h
    | 2, h => exact h
    | 3, h => exact h
    | 4, ⟨A', c', e, ho, hl, hz⟩ => exact ⟨A', c', e, ho.below hb, hl, hz⟩
    | 5, h => exact h
    | 6, h => exact h
    | 7, h => exact h
    | 8, ⟨m, e, ho, hl, hz⟩ => exact ⟨m, e, ho.below hb, hl, hz⟩
    | 9, ⟨A', c', m, e, ho, ho', hne⟩ => exact ⟨A', c', m, e, ho.below hb, ho'.below hb, hne⟩
    | 10, ⟨g, e, hx, hz⟩ => exact ⟨g, e, hx.below hb, hz⟩
    | i + 11, _ => trivial
  case step =>
    simp only [putAll, Act.put, List.setIfInBounds_toArray, List.set_cons_zero, List.set_cons_succ, Nat.reduceAdd, Nat.zero_add]
    intro i o ho hi u lo up wr hbr hd hj K hK
    obtain ⟨hcw, hfw⟩ := bcell hbr
    match i, ho with
    | 0, ho =>
      simp only [List.getElem?_cons_zero, Option.some.injEq] at ho
      subst ho
      first | (simp [Region.binds] at hd; simp only [hd] at hK) | skip
      refine wpOp_step rfl fun K' hK' => ?_
      go_simp
      exact hK' _ _ (hK _ _ (Below.refl _ _) rfl)
    | 1, ho =>
      simp only [List.getElem?_cons_succ, List.getElem?_cons_zero, Option.some.injEq] at ho
      subst ho
      first | (simp [Region.binds] at hd; simp only [hd] at hK) | skip
      refine wpOp_step rfl fun K' hK' => ?_
      go_simp
      exact hK' _ _ (hK _ _ (Below.refl _ _) rfl)
    | 2, ho =>
      simp only [List.getElem?_cons_succ, List.getElem?_cons_zero, Option.some.injEq] at ho
      subst ho
      first | (simp [Region.binds] at hd; simp only [hd] at hK) | skip
      refine wpOp_step rfl fun K' hK' => ?_
      go_simp
      exact hK' _ _ (hK _ _ (Below.refl _ _) rfl)
    | 3, ho =>
      simp only [List.getElem?_cons_succ, List.getElem?_cons_zero, Option.some.injEq] at ho
      subst ho
      first | (simp [Region.binds] at hd; simp only [hd] at hK) | skip
      refine wpOp_step rfl fun K' hK' => ?_
      go_simp
      exact hK' _ _ (hK _ _ (Below.refl _ _) rfl)
    | 4, ho =>
      simp only [List.getElem?_cons_succ, List.getElem?_cons_zero, Option.some.injEq] at ho
      subst ho
      simp [Region.binds] at hd
      simp only [hd] at hK
      refine wpOp_step rfl fun K' hK' => ?_
      go_simp
      refine (clone_any _ a.sh _ (hs.mono ((below_three _ _ _ _).trans (hbr.mono (by simp <;> omega))))).mono ?_
      rintro e w1 ⟨A1, c1, rfl, ho, hb1⟩
      have hz := hbr.size
      simp only [World.size_alloc] at hz
      exact hK' _ _ (hK _ _ hb1 ⟨A1, c1, rfl, ho, fun b e => (ho.lt e).2, by omega⟩)
    | 5, ho =>
      simp only [List.getElem?_cons_succ, List.getElem?_cons_zero, Option.some.injEq] at ho
      subst ho
      first | (simp [Region.binds] at hd; simp only [hd] at hK) | skip
      refine wpOp_step rfl fun K' hK' => ?_
      go_simp
      exact hK' _ _ (hK _ _ (Below.refl _ _) rfl)
    | 6, ho =>
      simp only [List.getElem?_cons_succ, List.getElem?_cons_zero, Option.some.injEq] at ho
      subst ho
      first | (simp [Region.binds] at hd; simp only [hd] at hK) | skip
      refine wpOp_step rfl fun K' hK' => ?_
      go_simp
      exact hK' _ _ (hK _ _ (Below.refl _ _) rfl)
    | 7, ho =>
      simp only [List.getElem?_cons_succ, List.getElem?_cons_zero, Option.some.injEq] at ho
      subst ho
      first | (simp [Region.binds] at hd; simp only [hd] at hK) | skip
      refine wpOp_step rfl fun K' hK' => ?_
      go_simp
      exact hK' _ _ (hK _ _ (Below.refl _ _) rfl)
    | 8, ho =>
      simp only [List.getElem?_cons_succ, List.getElem?_cons_zero, Option.some.injEq] at ho
      subst ho
      simp [Region.binds] at hd
      simp only [hd] at hK
      have hz := hbr.size
      simp only [World.size_alloc] at hz
      skip
      refine wpOp_step rfl fun K' hK' => ?_
      go_simp
      exact hK' _ _ (hK _ _ (below_one _ _) ⟨_, rfl, ⟨World.ownsRow_made _ _ _ (Nat.le_refl _) (by unfold maxLen; omega) (by simp [size_madeCells]), by omega⟩, by simp, by omega⟩)
    | 9, ho =>
      simp only [List.getElem?_cons_succ, List.getElem?_cons_zero, Option.some.injEq] at ho
      subst ho
      have h1 : u 1 = .bool a.ch := hd ⟨1, .data⟩ (by simp) rfl
      obtain ⟨A', c', e4, o4, l4, z4⟩ := hd ⟨4, .data⟩ (by simp) rfl
      obtain ⟨m, e8, o8, l8, z8⟩ := hd ⟨8, .data⟩ (by simp) rfl
      have hdj := hj ⟨4, .data⟩ (by simp) ⟨8, .data⟩ (by simp) rfl rfl (by simp)
      dsimp only at hdj o4 l4 z4 o8 l8 z8
      simp only [h1, e4, e8] at hK
      rw [e4] at o4 l4
      rw [e8] at o8
      have hne : (Value.slice A' a.sh.length c').ownBlock ≠ some m := fun e => by have h1 := (o4.lt e).1; have h2 := l4 m e; have h3 := (o8.lt (k := m) rfl).1; omega
      refine wpOp_step rfl fun K' hK' => ?_
      go_simp
      exact hK' _ _ (hK _ _ (Below.refl _ _) ⟨A', c', m, rfl, o4.base (by omega), o8.base (by omega), hne⟩)
    | 10, ho =>
      simp only [List.getElem?_cons_succ, List.getElem?_cons_zero, Option.some.injEq] at ho
      subst ho
      have hz := hbr.size
      simp only [World.size_alloc] at hz
      refine wpOp_step rfl fun K' hK' => ?_
      go_simp
      exact hK' _ _ (hK _ _ (below_one _ _) ⟨_, rfl, Box.new _ _ _, by omega⟩)
    | i + 11, ho => simp at hi; omega
  case last =>
    simp only [putAll, Act.put, List.setIfInBounds_toArray, List.set_cons_zero, List.set_cons_succ, Nat.reduceAdd, Nat.zero_add]
    intro u wr lo up hbr hv hj
    obtain ⟨A', c', m, e9, o4, o8, hne⟩ := hv 9 (by simp)
    obtain ⟨g, e10, bg, hg⟩ := hv 10 (by simp)
    obtain ⟨g0, g1, g2⟩ := bg.three
    have gf := bg.frozen
    simp only [e9, e10]
    clear hv hj e9 e10
    refine wpOp_step rfl fun K' hK' => ?_
    go_simp
    refine hK' _ _ ?_
    have hbw := (below_three w _ _ _).trans (hbr.mono (by simp <;> omega))
    have hgg := grownBy_three wr g (.bool a.ch) (.slice A' a.sh.length c') (.slice (some ⟨m, 0, none⟩) 0 a.da.length)
    have hinv : MovedInv w o l n a A ca D cd g A' c' T 0 (((wr.setCell ⟨g, 0, none⟩ (.bool a.ch)).setCell ⟨g, 1, none⟩ (.slice A' a.sh.length c')).setCell ⟨g, 2, none⟩ (.slice (some ⟨m, 0, none⟩) 0 a.da.length)) :=
      ⟨_, _, ((bg.store 0 _).store 1 _).store 2 _, by rw [List.take_zero]; exact o8.kept hgg (.inr (o8.ne_box bg (by decide))), o4.kept hgg (.inr (o4.ne_box bg (by decide))), .inr hne,
        (bL.below hbr).grown hgg (by simp; omega), (bA.below hbr).grown hgg (by simp; omega), (bR.below hbr).grown hgg (by simp; omega), hbw.grown hgg hbw.size (fun j e => by cases e; omega)⟩
    clear hbr hgg o4 o8 hne bg g0 g1 g2 gf hbw bL bA bR t0 t1 t2 hmk
    generalize (((wr.setCell ⟨g, 0, none⟩ (.bool a.ch)).setCell ⟨g, 1, none⟩ (.slice A' a.sh.length c')).setCell ⟨g, 2, none⟩ (.slice (some ⟨m, 0, none⟩) 0 a.da.length)) = W2 at hinv ⊢
    have l0 : ∀ p wx, MovedInv w o l n a A ca D cd g A' c' T p wx → wx.cell? ⟨w.heap.size, 0, none⟩ = some (.int .i64 o) ∧ wx.cell? ⟨w.heap.size, 1, none⟩ = some (.int .i64 l) ∧ wx.cell? ⟨w.heap.size, 2, none⟩ = some (.int .i64 n) := by
      rintro p wx ⟨A2, c2, h1, h2, h3, h4, h5, h6, h7, h8⟩
      exact h5.three
    have L0 := Lib.hid l0
    have Hinv := Lib.hid hinv
    obtain ⟨q0, q1, q2⟩ := l0 _ _ hinv
    clear l0 hinv
    go_wp2
    go_loopw [23] (fun s wx => ∃ x : Nat, x ≤ o ∧ s = .int .i64 x ∧ MovedInv w o l n a A ca D cd g A' c' T (x * l * n) wx) (fun s _ => o - (intOf s).toNat)
    case atStart => exact ⟨0, Nat.zero_le _, rfl, by simpa using Hinv.out⟩
    case round =>
      obtain ⟨x, hx, rfl, hi⟩ := hrel
      obtain ⟨r0, r1, r2⟩ := L0.out _ _ hi
      rcases Nat.lt_or_ge x o with hxo | hxo
      · have Hi := Lib.hid hi
        clear hi
        go_wp2
        obtain ⟨wo, rfl⟩ : ∃ wo : World, wo = wr := ⟨_, rfl⟩
        go_loopw [28] (fun s wx => ∃ i : Nat, i ≤ l ∧ s = .int .i64 i ∧ MovedInv w o l n a A ca D cd g A' c' T ((x * l + i) * n) wx) (fun s _ => l - (intOf s).toNat)
        case atStart => exact ⟨0, Nat.zero_le _, rfl, by simpa using Hi.out⟩
        case round =>
          obtain ⟨i, hi, rfl, hv⟩ := hrel
          obtain ⟨k0, k1, k2⟩ := L0.out _ _ hv
          rcases Nat.lt_or_ge i l with hil | hil
          · obtain ⟨A2, c2, h1, h2, h3, h4, h5, h6, h7, h8⟩ := hv
            obtain ⟨j0, j1, j2⟩ := h6.three
            obtain ⟨g0, g1, g2⟩ := h1.three
            have gf := h1.frozen
            have hfl := Hf.out i hil
            have hcall := HF.out i hil
            have hpb := piece_bound Hl.out hxo hfl
            have hxl : x * l + f i < o * l := by
              have e1 : (x + 1) * l ≤ o * l := Nat.mul_le_mul_right _ hxo
              rw [Nat.add_mul] at e1; omega
            obtain ⟨y, hy⟩ : ∃ y, y = f i := ⟨_, rfl⟩
            rw [← hy] at hcall hpb hxl
            have Hy := Lib.hid hy
            obtain ⟨X1, hX1⟩ : ∃ X1 : Nat, X1 = x * l := ⟨_, rfl⟩
            obtain ⟨at_, hat_⟩ : ∃ m : Nat, m = (x * l + y) * n := ⟨_, rfl⟩
            have e1 : (x : Int) * (l : Int) = (X1 : Int) := by rw [hX1]; simp
            have e3 : ((X1 : Int) + (y : Int)) * (n : Int) = (at_ : Int) := by rw [hX1, hat_]; simp
            have b1' : X1 ≤ 4096 := by omega
            have b2' : X1 + y ≤ 4096 := by omega
            have b3' : at_ + n ≤ a.da.length := by omega
            have wX2 : IntKind.i64.wrap ((X1 : Int) + (y : Int)) = (X1 : Int) + (y : Int) := IntWalk.i64_in _ (by omega)
            have wX3 : IntKind.i64.wrap (at_ : Int) = (at_ : Int) := IntWalk.i64_in _ (by omega)
            have wX4 : IntKind.i64.wrap ((at_ : Int) + (n : Int)) = (at_ : Int) + (n : Int) := IntWalk.i64_in _ (by omega)
            obtain ⟨P, hP⟩ : ∃ P : Nat, P = (x * l + i) * n := ⟨_, rfl⟩
            rw [← hP] at h1 h2 h4 g2
            have bP : P + n ≤ a.da.length := by rw [hP]; exact piece_bound Hl.out hxo hil
            have HP := Lib.hid hP
            clear hP
            obtain ⟨A3, hsl3, hel3, hn3⟩ := part_named (lo := some (.int .i64 (at_ : Int))) (hi := some (.int .i64 ((at_ : Int) + (n : Int)))) (L := at_) (H := at_ + n) (Elems.mono D4.out h8) D0.out d1 (.inr rfl) (.inr (by simp)) (by omega) (by omega)
            have el3 : ((a.da.take (at_ + n)).drop at_).length = n := by simp; omega
            have He3 := Lib.hid hel3
            have Hn3 := Lib.hid hn3
            have Hel3 := Lib.hid el3
            have hsz := h8.size
            have hgs := h1.lt
            have hcs : at_ + n - at_ = n := by omega
            rw [hcs] at hsl3
            clear hel3 hn3 el3 hcs
            have Hx1 := Lib.hid hX1
            have Hat := Lib.hid hat_
            have Hc' := Lib.hid hcall
            clear hy hX1 hat_ hcall hpb hxl
            go_wp2
            have hbr := h8
            have wX1 : IntKind.i64.wrap (X1 : Int) = (X1 : Int) := IntWalk.i64_in _ (by omega)
            go_quiet ((exact Calls.quiet_of_same (quiet_call (Hc'.out _ (h8.trans (below_draws _ _ _))))))
            go_wp2
            have hfin : T.take P ++ (a.da.take (at_ + n)).drop at_ = T.take (P + n) := by
              rw [List.drop_take, show at_ + n - at_ = n by omega]
              refine take_piece fun r hr => ?_
              rw [HP.out, Hc.out x i r hxo hil hr, Hat.out, Hy.out]
            have hnext : P + n = (x * l + (i + 1)) * n := by rw [HP.out, ← Nat.add_assoc, Nat.add_mul _ 1 n, Nat.one_mul]
            have Hfin := Lib.hid hfin
            have Hnext := Lib.hid hnext
            clear hfin hnext
            go_region_law
              ((refine step_append_ints _ rfl rfl _ _ (by rfl) (w.heap.size + 3) P _ (T.take P) (by rfl) (h2.drewN _) A3 n _ ((a.da.take (at_ + n)).drop at_) (by rfl) Hn3.out He3.out Hel3.out (by omega) (by simp; omega) ?_; intro A4 c4 w4 hown4 hgrow4 hat4; have b4 := Box.grown (w := wr.drewN _) (h1.drewN _) hgrow4 (h2.ne_box h1 (by decide)); have hc4 := b4.three.2.2; have hf4 := b4.frozen 2))
            all_goals
              go_wp2
              go_roundw
              case rel => exact ⟨i + 1, by omega, by go_num, Hnext.out ▸ moved_step h1 h2 h3 h4 h5 h6 h7 h8 hg hgrow4 hown4 Hfin.out (by simpa using hat4)⟩
              case measure => simp [intOf]; omega
          · have hil' : i = l := by omega
            have Hv := Lib.hid hv
            have Hil := Lib.hid hil'
            clear hv hil'
            go_wp2
            go_roundw
            case rel => exact ⟨x + 1, by omega, by go_num, (show (x + 1) * l * n = (x * l + i) * n by rw [Hil.out, Nat.add_mul, Nat.one_mul]) ▸ Hv.out⟩
            case measure => simp [intOf]; omega
      · obtain ⟨A2, c2, h1, h2, h3, h4, h5, h6, h7, h8⟩ := hi
        obtain ⟨j0, j1, j2⟩ := h7.three
        obtain ⟨g0, g1, g2⟩ := h1.three
        have jf := h7.frozen
        have hxo' : x = o := by omega
        have Hxo := Lib.hid hxo'
        clear hxo'
        go_wp2
        refine bodyPost_ret (v := .agg #[.bool a.ch, .slice A' a.sh.length c', .slice A2 (x * l * n) c2]) (by simp [results, Try.results12, go_sem, j0, j1, j2]) rfl ?_
        have hg2 := grownBy_three wr (w.heap.size + 1 + 1) (.bool a.ch) (.slice A' a.sh.length c') (.slice A2 (x * l * n) c2)
        have hT2 : T.take (x * l * n) = T := List.take_of_length_le (by rw [HT.out, Hxo.out]; exact Nat.le_refl _)
        have d1 := (h3.kept hg2 (.inr (h3.ne_low (by omega)))).isInts
        have d2 := (h2.kept hg2 (.inr (h2.ne_low (by omega)))).isInts
        rw [hT2] at d2
        exact ⟨_, rfl, ⟨_, _, rfl, d1, d2⟩, h8.grown hg2 h8.size (fun j e => by cases e; omega), ⟨_, _, _, _, _, _, _, rfl, fun k e => by have := (h3.lt e).1; omega, fun k e => by have := (h2.lt e).1; omega⟩⟩

end Go.Proofs.Ytlnnpcpgknfcgaa
