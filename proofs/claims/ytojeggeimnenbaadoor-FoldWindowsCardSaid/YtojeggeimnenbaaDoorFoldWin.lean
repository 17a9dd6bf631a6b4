/- The walk of fold.Windows. Conditions: none but these. -/
import Derived.Test.YtojeggeimnenbaaDoorFoldReduce
import Derived.Test.YtojeggeimnenbaaDoorFoldBad
import Derived.Test.YtojeggeimnenbaaDoorGround
set_option linter.unusedSimpArgs false
set_option linter.unusedVariables false
namespace Go.Proofs.YtojeggeimnenbaaDoor
open Go Go.RowKit Go.Proofs.YtojeggeimnenbaaDoor.P
theorem from_any (k : Nat) (W : World) : Calls Tryd.prog 41 (#[.int .i64 k] ++ #[]) W fun e W' => e = .returned (.int .i64 ((k : Nat) : Int)) ∧ W = W' := by
  simp only [List.append_toArray, List.append_nil]
  go_enter Tryd.func41, Tryd.ntmps41
  go_wp2_with fail
  go_ret
  exact ⟨rfl, rfl⟩
theorem many_any {W : World} {g : Nat} {i n : Int} (hb : Box W g 3 #[.int .i64 n]) : Calls Tryd.prog 42 (#[.int .i64 i] ++ #[.pointer (some ⟨g, 0, none⟩)]) W fun e W' => e = .returned (.int .i64 n) ∧ W = W' := by
  have t0 := hb.one
  simp only [List.append_toArray, List.cons_append, List.nil_append]
  go_enter Tryd.func42, Tryd.ntmps42
  go_wp2_with fail
  go_ret
  exact ⟨rfl, rfl⟩

/-- The lines of windows. -/
noncomputable def lnW (a : Arr) (t : List Nat) (k m : Nat) : Nat → List Int := lnAt a.da (t.getD k 0) (lineF t k).2.2 (t.getD k 0 - m + 1) (fun j => j) (fun _ => m)
def WinTells (f n : Int) (a : Arr) (t : List Nat) (k : Nat) (w : World) (e : Ending) (w' : World) : Prop :=
  ((n < 1 ∨ (t.getD k 0 : Int) < n) ∧ Fails zeroArr 4 w e w') ∨
  (1 ≤ n ∧ n ≤ (t.getD k 0 : Int) ∧ FoldTells f (lnW a t k n.toNat) ((lineF t k).1 * (t.getD k 0 - n.toNat + 1) * (lineF t k).2.2) (a.sh.set k ((t.getD k 0 - n.toNat + 1 : Nat) : Int)) w e w')

set_option maxRecDepth 100000 in
set_option maxHeartbeats 4000000 in
theorem windows_ok {v : Value} {a : Arr} {t : List Nat} {w : World} {f : Int} {k : Nat} (n : Int) (ha : IsArr w v a) (h : Ok a t) (hk : k < t.length) (hf : twoE f 0 1 = 0) (hc : a.ch = false) (hw : Wf a.da) :
    Calls Tryd.prog 15 #[.int .i64 f, .int .i64 n, .int .i64 k, v] w (WinTells f n a t k w) := by
  obtain ⟨A, ca, D, cd, rfl, hs, hd⟩ := ha.open_
  have HA := Lib.hid ha
  have HS := Lib.hid hs
  have hprod := lineF_prod hk
  have hlong := lineF_long t k
  have hout := lineF_out h.good.2.1 h.good.1 hk
  have hin := lineF_in h.good.2.1 h.good.1 hk
  have hdl : a.da.length ≤ 4096 := by rw [h.len]; exact h.good.2.2
  have hL4 : t.getD k 0 ≤ 4096 := by rw [List.getD_eq_getElem?_getD, List.getElem?_eq_getElem hk]; exact h.good.2.1 _ (List.getElem_mem _)
  have hsl : a.sh.length = t.length := by rw [h.sh, length_ints]
  have HKS := Lib.hid (show k < a.sh.length by omega)
  have HXK := Lib.hid (show a.sh[k]? = some (t.getD k 0 : Int) by rw [h.sh]; exact ints_get hk)
  have HAL := Lib.hid (falong_ok (f := f) (k := k) (w := (((w.alloc (.cells #[.int .i64 n] 3)).alloc (.cells #[.bool a.ch, .slice A a.sh.length ca, .slice D a.da.length cd] 25)).alloc (.cells #[.bool false, .slice none 0 0, .slice none 0 0] 25))) (ha.mono (below_three _ _ _ _)) h hk hf hc)
  have HTE := Lib.hid (show ∀ e w', WinTells f n a t k w e w' ↔ ((n < 1 ∨ (t.getD k 0 : Int) < n) ∧ Fails zeroArr 4 w e w') ∨
    (1 ≤ n ∧ n ≤ (t.getD k 0 : Int) ∧ FoldTells f (lnW a t k n.toNat) ((lineF t k).1 * (t.getD k 0 - n.toNat + 1) * (lineF t k).2.2) (a.sh.set k ((t.getD k 0 - n.toNat + 1 : Nat) : Int)) w e w') from fun _ _ => Iff.rfl)
  obtain ⟨O, hO⟩ : ∃ z, z = (lineF t k).1 := ⟨_, rfl⟩
  obtain ⟨L, hL⟩ : ∃ z, z = t.getD k 0 := ⟨_, rfl⟩
  obtain ⟨I, hI⟩ : ∃ z, z = (lineF t k).2.2 := ⟨_, rfl⟩
  rw [← hL] at hlong hL4 HXK
  have hlv : lineV (lineF t k) = .agg #[.int .i64 O, .int .i64 L, .int .i64 I] := by unfold lineV; rw [hlong, hO, hI]
  unfold GivesLine at HAL
  rw [hlv] at HAL
  rw [hlong, ← hO, ← hI] at hprod
  rw [← hO] at hout
  rw [← hI] at hin
  rw [← hO, ← hI, ← hL] at HTE
  have HFO := Lib.hid (fun (vs : Value) (W : World) (hn1 : 1 ≤ n) (hnL : n ≤ (L : Int)) (hb : Below w.heap.size w W) (hv : IsInts W vs (a.sh.set k ((L - n.toNat + 1 : Nat) : Int))) (hg : Box W w.heap.size 3 #[.int .i64 n]) =>
      (show Calls Tryd.prog 35 #[.agg #[.int .i64 O, .int .i64 L, .int .i64 I], .int .i64 f, .agg #[.bool a.ch, .slice A a.sh.length ca, .slice D a.da.length cd], vs, .int .i64 (L - n.toNat + 1 : Nat), .func (.func 41) #[] #[], .func (.func 42) #[] #[.pointer (some ⟨w.heap.size, 0, none⟩)]] W
        (FoldTells f (lnW a t k n.toNat) (O * (L - n.toNat + 1) * I) (a.sh.set k ((L - n.toNat + 1 : Nat) : Int)) W) from by
    refine folded_any (f := f) (O := O) (L := L) (I := I) (n := L - n.toNat + 1) (FR := 41) (LG := 42) (cf := #[]) (cl := #[.pointer (some ⟨w.heap.size, 0, none⟩)]) (fr := fun j => j) (lg := fun _ => n.toNat) (ln := lnW a t k n.toNat) (ha.mono hb) hv hw hdl hout hin (by omega) hL4 ?_
      (fun j hj => by omega)
      (fun o k' i j ho hk' hi hj => by
        have h8 := idx_lt3 (O := O) (n := L) (I := I) (o := o) (k := k' + j) (i := i) ho (by omega) hi
        rw [hprod, ← h.len] at h8
        rw [Nat.add_assoc (o * L)]
        exact h8)
      (fun o k' i ho hk' hi => by unfold lnW; rw [← hL, ← hI]; exact lnAt_at hk' hi)
      (fun k' W' _ _ => from_any k' W') (fun k' W' hk' hb' => by
        refine (many_any (i := (k' : Int)) (hg.below hb')).mono fun e w' hh => ⟨?_, hh.2⟩
        rw [hh.1]
        show Ending.returned (.int .i64 n) = .returned (.int .i64 ((n.toNat : Nat) : Int))
        rw [show ((n.toNat : Nat) : Int) = n by omega])
      (fun args W => rfl) (fun args W => rfl)
    have h1 := h.good.2.2
    rw [← hprod] at h1
    have h2 : O * (L - n.toNat + 1) * I ≤ O * L * I := Nat.mul_le_mul_right _ (Nat.mul_le_mul_left _ (by omega))
    omega))
  clear ha hs hd h hprod hlong hout hin hO hL hI hlv hf hc hw hsl
  go_enter Tryd.func15, Tryd.ntmps15
  have bN0 := ((Box.new w 3 #[.int .i64 n]).alloc (.cells #[.bool a.ch, .slice A a.sh.length ca, .slice D a.da.length cd] 25)).alloc (.cells #[.bool false, .slice none 0 0, .slice none 0 0] 25)
  have bA0 := (Box.new (w.alloc (.cells #[.int .i64 n] 3)) 25 #[.bool a.ch, .slice A a.sh.length ca, .slice D a.da.length cd]).alloc (.cells #[.bool false, .slice none 0 0, .slice none 0 0] 25)
  have bR0 := Box.new ((w.alloc (.cells #[.int .i64 n] 3)).alloc (.cells #[.bool a.ch, .slice A a.sh.length ca, .slice D a.da.length cd] 25)) 25 #[.bool false, .slice none 0 0, .slice none 0 0]
  simp only [World.size_alloc] at bA0 bR0
  have hb0 := below_three w (.cells #[.int .i64 n] 3) (.cells #[.bool a.ch, .slice A a.sh.length ca, .slice D a.da.length cd] 25) (.cells #[.bool false, .slice none 0 0, .slice none 0 0] 25)
  have n0 := bN0.one
  obtain ⟨t0, t1, t2⟩ := bA0.three
  go_wp2_with fail
  refine HAL.out.mono ?_
  rintro e w1 ⟨rfl, hb1⟩
  have bN1 := bN0.below hb1
  have bA1 := bA0.below hb1
  have bR1 := bR0.below hb1
  have hbw1 := hb0.trans (hb1.mono hb0.size)
  clear bN0 bA0 bR0 hb0 hb1 t0 t1 t2 n0
  have n0 := bN1.one
  obtain ⟨t0, t1, t2⟩ := bA1.three
  have lN := bN1.lt
  have lA := bA1.lt
  have bL2 := Box.new w1 57 #[.int .i64 O, .int .i64 L, .int .i64 I]
  have bN2 := bN1.alloc (.cells #[.int .i64 O, .int .i64 L, .int .i64 I] 57)
  have bA2 := bA1.alloc (.cells #[.int .i64 O, .int .i64 L, .int .i64 I] 57)
  have bR2 := bR1.alloc (.cells #[.int .i64 O, .int .i64 L, .int .i64 I] 57)
  have hbw2 := hbw1.alloc hbw1.size (.cells #[.int .i64 O, .int .i64 L, .int .i64 I] 57)
  obtain ⟨r0, r1, r2⟩ := bR1.three
  have rf := bR1.frozen
  have lR := bR1.lt
  obtain ⟨r0', r1', r2'⟩ := bR2.three
  have rf' := bR2.frozen
  have rl' := bR2.lt
  rcases Int.lt_or_le n 1 with g1 | g1
  · have d1 : decide (n < 1) = true := by simpa using g1
    have HCOND := Lib.hid (show n < 1 ∨ (L : Int) < n from .inl g1)
    clear g1 bN2 bA2 bL2
    go_wp2_with fail
    have hg2 := grownBy_three w1 (w.heap.size + 1 + 1) (.bool false) (.slice none 0 0) (.slice none 0 0)
    have hz := (hbw1.grown hg2 hbw1.size (fun j e => by cases e; omega))
    have z := ((bR1.store 0 (.bool false)).store 1 (.slice none 0 0)).store 2 (.slice none 0 0)
    simp only [List.setIfInBounds_toArray, List.set_cons_zero, List.set_cons_succ] at z
    have z' := z.alloc (.cells #[.int .i64 O, .int .i64 L, .int .i64 I] 57)
    obtain ⟨z0, z1, z2⟩ := z'.three
    refine bodyPost_ret (v := .tuple #[zeroArr, .iface 26 (.int .i64 4)]) (by simp [results, Tryd.results15, go_sem, zeroArr, z0, z1, z2]) rfl ?_
    exact (HTE.out _ _).2 (.inl ⟨HCOND.out, rfl, hz.alloc hz.size _⟩)
  have d1 : decide (n < 1) = false := by simpa using g1
  rcases Int.lt_or_le (L : Int) n with g2 | g2
  · have d2 : decide ((L : Int) < n) = true := by simpa using g2
    have HCOND := Lib.hid (show n < 1 ∨ (L : Int) < n from .inr g2)
    clear g1 g2 bN2 bA2 bL2
    go_wp2_with fail
    have hg2 := grownBy_three w1 (w.heap.size + 1 + 1) (.bool false) (.slice none 0 0) (.slice none 0 0)
    have hz := (hbw1.grown hg2 hbw1.size (fun j e => by cases e; omega))
    have z := ((bR1.store 0 (.bool false)).store 1 (.slice none 0 0)).store 2 (.slice none 0 0)
    simp only [List.setIfInBounds_toArray, List.set_cons_zero, List.set_cons_succ] at z
    have z' := z.alloc (.cells #[.int .i64 O, .int .i64 L, .int .i64 I] 57)
    obtain ⟨z0, z1, z2⟩ := z'.three
    refine bodyPost_ret (v := .tuple #[zeroArr, .iface 26 (.int .i64 4)]) (by simp [results, Tryd.results15, go_sem, zeroArr, z0, z1, z2]) rfl ?_
    exact (HTE.out _ _).2 (.inl ⟨HCOND.out, rfl, hz.alloc hz.size _⟩)
  have d2 : decide ((L : Int) < n) = false := by simpa using g2
  have HN1 := Lib.hid g1
  have HNL := Lib.hid g2
  obtain ⟨M, hM⟩ : ∃ M, M = L - n.toNat + 1 := ⟨_, rfl⟩
  have HM1 := Lib.hid (show IntKind.i64.wrap ((L : Int) - n) = (L : Int) - n from IntWalk.i64_in _ (by omega))
  have HM2 := Lib.hid (show IntKind.i64.wrap ((L : Int) - n + 1) = (M : Int) by rw [show (L : Int) - n + 1 = (M : Int) by omega]; exact IntWalk.i64_in _ (by omega))
  have HFO := Lib.hid (fun vs W => HFO.out vs W g1 g2)
  rw [← hM] at HTE HFO
  clear hM g1 g2
  have HS2 := Lib.hid (HS.out.mono hbw2)
  have lL := bL2.lt
  clear t0 t1 t2 r0 r1 r2 rf lR lA lN bA1 bR1 bN1 n0
  have n0 := bN2.one
  obtain ⟨q0, q1, q2⟩ := bA2.three
  obtain ⟨l0, l1, l2⟩ := bL2.three
  go_wp2_with fail
  refine (clone_any _ a.sh _ HS2.out).mono ?_
  rintro e w4 ⟨Ac, cc, rfl, hoc, hbc⟩
  obtain ⟨gc, rfl, hgB, mC⟩ := hoc.mine (by have := HKS.out; omega)
  have bL4 := bL2.below hbc
  have bN4 := bN2.below hbc
  have bA4 := bA2.below hbc
  have bR4 := bR2.below hbc
  have hbw4 := hbw2.trans (hbc.mono hbw2.size)
  have HZL := Lib.hid bL2.lt
  have HZN := Lib.hid bN2.lt
  have HZA := Lib.hid bA2.lt
  have HZR := Lib.hid bR2.lt
  have HGB := Lib.hid (show w.heap.size ≤ gc by have := hbw2.size; omega)
  have hgc := mC.lt
  clear hbc hoc bL2 bN2 bA2 bR2 hbw2 n0 q0 q1 q2 l0 l1 l2 r0' r1' r2' rf' rl' lL hbw1
  have n0 := bN4.one
  obtain ⟨q0, q1, q2⟩ := bA4.three
  obtain ⟨l0, l1, l2⟩ := bL4.three
  have hm1 := HM1.out
  have hm2 := HM2.out
  have hks := HKS.out
  have ck := mC.cell HXK.out
  have cf := mC.frozen k
  have lL4 := bL4.lt
  have lN4 := bN4.lt
  have lA4 := bA4.lt
  go_wp2_with fail
  clear hm1 hm2 n0 q0 q1 q2 l0 l1 l2 ck cf lL4 lN4 lA4
  have bL5 := bL4.far (p := ⟨gc, k, none⟩) (by have := HZL.out; simp <;> omega) (.int .i64 (M : Int))
  have bN5 := bN4.far (p := ⟨gc, k, none⟩) (by have := HZN.out; simp <;> omega) (.int .i64 (M : Int))
  have bA5 := bA4.far (p := ⟨gc, k, none⟩) (by have := HZA.out; simp <;> omega) (.int .i64 (M : Int))
  have bR5 := bR4.far (p := ⟨gc, k, none⟩) (by have := HZR.out; simp <;> omega) (.int .i64 (M : Int))
  have mC5 := mC.store k (M : Int)
  have hbw5 := hbw4.setCell (p := ⟨gc, k, none⟩) (by have := HGB.out; simpa using this) (.int .i64 (M : Int))
  have hgc5 := mC5.lt
  clear bL4 bN4 bA4 bR4 mC hbw4
  obtain ⟨w5, hw5⟩ : ∃ x, x = w4.setCell ⟨gc, k, none⟩ (.int .i64 (M : Int)) := ⟨_, rfl⟩
  rw [← hw5] at bL5 bN5 bA5 bR5 mC5 hbw5 hgc5 ⊢
  clear hw5
  have n0 := bN5.one
  obtain ⟨q0, q1, q2⟩ := bA5.three
  obtain ⟨l0, l1, l2⟩ := bL5.three
  have ck := mC5.cell (k := k) (x := (M : Int)) (List.getElem?_set_self hks)
  have lL5 := bL5.lt
  have lN5 := bN5.lt
  have lA5 := bA5.lt
  have hM4 : O * M * I ≤ O * M * I := Nat.le_refl _
  by_cases hall : ∀ q, q < O * M * I → (ofR f (lnW a t k n.toNat q)).2 = 0
  · have HALL := Lib.hid hall
    obtain ⟨X, hX⟩ : ∃ X, X = (List.range (O * M * I)).map fun q => (ofR f (lnW a t k n.toNat q)).1 := ⟨_, rfl⟩
    have HX := Lib.hid hX
    have HF := Lib.hid (fun (vs : Value) (W : World) (hb : Below w.heap.size w W) (hv : IsInts W vs (a.sh.set k (M : Int))) (hg : Box W w.heap.size 3 #[.int .i64 n]) => (HFO.out vs W hb hv hg).mono fun e w' hh =>
      (show GivesOk (⟨false, a.sh.set k (M : Int), X⟩ : Arr) W e w' from by
        rcases hh with ⟨-, h2⟩ | ⟨q, h1, -, h3, -⟩
        · rw [hX]; exact h2
        · exact absurd (HALL.out q h1) h3))
    clear hX hall
    refine wp_region_gate 12 1 (fun i v lo hi w' => match i with
        | 0 => v = .agg #[.int .i64 O, .int .i64 L, .int .i64 I]
        | 1 => v = .int .i64 f
        | 2 => v = .agg #[.bool a.ch, .slice A a.sh.length ca, .slice D a.da.length cd]
        | 3 => v = .slice (some ⟨gc, 0, none⟩) a.sh.length cc
        | 4 => v = .slice (some ⟨gc, 0, none⟩) a.sh.length cc
        | 5 => v = .int .i64 k
        | 6 => v = .pointer (some ⟨gc, k, none⟩)
        | 7 => v = .int .i64 M
        | 8 => v = .func (.func 42) #[] #[.pointer (some ⟨w.heap.size, 0, none⟩)]
        | 9 => ∃ r, v = .tuple #[r, .nilIface] ∧ IsArr w' r (⟨false, a.sh.set k (M : Int), X⟩ : Arr)
        | 10 => IsArr w' v (⟨false, a.sh.set k (M : Int), X⟩ : Arr)
        | 11 => v = .nilIface
        | _ => True) (by kernel_rfl) (by kernel_rfl) (by kernel_rfl) ?hV ?step ?last
    case hV =>
      intro i v lo hi w1 w2 h hb
      match i, h with
      | 0, h => exact h
      | 1, h => exact h
      | 2, h => exact h
      | 3, h => exact h
      | 4, h => exact h
      | 5, h => exact h
      | 6, h => exact h
      | 7, h => exact h
      | 8, h => exact h
      | 9, ⟨r, e, hr⟩ => exact ⟨r, e, hr.mono hb⟩
      | 10, h => exact h.mono hb
      | 11, h => exact h
      | i + 12, _ => trivial
    case step =>
      simp only [List.take_succ_cons, List.take_zero, putAll, Act.put, List.setIfInBounds_toArray, List.set_cons_zero, List.set_cons_succ, Nat.reduceAdd, Nat.zero_add]
      intro i o ho hi u lo up wr hbr hd hj K hK
      obtain ⟨hcw, hfw⟩ := bcell hbr
      match i, ho with
      | 0, ho =>
        simp only [List.getElem?_cons_zero, Option.some.injEq] at ho
        subst ho
        simp only [Act.put, List.setIfInBounds_toArray, List.set_cons_zero, List.set_cons_succ] at hK
        refine wpOp_step rfl fun K' hK' => ?_
        go_simp
        exact hK' _ _ (hK _ _ (Below.refl _ _) rfl)
      | 1, ho =>
        simp only [List.getElem?_cons_succ, List.getElem?_cons_zero, Option.some.injEq] at ho
        subst ho
        simp only [Act.put, List.setIfInBounds_toArray, List.set_cons_zero, List.set_cons_succ] at hK
        refine wpOp_step rfl fun K' hK' => ?_
        go_simp
        exact hK' _ _ (hK _ _ (Below.refl _ _) rfl)
      | 2, ho =>
        simp only [List.getElem?_cons_succ, List.getElem?_cons_zero, Option.some.injEq] at ho
        subst ho
        simp only [Act.put, List.setIfInBounds_toArray, List.set_cons_zero, List.set_cons_succ] at hK
        refine wpOp_step rfl fun K' hK' => ?_
        go_simp
        exact hK' _ _ (hK _ _ (Below.refl _ _) rfl)
      | 3, ho =>
        simp only [List.getElem?_cons_succ, List.getElem?_cons_zero, Option.some.injEq] at ho
        subst ho
        simp only [Act.put, List.setIfInBounds_toArray, List.set_cons_zero, List.set_cons_succ] at hK
        refine wpOp_step rfl fun K' hK' => ?_
        go_simp
        exact hK' _ _ (hK _ _ (Below.refl _ _) rfl)
      | 4, ho =>
        simp only [List.getElem?_cons_succ, List.getElem?_cons_zero, Option.some.injEq] at ho
        subst ho
        simp only [Act.put, List.setIfInBounds_toArray, List.set_cons_zero, List.set_cons_succ] at hK
        refine wpOp_step rfl fun K' hK' => ?_
        go_simp
        exact hK' _ _ (hK _ _ (Below.refl _ _) rfl)
      | 5, ho =>
        simp only [List.getElem?_cons_succ, List.getElem?_cons_zero, Option.some.injEq] at ho
        subst ho
        simp only [Act.put, List.setIfInBounds_toArray, List.set_cons_zero, List.set_cons_succ] at hK
        refine wpOp_step rfl fun K' hK' => ?_
        go_simp
        exact hK' _ _ (hK _ _ (Below.refl _ _) rfl)
      | 6, ho =>
        simp only [List.getElem?_cons_succ, List.getElem?_cons_zero, Option.some.injEq] at ho
        subst ho
        simp only [Act.put, List.setIfInBounds_toArray, List.set_cons_zero, List.set_cons_succ] at hK
        have h4 : u 4 = .slice (some ⟨gc, 0, none⟩) a.sh.length cc := hd ⟨4, .data⟩ (by simp) rfl
        have h5 : u 5 = .int .i64 k := hd ⟨5, .data⟩ (by simp) rfl
        simp only [h4, h5] at hK
        refine wpOp_step rfl fun K' hK' => ?_
        go_simp
        exact hK' _ _ (hK _ _ (Below.refl _ _) rfl)
      | 7, ho =>
        simp only [List.getElem?_cons_succ, List.getElem?_cons_zero, Option.some.injEq] at ho
        subst ho
        simp only [Act.put, List.setIfInBounds_toArray, List.set_cons_zero, List.set_cons_succ] at hK
        have h6 : u 6 = .pointer (some ⟨gc, k, none⟩) := hd ⟨6, .data⟩ (by simp) rfl
        simp only [h6] at hK
        refine wpOp_step rfl fun K' hK' => ?_
        go_simp
        exact hK' _ _ (hK _ _ (Below.refl _ _) rfl)
      | 8, ho =>
        simp only [List.getElem?_cons_succ, List.getElem?_cons_zero, Option.some.injEq] at ho
        subst ho
        simp only [Act.put, List.setIfInBounds_toArray, List.set_cons_zero, List.set_cons_succ] at hK
        refine wpOp_step rfl fun K' hK' => ?_
        go_simp
        exact hK' _ _ (hK _ _ (Below.refl _ _) rfl)
      | 9, ho =>
        simp only [List.getElem?_cons_succ, List.getElem?_cons_zero, Option.some.injEq] at ho
        subst ho
        simp only [Act.put, List.setIfInBounds_toArray, List.set_cons_zero, List.set_cons_succ] at hK
        have h0 : u 0 = .agg #[.int .i64 O, .int .i64 L, .int .i64 I] := hd ⟨0, .data⟩ (by simp) rfl
        have h1 : u 1 = .int .i64 f := hd ⟨1, .data⟩ (by simp) rfl
        have h2 : u 2 = .agg #[.bool a.ch, .slice A a.sh.length ca, .slice D a.da.length cd] := hd ⟨2, .data⟩ (by simp) rfl
        have h3 : u 3 = .slice (some ⟨gc, 0, none⟩) a.sh.length cc := hd ⟨3, .data⟩ (by simp) rfl
        have h7 : u 7 = .int .i64 M := hd ⟨7, .data⟩ (by simp) rfl
        have h8 : u 8 = .func (.func 42) #[] #[.pointer (some ⟨w.heap.size, 0, none⟩)] := hd ⟨8, .data⟩ (by simp) rfl
        simp only [h0, h1, h2, h3, h7, h8] at hK
        refine wpOp_step rfl fun K' hK' => ?_
        go_simp
        refine (HF.out _ _ (hbw5.trans (hbr.mono hbw5.size)) (mC5.mono hbr).isInts (bN5.below hbr)).mono ?_
        rintro e w1 ⟨r, rfl, hr, hb1⟩
        exact hK' _ _ (hK _ _ hb1 ⟨r, rfl, hr⟩)
      | 10, ho =>
        simp only [List.getElem?_cons_succ, List.getElem?_cons_zero, Option.some.injEq] at ho
        subst ho
        simp only [Act.put, List.setIfInBounds_toArray, List.set_cons_zero, List.set_cons_succ] at hK
        obtain ⟨r, e9, hr⟩ := hd ⟨9, .data⟩ (by simp) rfl
        simp only [e9] at hK
        refine wpOp_step rfl fun K' hK' => ?_
        go_simp
        exact hK' _ _ (hK _ _ (Below.refl _ _) hr)
      | 11, ho =>
        simp only [List.getElem?_cons_succ, List.getElem?_cons_zero, Option.some.injEq] at ho
        subst ho
        simp only [Act.put, List.setIfInBounds_toArray, List.set_cons_zero, List.set_cons_succ] at hK
        obtain ⟨r, e9, hr⟩ := hd ⟨9, .data⟩ (by simp) rfl
        simp only [e9] at hK
        refine wpOp_step rfl fun K' hK' => ?_
        go_simp
        exact hK' _ _ (hK _ _ (Below.refl _ _) rfl)
      | i + 12, ho => omega
    case last =>
      simp only [List.take_succ_cons, List.take_zero, putAll, Act.put, List.setIfInBounds_toArray, List.set_cons_zero, List.set_cons_succ, Nat.reduceAdd, Nat.zero_add]
      intro u wr lo up hbr hv hj
      have bR7 := bR5.below hbr
      have hbw7 := hbw5.trans (hbr.mono hbw5.size)
      obtain ⟨z0, z1, z2⟩ := bR7.three
      have zf := bR7.frozen
      have zl := bR7.lt
      have hr : IsArr wr (u 10) (⟨false, a.sh.set k (M : Int), X⟩ : Arr) := hv 10 (by omega)
      have v11 : u 11 = .nilIface := hv 11 (by omega)
      obtain ⟨A7, c7, D7, d7, e10, -, -⟩ := hr.open_
      rw [e10] at hr
      simp only [e10, v11]
      have hsl : (a.sh.set k (M : Int)).length = a.sh.length := List.length_set
      rw [hsl] at hr ⊢
      clear hv hj e10 v11
      unfold tailWp
      refine wpOp_step rfl fun K' hK' => ?_
      go_simp
      refine hK' _ _ ?_
      unfold tailWp
      refine wpOp_step rfl fun K' hK' => ?_
      go_simp
      refine hK' _ _ ?_
      clear hK'
      go_wp2_with fail
      have hgg := grownBy_three wr (w.heap.size + 1 + 1) (.bool false) (.slice A7 a.sh.length c7) (.slice D7 X.length d7)
      refine bodyPost_ret (v := .tuple #[.agg #[.bool false, .slice A7 a.sh.length c7, .slice D7 X.length d7], .nilIface]) (by simp [results, Tryd.results15, go_sem, z0, z1, z2, zf, zl]) rfl ?_
      refine (HTE.out _ _).2 (.inr ⟨HN1.out, HNL.out, .inl ⟨HALL.out, _, rfl, ?_, hbw7.grown hgg hbw7.size (fun j e => by cases e; omega)⟩⟩)
      rw [← HX.out]
      exact hr.stored bR7 _ _ _
  · obtain ⟨q0, c1, c2, c3⟩ := first_bad (p := fun q => (ofR f (lnW a t k n.toNat q)).2) hall
    obtain ⟨E, hE⟩ : ∃ E, E = (ofR f (lnW a t k n.toNat q0)).2 := ⟨_, rfl⟩
    have HQ := Lib.hid (show ∃ q, q < O * M * I ∧ (∀ q', q' < q → (ofR f (lnW a t k n.toNat q')).2 = 0) ∧ (ofR f (lnW a t k n.toNat q)).2 = E ∧ E ≠ 0 from ⟨q0, c1, c2, hE.symm, by rw [hE]; exact c3⟩)
    have HF := Lib.hid (fun (vs : Value) (W : World) (hb : Below w.heap.size w W) (hv : IsInts W vs (a.sh.set k (M : Int))) (hg : Box W w.heap.size 3 #[.int .i64 n]) => (HFO.out vs W hb hv hg).mono fun e w' hh =>
      (show Fails zeroArr E W e w' from by
        rcases hh with ⟨h1, -⟩ | ⟨q, h1, h2, h3, h4⟩
        · exact absurd (h1 q0 c1) c3
        · have hqq : q = q0 := by
            rcases Nat.lt_trichotomy q q0 with h | h | h
            · exact absurd (c2 q h) h3
            · exact h
            · exact absurd (h2 q0 h) c3
          rw [hqq, ← hE] at h4
          exact h4))
    clear hE hall c1 c2 c3
    refine wp_region_gate 12 1 (fun i v lo hi w' => match i with
        | 0 => v = .agg #[.int .i64 O, .int .i64 L, .int .i64 I]
        | 1 => v = .int .i64 f
        | 2 => v = .agg #[.bool a.ch, .slice A a.sh.length ca, .slice D a.da.length cd]
        | 3 => v = .slice (some ⟨gc, 0, none⟩) a.sh.length cc
        | 4 => v = .slice (some ⟨gc, 0, none⟩) a.sh.length cc
        | 5 => v = .int .i64 k
        | 6 => v = .pointer (some ⟨gc, k, none⟩)
        | 7 => v = .int .i64 M
        | 8 => v = .func (.func 42) #[] #[.pointer (some ⟨w.heap.size, 0, none⟩)]
        | 9 => v = .tuple #[zeroArr, .iface 26 (.int .i64 E)]
        | 10 => v = zeroArr
        | 11 => v = .iface 26 (.int .i64 E)
        | _ => True) (by kernel_rfl) (by kernel_rfl) (by kernel_rfl) ?hV ?step ?last
    case hV =>
      intro i v lo hi w1 w2 h hb
      match i, h with
      | 0, h => exact h
      | 1, h => exact h
      | 2, h => exact h
      | 3, h => exact h
      | 4, h => exact h
      | 5, h => exact h
      | 6, h => exact h
      | 7, h => exact h
      | 8, h => exact h
      | 9, h => exact h
      | 10, h => exact h
      | 11, h => exact h
      | i + 12, _ => trivial
    case step =>
      simp only [List.take_succ_cons, List.take_zero, putAll, Act.put, List.setIfInBounds_toArray, List.set_cons_zero, List.set_cons_succ, Nat.reduceAdd, Nat.zero_add]
      intro i o ho hi u lo up wr hbr hd hj K hK
      obtain ⟨hcw, hfw⟩ := bcell hbr
      match i, ho with
      | 0, ho =>
        simp only [List.getElem?_cons_zero, Option.some.injEq] at ho
        subst ho
        simp only [Act.put, List.setIfInBounds_toArray, List.set_cons_zero, List.set_cons_succ] at hK
        refine wpOp_step rfl fun K' hK' => ?_
        go_simp
        exact hK' _ _ (hK _ _ (Below.refl _ _) rfl)
      | 1, ho =>
        simp only [List.getElem?_cons_succ, List.getElem?_cons_zero, Option.some.injEq] at ho
        subst ho
        simp only [Act.put, List.setIfInBounds_toArray, List.set_cons_zero, List.set_cons_succ] at hK
        refine wpOp_step rfl fun K' hK' => ?_
        go_simp
        exact hK' _ _ (hK _ _ (Below.refl _ _) rfl)
      | 2, ho =>
        simp only [List.getElem?_cons_succ, List.getElem?_cons_zero, Option.some.injEq] at ho
        subst ho
        simp only [Act.put, List.setIfInBounds_toArray, List.set_cons_zero, List.set_cons_succ] at hK
        refine wpOp_step rfl fun K' hK' => ?_
        go_simp
        exact hK' _ _ (hK _ _ (Below.refl _ _) rfl)
      | 3, ho =>
        simp only [List.getElem?_cons_succ, List.getElem?_cons_zero, Option.some.injEq] at ho
        subst ho
        simp only [Act.put, List.setIfInBounds_toArray, List.set_cons_zero, List.set_cons_succ] at hK
        refine wpOp_step rfl fun K' hK' => ?_
        go_simp
        exact hK' _ _ (hK _ _ (Below.refl _ _) rfl)
      | 4, ho =>
        simp only [List.getElem?_cons_succ, List.getElem?_cons_zero, Option.some.injEq] at ho
        subst ho
        simp only [Act.put, List.setIfInBounds_toArray, List.set_cons_zero, List.set_cons_succ] at hK
        refine wpOp_step rfl fun K' hK' => ?_
        go_simp
        exact hK' _ _ (hK _ _ (Below.refl _ _) rfl)
      | 5, ho =>
        simp only [List.getElem?_cons_succ, List.getElem?_cons_zero, Option.some.injEq] at ho
        subst ho
        simp only [Act.put, List.setIfInBounds_toArray, List.set_cons_zero, List.set_cons_succ] at hK
        refine wpOp_step rfl fun K' hK' => ?_
        go_simp
        exact hK' _ _ (hK _ _ (Below.refl _ _) rfl)
      | 6, ho =>
        simp only [List.getElem?_cons_succ, List.getElem?_cons_zero, Option.some.injEq] at ho
        subst ho
        simp only [Act.put, List.setIfInBounds_toArray, List.set_cons_zero, List.set_cons_succ] at hK
        have h4 : u 4 = .slice (some ⟨gc, 0, none⟩) a.sh.length cc := hd ⟨4, .data⟩ (by simp) rfl
        have h5 : u 5 = .int .i64 k := hd ⟨5, .data⟩ (by simp) rfl
        simp only [h4, h5] at hK
        refine wpOp_step rfl fun K' hK' => ?_
        go_simp
        exact hK' _ _ (hK _ _ (Below.refl _ _) rfl)
      | 7, ho =>
        simp only [List.getElem?_cons_succ, List.getElem?_cons_zero, Option.some.injEq] at ho
        subst ho
        simp only [Act.put, List.setIfInBounds_toArray, List.set_cons_zero, List.set_cons_succ] at hK
        have h6 : u 6 = .pointer (some ⟨gc, k, none⟩) := hd ⟨6, .data⟩ (by simp) rfl
        simp only [h6] at hK
        refine wpOp_step rfl fun K' hK' => ?_
        go_simp
        exact hK' _ _ (hK _ _ (Below.refl _ _) rfl)
      | 8, ho =>
        simp only [List.getElem?_cons_succ, List.getElem?_cons_zero, Option.some.injEq] at ho
        subst ho
        simp only [Act.put, List.setIfInBounds_toArray, List.set_cons_zero, List.set_cons_succ] at hK
        refine wpOp_step rfl fun K' hK' => ?_
        go_simp
        exact hK' _ _ (hK _ _ (Below.refl _ _) rfl)
      | 9, ho =>
        simp only [List.getElem?_cons_succ, List.getElem?_cons_zero, Option.some.injEq] at ho
        subst ho
        simp only [Act.put, List.setIfInBounds_toArray, List.set_cons_zero, List.set_cons_succ] at hK
        have h0 : u 0 = .agg #[.int .i64 O, .int .i64 L, .int .i64 I] := hd ⟨0, .data⟩ (by simp) rfl
        have h1 : u 1 = .int .i64 f := hd ⟨1, .data⟩ (by simp) rfl
        have h2 : u 2 = .agg #[.bool a.ch, .slice A a.sh.length ca, .slice D a.da.length cd] := hd ⟨2, .data⟩ (by simp) rfl
        have h3 : u 3 = .slice (some ⟨gc, 0, none⟩) a.sh.length cc := hd ⟨3, .data⟩ (by simp) rfl
        have h7 : u 7 = .int .i64 M := hd ⟨7, .data⟩ (by simp) rfl
        have h8 : u 8 = .func (.func 42) #[] #[.pointer (some ⟨w.heap.size, 0, none⟩)] := hd ⟨8, .data⟩ (by simp) rfl
        simp only [h0, h1, h2, h3, h7, h8] at hK
        refine wpOp_step rfl fun K' hK' => ?_
        go_simp
        refine (HF.out _ _ (hbw5.trans (hbr.mono hbw5.size)) (mC5.mono hbr).isInts (bN5.below hbr)).mono ?_
        rintro e w1 ⟨rfl, hb1⟩
        exact hK' _ _ (hK _ _ hb1 rfl)
      | 10, ho =>
        simp only [List.getElem?_cons_succ, List.getElem?_cons_zero, Option.some.injEq] at ho
        subst ho
        simp only [Act.put, List.setIfInBounds_toArray, List.set_cons_zero, List.set_cons_succ] at hK
        have e9 : u 9 = .tuple #[zeroArr, .iface 26 (.int .i64 E)] := hd ⟨9, .data⟩ (by simp) rfl
        simp only [e9] at hK
        refine wpOp_step rfl fun K' hK' => ?_
        go_simp
        exact hK' _ _ (hK _ _ (Below.refl _ _) rfl)
      | 11, ho =>
        simp only [List.getElem?_cons_succ, List.getElem?_cons_zero, Option.some.injEq] at ho
        subst ho
        simp only [Act.put, List.setIfInBounds_toArray, List.set_cons_zero, List.set_cons_succ] at hK
        have e9 : u 9 = .tuple #[zeroArr, .iface 26 (.int .i64 E)] := hd ⟨9, .data⟩ (by simp) rfl
        simp only [e9] at hK
        refine wpOp_step rfl fun K' hK' => ?_
        go_simp
        exact hK' _ _ (hK _ _ (Below.refl _ _) rfl)
      | i + 12, ho => omega
    case last =>
      simp only [List.take_succ_cons, List.take_zero, putAll, Act.put, List.setIfInBounds_toArray, List.set_cons_zero, List.set_cons_succ, Nat.reduceAdd, Nat.zero_add]
      intro u wr lo up hbr hv hj
      have bR7 := bR5.below hbr
      have hbw7 := hbw5.trans (hbr.mono hbw5.size)
      obtain ⟨z0, z1, z2⟩ := bR7.three
      have zf := bR7.frozen
      have zl := bR7.lt
      have v10 : u 10 = zeroArr := hv 10 (by omega)
      have v11 : u 11 = .iface 26 (.int .i64 E) := hv 11 (by omega)
      simp only [v10, v11]
      clear hv hj v10 v11
      unfold zeroArr
      unfold tailWp
      refine wpOp_step rfl fun K' hK' => ?_
      go_simp
      refine hK' _ _ ?_
      unfold tailWp
      refine wpOp_step rfl fun K' hK' => ?_
      go_simp
      refine hK' _ _ ?_
      clear hK'
      go_wp2_with fail
      have hgg := grownBy_three wr (w.heap.size + 1 + 1) (.bool false) (.slice none 0 0) (.slice none 0 0)
      refine bodyPost_ret (v := .tuple #[zeroArr, .iface 26 (.int .i64 E)]) (by simp [results, Tryd.results15, go_sem, zeroArr, z0, z1, z2, zf, zl]) rfl ?_
      obtain ⟨q, hq1, hq2, hq3, hq4⟩ := HQ.out
      exact (HTE.out _ _).2 (.inr ⟨HN1.out, HNL.out, .inr ⟨q, hq1, hq2, by rw [hq3]; exact hq4, by rw [hq3]; exact ⟨rfl, hbw7.grown hgg hbw7.size (fun j e => by cases e; omega)⟩⟩⟩)
end Go.Proofs.YtojeggeimnenbaaDoor
