/- The walks of arr.cycled, arr.fill and arr.Reshape. Conditions: a shape without a fault, an array without one that has cells where the shape has any. -/
import Derived.Test.YtnjjapfdgddemaaArrOf
import Derived.Test.YtnjjapfdgddemaaMake
import Derived.Test.YtnjjapfdgddemaaMoved
import Derived.Test.YtnjjapfdgddemaaTail
import Derived.Test.YtnjjapfdgddemaaHelp
namespace Go.Proofs.Ytnjjapfdgddemaa.P
/-- A list again and again. -/
def cyc (xs : List Int) (n : Nat) : List Int := (List.range n).map fun i => xs.getD (i % xs.length) 0
theorem cyc_len (xs : List Int) (n : Nat) : (cyc xs n).length = n := by simp [cyc]
theorem cyc_at {xs : List Int} {n k : Nat} {x : Int} (hk : k < n) (hx : xs[k % xs.length]? = some x) : (cyc xs n)[k]? = some x := by
  unfold cyc
  rw [List.getElem?_map, List.getElem?_range hk]
  simp [List.getD_eq_getElem?_getD, hx]
theorem cyc_same {xs : List Int} {n : Nat} (h : n = xs.length) : cyc xs n = xs := by
  subst h
  apply List.ext_getElem?
  intro k
  rcases Nat.lt_or_ge k xs.length with hk | hk
  · rw [cyc_at hk (x := xs[k]) (by rw [Nat.mod_eq_of_lt hk]; exact List.getElem?_eq_getElem hk), List.getElem?_eq_getElem hk]
  · rw [List.getElem?_eq_none (by rw [cyc_len]; exact hk), List.getElem?_eq_none hk]
/-- An array's cells in another shape. -/
def rshOf (s : List Int) (n : Nat) (a : Arr) : Arr := ⟨a.ch, s, cyc a.da n⟩
end Go.Proofs.Ytnjjapfdgddemaa.P
namespace Go.Proofs.Ytnjjapfdgddemaa
open Go Go.RowKit Go.Proofs.Ytnjjapfdgddemaa.P

set_option maxHeartbeats 1000000 in
theorem cycled_ok (va : Value) (xs : List Int) (n : Nat) (z : Int) (w : World) (ha : IsInts w va xs) (hn : n ≤ 4096) (hx : 0 < n → 0 < xs.length) :
    Calls Try.prog 26 #[va, .int .i64 n, .int .i64 z] w fun e w' => ∃ A c, e = .returned (.slice A n c) ∧ Owns w' w.heap.size (.slice A n c) n (cyc xs n) ∧ Below w.heap.size w w' := by
  obtain ⟨X, cx, rfl, a1, a2, a3, a0, a4⟩ := ha
  have h4 := Lib.hid a4
  have HX := Lib.hid hx
  clear a4 a0 hx
  obtain ⟨T, hT⟩ : ∃ T, T = cyc xs n := ⟨_, rfl⟩
  have HT := Lib.hid hT
  have HTL := Lib.hid (show T.length = n by rw [hT, cyc_len])
  clear hT
  have hmk := run_make_ints n (by omega)
  have om : Owns (w.alloc (.cells (madeCells #[.int .i64 0] n) 3)) w.heap.size (.slice (some ⟨w.heap.size, 0, none⟩) 0 n) 0 [] :=
    ⟨World.ownsRow_made w (madeCells #[.int .i64 0] n) n (Nat.le_refl _) (by unfold maxLen; omega) (by simp [size_madeCells]), by omega⟩
  have OM := Lib.hid om
  clear om
  go_enter Try.func26, Try.ntmps26
  go_wp2_with fail
  clear hmk
  go_loopw [7, 12] (fun o i wr => ∃ (k : Nat) (A : Option Addr) (c : Nat), k ≤ n ∧ i = .int .i64 k ∧ o = .slice A k c ∧ Owns wr w.heap.size (.slice A k c) k (T.take k) ∧ Below w.heap.size w wr)
    (fun _ i _ => n - (intOf i).toNat)
  case atStart => exact ⟨0, _, _, Nat.zero_le _, rfl, rfl, by rw [List.take_zero]; exact OM.out, below_one _ _⟩
  case round =>
    obtain ⟨k, A', c1, hk, rfl, rfl, hown, hbl⟩ := hrel
    rcases Nat.lt_or_ge k n with hlt | hge
    · have hx0 := HX.out (by omega)
      obtain ⟨j, hj⟩ : ∃ j, j = k % xs.length := ⟨_, rfl⟩
      have hjl : j < xs.length := by rw [hj]; exact Nat.mod_lt _ hx0
      obtain ⟨ad, x, rfl, hxj, hal, hcx⟩ := Elems.later h4.out hbl hjl
      have hx' := Lib.hid (show T[k]? = some x by rw [HT.out]; exact cyc_at hlt (by rw [← hj]; exact hxj))
      have hmod : Int.tmod (k : Int) (xs.length : Int) = (j : Int) := by rw [hj]; rfl
      have hz0 : ((xs.length : Int) == 0) = false := by rw [beq_eq_false_iff_ne]; omega
      have hz1 : ¬ xs.length = 0 := by omega
      have hsz := hbl.size
      clear hxj hj
      go_wp2_with (at_builtin; refine wpList_append_ints _ rfl rfl _ _ rfl w.heap.size k _ (T.take k) rfl (hown.alloc _) (some ⟨wr.heap.size, 0, none⟩) 1 1 [x] rfl (by simp) (elems_new wr x) rfl (by omega) (by simp; omega) ?_; intro A2 c2 w1 hown1 hgrow hat)
      have ht := take_at hx'.out
      rw [ht] at hown1
      have hb2 : Below w.heap.size w w1 := below_grown (hbl.alloc hsz _) (hown.alloc _) hgrow
      go_roundw
      case rel => exact ⟨k + 1, A2, c2, by omega, by go_num, by simp, hown1, hb2⟩
      case measure => simp [intOf]; omega
    · have hkk : k = n := by omega
      subst hkk
      rw [List.take_of_length_le (by rw [HTL.out]; exact Nat.le_refl _), HT.out] at hown
      go_wp2_with fail
      go_ret
      exact ⟨A', c1, rfl, hown, hbl⟩

set_option maxHeartbeats 400000 in
theorem fillA_any (b : Bool) (s d : Value) (w : World) : Calls Try.prog 27 #[.agg #[.bool b, s, d]] w fun e w' => e = .returned (.int .i64 (if b then 32 else 0)) ∧ Below w.heap.size w w' := by
  cases b
  · go_enter Try.func27, Try.ntmps27
    go_wp2
    go_ret
    exact ⟨rfl, by go_grown⟩
  · go_enter Try.func27, Try.ntmps27
    go_wp2
    go_ret
    exact ⟨rfl, by go_grown⟩

set_option maxHeartbeats 2000000 in
theorem reshape_ok {vs va : Value} {s t : List Nat} {a : Arr} {w : World} (hs : IsInts w vs (ints s)) (ha : IsArr w va a) (hgs : GoodSh s) (h : Ok a t) (hn : 0 < prod s → 0 < a.da.length) :
    Calls Try.prog 14 #[vs, va] w (GivesOk (rshOf (ints s) (prod s) a) w) := by
  obtain ⟨A, ca, D, cd, rfl, ia, id⟩ := ha.open_
  obtain ⟨S, cs, rfl, s1, s2, s3, s4, s5⟩ := _root_.id hs
  rw [length_ints] at *
  have HS := Lib.hid hs
  have HA := Lib.hid ha
  have HD := Lib.hid id
  have HG := Lib.hid hgs
  have HT := Lib.hid h
  have HN := Lib.hid hn
  clear hs ha ia id hgs h hn s4 s5
  go_enter Try.func14, Try.ntmps14
  have z1 := (Box.new w 24 #[.bool a.ch, .slice A a.sh.length ca, .slice D a.da.length cd]).alloc (.cells #[.bool false, .slice none 0 0, .slice none 0 0] 24)
  have z2 := Box.new (w.alloc (.cells #[.bool a.ch, .slice A a.sh.length ca, .slice D a.da.length cd] 24)) 24 #[.bool false, .slice none 0 0, .slice none 0 0]
  rw [World.size_alloc] at z2
  go_wp2_with fail
  refine (count_ok _ s _ (HS.out.mono (below_two _ _ _)) HG.out).mono ?_
  rintro e w1 ⟨rfl, rfl⟩
  obtain ⟨t0, t1, t2⟩ := z1.three
  go_wp2_with fail
  refine (check_ok (HA.out.mono (below_two _ _ _)) HT.out).mono ?_
  rintro e w2 ⟨rfl, hb2⟩
  have hbw2 : Below w.heap.size w w2 := (below_two _ _ _).trans (hb2.mono (by simp; omega))
  have bA2 := z1.below hb2
  have bR2 := z2.below hb2
  have HS2 := Lib.hid (HS.out.mono hbw2)
  have HD2 := Lib.hid (HD.out.mono hbw2)
  have hlA := bA2.lt
  clear t0 t1 t2 z1 z2 hb2
  obtain ⟨t0, t1, t2⟩ := bA2.three
  go_wp2_with fail
  refine wp_region_gate 11 1 (fun i v lo hi w' => match i with
      | 0 => v = .pointer (some ⟨w.heap.size, 0, none⟩)
      | 1 => v = .bool a.ch
      | 2 => v = .slice S s.length cs
      | 3 => ∃ A' c', v = .slice A' s.length c' ∧ Owns w' lo v s.length (ints s) ∧ (∀ b, v.ownBlock = some b → b < hi) ∧ w2.heap.size ≤ lo
      | 4 => v = .pointer (some ⟨w.heap.size, 2, none⟩)
      | 5 => v = .slice D a.da.length cd
      | 6 => v = .int .i64 (prod s)
      | 7 => v = .agg #[.bool a.ch, .slice A a.sh.length ca, .slice D a.da.length cd]
      | 8 => v = .int .i64 (if a.ch then 32 else 0)
      | 9 => ∃ D' d', v = .slice D' (prod s) d' ∧ Owns w' lo v (prod s) (cyc a.da (prod s)) ∧ (∀ b, v.ownBlock = some b → b < hi) ∧ w2.heap.size ≤ lo
      | 10 => ∃ A' c' D' d', v = .agg #[.bool a.ch, .slice A' s.length c', .slice D' (prod s) d'] ∧ Owns w' w2.heap.size (.slice A' s.length c') s.length (ints s) ∧ Owns w' w2.heap.size (.slice D' (prod s) d') (prod s) (cyc a.da (prod s))
      | _ => True) (by kernel_rfl) (by kernel_rfl) (by kernel_rfl) ?hV ?step ?last
  case hV =>
    intro i v lo hi w1 w2 h hb
    match i, h with
    | 0, h => exact h
    | 1, h => exact h
    | 2, h => exact h
    | 3, ⟨A', c', e, ho, hl, hz⟩ => exact ⟨A', c', e, ho.below hb, hl, hz⟩
    | 4, h => exact h
    | 5, h => exact h
    | 6, h => exact h
    | 7, h => exact h
    | 8, h => exact h
    | 9, ⟨A', c', e, ho, hl, hz⟩ => exact ⟨A', c', e, ho.below hb, hl, hz⟩
    | 10, ⟨A', c', D', d', e, ho, ho'⟩ => exact ⟨A', c', D', d', e, ho.below hb, ho'.below hb⟩
    | i + 11, _ => trivial
  case step =>
    simp only [List.take_succ_cons, List.take_zero, putAll, Act.put, List.setIfInBounds_toArray, List.set_cons_zero, List.set_cons_succ, Nat.reduceAdd, Nat.zero_add]
    intro i o ho hi u lo up wr hbr hd hj K hK
    obtain ⟨hcw, hfw⟩ := bcell hbr
    match i, ho with
    | 0, ho =>
      simp only [List.getElem?_cons_zero, Option.some.injEq] at ho
      subst ho
      simp only [Act.put, List.setIfInBounds_toArray, List.set_cons_zero, List.set_cons_succ] at hK
      first | (simp [Region.binds] at hd; simp only [hd] at hK) | skip
      refine wpOp_step rfl fun K' hK' => ?_
      go_simp
      exact hK' _ _ (hK _ _ (Below.refl _ _) rfl)
    | 1, ho =>
      simp only [List.getElem?_cons_succ, List.getElem?_cons_zero, Option.some.injEq] at ho
      subst ho
      simp only [Act.put, List.setIfInBounds_toArray, List.set_cons_zero, List.set_cons_succ] at hK
      first | (simp [Region.binds] at hd; simp only [hd] at hK) | skip
      refine wpOp_step rfl fun K' hK' => ?_
      go_simp
      exact hK' _ _ (hK _ _ (Below.refl _ _) rfl)
    | 2, ho =>
      simp only [List.getElem?_cons_succ, List.getElem?_cons_zero, Option.some.injEq] at ho
      subst ho
      simp only [Act.put, List.setIfInBounds_toArray, List.set_cons_zero, List.set_cons_succ] at hK
      first | (simp [Region.binds] at hd; simp only [hd] at hK) | skip
      refine wpOp_step rfl fun K' hK' => ?_
      go_simp
      exact hK' _ _ (hK _ _ (Below.refl _ _) rfl)
    | 3, ho =>
      simp only [List.getElem?_cons_succ, List.getElem?_cons_zero, Option.some.injEq] at ho
      subst ho
      simp only [Act.put, List.setIfInBounds_toArray, List.set_cons_zero, List.set_cons_succ] at hK
      have h2 : u 2 = .slice S s.length cs := hd ⟨2, .data⟩ (by simp) rfl
      simp only [h2] at hK
      refine wpOp_step rfl fun K' hK' => ?_
      go_simp
      refine (clone_any _ (ints s) _ (HS2.out.mono hbr)).mono ?_
      rintro e w1 ⟨A1, c1, rfl, ho, hb1⟩
      simp only [length_ints] at ho hK' ⊢
      have hz := hbr.size
      exact hK' _ _ (hK _ _ hb1 ⟨A1, c1, rfl, ho, fun b e => (ho.lt e).2, by omega⟩)
    | 4, ho =>
      simp only [List.getElem?_cons_succ, List.getElem?_cons_zero, Option.some.injEq] at ho
      subst ho
      simp only [Act.put, List.setIfInBounds_toArray, List.set_cons_zero, List.set_cons_succ] at hK
      first | (simp [Region.binds] at hd; simp only [hd] at hK) | skip
      refine wpOp_step rfl fun K' hK' => ?_
      go_simp
      exact hK' _ _ (hK _ _ (Below.refl _ _) rfl)
    | 5, ho =>
      simp only [List.getElem?_cons_succ, List.getElem?_cons_zero, Option.some.injEq] at ho
      subst ho
      simp only [Act.put, List.setIfInBounds_toArray, List.set_cons_zero, List.set_cons_succ] at hK
      first | (simp [Region.binds] at hd; simp only [hd] at hK) | skip
      refine wpOp_step rfl fun K' hK' => ?_
      go_simp
      exact hK' _ _ (hK _ _ (Below.refl _ _) rfl)
    | 6, ho =>
      simp only [List.getElem?_cons_succ, List.getElem?_cons_zero, Option.some.injEq] at ho
      subst ho
      simp only [Act.put, List.setIfInBounds_toArray, List.set_cons_zero, List.set_cons_succ] at hK
      first | (simp [Region.binds] at hd; simp only [hd] at hK) | skip
      refine wpOp_step rfl fun K' hK' => ?_
      go_simp
      exact hK' _ _ (hK _ _ (Below.refl _ _) rfl)
    | 7, ho =>
      simp only [List.getElem?_cons_succ, List.getElem?_cons_zero, Option.some.injEq] at ho
      subst ho
      simp only [Act.put, List.setIfInBounds_toArray, List.set_cons_zero, List.set_cons_succ] at hK
      first | (simp [Region.binds] at hd; simp only [hd] at hK) | skip
      refine wpOp_step rfl fun K' hK' => ?_
      go_simp
      exact hK' _ _ (hK _ _ (Below.refl _ _) rfl)
    | 8, ho =>
      simp only [List.getElem?_cons_succ, List.getElem?_cons_zero, Option.some.injEq] at ho
      subst ho
      simp only [Act.put, List.setIfInBounds_toArray, List.set_cons_zero, List.set_cons_succ] at hK
      have h7 : u 7 = .agg #[.bool a.ch, .slice A a.sh.length ca, .slice D a.da.length cd] := hd ⟨7, .data⟩ (by simp) rfl
      simp only [h7] at hK
      refine wpOp_step rfl fun K' hK' => ?_
      go_simp
      refine (fillA_any a.ch _ _ _).mono ?_
      rintro e w1 ⟨rfl, hb1⟩
      exact hK' _ _ (hK _ _ hb1 rfl)
    | 9, ho =>
      simp only [List.getElem?_cons_succ, List.getElem?_cons_zero, Option.some.injEq] at ho
      subst ho
      simp only [Act.put, List.setIfInBounds_toArray, List.set_cons_zero, List.set_cons_succ] at hK
      have h5 : u 5 = .slice D a.da.length cd := hd ⟨5, .data⟩ (by simp) rfl
      have h6 : u 6 = .int .i64 (prod s) := hd ⟨6, .data⟩ (by simp) rfl
      have h8 : u 8 = .int .i64 (if a.ch then 32 else 0) := hd ⟨8, .data⟩ (by simp) rfl
      simp only [h5, h6, h8] at hK
      refine wpOp_step rfl fun K' hK' => ?_
      go_simp
      refine (cycled_ok _ a.da (prod s) _ _ (HD2.out.mono hbr) HG.out.2.2 HN.out).mono ?_
      rintro e w1 ⟨A1, c1, rfl, ho, hb1⟩
      have hz := hbr.size
      exact hK' _ _ (hK _ _ hb1 ⟨A1, c1, rfl, ho, fun b e => (ho.lt e).2, by omega⟩)
    | 10, ho =>
      simp only [List.getElem?_cons_succ, List.getElem?_cons_zero, Option.some.injEq] at ho
      subst ho
      simp only [Act.put, List.setIfInBounds_toArray, List.set_cons_zero, List.set_cons_succ] at hK
      have h1 : u 1 = .bool a.ch := hd ⟨1, .data⟩ (by simp) rfl
      obtain ⟨A', c', es, os, ls, zs⟩ := hd ⟨3, .data⟩ (by simp) rfl
      obtain ⟨D', d', ed, od, ld, zd⟩ := hd ⟨9, .data⟩ (by simp) rfl
      dsimp only at os ls zs od ld zd
      simp only [h1, es, ed] at hK
      rw [es] at os
      rw [ed] at od
      refine wpOp_step rfl fun K' hK' => ?_
      go_simp
      exact hK' _ _ (hK _ _ (Below.refl _ _) ⟨A', c', D', d', rfl, os.base (by omega), od.base (by omega)⟩)
    | i + 11, ho => omega
  case last =>
    simp only [List.take_succ_cons, List.take_zero, putAll, Act.put, List.setIfInBounds_toArray, List.set_cons_zero, List.set_cons_succ, Nat.reduceAdd, Nat.zero_add]
    intro u wr lo up hbr hv hj
    obtain ⟨A', c', D', d', e9, o4, o8⟩ := hv 10 (by omega)
    have bR := bR2.below hbr
    obtain ⟨g0, g1, g2⟩ := bR.three
    have gf := bR.frozen
    have hzR := bR.lt
    simp only [e9]
    clear hv hj e9
    unfold tailWp
    refine wpOp_step rfl fun K' hK' => ?_
    go_simp
    refine hK' _ _ ?_
    unfold tailWp
    refine wpOp_step rfl fun K' hK' => ?_
    go_simp
    refine hK' _ _ ?_
    have hgg := grownBy_three wr (w.heap.size + 1) (.bool a.ch) (.slice A' s.length c') (.slice D' (prod s) d')
    have i1 := ((bR.store 0 (.bool a.ch)).store 1 (.slice A' s.length c')).store 2 (.slice D' (prod s) d')
    simp only [List.setIfInBounds_toArray, List.set_cons_zero, List.set_cons_succ] at i1
    obtain ⟨z0, z1, z2⟩ := i1.three
    have zl := i1.lt
    have hbw := hbw2.trans (hbr.mono hbw2.size)
    have hw2 := bR2.lt
    clear hK'
    go_wp2_with fail
    refine bodyPost_ret (v := .tuple #[.agg #[.bool a.ch, .slice A' s.length c', .slice D' (prod s) d'], .nilIface]) (by simp [results, Try.results14, go_sem, z0, z1, z2, zl]) rfl ?_
    have iS := (o4.kept hgg (.inr (o4.ne_low (by omega)))).isInts
    have iD := (o8.kept hgg (.inr (o8.ne_low (by omega)))).isInts
    exact ⟨_, rfl, ⟨_, _, rfl, iS, iD⟩, hbw.grown hgg hbw.size (fun j e => by cases e; omega)⟩

end Go.Proofs.Ytnjjapfdgddemaa
