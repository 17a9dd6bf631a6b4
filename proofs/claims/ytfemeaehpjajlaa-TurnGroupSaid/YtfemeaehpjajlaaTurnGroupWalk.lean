/- The walk of the law TurnGroup. Conditions: none. -/
import Derived.Test.YtfemeaehpjajlaaFlipWalk
import Derived.Test.YtfemeaehpjajlaaPermS
import Derived.Test.YtfemeaehpjajlaaStore
import Derived.Test.YtfemeaehpjajlaaMore
import Derived.Test.YtfemeaehpjajlaaAlike
namespace Go.Proofs.Ytfemeaehpjajlaa
open Go Go.RowKit Go.Proofs.Ytfemeaehpjajlaa.P

set_option maxRecDepth 100000 in
set_option maxHeartbeats 4000000 in
theorem turnGroup_walk (v0 v1 v2 : Value) (p q : List Int) (a : Arr) (w : World) (h0 : IsInts w v0 p) (h1 : IsInts w v1 q) (ha : IsArr w v2 a) :
    Calls Try.prog 5 #[v0, v1, v2] w (Says w) := by
  obtain ⟨P, cp, rfl, p1, p2, p3, EP, H0⟩ := h0.open_
  obtain ⟨Q, cq, rfl, q1, q2, q3, EQ, H1⟩ := h1.open_
  obtain ⟨A, ca, D, cd, rfl, hs, hd⟩ := ha.open_
  clear h0 h1
  go_enter Try.func5, Try.ntmps5
  go_wp2_with fail
  have x1 := (Box.new (w.alloc (.cells #[.bool a.ch, .slice A a.sh.length ca, .slice D a.da.length cd] 24)) 3 #[.int .i64 1, .int .i64 0])
  simp only [World.size_alloc] at x1
  have i1 : IsInts ((((w.alloc (.cells #[.bool a.ch, .slice A a.sh.length ca, .slice D a.da.length cd] 24)).alloc (.cells #[.int .i64 1, .int .i64 0] 3)).alloc (.cells #[.int .i64 2, .int .i64 2] 3)).alloc (.cells #[.int .i64 1, .int .i64 2, .int .i64 3, .int .i64 4] 3)) (.slice (some ⟨w.heap.size + 1, 0, none⟩) 2 2) [1, 0] := ((x1.alloc _).alloc _).isInts (xs := [1, 0]) (n := 2) rfl (by omega)
  have x2 := (Box.new ((w.alloc (.cells #[.bool a.ch, .slice A a.sh.length ca, .slice D a.da.length cd] 24)).alloc (.cells #[.int .i64 1, .int .i64 0] 3)) 3 #[.int .i64 2, .int .i64 2])
  simp only [World.size_alloc] at x2
  have i2 : IsInts ((((w.alloc (.cells #[.bool a.ch, .slice A a.sh.length ca, .slice D a.da.length cd] 24)).alloc (.cells #[.int .i64 1, .int .i64 0] 3)).alloc (.cells #[.int .i64 2, .int .i64 2] 3)).alloc (.cells #[.int .i64 1, .int .i64 2, .int .i64 3, .int .i64 4] 3)) (.slice (some ⟨w.heap.size + 1 + 1, 0, none⟩) 2 2) [2, 2] := (x2.alloc _).isInts (xs := [2, 2]) (n := 2) rfl (by omega)
  have x3 := (Box.new (((w.alloc (.cells #[.bool a.ch, .slice A a.sh.length ca, .slice D a.da.length cd] 24)).alloc (.cells #[.int .i64 1, .int .i64 0] 3)).alloc (.cells #[.int .i64 2, .int .i64 2] 3)) 3 #[.int .i64 1, .int .i64 2, .int .i64 3, .int .i64 4])
  simp only [World.size_alloc] at x3
  have i3 : IsInts ((((w.alloc (.cells #[.bool a.ch, .slice A a.sh.length ca, .slice D a.da.length cd] 24)).alloc (.cells #[.int .i64 1, .int .i64 0] 3)).alloc (.cells #[.int .i64 2, .int .i64 2] 3)).alloc (.cells #[.int .i64 1, .int .i64 2, .int .i64 3, .int .i64 4] 3)) (.slice (some ⟨w.heap.size + 1 + 1 + 1, 0, none⟩) 4 4) [1, 2, 3, 4] := x3.isInts (xs := [1, 2, 3, 4]) (n := 4) rfl (by omega)
  clear x1 x2 x3
  refine (flip_ok' (t := [2, 2]) (u := [1, 0]) (a := ⟨false, [2, 2], [1, 2, 3, 4]⟩) i1 ⟨_, _, rfl, i2, i3⟩ ⟨rfl, ⟨by decide, by decide, by decide⟩, rfl, by simp⟩ ⟨by decide, by decide⟩ rfl).mono ?_
  rintro e w1 ⟨r1, rfl, hr1, hb1⟩
  have hbw1 := ((Below.refl w.heap.size w).trans ((below_four w _ _ _ _).mono (Below.refl w.heap.size w).size)).trans (hb1.mono ((Below.refl w.heap.size w).trans ((below_four w _ _ _ _).mono (Below.refl w.heap.size w).size)).size)
  have b_a1 := ((((Box.new w 24 #[.bool a.ch, .slice A a.sh.length ca, .slice D a.da.length cd]).alloc _).alloc _).alloc _).below hb1
  clear hb1 i1 i2 i3
  obtain ⟨c_a0, c_a1, c_a2⟩ := b_a1.three
  have l_a := b_a1.lt
  obtain ⟨A1, ca1, D1, cd1, rfl, hs1, hd1⟩ := hr1.open_
  go_wp2_with fail
  have bq := Box.new (w1.alloc (.cells #[.bool ((flip [1, 0] ⟨false, [2, 2], [1, 2, 3, 4]⟩)).ch, .slice A1 ((flip [1, 0] ⟨false, [2, 2], [1, 2, 3, 4]⟩)).sh.length ca1, .slice D1 ((flip [1, 0] ⟨false, [2, 2], [1, 2, 3, 4]⟩)).da.length cd1] 24)) 3 #[.int .i64 1, .int .i64 3, .int .i64 2, .int .i64 4]
  rw [World.size_alloc] at bq
  refine (ints_any _ _ _ [1, 3, 2, 4] _ (hd1.mono (below_two _ _ _)) (bq.isInts rfl (by simp))).mono ?_
  rintro e w2 ⟨r2, rfl, hr2, hb2⟩
  have e2 : r2 = true := hr2.2 (by decide)
  subst e2
  clear hr2 hs1 hd1
  clear hr1
  have hbw2 := (hbw1.trans ((below_two w1 _ _).mono hbw1.size)).trans (hb2.mono (hbw1.trans ((below_two w1 _ _).mono hbw1.size)).size)
  have b_a2 := ((b_a1.alloc _).alloc _).below hb2
  clear hb2 b_a1 hbw1 c_a0 c_a1 c_a2 l_a bq
  obtain ⟨c_a0, c_a1, c_a2⟩ := b_a2.three
  have l_a := b_a2.lt
  by_cases hE : flipErr p a = 0
  case neg =>
    have HE := Lib.hid hE
    clear hE
    go_wp2_with fail
    refine (flip_bad (H0.mono hbw2) (ha.mono hbw2) HE.out).mono ?_
    rintro e w3 ⟨rfl, hb3⟩
    have hbw3 := hbw2.trans (hb3.mono hbw2.size)
    have b_a3 := b_a2.below hb3
    clear hb3 b_a2 hbw2 c_a0 c_a1 c_a2 l_a
    obtain ⟨c_a0, c_a1, c_a2⟩ := b_a3.three
    have l_a := b_a3.lt
    go_wp2_with fail
    go_ret
    exact ⟨rfl, by have := hbw3.size; go_grown⟩
  obtain ⟨t, u, ht, rfl, hu, hl⟩ := flipErr_zero hE
  have Ht := Lib.hid ht
  have HU := Lib.hid hu
  have HL := Lib.hid hl
  have hu6 : u.length ≤ 6 := by rw [hl]; exact ht.good.1
  clear hE ht hu hl
  go_wp2_with fail
  refine (flip_ok' (H0.mono hbw2) (ha.mono hbw2) Ht.out HU.out HL.out).mono ?_
  rintro e w3 ⟨r3, rfl, hr3, hb3⟩
  have hbw3 := hbw2.trans (hb3.mono hbw2.size)
  have b_a3 := b_a2.below hb3
  clear hb3 b_a2 hbw2 c_a0 c_a1 c_a2 l_a
  obtain ⟨c_a0, c_a1, c_a2⟩ := b_a3.three
  have l_a := b_a3.lt
  obtain ⟨A3, ca3, D3, cd3, rfl, hs3, hd3⟩ := hr3.open_
  go_wp2_with fail
  refine (permutation_any (H1.mono (hbw3.trans ((below_one w3 _).mono hbw3.size)))).mono ?_
  rintro e w4 ⟨o, rfl, ho, hb4⟩
  have HO := Lib.hid ho
  clear ho
  have hbw4 := (hbw3.trans ((below_one w3 _).mono hbw3.size)).trans (hb4.mono (hbw3.trans ((below_one w3 _).mono hbw3.size)).size)
  have b_a4 := (b_a3.alloc _).below hb4
  have b_xx4 := (Box.new w3 24 #[.bool (flip u a).ch, .slice A3 (flip u a).sh.length ca3, .slice D3 (flip u a).da.length cd3]).below hb4
  have a_x4 := (hr3.mono (below_one _ _)).mono hb4
  clear hb4 b_a3 hr3 hbw3 c_a0 c_a1 c_a2 l_a
  obtain ⟨c_a0, c_a1, c_a2⟩ := b_a4.three
  have l_a := b_a4.lt
  obtain ⟨c_xx0, c_xx1, c_xx2⟩ := b_xx4.three
  have l_xx := b_xx4.lt
  have hbz := hbw4
  have hzz := hbz.size
  have hb_x := b_xx4
  have hb_a := b_a4
  have h_x := a_x4
  have ox := flip_ok Ht.out HU.out HL.out
  have iu := inv_perm HU.out
  have il : (inv u).length = (flipSh u t).length := by rw [inv_length, flipSh_length]
  have OX := Lib.hid ox
  have IU := Lib.hid iu
  have IL := Lib.hid il
  clear ox iu il
  go_wp2_with fail
  clear c_a0 c_a1 c_a2 l_a c_xx0 c_xx1 c_xx2 l_xx
  obtain ⟨V, hVe⟩ : ∃ V : Nat → Value → World → Prop, V = fun i v w' => match i with
      | 0 => v = .slice P (ints u).length cp
      | 1 => IsInts w' v (ints (inv u))
      | 2 => v = .agg #[.bool (flip u a).ch, .slice A3 (flip u a).sh.length ca3, .slice D3 (flip u a).da.length cd3]
      | 3 => ∃ r, v = .tuple #[r, .nilIface] ∧ IsArr w' r (flip (inv u) (flip u a))
      | 4 => ∃ r, v = .tuple #[r, .nilIface] ∧ IsArr w' r (flip (inv u) (flip u a))
      | 5 => IsArr w' v (flip (inv u) (flip u a))
      | 6 => v = .nilIface
      | 7 => NewVar w4 v w'
      | 9 => v = .nilIface
      | _ => True := ⟨_, rfl⟩
  have hVm : ∀ j v w1 w2, V j v w1 → Below w1.heap.size w1 w2 → V j v w2 := by
    intro j v w1 w2 h hb
    subst hVe
    match j, h with
    | 0, h => exact h
    | 1, h => exact h.mono hb
    | 2, h => exact h
    | 3, ⟨r, e, hr⟩ => exact ⟨r, e, hr.mono hb⟩
    | 4, ⟨r, e, hr⟩ => exact ⟨r, e, hr.mono hb⟩
    | 5, h => exact h.mono hb
    | 6, h => exact h
    | 7, h => exact NewVar.below h hb
    | 9, h => exact h
    | 8, _ => trivial
    | i + 10, _ => trivial
  have hV0 : ∀ v w', V 0 v w' ↔ v = .slice P (ints u).length cp := fun _ _ => by subst hVe; rfl
  have hV1 : ∀ v w', V 1 v w' ↔ IsInts w' v (ints (inv u)) := fun _ _ => by subst hVe; rfl
  have hV2 : ∀ v w', V 2 v w' ↔ v = .agg #[.bool (flip u a).ch, .slice A3 (flip u a).sh.length ca3, .slice D3 (flip u a).da.length cd3] := fun _ _ => by subst hVe; rfl
  have hV3 : ∀ v w', V 3 v w' ↔ ∃ r, v = .tuple #[r, .nilIface] ∧ IsArr w' r (flip (inv u) (flip u a)) := fun _ _ => by subst hVe; rfl
  have hV4 : ∀ v w', V 4 v w' ↔ ∃ r, v = .tuple #[r, .nilIface] ∧ IsArr w' r (flip (inv u) (flip u a)) := fun _ _ => by subst hVe; rfl
  have hV5 : ∀ v w', V 5 v w' ↔ IsArr w' v (flip (inv u) (flip u a)) := fun _ _ => by subst hVe; rfl
  have hV6 : ∀ v w', V 6 v w' ↔ v = .nilIface := fun _ _ => by subst hVe; rfl
  have hV7 : ∀ v w', V 7 v w' ↔ NewVar w4 v w' := fun _ _ => by subst hVe; rfl
  have hV9 : ∀ v w', V 9 v w' ↔ v = .nilIface := fun _ _ => by subst hVe; rfl
  have hV8 : ∀ v w', V 8 v w' := fun _ _ => by subst hVe; trivial
  refine wp_region_inv (StoreInv V w4 8 5 7) (by kernel_rfl) (by kernel_rfl) (by kernel_rfl) ?start ?step ?fin
  case start => exact fun u => ⟨(Below.refl _ _).drew, (fun j h => by simp at h), (fun h => by simp at h)⟩
  case step =>
    simp only [putAll, Act.put, List.setIfInBounds_toArray, List.set_cons_zero, List.set_cons_succ, Nat.reduceAdd, Nat.zero_add]
    intro i o ho done u_ wr hnd hdep hI K hK
    have hbr := hI.1
    have hv := hI.2.1
    match i, ho with
    | 0, ho =>
      simp only [List.getElem?_cons_zero, Option.some.injEq] at ho
      subst ho
      simp only [Act.put, List.setIfInBounds_toArray, List.set_cons_zero, List.set_cons_succ] at hK
      refine wpOp_step rfl fun K' hK' => ?_
      go_simp
      exact hK' _ _ (hK _ _ (hI.keep hnd (by decide) hVm (Below.refl _ _) ((hV0 _ _).2 rfl)))
    | 1, ho =>
      simp only [List.getElem?_cons_succ, List.getElem?_cons_zero, Option.some.injEq] at ho
      subst ho
      simp only [Act.put, List.setIfInBounds_toArray, List.set_cons_zero, List.set_cons_succ] at hK
      have e0 := (hV0 _ _).1 (hv 0 (hdep ⟨0, .data⟩ (by simp) rfl))
      simp only [e0] at hK
      refine wpOp_step rfl fun K' hK' => ?_
      go_simp
      go_at_call 30
      refine (backwards_ok (H0.mono (hbz.trans (hbr.mono hzz))) HU.out (by omega)).mono ?_
      rintro e w8 ⟨r8, rfl, hr8, hb8⟩
      exact hK' _ _ (hK _ _ (hI.keep hnd (by decide) hVm hb8 ((hV1 _ _).2 hr8)))
    | 2, ho =>
      simp only [List.getElem?_cons_succ, List.getElem?_cons_zero, Option.some.injEq] at ho
      subst ho
      simp only [Act.put, List.setIfInBounds_toArray, List.set_cons_zero, List.set_cons_succ] at hK
      have bxx := hb_x.below hbr
      obtain ⟨y0, y1, y2⟩ := bxx.three
      refine wpOp_step rfl fun K' hK' => ?_
      go_simp
      exact hK' _ _ (hK _ _ (hI.keep hnd (by decide) hVm (Below.refl _ _) ((hV2 _ _).2 rfl)))
    | 3, ho =>
      simp only [List.getElem?_cons_succ, List.getElem?_cons_zero, Option.some.injEq] at ho
      subst ho
      simp only [Act.put, List.setIfInBounds_toArray, List.set_cons_zero, List.set_cons_succ] at hK
      have q1 := (hV1 _ _).1 (hv 1 (hdep ⟨1, .data⟩ (by simp) rfl))
      have e2 := (hV2 _ _).1 (hv 2 (hdep ⟨2, .data⟩ (by simp) rfl))
      simp only [e2] at hK
      refine wpOp_step rfl fun K' hK' => ?_
      go_simp
      go_at_call 28
      refine (flip_ok' q1 (h_x.mono hbr) OX.out IU.out IL.out).mono ?_
      rintro e w8 ⟨r8, rfl, hr8, hb8⟩
      exact hK' _ _ (hK _ _ (hI.keep hnd (by decide) hVm hb8 ((hV3 _ _).2 ⟨r8, rfl, hr8⟩)))
    | 4, ho =>
      simp only [List.getElem?_cons_succ, List.getElem?_cons_zero, Option.some.injEq] at ho
      subst ho
      simp only [Act.put, List.setIfInBounds_toArray, List.set_cons_zero, List.set_cons_succ] at hK
      obtain ⟨r, e3, hr⟩ := (hV3 _ _).1 (hv 3 (hdep ⟨3, .data⟩ (by simp) rfl))
      simp only [e3] at hK
      refine wpOp_step rfl fun K' hK' => ?_
      go_simp
      exact hK' _ _ (hK _ _ (hI.keep hnd (by decide) hVm (Below.refl _ _) ((hV4 _ _).2 ⟨r, rfl, hr⟩)))
    | 5, ho =>
      simp only [List.getElem?_cons_succ, List.getElem?_cons_zero, Option.some.injEq] at ho
      subst ho
      simp only [Act.put, List.setIfInBounds_toArray, List.set_cons_zero, List.set_cons_succ] at hK
      obtain ⟨r, e4, hr⟩ := (hV4 _ _).1 (hv 4 (hdep ⟨4, .data⟩ (by simp) rfl))
      simp only [e4] at hK
      refine wpOp_step rfl fun K' hK' => ?_
      go_simp
      exact hK' _ _ (hK _ _ (hI.keep hnd (by decide) hVm (Below.refl _ _) ((hV5 _ _).2 hr)))
    | 6, ho =>
      simp only [List.getElem?_cons_succ, List.getElem?_cons_zero, Option.some.injEq] at ho
      subst ho
      simp only [Act.put, List.setIfInBounds_toArray, List.set_cons_zero, List.set_cons_succ] at hK
      obtain ⟨r, e4, hr⟩ := (hV4 _ _).1 (hv 4 (hdep ⟨4, .data⟩ (by simp) rfl))
      simp only [e4] at hK
      refine wpOp_step rfl fun K' hK' => ?_
      go_simp
      exact hK' _ _ (hK _ _ (hI.keep hnd (by decide) hVm (Below.refl _ _) ((hV6 _ _).2 rfl)))
    | 7, ho =>
      simp only [List.getElem?_cons_succ, List.getElem?_cons_zero, Option.some.injEq] at ho
      subst ho
      simp only [Act.put, List.setIfInBounds_toArray, List.set_cons_zero, List.set_cons_succ] at hK
      have hz := hbr.size
      refine wpOp_step rfl fun K' hK' => ?_
      go_simp
      exact hK' _ _ (hK _ _ (hI.keep hnd (by decide) hVm (below_one _ _) ((hV7 _ _).2 ⟨_, _, _, _, _, _, _, _, rfl, hz, Box.new _ _ _⟩)))
    | 8, ho =>
      simp only [List.getElem?_cons_succ, List.getElem?_cons_zero, Option.some.injEq] at ho
      subst ho
      simp only [Act.put, List.setIfInBounds_toArray, List.set_cons_zero, List.set_cons_succ] at hK
      have d5 : done 5 = true := by simp [Region.binds] at hdep; simp [hdep]
      have d7 : done 7 = true := by simp [Region.binds] at hdep; simp [hdep]
      have h5 := (hV5 _ _).1 (hv 5 d5)
      have h7 := (hV7 _ _).1 (hv 7 d7)
      obtain ⟨A9, c9, D9, d9c, e5, hs9, hd9⟩ := h5.open_
      obtain ⟨g, b0, A0, n0, c0, D0, m0, d0, e7, hg, bg⟩ := h7
      have hF : Filled (u_ 5) (u_ 7) (((wr.setCell ⟨g, 0, none⟩ (.bool (flip (inv u) (flip u a)).ch)).setCell ⟨g, 1, none⟩ (.slice A9 (flip (inv u) (flip u a)).sh.length c9)).setCell ⟨g, 2, none⟩ (.slice D9 (flip (inv u) (flip u a)).da.length d9c)) := by
        intro g2 b2 A2 n2 c2 D2 m2 d2 f1 f2
        rw [e7] at f1
        rw [e5] at f2
        simp only [Value.pointer.injEq, Option.some.injEq, Addr.mk.injEq, and_true] at f1
        simp only [Value.agg.injEq, List.toArray_eq_iff, Array.mk.injEq, List.cons.injEq, and_true, Value.bool.injEq, Value.slice.injEq] at f2
        subst f1
        obtain ⟨f3, ⟨f4, f5, f6⟩, f7, f8, f9⟩ := f2
        subst f3 f4 f5 f6 f7 f8 f9
        simpa using ((bg.store 0 (.bool (flip (inv u) (flip u a)).ch)).store 1 (.slice A9 (flip (inv u) (flip u a)).sh.length c9)).store 2 (.slice D9 (flip (inv u) (flip u a)).da.length d9c)
      have hV2 : ∀ j v, V j v wr → V j v (((wr.setCell ⟨g, 0, none⟩ (.bool (flip (inv u) (flip u a)).ch)).setCell ⟨g, 1, none⟩ (.slice A9 (flip (inv u) (flip u a)).sh.length c9)).setCell ⟨g, 2, none⟩ (.slice D9 (flip (inv u) (flip u a)).da.length d9c)) := by
        intro j v h
        subst hVe
        match j, h with
        | 0, h => exact h
        | 1, h => exact h.off (grownBy_three _ _ _ _ _) bg (noInts_arr _ _ _ _ _ _ _)
        | 2, h => exact h
        | 3, ⟨r, e, hr⟩ => exact ⟨r, e, hr.laid bg _ _ _⟩
        | 4, ⟨r, e, hr⟩ => exact ⟨r, e, hr.laid bg _ _ _⟩
        | 5, h => exact h.laid bg _ _ _
        | 6, h => exact h
        | 7, h => exact NewVar.laid h bg
        | 8, _ => trivial
        | 9, h => exact h
        | j + 10, _ => trivial
      simp only [e5, e7] at hK
      obtain ⟨g0, g1, g2⟩ := bg.three
      have gf := bg.frozen
      have gl := bg.lt
      have hbS : Below w4.heap.size w4 (((wr.setCell ⟨g, 0, none⟩ (.bool (flip (inv u) (flip u a)).ch)).setCell ⟨g, 1, none⟩ (.slice A9 (flip (inv u) (flip u a)).sh.length c9)).setCell ⟨g, 2, none⟩ (.slice D9 (flip (inv u) (flip u a)).da.length d9c)) := by have := hbr.size; go_grown
      refine wpOp_step rfl fun K' hK' => ?_
      go_simp
      exact hK' _ _ (hK undef _ (hI.store hnd d5 d7 hV2 hbS (hV8 _ _) hF))
    | 9, ho =>
      simp only [List.getElem?_cons_succ, List.getElem?_cons_zero, Option.some.injEq] at ho
      subst ho
      simp only [Act.put, List.setIfInBounds_toArray, List.set_cons_zero, List.set_cons_succ] at hK
      have d6 : done 6 = true := by simp [Region.binds] at hdep; simp [hdep]
      have e6 := (hV6 _ _).1 (hv 6 d6)
      simp only [e6] at hK
      refine wpOp_step rfl fun K' hK' => ?_
      go_simp
      exact hK' _ _ (hK _ _ (hI.keep hnd (by decide) hVm (Below.refl _ _) ((hV9 _ _).2 rfl)))
    | i + 10, ho => simp at ho
  case fin =>
    simp only [putAll, Act.put, List.setIfInBounds_toArray, List.set_cons_zero, List.set_cons_succ, Nat.reduceAdd, Nat.zero_add]
    intro done u_ wr hd hI
    obtain ⟨hbr, hv, hst⟩ := hI
    simp only [List.length_cons, List.length_nil, Nat.reduceAdd, Nat.zero_add] at hd
    have e0 := (hV0 _ _).1 (hv 0 (hd 0 (by omega)))
    have e2 := (hV2 _ _).1 (hv 2 (hd 2 (by omega)))
    have e6 := (hV6 _ _).1 (hv 6 (hd 6 (by omega)))
    have e9 := (hV9 _ _).1 (hv 9 (hd 9 (by omega)))
    have q1 := (hV1 _ _).1 (hv 1 (hd 1 (by omega)))
    obtain ⟨rx, e3, -⟩ := (hV3 _ _).1 (hv 3 (hd 3 (by omega)))
    obtain ⟨ry, e4, -⟩ := (hV4 _ _).1 (hv 4 (hd 4 (by omega)))
    have h5 := (hV5 _ _).1 (hv 5 (hd 5 (by omega)))
    obtain ⟨g, b0, A0, n0, c0, D0, m0, d0, e7, hg, bg⟩ := (hV7 _ _).1 (hv 7 (hd 7 (by omega)))
    obtain ⟨-, -, hF⟩ := hst (hd 8 (by omega))
    obtain ⟨A9, c9, D9, d9, e5, hs9, hd9⟩ := h5.open_
    have gg := hF g _ _ _ _ _ _ _ e7 e5
    rw [e5] at h5
    simp only [e0, e2, e3, e4, e5, e6, e7, e9]
    clear hv hF hst hd e0 e2 e3 e4 e5 e6 e7 e9 bg hs9 hd9 hVm q1 hVe
    clear hV0 hV1 hV2 hV3 hV4 hV5 hV6 hV7 hV8 hV9
    have bA9 := hb_a.below hbr
    have bX9 := hb_x.below hbr
    have aX9 := h_x.mono hbr
    have hbw9 := hbz.trans (hbr.mono hzz)
    clear hb_a hb_x h_x hbz hzz hbr
    obtain ⟨c_a0, c_a1, c_a2⟩ := bA9.three
    have l_a := bA9.lt
    obtain ⟨c_xx0, c_xx1, c_xx2⟩ := bX9.three
    have l_xx := bX9.lt
    obtain ⟨c_xb0, c_xb1, c_xb2⟩ := gg.three
    have l_xb := gg.lt
    go_wp2_with fail
    refine (alike_nil _ _ _ _ _ h5 (ha.mono hbw9)).mono ?_
    rintro e w10 ⟨r10, rfl, hr10, hb10⟩
    have e10 : r10 = true := hr10.2 (flip_back Ht.out HU.out HL.out)
    subst e10
    clear hr10
    have hbw10 := hbw9.trans (hb10.mono hbw9.size)
    have b_a10 := bA9.below hb10
    have b_xx10 := bX9.below hb10
    have b_xb10 := gg.below hb10
    have a_x10 := aX9.mono hb10
    have a_b10 := h5.mono hb10
    clear hb10 bA9 bX9 gg aX9 h5 hbw9 c_a0 c_a1 c_a2 l_a c_xx0 c_xx1 c_xx2 l_xx c_xb0 c_xb1 c_xb2 l_xb
    obtain ⟨c_a0, c_a1, c_a2⟩ := b_a10.three
    have l_a := b_a10.lt
    obtain ⟨c_xx0, c_xx1, c_xx2⟩ := b_xx10.three
    have l_xx := b_xx10.lt
    obtain ⟨c_xb0, c_xb1, c_xb2⟩ := b_xb10.three
    have l_xb := b_xb10.lt
    by_cases hq : IsOrder q
    case neg =>
      have ho : o = false := by have := HO.out; cases o; rfl; exact absurd (this.1 rfl) hq
      subst ho
      clear hq
      go_wp2_with fail
      go_ret
      exact ⟨rfl, by have := hbw10.size; go_grown⟩
    have ho : o = true := HO.out.2 hq
    subst ho
    obtain ⟨s, rfl, hs_⟩ := order_open hq
    clear hq HO
    by_cases hsl : s.length = u.length
    case neg =>
      have hb : (((ints s).length : Int) != ((ints u).length : Int)) = true := by simp [length_ints]; omega
      clear hsl
      go_wp2_with fail
      go_ret
      exact ⟨rfl, by have := hbw10.size; go_grown⟩
    have hb : (((ints s).length : Int) != ((ints u).length : Int)) = false := by simp [length_ints]; omega
    have HS := Lib.hid hs_
    have HSL := Lib.hid hsl
    clear hs_ hsl
    have hlq : (ints s).length = (ints u).length := by rw [length_ints, length_ints, HSL.out]
    have HLQ := Lib.hid hlq
    clear hlq
    have hmk := run_make_list (ints u).length (by rw [length_ints]; omega)
    have hro := Row.made w10 (ints u).length
    go_wp2_with fail
    go_loopw [17] (fun i wr => ∃ (k : Nat) (S : List Int), k ≤ u.length ∧ i = .int .i64 k ∧ S.length = u.length ∧ S.take k = ints ((aft s u).take k) ∧ Row wr w10.heap.size S ∧ Below w10.heap.size w10 wr) (fun i _ => u.length - (intOf i).toNat)
    case atStart => exact ⟨0, _, Nat.zero_le _, rfl, by simp [length_ints], by simp [ints], hro, below_one _ _⟩
    case round =>
      clear hro
      obtain ⟨k, S, hk, rfl, hS, hd, hro, hbl⟩ := hrel
      have hbw_ := hbw10.trans (hbl.mono hbw10.size)
      rcases Nat.lt_or_ge k u.length with hlt | hge
      · have HLT := HU.out.lt hlt
        have HSL2 := Lib.hid hS
        have HD := Lib.hid hd
        obtain ⟨ad, x, rfl, hx, hal, hcx⟩ := Elems.later EP hbw_ (k := k) (by rw [length_ints]; exact hlt)
        obtain ⟨rfl, -⟩ := ints_getD hx
        obtain ⟨ae, z, rfl, hz, hae, hcz⟩ := Elems.later EQ hbw_ (k := u.getD k 0) (by rw [length_ints, HSL.out]; exact HLT)
        obtain ⟨rfl, -⟩ := ints_getD hz
        obtain ⟨z0, hz0⟩ : ∃ z, S[k]? = some z := ⟨_, List.getElem?_eq_getElem (show k < S.length by omega)⟩
        have hgc := hro.at_ hz0
        have hgf := Box.frozen hro k
        have hglt := Box.lt hro
        obtain ⟨m, hm⟩ : ∃ m, m = u.getD k 0 := ⟨_, rfl⟩
        obtain ⟨y, hy⟩ : ∃ y, y = s.getD m 0 := ⟨_, rfl⟩
        rw [← hm] at HLT hcx hcz
        rw [← hy] at hcz
        have d1 : decide (((ints s).length : Int) ≤ (m : Int)) = false := by rw [length_ints, HSL.out]; simp; omega
        have d2 : decide ((ints s).length ≤ m) = false := by rw [length_ints, HSL.out]; simp; omega
        have d3 : m < (ints s).length := by rw [length_ints, HSL.out]; exact HLT
        have d4 : k < (ints u).length := by rw [length_ints]; exact hlt
        have HM := Lib.hid hm
        have HY := Lib.hid hy
        clear hz0 hz hx hy hm hS hd
        go_wp2_with fail
        go_roundw
        case rel =>
          refine ⟨k + 1, S.set k y, by omega, by go_num, by rw [List.length_set]; exact HSL2.out, ?_, hro.store k _, hbl.setCell (p := ⟨w10.heap.size, k, none⟩) (Nat.le_refl _) _⟩
          have hkS : k < S.length := by rw [HSL2.out]; exact hlt
          rw [List.take_add_one, List.getElem?_set_self hkS, List.take_set_of_le (Nat.le_refl k), HD.out]
          have e : (aft s u)[k]? = some y := by rw [List.getElem?_eq_getElem (by rw [aft_length]; exact hlt), ← getD_lt, getD_aft hlt, ← HM.out, ← HY.out]
          rw [List.take_add_one (l := aft s u), e]
          simp [ints]
        case measure => simp [intOf]; omega
      · have hkk : k = u.length := by omega
        subst hkk
        have hSf : S = ints (aft s u) := by
          rw [List.take_of_length_le (by omega), List.take_of_length_le (by rw [aft_length]; exact Nat.le_refl _)] at hd
          exact hd
        have iS := hro.isInts (n := (ints u).length) (by rw [length_ints]; exact hS.symm) (by rw [length_ints]; omega)
        rw [hSf] at iS
        have d5 : decide ((u.length : Int) < ((ints u).length : Int)) = false := by rw [length_ints]; simp
        have d6 : decide (u.length < (ints u).length) = false := by rw [length_ints]; simp
        have d7 : ¬ u.length < (ints u).length := by rw [length_ints]; omega
        clear hS hd hSf hro
        have d_a := b_a10.below hbl
        have d_xx := b_xx10.below hbl
        have f_x := a_x10.mono hbl
        clear b_a10 b_xx10 a_x10 c_a0 c_a1 c_a2 l_a c_xx0 c_xx1 c_xx2 l_xx c_xb0 c_xb1 c_xb2 l_xb hbl hbw10
        obtain ⟨c_a0, c_a1, c_a2⟩ := d_a.three
        have l_a := d_a.lt
        obtain ⟨c_xx0, c_xx1, c_xx2⟩ := d_xx.three
        have l_xx := d_xx.lt
        have hsf : s.length = (flipSh u t).length := by rw [flipSh_length, HSL.out]
        have hau := aft_perm HS.out HU.out HSL.out
        have hff := flip_flip Ht.out HU.out HS.out HL.out (by rw [HSL.out, HL.out])
        have ox := flip_ok Ht.out HU.out HL.out
        have HSF := Lib.hid hsf
        have HAU := Lib.hid hau
        have HFF := Lib.hid hff
        have OX2 := Lib.hid ox
        clear hsf hau hff ox
        go_wp2_with fail
        refine (flip_ok' (H1.mono hbw_) f_x OX2.out HS.out HSF.out).mono ?_
        rintro e w11 ⟨r11, rfl, hr11, hb11⟩
        have hbw11 := hbw_.trans (hb11.mono hbw_.size)
        have b_a11 := d_a.below hb11
        have b_xx11 := d_xx.below hb11
        have a_x11 := f_x.mono hb11
        have a_r11 := iS.mono hb11
        clear hb11 d_a d_xx f_x iS hbw_ c_a0 c_a1 c_a2 l_a c_xx0 c_xx1 c_xx2 l_xx
        obtain ⟨c_a0, c_a1, c_a2⟩ := b_a11.three
        have l_a := b_a11.lt
        obtain ⟨c_xx0, c_xx1, c_xx2⟩ := b_xx11.three
        have l_xx := b_xx11.lt
        obtain ⟨A11, ca11, D11, cd11, rfl, hs11, hd11⟩ := hr11.open_
        go_wp2_with fail
        refine (flip_ok' (a_r11.mono (below_one _ _)) (ha.mono (hbw11.trans ((below_one w11 _).mono hbw11.size))) Ht.out HAU.out (by rw [aft_length, HL.out])).mono ?_
        rintro e w12 ⟨r12, rfl, hr12, hb12⟩
        have hbw12 := (hbw11.trans ((below_one w11 _).mono hbw11.size)).trans (hb12.mono (hbw11.trans ((below_one w11 _).mono hbw11.size)).size)
        have b_a12 := (b_a11.alloc _).below hb12
        have b_xx12 := (b_xx11.alloc _).below hb12
        have b_xy12 := (Box.new w11 24 #[.bool (flip s (flip u a)).ch, .slice A11 (flip s (flip u a)).sh.length ca11, .slice D11 (flip s (flip u a)).da.length cd11]).below hb12
        have a_x12 := (a_x11.mono (below_one _ _)).mono hb12
        have a_r12 := (a_r11.mono (below_one _ _)).mono hb12
        have a_y12 := (hr11.mono (below_one _ _)).mono hb12
        clear hb12 b_a11 b_xx11 a_x11 a_r11 hr11 hbw11 c_a0 c_a1 c_a2 l_a c_xx0 c_xx1 c_xx2 l_xx
        obtain ⟨c_a0, c_a1, c_a2⟩ := b_a12.three
        have l_a := b_a12.lt
        obtain ⟨c_xx0, c_xx1, c_xx2⟩ := b_xx12.three
        have l_xx := b_xx12.lt
        obtain ⟨c_xy0, c_xy1, c_xy2⟩ := b_xy12.three
        have l_xy := b_xy12.lt
        obtain ⟨A12, ca12, D12, cd12, rfl, hs12, hd12⟩ := hr12.open_
        go_wp2_with fail
        refine (alike_nil _ _ _ _ _ (a_y12.mono (below_one _ _)) (hr12.mono (below_one _ _))).mono ?_
        rintro e w13 ⟨r13, rfl, hr13, hb13⟩
        have e13 : r13 = true := hr13.2 (HFF.out)
        subst e13
        clear hr13
        have hbw13 := (hbw12.trans ((below_one w12 _).mono hbw12.size)).trans (hb13.mono (hbw12.trans ((below_one w12 _).mono hbw12.size)).size)
        have b_a13 := (b_a12.alloc _).below hb13
        have b_xx13 := (b_xx12.alloc _).below hb13
        have b_xy13 := (b_xy12.alloc _).below hb13
        have b_xz13 := (Box.new w12 24 #[.bool (flip (aft s u) a).ch, .slice A12 (flip (aft s u) a).sh.length ca12, .slice D12 (flip (aft s u) a).da.length cd12]).below hb13
        have a_x13 := (a_x12.mono (below_one _ _)).mono hb13
        have a_r13 := (a_r12.mono (below_one _ _)).mono hb13
        have a_y13 := (a_y12.mono (below_one _ _)).mono hb13
        have a_z13 := (hr12.mono (below_one _ _)).mono hb13
        clear hb13 b_a12 b_xx12 b_xy12 a_x12 a_r12 a_y12 hr12 hbw12 c_a0 c_a1 c_a2 l_a c_xx0 c_xx1 c_xx2 l_xx c_xy0 c_xy1 c_xy2 l_xy
        obtain ⟨c_a0, c_a1, c_a2⟩ := b_a13.three
        have l_a := b_a13.lt
        obtain ⟨c_xx0, c_xx1, c_xx2⟩ := b_xx13.three
        have l_xx := b_xx13.lt
        obtain ⟨c_xy0, c_xy1, c_xy2⟩ := b_xy13.three
        have l_xy := b_xy13.lt
        obtain ⟨c_xz0, c_xz1, c_xz2⟩ := b_xz13.three
        have l_xz := b_xz13.lt
        go_wp2_with fail
        go_ret
        exact ⟨rfl, by have := hbw13.size; go_grown⟩

end Go.Proofs.Ytfemeaehpjajlaa
