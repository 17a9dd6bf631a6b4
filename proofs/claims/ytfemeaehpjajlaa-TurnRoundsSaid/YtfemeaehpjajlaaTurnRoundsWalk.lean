/- The walk of the law TurnRounds. Conditions: none. -/
import Derived.Test.YtfemeaehpjajlaaHelp
import Derived.Test.YtfemeaehpjajlaaStore
namespace Go.Proofs.Ytfemeaehpjajlaa
open Go Go.RowKit Go.Proofs.Ytfemeaehpjajlaa.P

set_option maxRecDepth 100000 in
set_option maxHeartbeats 4000000 in
theorem turnRounds_walk (m n i : Int) (v : Value) (a : Arr) (w : World) (ha : IsArr w v a) :
    Calls Try.prog 4 #[.int .i64 m, .int .i64 n, .int .i64 i, v] w (Says w) := by
  obtain ⟨A, ca, D, cd, rfl, hs, hd⟩ := ha.open_
  go_enter Try.func4, Try.ntmps4
  go_wp2_with fail
  have bv := Box.new (w.alloc (.cells #[.bool a.ch, .slice A a.sh.length ca, .slice D a.da.length cd] 24)) 3 #[.int .i64 1, .int .i64 2, .int .i64 3]
  simp only [World.size_alloc] at bv
  refine (vec_any _ [1, 2, 3] _ (bv.isInts rfl (by simp))).mono ?_
  rintro e w1 ⟨r1, rfl, hr1, hb1⟩
  have hbw1 := ((Below.refl w.heap.size w).trans ((below_two w _ _).mono (Below.refl w.heap.size w).size)).trans (hb1.mono ((Below.refl w.heap.size w).trans ((below_two w _ _).mono (Below.refl w.heap.size w).size)).size)
  have b_a1 := ((Box.new w 24 #[.bool a.ch, .slice A a.sh.length ca, .slice D a.da.length cd]).alloc _).below hb1
  have b_v1 := (Box.new (w.alloc (.cells #[.bool a.ch, .slice A a.sh.length ca, .slice D a.da.length cd] 24)) 3 #[.int .i64 1, .int .i64 2, .int .i64 3]).below hb1
  simp only [World.size_alloc] at b_v1
  clear hb1 bv
  obtain ⟨c_a0, c_a1, c_a2⟩ := b_a1.three
  have l_a := b_a1.lt
  have l_v := b_v1.lt
  go_wp2_with fail
  refine (rotate_ok (m := 1) (k := 0) hr1 (ok_vec (by simp)) (by simp)).mono ?_
  rintro e w2 ⟨r2, rfl, hr2, hb2⟩
  have hbw2 := hbw1.trans (hb2.mono hbw1.size)
  have b_a2 := b_a1.below hb2
  have a_v2 := hr1.mono hb2
  clear hb2 b_a1 hr1 hbw1 c_a0 c_a1 c_a2 l_a l_v
  obtain ⟨c_a0, c_a1, c_a2⟩ := b_a2.three
  have l_a := b_a2.lt
  obtain ⟨A2, ca2, D2, cd2, rfl, hs2, hd2⟩ := hr2.open_
  go_wp2_with fail
  have bq := Box.new (w2.alloc (.cells #[.bool ((rot 1 0 ⟨false, [3], [1, 2, 3]⟩)).ch, .slice A2 ((rot 1 0 ⟨false, [3], [1, 2, 3]⟩)).sh.length ca2, .slice D2 ((rot 1 0 ⟨false, [3], [1, 2, 3]⟩)).da.length cd2] 24)) 3 #[.int .i64 2, .int .i64 3, .int .i64 1]
  rw [World.size_alloc] at bq
  refine (ints_any _ _ _ [2, 3, 1] _ (hd2.mono (below_two _ _ _)) (bq.isInts rfl (by simp))).mono ?_
  rintro e w3 ⟨r3, rfl, hr3, hb3⟩
  have e3 : r3 = true := hr3.2 rfl
  subst e3
  clear hr3 hs2 hd2
  clear hr2
  have hbw3 := (hbw2.trans ((below_two w2 _ _).mono hbw2.size)).trans (hb3.mono (hbw2.trans ((below_two w2 _ _).mono hbw2.size)).size)
  have b_a3 := ((b_a2.alloc _).alloc _).below hb3
  clear hb3 b_a2 hbw2 c_a0 c_a1 c_a2 l_a bq
  obtain ⟨c_a0, c_a1, c_a2⟩ := b_a3.three
  have l_a := b_a3.lt
  rcases Int.lt_or_le 1099511627776 m with g0 | g0
  · have g0' : decide (1099511627776 < m) = true := by simpa using g0
    go_wp2_with fail
    go_ret
    exact ⟨rfl, by have := hbw3.size; go_grown⟩
  rcases Int.lt_or_le m (-1099511627776) with g1 | g1
  · have g1' : decide (m < -1099511627776) = true := by simpa using g1
    have g0' : decide (1099511627776 < m) = false := by simp; omega
    go_wp2_with fail
    go_ret
    exact ⟨rfl, by have := hbw3.size; go_grown⟩
  rcases Int.lt_or_le 1099511627776 n with g2 | g2
  · have g2' : decide (1099511627776 < n) = true := by simpa using g2
    have g0' : decide (1099511627776 < m) = false := by simp; omega
    have g1' : decide (m < -1099511627776) = false := by simp; omega
    go_wp2_with fail
    go_ret
    exact ⟨rfl, by have := hbw3.size; go_grown⟩
  rcases Int.lt_or_le n (-1099511627776) with g3 | g3
  · have g3' : decide (n < -1099511627776) = true := by simpa using g3
    have g0' : decide (1099511627776 < m) = false := by simp; omega
    have g1' : decide (m < -1099511627776) = false := by simp; omega
    have g2' : decide (1099511627776 < n) = false := by simp; omega
    go_wp2_with fail
    go_ret
    exact ⟨rfl, by have := hbw3.size; go_grown⟩
  have g0' : decide (1099511627776 < m) = false := by simp; omega
  have g1' : decide (m < -1099511627776) = false := by simp; omega
  have g2' : decide (1099511627776 < n) = false := by simp; omega
  have g3' : decide (n < -1099511627776) = false := by simp; omega
  by_cases h1 : axErr i a = 0
  · obtain ⟨t, k1, ht, rfl, hk1⟩ := axErr_zero h1
    have Ht := Lib.hid ht
    have Hk1 := Lib.hid hk1
    have hkl : ¬ a.sh.length ≤ k1 := by rw [ht.sh, length_ints]; omega
    have hk0 : ¬ (k1 : Int) < 0 := by omega
    clear h1 ht hk1
    go_wp2_with fail
    refine (rotate_ok (m := m) (ha.mono hbw3) Ht.out Hk1.out).mono ?_
    rintro e w4 ⟨r4, rfl, hr4, hb4⟩
    have hbw4 := hbw3.trans (hb4.mono hbw3.size)
    have b_a4 := b_a3.below hb4
    clear hb4 b_a3 hbw3 c_a0 c_a1 c_a2 l_a
    obtain ⟨c_a0, c_a1, c_a2⟩ := b_a4.three
    have l_a := b_a4.lt
    obtain ⟨A4, ca4, D4, cd4, rfl, hs4, hd4⟩ := hr4.open_
    go_wp2_with fail
    refine (rotate_ok (m := n) (hr4.mono (below_one _ _)) (rot_ok Ht.out) Hk1.out).mono ?_
    rintro e w5 ⟨r5, rfl, hr5, hb5⟩
    have hbw5 := (hbw4.trans ((below_one w4 _).mono hbw4.size)).trans (hb5.mono (hbw4.trans ((below_one w4 _).mono hbw4.size)).size)
    have b_a5 := (b_a4.alloc _).below hb5
    have b_xx5 := (Box.new w4 24 #[.bool (rot m k1 a).ch, .slice A4 (rot m k1 a).sh.length ca4, .slice D4 (rot m k1 a).da.length cd4]).below hb5
    have a_x5 := (hr4.mono (below_one _ _)).mono hb5
    clear hb5 b_a4 hr4 hbw4 c_a0 c_a1 c_a2 l_a
    obtain ⟨c_a0, c_a1, c_a2⟩ := b_a5.three
    have l_a := b_a5.lt
    obtain ⟨c_xx0, c_xx1, c_xx2⟩ := b_xx5.three
    have l_xx := b_xx5.lt
    obtain ⟨A5, ca5, D5, cd5, rfl, hs5, hd5⟩ := hr5.open_
    go_wp2_with fail
    refine (rotate_ok (m := m + n) (ha.mono (hbw5.trans ((below_one w5 _).mono hbw5.size))) Ht.out Hk1.out).mono ?_
    rintro e w6 ⟨r6, rfl, hr6, hb6⟩
    have hbw6 := (hbw5.trans ((below_one w5 _).mono hbw5.size)).trans (hb6.mono (hbw5.trans ((below_one w5 _).mono hbw5.size)).size)
    have b_a6 := (b_a5.alloc _).below hb6
    have b_xx6 := (b_xx5.alloc _).below hb6
    have b_xy6 := (Box.new w5 24 #[.bool (rot n k1 (rot m k1 a)).ch, .slice A5 (rot n k1 (rot m k1 a)).sh.length ca5, .slice D5 (rot n k1 (rot m k1 a)).da.length cd5]).below hb6
    have a_x6 := (a_x5.mono (below_one _ _)).mono hb6
    have a_y6 := (hr5.mono (below_one _ _)).mono hb6
    clear hb6 b_a5 b_xx5 a_x5 hr5 hbw5 c_a0 c_a1 c_a2 l_a c_xx0 c_xx1 c_xx2 l_xx
    obtain ⟨c_a0, c_a1, c_a2⟩ := b_a6.three
    have l_a := b_a6.lt
    obtain ⟨c_xx0, c_xx1, c_xx2⟩ := b_xx6.three
    have l_xx := b_xx6.lt
    obtain ⟨c_xy0, c_xy1, c_xy2⟩ := b_xy6.three
    have l_xy := b_xy6.lt
    obtain ⟨A6, ca6, D6, cd6, rfl, hs6, hd6⟩ := hr6.open_
    go_wp2_with fail
    refine (alike_nil _ _ _ _ _ (a_y6.mono (below_one _ _)) (hr6.mono (below_one _ _))).mono ?_
    rintro e w7 ⟨r7, rfl, hr7, hb7⟩
    have e7 : r7 = true := hr7.2 (rot_rot Ht.out Hk1.out m n)
    subst e7
    clear hr7
    have hbw7 := (hbw6.trans ((below_one w6 _).mono hbw6.size)).trans (hb7.mono (hbw6.trans ((below_one w6 _).mono hbw6.size)).size)
    have b_a7 := (b_a6.alloc _).below hb7
    have b_xx7 := (b_xx6.alloc _).below hb7
    have b_xy7 := (b_xy6.alloc _).below hb7
    have b_xz7 := (Box.new w6 24 #[.bool (rot (m + n) k1 a).ch, .slice A6 (rot (m + n) k1 a).sh.length ca6, .slice D6 (rot (m + n) k1 a).da.length cd6]).below hb7
    have a_x7 := (a_x6.mono (below_one _ _)).mono hb7
    have a_y7 := (a_y6.mono (below_one _ _)).mono hb7
    have a_z7 := (hr6.mono (below_one _ _)).mono hb7
    clear hb7 b_a6 b_xx6 b_xy6 a_x6 a_y6 hr6 hbw6 c_a0 c_a1 c_a2 l_a c_xx0 c_xx1 c_xx2 l_xx c_xy0 c_xy1 c_xy2 l_xy
    obtain ⟨c_a0, c_a1, c_a2⟩ := b_a7.three
    have l_a := b_a7.lt
    obtain ⟨c_xx0, c_xx1, c_xx2⟩ := b_xx7.three
    have l_xx := b_xx7.lt
    obtain ⟨c_xy0, c_xy1, c_xy2⟩ := b_xy7.three
    have l_xy := b_xy7.lt
    obtain ⟨c_xz0, c_xz1, c_xz2⟩ := b_xz7.three
    have l_xz := b_xz7.lt
    obtain ⟨E, hE, hlE, hcE⟩ := (hs.mono hbw7).elems k1 (t.getD k1 0 : Nat) (by rw [Ht.out.sh, getElem?_ints, List.getD_eq_getElem?_getD, List.getElem?_eq_getElem Hk1.out]; rfl)
    subst hE
    have hcE2 : ∀ o, (w7.drew.alloc o).cell? (E.add k1) = some (.int .i64 (t.getD k1 0 : Nat)) := fun o => (World.cell?_alloc_lt w7.drew o _ (by rw [addr_block_add]; exact hlE)).trans hcE
    have hlE2 : (E.add k1).block < w7.heap.size := by rw [addr_block_add]; exact hlE
    go_wp2_with fail
    have hb_a := b_a7
    have hbz7 := hbw7
    have hzz := hbz7.size
    clear c_a0 c_a1 c_a2 l_a hcE2 hlE2
    obtain ⟨V, hVe⟩ : ∃ V : Nat → Value → World → Prop, V = fun i v w' => match i with
        | 0 => v = .pointer (some ⟨w.heap.size, 1, none⟩)
        | 1 => v = .slice (some E) a.sh.length ca
        | 2 => v = .int .i64 k1
        | 3 => v = .pointer (some (E.add k1))
        | 4 => v = .int .i64 (t.getD k1 0 : Nat)
        | 5 => v = .int .i64 k1
        | 6 => v = .agg #[.bool a.ch, .slice (some E) a.sh.length ca, .slice D a.da.length cd]
        | 7 => ∃ r, v = .tuple #[r, .nilIface] ∧ IsArr w' r (rot (t.getD k1 0 : Nat) k1 a)
        | 8 => ∃ r, v = .tuple #[r, .nilIface] ∧ IsArr w' r (rot (t.getD k1 0 : Nat) k1 a)
        | 9 => IsArr w' v (rot (t.getD k1 0 : Nat) k1 a)
        | 10 => v = .nilIface
        | 11 => NewVar w7 v w'
        | 13 => v = .nilIface
        | _ => True := ⟨_, rfl⟩
    have hVm : ∀ j v w1 w2, V j v w1 → Below w1.heap.size w1 w2 → V j v w2 := by
      intro j v w1 w2 h hb
      subst hVe
      match j, h with
      | 0, h => exact h
      | 1, h => exact h
      | 2, h => exact h
      | 3, h => exact h
      | 4, h => exact h
      | 5, h => exact h
      | 6, h => exact h
      | 7, ⟨r, e, hr⟩ => exact ⟨r, e, hr.mono hb⟩
      | 8, ⟨r, e, hr⟩ => exact ⟨r, e, hr.mono hb⟩
      | 9, h => exact h.mono hb
      | 10, h => exact h
      | 11, h => exact NewVar.below h hb
      | 13, h => exact h
      | 12, _ => trivial
      | i + 14, _ => trivial
    have hV0 : ∀ v w', V 0 v w' ↔ v = .pointer (some ⟨w.heap.size, 1, none⟩) := fun _ _ => by subst hVe; rfl
    have hV1 : ∀ v w', V 1 v w' ↔ v = .slice (some E) a.sh.length ca := fun _ _ => by subst hVe; rfl
    have hV2 : ∀ v w', V 2 v w' ↔ v = .int .i64 k1 := fun _ _ => by subst hVe; rfl
    have hV3 : ∀ v w', V 3 v w' ↔ v = .pointer (some (E.add k1)) := fun _ _ => by subst hVe; rfl
    have hV4 : ∀ v w', V 4 v w' ↔ v = .int .i64 (t.getD k1 0 : Nat) := fun _ _ => by subst hVe; rfl
    have hV5 : ∀ v w', V 5 v w' ↔ v = .int .i64 k1 := fun _ _ => by subst hVe; rfl
    have hV6 : ∀ v w', V 6 v w' ↔ v = .agg #[.bool a.ch, .slice (some E) a.sh.length ca, .slice D a.da.length cd] := fun _ _ => by subst hVe; rfl
    have hV7 : ∀ v w', V 7 v w' ↔ ∃ r, v = .tuple #[r, .nilIface] ∧ IsArr w' r (rot (t.getD k1 0 : Nat) k1 a) := fun _ _ => by subst hVe; rfl
    have hV8 : ∀ v w', V 8 v w' ↔ ∃ r, v = .tuple #[r, .nilIface] ∧ IsArr w' r (rot (t.getD k1 0 : Nat) k1 a) := fun _ _ => by subst hVe; rfl
    have hV9 : ∀ v w', V 9 v w' ↔ IsArr w' v (rot (t.getD k1 0 : Nat) k1 a) := fun _ _ => by subst hVe; rfl
    have hV10 : ∀ v w', V 10 v w' ↔ v = .nilIface := fun _ _ => by subst hVe; rfl
    have hV11 : ∀ v w', V 11 v w' ↔ NewVar w7 v w' := fun _ _ => by subst hVe; rfl
    have hV13 : ∀ v w', V 13 v w' ↔ v = .nilIface := fun _ _ => by subst hVe; rfl
    have hV12 : ∀ v w', V 12 v w' := fun _ _ => by subst hVe; trivial
    refine wp_region_inv (StoreInv V w7 12 9 11) (by kernel_rfl) (by kernel_rfl) (by kernel_rfl) ?start ?step ?fin
    case start => exact fun u => ⟨(Below.refl _ _).drew, (fun j h => by simp at h), (fun h => by simp at h)⟩
    case step =>
      simp only [putAll, Act.put, List.setIfInBounds_toArray, List.set_cons_zero, List.set_cons_succ, Nat.reduceAdd, Nat.zero_add]
      intro i o ho done u wr hnd hdep hI K hK
      have hbr := hI.1
      have hv := hI.2.1
      match i, ho with
      | 0, ho =>
        simp only [List.getElem?_cons_zero, Option.some.injEq] at ho
        subst ho
        simp only [Act.put, List.setIfInBounds_toArray, List.set_cons_zero, List.set_cons_succ] at hK
        refine wpOp_step rfl fun K' hK' => ?_
        go_simp
        exact hK' _ _ (hK _ _ (hI.keep hnd (by decide) hVm (Below.refl _ _) ((hV0 _ _).2 rfl)))
      | 1, ho =>
        simp only [List.getElem?_cons_succ, List.getElem?_cons_zero, Option.some.injEq] at ho
        subst ho
        simp only [Act.put, List.setIfInBounds_toArray, List.set_cons_zero, List.set_cons_succ] at hK
        have e0 := (hV0 _ _).1 (hv 0 (hdep ⟨0, .data⟩ (by simp) rfl))
        simp only [e0] at hK
        have ba := hb_a.below hbr
        obtain ⟨y0, y1, y2⟩ := ba.three
        refine wpOp_step rfl fun K' hK' => ?_
        go_simp
        exact hK' _ _ (hK _ _ (hI.keep hnd (by decide) hVm (Below.refl _ _) ((hV1 _ _).2 rfl)))
      | 2, ho =>
        simp only [List.getElem?_cons_succ, List.getElem?_cons_zero, Option.some.injEq] at ho
        subst ho
        simp only [Act.put, List.setIfInBounds_toArray, List.set_cons_zero, List.set_cons_succ] at hK
        refine wpOp_step rfl fun K' hK' => ?_
        go_simp
        exact hK' _ _ (hK _ _ (hI.keep hnd (by decide) hVm (Below.refl _ _) ((hV2 _ _).2 rfl)))
      | 3, ho =>
        simp only [List.getElem?_cons_succ, List.getElem?_cons_zero, Option.some.injEq] at ho
        subst ho
        simp only [Act.put, List.setIfInBounds_toArray, List.set_cons_zero, List.set_cons_succ] at hK
        have e1 := (hV1 _ _).1 (hv 1 (hdep ⟨1, .data⟩ (by simp) rfl))
        have e2 := (hV2 _ _).1 (hv 2 (hdep ⟨2, .data⟩ (by simp) rfl))
        simp only [e1, e2] at hK
        have hkb : k1 < a.sh.length := by omega
        refine wpOp_step rfl fun K' hK' => ?_
        go_simp
        exact hK' _ _ (hK _ _ (hI.keep hnd (by decide) hVm (Below.refl _ _) ((hV3 _ _).2 rfl)))
      | 4, ho =>
        simp only [List.getElem?_cons_succ, List.getElem?_cons_zero, Option.some.injEq] at ho
        subst ho
        simp only [Act.put, List.setIfInBounds_toArray, List.set_cons_zero, List.set_cons_succ] at hK
        have e3 := (hV3 _ _).1 (hv 3 (hdep ⟨3, .data⟩ (by simp) rfl))
        simp only [e3] at hK
        have hce : wr.cell? (E.add k1) = some (.int .i64 (t.getD k1 0 : Nat)) := (hbr.cell (by rw [addr_block_add]; exact hlE)).trans hcE
        refine wpOp_step rfl fun K' hK' => ?_
        go_simp
        exact hK' _ _ (hK _ _ (hI.keep hnd (by decide) hVm (Below.refl _ _) ((hV4 _ _).2 rfl)))
      | 5, ho =>
        simp only [List.getElem?_cons_succ, List.getElem?_cons_zero, Option.some.injEq] at ho
        subst ho
        simp only [Act.put, List.setIfInBounds_toArray, List.set_cons_zero, List.set_cons_succ] at hK
        refine wpOp_step rfl fun K' hK' => ?_
        go_simp
        exact hK' _ _ (hK _ _ (hI.keep hnd (by decide) hVm (Below.refl _ _) ((hV5 _ _).2 rfl)))
      | 6, ho =>
        simp only [List.getElem?_cons_succ, List.getElem?_cons_zero, Option.some.injEq] at ho
        subst ho
        simp only [Act.put, List.setIfInBounds_toArray, List.set_cons_zero, List.set_cons_succ] at hK
        have ba := hb_a.below hbr
        obtain ⟨y0, y1, y2⟩ := ba.three
        refine wpOp_step rfl fun K' hK' => ?_
        go_simp
        exact hK' _ _ (hK _ _ (hI.keep hnd (by decide) hVm (Below.refl _ _) ((hV6 _ _).2 rfl)))
      | 7, ho =>
        simp only [List.getElem?_cons_succ, List.getElem?_cons_zero, Option.some.injEq] at ho
        subst ho
        simp only [Act.put, List.setIfInBounds_toArray, List.set_cons_zero, List.set_cons_succ] at hK
        have e4 := (hV4 _ _).1 (hv 4 (hdep ⟨4, .data⟩ (by simp) rfl))
        have e5 := (hV5 _ _).1 (hv 5 (hdep ⟨5, .data⟩ (by simp) rfl))
        have e6 := (hV6 _ _).1 (hv 6 (hdep ⟨6, .data⟩ (by simp) rfl))
        simp only [e4, e5, e6] at hK
        refine wpOp_step rfl fun K' hK' => ?_
        go_simp
        go_at_call 27
        refine (rotate_ok (m := (t.getD k1 0 : Nat)) (k := k1) (a := a) (ha.mono (hbz7.trans (hbr.mono hzz))) Ht.out Hk1.out).mono ?_
        rintro e w8 ⟨r8, rfl, hr8, hb8⟩
        exact hK' _ _ (hK _ _ (hI.keep hnd (by decide) hVm hb8 ((hV7 _ _).2 ⟨r8, rfl, hr8⟩)))
      | 8, ho =>
        simp only [List.getElem?_cons_succ, List.getElem?_cons_zero, Option.some.injEq] at ho
        subst ho
        simp only [Act.put, List.setIfInBounds_toArray, List.set_cons_zero, List.set_cons_succ] at hK
        obtain ⟨r, e7, hr⟩ := (hV7 _ _).1 (hv 7 (hdep ⟨7, .data⟩ (by simp) rfl))
        simp only [e7] at hK
        refine wpOp_step rfl fun K' hK' => ?_
        go_simp
        exact hK' _ _ (hK _ _ (hI.keep hnd (by decide) hVm (Below.refl _ _) ((hV8 _ _).2 ⟨r, rfl, hr⟩)))
      | 9, ho =>
        simp only [List.getElem?_cons_succ, List.getElem?_cons_zero, Option.some.injEq] at ho
        subst ho
        simp only [Act.put, List.setIfInBounds_toArray, List.set_cons_zero, List.set_cons_succ] at hK
        obtain ⟨r, e8, hr⟩ := (hV8 _ _).1 (hv 8 (hdep ⟨8, .data⟩ (by simp) rfl))
        simp only [e8] at hK
        refine wpOp_step rfl fun K' hK' => ?_
        go_simp
        exact hK' _ _ (hK _ _ (hI.keep hnd (by decide) hVm (Below.refl _ _) ((hV9 _ _).2 hr)))
      | 10, ho =>
        simp only [List.getElem?_cons_succ, List.getElem?_cons_zero, Option.some.injEq] at ho
        subst ho
        simp only [Act.put, List.setIfInBounds_toArray, List.set_cons_zero, List.set_cons_succ] at hK
        obtain ⟨r, e8, hr⟩ := (hV8 _ _).1 (hv 8 (hdep ⟨8, .data⟩ (by simp) rfl))
        simp only [e8] at hK
        refine wpOp_step rfl fun K' hK' => ?_
        go_simp
        exact hK' _ _ (hK _ _ (hI.keep hnd (by decide) hVm (Below.refl _ _) ((hV10 _ _).2 rfl)))
      | 11, ho =>
        simp only [List.getElem?_cons_succ, List.getElem?_cons_zero, Option.some.injEq] at ho
        subst ho
        simp only [Act.put, List.setIfInBounds_toArray, List.set_cons_zero, List.set_cons_succ] at hK
        have hz := hbr.size
        refine wpOp_step rfl fun K' hK' => ?_
        go_simp
        exact hK' _ _ (hK _ _ (hI.keep hnd (by decide) hVm (below_one _ _) ((hV11 _ _).2 ⟨_, _, _, _, _, _, _, _, rfl, hz, Box.new _ _ _⟩)))
      | 12, ho =>
        simp only [List.getElem?_cons_succ, List.getElem?_cons_zero, Option.some.injEq] at ho
        subst ho
        simp only [Act.put, List.setIfInBounds_toArray, List.set_cons_zero, List.set_cons_succ] at hK
        have d9 : done 9 = true := by simp [Region.binds] at hdep; simp [hdep]
        have d11 : done 11 = true := by simp [Region.binds] at hdep; simp [hdep]
        have h9 := (hV9 _ _).1 (hv 9 d9)
        have h11 := (hV11 _ _).1 (hv 11 d11)
        obtain ⟨A9, c9, D9, d9c, e9, hs9, hd9⟩ := h9.open_
        obtain ⟨g, b0, A0, n0, c0, D0, m0, d0, e11, hg, bg⟩ := h11
        have hF : Filled (u 9) (u 11) (((wr.setCell ⟨g, 0, none⟩ (.bool (rot (t.getD k1 0 : Nat) k1 a).ch)).setCell ⟨g, 1, none⟩ (.slice A9 (rot (t.getD k1 0 : Nat) k1 a).sh.length c9)).setCell ⟨g, 2, none⟩ (.slice D9 (rot (t.getD k1 0 : Nat) k1 a).da.length d9c)) := by
          intro g2 b2 A2 n2 c2 D2 m2 d2 f1 f2
          rw [e11] at f1
          rw [e9] at f2
          simp only [Value.pointer.injEq, Option.some.injEq, Addr.mk.injEq, and_true] at f1
          simp only [Value.agg.injEq, List.toArray_eq_iff, Array.mk.injEq, List.cons.injEq, and_true, Value.bool.injEq, Value.slice.injEq] at f2
          subst f1
          obtain ⟨f3, ⟨f4, f5, f6⟩, f7, f8, f9⟩ := f2
          subst f3 f4 f5 f6 f7 f8 f9
          simpa using ((bg.store 0 (.bool (rot (t.getD k1 0 : Nat) k1 a).ch)).store 1 (.slice A9 (rot (t.getD k1 0 : Nat) k1 a).sh.length c9)).store 2 (.slice D9 (rot (t.getD k1 0 : Nat) k1 a).da.length d9c)
        have hV2 : ∀ j v, V j v wr → V j v (((wr.setCell ⟨g, 0, none⟩ (.bool (rot (t.getD k1 0 : Nat) k1 a).ch)).setCell ⟨g, 1, none⟩ (.slice A9 (rot (t.getD k1 0 : Nat) k1 a).sh.length c9)).setCell ⟨g, 2, none⟩ (.slice D9 (rot (t.getD k1 0 : Nat) k1 a).da.length d9c)) := by
          intro j v h
          subst hVe
          match j, h with
          | 0, h => exact h
          | 1, h => exact h
          | 2, h => exact h
          | 3, h => exact h
          | 4, h => exact h
          | 5, h => exact h
          | 6, h => exact h
          | 7, ⟨r, e, hr⟩ => exact ⟨r, e, hr.laid bg _ _ _⟩
          | 8, ⟨r, e, hr⟩ => exact ⟨r, e, hr.laid bg _ _ _⟩
          | 9, h => exact h.laid bg _ _ _
          | 10, h => exact h
          | 11, h => exact NewVar.laid h bg
          | 12, _ => trivial
          | 13, h => exact h
          | j + 14, _ => trivial
        simp only [e9, e11] at hK
        obtain ⟨g0, g1, g2⟩ := bg.three
        have gf := bg.frozen
        have gl := bg.lt
        have hbS : Below w7.heap.size w7 (((wr.setCell ⟨g, 0, none⟩ (.bool (rot (t.getD k1 0 : Nat) k1 a).ch)).setCell ⟨g, 1, none⟩ (.slice A9 (rot (t.getD k1 0 : Nat) k1 a).sh.length c9)).setCell ⟨g, 2, none⟩ (.slice D9 (rot (t.getD k1 0 : Nat) k1 a).da.length d9c)) := by have := hbr.size; go_grown
        refine wpOp_step rfl fun K' hK' => ?_
        go_simp
        exact hK' _ _ (hK undef _ (hI.store hnd d9 d11 hV2 hbS (hV12 _ _) hF))
      | 13, ho =>
        simp only [List.getElem?_cons_succ, List.getElem?_cons_zero, Option.some.injEq] at ho
        subst ho
        simp only [Act.put, List.setIfInBounds_toArray, List.set_cons_zero, List.set_cons_succ] at hK
        have d10 : done 10 = true := by simp [Region.binds] at hdep; simp [hdep]
        have e10 := (hV10 _ _).1 (hv 10 d10)
        simp only [e10] at hK
        refine wpOp_step rfl fun K' hK' => ?_
        go_simp
        exact hK' _ _ (hK _ _ (hI.keep hnd (by decide) hVm (Below.refl _ _) ((hV13 _ _).2 rfl)))
      | i + 14, ho => simp at ho
    case fin =>
      simp only [putAll, Act.put, List.setIfInBounds_toArray, List.set_cons_zero, List.set_cons_succ, Nat.reduceAdd, Nat.zero_add]
      intro done u wr hd hI
      obtain ⟨hbr, hv, hst⟩ := hI
      simp only [List.length_cons, List.length_nil, Nat.reduceAdd, Nat.zero_add] at hd
      have e0 := (hV0 _ _).1 (hv 0 (hd 0 (by omega)))
      have e1 := (hV1 _ _).1 (hv 1 (hd 1 (by omega)))
      have e2 := (hV2 _ _).1 (hv 2 (hd 2 (by omega)))
      have e3 := (hV3 _ _).1 (hv 3 (hd 3 (by omega)))
      have e4 := (hV4 _ _).1 (hv 4 (hd 4 (by omega)))
      have e5 := (hV5 _ _).1 (hv 5 (hd 5 (by omega)))
      have e6 := (hV6 _ _).1 (hv 6 (hd 6 (by omega)))
      have e10 := (hV10 _ _).1 (hv 10 (hd 10 (by omega)))
      have e13 := (hV13 _ _).1 (hv 13 (hd 13 (by omega)))
      obtain ⟨rx, e7, -⟩ := (hV7 _ _).1 (hv 7 (hd 7 (by omega)))
      obtain ⟨ry, e8, -⟩ := (hV8 _ _).1 (hv 8 (hd 8 (by omega)))
      have h9 := (hV9 _ _).1 (hv 9 (hd 9 (by omega)))
      obtain ⟨g, b0, A0, n0, c0, D0, m0, d0, e11, hg, bg⟩ := (hV11 _ _).1 (hv 11 (hd 11 (by omega)))
      obtain ⟨-, -, hF⟩ := hst (hd 12 (by omega))
      obtain ⟨A9, c9, D9, d9, e9, hs9, hd9⟩ := h9.open_
      have gg := hF g _ _ _ _ _ _ _ e11 e9
      rw [e9] at h9
      simp only [e0, e1, e2, e3, e4, e5, e6, e7, e8, e9, e10, e11, e13]
      clear hv hF hst hd e0 e1 e2 e3 e4 e5 e6 e7 e8 e9 e10 e11 e13 bg hs9 hd9 hVm
      clear hV0 hV1 hV2 hV3 hV4 hV5 hV6 hV7 hV8 hV9 hV10 hV11 hV12 hV13
      obtain ⟨g0, g1, g2⟩ := gg.three
      have ba := hb_a.below hbr
      obtain ⟨y0, y1, y2⟩ := ba.three
      have lg := gg.lt
      have la := ba.lt
      have hw2 := hbz7.trans (hbr.mono hzz)
      go_wp2_with fail
      refine (alike_nil _ _ _ _ _ h9 (ha.mono hw2)).mono ?_
      rintro e w9 ⟨r9, rfl, hr9, hb9⟩
      have e9 : r9 = true := hr9.2 (rot_zero Ht.out Hk1.out (by simp))
      subst e9
      go_wp2_with fail
      go_ret
      exact ⟨rfl, hw2.trans (hb9.mono hw2.size)⟩
  · have h1' := Lib.hid h1
    clear h1
    go_wp2_with fail
    refine (rotate_bad (ha.mono hbw3) h1'.out).mono ?_
    rintro e w4 ⟨rfl, hb4⟩
    have hbw4 := hbw3.trans (hb4.mono hbw3.size)
    have b_a4 := b_a3.below hb4
    clear hb4 b_a3 hbw3 c_a0 c_a1 c_a2 l_a
    obtain ⟨c_a0, c_a1, c_a2⟩ := b_a4.three
    have l_a := b_a4.lt
    go_wp2_with fail
    go_ret
    exact ⟨rfl, by have := hbw4.size; go_grown⟩

end Go.Proofs.Ytfemeaehpjajlaa
