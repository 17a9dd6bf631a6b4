/- The walk of cut.Spread. Conditions: none. -/
import Derived.Test.YtikjniibfomadaaDoorKeepWalk
import Derived.Test.YtikjniibfomadaaDoorFillReg
import Derived.Test.YtikjniibfomadaaDoorWindow
namespace Go.Proofs.YtikjniibfomadaaDoor.P

def spreadErr (m : List Int) (axis : Int) (a : Arr) : Int :=
  if arrErr a ≠ 0 then arrErr a else if axis < 0 ∨ (a.sh.length : Int) ≤ axis then 5 else if ¬ Mask m then 6 else if ((cnt m m.length : Nat) : Int) ≠ a.sh.getD axis.toNat 0 then 4
  else cntErr (a.sh.set axis.toNat (m.length : Int))

theorem spread_take {a : Arr} {t : List Nat} {k : Nat} {m : List Int} (h : Ok a t) (hk : k < t.length) (hm : cnt m m.length = t.getD k 0) (hg : GoodSh (t.set k m.length)) {o i : Nat} (ho : o < outerOf t k) (hi : m[i]? = some 1) {P L n : Nat} (hn : n = innerOf t k)
    (hP : P = (o * m.length + i) * n) (hL : L = (o * t.getD k 0 + cnt m i) * n) : (spread m k a).da.take P ++ (a.da.take (L + n)).drop L = (spread m k a).da.take (P + n) := by
  rw [List.drop_take, show L + n - L = n by omega]
  refine take_piece fun r hr => ?_
  rw [hP, hL, hn]
  exact spread_da1 h hk hm hg ho hi (by rw [← hn]; exact hr)
theorem spread_fill {a : Arr} {t : List Nat} {k : Nat} {m : List Int} (h : Ok a t) (hk : k < t.length) (hm : cnt m m.length = t.getD k 0) (hg : GoodSh (t.set k m.length)) {o i r : Nat} (ho : o < outerOf t k) (hil : i < m.length) (hi : m[i]? ≠ some 1) {P n : Nat} (hn : n = innerOf t k)
    (hP : P = (o * m.length + i) * n + r) (hr : r < n) : (spread m k a).da.take P ++ [fillOf a.ch] = (spread m k a).da.take (P + 1) := by
  have e := spread_da0 h hk hm hg ho hil hi (r := r) (by rw [← hn]; exact hr)
  rw [← hn, ← hP] at e
  rw [List.take_add_one, e]
  rfl
/-- The products of the lengths behind an axis. -/
def TailTo (t : List Nat) (k j : Nat) : Nat := prod ((t.drop (k + 1)).take j)
theorem tailTo_next {t : List Nat} {k j : Nat} (hj : j < (t.drop (k + 1)).length) : TailTo t k (j + 1) = TailTo t k j * (t.drop (k + 1)).getD j 0 := take_succ_prod hj
theorem tailTo_all {t : List Nat} {k : Nat} : TailTo t k (t.drop (k + 1)).length = innerOf t k := by
  unfold TailTo innerOf
  rw [List.take_of_length_le (Nat.le_refl _)]

end Go.Proofs.YtikjniibfomadaaDoor.P
namespace Go.Proofs.YtikjniibfomadaaDoor
open Go Go.RowKit Go.Proofs.YtikjniibfomadaaDoor.P

/-- How many numbers an array's block tells. -/
def lenAt (g : Nat) (w : World) : Nat := match w.cell? ⟨g, 2, none⟩ with | some (.slice _ p _) => p | _ => 0
theorem lenAt_box {w : World} {g : Nat} {t : TypeId} {v0 v1 : Value} {A : Option Addr} {p c : Nat} (h : Box w g t #[v0, v1, .slice A p c]) : lenAt g w = p := by
  unfold lenAt
  rw [h.three.2.2]

set_option maxRecDepth 100000 in
set_option maxHeartbeats 4000000 in
theorem spread_told {vm v : Value} {axis : Int} {mk : List Int} {a : Arr} {w : World} (hm : IsInts w vm mk) (ha : IsArr w v a) :
    Calls Tryd.prog 11 #[vm, .int .i64 axis, v] w (Told (spread mk axis.toNat a) (spreadErr mk axis a) w) := by
  obtain ⟨A, ca, D, cd, rfl, hs, hd⟩ := ha.open_
  obtain ⟨B, cb, rfl, b1, b2, b3, EM0, HMI⟩ := hm.open_
  obtain ⟨_, _, e1, a1, a2, a3, -, a4⟩ := id hs
  cases e1
  obtain ⟨_, _, e1, dd1, dd2, dd3, d0, d4⟩ := id hd
  cases e1
  have EM := Lib.hid EM0
  have EA := Lib.hid (show Elems w A a.sh from a4)
  have DA := Lib.hid (show Elems w D a.da from d4)
  have DA0 := Lib.hid d0
  have HS := Lib.hid hs
  clear a4 d4 d0 EM0 hs hd hm
  have bA0 := (Box.new w 24 #[.bool a.ch, .slice A a.sh.length ca, .slice D a.da.length cd]).alloc (.cells #[.bool false, .slice none 0 0, .slice none 0 0] 24)
  have bR0 := Box.new (w.alloc (.cells #[.bool a.ch, .slice A a.sh.length ca, .slice D a.da.length cd] 24)) 24 #[.bool false, .slice none 0 0, .slice none 0 0]
  rw [World.size_alloc] at bR0
  have hb0 := below_two w (.cells #[.bool a.ch, .slice A a.sh.length ca, .slice D a.da.length cd] 24) (.cells #[.bool false, .slice none 0 0, .slice none 0 0] 24)
  obtain ⟨t0, t1, t2⟩ := bA0.three
  go_enter Tryd.func11, Tryd.ntmps11
  go_wp2_with fail
  by_cases c1 : arrErr a = 0
  case neg =>
    have HE := Lib.hid (show spreadErr mk axis a = arrErr a by unfold spreadErr; rw [if_pos c1])
    have C1 := Lib.hid c1
    clear c1
    refine (check_bad (ha.mono hb0) C1.out).mono ?_
    rintro e w1 ⟨rfl, hb1⟩
    have bR := bR0.below hb1
    have hbw := hb0.trans (hb1.mono hb0.size)
    obtain ⟨q0, q1, q2⟩ := bR.three
    have fR := bR.frozen
    have hzR := bR.lt
    clear bA0 bR0 t0 t1 t2 hb1
    go_wp2_with fail
    refine bodyPost_ret (v := .tuple #[zeroArr, .iface 25 (.int .i64 (arrErr a))]) (by simp [results, Tryd.results11, go_sem, q0, q1, q2, hzR]) rfl ?_
    exact .inr ⟨by rw [HE.out]; exact C1.out, by rw [HE.out], by have := hbw.size; go_grown⟩
  obtain ⟨t, ht⟩ := ok_of_arrErr c1
  have HT := Lib.hid ht
  have HC1 := Lib.hid (show ¬ arrErr a ≠ 0 by simp [c1])
  have HSL := Lib.hid (show a.sh.length = t.length by rw [ht.sh, length_ints])
  clear c1 ht
  refine (check_ok (ha.mono hb0) HT.out).mono ?_
  rintro e w1 ⟨rfl, hb1⟩
  have bA1 := bA0.below hb1
  have bR1 := bR0.below hb1
  have hbw := hb0.trans (hb1.mono hb0.size)
  obtain ⟨t0, t1, t2⟩ := bA1.three
  obtain ⟨q0, q1, q2⟩ := bR1.three
  have fR := bR1.frozen
  have hzR := bR1.lt
  have hzA := bA1.lt
  have hn6 := HT.out.good.1
  clear bA0 bR0 hb1
  rcases Int.lt_or_le axis 0 with g0 | g0
  · have d0 : decide (axis < (0 : Int)) = true := by simpa using g0
    have HE := Lib.hid (show spreadErr mk axis a = 5 by unfold spreadErr; rw [if_neg HC1.out, if_pos (.inl g0)])
    go_wp2_with fail
    refine bodyPost_ret (v := .tuple #[zeroArr, .iface 25 (.int .i64 (5))]) (by simp [results, Tryd.results11, go_sem, q0, q1, q2, hzR]) rfl ?_
    exact .inr ⟨by rw [HE.out]; decide, by rw [HE.out], by have := hbw.size; go_grown⟩
  rcases Int.lt_or_le axis a.sh.length with g1 | g1
  case inr =>
    have d0 : decide (axis < (0 : Int)) = false := by simp; omega
    have d1 : decide ((a.sh.length : Int) ≤ axis) = true := by simpa using g1
    have HE := Lib.hid (show spreadErr mk axis a = 5 by unfold spreadErr; rw [if_neg HC1.out, if_pos (.inr g1)])
    go_wp2_with fail
    refine bodyPost_ret (v := .tuple #[zeroArr, .iface 25 (.int .i64 (5))]) (by simp [results, Tryd.results11, go_sem, q0, q1, q2, hzR]) rfl ?_
    exact .inr ⟨by rw [HE.out]; decide, by rw [HE.out], by have := hbw.size; go_grown⟩
  obtain ⟨k, rfl⟩ := Int.eq_ofNat_of_zero_le g0
  have hka : k < a.sh.length := by omega
  have d1 : decide (a.sh.length ≤ k) = false := by simp; omega
  have d2 : decide ((a.sh.length : Int) ≤ (k : Int)) = false := by simp; omega
  have HX := Lib.hid (show ¬ ((k : Int) < 0 ∨ (a.sh.length : Int) ≤ (k : Int)) by omega)
  have hkt : k < t.length := by rw [← HSL.out]; exact hka
  have HKT := Lib.hid hkt
  clear g0 g1
  go_wp2_with fail
  refine (ones_any (HMI.mono hbw)).mono ?_
  rintro e w1' ⟨hone, hb1⟩
  have bA2 := bA1.below hb1
  have bR2 := bR1.below hb1
  have hbw2 := hbw.trans (hb1.mono hbw.size)
  clear bA1 bR1 hbw hb1 t0 t1 t2 q0 q1 q2 fR hzR hzA
  obtain ⟨w1, rfl⟩ : ∃ w : World, w = w1' := ⟨_, rfl⟩
  have bA1 := bA2
  have bR1 := bR2
  have hbw := hbw2
  clear bA2 bR2 hbw2
  obtain ⟨ax, x, eA, hx, hax, hcx⟩ := Elems.later EA.out hbw hka
  subst eA
  have hxe : x = ((t.getD k 0 : Nat) : Int) := by rw [HT.out.sh] at hx; exact (ints_getD hx).1
  subst hxe
  have HGD := Lib.hid (show a.sh.getD (k : Int).toNat 0 = ((t.getD k 0 : Nat) : Int) by rw [show (k : Int).toNat = k by omega, List.getD_eq_getElem?_getD, hx]; rfl)
  obtain ⟨X, hXe⟩ : ∃ X, X = t.getD k 0 := ⟨_, rfl⟩
  rw [← hXe] at hcx HGD
  have HXE := Lib.hid hXe
  have hX4 : X ≤ 4096 := by rw [hXe, getD_lt hkt]; exact HT.out.good.2.1 _ (List.getElem_mem _)
  clear hx hXe hkt
  obtain ⟨t0, t1, t2⟩ := bA1.three
  obtain ⟨q0, q1, q2⟩ := bR1.three
  have fR := bR1.frozen
  have hzR := bR1.lt
  have hzA := bA1.lt
  rcases hone with ⟨hM, rfl⟩ | ⟨hM, rfl⟩
  case inr =>
    have HE := Lib.hid (show spreadErr mk k a = 6 by unfold spreadErr; rw [if_neg HC1.out, if_neg HX.out, if_pos hM])
    clear hM
    go_wp2_with fail
    refine bodyPost_ret (v := .tuple #[zeroArr, .iface 25 (.int .i64 (6))]) (by simp [results, Tryd.results11, go_sem, q0, q1, q2, hzR]) rfl ?_
    exact .inr ⟨by rw [HE.out]; decide, by rw [HE.out], by have := hbw.size; go_grown⟩
  have HM := Lib.hid hM
  have HM' := Lib.hid (show ¬ ¬ Mask mk by simpa using hM)
  obtain ⟨c, hce⟩ : ∃ c, c = cnt mk mk.length := ⟨_, rfl⟩
  rw [← hce]
  have HCE := Lib.hid hce
  clear hM hce
  by_cases c4 : c = X
  case neg =>
    have e4 : ((c : Int) != (X : Int)) = true := by simp; omega
    have HE := Lib.hid (show spreadErr mk k a = 4 by unfold spreadErr; rw [if_neg HC1.out, if_neg HX.out, if_neg HM'.out, HGD.out, ← HCE.out, if_pos (by omega)])
    clear c4
    go_wp2_with fail
    refine bodyPost_ret (v := .tuple #[zeroArr, .iface 25 (.int .i64 (4))]) (by simp [results, Tryd.results11, go_sem, q0, q1, q2, hzR]) rfl ?_
    exact .inr ⟨by rw [HE.out]; decide, by rw [HE.out], by have := hbw.size; go_grown⟩
  have e4 : ((c : Int) != (X : Int)) = false := by simp; omega
  have HCX := Lib.hid c4
  have HJE := Lib.hid (show spreadErr mk k a = cntErr (a.sh.set k (mk.length : Int)) by unfold spreadErr; rw [if_neg HC1.out, if_neg HX.out, if_neg HM'.out, HGD.out, ← HCE.out, if_neg (by omega), show (k : Int).toNat = k by omega])
  clear c4
  go_wp2_with fail
  refine (clone_any _ a.sh _ (HS.out.mono hbw)).mono ?_
  rintro e w2 ⟨As, cs, rfl, os, hb2⟩
  obtain ⟨-, -, -, -, -, r6⟩ := os.srow
  obtain ⟨gs, eS, hgs, hmi⟩ := r6 (by omega)
  subst eS
  have hxk : a.sh[k]? = some (X : Int) := by rw [HT.out.sh, HXE.out]; exact ints_get HKT.out
  have gk := hmi.cell hxk
  have fk := hmi.frozen k
  have lgs := hmi.lt
  have hm2 := hmi.store k (mk.length : Int)
  have bA2 := (bA1.below hb2).far (p := ⟨gs, k, none⟩) (by simp; omega) (.int .i64 (mk.length : Int))
  have bR2 := (bR1.below hb2).far (p := ⟨gs, k, none⟩) (by simp; omega) (.int .i64 (mk.length : Int))
  have hbw2 := (hbw.trans (hb2.mono hbw.size)).setCell (p := ⟨gs, k, none⟩) (by have := hbw.size; simp; omega) (.int .i64 (mk.length : Int))
  have hgsW : w.heap.size + 2 ≤ gs := by omega
  clear bA1 bR1 hb2 t0 t1 t2 q0 q1 q2 fR hzR hzA hcx os hmi hxk
  obtain ⟨t0, t1, t2⟩ := bA2.three
  obtain ⟨q0, q1, q2⟩ := bR2.three
  have fR := bR2.frozen
  have hzR := bR2.lt
  have hzA := bA2.lt
  have hshe : a.sh.set k (mk.length : Int) = ints (t.set k mk.length) := by rw [HT.out.sh]; simp [ints, List.map_set]
  rw [hshe] at hm2
  have HJ2 := Lib.hid (show spreadErr mk k a = cntErr (ints (t.set k mk.length)) by rw [HJE.out, hshe])
  have iS := hm2.isInts
  have HM2 := Lib.hid hm2
  clear hshe hm2
  go_wp2_with fail
  obtain ⟨wC, hwC⟩ : ∃ W, W = w2.setCell ⟨gs, k, none⟩ (.int .i64 (mk.length : Int)) := ⟨_, rfl⟩
  rw [← hwC] at HM2 iS bA2 bR2 hbw2 t0 t1 t2 q0 q1 q2 fR hzR hzA ⊢
  have hgsC : gs < wC.heap.size := by rw [hwC]; simpa using lgs
  clear gk fk lgs hwC
  by_cases c7 : cntErr (ints (t.set k mk.length)) = 0
  case neg =>
    have C7 := Lib.hid c7
    have HE := HJ2
    have hbw := hbw2
    clear c7
    refine (count_bad _ _ _ iS C7.out).mono ?_
    rintro e w3 ⟨rfl, rfl⟩
    go_wp2_with fail
    refine bodyPost_ret (v := .tuple #[zeroArr, .iface 25 (.int .i64 (cntErr (ints (t.set k mk.length))))]) (by simp [results, Tryd.results11, go_sem, q0, q1, q2, hzR]) rfl ?_
    exact .inr ⟨by rw [HE.out]; exact C7.out, by rw [HE.out], by have := hbw.size; go_grown⟩
  obtain ⟨u', hu', hg'⟩ := cntErr_zero c7
  rw [← ints_inj hu'] at hg'
  have HG := Lib.hid hg'
  have HJ0 := Lib.hid (show spreadErr mk k a = 0 by rw [HJ2.out]; exact c7)
  clear c7 hg' hu'
  refine (count_ok _ _ _ iS HG.out).mono ?_
  rintro e w3 ⟨rfl, hw3⟩
  subst hw3
  obtain ⟨N, hN⟩ : ∃ N, N = prod (t.set k mk.length) := ⟨_, rfl⟩
  rw [← hN]
  have hN4 : N ≤ 4096 := by rw [hN]; exact HG.out.2.2
  have HN := Lib.hid hN
  have hmk := run_make_ints N (by omega)
  have bA1 := bA2
  have bR1 := bR2
  have hbwC := hbw2
  have hbwCs := hbwC.size
  clear hN iS bA2 bR2 hbw2
  go_wp2_with fail
  refine wp_region_open (fun i v lo hi w' => match i with
    | 0 => v = .pointer (some ⟨w.heap.size, 0, none⟩)
    | 1 => v = .bool a.ch
    | 2 => v = .slice (some ⟨gs, 0, none⟩) a.sh.length cs
    | 3 => v = .int .i64 N
    | 4 => ∃ m, v = .slice (some ⟨m, 0, none⟩) 0 N ∧ Owns w' lo v 0 [] ∧ m < hi ∧ wC.heap.size ≤ lo
    | 5 => ∃ m, v = .agg #[.bool a.ch, .slice (some ⟨gs, 0, none⟩) a.sh.length cs, .slice (some ⟨m, 0, none⟩) 0 N] ∧ Owns w' (wC.heap.size) (.slice (some ⟨m, 0, none⟩) 0 N) 0 []
    | 6 => ∃ g, v = .pointer (some ⟨g, 0, none⟩) ∧ Box w' g 24 #[.bool false, .slice none 0 0, .slice none 0 0] ∧ wC.heap.size ≤ g
    | _ => True) (by kernel_rfl) (by kernel_rfl) (by kernel_rfl) ?hV ?step ?last
  case hV =>
    intro i v lo hi w1 w2 h hb
    match i, h with
    | 0, h => exact h
    | 1, h => exact h
    | 2, h => exact h
    | 3, h => exact h
    | 4, ⟨m, e, ho, hl, hz⟩ => exact ⟨m, e, ho.below hb, hl, hz⟩
    | 5, ⟨m, e, ho'⟩ => exact ⟨m, e, ho'.below hb⟩
    | 6, ⟨g, e, hx, hz⟩ => exact ⟨g, e, hx.below hb, hz⟩
    | i + 7, _ => trivial
  case step =>
    simp only [putAll, Act.put, List.setIfInBounds_toArray, List.set_cons_zero, List.set_cons_succ, Nat.reduceAdd, Nat.zero_add]
    intro i o ho hi uu lo up wr hbr hd hj K hK
    obtain ⟨hcw, hfw⟩ := bcell hbr
    match i, ho with
    | 0, ho =>
      simp only [List.getElem?_cons_zero, Option.some.injEq] at ho
      subst ho
      first | (simp [Region.binds] at hd; simp only [hd] at hK) | skip
      refine wpOp_step rfl fun K' hK' => ?_
      go_simp
      exact hK' _ _ (hK _ _ (Below.refl _ _) rfl)
    | 1, ho =>
      simp only [List.getElem?_cons_succ, List.getElem?_cons_zero, Option.some.injEq] at ho
      subst ho
      first | (simp [Region.binds] at hd; simp only [hd] at hK) | skip
      refine wpOp_step rfl fun K' hK' => ?_
      go_simp
      exact hK' _ _ (hK _ _ (Below.refl _ _) rfl)
    | 2, ho =>
      simp only [List.getElem?_cons_succ, List.getElem?_cons_zero, Option.some.injEq] at ho
      subst ho
      first | (simp [Region.binds] at hd; simp only [hd] at hK) | skip
      refine wpOp_step rfl fun K' hK' => ?_
      go_simp
      exact hK' _ _ (hK _ _ (Below.refl _ _) rfl)
    | 3, ho =>
      simp only [List.getElem?_cons_succ, List.getElem?_cons_zero, Option.some.injEq] at ho
      subst ho
      first | (simp [Region.binds] at hd; simp only [hd] at hK) | skip
      refine wpOp_step rfl fun K' hK' => ?_
      go_simp
      exact hK' _ _ (hK _ _ (Below.refl _ _) rfl)
    | 4, ho =>
      simp only [List.getElem?_cons_succ, List.getElem?_cons_zero, Option.some.injEq] at ho
      subst ho
      first | (simp [Region.binds] at hd; simp only [hd] at hK) | skip
      have hz := hbr.size
      try simp only [World.size_alloc] at hz
      refine wpOp_step rfl fun K' hK' => ?_
      go_simp
      exact hK' _ _ (hK _ _ (below_one _ _) ⟨_, rfl, ⟨World.ownsRow_made _ _ _ (Nat.le_refl _) (by unfold maxLen; omega) (by simp [size_madeCells]), by omega⟩, by simp, by omega⟩)
    | 5, ho =>
      simp only [List.getElem?_cons_succ, List.getElem?_cons_zero, Option.some.injEq] at ho
      subst ho
      have h1 : uu 1 = .bool a.ch := hd ⟨1, .data⟩ (by simp) rfl
      have h2 : uu 2 = .slice (some ⟨gs, 0, none⟩) a.sh.length cs := hd ⟨2, .data⟩ (by simp) rfl
      obtain ⟨m, ed, od, ld, zd⟩ := hd ⟨4, .data⟩ (by simp) rfl
      dsimp only at od ld zd
      simp only [h1, h2, ed] at hK
      rw [ed] at od
      refine wpOp_step rfl fun K' hK' => ?_
      go_simp
      exact hK' _ _ (hK _ _ (Below.refl _ _) ⟨m, rfl, od.base (by omega)⟩)
    | 6, ho =>
      simp only [List.getElem?_cons_succ, List.getElem?_cons_zero, Option.some.injEq] at ho
      subst ho
      first | (simp [Region.binds] at hd; simp only [hd] at hK) | skip
      have hz := hbr.size
      try simp only [World.size_alloc] at hz
      refine wpOp_step rfl fun K' hK' => ?_
      go_simp
      exact hK' _ _ (hK _ _ (below_one _ _) ⟨_, rfl, Box.new _ _ _, by omega⟩)
    | i + 7, ho => simp at hi; omega
  case last =>
    simp only [putAll, Act.put, List.setIfInBounds_toArray, List.set_cons_zero, List.set_cons_succ, Nat.reduceAdd, Nat.zero_add]
    intro uu wr lo up hbr hv hj
    obtain ⟨m, e9, o8⟩ := hv 5 (by simp)
    obtain ⟨g, e10, bg, hg⟩ := hv 6 (by simp)
    obtain ⟨g0, g1, g2⟩ := bg.three
    have gf := bg.frozen
    simp only [e9, e10]
    clear hv hj e9 e10
    refine wpOp_step rfl fun K' hK' => ?_
    go_simp
    refine hK' _ _ ?_
    have hbw := ((Below.refl wC.heap.size wC)).trans (hbr.mono (Nat.le_refl _))
    have hgg := grownBy_three wr g (.bool a.ch) (.slice (some ⟨gs, 0, none⟩) a.sh.length cs) (.slice (some ⟨m, 0, none⟩) 0 N)
    have i1 := ((bg.store 0 (.bool a.ch)).store 1 (.slice (some ⟨gs, 0, none⟩) a.sh.length cs)).store 2 (.slice (some ⟨m, 0, none⟩) 0 N)
    simp only [List.setIfInBounds_toArray, List.set_cons_zero, List.set_cons_succ] at i1
    have i2 := o8.kept hgg (.inr (o8.ne_box bg (by decide)))
    have iw := hbw.grown hgg hbw.size (fun j e => by cases e; omega)
    have hgl : g < (((wr.setCell ⟨g, 0, none⟩ (.bool a.ch)).setCell ⟨g, 1, none⟩ (.slice (some ⟨gs, 0, none⟩) a.sh.length cs)).setCell ⟨g, 2, none⟩ (.slice (some ⟨m, 0, none⟩) 0 N)).heap.size := i1.lt
    clear hbr hgg o8 bg g0 g1 g2 gf hbw hK' 
    generalize (((wr.setCell ⟨g, 0, none⟩ (.bool a.ch)).setCell ⟨g, 1, none⟩ (.slice (some ⟨gs, 0, none⟩) a.sh.length cs)).setCell ⟨g, 2, none⟩ (.slice (some ⟨m, 0, none⟩) 0 N)) = W2 at i2 i1 iw hgl ⊢
    have hgC : wC.heap.size ≤ g := hg
    have HM3 := Lib.hid (Mine.mono HM2.out iw)
    have hLn : (ints (t.set k mk.length)).length = a.sh.length := by rw [length_ints, List.length_set, HSL.out]
    have hm3 := HM3.out.isInts
    obtain ⟨Am, cm, eM, c1_, c2_, c3_, -, eS⟩ := hm3
    injection eM with e1 e2 e3
    subst e1 e3
    clear e2
    have ES0 := Lib.hid (show Elems W2 (some ⟨gs, 0, none⟩) (ints (t.set k mk.length)) from eS)
    obtain ⟨Ad, hsl, hel, hnn⟩ := part_named (lo := some (.int .i64 ((k : Int) + 1))) (hi := none) (L := k + 1) (H := a.sh.length) ES0.out (c := cs) (by simp) c1_ (.inr (by simp)) (.inl ⟨rfl, hLn.symm⟩) (by omega) (by omega)
    rw [hLn] at hsl
    have hsub : ((ints (t.set k mk.length)).take a.sh.length).drop (k + 1) = ints (t.drop (k + 1)) := by
      rw [List.take_of_length_le (by rw [hLn]; exact Nat.le_refl _)]
      simp only [ints, ← List.map_drop, drop_set_self]
    rw [hsub] at hel
    have HEL := Lib.hid hel
    have HRL := Lib.hid (show (t.drop (k + 1)).length = a.sh.length - (k + 1) by rw [List.length_drop, HSL.out])
    have hpr : N = outerOf t k * mk.length * innerOf t k := by rw [HN.out, prod_set HKT.out]
    have hok := spread_ok HT.out HKT.out (show cnt mk mk.length = t.getD k 0 by rw [← HCE.out, HCX.out, HXE.out]) HG.out
    obtain ⟨T, eT⟩ : ∃ T, T = (spread mk k a).da := ⟨_, rfl⟩
    have hTl : T.length = N := by rw [eT, hok.len, HN.out]
    have hla : a.da.length = outerOf t k * X * innerOf t k := by
      have e := prod_set (t := t) (k := k) (x := t.getD k 0) HKT.out
      rw [set_getD] at e
      rw [HT.out.len, e, HXE.out]
    have HPR := Lib.hid hpr
    have HOK := Lib.hid hok
    have HTE := Lib.hid eT
    have HTL := Lib.hid hTl
    have HLA := Lib.hid hla
    have HI1 := Lib.hid i1
    have HI2 := Lib.hid i2
    have hkk : IntKind.i64.wrap ((k : Int) + 1) = (k : Int) + 1 := IntWalk.i64_in _ (by omega)
    have hw2 := iw.size
    clear hel hnn hsub hpr hok eT hTl hla i1 i2 hmk hLn c1_ eS
    go_wp2_with fail
    go_loopw [14, 83] (fun s14 s83 wx => ∃ (j : Nat) (q : Int), j ≤ a.sh.length - (k + 1) ∧ s83 = .int .i64 j ∧ s14 = .int .i64 q ∧ (N ≠ 0 → q = ((TailTo t k j : Nat) : Int)) ∧ Below W2.heap.size W2 wx) (fun _ s83 _ => a.sh.length - (k + 1) - (intOf s83).toNat)
    case atStart => exact ⟨0, 1, Nat.zero_le _, rfl, rfl, fun _ => by simp [TailTo, prod], Below.refl _ _⟩
    case round =>
      obtain ⟨j, q, hj, rfl, rfl, hq, hbx⟩ := hrel
      have HQ := Lib.hid hq
      clear hq
      rcases Nat.lt_or_ge j (a.sh.length - (k + 1)) with hlt | hge
      · obtain ⟨ad, x, eAd, hx, had, hcx⟩ := Elems.later HEL.out hbx (k := j) (by rw [length_ints, HRL.out]; exact hlt)
        have hx2 := (ints_getD hx).1
        have HXX := Lib.hid hx2
        subst eAd
        have dj : decide (j < a.sh.length - (k + 1)) = true := by simpa using hlt
        clear hx hx2
        go_wp2_with fail
        go_roundw
        case rel =>
          refine ⟨j + 1, _, by omega, by go_num, rfl, fun hn0 => ?_, hbx⟩
          have hjt : j < (t.drop (k + 1)).length := by rw [HRL.out]; exact hlt
          have e := tailTo_next hjt
          have hle : TailTo t k (j + 1) ≤ 4096 := by
            have h1 := prod_part_le (s := t.set k mk.length) (by rw [← HN.out]; exact hn0) (k + 1) (j + 1)
            rw [drop_set_self, ← HN.out] at h1
            exact Nat.le_trans h1 hN4
          rw [HQ.out hn0, HXX.out, ← Int.natCast_mul, ← e]
          rw [← IntWalk.i64_left]
          exact IntWalk.i64_in _ (by omega)
        case measure => simp [intOf]; omega
      · have hqe : N ≠ 0 → q = ((innerOf t k : Nat) : Int) := fun hn0 => by
          rw [HQ.out hn0, show j = (t.drop (k + 1)).length by rw [HRL.out]; omega, tailTo_all]
        have HQE := Lib.hid hqe
        obtain ⟨inn, hinn⟩ : ∃ inn, inn = innerOf t k := ⟨_, rfl⟩
        obtain ⟨ou, hou⟩ : ∃ ou, ou = outerOf t k := ⟨_, rfl⟩
        rw [← hinn] at HQE HPR HLA
        rw [← hou] at HPR HLA
        have HINN := Lib.hid hinn
        have HOU := Lib.hid hou
        have g1 := HI1.out.below hbx
        have g2 := HI2.out.below hbx
        have hbl0 := iw.trans (hbx.mono iw.size)
        have dj : decide (j < a.sh.length - (k + 1)) = false := by simp; omega
        clear hqe HQ hinn hou
        obtain ⟨z0, z1, z2⟩ := g1.three
        go_wp2_with fail
        clear z0 z1 z2 hge hj dj
        obtain ⟨wo, rfl⟩ : ∃ wo : World, wo = wr := ⟨_, rfl⟩
        go_loopw [17] (fun s17 wr => ∃ (o : Nat) (A2 : Option Addr) (c2 : Nat), o ≤ ou ∧ s17 = .int .i64 ((o * X * inn : Nat) : Int) ∧ Box wr g 24 #[.bool a.ch, .slice (some ⟨gs, 0, none⟩) a.sh.length cs, .slice A2 (o * mk.length * inn) c2] ∧
            Owns wr wC.heap.size (.slice A2 (o * mk.length * inn) c2) (o * mk.length * inn) (T.take (o * mk.length * inn)) ∧ Below wC.heap.size wC wr) (fun _ wr => N - lenAt g wr)
        case atStart => exact ⟨0, _, _, Nat.zero_le _, by simp, by simpa using g1, by simpa using g2, hbl0⟩
        case round =>
          clear g1 g2 hbl0 hbx
          obtain ⟨o, A2, c2, ho, rfl, h1, h2, hbl⟩ := hrel
          rcases Nat.lt_or_ge (o * mk.length * inn) N with hlt | hge
          · have hn0 : N ≠ 0 := by omega
            have hqi := HQE.out hn0
            subst hqi
            have hoo : o < ou := by
              rcases Nat.lt_or_ge o ou with h | h
              · exact h
              · have h5 := Nat.mul_le_mul_right inn (Nat.mul_le_mul_right mk.length h)
                rw [← HPR.out] at h5
                omega
            have hNO : (o + 1) * mk.length * inn ≤ N := by rw [HPR.out]; exact Nat.mul_le_mul_right _ (Nat.mul_le_mul_right _ hoo)
            have hAO : (o + 1) * X * inn ≤ a.da.length := by rw [HLA.out]; exact Nat.mul_le_mul_right _ (Nat.mul_le_mul_right _ hoo)
            have hps : 0 < mk.length * inn := by
              rcases Nat.eq_zero_or_pos (mk.length * inn) with h | h
              · have h5 := HPR.out; rw [Nat.mul_assoc, h, Nat.mul_zero] at h5; exact absurd h5 hn0
              · exact h
            have hPl := lenAt_box h1
            have HNO := Lib.hid hNO
            have HAO := Lib.hid hAO
            have HPS := Lib.hid hps
            have HOO := Lib.hid hoo
            have HO1 := Lib.hid (show o < outerOf t k by rw [← HOU.out]; exact hoo)
            have hi4 : inn ≤ 4096 := by
              have h5 : inn ≤ (o + 1) * mk.length * inn := Nat.le_mul_of_pos_left _ (Nat.mul_pos (by omega) (Nat.pos_of_mul_pos_right hps))
              omega
            obtain ⟨P0, hP0⟩ : ∃ P, P = o * mk.length * inn := ⟨_, rfl⟩
            rw [← hP0] at h1 h2 hPl hlt
            have HP0 := Lib.hid hP0
            have HPL := Lib.hid hPl
            have H1 := Lib.hid h1
            have H2 := Lib.hid h2
            obtain ⟨z0, z1, z2⟩ := h1.three
            have dP : decide (P0 < N) = true := by simpa using hlt
            have hLT := Lib.hid hlt
            clear hNO hAO hps hoo hP0 hPl h1 h2 hn0
            go_wp2_with fail
            clear z0 z1 z2 dP hlt
            obtain ⟨wo, rfl⟩ : ∃ wo : World, wo = wr := ⟨_, rfl⟩
            go_loopw [17, 98] (fun s17 s98 wr => ∃ (i : Nat) (A2 : Option Addr) (c2 : Nat), i ≤ mk.length ∧ s98 = .int .i64 i ∧ s17 = .int .i64 (((o * X + cnt mk i) * inn : Nat) : Int) ∧ Box wr g 24 #[.bool a.ch, .slice (some ⟨gs, 0, none⟩) a.sh.length cs, .slice A2 ((o * mk.length + i) * inn) c2] ∧
                Owns wr wC.heap.size (.slice A2 ((o * mk.length + i) * inn) c2) ((o * mk.length + i) * inn) (T.take ((o * mk.length + i) * inn)) ∧ Below wC.heap.size wC wr) (fun _ s98 _ => mk.length - (intOf s98).toNat)
            case atStart => exact ⟨0, A2, c2, Nat.zero_le _, rfl, by simp [cnt_zero], by rw [Nat.add_zero, ← HP0.out]; exact H1.out, by rw [Nat.add_zero, ← HP0.out]; exact H2.out, hbl⟩
            case round =>
              clear H1 H2 hbl
              obtain ⟨i, A2, c2, hi, rfl, rfl, h1, h2, hbl⟩ := hrel
              have hbw9 := hbwC.trans (hbl.mono hbwCs)
              rcases Nat.lt_or_ge i mk.length with hil | hil
              · obtain ⟨am, x, eam, hx, ham, hcx⟩ := Elems.later EM.out hbw9 hil
                subst eam
                have hx01 := mask_at HM.out hx
                have hPb : (o * mk.length + i) * inn + inn ≤ N := by
                  have e1 : (o * mk.length + i) * inn + inn = (o * mk.length + (i + 1)) * inn := by rw [← Nat.add_assoc, Nat.add_mul _ 1, Nat.one_mul]
                  rw [e1]
                  refine Nat.le_trans (Nat.mul_le_mul_right _ ?_) HNO.out
                  rw [Nat.add_mul, Nat.one_mul]
                  omega
                have hPn : (o * mk.length + (i + 1)) * inn = (o * mk.length + i) * inn + inn := by rw [← Nat.add_assoc, Nat.add_mul _ 1, Nat.one_mul]
                obtain ⟨P, hP⟩ : ∃ P, P = (o * mk.length + i) * inn := ⟨_, rfl⟩
                obtain ⟨L, hL⟩ : ∃ L, L = (o * X + cnt mk i) * inn := ⟨_, rfl⟩
                rw [← hP] at h1 h2 hPb hPn
                rw [← hL]
                have HPn := Lib.hid hPn
                have HXI := Lib.hid hx
                rcases hx01 with rfl | rfl
                · have HL := Lib.hid (show (o * X + cnt mk (i + 1)) * inn = L by rw [cnt_other hx (by decide)]; exact hL.symm)
                  have HP := Lib.hid hP
                  have HILT := Lib.hid hil
                  obtain ⟨P1, hP1⟩ : ∃ P1, P1 = P := ⟨_, rfl⟩
                  rw [← hP1] at h1 h2 hPb HPn HP
                  have H1 := Lib.hid h1
                  have H2 := Lib.hid h2
                  clear hx hP hL hPn hP1 h1 h2
                  go_wp2_with fail
                  clear hcx hbw9
                  generalize decide (i < mk.length) = bi
                  obtain ⟨wo, rfl⟩ : ∃ wo : World, wo = wr := ⟨_, rfl⟩
                  go_loopw [119] (fun s119 wr => ∃ (r : Nat) (A2 : Option Addr) (c2 : Nat), r ≤ inn ∧ s119 = .int .i64 r ∧ Box wr g 24 #[.bool a.ch, .slice (some ⟨gs, 0, none⟩) a.sh.length cs, .slice A2 (P1 + r) c2] ∧
                      Owns wr wC.heap.size (.slice A2 (P1 + r) c2) (P1 + r) (T.take (P1 + r)) ∧ Below wC.heap.size wC wr) (fun s119 _ => inn - (intOf s119).toNat)
                  case atStart => exact ⟨0, A2, c2, Nat.zero_le _, rfl, H1.out, H2.out, hbl⟩
                  case round =>
                    clear H1 H2 hbl
                    obtain ⟨r, A2, c2, hr, rfl, h1, h2, hbl⟩ := hrel
                    rcases Nat.lt_or_ge r inn with hrl | hrl
                    · obtain ⟨P, hP⟩ : ∃ P, P = P1 + r := ⟨_, rfl⟩
                      rw [← hP] at h1 h2
                      have hfin := spread_fill HT.out HKT.out (show cnt mk mk.length = t.getD k 0 by rw [← HCE.out, HCX.out, HXE.out]) HG.out HO1.out HILT.out (by rw [HXI.out]; simp) HINN.out (P := P) (by rw [hP, HP.out]) hrl
                      rw [← HTE.out] at hfin
                      have Hfin := Lib.hid hfin
                      have HPr := Lib.hid (show P1 + (r + 1) = P + 1 by omega)
                      have hPN : P + 1 ≤ N := by omega
                      clear hfin hP
                      go_wp2_with fail
                      obtain ⟨V, hVe⟩ : ∃ V : Nat → Value → Prop, V = fun i v => match i with
                          | 0 => v = .pointer (some ⟨g, 2, none⟩)
                          | 1 => v = .slice A2 P c2
                          | 2 => v = .agg #[.bool a.ch, .slice (some ax) a.sh.length ca, .slice D a.da.length cd]
                          | 3 => v = .int .i64 (fillOf a.ch)
                          | 6 => v = .pointer (some ⟨g, 2, none⟩)
                          | _ => True := ⟨_, rfl⟩
                      have hV0 : ∀ v, V 0 v ↔ v = .pointer (some ⟨g, 2, none⟩) := fun _ => by subst hVe; rfl
                      have hV1 : ∀ v, V 1 v ↔ v = .slice A2 P c2 := fun _ => by subst hVe; rfl
                      have hV2 : ∀ v, V 2 v ↔ v = .agg #[.bool a.ch, .slice (some ax) a.sh.length ca, .slice D a.da.length cd] := fun _ => by subst hVe; rfl
                      have hV3 : ∀ v, V 3 v ↔ v = .int .i64 (fillOf a.ch) := fun _ => by subst hVe; rfl
                      have hV4 : ∀ v, V 4 v := fun _ => by subst hVe; trivial
                      have hV5 : ∀ v, V 5 v := fun _ => by subst hVe; trivial
                      have hV6 : ∀ v, V 6 v ↔ v = .pointer (some ⟨g, 2, none⟩) := fun _ => by subst hVe; rfl
                      have hV7 : ∀ v, V 7 v := fun _ => by subst hVe; trivial
                      clear hVe
                      refine wp_region_inv (SInv V wC g P c2 (.bool a.ch) (.slice (some ⟨gs, 0, none⟩) a.sh.length cs) A2 (T.take P) (fillOf a.ch)) (by kernel_rfl) (by kernel_rfl) (by kernel_rfl) ?start ?step ?fin
                      case start => exact fun u => ⟨hbl.drew, (fun j h => by simp at h), (fun h => by simp at h), (fun _ => h2.drew), (fun h => by simp at h), (fun _ => h1.drew), (fun h => by simp at h), (fun h => by simp at h), (fun h => by simp at h)⟩
                      case step =>
                        simp only [putAll, Act.put, List.setIfInBounds_toArray, List.set_cons_zero, List.set_cons_succ, Nat.reduceAdd, Nat.zero_add]
                        clear h1 h2 hbl
                        intro i o ho done u_ wr hnd hdep hI K hK
                        have hbr := hI.1
                        have hv := hI.2.1
                        match i, ho with
                        | 0, ho =>
                          simp only [List.getElem?_cons_zero, Option.some.injEq] at ho
                          subst ho
                          simp only [Act.put, List.setIfInBounds_toArray, List.set_cons_zero, List.set_cons_succ] at hK
                          refine wpOp_step rfl fun K' hK' => ?_
                          go_simp
                          exact hK' _ _ (hK _ _ (hI.keep (by decide) ((hV0 _).2 rfl)))
                        | 1, ho =>
                          simp only [List.getElem?_cons_succ, List.getElem?_cons_zero, Option.some.injEq] at ho
                          subst ho
                          simp only [Act.put, List.setIfInBounds_toArray, List.set_cons_zero, List.set_cons_succ] at hK
                          have e0 := (hV0 _).1 (hv 0 (hdep ⟨0, .data⟩ (by simp) rfl))
                          simp only [e0] at hK
                          have h5 : done 5 = false := by
                            rcases e : done 5 with _ | _
                            · rfl
                            · have := hI.2.2.2.2.2.2.2.2 e; rw [hnd] at this; cases this
                          have h7 : done 7 = false := by
                            rcases e : done 7 with _ | _
                            · rfl
                            · have := hI.2.2.2.2.2.2.2.1 e; rw [h5] at this; cases this
                          have bo := hI.2.2.2.2.2.1 h7
                          obtain ⟨g0, g1, g2⟩ := bo.three
                          have gl := bo.lt
                          refine wpOp_step rfl fun K' hK' => ?_
                          go_simp
                          exact hK' _ _ (hK _ _ (hI.keep (by decide) ((hV1 _).2 rfl)))
                        | 2, ho =>
                          simp only [List.getElem?_cons_succ, List.getElem?_cons_zero, Option.some.injEq] at ho
                          subst ho
                          simp only [Act.put, List.setIfInBounds_toArray, List.set_cons_zero, List.set_cons_succ] at hK
                          obtain ⟨t0, t1, t2⟩ := (bA1.below hbr).three
                          refine wpOp_step rfl fun K' hK' => ?_
                          go_simp
                          exact hK' _ _ (hK _ _ (hI.keep (by decide) ((hV2 _).2 rfl)))
                        | 3, ho =>
                          simp only [List.getElem?_cons_succ, List.getElem?_cons_zero, Option.some.injEq] at ho
                          subst ho
                          simp only [Act.put, List.setIfInBounds_toArray, List.set_cons_zero, List.set_cons_succ] at hK
                          have e2 := (hV2 _).1 (hv 2 (hdep ⟨2, .data⟩ (by simp) rfl))
                          simp only [e2] at hK
                          refine wpOp_step rfl fun K' hK' => ?_
                          go_simp
                          refine (fill_any (ha.mono (hbwC.trans (hbr.mono hbwC.size)))).mono ?_
                          rintro e w9 ⟨rfl, hb9⟩
                          exact hK' _ _ (hK _ _ (hI.call (by decide) ((hV3 _).2 rfl) hb9))
                        | 4, ho =>
                          simp only [List.getElem?_cons_succ, List.getElem?_cons_zero, Option.some.injEq] at ho
                          subst ho
                          simp only [Act.put, List.setIfInBounds_toArray, List.set_cons_zero, List.set_cons_succ] at hK
                          have e3 := (hV3 _).1 (hv 3 (hdep ⟨3, .data⟩ (by simp) rfl))
                          simp only [e3] at hK
                          refine wpOp_step rfl fun K' hK' => ?_
                          go_simp
                          exact hK' _ _ (hK _ _ (hI.make (hV4 _) rfl rfl))
                        | 5, ho =>
                          simp only [List.getElem?_cons_succ, List.getElem?_cons_zero, Option.some.injEq] at ho
                          subst ho
                          simp only [Act.put, List.setIfInBounds_toArray, List.set_cons_zero, List.set_cons_succ] at hK
                          have e1 := (hV1 _).1 (hv 1 (hdep ⟨1, .data⟩ (by simp) rfl))
                          obtain ⟨mm, e4, hr4⟩ := hI.2.2.1 (hdep ⟨4, .data⟩ (by simp) rfl)
                          have hr4 := hr4 hnd
                          have ow := hI.2.2.2.1 hnd
                          refine wpOp_step rfl fun K' hK' => ?_
                          refine wp_append_ints _ rfl (Operand.tmp 122) (Operand.tmp 125) rfl wC.heap.size P (.slice A2 P c2) (T.take P) (e1) ow (some ⟨mm, 0, none⟩) 1 1 [fillOf a.ch] (e4) (by simp) (hr4.isInts (n := 1) rfl (by omega)).elems rfl (by omega) hbr.size ?_
                          intro A8 c8 w8 hown8 hgrow8 hat8
                          exact hK' _ _ (hK _ _ (hI.append hnd (hdep ⟨1, .data⟩ (by simp) rfl) (hV5 _) rfl hgrow8 hown8))
                        | 6, ho =>
                          simp only [List.getElem?_cons_succ, List.getElem?_cons_zero, Option.some.injEq] at ho
                          subst ho
                          simp only [Act.put, List.setIfInBounds_toArray, List.set_cons_zero, List.set_cons_succ] at hK
                          refine wpOp_step rfl fun K' hK' => ?_
                          go_simp
                          exact hK' _ _ (hK _ _ (hI.keep (by decide) ((hV6 _).2 rfl)))
                        | 7, ho =>
                          simp only [List.getElem?_cons_succ, List.getElem?_cons_zero, Option.some.injEq] at ho
                          subst ho
                          simp only [Act.put, List.setIfInBounds_toArray, List.set_cons_zero, List.set_cons_succ] at hK
                          have d5 : done 5 = true := hdep ⟨5, .data⟩ (by simp) rfl
                          have e6 := (hV6 _).1 (hv 6 (hdep ⟨6, .data⟩ (by simp) rfl))
                          obtain ⟨A8, c8, e5, ow⟩ := hI.2.2.2.2.1 d5
                          have bo := hI.2.2.2.2.2.1 hnd
                          obtain ⟨g0, g1, g2⟩ := bo.three
                          have gf := bo.frozen
                          have gl := bo.lt
                          simp only [e5, e6] at hK
                          refine wpOp_step rfl fun K' hK' => ?_
                          go_simp
                          exact hK' _ _ (hK (.bool true) _ (hI.store hnd d5 (hV7 _) hgC e5))
                        | i + 8, ho => simp at ho
                      case fin =>
                        simp only [putAll, Act.put, List.setIfInBounds_toArray, List.set_cons_zero, List.set_cons_succ, Nat.reduceAdd, Nat.zero_add]
                        clear h1 h2 hbl
                        intro done u_ wr hd hI
                        simp only [List.length_cons, List.length_nil, Nat.reduceAdd, Nat.zero_add] at hd
                        obtain ⟨hbl, hv, -, -, h6, -, h8, -, -⟩ := hI
                        obtain ⟨A8, c8, e5, h2⟩ := h6 (hd 5 (by omega))
                        have h1 := h8 (hd 7 (by omega))
                        rw [e5] at h1
                        clear h6 h8 hv hd e5
                        rw [Hfin.out] at h2
                        go_wp2_with fail
                        go_roundw
                        case rel => exact ⟨r + 1, A8, c8, by omega, by go_num, by rw [HPr.out]; exact h1, by rw [HPr.out]; exact h2, hbl⟩
                        case measure => simp [intOf]; omega
                    · have hre : r = inn := by omega
                      have HRE := Lib.hid (show P1 + r = (o * mk.length + (i + 1)) * inn by rw [HPn.out, hre])
                      rw [HRE.out] at h1 h2
                      have H1 := Lib.hid h1
                      have H2 := Lib.hid h2
                      have hil := HILT.out
                      clear hre h1 h2
                      go_wp2_with fail
                      go_roundw
                      case rel => exact ⟨i + 1, A2, c2, by omega, by go_num, by rw [HL.out], H1.out, H2.out, hbl⟩
                      case measure => simp [intOf]; omega
                · have hcl := cnt_lt hx
                  rw [← HCE.out] at hcl
                  have hLb : L + inn ≤ a.da.length := by
                    have e1 : L + inn = (o * X + (cnt mk i + 1)) * inn := by rw [hL, ← Nat.add_assoc, Nat.add_mul _ 1, Nat.one_mul]
                    rw [e1]
                    refine Nat.le_trans (Nat.mul_le_mul_right _ ?_) HAO.out
                    rw [Nat.add_mul, Nat.one_mul]
                    have := HCX.out
                    omega
                  have hL2 : ((((o * X + cnt mk (i + 1)) * inn : Nat)) : Int) = (L : Int) + (inn : Int) := by rw [cnt_one hx, hL, ← Nat.add_assoc, Nat.add_mul _ 1, Nat.one_mul]; simp
                  have hfin := spread_take HT.out HKT.out (show cnt mk mk.length = t.getD k 0 by rw [← HCE.out, HCX.out, HXE.out]) HG.out HO1.out hx HINN.out (P := P) (L := L) hP (by rw [hL, HXE.out])
                  rw [← HTE.out] at hfin
                  have HL2 := Lib.hid hL2
                  have Hfin := Lib.hid hfin
                  have hD4 : a.da.length ≤ 4096 := by rw [HT.out.len]; exact HT.out.good.2.2
                  have wX4 : IntKind.i64.wrap ((L : Int) + (inn : Int)) = (L : Int) + (inn : Int) := IntWalk.i64_in _ (by omega)
                  clear hx hP hL hPn hcl hL2 hfin
                  obtain ⟨A3, hsl3, hel3, hn3⟩ := part_named (lo := some (.int .i64 (L : Int))) (hi := some (.int .i64 ((L : Int) + (inn : Int)))) (L := L) (H := L + inn) (Elems.mono DA.out hbw9) DA0.out dd1 (.inr rfl) (.inr (by simp)) (by omega) (by omega)
                  have el3 : ((a.da.take (L + inn)).drop L).length = inn := by simp; omega
                  have He3 := Lib.hid hel3
                  have Hn3 := Lib.hid hn3
                  have Hel3 := Lib.hid el3
                  rw [show L + inn - L = inn by omega] at hsl3
                  obtain ⟨t0, t1, t2⟩ := (bA1.below hbl).three
                  obtain ⟨g0, g1, g2⟩ := h1.three
                  have gf := h1.frozen
                  have gl := h1.lt
                  have hsz := hbl.size
                  clear hel3 hn3 el3
                  go_wp2_with fail
                  go_region_law
                    ((refine step_append_ints _ rfl rfl _ _ (by rfl) wC.heap.size P _ (T.take P) (by rfl) (h2.drewN _) A3 inn _ ((a.da.take (L + inn)).drop L) (by rfl) Hn3.out He3.out Hel3.out (by omega) (by simp; omega) ?_; intro A4 c4 w4 hown4 hgrow4 hat4; have b4 := Box.grown (w := wr.drewN _) (h1.drewN _) hgrow4 (h2.ne_box h1 (by decide)); have hc4 := b4.three.2.2; have hf4 := b4.frozen 2))
                  all_goals
                    obtain ⟨m1, m2, m4⟩ := spread_step h1 h2 hbl hgC hgrow4 hown4
                    rw [Hfin.out] at m2
                    clear hown4 hgrow4 hat4 b4 hc4 hf4 h1 h2 hbl t0 t1 t2 g0 g1 g2 gf gl hsz hsl3 He3 Hn3 Hel3 hbw9 hcx
                    generalize w4.setCell ⟨g, 2, none⟩ (.slice A4 (P + inn) c4) = wz at m1 m2 m4 ⊢
                    go_wp2_with fail
                    go_roundw
                    case rel => exact ⟨i + 1, A4, c4, by omega, by go_num, by rw [HL2.out], by rw [HPn.out]; exact m1, by rw [HPn.out]; exact m2, m4⟩
                    case measure => simp [intOf]; omega
              · have hie : i = mk.length := by omega
                have HL2 := Lib.hid (show (o * X + cnt mk i) * inn = (o + 1) * X * inn by rw [hie, ← HCE.out, HCX.out, Nat.add_mul o 1, Nat.one_mul])
                have hP2 : (o * mk.length + i) * inn = (o + 1) * mk.length * inn := by rw [hie, Nat.add_mul o 1, Nat.one_mul]
                rw [hP2] at h1 h2
                have H1 := Lib.hid h1
                have H2 := Lib.hid h2
                have HM1 := Lib.hid (show (o + 1) * mk.length * inn = P0 + mk.length * inn by rw [HP0.out, Nat.add_mul o 1, Nat.one_mul, Nat.add_mul])
                clear hie hP2 h1 h2
                go_wp2_with fail
                go_roundw
                case rel => exact ⟨o + 1, A2, c2, HOO.out, by rw [HL2.out], H1.out, H2.out, hbl⟩
                case measure => rw [lenAt_box H1.out, HPL.out, HM1.out]; have := HPS.out; have := hLT.out; omega
          · have hPN : o * mk.length * inn = N := by
              have h4 := Nat.mul_le_mul_right inn (Nat.mul_le_mul_right mk.length ho)
              rw [← HPR.out] at h4
              omega
            rw [hPN] at h1 h2
            rw [List.take_of_length_le (by rw [HTL.out]; exact Nat.le_refl _)] at h2
            have iD := h2.isInts
            have iS := (Mine.mono HM2.out hbl).isInts
            have hia : IsArr wr (.agg #[.bool a.ch, .slice (some ⟨gs, 0, none⟩) a.sh.length cs, .slice A2 N c2]) (spread mk k a) := ⟨_, _, rfl, (by rw [HOK.out.sh]; exact iS), (by rw [← HTE.out]; exact iD)⟩
            have HIA := Lib.hid hia
            have bR3 := bR1.below hbl
            obtain ⟨g0, g1, g2⟩ := h1.three
            obtain ⟨q0, q1, q2⟩ := bR3.three
            have gl := h1.lt
            have gf := h1.frozen
            have zl := bR3.lt
            have zf := bR3.frozen
            have dP : decide (N < N) = false := by simp
            have hbw9 := hbwC.trans (hbl.mono hbwCs)
            clear hia iS iD h2 hPN hge
            go_wp2_with fail
            refine bodyPost_ret (v := .tuple #[.agg #[.bool a.ch, .slice (some ⟨gs, 0, none⟩) a.sh.length cs, .slice A2 N c2], .nilIface]) (by simp [results, Tryd.results11, go_sem, zl, q0, q1, q2]; first | done | rfl | exact ⟨rfl, rfl, rfl⟩) rfl ?_
            rw [show ((k : Nat) : Int).toNat = k by omega]
            exact .inl ⟨HJ0.out, _, rfl, IsArr.laid HIA.out bR3 _ _ _, by have := hbw9.size; go_grown⟩

end Go.Proofs.YtikjniibfomadaaDoor
