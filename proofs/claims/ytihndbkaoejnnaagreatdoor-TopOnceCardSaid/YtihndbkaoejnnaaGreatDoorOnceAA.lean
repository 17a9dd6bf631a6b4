/- What the card TopOnce leans on: Help, KeepWalk. Conditions: none but those of its theorems. -/
import Derived.StillTailTactics
import Derived.Deep.RegionWith
import Derived.Test.YtihndbkaoejnnaaGreatDoorOnceX
import Derived.Test.YtihndbkaoejnnaaGreatDoorOnceE
import Derived.Test.YtihndbkaoejnnaaGreatDoorOnceC
import Derived.Test.YtihndbkaoejnnaaGreatDoorOnceH
import Derived.Test.YtihndbkaoejnnaaGreatDoorOnceZ
import Derived.Test.YtihndbkaoejnnaaGreatDoorOnceY
set_option linter.unusedSimpArgs false
set_option linter.unusedVariables false
namespace Go.Proofs.YtihndbkaoejnnaaGreatDoor
open Go Go.RowKit Go.Proofs.YtihndbkaoejnnaaGreatDoor.P

theorem IsInts.elems {w : World} {A : Option Addr} {n c : Nat} {xs : List Int} (h : IsInts w (.slice A n c) xs) : Elems w A xs := by
  obtain ⟨A', c', e, h1, h2, h3, h4, h5⟩ := h
  injection e with e1 e2 e3
  subst e1
  exact h5

theorem IsArr.stored {w : World} {v : Value} {a : Arr} {b : Nat} {t : TypeId} (h : IsArr w v a) (hb : Box w b t #[.bool false, .slice none 0 0, .slice none 0 0]) (u0 u1 u2 : Value) :
    IsArr (((w.setCell ⟨b, 0, none⟩ u0).setCell ⟨b, 1, none⟩ u1).setCell ⟨b, 2, none⟩ u2) v a := by
  obtain ⟨s, d, e, h1, h2⟩ := h
  exact ⟨s, d, e, h1.off (grownBy_three _ _ _ _ _) hb noInts_zero, h2.off (grownBy_three _ _ _ _ _) hb noInts_zero⟩

end Go.Proofs.YtihndbkaoejnnaaGreatDoor

namespace Go.Proofs.YtihndbkaoejnnaaGreatDoor.P

def keepErr (m : List Int) (axis : Int) (a : Arr) : Int :=
  if arrErr a ≠ 0 then arrErr a else if axis < 0 ∨ (a.sh.length : Int) ≤ axis then 5 else if (m.length : Int) ≠ a.sh.getD axis.toNat 0 then 4 else if ¬ Mask m then 6 else 0

/-- One more piece. -/
theorem keep_take {a : Arr} {t : List Nat} {k : Nat} {m : List Int} (h : Ok a t) (hk : k < t.length) (hm : m.length = t.getD k 0) {o i : Nat} (ho : o < outerOf t k) (hi : m[i]? = some 1) {P L n : Nat} (hn : n = innerOf t k)
    (hP : P = (o * cnt m m.length + cnt m i) * n) (hL : L = (o * t.getD k 0 + i) * n) :
    (keep m k a).da.take P ++ (a.da.take (L + n)).drop L = (keep m k a).da.take (P + n) := by
  rw [List.drop_take, show L + n - L = n by omega]
  refine take_piece fun r hr => ?_
  rw [hP, hL, hn]
  exact keep_da h hk hm ho hi (r := r) (by rw [← hn]; exact hr)

end Go.Proofs.YtihndbkaoejnnaaGreatDoor.P
namespace Go.Proofs.YtihndbkaoejnnaaGreatDoor
open Go Go.RowKit Go.Proofs.YtihndbkaoejnnaaGreatDoor.P

/-- Some more numbers behind the data of the array that is made. -/
theorem keep_step {W wr w4 : World} {d B : Nat} {g gs n cs : Nat} {v0 : Value} {A2 A4 : Option Addr} {c2 c4 p q : Nat} {xs ys ss : List Int}
    (h1 : Box wr g 25 #[v0, .slice (some ⟨gs, 0, none⟩) n cs, .slice A2 p c2]) (h2 : Owns wr (gs + 1) (.slice A2 p c2) p xs) (h3 : Mine wr gs n cs ss) (hg : g ≠ gs) (h5 : Below B W wr) (hB : B ≤ gs) (hB2 : B ≤ g) (hW : B ≤ wr.heap.size)
    (hgrow : (wr.drewN d).grownBy w4 (Value.slice A2 p c2).ownBlock) (hown : Owns w4 (gs + 1) (.slice A4 (p + q) c4) (p + q) ys) :
    Box (w4.setCell ⟨g, 2, none⟩ (.slice A4 (p + q) c4)) g 25 #[v0, .slice (some ⟨gs, 0, none⟩) n cs, .slice A4 (p + q) c4] ∧ Owns (w4.setCell ⟨g, 2, none⟩ (.slice A4 (p + q) c4)) (gs + 1) (.slice A4 (p + q) c4) (p + q) ys ∧
      Mine (w4.setCell ⟨g, 2, none⟩ (.slice A4 (p + q) c4)) gs n cs ss ∧ Below B W (w4.setCell ⟨g, 2, none⟩ (.slice A4 (p + q) c4)) := by
  have b4 := Box.grown (w := wr.drewN d) (h1.drewN d) hgrow (h2.ne_box h1 (by decide))
  have s := b4.store 2 (.slice A4 (p + q) c4)
  simp only [List.setIfInBounds_toArray, List.set_cons_zero, List.set_cons_succ] at s
  obtain ⟨cc, m1, m2⟩ := h3
  have m4 := (Box.grown (w := wr.drewN d) (m1.drewN d) hgrow (h2.ne_low (by omega))).far (p := ⟨g, 2, none⟩) (by simp; omega) (.slice A4 (p + q) c4)
  exact ⟨s, hown.setCell (p := ⟨g, 2, none⟩) (hown.ne_box b4 (by decide)) _, ⟨cc, m4, m2⟩, ((h5.trans (below_draws _ _ d)).grown hgrow hW (fun j e => by have := (h2.lt e).1; omega)).setCell (p := ⟨g, 2, none⟩) (by simp; omega) _⟩

set_option maxRecDepth 100000 in
set_option maxHeartbeats 4000000 in
theorem keep_new {vm v : Value} {axis : Int} {m : List Int} {a : Arr} {w : World} (hm : IsInts w vm m) (ha : IsArr w v a) :
    Calls Tryz.prog 179 #[vm, .int .i64 axis, v] w (ToldN (keep m axis.toNat a) (keepErr m axis a) w) := by
  obtain ⟨A, ca, D, cd, rfl, hs, hd⟩ := ha.open_
  obtain ⟨B, cb, rfl, b1, b2, b3, EM0, HMI⟩ := hm.open_
  obtain ⟨_, _, e1, a1, a2, a3, -, a4⟩ := id hs
  cases e1
  obtain ⟨_, _, e1, dd1, dd2, dd3, d0, d4⟩ := id hd
  cases e1
  have EM := Lib.hid EM0
  have EA := Lib.hid (show Elems w A a.sh from a4)
  have DA := Lib.hid (show Elems w D a.da from d4)
  have DA0 := Lib.hid d0
  have HS := Lib.hid hs
  clear a4 d4 d0 EM0 hs hd hm
  have bA0 := (Box.new w 25 #[.bool a.ch, .slice A a.sh.length ca, .slice D a.da.length cd]).alloc (.cells #[.bool false, .slice none 0 0, .slice none 0 0] 25)
  have bR0 := Box.new (w.alloc (.cells #[.bool a.ch, .slice A a.sh.length ca, .slice D a.da.length cd] 25)) 25 #[.bool false, .slice none 0 0, .slice none 0 0]
  rw [World.size_alloc] at bR0
  have hb0 := below_two w (.cells #[.bool a.ch, .slice A a.sh.length ca, .slice D a.da.length cd] 25) (.cells #[.bool false, .slice none 0 0, .slice none 0 0] 25)
  obtain ⟨t0, t1, t2⟩ := bA0.three
  go_enter Tryz.func179, Tryz.ntmps179
  go_wp2_with fail
  by_cases c1 : arrErr a = 0
  case neg =>
    have HE := Lib.hid (show keepErr m axis a = arrErr a by unfold keepErr; rw [if_pos c1])
    have C1 := Lib.hid c1
    clear c1
    refine (check_bad (ha.mono hb0) C1.out).mono ?_
    rintro e w1 ⟨rfl, hb1⟩
    have bR := bR0.below hb1
    have hbw := hb0.trans (hb1.mono hb0.size)
    obtain ⟨q0, q1, q2⟩ := bR.three
    have fR := bR.frozen
    have hzR := bR.lt
    clear bA0 bR0 t0 t1 t2 hb1
    go_wp2_with fail
    refine bodyPost_ret (v := .tuple #[zeroArr, .iface 54 (.int .i64 (arrErr a))]) (by simp [results, Tryz.results179, go_sem, q0, q1, q2, hzR]) rfl ?_
    exact .inr ⟨by rw [HE.out]; exact C1.out, by rw [HE.out], by have := hbw.size; go_grown⟩
  obtain ⟨t, ht⟩ := ok_of_arrErr c1
  have HT := Lib.hid ht
  have HC1 := Lib.hid (show ¬ arrErr a ≠ 0 by simp [c1])
  have HSL := Lib.hid (show a.sh.length = t.length by rw [ht.sh, length_ints])
  clear c1 ht
  refine (check_ok (ha.mono hb0) HT.out).mono ?_
  rintro e w1 ⟨rfl, hb1⟩
  have bA1 := bA0.below hb1
  have bR1 := bR0.below hb1
  have hbw := hb0.trans (hb1.mono hb0.size)
  obtain ⟨t0, t1, t2⟩ := bA1.three
  obtain ⟨q0, q1, q2⟩ := bR1.three
  have fR := bR1.frozen
  have hzR := bR1.lt
  have hzA := bA1.lt
  have hn6 := HT.out.good.1
  clear bA0 bR0 hb1
  rcases Int.lt_or_le axis 0 with g0 | g0
  · have d0 : decide (axis < (0 : Int)) = true := by simpa using g0
    have HE := Lib.hid (show keepErr m axis a = 5 by unfold keepErr; rw [if_neg HC1.out, if_pos (.inl g0)])
    go_wp2_with fail
    refine bodyPost_ret (v := .tuple #[zeroArr, .iface 54 (.int .i64 (5))]) (by simp [results, Tryz.results179, go_sem, q0, q1, q2, hzR]) rfl ?_
    exact .inr ⟨by rw [HE.out]; decide, by rw [HE.out], by have := hbw.size; go_grown⟩
  rcases Int.lt_or_le axis a.sh.length with g1 | g1
  case inr =>
    have d0 : decide (axis < (0 : Int)) = false := by simp; omega
    have d1 : decide ((a.sh.length : Int) ≤ axis) = true := by simpa using g1
    have HE := Lib.hid (show keepErr m axis a = 5 by unfold keepErr; rw [if_neg HC1.out, if_pos (.inr g1)])
    go_wp2_with fail
    refine bodyPost_ret (v := .tuple #[zeroArr, .iface 54 (.int .i64 (5))]) (by simp [results, Tryz.results179, go_sem, q0, q1, q2, hzR]) rfl ?_
    exact .inr ⟨by rw [HE.out]; decide, by rw [HE.out], by have := hbw.size; go_grown⟩
  obtain ⟨k, rfl⟩ := Int.eq_ofNat_of_zero_le g0
  have hka : k < a.sh.length := by omega
  have d1 : decide (a.sh.length ≤ k) = false := by simp; omega
  have d2 : decide ((a.sh.length : Int) ≤ (k : Int)) = false := by simp; omega
  have HX := Lib.hid (show ¬ ((k : Int) < 0 ∨ (a.sh.length : Int) ≤ (k : Int)) by omega)
  have hkt : k < t.length := by rw [← HSL.out]; exact hka
  have HKT := Lib.hid hkt
  obtain ⟨ax, x, eA, hx, hax, hcx⟩ := Elems.later EA.out hbw hka
  subst eA
  have hxe : x = ((t.getD k 0 : Nat) : Int) := by rw [HT.out.sh] at hx; exact (ints_getD hx).1
  subst hxe
  have HGD := Lib.hid (show a.sh.getD (k : Int).toNat 0 = ((t.getD k 0 : Nat) : Int) by rw [show (k : Int).toNat = k by omega, List.getD_eq_getElem?_getD, hx]; rfl)
  obtain ⟨X, hXe⟩ : ∃ X, X = t.getD k 0 := ⟨_, rfl⟩
  rw [← hXe] at hcx HGD
  have HXE := Lib.hid hXe
  have hX4 : X ≤ 4096 := by rw [hXe, getD_lt hkt]; exact HT.out.good.2.1 _ (List.getElem_mem _)
  clear hx hXe hkt g0 g1
  by_cases c4 : m.length = X
  case neg =>
    have e4 : ((m.length : Int) != (X : Int)) = true := by simp; omega
    have HE := Lib.hid (show keepErr m k a = 4 by unfold keepErr; rw [if_neg HC1.out, if_neg HX.out, HGD.out, if_pos (by omega)])
    clear c4
    go_wp2_with fail
    refine bodyPost_ret (v := .tuple #[zeroArr, .iface 54 (.int .i64 (4))]) (by simp [results, Tryz.results179, go_sem, q0, q1, q2, hzR]) rfl ?_
    exact .inr ⟨by rw [HE.out]; decide, by rw [HE.out], by have := hbw.size; go_grown⟩
  have e4 : ((m.length : Int) != (X : Int)) = false := by simp; omega
  have HML := Lib.hid c4
  have hm4 : m.length ≤ 4096 := by omega
  clear c4
  go_wp2_with fail
  refine (ones_any (HMI.mono hbw)).mono ?_
  rintro e w1' ⟨hone, hb1⟩
  have bA2 := bA1.below hb1
  have bR2 := bR1.below hb1
  have hbw2 := hbw.trans (hb1.mono hbw.size)
  clear bA1 bR1 hbw hb1 t0 t1 t2 q0 q1 q2 fR hzR hzA hcx
  obtain ⟨w1, rfl⟩ : ∃ w : World, w = w1' := ⟨_, rfl⟩
  have bA1 := bA2
  have bR1 := bR2
  have hbw := hbw2
  clear bA2 bR2 hbw2
  obtain ⟨t0, t1, t2⟩ := bA1.three
  obtain ⟨q0, q1, q2⟩ := bR1.three
  have fR := bR1.frozen
  have hzR := bR1.lt
  have hzA := bA1.lt
  rcases hone with ⟨hM, rfl⟩ | ⟨hM, rfl⟩
  case inr =>
    have HE := Lib.hid (show keepErr m k a = 6 by unfold keepErr; rw [if_neg HC1.out, if_neg HX.out, HGD.out, if_neg (by have := HML.out; omega), if_pos hM])
    clear hM
    go_wp2_with fail
    refine bodyPost_ret (v := .tuple #[zeroArr, .iface 54 (.int .i64 (6))]) (by simp [results, Tryz.results179, go_sem, q0, q1, q2, hzR]) rfl ?_
    exact .inr ⟨by rw [HE.out]; decide, by rw [HE.out], by have := hbw.size; go_grown⟩
  have HE := Lib.hid (show keepErr m k a = 0 by unfold keepErr; rw [if_neg HC1.out, if_neg HX.out, HGD.out, if_neg (by have := HML.out; omega), if_neg (by simpa using hM)])
  have HM := Lib.hid hM
  obtain ⟨c, hce⟩ : ∃ c, c = cnt m m.length := ⟨_, rfl⟩
  rw [← hce]
  have hc4 : c ≤ X := by rw [hce, ← HML.out]; exact cnt_le m _
  have HCE := Lib.hid hce
  have hs1 := HS.out.mono hbw
  have hsz1 := hbw.size
  clear hM hce
  go_wp2_with fail
  refine wp_region_open (fun i v lo hi w' => match i with
    | 0 => v = .pointer (some ⟨w.heap.size, 0, none⟩)
    | 1 => v = .bool a.ch
    | 2 => v = .pointer (some ⟨w.heap.size, 1, none⟩)
    | 3 => v = .slice (some ax) a.sh.length ca
    | 4 => ∃ A' c', v = .slice A' a.sh.length c' ∧ Owns w' lo v a.sh.length (a.sh) ∧ (∀ b, v.ownBlock = some b → b < hi) ∧ w1.heap.size ≤ lo
    | 5 => ∃ A' c', v = .agg #[.bool a.ch, .slice A' a.sh.length c', .slice none 0 0] ∧ Owns w' (w1.heap.size) (.slice A' a.sh.length c') a.sh.length (a.sh)
    | 6 => ∃ g, v = .pointer (some ⟨g, 0, none⟩) ∧ Box w' g 25 #[.bool false, .slice none 0 0, .slice none 0 0] ∧ w1.heap.size ≤ g
    | _ => True) (by kernel_rfl) (by kernel_rfl) (by kernel_rfl) ?hV ?step ?last
  case hV =>
    intro i v lo hi w1 w2 h hb
    match i, h with
    | 0, h => exact h
    | 1, h => exact h
    | 2, h => exact h
    | 3, h => exact h
    | 4, ⟨A', c', e, ho, hl, hz⟩ => exact ⟨A', c', e, ho.below hb, hl, hz⟩
    | 5, ⟨A', c', e, ho⟩ => exact ⟨A', c', e, ho.below hb⟩
    | 6, ⟨g, e, hx, hz⟩ => exact ⟨g, e, hx.below hb, hz⟩
    | i + 7, _ => trivial
  case step =>
    simp only [putAll, Act.put, List.setIfInBounds_toArray, List.set_cons_zero, List.set_cons_succ, Nat.reduceAdd, Nat.zero_add]
    intro i o ho hi uu lo up wr hbr hd hj K hK
    obtain ⟨hcw, hfw⟩ := bcell hbr
    match i, ho with
    | 0, ho =>
      simp only [List.getElem?_cons_zero, Option.some.injEq] at ho
      subst ho
      first | (simp [Region.binds] at hd; simp only [hd] at hK) | skip
      refine wpOp_step rfl fun K' hK' => ?_
      go_simp
      exact hK' _ _ (hK _ _ (Below.refl _ _) rfl)
    | 1, ho =>
      simp only [List.getElem?_cons_succ, List.getElem?_cons_zero, Option.some.injEq] at ho
      subst ho
      first | (simp [Region.binds] at hd; simp only [hd] at hK) | skip
      refine wpOp_step rfl fun K' hK' => ?_
      go_simp
      exact hK' _ _ (hK _ _ (Below.refl _ _) rfl)
    | 2, ho =>
      simp only [List.getElem?_cons_succ, List.getElem?_cons_zero, Option.some.injEq] at ho
      subst ho
      first | (simp [Region.binds] at hd; simp only [hd] at hK) | skip
      refine wpOp_step rfl fun K' hK' => ?_
      go_simp
      exact hK' _ _ (hK _ _ (Below.refl _ _) rfl)
    | 3, ho =>
      simp only [List.getElem?_cons_succ, List.getElem?_cons_zero, Option.some.injEq] at ho
      subst ho
      first | (simp [Region.binds] at hd; simp only [hd] at hK) | skip
      refine wpOp_step rfl fun K' hK' => ?_
      go_simp
      exact hK' _ _ (hK _ _ (Below.refl _ _) rfl)
    | 4, ho =>
      simp only [List.getElem?_cons_succ, List.getElem?_cons_zero, Option.some.injEq] at ho
      subst ho
      first | (simp [Region.binds] at hd; simp only [hd] at hK) | skip
      refine wpOp_step rfl fun K' hK' => ?_
      go_simp
      refine (clone_any _ (a.sh) _ (hs1.mono (((Below.refl w1.heap.size w1)).trans (hbr.mono (Nat.le_refl _))))).mono ?_
      rintro e w1 ⟨A1, c1, rfl, ho, hb1⟩
      try simp only [length_ints] at ho hK' ⊢
      have hz := hbr.size
      try simp only [World.size_alloc] at hz
      exact hK' _ _ (hK _ _ hb1 ⟨A1, c1, rfl, ho, fun b e => (ho.lt e).2, by omega⟩)
    | 5, ho =>
      simp only [List.getElem?_cons_succ, List.getElem?_cons_zero, Option.some.injEq] at ho
      subst ho
      have h1 : uu 1 = .bool a.ch := hd ⟨1, .data⟩ (by simp) rfl
      obtain ⟨A', c', es, os, ls, zs⟩ := hd ⟨4, .data⟩ (by simp) rfl
      dsimp only at os ls zs
      simp only [h1, es] at hK
      rw [es] at os ls
      refine wpOp_step rfl fun K' hK' => ?_
      go_simp
      exact hK' _ _ (hK _ _ (Below.refl _ _) ⟨A', c', rfl, os.base (by omega)⟩)
    | 6, ho =>
      simp only [List.getElem?_cons_succ, List.getElem?_cons_zero, Option.some.injEq] at ho
      subst ho
      first | (simp [Region.binds] at hd; simp only [hd] at hK) | skip
      have hz := hbr.size
      try simp only [World.size_alloc] at hz
      refine wpOp_step rfl fun K' hK' => ?_
      go_simp
      exact hK' _ _ (hK _ _ (below_one _ _) ⟨_, rfl, Box.new _ _ _, by omega⟩)
    | i + 7, ho => simp at hi; omega
  case last =>
    simp only [putAll, Act.put, List.setIfInBounds_toArray, List.set_cons_zero, List.set_cons_succ, Nat.reduceAdd, Nat.zero_add]
    intro uu wr lo up hbr hv hj
    obtain ⟨A', c', e9, o4⟩ := hv 5 (by simp)
    obtain ⟨g, e10, bg, hg⟩ := hv 6 (by simp)
    obtain ⟨g0, g1, g2⟩ := bg.three
    have gf := bg.frozen
    simp only [e9, e10]
    clear hv hj e9 e10
    refine wpOp_step rfl fun K' hK' => ?_
    go_simp
    refine hK' _ _ ?_
    have hbw := ((Below.refl w1.heap.size w1)).trans (hbr.mono (Nat.le_refl _))
    have hgg := grownBy_three wr g (.bool a.ch) (.slice A' a.sh.length c') (.slice none 0 0)
    have i1 := ((bg.store 0 (.bool a.ch)).store 1 (.slice A' a.sh.length c')).store 2 (.slice none 0 0)
    simp only [List.setIfInBounds_toArray, List.set_cons_zero, List.set_cons_succ] at i1
    have i3 := o4.kept hgg (.inr (o4.ne_box bg (by decide)))
    have i4 := Box.grown (Box.below bA1 hbr) hgg (by simp; omega)
    have i5 := Box.grown (Box.below bR1 hbr) hgg (by simp; omega)
    have iw := hbw.grown hgg hbw.size (fun j e => by cases e; omega)
    have hgl : g < (((wr.setCell ⟨g, 0, none⟩ (.bool a.ch)).setCell ⟨g, 1, none⟩ (.slice A' a.sh.length c')).setCell ⟨g, 2, none⟩ (.slice none 0 0)).heap.size := i1.lt
    clear hbr hgg o4 bg g0 g1 g2 gf hbw hK' 
    generalize (((wr.setCell ⟨g, 0, none⟩ (.bool a.ch)).setCell ⟨g, 1, none⟩ (.slice A' a.sh.length c')).setCell ⟨g, 2, none⟩ (.slice none 0 0)) = W2 at i3 i4 i5 i1 iw hgl ⊢
    obtain ⟨-, -, -, -, -, r6⟩ := i3.srow
    obtain ⟨gs, eA', hgs, hmi⟩ := r6 (by omega)
    subst eA'
    have hne : g ≠ gs := by
      intro e
      obtain ⟨cc, hb', -⟩ := hmi
      exact Box.apart i1 hb' (by decide) e
    have lgs := hmi.lt
    have hxk : a.sh[k]? = some (X : Int) := by rw [HT.out.sh, HXE.out]; exact ints_get HKT.out
    have gk := hmi.cell hxk
    have fk := hmi.frozen k
    have hm2 := hmi.store k (c : Int)
    rw [show a.sh.set k (c : Int) = ints (t.set k c) by rw [HT.out.sh]; simp [ints, List.map_set]] at hm2
    have bO2 := i1.far (p := ⟨gs, k, none⟩) hne (.int .i64 c)
    have iw2 := iw.setCell (p := ⟨gs, k, none⟩) (by simp; omega) (.int .i64 c)
    obtain ⟨g0, g1, g2⟩ := i1.three
    obtain ⟨t0, t1, t2⟩ := (bA1.below iw2).three
    have hzA2 := (bA1.below iw).lt
    have HM2 := Lib.hid hm2
    clear i3 hmi hxk i4 i5 hm2
    go_wp2_with fail
    refine (parts_any (ha.mono (hbw.trans (iw2.mono hbw.size))) HT.out HKT.out).mono ?_
    rintro e w3 ⟨hpa, hb3⟩
    have bO3 := bO2.below hb3
    have hm3 := HM2.out.mono hb3
    have hbl3 := iw2.trans (hb3.mono iw2.size)
    have hok := keep_ok HT.out HKT.out (show m.length = t.getD k 0 by rw [HML.out, HXE.out])
    rw [← HCE.out] at hok
    obtain ⟨T, eT⟩ : ∃ T, T = (keep m k a).da := ⟨_, rfl⟩
    have hTl : T.length = outerOf t k * c * innerOf t k := by rw [eT, hok.len, prod_set HKT.out]
    have hpr : prod t = outerOf t k * X * innerOf t k := by
      have e := prod_set (t := t) (k := k) (x := t.getD k 0) HKT.out
      rw [set_getD] at e
      rw [e, HXE.out]
    obtain ⟨ou, inn, rfl, hTL, hou⟩ : ∃ ou inn : Nat, e = .returned (.tuple #[.int .i64 ou, .int .i64 inn]) ∧ T.length = ou * c * inn ∧ (ou ≠ 0 → ou = outerOf t k ∧ inn = innerOf t k ∧ a.da.length = ou * X * inn ∧ ou ≤ 4096) := by
      rcases hpa with ⟨h0, rfl⟩ | ⟨h0, rfl⟩
      · refine ⟨0, 0, rfl, ?_, fun h => absurd rfl h⟩
        rw [hTl]
        have hle : outerOf t k * c * innerOf t k ≤ outerOf t k * X * innerOf t k := Nat.mul_le_mul_right _ (Nat.mul_le_mul_left _ hc4)
        rw [← hpr, h0] at hle
        omega
      · exact ⟨_, _, rfl, hTl, fun _ => ⟨rfl, rfl, by rw [HT.out.len, hpr], by have h9 := outTo_le h0 k t.length; rw [outTo_all HKT.out] at h9; have := HT.out.good.2.2; omega⟩⟩
    have HOK := Lib.hid hok
    have HTE := Lib.hid eT
    have HTL := Lib.hid hTL
    have HOU := Lib.hid hou
    have hD4 : a.da.length ≤ 4096 := by rw [HT.out.len]; exact HT.out.good.2.2
    have bA3 := bA1.below hbl3
    have bR3 := bR1.below hbl3
    clear hok eT hTl hpr hTL hou hpa bO2 iw2 hb3 iw i1 g0 g1 g2 t0 t1 t2 q0 q1 q2 fR hzR gk fk hgl hzA2
    clear bA3 bR3
    obtain ⟨t0, t1, t2⟩ := (bA1.below hbl3).three
    go_wp2_with fail
    clear t0 t1 t2
    go_loopw [14, 71] (fun s14 s71 wr => ∃ (o : Nat) (A2 : Option Addr) (c2 : Nat), o ≤ ou ∧ s71 = .int .i64 o ∧ s14 = .int .i64 ((o * X * inn : Nat) : Int) ∧ Box wr g 25 #[.bool a.ch, .slice (some ⟨gs, 0, none⟩) a.sh.length c', .slice A2 (o * c * inn) c2] ∧
        Owns wr (gs + 1) (.slice A2 (o * c * inn) c2) (o * c * inn) (T.take (o * c * inn)) ∧ Mine wr gs a.sh.length c' (ints (t.set k c)) ∧ Below w1.heap.size w1 wr) (fun _ s71 _ => ou - (intOf s71).toNat)
    case atStart => exact ⟨0, none, 0, Nat.zero_le _, rfl, by simp, by simpa using bO3, by simpa using Owns.nil _ _, hm3, hbl3⟩
    case round =>
      clear bO3 hm3 hbl3
      obtain ⟨o, A2, c2, ho, rfl, rfl, h1, h2, h3, hbl⟩ := hrel
      rcases Nat.lt_or_ge o ou with hlt | hge
      · obtain ⟨hou1, hou2, hou3, hou4⟩ := HOU.out (by omega)
        have H1 := Lib.hid h1
        have H2 := Lib.hid h2
        have H3 := Lib.hid h3
        have HO1 := Lib.hid (show o < outerOf t k by rw [← hou1]; exact hlt)
        have HO2 := Lib.hid hou2
        have HAL : (o + 1) * X * inn ≤ a.da.length := by rw [hou3]; exact Nat.mul_le_mul_right _ (Nat.mul_le_mul_right _ hlt)
        have hAL := Lib.hid HAL
        have HLT := Lib.hid hlt
        clear h1 h2 h3 hou1 hou2 hou3 HAL hlt ho
        go_wp2_with fail
        generalize decide (o < ou) = bo
        obtain ⟨wo, rfl⟩ : ∃ wo : World, wo = wr := ⟨_, rfl⟩
        go_loopw [14, 75] (fun s14 s75 wr => ∃ (i : Nat) (A2 : Option Addr) (c2 : Nat), i ≤ m.length ∧ s75 = .int .i64 i ∧ s14 = .int .i64 (((o * X + i) * inn : Nat) : Int) ∧ Box wr g 25 #[.bool a.ch, .slice (some ⟨gs, 0, none⟩) a.sh.length c', .slice A2 ((o * c + cnt m i) * inn) c2] ∧
            Owns wr (gs + 1) (.slice A2 ((o * c + cnt m i) * inn) c2) ((o * c + cnt m i) * inn) (T.take ((o * c + cnt m i) * inn)) ∧ Mine wr gs a.sh.length c' (ints (t.set k c)) ∧ Below w1.heap.size w1 wr) (fun _ s75 _ => m.length - (intOf s75).toNat)
        case atStart => exact ⟨0, A2, c2, Nat.zero_le _, rfl, by simp, by rw [cnt_zero, Nat.add_zero]; exact H1.out, by rw [cnt_zero, Nat.add_zero]; exact H2.out, H3.out, hbl⟩
        case round =>
          clear H1 H2 H3 hbl
          obtain ⟨i, A2, c2, hi, rfl, rfl, h1, h2, h3, hbl⟩ := hrel
          have hbw9 := hbw.trans (hbl.mono hbw.size)
          rcases Nat.lt_or_ge i m.length with hil | hil
          · obtain ⟨am, x, eam, hx, ham, hcx⟩ := Elems.later EM.out hbw9 hil
            subst eam
            have hx01 := mask_at HM.out hx
            have hLb : (o * X + i) * inn + inn ≤ a.da.length := by
              have e1 : (o * X + i) * inn + inn = (o * X + (i + 1)) * inn := by rw [← Nat.add_assoc, Nat.add_mul _ 1, Nat.one_mul]
              rw [e1]
              refine Nat.le_trans (Nat.mul_le_mul_right _ ?_) hAL.out
              rw [Nat.add_mul, Nat.one_mul]
              have := HML.out
              omega
            obtain ⟨L, hL⟩ : ∃ L, L = (o * X + i) * inn := ⟨_, rfl⟩
            obtain ⟨P, hP⟩ : ∃ P, P = (o * c + cnt m i) * inn := ⟨_, rfl⟩
            have hL2 : (((o * X + (i + 1)) * inn : Nat) : Int) = (L : Int) + (inn : Int) := by rw [hL, ← Nat.add_assoc, Nat.add_mul _ 1, Nat.one_mul]; simp
            rw [← hL] at hLb ⊢
            rw [← hP] at h1 h2
            have HL2 := Lib.hid hL2
            have wX4 : IntKind.i64.wrap ((L : Int) + (inn : Int)) = (L : Int) + (inn : Int) := IntWalk.i64_in _ (by omega)
            rcases hx01 with rfl | rfl
            · have hP2 : (o * c + cnt m (i + 1)) * inn = P := by rw [cnt_other hx (by decide)]; exact hP.symm
              have HP2 := Lib.hid hP2
              clear hx hL hP hL2 hP2
              go_wp2_with fail
              go_roundw
              case rel => exact ⟨i + 1, A2, c2, by omega, by go_num, by rw [HL2.out], by rw [HP2.out]; exact h1, by rw [HP2.out]; exact h2, h3, hbl⟩
              case measure => simp [intOf]; omega
            · have hP2 : (o * c + cnt m (i + 1)) * inn = P + inn := by rw [cnt_one hx, hP, ← Nat.add_assoc, Nat.add_mul _ 1, Nat.one_mul]
              have hfin := keep_take HT.out HKT.out (show m.length = t.getD k 0 by rw [HML.out, HXE.out]) HO1.out hx HO2.out (P := P) (L := L) (by rw [hP, HCE.out]) (by rw [hL, HXE.out])
              rw [← HTE.out] at hfin
              have HP2 := Lib.hid hP2
              have Hfin := Lib.hid hfin
              clear hx hL hP hL2 hP2 hfin
              obtain ⟨A3, hsl3, hel3, hn3⟩ := part_named (lo := some (.int .i64 (L : Int))) (hi := some (.int .i64 ((L : Int) + (inn : Int)))) (L := L) (H := L + inn) (Elems.mono DA.out hbw9) DA0.out dd1 (.inr rfl) (.inr (by simp)) (by omega) (by omega)
              have el3 : ((a.da.take (L + inn)).drop L).length = inn := by simp; omega
              have He3 := Lib.hid hel3
              have Hn3 := Lib.hid hn3
              have Hel3 := Lib.hid el3
              rw [show L + inn - L = inn by omega] at hsl3
              have hTl := HTL.out
              have hPl : P ≤ 17592186000000 := by have h9 := h2.length; rw [List.length_take] at h9; have h10 : T.length ≤ 4096 := by rw [HTE.out, HOK.out.len]; exact HOK.out.good.2.2
                                                  omega
              obtain ⟨t0, t1, t2⟩ := (bA1.below hbl).three
              obtain ⟨g0, g1, g2⟩ := h1.three
              have gf := h1.frozen
              have gl := h1.lt
              have hsz := hbl.size
              clear hel3 hn3 el3 hTl
              go_wp2_with fail
              go_region_law
                ((refine step_append_ints _ rfl rfl _ _ (by rfl) (gs + 1) P _ (T.take P) (by rfl) (h2.drewN _) A3 inn _ ((a.da.take (L + inn)).drop L) (by rfl) Hn3.out He3.out Hel3.out (by omega) (by have := h3.lt; simp; omega) ?_; intro A4 c4 w4 hown4 hgrow4 hat4; have b4 := Box.grown (w := wr.drewN _) (h1.drewN _) hgrow4 (h2.ne_box h1 (by decide)); have hc4 := b4.three.2.2; have hf4 := b4.frozen 2))
              all_goals
                obtain ⟨m1, m2, m3, m4⟩ := keep_step h1 h2 h3 hne hbl (by omega) (by omega) (by omega) hgrow4 hown4
                rw [Hfin.out] at m2
                clear hown4 hgrow4 hat4 b4 hc4 hf4 h1 h2 h3 hbl t0 t1 t2 g0 g1 g2 gf gl hsz hsl3 He3 Hn3 Hel3 hbw9 hcx
                generalize w4.setCell ⟨g, 2, none⟩ (.slice A4 (P + inn) c4) = wz at m1 m2 m3 m4 ⊢
                go_wp2_with fail
                go_roundw
                case rel => exact ⟨i + 1, A4, c4, by omega, by go_num, by rw [HL2.out], by rw [HP2.out]; exact m1, by rw [HP2.out]; exact m2, m3, m4⟩
                case measure => simp [intOf]; omega
          · have hie : i = m.length := by omega
            have hL2 : (o * X + i) * inn = (o + 1) * X * inn := by rw [hie, HML.out, Nat.add_mul o 1, Nat.one_mul]
            have hP2 : (o * c + cnt m i) * inn = (o + 1) * c * inn := by rw [hie, ← HCE.out, Nat.add_mul o 1, Nat.one_mul]
            rw [hP2] at h1 h2
            have HL2 := Lib.hid hL2
            have H1 := Lib.hid h1
            have H2 := Lib.hid h2
            have hlt := HLT.out
            clear hie hL2 hP2 h1 h2
            go_wp2_with fail
            go_roundw
            case rel => exact ⟨o + 1, A2, c2, by omega, by go_num, by rw [HL2.out], H1.out, H2.out, h3, hbl⟩
            case measure => simp [intOf]; omega
      · have hoe : o = ou := by omega
        subst hoe
        rw [← HTL.out, List.take_length] at h2
        rw [← HTL.out] at h1
        have iD := h2.isInts
        have iS := h3.isInts
        have hia : IsArr wr (.agg #[.bool a.ch, .slice (some ⟨gs, 0, none⟩) a.sh.length c', .slice A2 T.length c2]) (keep m k a) := ⟨_, _, rfl, (by rw [HOK.out.sh]; exact iS), (by rw [← HTE.out]; exact iD)⟩
        have HIA := Lib.hid hia
        have bR3 := bR1.below hbl
        obtain ⟨g0, g1, g2⟩ := h1.three
        obtain ⟨q0, q1, q2⟩ := bR3.three
        have gl := h1.lt
        have gf := h1.frozen
        have zl := bR3.lt
        have zf := bR3.frozen
        have hbw9 := hbw.trans (hbl.mono hbw.size)
        have HNV := Lib.hid (newV (b := a.ch) (block_from (B := w.heap.size) (g := gs) (o := 0) (n := a.sh.length) (c := c') (by have := hbw.size; omega)) (h2.from_ (B' := w.heap.size) (by have := hbw.size; omega)))
        clear hia iS iD h2 h3
        go_wp2_with fail
        refine bodyPost_ret (v := .tuple #[.agg #[.bool a.ch, .slice (some ⟨gs, 0, none⟩) a.sh.length c', .slice A2 T.length c2], .nilIface]) (by simp [results, Tryz.results179, go_sem, zl, q0, q1, q2]; first | done | rfl | exact ⟨rfl, rfl, rfl⟩) rfl ?_
        rw [show ((k : Nat) : Int).toNat = k by omega]
        exact .inl ⟨HE.out, _, rfl, IsArr.laid HIA.out bR3 _ _ _, by have := hbw9.size; go_grown, HNV.out⟩

end Go.Proofs.YtihndbkaoejnnaaGreatDoor
