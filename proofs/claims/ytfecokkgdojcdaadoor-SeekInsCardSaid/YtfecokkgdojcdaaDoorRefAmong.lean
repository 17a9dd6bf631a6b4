/- The walks of the references' Flaws, truth and Among. Conditions: none. -/
import Derived.Test.YtfecokkgdojcdaaDoorRefFlaw
import Derived.Test.YtfecokkgdojcdaaDoorRefAt
import Derived.Test.YtfecokkgdojcdaaDoorHas
import Derived.Test.YtfecokkgdojcdaaDoorTail
import Derived.Test.YtfecokkgdojcdaaDoorSeekPlain
import Derived.Deep.RegionLaw
namespace Go.Proofs.YtfecokkgdojcdaaDoor
open Go Go.RowKit Go.Proofs.YtfecokkgdojcdaaDoor.P

set_option maxHeartbeats 400000 in
theorem flaws_any {va vb : Value} {a b : Arr} {w : World} (ha : IsArr w va a) (hb : IsArr w vb b) :
    Calls Tryd.prog 48 #[va, vb] w fun e w' => e = .returned (.int .i64 (twoErr a b)) ∧ Below w.heap.size w w' := by
  obtain ⟨A, ca, D, cd, rfl, -, -⟩ := ha.open_
  obtain ⟨A', ca', D', cd', rfl, -, -⟩ := hb.open_
  have HA := Lib.hid ha
  have HB := Lib.hid hb
  clear ha hb
  go_enter Tryd.func48, Tryd.ntmps48
  have z1 := (Box.new w 24 #[.bool a.ch, .slice A a.sh.length ca, .slice D a.da.length cd]).alloc (.cells #[.bool b.ch, .slice A' b.sh.length ca', .slice D' b.da.length cd'] 24)
  have z2 := Box.new (w.alloc (.cells #[.bool a.ch, .slice A a.sh.length ca, .slice D a.da.length cd] 24)) 24 #[.bool b.ch, .slice A' b.sh.length ca', .slice D' b.da.length cd']
  rw [World.size_alloc] at z2
  have hb0 := below_two w (.cells #[.bool a.ch, .slice A a.sh.length ca, .slice D a.da.length cd] 24) (.cells #[.bool b.ch, .slice A' b.sh.length ca', .slice D' b.da.length cd'] 24)
  obtain ⟨t0, t1, t2⟩ := z1.three
  go_wp2_with fail
  refine (flaw_any (HA.out.mono hb0)).mono ?_
  rintro e w1 ⟨rfl, hb1⟩
  have b2 := z2.below hb1
  have hbw := hb0.trans (hb1.mono hb0.size)
  clear z1 z2 hb0 hb1 t0 t1 t2
  obtain ⟨u0, u1, u2⟩ := b2.three
  by_cases c : arrErr a = 0
  · have HE := Lib.hid (show twoErr a b = arrErr b by unfold twoErr; rw [if_neg (fun h => h c)])
    rw [c]
    clear c
    go_wp2_with fail
    refine (flaw_any (HB.out.mono hbw)).mono ?_
    rintro e w2 ⟨rfl, hb2⟩
    have hbw2 := hbw.trans (hb2.mono hbw.size)
    go_wp2_with fail
    go_ret
    exact ⟨ret_int HE.out.symm, hbw2⟩
  · have HE := Lib.hid (show twoErr a b = arrErr a by unfold twoErr; rw [if_pos c])
    have e1 : (arrErr a == 0) = false := by simp [c]
    clear c
    go_wp2_with fail
    go_ret
    exact ⟨ret_int HE.out.symm, hbw⟩

set_option maxHeartbeats 400000 in
theorem truth_any (b : Bool) (w : World) : Calls Tryd.prog 50 #[.bool b] w fun e w' => e = .returned (.int .i64 (if b then 1 else 0)) ∧ w = w' := by
  cases b
  · go_enter Tryd.func50, Tryd.ntmps50
    go_wp2
    go_ret
    exact ⟨rfl, rfl⟩
  · go_enter Tryd.func50, Tryd.ntmps50
    go_wp2
    go_ret
    exact ⟨rfl, rfl⟩

theorem isin_at' {a b : Arr} {k : Nat} {x : Int} (h : a.da[k]? = some x) : (isin a b).da[k]? = some (if hasB b a.ch x then 1 else 0) := by
  unfold isin
  rw [List.getElem?_map, h]
  rfl

set_option maxRecDepth 100000 in
set_option maxHeartbeats 2000000 in
theorem among_told {va vb : Value} {a b : Arr} {w : World} (ha : IsArr w va a) (hb : IsArr w vb b) :
    Calls Tryd.prog 16 #[va, vb] w (RTold (isin a b) (twoErr a b) w) := by
  obtain ⟨A, ca, D, cd, rfl, hs, hd⟩ := ha.open_
  obtain ⟨A', ca', D', cd', rfl, -, -⟩ := hb.open_
  obtain ⟨D0, cd0, eD, d1, d2, d3, d0, d4⟩ := id hd
  cases eD
  have HA := Lib.hid ha
  have HB := Lib.hid hb
  have HS := Lib.hid hs
  have HD := Lib.hid (show Elems w D a.da from d4)
  clear ha hb hs hd d0 d4
  go_enter Tryd.func16, Tryd.ntmps16
  have z1 := ((Box.new w 24 #[.bool a.ch, .slice A a.sh.length ca, .slice D a.da.length cd]).alloc (.cells #[.bool b.ch, .slice A' b.sh.length ca', .slice D' b.da.length cd'] 24)).alloc (.cells #[.bool false, .slice none 0 0, .slice none 0 0] 24)
  have z2 := (Box.new (w.alloc (.cells #[.bool a.ch, .slice A a.sh.length ca, .slice D a.da.length cd] 24)) 24 #[.bool b.ch, .slice A' b.sh.length ca', .slice D' b.da.length cd']).alloc (.cells #[.bool false, .slice none 0 0, .slice none 0 0] 24)
  have z3 := Box.new ((w.alloc (.cells #[.bool a.ch, .slice A a.sh.length ca, .slice D a.da.length cd] 24)).alloc (.cells #[.bool b.ch, .slice A' b.sh.length ca', .slice D' b.da.length cd'] 24)) 24 #[.bool false, .slice none 0 0, .slice none 0 0]
  simp only [World.size_alloc] at z2 z3
  have hb0 := below_three w (.cells #[.bool a.ch, .slice A a.sh.length ca, .slice D a.da.length cd] 24) (.cells #[.bool b.ch, .slice A' b.sh.length ca', .slice D' b.da.length cd'] 24) (.cells #[.bool false, .slice none 0 0, .slice none 0 0] 24)
  obtain ⟨t0, t1, t2⟩ := z1.three
  obtain ⟨u0, u1, u2⟩ := z2.three
  go_wp2_with fail
  refine (flaws_any (HA.out.mono hb0) (HB.out.mono hb0)).mono ?_
  rintro e w1 ⟨rfl, hb1⟩
  have bA := z1.below hb1
  have bB := z2.below hb1
  have bR := z3.below hb1
  have hbw := hb0.trans (hb1.mono hb0.size)
  clear z1 z2 z3 hb0 hb1 t0 t1 t2 u0 u1 u2
  obtain ⟨q0, q1, q2⟩ := bR.three
  have qf := bR.frozen
  have hzR := bR.lt
  by_cases c1 : twoErr a b = 0
  case neg =>
    have HE := Lib.hid c1
    have e1 : (twoErr a b != 0) = true := by simp [c1]
    clear c1
    go_wp2_with fail
    refine bodyPost_ret (v := .tuple #[zeroArr, .int .i64 (twoErr a b)]) (by simp [results, Tryd.results16, go_sem, q0, q1, q2, hzR]) rfl ?_
    exact RTold.bad HE.out (by have := hbw.size; go_grown)
  obtain ⟨s, t, ho, ho'⟩ := twoErr_zero c1
  have HE := Lib.hid c1
  have hsl : a.sh.length ≤ 4096 := by rw [ho.sh, length_ints]; have := ho.good.1; omega
  have hdl : a.da.length ≤ 4096 := by rw [ho.len]; exact ho.good.2.2
  rw [c1]
  clear c1 ho ho'
  obtain ⟨t0, t1, t2⟩ := bA.three
  go_wp2_with fail
  refine (copied_ok _ a.sh _ (HS.out.mono hbw) hsl).mono ?_
  rintro e w2 ⟨gs, rfl, hgs, hrs, hb2⟩
  have bA2 := bA.below hb2
  have bB2 := bB.below hb2
  have bR2 := bR.below hb2
  have hbw2 := hbw.trans (hb2.mono hbw.size)
  have hgl := Box.lt hrs
  have hlA := bA2.lt
  have hlB := bB2.lt
  have hlR := bR2.lt
  have HRS := Lib.hid hrs
  have HBO := Lib.hid (HB.out.mono hbw2)
  clear bA bB bR hb2 hbw t0 t1 t2 q0 q1 q2 qf hrs
  obtain ⟨t0, t1, t2⟩ := bA2.three
  obtain ⟨X, hX⟩ : ∃ X, X = (isin a b).da := ⟨_, rfl⟩
  have HX := Lib.hid hX
  have HXL := Lib.hid (show X.length = a.da.length by rw [hX]; simp [isin])
  clear hX
  go_wp2_with fail
  clear t0 t1 t2
  go_loopw [8] (fun s8 wr => ∃ (k : Nat) (A4 : Option Addr) (c4 : Nat), k ≤ a.da.length ∧ s8 = .int .i64 k ∧ Box wr w2.heap.size 24 #[.bool false, .slice (some ⟨gs, 0, none⟩) a.sh.length a.sh.length, .slice A4 k c4] ∧ Owns wr (w2.heap.size + 1) (.slice A4 k c4) k (X.take k) ∧ Below w2.heap.size w2 wr) (fun s8 _ => a.da.length - (intOf s8).toNat)
  case atStart => exact ⟨0, none, 0, Nat.zero_le _, rfl, Box.new _ _ _, Owns.nil _ _, below_one _ _⟩
  case round =>
    obtain ⟨k, A4, c4, hk, rfl, h1, h2, hbl⟩ := hrel
    have hlo := h1.lt
    obtain ⟨t0, t1, t2⟩ := (bA2.below hbl).three
    rcases Nat.lt_or_ge k a.da.length with hlt | hge
    · obtain ⟨ad, x, hax, hx, hal, hcx⟩ := Elems.later HD.out (hbw2.trans (hbl.mono hbw2.size)) hlt
      subst hax
      have HXK := Lib.hid (show X[k]? = some (if hasB b a.ch x then 1 else 0) by rw [HX.out]; exact isin_at' hx)
      have HCX := Lib.hid (show ∀ wx, Below wr.heap.size wr wx → wx.cell? (ad.add k) = some (.int .i64 x) from fun wx h => (h.cell (p := ad.add k) (by rw [addr_block_add]; have := hbl.size; have := hbw2.size; omega)).trans hcx)
      have HBO2 := Lib.hid (HBO.out.mono hbl)
      obtain ⟨u0, u1, u2⟩ := (bB2.below hbl).three
      obtain ⟨g0, g1, g2⟩ := h1.three
      have hz := hbl.size
      have lA2 := (bA2.below hbl).lt
      have lB2 := (bB2.below hbl).lt
      clear hx hcx
      go_wp2_with fail
      obtain ⟨wo, rfl⟩ : ∃ wo : World, wo = wr := ⟨_, rfl⟩
      refine wp_region_gate 13 2 (fun i v lo hi w' => match i with
          | 0 => v = .pointer (some ⟨w2.heap.size, 2, none⟩)
          | 1 => v = .slice A4 k c4
          | 2 => v = .agg #[.bool b.ch, .slice A' b.sh.length ca', .slice D' b.da.length cd']
          | 3 => v = .pointer (some ⟨w.heap.size, 0, none⟩)
          | 4 => v = .bool a.ch
          | 5 => v = .pointer (some ⟨w.heap.size, 2, none⟩)
          | 6 => v = .slice (some ad) a.da.length cd
          | 7 => v = .int .i64 k
          | 8 => v = .pointer (some (ad.add k))
          | 9 => v = .int .i64 x
          | 10 => v = .bool (hasB b a.ch x)
          | 11 => v = .int .i64 (if hasB b a.ch x then 1 else 0)
          | 12 => ∃ m, v = .slice (some ⟨m, 0, none⟩) 1 1 ∧ Elems w' (some ⟨m, 0, none⟩) [if hasB b a.ch x then 1 else 0]
          | _ => True) (by kernel_rfl) (by kernel_rfl) (by kernel_rfl) ?hV ?step ?last
      case hV =>
        intro i v lo hi w1 w2 h hb
        match i, h with
        | 0, h => exact h
        | 1, h => exact h
        | 2, h => exact h
        | 3, h => exact h
        | 4, h => exact h
        | 5, h => exact h
        | 6, h => exact h
        | 7, h => exact h
        | 8, h => exact h
        | 9, h => exact h
        | 10, h => exact h
        | 11, h => exact h
        | 12, ⟨m, e, hel⟩ => exact ⟨m, e, hel.mono hb⟩
        | i + 13, _ => trivial
      case step =>
        simp only [List.take_succ_cons, List.take_zero, putAll, Act.put, List.setIfInBounds_toArray, List.set_cons_zero, List.set_cons_succ, Nat.reduceAdd, Nat.zero_add]
        intro i o ho hi u lo up wr hbr hd hj K hK
        obtain ⟨hcw, hfw⟩ := bcell hbr
        match i, ho with
        | 0, ho =>
          simp only [List.getElem?_cons_zero, Option.some.injEq] at ho
          subst ho
          simp only [Act.put, List.setIfInBounds_toArray, List.set_cons_zero, List.set_cons_succ] at hK
          first | (simp [Region.binds] at hd; simp only [hd] at hK) | skip
          refine wpOp_step rfl fun K' hK' => ?_
          go_simp
          exact hK' _ _ (hK _ _ (Below.refl _ _) rfl)
        | 1, ho =>
          simp only [List.getElem?_cons_succ, List.getElem?_cons_zero, Option.some.injEq] at ho
          subst ho
          simp only [Act.put, List.setIfInBounds_toArray, List.set_cons_zero, List.set_cons_succ] at hK
          first | (simp [Region.binds] at hd; simp only [hd] at hK) | skip
          refine wpOp_step rfl fun K' hK' => ?_
          go_simp
          exact hK' _ _ (hK _ _ (Below.refl _ _) rfl)
        | 2, ho =>
          simp only [List.getElem?_cons_succ, List.getElem?_cons_zero, Option.some.injEq] at ho
          subst ho
          simp only [Act.put, List.setIfInBounds_toArray, List.set_cons_zero, List.set_cons_succ] at hK
          first | (simp [Region.binds] at hd; simp only [hd] at hK) | skip
          refine wpOp_step rfl fun K' hK' => ?_
          go_simp
          exact hK' _ _ (hK _ _ (Below.refl _ _) rfl)
        | 3, ho =>
          simp only [List.getElem?_cons_succ, List.getElem?_cons_zero, Option.some.injEq] at ho
          subst ho
          simp only [Act.put, List.setIfInBounds_toArray, List.set_cons_zero, List.set_cons_succ] at hK
          first | (simp [Region.binds] at hd; simp only [hd] at hK) | skip
          refine wpOp_step rfl fun K' hK' => ?_
          go_simp
          exact hK' _ _ (hK _ _ (Below.refl _ _) rfl)
        | 4, ho =>
          simp only [List.getElem?_cons_succ, List.getElem?_cons_zero, Option.some.injEq] at ho
          subst ho
          simp only [Act.put, List.setIfInBounds_toArray, List.set_cons_zero, List.set_cons_succ] at hK
          first | (simp [Region.binds] at hd; simp only [hd] at hK) | skip
          refine wpOp_step rfl fun K' hK' => ?_
          go_simp
          exact hK' _ _ (hK _ _ (Below.refl _ _) rfl)
        | 5, ho =>
          simp only [List.getElem?_cons_succ, List.getElem?_cons_zero, Option.some.injEq] at ho
          subst ho
          simp only [Act.put, List.setIfInBounds_toArray, List.set_cons_zero, List.set_cons_succ] at hK
          first | (simp [Region.binds] at hd; simp only [hd] at hK) | skip
          refine wpOp_step rfl fun K' hK' => ?_
          go_simp
          exact hK' _ _ (hK _ _ (Below.refl _ _) rfl)
        | 6, ho =>
          simp only [List.getElem?_cons_succ, List.getElem?_cons_zero, Option.some.injEq] at ho
          subst ho
          simp only [Act.put, List.setIfInBounds_toArray, List.set_cons_zero, List.set_cons_succ] at hK
          first | (simp [Region.binds] at hd; simp only [hd] at hK) | skip
          refine wpOp_step rfl fun K' hK' => ?_
          go_simp
          exact hK' _ _ (hK _ _ (Below.refl _ _) rfl)
        | 7, ho =>
          simp only [List.getElem?_cons_succ, List.getElem?_cons_zero, Option.some.injEq] at ho
          subst ho
          simp only [Act.put, List.setIfInBounds_toArray, List.set_cons_zero, List.set_cons_succ] at hK
          first | (simp [Region.binds] at hd; simp only [hd] at hK) | skip
          refine wpOp_step rfl fun K' hK' => ?_
          go_simp
          exact hK' _ _ (hK _ _ (Below.refl _ _) rfl)
        | 8, ho =>
          simp only [List.getElem?_cons_succ, List.getElem?_cons_zero, Option.some.injEq] at ho
          subst ho
          simp only [Act.put, List.setIfInBounds_toArray, List.set_cons_zero, List.set_cons_succ] at hK
          first | (simp [Region.binds] at hd; simp only [hd] at hK) | skip
          refine wpOp_step rfl fun K' hK' => ?_
          go_simp
          exact hK' _ _ (hK _ _ (Below.refl _ _) rfl)
        | 9, ho =>
          simp only [List.getElem?_cons_succ, List.getElem?_cons_zero, Option.some.injEq] at ho
          subst ho
          simp only [Act.put, List.setIfInBounds_toArray, List.set_cons_zero, List.set_cons_succ] at hK
          have h8 : u 8 = .pointer (some (ad.add k)) := hd ⟨8, .data⟩ (by simp) rfl
          have hcr := HCX.out wr hbr
          simp only [h8] at hK
          refine wpOp_step rfl fun K' hK' => ?_
          go_simp
          exact hK' _ _ (hK _ _ (Below.refl _ _) rfl)
        | 10, ho =>
          simp only [List.getElem?_cons_succ, List.getElem?_cons_zero, Option.some.injEq] at ho
          subst ho
          simp only [Act.put, List.setIfInBounds_toArray, List.set_cons_zero, List.set_cons_succ] at hK
          have h2 : u 2 = .agg #[.bool b.ch, .slice A' b.sh.length ca', .slice D' b.da.length cd'] := hd ⟨2, .data⟩ (by simp) rfl
          have h4 : u 4 = .bool a.ch := hd ⟨4, .data⟩ (by simp) rfl
          have h9 : u 9 = .int .i64 x := hd ⟨9, .data⟩ (by simp) rfl
          simp only [h2, h4, h9] at hK
          refine wpOp_step rfl fun K' hK' => ?_
          go_simp
          refine (has_any _ b a.ch x _ (HBO2.out.mono hbr)).mono ?_
          rintro e w6 ⟨r, rfl, hr, hb6⟩
          refine hK' _ _ (hK _ _ hb6 ?_)
          rw [show r = hasB b a.ch x by rw [Bool.eq_iff_iff, hr, hasB_iff]; exact ⟨fun h => ⟨h.2, h.1.symm⟩, fun h => ⟨h.2.symm, h.1⟩⟩]
        | 11, ho =>
          simp only [List.getElem?_cons_succ, List.getElem?_cons_zero, Option.some.injEq] at ho
          subst ho
          simp only [Act.put, List.setIfInBounds_toArray, List.set_cons_zero, List.set_cons_succ] at hK
          have h10 : u 10 = .bool (hasB b a.ch x) := hd ⟨10, .data⟩ (by simp) rfl
          simp only [h10] at hK
          refine wpOp_step rfl fun K' hK' => ?_
          go_simp
          refine (truth_any _ _).mono ?_
          rintro e w6 ⟨rfl, rfl⟩
          exact hK' _ _ (hK _ _ (Below.refl _ _) rfl)
        | 12, ho =>
          simp only [List.getElem?_cons_succ, List.getElem?_cons_zero, Option.some.injEq] at ho
          subst ho
          simp only [Act.put, List.setIfInBounds_toArray, List.set_cons_zero, List.set_cons_succ] at hK
          have hX : u 11 = .int .i64 (if hasB b a.ch x then 1 else 0) := hd ⟨11, .data⟩ (by simp) rfl
          simp only [hX] at hK
          refine wpOp_step rfl fun K' hK' => ?_
          go_simp
          exact hK' _ _ (hK _ _ (below_one _ _) ⟨_, rfl, elems_new _ _⟩)
        | i + 13, ho => omega
      case last =>
        simp only [List.take_succ_cons, List.take_zero, putAll, Act.put, List.setIfInBounds_toArray, List.set_cons_zero, List.set_cons_succ, Nat.reduceAdd, Nat.zero_add]
        intro u wr lo up hbr hv hj
        obtain ⟨m0, eb, hel⟩ := hv 12 (by omega)
        have e1 : u 1 = .slice A4 k c4 := hv 1 (by omega)
        have hzr := hbr.size
        have hne := (h2.below hbr).ne_box (h1.below hbr) (by decide)
        simp only [eb, e1]
        clear hv hj eb e1
        unfold tailWp
        refine wpOp_step rfl fun K' hK' => ?_
        refine step_append_ints _ rfl rfl _ _ (by rfl) (w2.heap.size + 1) k _ (X.take k) (by rfl) (h2.below hbr) (some ⟨m0, 0, none⟩) 1 1 [if hasB b a.ch x then 1 else 0] (by rfl) (fun e => by cases e) hel rfl (by omega) (by omega) ?_
        intro A5 c5 w5 hown5 hgrow5 hat5
        refine hK' _ _ ?_
        clear hK'
        have b5 := (h1.below hbr).grown hgrow5 hne
        have hc5 := b5.three.2.2
        have hf5 := b5.frozen 2
        have hl5 := b5.lt
        unfold tailWp
        refine wpOp_step rfl fun K' hK' => ?_
        go_simp
        refine hK' _ _ ?_
        clear hK'
        unfold tailWp
        refine wpOp_step rfl fun K' hK' => ?_
        go_simp
        refine hK' _ _ ?_
        clear hK'
        have hblr := hbl.trans (hbr.mono hbl.size)
        have hbl5 := (hblr.grown hgrow5 hblr.size (fun j e => by have := (h2.lt e).1; omega)).setCell (p := ⟨w2.heap.size, 2, none⟩) (by simp) (.slice A5 (k + 1) c5)
        have b6 := b5.store 2 (.slice A5 (k + 1) c5)
        have h6 := hown5.setCell (p := ⟨w2.heap.size, 2, none⟩) (hown5.ne_box b5 (by decide)) (.slice A5 (k + 1) c5)
        simp only [List.setIfInBounds_toArray, List.set_cons_zero, List.set_cons_succ] at b6
        clear hc5 hf5 b5 hown5 hgrow5
        go_wp2_with fail
        go_roundw
        case rel => exact ⟨k + 1, A5, c5, by omega, by go_num, b6, by rw [← take_at HXK.out]; exact h6, hbl5⟩
        case measure => simp [intOf]; omega
    · have hke : k = a.da.length := by omega
      subst hke
      rw [List.take_of_length_le (by rw [HXL.out]; exact Nat.le_refl _)] at h2
      obtain ⟨g0, g1, g2⟩ := h1.three
      have b3 := bR2.below hbl
      have rf := b3.frozen
      obtain ⟨e0, e1, e2⟩ := b3.three
      have rl := b3.lt
      go_wp2_with fail
      have hgg := grownBy_three wr (w.heap.size + 1 + 1) (.bool false) (.slice (some ⟨gs, 0, none⟩) a.sh.length a.sh.length) (.slice A4 a.da.length c4)
      have z := ((b3.store 0 (.bool false)).store 1 (.slice (some ⟨gs, 0, none⟩) a.sh.length a.sh.length)).store 2 (.slice A4 a.da.length c4)
      simp only [List.setIfInBounds_toArray, List.set_cons_zero, List.set_cons_succ] at z
      obtain ⟨z0, z1, z2⟩ := z.three
      have zl := z.lt
      refine bodyPost_ret (v := .tuple #[.agg #[.bool false, .slice (some ⟨gs, 0, none⟩) a.sh.length a.sh.length, .slice A4 a.da.length c4], .int .i64 0]) (by simp [results, Tryd.results16, go_sem, z0, z1, z2, zl]) rfl ?_
      have hgn : w.heap.size + 1 + 1 ≠ gs := by omega
      have iS : IsInts _ (.slice (some ⟨gs, 0, none⟩) a.sh.length a.sh.length) a.sh := (Box.grown (Box.below HRS.out hbl) hgg (by intro e; injection e with e; exact hgn e) : Row _ gs a.sh).isInts rfl (by omega)
      have iD := (h2.kept hgg (.inr (h2.ne_low (by omega)))).isInts
      have hbx := hbw2.trans (hbl.mono hbw2.size)
      exact RTold.ok HE.out ⟨_, _, rfl, iS, by rw [← HX.out]; exact iD⟩ (hbx.grown hgg hbx.size (fun j e => by cases e; omega))

end Go.Proofs.YtfecokkgdojcdaaDoor
