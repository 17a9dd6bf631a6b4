/- The walk of the reference Picked. Conditions: none. -/
import Derived.Test.YtikjniibfomadaaDoorRefNamed
import Derived.Test.YtikjniibfomadaaDoorPickAt
set_option linter.unusedSimpArgs false
set_option linter.unusedVariables false
namespace Go.Proofs.YtikjniibfomadaaDoor
open Go Go.RowKit Go.Proofs.YtikjniibfomadaaDoor.P

theorem ToldN.p {a : Arr} {k : Int} {w w' : World} {e : Ending} (h : ToldN a k w e w') : PTold a k w e w' := by
  rcases h with ⟨rfl, r, he, hr, hb, -⟩ | ⟨hk, he, hb⟩
  · exact ⟨r, he, by unfold ans; rw [if_pos rfl]; exact hr, hb⟩
  · exact ⟨_, by rw [he, errV_ne hk], by unfold ans; rw [if_neg hk]; exact isArr_zero w', hb⟩

set_option maxRecDepth 100000 in
set_option maxHeartbeats 8000000 in
theorem picked_told {va vb : Value} {a : Arr} {bs : List Arr} {w : World} (ha : IsArr w va a) (hb : IsArrs w vb bs) :
    Calls Tryd.prog 12 #[va, vb] w (RTold (atOf a bs) (atErr a bs) w) := by
  obtain ⟨A, ca, D, cd, rfl, hs, hd⟩ := ha.open_
  obtain ⟨D0, cd0, eD, d1, d2, d3, d0, d4⟩ := id hd
  cases eD
  have HA := Lib.hid ha
  have HB := Lib.hid hb
  have HD := Lib.hid (show Elems w D a.da from d4)
  clear ha hb hs hd d0 d4
  go_enter Tryd.func12, Tryd.ntmps12
  have z1 := (Box.new w 24 #[.bool a.ch, .slice A a.sh.length ca, .slice D a.da.length cd]).alloc (.cells #[.bool false, .slice none 0 0, .slice none 0 0] 24)
  have z3 := Box.new (w.alloc (.cells #[.bool a.ch, .slice A a.sh.length ca, .slice D a.da.length cd] 24)) 24 #[.bool false, .slice none 0 0, .slice none 0 0]
  simp only [World.size_alloc] at z3
  have hb0 := below_two w (.cells #[.bool a.ch, .slice A a.sh.length ca, .slice D a.da.length cd] 24) (.cells #[.bool false, .slice none 0 0, .slice none 0 0] 24)
  obtain ⟨t0, t1, t2⟩ := z1.three
  go_wp2_with fail
  refine (allflaws_any (HA.out.mono hb0) (HB.out.mono hb0)).mono ?_
  rintro e w1 ⟨rfl, hb1⟩
  have bA := z1.below hb1
  have bR := z3.below hb1
  have hbw := hb0.trans (hb1.mono hb0.size)
  clear z1 z3 hb0 hb1 t0 t1 t2
  obtain ⟨q0, q1, q2⟩ := bR.three
  have qf := bR.frozen
  have hzR := bR.lt
  by_cases c1 : allErr (a :: bs) = 0
  case neg =>
    have HE := Lib.hid (show atErr a bs = allErr (a :: bs) by unfold atErr; rw [if_pos c1])
    have HE0 := Lib.hid c1
    obtain ⟨ce, hce⟩ : ∃ ce, ce = allErr (a :: bs) := ⟨_, rfl⟩
    have e1 : (ce != 0) = true := by rw [hce]; simp [c1]
    rw [← hce] at HE HE0 ⊢
    clear c1 hce
    go_wp2_with fail
    refine bodyPost_ret (v := .tuple #[zeroArr, .int .i64 ce]) (by simp [results, Tryd.results12, go_sem, q0, q1, q2, hzR]) rfl ?_
    rw [HE.out]
    exact RTold.bad HE0.out (by have := hbw.size; go_grown)
  have HK := Lib.hid (show atErr a bs = pickErr a.nsh bs by unfold atErr; rw [if_neg (fun h => h c1)])
  have hall := allErr_zero c1
  obtain ⟨t, ht⟩ := ok_of_arrErr (hall a List.mem_cons_self)
  have HG := Lib.hid (show ∀ b ∈ bs, ∃ s, Ok b s from fun b hb => ok_of_arrErr (hall b (List.mem_cons_of_mem _ hb)))
  have HT := Lib.hid ht
  have HNS := Lib.hid ht.nsh_eq
  have hdl : a.da.length ≤ 4096 := by rw [ht.len]; exact ht.good.2.2
  rw [c1]
  clear c1 ht hall
  obtain ⟨t0, t1, t2⟩ := bA.three
  have hlA := bA.lt
  go_wp2_with fail
  refine (named_ok (HA.out.mono hbw) (HB.out.mono hbw) HT.out HG.out).mono ?_
  rintro e w2 ⟨rs, rp, rfl, hok, hb2⟩
  have bA2 := bA.below hb2
  have bR2 := bR.below hb2
  have hbw2 := hbw.trans (hb2.mono hbw.size)
  have HOKK := Lib.hid hok
  clear t0 t1 t2 hlA q0 q1 q2 qf hzR hok bA bR hb2
  obtain ⟨q0, q1, q2⟩ := bR2.three
  have qf := bR2.frozen
  have hzR := bR2.lt
  by_cases c2 : pickErr t bs = 0
  case neg =>
    have HE := Lib.hid (show atErr a bs = pickErr t bs by rw [HK.out, HNS.out])
    have HE0 := Lib.hid c2
    obtain ⟨ce, hce⟩ : ∃ ce, ce = pickErr t bs := ⟨_, rfl⟩
    have e1 : (ce != 0) = true := by rw [hce]; simp [c2]
    rw [← hce] at HE HE0 ⊢
    clear c2 hce
    go_wp2_with fail
    refine bodyPost_ret (v := .tuple #[zeroArr, .int .i64 ce]) (by simp [results, Tryd.results12, go_sem, q0, q1, q2, hzR]) rfl ?_
    rw [HE.out]
    exact RTold.bad HE0.out (by have := hbw2.size; go_grown)
  have HE := Lib.hid (show atErr a bs = 0 by rw [HK.out, HNS.out, c2])
  obtain ⟨hs0, hp0⟩ := HOKK.out c2
  obtain ⟨hlen, hany, hcat, hidx⟩ : bs.length = t.length ∧ bs.any (·.ch) = false ∧ cntErr (catSh bs) = 0 ∧ idxBad t bs = false := by
    unfold pickErr at c2
    by_cases h1 : bs.length = t.length
    · rw [if_neg (fun h => h h1)] at c2
      cases h2 : bs.any (·.ch)
      · rw [h2] at c2
        rw [if_neg (by simp)] at c2
        by_cases h3 : cntErr (catSh bs) = 0
        · rw [if_neg (fun h => h h3)] at c2
          cases h4 : idxBad t bs
          · exact ⟨h1, rfl, h3, rfl⟩
          · rw [h4] at c2; simp at c2
        · rw [if_pos h3] at c2; exact absurd c2 h3
      · rw [h2] at c2; simp at c2
    · rw [if_pos h1] at c2; omega
  rw [c2]
  obtain ⟨RS, cs, rfl, s1, s2, s3, -, HS0⟩ := hs0.open_
  obtain ⟨RP, cp, rfl, p1, p2, p3, EP, -⟩ := hp0.open_
  have HSI := Lib.hid hs0
  have HEP := Lib.hid EP
  have HX := Lib.hid (show (atOf a bs).da = (placesOf t bs).map fun p => a.da.getD p.toNat 0 by unfold atOf; rw [HNS.out])
  have HPI := Lib.hid (show ∀ k q, (placesOf t bs)[k]? = some q → 0 ≤ q ∧ q < (a.da.length : Int) from fun k q hq => by
    have h1 := places_in hlen hidx (Nat.le_refl _) q (by rw [placesTo_all (Nat.le_refl _)]; exact List.mem_of_getElem? hq)
    rw [show t.take bs.length = t by rw [hlen, List.take_length], ← HT.out.len] at h1
    exact h1)
  obtain ⟨M, hM⟩ : ∃ M, M = (placesOf t bs).length := ⟨_, rfl⟩
  have hM4 : M ≤ 4096 := by
    have h1 := cat_val HG.out hcat
    rw [hM, ← placesTo_all (Nat.le_refl _), placesTo_len hlen (Nat.le_refl _), List.take_length]
    exact h1.2
  have HML := Lib.hid hM
  obtain ⟨X, hX⟩ : ∃ X, X = (atOf a bs).da := ⟨_, rfl⟩
  have HXX := Lib.hid hX
  have HXL := Lib.hid (show X.length = M by rw [hX, HX.out, List.length_map, hM])
  rw [← hM] at p1 p3 ⊢
  clear c2 hlen hany hcat hidx hs0 hp0 HS0 EP hM hX q0 q1 q2 qf
  obtain ⟨t0, t1, t2⟩ := bA2.three
  have hlA := bA2.lt
  go_wp2_with fail
  clear t0 t1 t2
  obtain ⟨g, hg⟩ : ∃ g, g = w2.heap.size := ⟨_, rfl⟩
  obtain ⟨W2, hW2⟩ : ∃ W, W = w2.alloc (.cells #[.bool a.ch, .slice RS (catSh bs).length cs, .slice none 0 0] 24) := ⟨_, rfl⟩
  have HI1 := Lib.hid (show Box W2 g 24 #[.bool a.ch, .slice RS (catSh bs).length cs, .slice none 0 0] by rw [hW2, hg]; exact Box.new _ _ _)
  have HIW := Lib.hid (show Below w2.heap.size w2 W2 by rw [hW2]; exact below_one _ _)
  have hzz : W2.heap.size = g + 1 := by rw [hW2, hg]; simp
  have hgP : w2.heap.size ≤ g := by omega
  have hgW : g < W2.heap.size := by omega
  have hW12 : w2.heap.size ≤ W2.heap.size := by omega
  rw [← hW2, ← hg]
  clear hW2 hg hzz
  go_loopw [10] (fun sI wr => ∃ (k : Nat) (A4 : Option Addr) (c4 : Nat), k ≤ M ∧ sI = .int .i64 k ∧ Box wr g 24 #[.bool a.ch, .slice RS (catSh bs).length cs, .slice A4 k c4] ∧ Owns wr W2.heap.size (.slice A4 k c4) k (X.take k) ∧ Below w2.heap.size w2 wr ∧ W2.heap.size ≤ wr.heap.size) (fun sI _ => M - (intOf sI).toNat)
  case atStart => exact ⟨0, none, 0, Nat.zero_le _, rfl, HI1.out, Owns.nil _ _, HIW.out, Nat.le_refl _⟩
  case round =>
    obtain ⟨k, A4, c4, hk, rfl, h1, h2, hbl, hwz⟩ := hrel
    obtain ⟨g0, g1, g2⟩ := h1.three
    have hlo := h1.lt
    rcases Nat.lt_or_ge k M with hlt | hge
    · have hz2 := hbl.size
      obtain ⟨ap, q, rfl, hq, hap, hcq⟩ := Elems.later HEP.out hbl (k := k) (by rw [← HML.out]; exact hlt)
      obtain ⟨hq0, hql⟩ := HPI.out k q hq
      obtain ⟨P, rfl⟩ := Int.eq_ofNat_of_zero_le hq0
      have hPl : P < a.da.length := by omega
      obtain ⟨ad, x, rfl, hx, hax, hcx⟩ := Elems.later HD.out (hbw2.trans (hbl.mono hbw2.size)) hPl
      have HXK := Lib.hid (show X[k]? = some x by
        rw [HXX.out, HX.out, List.getElem?_map, hq]
        simp [List.getD_eq_getElem?_getD, hx])
      obtain ⟨wo, rfl⟩ : ∃ W : World, W = wr := ⟨_, rfl⟩
      have hsw2 := hbw2.size
      have HCX := Lib.hid (show ∀ wx, Below wo.heap.size wo wx → wx.cell? (ad.add P) = some (.int .i64 x) from fun wx h => (h.cell (p := ad.add P) (by rw [addr_block_add]; omega)).trans hcx)
      have HCQ := Lib.hid (show ∀ wx, Below wo.heap.size wo wx → wx.cell? (ap.add k) = some (.int .i64 (P : Nat)) from fun wx h => (h.cell (p := ap.add k) (by rw [addr_block_add]; omega)).trans hcq)
      obtain ⟨t0, t1, t2⟩ := (bA2.below hbl).three
      have lA2 := (bA2.below hbl).lt
      clear hq hcq hx hcx hq0 hql
      go_wp2_with fail
      refine wp_region_gate 11 2 (fun i v lo hi w' => match i with
          | 0 => v = .pointer (some ⟨g, 2, none⟩)
          | 1 => v = .slice A4 k c4
          | 2 => v = .pointer (some ⟨w.heap.size, 2, none⟩)
          | 3 => v = .slice (some ad) a.da.length cd
          | 4 => v = .slice (some ap) M cp
          | 5 => v = .int .i64 k
          | 6 => v = .pointer (some (ap.add k))
          | 7 => v = .int .i64 (P : Nat)
          | 8 => v = .pointer (some (ad.add P))
          | 9 => v = .int .i64 x
          | 10 => ∃ m, v = .slice (some ⟨m, 0, none⟩) 1 1 ∧ Elems w' (some ⟨m, 0, none⟩) [x]
          | _ => True) (by kernel_rfl) (by kernel_rfl) (by kernel_rfl) ?hV ?step ?last
      case hV =>
        intro i v lo hi w1 w2 h hb
        match i, h with
        | 0, h => exact h
        | 1, h => exact h
        | 2, h => exact h
        | 3, h => exact h
        | 4, h => exact h
        | 5, h => exact h
        | 6, h => exact h
        | 7, h => exact h
        | 8, h => exact h
        | 9, h => exact h
        | 10, ⟨m, e, hel⟩ => exact ⟨m, e, hel.mono hb⟩
        | i + 11, _ => trivial
      case step =>
        simp only [List.take_succ_cons, List.take_zero, putAll, Act.put, List.setIfInBounds_toArray, List.set_cons_zero, List.set_cons_succ, Nat.reduceAdd, Nat.zero_add]
        intro i o ho hi u lo up wr hbr hd hj K hK
        obtain ⟨hcw, hfw⟩ := bcell hbr
        match i, ho with
        | 0, ho =>
          simp only [List.getElem?_cons_zero, Option.some.injEq] at ho
          subst ho
          simp only [Act.put, List.setIfInBounds_toArray, List.set_cons_zero, List.set_cons_succ] at hK
          first | (simp [Region.binds] at hd; simp only [hd] at hK) | skip
          refine wpOp_step rfl fun K' hK' => ?_
          go_simp
          exact hK' _ _ (hK _ _ (Below.refl _ _) rfl)
        | 1, ho =>
          simp only [List.getElem?_cons_succ, List.getElem?_cons_zero, Option.some.injEq] at ho
          subst ho
          simp only [Act.put, List.setIfInBounds_toArray, List.set_cons_zero, List.set_cons_succ] at hK
          first | (simp [Region.binds] at hd; simp only [hd] at hK) | skip
          refine wpOp_step rfl fun K' hK' => ?_
          go_simp
          exact hK' _ _ (hK _ _ (Below.refl _ _) rfl)
        | 2, ho =>
          simp only [List.getElem?_cons_succ, List.getElem?_cons_zero, Option.some.injEq] at ho
          subst ho
          simp only [Act.put, List.setIfInBounds_toArray, List.set_cons_zero, List.set_cons_succ] at hK
          first | (simp [Region.binds] at hd; simp only [hd] at hK) | skip
          refine wpOp_step rfl fun K' hK' => ?_
          go_simp
          exact hK' _ _ (hK _ _ (Below.refl _ _) rfl)
        | 3, ho =>
          simp only [List.getElem?_cons_succ, List.getElem?_cons_zero, Option.some.injEq] at ho
          subst ho
          simp only [Act.put, List.setIfInBounds_toArray, List.set_cons_zero, List.set_cons_succ] at hK
          first | (simp [Region.binds] at hd; simp only [hd] at hK) | skip
          refine wpOp_step rfl fun K' hK' => ?_
          go_simp
          exact hK' _ _ (hK _ _ (Below.refl _ _) rfl)
        | 4, ho =>
          simp only [List.getElem?_cons_succ, List.getElem?_cons_zero, Option.some.injEq] at ho
          subst ho
          simp only [Act.put, List.setIfInBounds_toArray, List.set_cons_zero, List.set_cons_succ] at hK
          first | (simp [Region.binds] at hd; simp only [hd] at hK) | skip
          refine wpOp_step rfl fun K' hK' => ?_
          go_simp
          exact hK' _ _ (hK _ _ (Below.refl _ _) rfl)
        | 5, ho =>
          simp only [List.getElem?_cons_succ, List.getElem?_cons_zero, Option.some.injEq] at ho
          subst ho
          simp only [Act.put, List.setIfInBounds_toArray, List.set_cons_zero, List.set_cons_succ] at hK
          first | (simp [Region.binds] at hd; simp only [hd] at hK) | skip
          refine wpOp_step rfl fun K' hK' => ?_
          go_simp
          exact hK' _ _ (hK _ _ (Below.refl _ _) rfl)
        | 6, ho =>
          simp only [List.getElem?_cons_succ, List.getElem?_cons_zero, Option.some.injEq] at ho
          subst ho
          simp only [Act.put, List.setIfInBounds_toArray, List.set_cons_zero, List.set_cons_succ] at hK
          first | (simp [Region.binds] at hd; simp only [hd] at hK) | skip
          refine wpOp_step rfl fun K' hK' => ?_
          go_simp
          exact hK' _ _ (hK _ _ (Below.refl _ _) rfl)
        | 7, ho =>
          simp only [List.getElem?_cons_succ, List.getElem?_cons_zero, Option.some.injEq] at ho
          subst ho
          simp only [Act.put, List.setIfInBounds_toArray, List.set_cons_zero, List.set_cons_succ] at hK
          have h8 : u 6 = .pointer (some (ap.add k)) := hd ⟨6, .data⟩ (by simp) rfl
          have hcr := HCQ.out wr hbr
          simp only [h8] at hK
          refine wpOp_step rfl fun K' hK' => ?_
          go_simp
          exact hK' _ _ (hK _ _ (Below.refl _ _) rfl)
        | 8, ho =>
          simp only [List.getElem?_cons_succ, List.getElem?_cons_zero, Option.some.injEq] at ho
          subst ho
          simp only [Act.put, List.setIfInBounds_toArray, List.set_cons_zero, List.set_cons_succ] at hK
          first | (simp [Region.binds] at hd; simp only [hd] at hK) | skip
          refine wpOp_step rfl fun K' hK' => ?_
          go_simp
          exact hK' _ _ (hK _ _ (Below.refl _ _) rfl)
        | 9, ho =>
          simp only [List.getElem?_cons_succ, List.getElem?_cons_zero, Option.some.injEq] at ho
          subst ho
          simp only [Act.put, List.setIfInBounds_toArray, List.set_cons_zero, List.set_cons_succ] at hK
          have h8 : u 8 = .pointer (some (ad.add P)) := hd ⟨8, .data⟩ (by simp) rfl
          have hcr := HCX.out wr hbr
          simp only [h8] at hK
          refine wpOp_step rfl fun K' hK' => ?_
          go_simp
          exact hK' _ _ (hK _ _ (Below.refl _ _) rfl)
        | 10, ho =>
          simp only [List.getElem?_cons_succ, List.getElem?_cons_zero, Option.some.injEq] at ho
          subst ho
          simp only [Act.put, List.setIfInBounds_toArray, List.set_cons_zero, List.set_cons_succ] at hK
          have hX : u 9 = .int .i64 (x) := hd ⟨9, .data⟩ (by simp) rfl
          simp only [hX] at hK
          refine wpOp_step rfl fun K' hK' => ?_
          go_simp
          exact hK' _ _ (hK _ _ (below_one _ _) ⟨_, rfl, elems_new _ _⟩)
        | i + 11, ho => omega
      case last =>
        simp only [List.take_succ_cons, List.take_zero, putAll, Act.put, List.setIfInBounds_toArray, List.set_cons_zero, List.set_cons_succ, Nat.reduceAdd, Nat.zero_add]
        intro u wr lo up hbr hv hj
        obtain ⟨m0, eb, hel⟩ := hv 10 (by omega)
        have e1 : u 1 = .slice A4 k c4 := hv 1 (by omega)
        have hzr := hbr.size
        have hne := (h2.below hbr).ne_box (h1.below hbr) (by decide)
        simp only [eb, e1]
        clear hv hj eb e1
        unfold tailWp
        refine wpOp_step rfl fun K' hK' => ?_
        refine step_append_ints _ rfl rfl _ _ (by rfl) (W2.heap.size) k _ (X.take k) (by rfl) (h2.below hbr) (some ⟨m0, 0, none⟩) 1 1 [x] (by rfl) (fun e => by cases e) hel rfl (by omega) (by omega) ?_
        intro A5 c5 w5 hown5 hgrow5 hat5
        refine hK' _ _ ?_
        clear hK'
        have b5 := (h1.below hbr).grown hgrow5 hne
        have hc5 := b5.three.2.2
        have hf5 := b5.frozen 2
        have hl5 := b5.lt
        unfold tailWp
        refine wpOp_step rfl fun K' hK' => ?_
        go_simp
        refine hK' _ _ ?_
        clear hK'
        unfold tailWp
        refine wpOp_step rfl fun K' hK' => ?_
        go_simp
        refine hK' _ _ ?_
        clear hK'
        have hblr := hbl.trans (hbr.mono hbl.size)
        have hbl5 := (hblr.grown hgrow5 hblr.size (fun j e => by have := (h2.lt e).1; omega)).setCell (p := ⟨g, 2, none⟩) (by first | (simp; done) | (simp; omega)) (.slice A5 (k + 1) c5)
        have b6 := b5.store 2 (.slice A5 (k + 1) c5)
        have h6 := hown5.setCell (p := ⟨g, 2, none⟩) (hown5.ne_box b5 (by decide)) (.slice A5 (k + 1) c5)
        simp only [List.setIfInBounds_toArray, List.set_cons_zero, List.set_cons_succ] at b6
        have hsz7 := hgrow5.size
        clear hc5 hf5 b5 hown5 hgrow5
        go_wp2_with fail
        go_roundw
        case rel => exact ⟨k + 1, A5, c5, by omega, by go_num, b6, by rw [← take_at HXK.out]; exact h6, hbl5, by simp; omega⟩
        case measure => simp [intOf]; omega
    · obtain rfl : k = M := by omega
      rw [List.take_of_length_le (by rw [HXL.out]; exact Nat.le_refl _)] at h2
      have b3 := bR2.below hbl
      have rf := b3.frozen
      obtain ⟨e0, e1, e2⟩ := b3.three
      have rl := b3.lt
      go_wp2_with fail
      have hgg := grownBy_three wr (w.heap.size + 1) (.bool a.ch) (.slice RS (catSh bs).length cs) (.slice A4 k c4)
      have z := ((b3.store 0 (.bool a.ch)).store 1 (.slice RS (catSh bs).length cs)).store 2 (.slice A4 k c4)
      simp only [List.setIfInBounds_toArray, List.set_cons_zero, List.set_cons_succ] at z
      obtain ⟨z0, z1, z2⟩ := z.three
      have zl := z.lt
      refine bodyPost_ret (v := .tuple #[.agg #[.bool a.ch, .slice RS (catSh bs).length cs, .slice A4 k c4], .int .i64 0]) (by simp [results, Tryd.results12, go_sem, z0, z1, z2, zl]) rfl ?_
      have iS : IsInts _ (.slice RS (catSh bs).length cs) (catSh bs) := (HSI.out.mono hbl).off hgg b3 (noInts_arr _ _ _ _ _ _ _)
      have iD := (h2.kept hgg (.inr (h2.ne_low (by have := hbw2.size; omega)))).isInts
      have hbx := hbw2.trans (hbl.mono hbw2.size)
      rw [HE.out]
      refine RTold.ok rfl ?_ (hbx.grown hgg hbx.size (fun j e => by cases e; omega))
      have hl : X.length = k := HXL.out
      exact ⟨_, _, rfl, iS, by rw [← HXX.out]; exact iD⟩

end Go.Proofs.YtikjniibfomadaaDoor
