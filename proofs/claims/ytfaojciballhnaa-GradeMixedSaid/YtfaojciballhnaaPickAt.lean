/- The walk of pick.At. Conditions: none. -/
import Derived.Test.YtfaojciballhnaaPickFind
import Derived.Test.YtfaojciballhnaaArrOf
import Derived.Test.YtfaojciballhnaaFunnel
import Derived.Test.YtfaojciballhnaaPair
import Derived.Deep.RegionLaw
set_option linter.unusedSimpArgs false
set_option linter.unusedVariables false
namespace Go.Proofs.Ytfaojciballhnaa.P
/-- What pick.At says against what it got. -/
def atErr (a : Arr) (bs : List Arr) : Int := if allErr (a :: bs) ≠ 0 then allErr (a :: bs) else pickErr a.nsh bs
/-- The cells at indices. -/
def atOf (a : Arr) (bs : List Arr) : Arr := ⟨a.ch, catSh bs, (placesOf a.nsh bs).map fun p => a.da.getD p.toNat 0⟩
theorem allErr_zero : ∀ {l : List Arr}, allErr l = 0 → ∀ b ∈ l, arrErr b = 0
  | [], _, b, hb => by cases hb
  | c :: l, h, b, hb => by
    unfold allErr at h
    by_cases e : arrErr c ≠ 0
    · rw [if_pos e] at h; exact absurd h e
    · rw [if_neg e] at h
      rcases List.mem_cons.1 hb with rfl | hb
      · simpa using e
      · exact allErr_zero h b hb
theorem pick_parts {t : List Nat} {bs : List Arr} (h : pickErr t bs = 0) : bs.length = t.length ∧ bs.any (·.ch) = false ∧ cntErr (catSh bs) = 0 ∧ idxBad t bs = false := by
  unfold pickErr at h
  by_cases h1 : bs.length ≠ t.length
  · rw [if_pos h1] at h; omega
  · rw [if_neg h1] at h
    by_cases h2 : bs.any (·.ch) = true
    · rw [if_pos h2] at h; omega
    · rw [if_neg h2] at h
      by_cases h3 : cntErr (catSh bs) ≠ 0
      · rw [if_pos h3] at h; exact absurd h h3
      · rw [if_neg h3] at h
        by_cases h4 : idxBad t bs = true
        · rw [if_pos h4] at h; omega
        · exact ⟨by simpa using h1, by simpa using h2, by simpa using h3, by simpa using h4⟩
end Go.Proofs.Ytfaojciballhnaa.P
namespace Go.Proofs.Ytfaojciballhnaa
open Go Go.RowKit Go.Proofs.Ytfaojciballhnaa.P

theorem isArrs_nil (w : World) : IsArrs w (.slice none 0 0) [] :=
  ⟨none, 0, [], rfl, Nat.le_refl _, by omega, Nat.zero_le _, fun _ => rfl, ⟨rfl, fun u hu => (by cases hu), fun k b h => (by simp at h)⟩, fun j u h => (by simp at h)⟩

set_option maxRecDepth 100000 in
set_option maxHeartbeats 4000000 in
theorem pick_at {va vb : Value} {a : Arr} {bs : List Arr} {w : World} (ha : IsArr w va a) (hb : IsArrs w vb bs) :
    Calls Try.prog 19 #[va, vb] w (ToldN (atOf a bs) (atErr a bs) w) := by
  obtain ⟨A, ca, D, cd, rfl, hs, hd⟩ := ha.open_
  have HB := Lib.hid hb
  have HA := Lib.hid ha
  have HD := Lib.hid (show Elems w D a.da from hd.elems)
  obtain ⟨D0, cd0, eD, d1, d2, d3, d4, d5⟩ := id hd
  cases eD
  clear hs hd hb ha d4 d5
  go_enter Try.func19, Try.ntmps19
  have z1 := (Box.new w 24 #[.bool a.ch, .slice A a.sh.length ca, .slice D a.da.length cd]).alloc (.cells #[.bool false, .slice none 0 0, .slice none 0 0] 24)
  obtain ⟨t0, t1, t2⟩ := z1.three
  go_wp2_with fail
  refine (pick_check (HA.out.mono (below_two _ _ _)) (HB.out.mono (below_two _ _ _)) (isArrs_nil _) (by simp)).mono ?_
  rintro e w1 ⟨rfl, hb1⟩
  rw [List.append_nil]
  have bA := z1.below hb1
  have bR := (Box.new (w.alloc (.cells #[.bool a.ch, .slice A a.sh.length ca, .slice D a.da.length cd] 24)) 24 #[.bool false, .slice none 0 0, .slice none 0 0]).below hb1
  rw [World.size_alloc] at bR
  have hbw1 : Below w.heap.size w w1 := (below_two _ _ _).trans (hb1.mono (by simp; omega))
  have hs1 := hbw1.size
  clear t0 t1 t2 z1
  obtain ⟨q0, q1, q2⟩ := bR.three
  have qf := bR.frozen
  have hzR := bR.lt
  by_cases c1 : allErr (a :: bs) = 0
  · obtain ⟨t, ht⟩ := ok_of_arrErr (allErr_zero c1 a (List.mem_cons_self ..))
    have HG := Lib.hid (show ∀ b ∈ bs, ∃ s, Ok b s from fun b hb => ok_of_arrErr (allErr_zero c1 b (List.mem_cons_of_mem _ hb)))
    have HT := Lib.hid ht
    have HE := Lib.hid (show atErr a bs = pickErr t bs by unfold atErr; rw [if_neg (fun h => h c1), ht.nsh_eq])
    have HO := Lib.hid (show atOf a bs = ⟨a.ch, catSh bs, (placesOf t bs).map fun p => a.da.getD p.toNat 0⟩ by unfold atOf; rw [ht.nsh_eq])
    rw [c1, errV_zero]
    clear c1 ht
    obtain ⟨t0, t1, t2⟩ := bA.three
    go_wp2_with fail
    refine (pick_find (HA.out.mono hbw1) (HB.out.mono hbw1) HT.out HG.out).mono ?_
    rintro e w2 ⟨S1, n1, k1, Q1, M, q1_, rfl, hb2, hok⟩
    have HOK := Lib.hid hok
    have HW1 := Lib.hid hzR
    have bA2 := bA.below hb2
    have bR2 := bR.below hb2
    have hbw2 := hbw1.trans (hb2.mono hs1)
    have hs2 := hb2.size
    clear hok t0 t1 t2 q0 q1 q2 qf hzR bA bR
    obtain ⟨q0, q1, q2⟩ := bR2.three
    have qf := bR2.frozen
    by_cases c2 : pickErr t bs = 0
    · obtain ⟨rfl, hM, os, oq⟩ := HOK.out c2
      have C2 := Lib.hid c2
      rw [c2, errV_zero]
      clear c2 q0 q1 q2 qf
      obtain ⟨wC, hwC⟩ : ∃ wC, wC = w2.alloc (.cells #[.slice S1 (catSh bs).length k1, .slice Q1 M q1_] 59) := ⟨_, rfl⟩
      have OS := Lib.hid (os.alloc (.cells #[.slice S1 (catSh bs).length k1, .slice Q1 M q1_] 59))
      have OQ := Lib.hid (oq.alloc (.cells #[.slice S1 (catSh bs).length k1, .slice Q1 M q1_] 59))
      have bA1 := bA2.alloc (.cells #[.slice S1 (catSh bs).length k1, .slice Q1 M q1_] 59)
      have bR1 := bR2.alloc (.cells #[.slice S1 (catSh bs).length k1, .slice Q1 M q1_] 59)
      have bP1 := Box.new w2 59 #[.slice S1 (catSh bs).length k1, .slice Q1 M q1_]
      have hbwC := hbw2.alloc hbw2.size (.cells #[.slice S1 (catSh bs).length k1, .slice Q1 M q1_] 59)
      have HSC := Lib.hid (show wC.heap.size = w2.heap.size + 1 by rw [hwC]; simp)
      obtain ⟨P1, P2, P3, P4⟩ := pick_parts C2.out
      have hMp : M = prodLen bs := by rw [hM, ← placesTo_all (Nat.le_refl _), placesTo_len P1 (Nat.le_refl _), List.take_length]
      have hM4 : M ≤ 4096 := by rw [hMp]; exact (cat_val HG.out P3).2
      have HM := Lib.hid hM
      have HI := Lib.hid (show ∀ q ∈ placesOf t bs, 0 ≤ q ∧ q < (prod t : Int) by
        have h := places_in P1 P4 (k := bs.length) (Nat.le_refl _)
        rw [placesTo_all (Nat.le_refl _), P1, List.take_length] at h
        exact h)
      clear hM hMp P1 P2 P3 P4
      obtain ⟨t0, t1, t2⟩ := bA1.three
      obtain ⟨p0, p1⟩ := bP1.two
      go_wp2_with fail
      rw [← hwC] at OS OQ bA1 bR1 bP1 hbwC t0 t1 t2 p0 p1 ⊢
      have hpl := bP1.lt
      have hal := bA1.lt
      have hal1 := bR1.lt
      have hmk := run_make_ints M (by omega)
      clear hwC bA2 bR2 os oq hb1 hb2
      refine wp_region_open (fun i v lo hi w' => match i with
        | 0 => v = .pointer (some ⟨w.heap.size, 0, none⟩)
        | 1 => v = .bool a.ch
        | 2 => v = .pointer (some ⟨w2.heap.size, 0, none⟩)
        | 3 => v = .slice S1 (catSh bs).length k1
        | 4 => v = .pointer (some ⟨w2.heap.size, 1, none⟩)
        | 5 => v = .slice Q1 M q1_
        | 6 => v = .int .i64 M
        | 7 => ∃ m, v = .slice (some ⟨m, 0, none⟩) 0 M ∧ Owns w' lo v 0 [] ∧ m < hi ∧ wC.heap.size ≤ lo
        | 8 => ∃ m, v = .agg #[.bool a.ch, .slice S1 (catSh bs).length k1, .slice (some ⟨m, 0, none⟩) 0 M] ∧ Owns w' (wC.heap.size) (.slice (some ⟨m, 0, none⟩) 0 M) 0 []
        | 9 => ∃ g, v = .pointer (some ⟨g, 0, none⟩) ∧ Box w' g 24 #[.bool false, .slice none 0 0, .slice none 0 0] ∧ wC.heap.size ≤ g
        | _ => True) (by kernel_rfl) (by kernel_rfl) (by kernel_rfl) ?hV ?step ?last
      case hV =>
        intro i v lo hi w1 w2 h hb
        match i, h with
        | 0, h => exact h
        | 1, h => exact h
        | 2, h => exact h
        | 3, h => exact h
        | 4, h => exact h
        | 5, h => exact h
        | 6, h => exact h
        | 7, ⟨m, e, ho, hl, hz⟩ => exact ⟨m, e, ho.below hb, hl, hz⟩
        | 8, ⟨m, e, ho'⟩ => exact ⟨m, e, ho'.below hb⟩
        | 9, ⟨g, e, hx, hz⟩ => exact ⟨g, e, hx.below hb, hz⟩
        | i + 10, _ => trivial
      case step =>
        simp only [putAll, Act.put, List.setIfInBounds_toArray, List.set_cons_zero, List.set_cons_succ, Nat.reduceAdd, Nat.zero_add]
        intro i o ho hi uu lo up wr hbr hd hj K hK
        obtain ⟨hcw, hfw⟩ := bcell hbr
        match i, ho with
        | 0, ho =>
          simp only [List.getElem?_cons_zero, Option.some.injEq] at ho
          subst ho
          first | (simp [Region.binds] at hd; simp only [hd] at hK) | skip
          refine wpOp_step rfl fun K' hK' => ?_
          go_simp
          exact hK' _ _ (hK _ _ (Below.refl _ _) rfl)
        | 1, ho =>
          simp only [List.getElem?_cons_succ, List.getElem?_cons_zero, Option.some.injEq] at ho
          subst ho
          first | (simp [Region.binds] at hd; simp only [hd] at hK) | skip
          refine wpOp_step rfl fun K' hK' => ?_
          go_simp
          exact hK' _ _ (hK _ _ (Below.refl _ _) rfl)
        | 2, ho =>
          simp only [List.getElem?_cons_succ, List.getElem?_cons_zero, Option.some.injEq] at ho
          subst ho
          first | (simp [Region.binds] at hd; simp only [hd] at hK) | skip
          refine wpOp_step rfl fun K' hK' => ?_
          go_simp
          exact hK' _ _ (hK _ _ (Below.refl _ _) rfl)
        | 3, ho =>
          simp only [List.getElem?_cons_succ, List.getElem?_cons_zero, Option.some.injEq] at ho
          subst ho
          first | (simp [Region.binds] at hd; simp only [hd] at hK) | skip
          refine wpOp_step rfl fun K' hK' => ?_
          go_simp
          exact hK' _ _ (hK _ _ (Below.refl _ _) rfl)
        | 4, ho =>
          simp only [List.getElem?_cons_succ, List.getElem?_cons_zero, Option.some.injEq] at ho
          subst ho
          first | (simp [Region.binds] at hd; simp only [hd] at hK) | skip
          refine wpOp_step rfl fun K' hK' => ?_
          go_simp
          exact hK' _ _ (hK _ _ (Below.refl _ _) rfl)
        | 5, ho =>
          simp only [List.getElem?_cons_succ, List.getElem?_cons_zero, Option.some.injEq] at ho
          subst ho
          first | (simp [Region.binds] at hd; simp only [hd] at hK) | skip
          refine wpOp_step rfl fun K' hK' => ?_
          go_simp
          exact hK' _ _ (hK _ _ (Below.refl _ _) rfl)
        | 6, ho =>
          simp only [List.getElem?_cons_succ, List.getElem?_cons_zero, Option.some.injEq] at ho
          subst ho
          first | (simp [Region.binds] at hd; simp only [hd] at hK) | skip
          refine wpOp_step rfl fun K' hK' => ?_
          go_simp
          exact hK' _ _ (hK _ _ (Below.refl _ _) rfl)
        | 7, ho =>
          simp only [List.getElem?_cons_succ, List.getElem?_cons_zero, Option.some.injEq] at ho
          subst ho
          first | (simp [Region.binds] at hd; simp only [hd] at hK) | skip
          have hz := hbr.size
          try simp only [World.size_alloc] at hz
          refine wpOp_step rfl fun K' hK' => ?_
          go_simp
          exact hK' _ _ (hK _ _ (below_one _ _) ⟨_, rfl, ⟨World.ownsRow_made _ _ _ (Nat.le_refl _) (by unfold maxLen; omega) (by simp [size_madeCells]), by omega⟩, by simp, by omega⟩)
        | 8, ho =>
          simp only [List.getElem?_cons_succ, List.getElem?_cons_zero, Option.some.injEq] at ho
          subst ho
          have h1 : uu 1 = .bool a.ch := hd ⟨1, .data⟩ (by simp) rfl
          have h3 : uu 3 = .slice S1 (catSh bs).length k1 := hd ⟨3, .data⟩ (by simp) rfl
          obtain ⟨m, ed, od, ld, zd⟩ := hd ⟨7, .data⟩ (by simp) rfl
          dsimp only at od ld zd
          simp only [h1, h3, ed] at hK
          rw [ed] at od
          refine wpOp_step rfl fun K' hK' => ?_
          go_simp
          exact hK' _ _ (hK _ _ (Below.refl _ _) ⟨m, rfl, od.base (by omega)⟩)
        | 9, ho =>
          simp only [List.getElem?_cons_succ, List.getElem?_cons_zero, Option.some.injEq] at ho
          subst ho
          first | (simp [Region.binds] at hd; simp only [hd] at hK) | skip
          have hz := hbr.size
          try simp only [World.size_alloc] at hz
          refine wpOp_step rfl fun K' hK' => ?_
          go_simp
          exact hK' _ _ (hK _ _ (below_one _ _) ⟨_, rfl, Box.new _ _ _, by omega⟩)
        | i + 10, ho => simp at hi; omega
      case last =>
        simp only [putAll, Act.put, List.setIfInBounds_toArray, List.set_cons_zero, List.set_cons_succ, Nat.reduceAdd, Nat.zero_add]
        intro uu wr lo up hbr hv hj
        obtain ⟨m, e9, o8⟩ := hv 8 (by simp)
        obtain ⟨g, e10, bg, hg⟩ := hv 9 (by simp)
        obtain ⟨g0, g1, g2⟩ := bg.three
        have gf := bg.frozen
        simp only [e9, e10]
        clear hv hj e9 e10
        refine wpOp_step rfl fun K' hK' => ?_
        go_simp
        refine hK' _ _ ?_
        have hbw := ((Below.refl wC.heap.size wC)).trans (hbr.mono (Nat.le_refl _))
        have hgg := grownBy_three wr g (.bool a.ch) (.slice S1 (catSh bs).length k1) (.slice (some ⟨m, 0, none⟩) 0 M)
        have i1 := ((bg.store 0 (.bool a.ch)).store 1 (.slice S1 (catSh bs).length k1)).store 2 (.slice (some ⟨m, 0, none⟩) 0 M)
        simp only [List.setIfInBounds_toArray, List.set_cons_zero, List.set_cons_succ] at i1
        have i2 := o8.kept hgg (.inr (o8.ne_box bg (by decide)))
        have iw := hbw.grown hgg hbw.size (fun j e => by cases e; omega)
        have hgl : g < (((wr.setCell ⟨g, 0, none⟩ (.bool a.ch)).setCell ⟨g, 1, none⟩ (.slice S1 (catSh bs).length k1)).setCell ⟨g, 2, none⟩ (.slice (some ⟨m, 0, none⟩) 0 M)).heap.size := i1.lt
        clear hbr hgg o8 bg g0 g1 g2 gf hbw hK' 
        generalize (((wr.setCell ⟨g, 0, none⟩ (.bool a.ch)).setCell ⟨g, 1, none⟩ (.slice S1 (catSh bs).length k1)).setCell ⟨g, 2, none⟩ (.slice (some ⟨m, 0, none⟩) 0 M)) = W2 at i2 i1 iw hgl ⊢
        have hgC : wC.heap.size ≤ g := hg
        obtain ⟨T, hT⟩ : ∃ T, T = (placesOf t bs).map fun p => a.da.getD p.toNat 0 := ⟨_, rfl⟩
        have TL := Lib.hid (show T.length = M by rw [hT, List.length_map, HM.out])
        have HTT := Lib.hid hT
        have QE := Lib.hid (OQ.out.isInts.elems)
        have QL := Lib.hid OQ.out.length
        have HDC := Lib.hid (Elems.mono HD.out hbwC)
        have bP2 := Box.below bP1 iw
        obtain ⟨pp0, pp1⟩ := bP2.two
        have BA := Lib.hid (bA1.below iw)
        have BR := Lib.hid (bR1.below iw)
        clear hT p0 p1 t0 t1 t2 hmk bA1 bR1 bP1 bP2
        have iwW := iw
        go_wp2_with fail
        go_loopw [41] (fun s41 wr => ∃ (k : Nat) (A4 : Option Addr) (c4 : Nat), k ≤ M ∧ s41 = .int .i64 k ∧ Box wr g 24 #[.bool a.ch, .slice S1 (catSh bs).length k1, .slice A4 k c4] ∧ Owns wr wC.heap.size (.slice A4 k c4) k (T.take k) ∧ Below wC.heap.size wC wr ∧ Box wr w.heap.size 24 #[.bool a.ch, .slice A a.sh.length ca, .slice D a.da.length cd] ∧ Box wr (w.heap.size + 1) 24 #[.bool false, .slice none 0 0, .slice none 0 0]) (fun s41 _ => M - (intOf s41).toNat)
        case atStart => exact ⟨0, some ⟨m, 0, none⟩, M, Nat.zero_le _, rfl, i1, by rw [List.take_zero]; exact i2, iw, BA.out, BR.out⟩
        case round =>
          clear i1 i2 iw iwW hgl pp0 pp1
          obtain ⟨k, A4, c4, hk, rfl, h1, h2, hbl, h3, h4⟩ := hrel
          have hz := hbl.size
          have hgw := h1.lt
          rcases Nat.lt_or_ge k M with hlt | hge
          · obtain ⟨adq, q, rfl, hq, halq, hcq⟩ := Elems.later QE.out hbl (k := k) (by rw [QL.out]; exact hlt)
            obtain ⟨y0, y1⟩ := HI.out q (List.mem_of_getElem? hq)
            obtain ⟨qn, rfl⟩ := Int.eq_ofNat_of_zero_le y0
            have hqd : qn < a.da.length := by rw [HT.out.len]; omega
            obtain ⟨adx, x, rfl, hx, halx, hcx⟩ := Elems.later HDC.out hbl hqd
            have HX := Lib.hid (show T.take k ++ [x] = T.take (k + 1) by
              refine take_at ?_
              rw [HTT.out, List.getElem?_map, hq]
              simp only [Option.map_some, Int.toNat_natCast, List.getD_eq_getElem?_getD, hx, Option.getD_some])
            obtain ⟨t0, t1, t2⟩ := h3.three
            obtain ⟨g0, g1, g2⟩ := h1.three
            have gf := h1.frozen 2
            have hne := h2.ne_box h1 (by decide)
            have hne2 := h2.ne_low (b := adx.block) (by omega)
            have hne3 := h2.ne_low (b := w.heap.size) (by omega)
            clear hq hx y0 y1
            go_wp2_with fail
            go_region_law
              ((refine step_append_ints _ rfl rfl _ _ (by rfl) wC.heap.size k _ (T.take k) (by rfl) ((h2.alloc _).drew) (some ⟨wr.heap.size, 0, none⟩) 1 1 [x] (by rfl) (by simp) (elems_new wr x) rfl (by omega) (by simp; omega) ?_; intro A5 c5 w5 hown5 hgrow5 hat5; have b5 := ((h1.alloc _).drew).grown hgrow5 hne; have hc5 := b5.three.2.2; have hf5 := b5.frozen 2; have hk5 := cell_kept1 hcx hgrow5 (by rw [addr_block_add]; exact hne2)))
            all_goals
              go_wp2
              go_roundw
              case rel => exact ⟨k + 1, A5, c5, by omega, by go_num, b5.store 2 _, by rw [← HX.out]; exact hown5.setCell (p := ⟨g, 2, none⟩) (hown5.ne_box b5 (by decide)) _, (((hbl.alloc hz _).drew).grown hgrow5 (by simp; omega) (fun _ e => (h2.lt e).1)).setCell (p := ⟨g, 2, none⟩) (by simp; omega) _, (((h3.alloc _).drew).grown hgrow5 hne3).far (p := ⟨g, 2, none⟩) (by simp; omega) _, (((h4.alloc _).drew).grown hgrow5 (h2.ne_low (by omega))).far (p := ⟨g, 2, none⟩) (by simp; omega) _⟩
              case measure => simp [intOf]; omega
          · have hke : k = M := by omega
            subst hke
            rw [List.take_of_length_le (by rw [TL.out]; exact Nat.le_refl _)] at h2
            obtain ⟨g0, g1, g2⟩ := h1.three
            have rf := h4.frozen
            obtain ⟨e0, e1, e2⟩ := h4.three
            have rl := h4.lt
            clear h3
            go_wp2_with fail
            have hgg := grownBy_three wr (w.heap.size + 1) (.bool a.ch) (.slice S1 (catSh bs).length k1) (.slice A4 k c4)
            have z := ((h4.store 0 (.bool a.ch)).store 1 (.slice S1 (catSh bs).length k1)).store 2 (.slice A4 k c4)
            simp only [List.setIfInBounds_toArray, List.set_cons_zero, List.set_cons_succ] at z
            obtain ⟨z0, z1, z2⟩ := z.three
            have zl := z.lt
            refine bodyPost_ret (v := .tuple #[.agg #[.bool a.ch, .slice S1 (catSh bs).length k1, .slice A4 k c4], .nilIface]) (by simp [results, Try.results19, go_sem, z0, z1, z2, zl]) rfl ?_
            have j2 := h2.kept hgg (.inr (h2.ne_low (by omega)))
            have os := (OS.out.below hbl)
            have hw1l := HW1.out
            have j1 := os.kept hgg (.inr (os.ne_low (by omega)))
            refine .inl ⟨by rw [HE.out]; exact C2.out, _, rfl, ?_, (hbwC.trans (hbl.mono hbwC.size)).grown hgg (hbwC.trans (hbl.mono hbwC.size)).size (fun j e => by cases e; omega), ?_⟩
            · rw [HO.out, ← HTT.out]
              exact ⟨_, _, rfl, j1.isInts, j2.isInts⟩
            · exact ⟨_, _, _, _, _, _, _, rfl, fun b e => by have := (j1.lt e).1; omega, fun b e => by have := (j2.lt e).1; have := hbwC.size; omega⟩
    · have C2 := Lib.hid c2
      rw [errV_ne c2]
      clear c2
      have hzR := bR2.lt
      go_wp2_with fail
      refine bodyPost_ret (v := .tuple #[zeroArr, .iface 56 (.int .i64 (pickErr t bs))]) (by simp [results, Try.results19, go_sem, q0, q1, q2, hzR]) rfl ?_
      exact .inr ⟨by rw [HE.out]; exact C2.out, by rw [HE.out], by have := hbw2.size; go_grown⟩
  · have C1 := Lib.hid c1
    have HE := Lib.hid (show atErr a bs = allErr (a :: bs) by unfold atErr; rw [if_pos c1])
    rw [errV_ne c1]
    clear c1
    go_wp2_with fail
    refine bodyPost_ret (v := .tuple #[zeroArr, .iface 56 (.int .i64 (allErr (a :: bs)))]) (by simp [results, Try.results19, go_sem, q0, q1, q2, hzR]) rfl ?_
    exact .inr ⟨by rw [HE.out]; exact C1.out, by rw [HE.out], by have := hbw1.size; go_grown⟩

end Go.Proofs.Ytfaojciballhnaa
