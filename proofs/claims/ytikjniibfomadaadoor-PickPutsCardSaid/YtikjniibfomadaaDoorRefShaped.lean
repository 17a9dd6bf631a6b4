/- The walk of the reference Shaped, for an array of one cell or of that shape. Conditions: none. -/
import Derived.Test.YtikjniibfomadaaDoorRefAt
import Derived.Test.YtikjniibfomadaaDoorRefFlaw
import Derived.Test.YtikjniibfomadaaDoorPutPlain
import Derived.Deep.RegionHeld3
import Derived.Deep.RegionLaw
import Derived.Test.YtikjniibfomadaaDoorTail
set_option linter.unusedSimpArgs false
set_option linter.unusedVariables false
namespace Go.Proofs.YtikjniibfomadaaDoor
open Go Go.RowKit Go.Proofs.YtikjniibfomadaaDoor.P

/-- The array that is put, in the shape of what the indices name. -/
def shapedOf (v : Arr) (T : List Nat) : Arr := ⟨v.ch, ints T, (List.range (prod T)).map fun k => putV v k⟩

set_option maxRecDepth 100000 in
set_option maxHeartbeats 8000000 in
theorem shaped_ok {vs vv : Value} {a : Arr} {T u : List Nat} {w : World} (hs : IsInts w vs (ints T)) (hv : IsArr w vv a) (hT : GoodSh T) (hu : Ok a u) (hc : u = [] ∨ u = T) :
    Calls Tryd.prog 38 #[vs, vv] w (Gives (shapedOf a T) w) := by
  obtain ⟨S, cs, rfl, s1, s2, s3, ES, -⟩ := hs.open_
  obtain ⟨A, ca, D, cd, rfl, hvs, hvd⟩ := hv.open_
  obtain ⟨D0, cd0, eD, d1, d2, d3, d0, d4⟩ := id hvd
  cases eD
  simp only [length_ints] at s1 s2 s3 ⊢
  have HS := Lib.hid hs
  have HES := Lib.hid ES
  have HD := Lib.hid (show Elems w D a.da from d4)
  have HT := Lib.hid hT
  have hT6 : T.length ≤ 6 := hT.1
  obtain ⟨M, hM⟩ : ∃ M, M = prod T := ⟨_, rfl⟩
  have HM := Lib.hid hM
  have hM4 : M ≤ 4096 := by rw [hM]; exact hT.2.2
  have hshc : (a.sh = [] ∧ a.da.length = 1) ∨ (a.sh ≠ [] ∧ a.da.length = M) ∨ (a.sh = [] ∧ M = 1) := by
    rcases hc with h | h
    · subst h
      exact .inl ⟨by rw [hu.sh]; rfl, by rw [hu.len]; rfl⟩
    · subst h
      by_cases h0 : a.sh = []
      · refine .inr (.inr ⟨h0, ?_⟩)
        have h1 : ints u = [] := by rw [← hu.sh]; exact h0
        have h2 : u = [] := by cases u with | nil => rfl | cons a l => simp [ints] at h1
        rw [hM, h2]; rfl
      · exact .inr (.inl ⟨h0, by rw [hu.len, hM]⟩)
  have hone : a.sh = [] → a.da.length = 1 := fun h0 => by
    have h1 : ints u = [] := by rw [← hu.sh]; exact h0
    have h2 : u = [] := by cases u with | nil => rfl | cons a l => simp [ints] at h1
    rw [hu.len, h2]; rfl
  have hmany : a.sh ≠ [] → a.da.length = M := fun h0 => by
    rcases hshc with h | h | h
    · exact absurd h.1 h0
    · exact h.2
    · exact absurd h.1 h0
  have HONE := Lib.hid hone
  have HMANY := Lib.hid hmany
  have hdl : a.da.length ≤ 4096 := by rw [hu.len]; exact hu.good.2.2
  have HRL := Lib.hid (show ((List.range M).map fun k => putV a k).length = M by simp)
  obtain ⟨X, hX⟩ : ∃ X, X = (List.range M).map fun k => putV a k := ⟨_, rfl⟩
  have HX := Lib.hid hX
  have HXL := Lib.hid (show X.length = M by rw [hX]; simp)
  clear hs hv ES hvs hvd d0 d4 hT hu hc hM hshc hone hmany hX
  go_enter Tryd.func38, Tryd.ntmps38
  have bA0 := ((Box.new w 24 #[.bool a.ch, .slice A a.sh.length ca, .slice D a.da.length cd]).alloc (.cells #[.bool false, .slice none 0 0, .slice none 0 0] 24)).alloc (.cells #[.bool a.ch, .slice none 0 0, .slice none 0 0] 24)
  have bR0 := (Box.new (w.alloc (.cells #[.bool a.ch, .slice A a.sh.length ca, .slice D a.da.length cd] 24)) 24 #[.bool false, .slice none 0 0, .slice none 0 0]).alloc (.cells #[.bool a.ch, .slice none 0 0, .slice none 0 0] 24)
  have bO0 := Box.new ((w.alloc (.cells #[.bool a.ch, .slice A a.sh.length ca, .slice D a.da.length cd] 24)).alloc (.cells #[.bool false, .slice none 0 0, .slice none 0 0] 24)) 24 #[.bool a.ch, .slice none 0 0, .slice none 0 0]
  simp only [World.size_alloc] at bR0 bO0
  have hb0 := below_three w (.cells #[.bool a.ch, .slice A a.sh.length ca, .slice D a.da.length cd] 24) (.cells #[.bool false, .slice none 0 0, .slice none 0 0] 24) (.cells #[.bool a.ch, .slice none 0 0, .slice none 0 0] 24)
  obtain ⟨t0, t1, t2⟩ := bA0.three
  have BA1 := Lib.hid bA0
  have BR1 := Lib.hid bR0
  have BO1 := Lib.hid bO0
  have HB1 := Lib.hid hb0
  go_wp2_with fail
  clear t0 t1 t2 bA0 bR0 bO0 hb0
  go_loopw [6] (fun si wr => ∃ (k : Nat) (A2 : Option Addr) (c2 : Nat), k ≤ T.length ∧ si = .int .i64 k ∧ Box wr (w.heap.size + 1 + 1) 24 #[.bool a.ch, .slice A2 k c2, .slice none 0 0] ∧ Owns wr (w.heap.size + 3) (.slice A2 k c2) k ((ints T).take k) ∧ Box wr w.heap.size 24 #[.bool a.ch, .slice A a.sh.length ca, .slice D a.da.length cd] ∧ Box wr (w.heap.size + 1) 24 #[.bool false, .slice none 0 0, .slice none 0 0] ∧ Below w.heap.size w wr ∧ w.heap.size + 3 ≤ wr.heap.size) (fun si _ => T.length - (intOf si).toNat)
  case atStart => exact ⟨0, none, 0, Nat.zero_le _, rfl, BO1.out, Owns.nil _ _, BA1.out, BR1.out, HB1.out, by simp⟩
  case round =>
    obtain ⟨k, A2, c2, hk, rfl, h1, h2, h3, h4, hbl, hwz⟩ := hrel
    rcases Nat.lt_or_ge k T.length with hlt | hge
    · obtain ⟨ad, x, rfl, hx, hax, hcx⟩ := Elems.later HES.out hbl (k := k) (by rw [length_ints]; exact hlt)
      have HXX := Lib.hid (take_at hx)
      obtain ⟨g0, g1, g2⟩ := h1.three
      have gf := h1.frozen 1
      have hne := h2.ne_box h1 (by decide)
      have hne2 := h2.ne_low (b := ad.block) (by omega)
      have gl := h1.lt
      clear hx
      go_wp2_with fail
      go_region_law
        ((refine step_append_ints _ rfl rfl _ _ (by rfl) (w.heap.size + 3) k _ ((ints T).take k) (by rfl) ((h2.alloc _).drew) (some ⟨wr.heap.size, 0, none⟩) 1 1 [x] (by rfl) (by simp) (elems_new wr x) rfl (by omega) (by simp; omega) ?_; intro A3 c3 w1 hown1 hgrow hat; have b3' := ((h1.alloc _).drew).grown hgrow hne; have hc1 := b3'.three.2.1; have hf1 := b3'.frozen 1; have hk1 := cell_kept1 hcx hgrow (by rw [addr_block_add]; exact hne2)))
      all_goals
        go_wp2_with fail
        go_roundw
        case rel => exact ⟨k + 1, A3, c3, by omega, by go_num, b3'.store 1 _, by rw [← HXX.out]; exact hown1.setCell (p := ⟨w.heap.size + 1 + 1, 1, none⟩) (hown1.ne_box b3' (by decide)) _, (((h3.alloc _).drew).grown hgrow (h2.ne_low (by omega))).far (p := ⟨w.heap.size + 1 + 1, 1, none⟩) (by simp; omega) _, (((h4.alloc _).drew).grown hgrow (h2.ne_low (by omega))).far (p := ⟨w.heap.size + 1 + 1, 1, none⟩) (by simp) _, (((hbl.alloc hbl.size _).drew).grown hgrow (by simp; have := hbl.size; omega) (fun _ e => by have := (h2.lt e).1; omega)).setCell (p := ⟨w.heap.size + 1 + 1, 1, none⟩) (by simp; omega) _, by have := hgrow.size; simp at this ⊢; omega⟩
        case measure => simp [intOf]; omega
    · obtain rfl : k = T.length := by omega
      rw [List.take_of_length_le (by rw [length_ints]; exact Nat.le_refl _)] at h2
      have H1 := Lib.hid h1
      have H2 := Lib.hid h2
      have H3 := Lib.hid h3
      have H4 := Lib.hid h4
      have HBL := Lib.hid hbl
      have HSI := Lib.hid (HS.out.mono hbl)
      have hbls := hbl.size
      rw [length_ints] at HSI
      clear h1 h2 h3 h4 hbl
      go_wp2_with fail
      refine (cells_ok _ T _ HSI.out HT.out).mono ?_
      rintro e w2 ⟨rfl, rfl⟩
      rw [← HM.out]
      obtain ⟨w2, hw2⟩ : ∃ W, W = wr := ⟨_, rfl⟩
      rw [← hw2] at H1 H2 H3 H4 HBL hwz hbls ⊢
      clear hw2
      go_wp2_with fail
      go_loopw [8, 9] (fun sk si wr => ∃ (k kk : Nat) (A4 : Option Addr) (c4 : Nat), k ≤ M ∧ si = .int .i64 k ∧ sk = .int .i64 kk ∧ (a.sh = [] → kk = 0) ∧ (a.sh ≠ [] → k < M → kk = k) ∧ kk ≤ 4096 ∧ Box wr (w.heap.size + 1 + 1) 24 #[.bool a.ch, .slice A2 T.length c2, .slice A4 k c4] ∧ Owns wr w2.heap.size (.slice A4 k c4) k (X.take k) ∧ Box wr w.heap.size 24 #[.bool a.ch, .slice A a.sh.length ca, .slice D a.da.length cd] ∧ Box wr (w.heap.size + 1) 24 #[.bool false, .slice none 0 0, .slice none 0 0] ∧ Owns wr (w.heap.size + 3) (.slice A2 T.length c2) T.length (ints T) ∧ Below w.heap.size w wr ∧ w2.heap.size ≤ wr.heap.size ∧ (∀ m, (Value.slice A2 T.length c2).ownBlock = some m → m < w2.heap.size)) (fun _ si _ => M - (intOf si).toNat)
      case atStart => exact ⟨0, 0, none, 0, Nat.zero_le _, rfl, rfl, fun _ => rfl, fun _ _ => rfl, by omega, H1.out, Owns.nil _ _, H3.out, H4.out, H2.out, HBL.out, Nat.le_refl _, fun m e => (H2.out.lt e).2⟩
      case round =>
        obtain ⟨k, kk, A4, c4, hk, rfl, rfl, hk0, hki, hkk4, h1, h2, h3, h4, h5, hbl, hwz2, hlo⟩ := hrel
        have HLO := Lib.hid hlo
        have H5 := Lib.hid h5
        clear hlo h5
        obtain ⟨g0, g1, g2⟩ := h1.three
        have gl := h1.lt
        rcases Nat.lt_or_ge k M with hlt | hge2
        · have hkd : kk < a.da.length ∧ kk = (if a.sh = [] then 0 else k) := by
            by_cases h0 : a.sh = []
            · have := hk0 h0
              have := HONE.out h0
              rw [if_pos h0]
              exact ⟨by omega, by omega⟩
            · have := hki h0 hlt
              have := HMANY.out h0
              rw [if_neg h0]
              exact ⟨by omega, by omega⟩
          obtain ⟨ad, x, rfl, hx, hax, hcx⟩ := Elems.later HD.out hbl hkd.1
          have HXK := Lib.hid (show X[k]? = some x by
            rw [HX.out, List.getElem?_map, List.getElem?_range hlt]
            simp only [Option.map_some]
            unfold putV
            rw [← hkd.2, List.getD_eq_getElem?_getD, hx]; rfl)
          have hkdl := hkd.1
          have hnz : (a.da.length == 0) = false := by rw [beq_eq_false_iff_ne]; omega
          have hnz2 : ¬ a.da.length = 0 := by omega
          have hnz3 : ((a.da.length : Int) == 0) = false := by rw [beq_eq_false_iff_ne]; omega
          obtain ⟨t0, t1, t2⟩ := h3.three
          have tl := h3.lt
          have HK0 := Lib.hid hk0
          have HKI := Lib.hid hki
          have HKD := Lib.hid hkd.2
          obtain ⟨wo, rfl⟩ : ∃ W : World, W = wr := ⟨_, rfl⟩
          have hzo := hbl.size
          have HCX := Lib.hid (show ∀ wx, Below wo.heap.size wo wx → wx.cell? (ad.add kk) = some (.int .i64 x) from fun wx h => (h.cell (p := ad.add kk) (by rw [addr_block_add]; omega)).trans hcx)
          clear hx hk0 hki hkd hcx
          go_wp2_with fail
          refine wp_region_gate 8 2 (fun i v lo hi w' => match i with
              | 0 => v = .pointer (some ⟨w.heap.size + 1 + 1, 2, none⟩)
              | 1 => v = .slice A4 k c4
              | 2 => v = .pointer (some ⟨w.heap.size, 2, none⟩)
              | 3 => v = .slice (some ad) a.da.length cd
              | 4 => v = .int .i64 kk
              | 5 => v = .pointer (some (ad.add kk))
              | 6 => v = .int .i64 x
              | 7 => ∃ m, v = .slice (some ⟨m, 0, none⟩) 1 1 ∧ Elems w' (some ⟨m, 0, none⟩) [x]
              | _ => True) (by kernel_rfl) (by kernel_rfl) (by kernel_rfl) ?hV ?step ?last
          case hV =>
            intro i v lo hi w1 w2 h hb
            match i, h with
            | 0, h => exact h
            | 1, h => exact h
            | 2, h => exact h
            | 3, h => exact h
            | 4, h => exact h
            | 5, h => exact h
            | 6, h => exact h
            | 7, ⟨m, e, hel⟩ => exact ⟨m, e, hel.mono hb⟩
            | i + 8, _ => trivial
          case step =>
            simp only [List.take_succ_cons, List.take_zero, putAll, Act.put, List.setIfInBounds_toArray, List.set_cons_zero, List.set_cons_succ, Nat.reduceAdd, Nat.zero_add]
            intro i o ho hi u lo up wr hbr hd hj K hK
            obtain ⟨hcw, hfw⟩ := bcell hbr
            match i, ho with
            | 0, ho =>
              simp only [List.getElem?_cons_zero, Option.some.injEq] at ho
              subst ho
              simp only [Act.put, List.setIfInBounds_toArray, List.set_cons_zero, List.set_cons_succ] at hK
              first | (simp [Region.binds] at hd; simp only [hd] at hK) | skip
              refine wpOp_step rfl fun K' hK' => ?_
              go_simp
              exact hK' _ _ (hK _ _ (Below.refl _ _) rfl)
            | 1, ho =>
              simp only [List.getElem?_cons_succ, List.getElem?_cons_zero, Option.some.injEq] at ho
              subst ho
              simp only [Act.put, List.setIfInBounds_toArray, List.set_cons_zero, List.set_cons_succ] at hK
              first | (simp [Region.binds] at hd; simp only [hd] at hK) | skip
              refine wpOp_step rfl fun K' hK' => ?_
              go_simp
              exact hK' _ _ (hK _ _ (Below.refl _ _) rfl)
            | 2, ho =>
              simp only [List.getElem?_cons_succ, List.getElem?_cons_zero, Option.some.injEq] at ho
              subst ho
              simp only [Act.put, List.setIfInBounds_toArray, List.set_cons_zero, List.set_cons_succ] at hK
              first | (simp [Region.binds] at hd; simp only [hd] at hK) | skip
              refine wpOp_step rfl fun K' hK' => ?_
              go_simp
              exact hK' _ _ (hK _ _ (Below.refl _ _) rfl)
            | 3, ho =>
              simp only [List.getElem?_cons_succ, List.getElem?_cons_zero, Option.some.injEq] at ho
              subst ho
              simp only [Act.put, List.setIfInBounds_toArray, List.set_cons_zero, List.set_cons_succ] at hK
              first | (simp [Region.binds] at hd; simp only [hd] at hK) | skip
              refine wpOp_step rfl fun K' hK' => ?_
              go_simp
              exact hK' _ _ (hK _ _ (Below.refl _ _) rfl)
            | 4, ho =>
              simp only [List.getElem?_cons_succ, List.getElem?_cons_zero, Option.some.injEq] at ho
              subst ho
              simp only [Act.put, List.setIfInBounds_toArray, List.set_cons_zero, List.set_cons_succ] at hK
              first | (simp [Region.binds] at hd; simp only [hd] at hK) | skip
              refine wpOp_step rfl fun K' hK' => ?_
              go_simp
              exact hK' _ _ (hK _ _ (Below.refl _ _) rfl)
            | 5, ho =>
              simp only [List.getElem?_cons_succ, List.getElem?_cons_zero, Option.some.injEq] at ho
              subst ho
              simp only [Act.put, List.setIfInBounds_toArray, List.set_cons_zero, List.set_cons_succ] at hK
              first | (simp [Region.binds] at hd; simp only [hd] at hK) | skip
              refine wpOp_step rfl fun K' hK' => ?_
              go_simp
              exact hK' _ _ (hK _ _ (Below.refl _ _) rfl)
            | 6, ho =>
              simp only [List.getElem?_cons_succ, List.getElem?_cons_zero, Option.some.injEq] at ho
              subst ho
              simp only [Act.put, List.setIfInBounds_toArray, List.set_cons_zero, List.set_cons_succ] at hK
              have h8 : u 5 = .pointer (some (ad.add kk)) := hd ⟨5, .data⟩ (by simp) rfl
              have hcr := HCX.out wr hbr
              simp only [h8] at hK
              refine wpOp_step rfl fun K' hK' => ?_
              go_simp
              exact hK' _ _ (hK _ _ (Below.refl _ _) rfl)
            | 7, ho =>
              simp only [List.getElem?_cons_succ, List.getElem?_cons_zero, Option.some.injEq] at ho
              subst ho
              simp only [Act.put, List.setIfInBounds_toArray, List.set_cons_zero, List.set_cons_succ] at hK
              have hX : u 6 = .int .i64 (x) := hd ⟨6, .data⟩ (by simp) rfl
              simp only [hX] at hK
              refine wpOp_step rfl fun K' hK' => ?_
              go_simp
              exact hK' _ _ (hK _ _ (below_one _ _) ⟨_, rfl, elems_new _ _⟩)
            | i + 8, ho => omega
          case last =>
            simp only [List.take_succ_cons, List.take_zero, putAll, Act.put, List.setIfInBounds_toArray, List.set_cons_zero, List.set_cons_succ, Nat.reduceAdd, Nat.zero_add]
            intro u wr lo up hbr hv hj
            obtain ⟨m0, eb, hel⟩ := hv 7 (by omega)
            have e1 : u 1 = .slice A4 k c4 := hv 1 (by omega)
            have hzr := hbr.size
            have hne := (h2.below hbr).ne_box (h1.below hbr) (by decide)
            simp only [eb, e1]
            clear hv hj eb e1
            unfold tailWp
            refine wpOp_step rfl fun K' hK' => ?_
            refine step_append_ints _ rfl rfl _ _ (by rfl) (w2.heap.size) k _ (X.take k) (by rfl) (h2.below hbr) (some ⟨m0, 0, none⟩) 1 1 [x] (by rfl) (fun e => by cases e) hel rfl (by omega) (by omega) ?_
            intro A5 c5 w5 hown5 hgrow5 hat5
            refine hK' _ _ ?_
            clear hK'
            have b5 := (h1.below hbr).grown hgrow5 hne
            have hc5 := b5.three.2.2
            have hf5 := b5.frozen 2
            have hl5 := b5.lt
            unfold tailWp
            refine wpOp_step rfl fun K' hK' => ?_
            go_simp
            refine hK' _ _ ?_
            clear hK'
            unfold tailWp
            refine wpOp_step rfl fun K' hK' => ?_
            go_simp
            refine hK' _ _ ?_
            clear hK'
            have hblr := hbl.trans (hbr.mono hbl.size)
            have hbl5 := (hblr.grown hgrow5 hblr.size (fun j e => by have := (h2.lt e).1; omega)).setCell (p := ⟨w.heap.size + 1 + 1, 2, none⟩) (by first | (simp; done) | (simp; omega)) (.slice A5 (k + 1) c5)
            have b6 := b5.store 2 (.slice A5 (k + 1) c5)
            have h6 := hown5.setCell (p := ⟨w.heap.size + 1 + 1, 2, none⟩) (hown5.ne_box b5 (by decide)) (.slice A5 (k + 1) c5)
            simp only [List.setIfInBounds_toArray, List.set_cons_zero, List.set_cons_succ] at b6
            have hsz7 := hgrow5.size
            have h37 : Box _ w.heap.size 24 #[.bool a.ch, .slice A a.sh.length ca, .slice (some ad) a.da.length cd] := Box.far (Box.grown (Box.below h3 hbr) hgrow5 (h2.ne_low (by omega))) (p := ⟨w.heap.size + 1 + 1, 2, none⟩) (by simp; omega) (.slice A5 (k + 1) c5)
            have h47 : Box _ (w.heap.size + 1) 24 #[.bool false, .slice none 0 0, .slice none 0 0] := Box.far (Box.grown (Box.below h4 hbr) hgrow5 (h2.ne_low (by omega))) (p := ⟨w.heap.size + 1 + 1, 2, none⟩) (by simp) (.slice A5 (k + 1) c5)
            have h57 := ((H5.out.below hbr).kept hgrow5 (by
              rcases hcase : (Value.slice A2 T.length c2).ownBlock with _ | m
              · exact .inl rfl
              · refine .inr fun e => ?_
                have h6 := HLO.out m hcase
                have h7 := (h2.lt e.symm).1
                omega)).setCell (p := ⟨w.heap.size + 1 + 1, 2, none⟩) (fun e => by have := (H5.out.lt e).1; simp at this; omega) (.slice A5 (k + 1) c5)
            clear hc5 hf5 b5 hown5 hgrow5
            obtain ⟨y0, y1, y2⟩ := h37.three
            have yl := h37.lt
            by_cases hend : kk + 1 = a.da.length
            · have d1 : (((kk : Int) + 1) == (a.da.length : Int)) = true := by simp; omega
              have d2 : (kk : Int) + 1 = (a.da.length : Int) := by omega
              have HRN := Lib.hid (show a.sh ≠ [] → k + 1 < M → (0 : Nat) = k + 1 from fun h0 h1 => by
                have e1 := HMANY.out h0
                have e2 := HKD.out
                rw [if_neg h0] at e2
                omega)
              clear hend
              go_wp2_with fail
              go_roundw
              case rel => exact ⟨k + 1, 0, A5, c5, by omega, by go_num, by rfl, fun _ => rfl, HRN.out, by omega, b6, by rw [← take_at HXK.out]; exact h6, h37, h47, h57, hbl5, by simp; omega, HLO.out⟩
              case measure => simp [intOf]; omega
            · have d1 : (((kk : Int) + 1) == (a.da.length : Int)) = false := by simp; omega
              have d2 : ¬ (kk : Int) + 1 = (a.da.length : Int) := by omega
              have HRN0 := Lib.hid (show a.sh = [] → kk + 1 = 0 from fun h0 => by
                have e1 := HONE.out h0
                have e2 := HKD.out
                rw [if_pos h0] at e2
                omega)
              have HRN := Lib.hid (show a.sh ≠ [] → k + 1 < M → kk + 1 = k + 1 from fun h0 h1 => by
                have e2 := HKD.out
                rw [if_neg h0] at e2
                omega)
              clear hend
              go_wp2_with fail
              go_roundw
              case rel => exact ⟨k + 1, kk + 1, A5, c5, by omega, by go_num, by go_num, HRN0.out, HRN.out, by omega, b6, by rw [← take_at HXK.out]; exact h6, h37, h47, h57, hbl5, by simp; omega, HLO.out⟩
              case measure => simp [intOf]; omega
        · obtain rfl : k = M := by omega
          rw [List.take_of_length_le (by rw [HXL.out]; exact Nat.le_refl _)] at h2
          obtain ⟨e0, e1, e2⟩ := h4.three
          have rf := h4.frozen
          have rl := h4.lt
          have hbz := hbl.size
          go_wp2_with fail
          have hgg := grownBy_three wr (w.heap.size + 1) (.bool a.ch) (.slice A2 T.length c2) (.slice A4 k c4)
          have z := ((h4.store 0 (.bool a.ch)).store 1 (.slice A2 T.length c2)).store 2 (.slice A4 k c4)
          simp only [List.setIfInBounds_toArray, List.set_cons_zero, List.set_cons_succ] at z
          obtain ⟨z0, z1, z2⟩ := z.three
          have zl := z.lt
          refine bodyPost_ret (v := .agg #[.bool a.ch, .slice A2 T.length c2, .slice A4 k c4]) (by simp [results, Tryd.results38, go_sem, z0, z1, z2, zl]) rfl ?_
          have iS := ((H5.out.kept hgg (.inr (H5.out.ne_low (by omega))))).isInts
          have iD := (h2.kept hgg (.inr (h2.ne_low (by omega)))).isInts
          have hl : X.length = k := HXL.out
          have hxe : X = (shapedOf a T).da := by rw [HX.out]; unfold shapedOf; rw [← HM.out]
          have hti : (ints T).length = T.length := length_ints T
          refine ⟨_, rfl, ⟨_, _, rfl, ?_, ?_⟩, hbl.grown hgg hbl.size (fun j e => by cases e; omega)⟩
          · exact iS
          · rw [← hxe]; exact iD

end Go.Proofs.YtikjniibfomadaaDoor
