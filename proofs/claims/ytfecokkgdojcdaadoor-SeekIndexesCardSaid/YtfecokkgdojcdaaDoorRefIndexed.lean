/- The walk of the references' Indexed. Conditions: none. -/
import Derived.Test.YtfecokkgdojcdaaDoorRefAmong
import Derived.RegionTactic
import Derived.BigQuiet
namespace Go.Proofs.YtfecokkgdojcdaaDoor.P
theorem findN_hit {a : Arr} {c : Bool} {x : Int} {j : Nat} (hc : c = a.ch) (hj : a.da[j]? = some x) (hn : ∀ i, i < j → a.da[i]? ≠ some x) : findN a c x = j := by
  have hm : x ∈ a.da := List.mem_of_getElem? hj
  have hl := (List.getElem?_eq_some_iff.1 hj).1
  unfold findN
  rw [if_pos (hasB_iff.2 ⟨hm, hc⟩)]
  rcases Nat.lt_trichotomy (a.da.idxOf x) j with h | h | h
  · exact absurd (by rw [List.getElem?_eq_getElem (by omega)]; simp) (hn _ h)
  · exact h
  · exfalso
    have := List.not_of_lt_findIdx (p := (· == x)) (xs := a.da) (i := j) (by simpa [List.idxOf] using h)
    have e := (List.getElem?_eq_some_iff.1 hj).2
    rw [e] at this
    simp at this
theorem findN_miss {a : Arr} {c : Bool} {x : Int} (hn : c = a.ch → ∀ i, i < a.da.length → a.da[i]? ≠ some x) : findN a c x = a.da.length := by
  unfold findN
  rw [if_neg]
  intro h
  obtain ⟨hm, hc⟩ := hasB_iff.1 h
  obtain ⟨i, hi⟩ := List.getElem?_of_mem hm
  exact hn hc i (List.getElem?_eq_some_iff.1 hi).1 hi
theorem index_at {a b : Arr} {k : Nat} {x : Int} (h : b.da[k]? = some x) : (index a b).da[k]? = some ((findN a b.ch x : Nat) : Int) := by
  unfold index
  rw [List.getElem?_map, h]
  rfl
end Go.Proofs.YtfecokkgdojcdaaDoor.P
namespace Go.Proofs.YtfecokkgdojcdaaDoor
open Go Go.RowKit Go.Proofs.YtfecokkgdojcdaaDoor.P

set_option maxRecDepth 100000 in
set_option maxHeartbeats 4000000 in
theorem indexed_told {va vb : Value} {a b : Arr} {w : World} (ha : IsArr w va a) (hb : IsArr w vb b) :
    Calls Tryd.prog 19 #[va, vb] w (RTold (index a b) (indexErr a b) w) := by
  obtain ⟨A, ca, D, cd, rfl, hs, hd⟩ := ha.open_
  obtain ⟨A', ca', D', cd', rfl, hs', hd'⟩ := hb.open_
  obtain ⟨D0, cd0, eD, d1, d2, d3, d0, d4⟩ := id hd
  cases eD
  obtain ⟨D0, cd0, eD, f1, f2, f3, f0, f4⟩ := id hd'
  cases eD
  have HA := Lib.hid ha
  have HB := Lib.hid hb
  have HS := Lib.hid hs'
  have HD := Lib.hid (show Elems w D a.da from d4)
  have HF := Lib.hid (show Elems w D' b.da from f4)
  clear ha hb hs hd d0 d4 hs' hd' f0 f4
  go_enter Tryd.func19, Tryd.ntmps19
  have z1 := ((Box.new w 24 #[.bool a.ch, .slice A a.sh.length ca, .slice D a.da.length cd]).alloc (.cells #[.bool b.ch, .slice A' b.sh.length ca', .slice D' b.da.length cd'] 24)).alloc (.cells #[.bool false, .slice none 0 0, .slice none 0 0] 24)
  have z2 := (Box.new (w.alloc (.cells #[.bool a.ch, .slice A a.sh.length ca, .slice D a.da.length cd] 24)) 24 #[.bool b.ch, .slice A' b.sh.length ca', .slice D' b.da.length cd']).alloc (.cells #[.bool false, .slice none 0 0, .slice none 0 0] 24)
  have z3 := Box.new ((w.alloc (.cells #[.bool a.ch, .slice A a.sh.length ca, .slice D a.da.length cd] 24)).alloc (.cells #[.bool b.ch, .slice A' b.sh.length ca', .slice D' b.da.length cd'] 24)) 24 #[.bool false, .slice none 0 0, .slice none 0 0]
  simp only [World.size_alloc] at z2 z3
  have hb0 := below_three w (.cells #[.bool a.ch, .slice A a.sh.length ca, .slice D a.da.length cd] 24) (.cells #[.bool b.ch, .slice A' b.sh.length ca', .slice D' b.da.length cd'] 24) (.cells #[.bool false, .slice none 0 0, .slice none 0 0] 24)
  obtain ⟨t0, t1, t2⟩ := z1.three
  obtain ⟨u0, u1, u2⟩ := z2.three
  go_wp2_with fail
  refine (flaws_any (HA.out.mono hb0) (HB.out.mono hb0)).mono ?_
  rintro e w1 ⟨rfl, hb1⟩
  have bA := z1.below hb1
  have bB := z2.below hb1
  have bR := z3.below hb1
  have hbw := hb0.trans (hb1.mono hb0.size)
  clear z1 z2 z3 hb0 hb1 t0 t1 t2 u0 u1 u2
  obtain ⟨q0, q1, q2⟩ := bR.three
  obtain ⟨t0, t1, t2⟩ := bA.three
  have qf := bR.frozen
  have hzR := bR.lt
  by_cases c1 : twoErr a b = 0
  case neg =>
    have HE := Lib.hid (show indexErr a b = twoErr a b by unfold indexErr; rw [if_pos c1])
    have HN := Lib.hid c1
    have e1 : (twoErr a b != 0) = true := by simp [c1]
    have e2 : (twoErr a b == 0) = false := by simp [c1]
    clear c1
    go_wp2_with fail
    refine bodyPost_ret (v := .tuple #[zeroArr, .int .i64 (twoErr a b)]) (by simp [results, Tryd.results19, go_sem, q0, q1, q2, hzR]) rfl ?_
    rw [HE.out]
    exact RTold.bad HN.out (by have := hbw.size; go_grown)
  by_cases c2 : a.sh.length = 1
  case neg =>
    have HE := Lib.hid (show indexErr a b = 3 by unfold indexErr; rw [if_neg (fun h => h c1), if_pos c2])
    have e3 : ((a.sh.length : Int) != 1) = true := by simp; omega
    rw [c1]
    clear c1 c2
    go_wp2_with fail
    refine bodyPost_ret (v := .tuple #[zeroArr, .int .i64 3]) (by simp [results, Tryd.results19, go_sem, q0, q1, q2, hzR]) rfl ?_
    rw [HE.out]
    exact RTold.bad (by decide) (by have := hbw.size; go_grown)
  obtain ⟨s, t, ho, ho'⟩ := twoErr_zero c1
  have HE := Lib.hid (show indexErr a b = 0 by unfold indexErr; rw [if_neg (fun h => h c1), if_neg (fun h => h c2)])
  have e3 : ((a.sh.length : Int) != 1) = false := by simp; omega
  have hsl : b.sh.length ≤ 4096 := by rw [ho'.sh, length_ints]; have := ho'.good.1; omega
  have hdl : b.da.length ≤ 4096 := by rw [ho'.len]; exact ho'.good.2.2
  have hal4 : a.da.length ≤ 4096 := by rw [ho.len]; exact ho.good.2.2
  rw [c1]
  clear c1 c2 ho ho'
  obtain ⟨u0, u1, u2⟩ := bB.three
  go_wp2_with fail
  refine (copied_ok _ b.sh _ (HS.out.mono hbw) hsl).mono ?_
  rintro e w2 ⟨gs, rfl, hgs, hrs, hb2⟩
  have bA2 := bA.below hb2
  have bB2 := bB.below hb2
  have bR2 := bR.below hb2
  have hbw2 := hbw.trans (hb2.mono hbw.size)
  have hgl := Box.lt hrs
  have hlA := bA2.lt
  have hlB := bB2.lt
  have hlR := bR2.lt
  have HRS := Lib.hid hrs
  clear bA bB bR hb2 hbw t0 t1 t2 u0 u1 u2 q0 q1 q2 qf hrs e3
  obtain ⟨X, hX⟩ : ∃ X, X = (index a b).da := ⟨_, rfl⟩
  have HX := Lib.hid hX
  have HXL := Lib.hid (show X.length = b.da.length by rw [hX]; simp [index])
  clear hX
  go_wp2_with fail
  go_loopw [8] (fun s8 wr => ∃ (k : Nat) (A4 : Option Addr) (c4 : Nat), k ≤ b.da.length ∧ s8 = .int .i64 k ∧ Box wr w2.heap.size 24 #[.bool false, .slice (some ⟨gs, 0, none⟩) b.sh.length b.sh.length, .slice A4 k c4] ∧ Owns wr (w2.heap.size + 1) (.slice A4 k c4) k (X.take k) ∧ Below w2.heap.size w2 wr) (fun s8 _ => b.da.length - (intOf s8).toNat)
  case atStart => exact ⟨0, none, 0, Nat.zero_le _, rfl, Box.new _ _ _, Owns.nil _ _, below_one _ _⟩
  case round =>
    obtain ⟨k, A4, c4, hk, rfl, h1, h2, hbl⟩ := hrel
    have hlo := h1.lt
    obtain ⟨u0, u1, u2⟩ := (bB2.below hbl).three
    rcases Nat.lt_or_ge k b.da.length with hlt | hge
    · obtain ⟨ad, x, hax, hx, hal, hcx⟩ := Elems.later HF.out (hbw2.trans (hbl.mono hbw2.size)) hlt
      subst hax
      have HXV := Lib.hid (index_at (a := a) hx)
      have HCX := Lib.hid hcx
      have HH1 := Lib.hid h1
      have HH2 := Lib.hid h2
      have HBL := Lib.hid hbl
      clear hx hcx h1 h2 hbl
      go_wp2_with fail
      clear u0 u1 u2
      obtain ⟨wo, rfl⟩ : ∃ wo : World, wo = wr := ⟨_, rfl⟩
      go_loopw [9] (fun s9 wi => ∃ (j : Nat), j ≤ a.da.length ∧ s9 = .int .i64 j ∧ (b.ch = a.ch → ∀ i, i < j → a.da[i]? ≠ some x) ∧ Below wo.heap.size wo wi) (fun s9 _ => a.da.length - (intOf s9).toNat)
      case atStart => exact ⟨0, Nat.zero_le _, rfl, (fun _ i h => absurd h (Nat.not_lt_zero _)), Below.refl _ _⟩
      case round =>
        obtain ⟨j, hj, rfl, hno, hww⟩ := hrel
        have hblw := HBL.out.trans (hww.mono HBL.out.size)
        have h1w := HH1.out.below hww
        have h2w := HH2.out.below hww
        have hcw := (hww.cell (p := ad.add k) (by rw [addr_block_add]; have := HBL.out.size; have := hbw2.size; omega)).trans HCX.out
        obtain ⟨t0, t1, t2⟩ := (bA2.below hblw).three
        obtain ⟨u0, u1, u2⟩ := (bB2.below hblw).three
        obtain ⟨g0, g1, g2⟩ := h1w.three
        have hnew := h2w.ne_box h1w (by decide)
        have hlw := h1w.lt
        have HNO := Lib.hid hno
        clear hno
        have cont : ∀ _ : Nat, (b.ch = a.ch → a.da[j]? ≠ some x) → (b.ch = a.ch → ∀ i, i < j + 1 → a.da[i]? ≠ some x) := fun _ h hc i hi => by
          rcases Nat.lt_or_ge i j with h1 | h1
          · exact HNO.out hc i h1
          · have e : i = j := (by omega)
            subst e
            exact h hc
        have HCONT := Lib.hid cont
        clear cont
        rcases Nat.lt_or_ge j a.da.length with hjl | hjg
        · obtain ⟨ay, y, hay, hy, hly, hcy⟩ := Elems.later HD.out (hbw2.trans (hblw.mono hbw2.size)) hjl
          subst hay
          have HY := Lib.hid hy
          clear hy
          by_cases hc : b.ch = a.ch
          · have c1 : (a.ch == b.ch) = true := by simp [hc]
            have HC := Lib.hid hc
            clear hc
            by_cases hyx : y = x
            · subst hyx
              have HXK := Lib.hid (show X[k]? = some (j : Int) by rw [HX.out, HXV.out, findN_hit HC.out HY.out (HNO.out HC.out)])
              have hdd : ∀ n2, Below wr.heap.size wr (wr.drewN n2) := fun n2 => below_draws _ _ _
              go_wp2_with fail
              first | go_quiet (fail) | go_region
              all_goals
                go_wp2_with (at_builtin; refine wpList_append_ints _ rfl rfl _ _ rfl (w2.heap.size + 1) k _ (X.take k) rfl ((h2w.drewN _).alloc _) (some ⟨_, 0, none⟩) 1 1 [(j : Int)] rfl (by simp) (elems_new _ (j : Int)) rfl (by omega) (by simp; omega) ?_; intro A5 c5 w5 hown5 hgrow5 hat5; have b5 := ((h1w.drewN _).alloc _).grown hgrow5 hnew; have hc5 := b5.three.2.2; have hf5 := b5.frozen 2)
                go_roundw
                case rel => exact ⟨k + 1, A5, c5, by omega, by go_num, b5.store 2 _, by rw [← take_at HXK.out]; exact hown5.setCell (p := ⟨w2.heap.size, 2, none⟩) (hown5.ne_box b5 (by decide)) _, (((hblw.trans (below_draws _ _ _)).alloc (by have := hblw.size; simpa using this) _).grown hgrow5 (by simp; have := hblw.size; omega) (fun _ e => by have := (h2w.lt e).1; omega)).setCell (p := ⟨w2.heap.size, 2, none⟩) (by simp) _⟩
                case measure => simp [intOf]; omega
            · have c2 : (y == x) = false := by simp [hyx]
              have c3 : (y != x) = true := by simp [hyx]
              have HYX := Lib.hid hyx
              clear hyx
              go_wp2_with fail
              first | go_quiet (fail) | go_region
              all_goals go_wp2_with fail
              go_roundw
              case rel => exact ⟨j + 1, by omega, by go_num, HCONT.out 0 (fun _ e => HYX.out (by rw [HY.out] at e; injection e)), hww.trans (below_draws _ _ _)⟩
              case measure => simp [intOf]; omega
          · have c1 : (a.ch == b.ch) = false := by simp; exact fun e => hc e.symm
            have HC := Lib.hid hc
            clear hc
            go_wp2_with fail
            first | go_quiet (fail) | go_region
            all_goals go_wp2_with fail
            go_roundw
            case rel => exact ⟨j + 1, by omega, by go_num, HCONT.out 0 (fun e => absurd e HC.out), hww.trans (below_draws _ _ _)⟩
            case measure => simp [intOf]; omega
        · have hje : j = a.da.length := by omega
          have HXK := Lib.hid (show X[k]? = some (j : Int) by rw [HX.out, HXV.out, findN_miss (fun hc i hi => HNO.out hc i (by omega)), hje])
          have c9 : decide ((j : Int) < (a.da.length : Int)) = false := by simp; omega
          have c8 : decide (j < a.da.length) = false := by simp; omega
          have c7 : ¬ j < a.da.length := by omega
          clear hje
          go_wp2_with fail
          first | go_quiet (fail) | go_region
          all_goals
            go_wp2_with (at_builtin; refine wpList_append_ints _ rfl rfl _ _ rfl (w2.heap.size + 1) k _ (X.take k) rfl ((h2w.drewN _).alloc _) (some ⟨_, 0, none⟩) 1 1 [(j : Int)] rfl (by simp) (elems_new _ (j : Int)) rfl (by omega) (by simp; omega) ?_; intro A5 c5 w5 hown5 hgrow5 hat5; have b5 := ((h1w.drewN _).alloc _).grown hgrow5 hnew; have hc5 := b5.three.2.2; have hf5 := b5.frozen 2)
            go_roundw
            case rel => exact ⟨k + 1, A5, c5, by omega, by go_num, b5.store 2 _, by rw [← take_at HXK.out]; exact hown5.setCell (p := ⟨w2.heap.size, 2, none⟩) (hown5.ne_box b5 (by decide)) _, (((hblw.trans (below_draws _ _ _)).alloc (by have := hblw.size; simpa using this) _).grown hgrow5 (by simp; have := hblw.size; omega) (fun _ e => by have := (h2w.lt e).1; omega)).setCell (p := ⟨w2.heap.size, 2, none⟩) (by simp) _⟩
            case measure => simp [intOf]; omega
    · have hke : k = b.da.length := by omega
      subst hke
      rw [List.take_of_length_le (by rw [HXL.out]; exact Nat.le_refl _)] at h2
      obtain ⟨g0, g1, g2⟩ := h1.three
      have b3 := bR2.below hbl
      have rf := b3.frozen
      obtain ⟨e0, e1, e2⟩ := b3.three
      have rl := b3.lt
      go_wp2_with fail
      have hgg := grownBy_three wr (w.heap.size + 1 + 1) (.bool false) (.slice (some ⟨gs, 0, none⟩) b.sh.length b.sh.length) (.slice A4 b.da.length c4)
      have z := ((b3.store 0 (.bool false)).store 1 (.slice (some ⟨gs, 0, none⟩) b.sh.length b.sh.length)).store 2 (.slice A4 b.da.length c4)
      simp only [List.setIfInBounds_toArray, List.set_cons_zero, List.set_cons_succ] at z
      obtain ⟨z0, z1, z2⟩ := z.three
      have zl := z.lt
      refine bodyPost_ret (v := .tuple #[.agg #[.bool false, .slice (some ⟨gs, 0, none⟩) b.sh.length b.sh.length, .slice A4 b.da.length c4], .int .i64 0]) (by simp [results, Tryd.results19, go_sem, z0, z1, z2, zl]) rfl ?_
      have hgn : w.heap.size + 1 + 1 ≠ gs := by omega
      have iS : IsInts _ (.slice (some ⟨gs, 0, none⟩) b.sh.length b.sh.length) b.sh := (Box.grown (Box.below HRS.out hbl) hgg (by intro e; injection e with e; exact hgn e) : Row _ gs b.sh).isInts rfl (by omega)
      have iD := (h2.kept hgg (.inr (h2.ne_low (by omega)))).isInts
      have hbx := hbw2.trans (hbl.mono hbw2.size)
      exact RTold.ok HE.out ⟨_, _, rfl, iS, by rw [← HX.out]; exact iD⟩ (hbx.grown hgg hbx.size (fun j e => by cases e; omega))

end Go.Proofs.YtfecokkgdojcdaaDoor
