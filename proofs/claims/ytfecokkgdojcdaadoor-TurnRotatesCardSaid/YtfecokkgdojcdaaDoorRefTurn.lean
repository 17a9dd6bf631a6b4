/- The walks of the references' Axis and Reversed. Conditions: none. -/
import Derived.Test.YtfecokkgdojcdaaDoorRefFlaw
import Derived.Test.YtfecokkgdojcdaaDoorRefAt
import Derived.Test.YtfecokkgdojcdaaDoorTail
import Derived.Test.YtfecokkgdojcdaaDoorHelp
import Derived.Test.YtfecokkgdojcdaaDoorFunnel
import Derived.RegionTactic
import Derived.BigQuiet
import Derived.Deep.RegionLaw
namespace Go.Proofs.YtfecokkgdojcdaaDoor.P
/-- A cell of an array pulled along an axis, by its place. -/
theorem pull_at {a : Arr} {t : List Nat} (h : Ok a t) {kk : Nat} {f : Nat → Nat} {i : Nat} (hi : i < prod t) : (pull kk f a).da[i]? = some (a.da.getD (place t ((coords t i).set kk (f ((coords t i).getD kk 0)))) 0) := by
  unfold pull tab
  rw [h.nsh_eq]
  simp only [List.getElem?_map, List.getElem?_range hi, Option.map_some]
  unfold Arr.cell
  rw [h.nsh_eq]
end Go.Proofs.YtfecokkgdojcdaaDoor.P
namespace Go.Proofs.YtfecokkgdojcdaaDoor
open Go Go.RowKit Go.Proofs.YtfecokkgdojcdaaDoor.P

set_option maxHeartbeats 1000000 in
theorem axis_any {v : Value} {a : Arr} {w : World} {axis : Int} (ha : IsArr w v a) :
    Calls Tryd.prog 57 #[.int .i64 axis, v] w fun e w' => e = .returned (.int .i64 (axErr axis a)) ∧ Below w.heap.size w w' := by
  obtain ⟨A, ca, D, cd, rfl, hs, hd⟩ := ha.open_
  have HA := Lib.hid ha
  clear ha hs hd
  go_enter Tryd.func57, Tryd.ntmps57
  have z1 := Box.new w 24 #[.bool a.ch, .slice A a.sh.length ca, .slice D a.da.length cd]
  have hb0 := below_one w (.cells #[.bool a.ch, .slice A a.sh.length ca, .slice D a.da.length cd] 24)
  obtain ⟨t0, t1, t2⟩ := z1.three
  go_wp2_with fail
  refine (flaw_any (HA.out.mono hb0)).mono ?_
  rintro e w1 ⟨rfl, hb1⟩
  have b1 := z1.below hb1
  have hbw := hb0.trans (hb1.mono hb0.size)
  clear z1 hb0 hb1 t0 t1 t2
  obtain ⟨t0, t1, t2⟩ := b1.three
  by_cases c : arrErr a = 0
  · have HE0 := Lib.hid (show axErr axis a = if axis < 0 ∨ (a.sh.length : Int) ≤ axis then 5 else 0 by unfold axErr; rw [if_neg (fun h => h c)])
    rw [c]
    clear c
    rcases Int.lt_or_le axis 0 with h0 | h0
    · have HE := Lib.hid (show axErr axis a = 5 by rw [HE0.out, if_pos (.inl h0)])
      have c1 : decide (axis < 0) = true := by simpa using h0
      go_wp2_with fail
      go_ret
      exact ⟨ret_int HE.out.symm, hbw⟩
    · have c1 : decide (axis < 0) = false := by simpa using h0
      rcases Int.lt_or_le axis a.sh.length with h1 | h1
      · have HE := Lib.hid (show axErr axis a = 0 by rw [HE0.out, if_neg (by omega)])
        have c2 : decide ((a.sh.length : Int) ≤ axis) = false := by simpa using h1
        go_wp2_with fail
        go_ret
        exact ⟨ret_int HE.out.symm, hbw⟩
      · have HE := Lib.hid (show axErr axis a = 5 by rw [HE0.out, if_pos (.inr h1)])
        have c2 : decide ((a.sh.length : Int) ≤ axis) = true := by simpa using h1
        go_wp2_with fail
        go_ret
        exact ⟨ret_int HE.out.symm, hbw⟩
  · have HE := Lib.hid (show axErr axis a = arrErr a by unfold axErr; rw [if_pos c])
    have e1 : (arrErr a == 0) = false := by simp [c]
    clear c
    go_wp2_with fail
    go_ret
    exact ⟨ret_int HE.out.symm, hbw⟩

set_option maxRecDepth 100000 in
set_option maxHeartbeats 4000000 in
theorem reversed_told {v : Value} {a : Arr} {w : World} {axis : Int} (ha : IsArr w v a) :
    Calls Tryd.prog 21 #[.int .i64 axis, v] w (RTold (rev axis.toNat a) (axErr axis a) w) := by
  obtain ⟨A, ca, D, cd, rfl, hs, hd⟩ := ha.open_
  obtain ⟨D0, cd0, eD, d1, d2, d3, d0, d4⟩ := id hd
  cases eD
  have HA := Lib.hid ha
  have HS := Lib.hid hs
  have HD := Lib.hid (show Elems w D a.da from d4)
  clear ha hs hd d0 d4
  go_enter Tryd.func21, Tryd.ntmps21
  have z1 := (Box.new w 24 #[.bool a.ch, .slice A a.sh.length ca, .slice D a.da.length cd]).alloc (.cells #[.bool false, .slice none 0 0, .slice none 0 0] 24)
  have z3 := Box.new (w.alloc (.cells #[.bool a.ch, .slice A a.sh.length ca, .slice D a.da.length cd] 24)) 24 #[.bool false, .slice none 0 0, .slice none 0 0]
  simp only [World.size_alloc] at z3
  have hb0 := below_two w (.cells #[.bool a.ch, .slice A a.sh.length ca, .slice D a.da.length cd] 24) (.cells #[.bool false, .slice none 0 0, .slice none 0 0] 24)
  obtain ⟨t0, t1, t2⟩ := z1.three
  go_wp2_with fail
  refine (axis_any (HA.out.mono hb0)).mono ?_
  rintro e w1 ⟨rfl, hb1⟩
  have bA := z1.below hb1
  have bR := z3.below hb1
  have hbw := hb0.trans (hb1.mono hb0.size)
  clear z1 z3 hb0 hb1 t0 t1 t2
  obtain ⟨q0, q1, q2⟩ := bR.three
  have qf := bR.frozen
  have hzR := bR.lt
  by_cases c1 : axErr axis a = 0
  case neg =>
    have HE := Lib.hid c1
    have e1 : (axErr axis a != 0) = true := by simp [c1]
    clear c1
    go_wp2_with fail
    refine bodyPost_ret (v := .tuple #[zeroArr, .int .i64 (axErr axis a)]) (by simp [results, Tryd.results21, go_sem, q0, q1, q2, hzR]) rfl ?_
    exact RTold.bad HE.out (by have := hbw.size; go_grown)
  have HE := Lib.hid c1
  obtain ⟨t, kk, ht, rfl, hkk⟩ := axErr_zero c1
  have HKK := Lib.hid hkk
  clear hkk
  have HT := Lib.hid ht
  have hal : a.sh.length = t.length := by rw [ht.sh, length_ints]
  have hsl : a.sh.length ≤ 4096 := by have := ht.good.1; omega
  have HAL := Lib.hid hal
  have hdl : a.da.length ≤ 4096 := by rw [ht.len]; exact ht.good.2.2
  rw [c1]
  clear c1 ht hal q0 q1 q2 qf
  obtain ⟨wP, hwP⟩ : ∃ wP, wP = w1 := ⟨_, rfl⟩
  subst hwP
  obtain ⟨t0, t1, t2⟩ := bA.three
  have hlA := bA.lt
  have hlR := bR.lt
  have HSW1 := Lib.hid (HS.out.mono hbw)
  obtain ⟨X, hX⟩ : ∃ X, X = (rev kk a).da := ⟨_, rfl⟩
  have HX := Lib.hid hX
  have HXL := Lib.hid (show X.length = a.da.length by rw [hX]; exact (by rw [(rev_ok HT.out).len, HT.out.len]))
  clear hX
  go_wp2_with fail
  refine wp_region_open (fun i v lo hi w' => match i with
    | 0 => v = .pointer (some ⟨w.heap.size, 0, none⟩)
    | 1 => v = .bool a.ch
    | 2 => v = .pointer (some ⟨w.heap.size, 1, none⟩)
    | 3 => v = .slice A a.sh.length ca
    | 4 => ∃ m, v = .slice (some ⟨m, 0, none⟩) a.sh.length a.sh.length ∧ Row w' m (a.sh) ∧ lo ≤ m ∧ m < hi ∧ wP.heap.size ≤ lo
    | 5 => ∃ ms, v = .agg #[.bool a.ch, .slice (some ⟨ms, 0, none⟩) a.sh.length a.sh.length, .slice none 0 0] ∧ Row w' ms (a.sh) ∧ wP.heap.size ≤ ms
    | 6 => ∃ g, v = .pointer (some ⟨g, 0, none⟩) ∧ Box w' g 24 #[.bool false, .slice none 0 0, .slice none 0 0] ∧ wP.heap.size ≤ g
    | _ => True) (by kernel_rfl) (by kernel_rfl) (by kernel_rfl) ?hV ?step ?last
  case hV =>
    intro i v lo hi w1 w2 h hb
    match i, h with
    | 0, h => exact h
    | 1, h => exact h
    | 2, h => exact h
    | 3, h => exact h
    | 4, ⟨m, e, ho, hm, hl, hz⟩ => exact ⟨m, e, Box.below ho hb, hm, hl, hz⟩
    | 5, ⟨ms, e, hrs, hms⟩ => exact ⟨ms, e, Box.below hrs hb, hms⟩
    | 6, ⟨g, e, hx, hz⟩ => exact ⟨g, e, hx.below hb, hz⟩
    | i + 7, _ => trivial
  case step =>
    simp only [putAll, Act.put, List.setIfInBounds_toArray, List.set_cons_zero, List.set_cons_succ, Nat.reduceAdd, Nat.zero_add]
    intro i o ho hi uu lo up wr hbr hd hj K hK
    obtain ⟨hcw, hfw⟩ := bcell hbr
    match i, ho with
    | 0, ho =>
      simp only [List.getElem?_cons_zero, Option.some.injEq] at ho
      subst ho
      first | (simp [Region.binds] at hd; simp only [hd] at hK) | skip
      refine wpOp_step rfl fun K' hK' => ?_
      go_simp
      exact hK' _ _ (hK _ _ (Below.refl _ _) rfl)
    | 1, ho =>
      simp only [List.getElem?_cons_succ, List.getElem?_cons_zero, Option.some.injEq] at ho
      subst ho
      first | (simp [Region.binds] at hd; simp only [hd] at hK) | skip
      refine wpOp_step rfl fun K' hK' => ?_
      go_simp
      exact hK' _ _ (hK _ _ (Below.refl _ _) rfl)
    | 2, ho =>
      simp only [List.getElem?_cons_succ, List.getElem?_cons_zero, Option.some.injEq] at ho
      subst ho
      first | (simp [Region.binds] at hd; simp only [hd] at hK) | skip
      refine wpOp_step rfl fun K' hK' => ?_
      go_simp
      exact hK' _ _ (hK _ _ (Below.refl _ _) rfl)
    | 3, ho =>
      simp only [List.getElem?_cons_succ, List.getElem?_cons_zero, Option.some.injEq] at ho
      subst ho
      first | (simp [Region.binds] at hd; simp only [hd] at hK) | skip
      refine wpOp_step rfl fun K' hK' => ?_
      go_simp
      exact hK' _ _ (hK _ _ (Below.refl _ _) rfl)
    | 4, ho =>
      simp only [List.getElem?_cons_succ, List.getElem?_cons_zero, Option.some.injEq] at ho
      subst ho
      first | (simp [Region.binds] at hd; simp only [hd] at hK) | skip
      refine wpOp_step rfl fun K' hK' => ?_
      go_simp
      refine (copied_ok _ (a.sh) _ (HSW1.out.mono (((Below.refl wP.heap.size wP)).trans (hbr.mono (Nat.le_refl _)))) hsl).mono ?_
      rintro e w1 ⟨g1, rfl, hg1, hr1, hb1⟩
      have hz := hbr.size
      try simp only [World.size_alloc] at hz
      exact hK' _ _ (hK _ _ hb1 ⟨g1, rfl, hr1, hg1, Box.lt hr1, by omega⟩)
    | 5, ho =>
      simp only [List.getElem?_cons_succ, List.getElem?_cons_zero, Option.some.injEq] at ho
      subst ho
      have h1 : uu 1 = .bool a.ch := hd ⟨1, .data⟩ (by simp) rfl
      obtain ⟨ms, es, os, mds, ls, zs⟩ := hd ⟨4, .data⟩ (by simp) rfl
      dsimp only at os mds ls zs
      simp only [h1, es] at hK
      refine wpOp_step rfl fun K' hK' => ?_
      go_simp
      exact hK' _ _ (hK _ _ (Below.refl _ _) ⟨ms, rfl, os, by omega⟩)
    | 6, ho =>
      simp only [List.getElem?_cons_succ, List.getElem?_cons_zero, Option.some.injEq] at ho
      subst ho
      first | (simp [Region.binds] at hd; simp only [hd] at hK) | skip
      have hz := hbr.size
      try simp only [World.size_alloc] at hz
      refine wpOp_step rfl fun K' hK' => ?_
      go_simp
      exact hK' _ _ (hK _ _ (below_one _ _) ⟨_, rfl, Box.new _ _ _, by omega⟩)
    | i + 7, ho => simp at hi; omega
  case last =>
    simp only [putAll, Act.put, List.setIfInBounds_toArray, List.set_cons_zero, List.set_cons_succ, Nat.reduceAdd, Nat.zero_add]
    intro uu wr lo up hbr hv hj
    obtain ⟨ms, e9, r4, m4⟩ := hv 5 (by simp)
    obtain ⟨g, e10, bg, hg⟩ := hv 6 (by simp)
    obtain ⟨g0, g1, g2⟩ := bg.three
    have gf := bg.frozen
    simp only [e9, e10]
    clear hv hj e9 e10
    refine wpOp_step rfl fun K' hK' => ?_
    go_simp
    refine hK' _ _ ?_
    have hbw := ((Below.refl wP.heap.size wP)).trans (hbr.mono (Nat.le_refl _))
    have hgg := grownBy_three wr g (.bool a.ch) (.slice (some ⟨ms, 0, none⟩) a.sh.length a.sh.length) (.slice none 0 0)
    have i1 := ((bg.store 0 (.bool a.ch)).store 1 (.slice (some ⟨ms, 0, none⟩) a.sh.length a.sh.length)).store 2 (.slice none 0 0)
    simp only [List.setIfInBounds_toArray, List.set_cons_zero, List.set_cons_succ] at i1
    have hgms : g ≠ ms := Box.apart bg r4 (by decide)
    have i3 : Row _ ms _ := Box.grown r4 hgg (by intro e; injection e with e; exact hgms e)
    have iw := hbw.grown hgg hbw.size (fun j e => by cases e; omega)
    have hgl : g < (((wr.setCell ⟨g, 0, none⟩ (.bool a.ch)).setCell ⟨g, 1, none⟩ (.slice (some ⟨ms, 0, none⟩) a.sh.length a.sh.length)).setCell ⟨g, 2, none⟩ (.slice none 0 0)).heap.size := i1.lt
    clear hbr hgg r4 bg g0 g1 g2 gf hbw hK' 
    generalize (((wr.setCell ⟨g, 0, none⟩ (.bool a.ch)).setCell ⟨g, 1, none⟩ (.slice (some ⟨ms, 0, none⟩) a.sh.length a.sh.length)).setCell ⟨g, 2, none⟩ (.slice none 0 0)) = W2 at i3 i1 iw hgl ⊢
    have hgP : wP.heap.size ≤ g := hg
    have hmP := m4
    have hmW := Box.lt i3
    have hW12 := iw.size
    have HI1 := Lib.hid i1
    have HI3 := Lib.hid i3
    have HIW := Lib.hid iw
    have HGM := Lib.hid hgms
    clear i1 i3 iw hgms hg m4 t0 t1 t2
    obtain ⟨t0, t1, t2⟩ := (bA.below HIW.out).three
    go_wp2_with fail
    clear t0 t1 t2
    go_loopw [8] (fun sI wr => ∃ (k : Nat) (A4 : Option Addr) (c4 : Nat), k ≤ a.da.length ∧ sI = .int .i64 k ∧ Box wr g 24 #[.bool a.ch, .slice (some ⟨ms, 0, none⟩) a.sh.length a.sh.length, .slice A4 k c4] ∧ Owns wr W2.heap.size (.slice A4 k c4) k (X.take k) ∧ Row wr ms a.sh ∧ Below wP.heap.size wP wr ∧ W2.heap.size ≤ wr.heap.size) (fun sI _ => a.da.length - (intOf sI).toNat)
    case atStart => exact ⟨0, none, 0, Nat.zero_le _, rfl, HI1.out, Owns.nil _ _, HI3.out, HIW.out, Nat.le_refl _⟩
    case round =>
      obtain ⟨k, A4, c4, hk, rfl, h1, h2, h3, hbl, hws⟩ := hrel
      have hlo := h1.lt
      have hlm := Box.lt h3
      obtain ⟨t0, t1, t2⟩ := (bA.below hbl).three
      have lA2 := (bA.below hbl).lt
      rcases Nat.lt_or_ge k a.da.length with hlt | hge
      · have hgm2 := HGM.out
        have HPT := Lib.hid (show k < prod t by rw [← HT.out.len]; exact hlt)
        have hz := hbl.size
        have HH1 := Lib.hid h1
        have HH2 := Lib.hid h2
        have HH3 := Lib.hid h3
        have HBL := Lib.hid hbl
        have hbwl := hbw.trans (hbl.mono hbw.size)
        have HSL := Lib.hid (HS.out.mono hbwl)
        clear h1 h2 h3 hbl
        go_wp2_with fail
        refine (coords_ok _ t k _ ((HSL.out).eq' HT.out.sh) HT.out.good.1 HT.out.good.2.1 HPT.out (by omega)).mono ?_
        rintro e w5 ⟨g5, rfl, hg5, hr5, hb5⟩
        have hbl5 := HBL.out.trans (hb5.mono HBL.out.size)
        have h15 := HH1.out.below hb5
        have h25 := HH2.out.below hb5
        have h35 : Row w5 ms a.sh := Box.below HH3.out hb5
        have hl5 := Box.lt hr5
        have hs5 := hb5.size
        clear t0 t1 t2 lA2
        obtain ⟨t0, t1, t2⟩ := (bA.below hbl5).three
        have lA2 := (bA.below hbl5).lt
        have HSL5 := Lib.hid (HS.out.mono (hbw.trans (hbl5.mono hbw.size)))
        have hkl : kk < t.length := HKK.out
        have hcl := coords_lt HPT.out hkl
        have hc1 := hr5.at_ (show (ints (coords t k))[kk]? = some (((coords t k).getD kk 0 : Nat) : Int) from ints_get (by rw [length_coords]; exact hkl))
        obtain ⟨as_, y, rfl, hy, has, hcy⟩ := Elems.later (IsInts.elems HSL5.out) (Below.refl _ _) (k := kk) (by rw [HAL.out]; exact hkl)
        have hyT : y = ((t.getD kk 0 : Nat) : Int) := by rw [HT.out.sh] at hy; exact (ints_getD hy).1
        subst hyT
        have hka : kk < a.sh.length := by rw [HAL.out]; exact hkl
        obtain ⟨C, hC⟩ : ∃ C, C = (coords t k).getD kk 0 := ⟨_, rfl⟩
        obtain ⟨M, hM⟩ : ∃ M, M = t.getD kk 0 := ⟨_, rfl⟩
        have hM4 : M ≤ 4096 := by rw [hM, List.getD_eq_getElem?_getD, List.getElem?_eq_getElem hkl]; exact HT.out.good.2.1 _ (List.getElem_mem _)
        rw [← hC] at hc1 hcl
        rw [← hM] at hcy hcl
        have hf5 := Box.frozen hr5 kk
        have hst := hr5.store kk ((M - 1 - C : Nat) : Int)
        rw [ints_set] at hst
        have HST := Lib.hid hst
        have HC := Lib.hid hC
        have HMM := Lib.hid hM
        have e9 : ((M - 1 - C : Nat) : Int) = (M : Int) - 1 - (C : Int) := by omega
        have hk6 : kk < 6 := by have := HT.out.good.1; omega
        rw [e9] at HST
        clear hy hst hC hM e9
        obtain ⟨wo5, rfl⟩ : ∃ W : World, W = w5 := ⟨_, rfl⟩
        go_wp2_with fail
        go_region
        obtain ⟨wo, hwo⟩ : ∃ W, W = (wo5.setCell ⟨g5, kk, none⟩ (.int .i64 ((M : Int) - 1 - (C : Int)))).drew := ⟨_, rfl⟩
        rw [← hwo]
        obtain ⟨ix, hix⟩ : ∃ ix, ix = (coords t k).set kk (M - 1 - C) := ⟨_, rfl⟩
        have hrx : Row wo g5 (ints ix) := by rw [hwo, hix]; exact HST.out
        have h1 : Box wo g 24 #[.bool a.ch, .slice (some ⟨ms, 0, none⟩) a.sh.length a.sh.length, .slice A4 k c4] := by rw [hwo]; exact h15.far (p := ⟨g5, kk, none⟩) (by simp; omega) _
        have h2 : Owns wo W2.heap.size (.slice A4 k c4) k (X.take k) := by rw [hwo]; exact h25.setCell (p := ⟨g5, kk, none⟩) (fun e => by have := (HH2.out.lt e).2; simp at this; omega) _
        have h3 : Row wo ms a.sh := by rw [hwo]; exact Box.far h35 (p := ⟨g5, kk, none⟩) (by simp; omega) _
        have hbl : Below wP.heap.size wP wo := by rw [hwo]; exact (hbl5.setCell (p := ⟨g5, kk, none⟩) (by simp; omega) _).drew
        have hwz : W2.heap.size ≤ wo.heap.size := by rw [hwo]; simp; omega
        have HAT := Lib.hid (hrx.isInts (n := t.length) (by rw [length_ints, hix, List.length_set, length_coords]) (by have := HT.out.good.1; omega))
        have hinside : Inside t ix := by
          rw [hix, inside_iff]
          refine ⟨by rw [List.length_set, length_coords], fun j hj => ?_⟩
          rw [List.getD_eq_getElem?_getD, List.getElem?_set]
          by_cases e : kk = j
          · subst e
            rw [if_pos rfl, if_pos (by rw [length_coords]; exact hj), ← HMM.out]
            simp only [Option.getD_some]; omega
          · rw [if_neg e, ← List.getD_eq_getElem?_getD]
            exact coords_lt HPT.out hj
        have hix' : ix = (coords t k).set kk (t.getD kk 0 - 1 - (coords t k).getD kk 0) := by rw [hix, HMM.out, HC.out]
        clear hrx h15 h25 h35 hr5 hc1 hcy hf5 HST hwo hbl5 hs5 hb5 hg5 hl5 hM4 hcl has
        have HIX := Lib.hid hinside
        obtain ⟨P, hP⟩ : ∃ P, P = place t ix := ⟨_, rfl⟩
        have HPP := Lib.hid hP
        have hPl : P < a.da.length := by rw [hP, HT.out.len]; exact place_lt hinside
        have hbwo := hbw.trans (hbl.mono hbw.size)
        obtain ⟨ad, x, hax, hx, halx, hcx⟩ := Elems.later HD.out hbwo hPl
        subst hax
        have HXK := Lib.hid (show X[k]? = some x from by
          rw [HX.out]
          unfold rev
          rw [HT.out.nsh_eq, pull_at HT.out HPT.out, ← hix', List.getD_eq_getElem?_getD, ← hP, hx]; rfl)
        have HCX := Lib.hid (show ∀ wx, Below wo.heap.size wo wx → wx.cell? (ad.add P) = some (.int .i64 x) from fun wx h => (h.cell (p := ad.add P) (by rw [addr_block_add]; have := hbwo.size; omega)).trans hcx)
        have HSW := Lib.hid ((HS.out.mono hbwo).eq' HT.out.sh)
        have hz2 := hbl.size
        obtain ⟨g0, g1, g2⟩ := h1.three
        have hlo2 := h1.lt
        clear t0 t1 t2 lA2
        obtain ⟨t0, t1, t2⟩ := (bA.below hbl).three
        have lA2 := (bA.below hbl).lt
        clear hx hcx hP hinside
        go_wp2_with fail
        refine wp_region_gate 11 2 (fun i v lo hi w' => match i with
            | 0 => v = .pointer (some ⟨g, 2, none⟩)
            | 1 => v = .slice A4 k c4
            | 2 => v = .pointer (some ⟨w.heap.size, 2, none⟩)
            | 3 => v = .slice (some ad) a.da.length cd
            | 4 => v = .pointer (some ⟨w.heap.size, 1, none⟩)
            | 5 => v = .slice (some as_) a.sh.length ca
            | 6 => v = .slice (some ⟨g5, 0, none⟩) t.length t.length
            | 7 => v = .int .i64 (P : Nat)
            | 8 => v = .pointer (some (ad.add P))
            | 9 => v = .int .i64 x
            | 10 => ∃ m, v = .slice (some ⟨m, 0, none⟩) 1 1 ∧ Elems w' (some ⟨m, 0, none⟩) [x]
            | _ => True) (by kernel_rfl) (by kernel_rfl) (by kernel_rfl) ?hV ?step ?last
        case hV =>
          intro i v lo hi w1 w2 h hb
          match i, h with
          | 0, h => exact h
          | 1, h => exact h
          | 2, h => exact h
          | 3, h => exact h
          | 4, h => exact h
          | 5, h => exact h
          | 6, h => exact h
          | 7, h => exact h
          | 8, h => exact h
          | 9, h => exact h
          | 10, ⟨m, e, hel⟩ => exact ⟨m, e, hel.mono hb⟩
          | i + 11, _ => trivial
        case step =>
          simp only [List.take_succ_cons, List.take_zero, putAll, Act.put, List.setIfInBounds_toArray, List.set_cons_zero, List.set_cons_succ, Nat.reduceAdd, Nat.zero_add]
          intro i o ho hi u lo up wr hbr hd hj K hK
          obtain ⟨hcw, hfw⟩ := bcell hbr
          match i, ho with
          | 0, ho =>
            simp only [List.getElem?_cons_zero, Option.some.injEq] at ho
            subst ho
            simp only [Act.put, List.setIfInBounds_toArray, List.set_cons_zero, List.set_cons_succ] at hK
            first | (simp [Region.binds] at hd; simp only [hd] at hK) | skip
            refine wpOp_step rfl fun K' hK' => ?_
            go_simp
            exact hK' _ _ (hK _ _ (Below.refl _ _) rfl)
          | 1, ho =>
            simp only [List.getElem?_cons_succ, List.getElem?_cons_zero, Option.some.injEq] at ho
            subst ho
            simp only [Act.put, List.setIfInBounds_toArray, List.set_cons_zero, List.set_cons_succ] at hK
            first | (simp [Region.binds] at hd; simp only [hd] at hK) | skip
            refine wpOp_step rfl fun K' hK' => ?_
            go_simp
            exact hK' _ _ (hK _ _ (Below.refl _ _) rfl)
          | 2, ho =>
            simp only [List.getElem?_cons_succ, List.getElem?_cons_zero, Option.some.injEq] at ho
            subst ho
            simp only [Act.put, List.setIfInBounds_toArray, List.set_cons_zero, List.set_cons_succ] at hK
            first | (simp [Region.binds] at hd; simp only [hd] at hK) | skip
            refine wpOp_step rfl fun K' hK' => ?_
            go_simp
            exact hK' _ _ (hK _ _ (Below.refl _ _) rfl)
          | 3, ho =>
            simp only [List.getElem?_cons_succ, List.getElem?_cons_zero, Option.some.injEq] at ho
            subst ho
            simp only [Act.put, List.setIfInBounds_toArray, List.set_cons_zero, List.set_cons_succ] at hK
            first | (simp [Region.binds] at hd; simp only [hd] at hK) | skip
            refine wpOp_step rfl fun K' hK' => ?_
            go_simp
            exact hK' _ _ (hK _ _ (Below.refl _ _) rfl)
          | 4, ho =>
            simp only [List.getElem?_cons_succ, List.getElem?_cons_zero, Option.some.injEq] at ho
            subst ho
            simp only [Act.put, List.setIfInBounds_toArray, List.set_cons_zero, List.set_cons_succ] at hK
            first | (simp [Region.binds] at hd; simp only [hd] at hK) | skip
            refine wpOp_step rfl fun K' hK' => ?_
            go_simp
            exact hK' _ _ (hK _ _ (Below.refl _ _) rfl)
          | 5, ho =>
            simp only [List.getElem?_cons_succ, List.getElem?_cons_zero, Option.some.injEq] at ho
            subst ho
            simp only [Act.put, List.setIfInBounds_toArray, List.set_cons_zero, List.set_cons_succ] at hK
            first | (simp [Region.binds] at hd; simp only [hd] at hK) | skip
            refine wpOp_step rfl fun K' hK' => ?_
            go_simp
            exact hK' _ _ (hK _ _ (Below.refl _ _) rfl)
          | 6, ho =>
            simp only [List.getElem?_cons_succ, List.getElem?_cons_zero, Option.some.injEq] at ho
            subst ho
            simp only [Act.put, List.setIfInBounds_toArray, List.set_cons_zero, List.set_cons_succ] at hK
            first | (simp [Region.binds] at hd; simp only [hd] at hK) | skip
            refine wpOp_step rfl fun K' hK' => ?_
            go_simp
            exact hK' _ _ (hK _ _ (Below.refl _ _) rfl)
          | 7, ho =>
            simp only [List.getElem?_cons_succ, List.getElem?_cons_zero, Option.some.injEq] at ho
            subst ho
            simp only [Act.put, List.setIfInBounds_toArray, List.set_cons_zero, List.set_cons_succ] at hK
            have h5 : u 5 = .slice (some as_) a.sh.length ca := hd ⟨5, .data⟩ (by simp) rfl
            have h6 : u 6 = .slice (some ⟨g5, 0, none⟩) t.length t.length := hd ⟨6, .data⟩ (by simp) rfl
            simp only [h5, h6] at hK
            refine wpOp_step rfl fun K' hK' => ?_
            go_simp
            refine (where_ok _ _ t ix _ (HSW.out.mono hbr) (HAT.out.mono hbr) HIX.out HT.out.good.1 HT.out.good.2.2).mono ?_
            rintro e w6 ⟨rfl, rfl⟩
            rw [← HPP.out]
            exact hK' _ _ (hK _ _ (Below.refl _ _) rfl)
          | 8, ho =>
            simp only [List.getElem?_cons_succ, List.getElem?_cons_zero, Option.some.injEq] at ho
            subst ho
            simp only [Act.put, List.setIfInBounds_toArray, List.set_cons_zero, List.set_cons_succ] at hK
            first | (simp [Region.binds] at hd; simp only [hd] at hK) | skip
            refine wpOp_step rfl fun K' hK' => ?_
            go_simp
            exact hK' _ _ (hK _ _ (Below.refl _ _) rfl)
          | 9, ho =>
            simp only [List.getElem?_cons_succ, List.getElem?_cons_zero, Option.some.injEq] at ho
            subst ho
            simp only [Act.put, List.setIfInBounds_toArray, List.set_cons_zero, List.set_cons_succ] at hK
            have h8 : u 8 = .pointer (some (ad.add P)) := hd ⟨8, .data⟩ (by simp) rfl
            have hcr := HCX.out wr hbr
            simp only [h8] at hK
            refine wpOp_step rfl fun K' hK' => ?_
            go_simp
            exact hK' _ _ (hK _ _ (Below.refl _ _) rfl)
          | 10, ho =>
            simp only [List.getElem?_cons_succ, List.getElem?_cons_zero, Option.some.injEq] at ho
            subst ho
            simp only [Act.put, List.setIfInBounds_toArray, List.set_cons_zero, List.set_cons_succ] at hK
            have hX : u 9 = .int .i64 (x) := hd ⟨9, .data⟩ (by simp) rfl
            simp only [hX] at hK
            refine wpOp_step rfl fun K' hK' => ?_
            go_simp
            exact hK' _ _ (hK _ _ (below_one _ _) ⟨_, rfl, elems_new _ _⟩)
          | i + 11, ho => omega
        case last =>
          simp only [List.take_succ_cons, List.take_zero, putAll, Act.put, List.setIfInBounds_toArray, List.set_cons_zero, List.set_cons_succ, Nat.reduceAdd, Nat.zero_add]
          intro u wr lo up hbr hv hj
          obtain ⟨m0, eb, hel⟩ := hv 10 (by omega)
          have e1 : u 1 = .slice A4 k c4 := hv 1 (by omega)
          have hzr := hbr.size
          have hne := (h2.below hbr).ne_box (h1.below hbr) (by decide)
          simp only [eb, e1]
          clear hv hj eb e1
          unfold tailWp
          refine wpOp_step rfl fun K' hK' => ?_
          refine step_append_ints _ rfl rfl _ _ (by rfl) (W2.heap.size) k _ (X.take k) (by rfl) (h2.below hbr) (some ⟨m0, 0, none⟩) 1 1 [x] (by rfl) (fun e => by cases e) hel rfl (by omega) (by omega) ?_
          intro A5 c5 w5 hown5 hgrow5 hat5
          refine hK' _ _ ?_
          clear hK'
          have b5 := (h1.below hbr).grown hgrow5 hne
          have hc5 := b5.three.2.2
          have hf5 := b5.frozen 2
          have hl5 := b5.lt
          unfold tailWp
          refine wpOp_step rfl fun K' hK' => ?_
          go_simp
          refine hK' _ _ ?_
          clear hK'
          unfold tailWp
          refine wpOp_step rfl fun K' hK' => ?_
          go_simp
          refine hK' _ _ ?_
          clear hK'
          have hblr := hbl.trans (hbr.mono hbl.size)
          have hbl5 := (hblr.grown hgrow5 hblr.size (fun j e => by have := (h2.lt e).1; omega)).setCell (p := ⟨g, 2, none⟩) (by first | (simp; done) | (simp; omega)) (.slice A5 (k + 1) c5)
          have b6 := b5.store 2 (.slice A5 (k + 1) c5)
          have h6 := hown5.setCell (p := ⟨g, 2, none⟩) (hown5.ne_box b5 (by decide)) (.slice A5 (k + 1) c5)
          simp only [List.setIfInBounds_toArray, List.set_cons_zero, List.set_cons_succ] at b6
          have hsz7 := hgrow5.size
          have h37 : Row _ ms (a.sh) := Box.far (Box.grown (Box.below h3 hbr) hgrow5 (h2.ne_low (by omega))) (p := ⟨g, 2, none⟩) (by simp; omega) (.slice A5 (k + 1) c5)
          clear hc5 hf5 b5 hown5 hgrow5
          go_wp2_with fail
          go_roundw
          case rel => exact ⟨k + 1, A5, c5, by omega, by go_num, b6, by rw [← take_at HXK.out]; exact h6, h37, hbl5, by simp; omega⟩
          case measure => simp [intOf]; omega
      · have hke : k = a.da.length := by omega
        subst hke
        rw [List.take_of_length_le (by rw [HXL.out]; exact Nat.le_refl _)] at h2
        obtain ⟨g0, g1, g2⟩ := h1.three
        have b3 := bR.below hbl
        have rf := b3.frozen
        obtain ⟨e0, e1, e2⟩ := b3.three
        have rl := b3.lt
        go_wp2_with fail
        have hgg := grownBy_three wr (w.heap.size + 1) (.bool a.ch) (.slice (some ⟨ms, 0, none⟩) a.sh.length a.sh.length) (.slice A4 a.da.length c4)
        have z := ((b3.store 0 (.bool a.ch)).store 1 (.slice (some ⟨ms, 0, none⟩) a.sh.length a.sh.length)).store 2 (.slice A4 a.da.length c4)
        simp only [List.setIfInBounds_toArray, List.set_cons_zero, List.set_cons_succ] at z
        obtain ⟨z0, z1, z2⟩ := z.three
        have zl := z.lt
        refine bodyPost_ret (v := .tuple #[.agg #[.bool a.ch, .slice (some ⟨ms, 0, none⟩) a.sh.length a.sh.length, .slice A4 a.da.length c4], .int .i64 0]) (by simp [results, Tryd.results21, go_sem, z0, z1, z2, zl]) rfl ?_
        have hgn : w.heap.size + 1 ≠ ms := by omega
        have iS : IsInts _ (.slice (some ⟨ms, 0, none⟩) a.sh.length a.sh.length) a.sh := (Box.grown h3 hgg (by intro e; injection e with e; exact hgn e) : Row _ ms a.sh).isInts rfl (by omega)
        have iD := (h2.kept hgg (.inr (h2.ne_low (by omega)))).isInts
        have hbx := hbw.trans (hbl.mono hbw.size)
        refine RTold.ok HE.out ?_ (hbx.grown hgg hbx.size (fun j e => by cases e; omega))
        exact ⟨_, _, rfl, by rw [show (rev (kk : Int).toNat a).sh = a.sh by rw [Int.toNat_natCast, (rev_ok HT.out).sh, HT.out.sh]]; exact iS, by rw [Int.toNat_natCast, ← HX.out]; exact iD⟩

end Go.Proofs.YtfecokkgdojcdaaDoor
