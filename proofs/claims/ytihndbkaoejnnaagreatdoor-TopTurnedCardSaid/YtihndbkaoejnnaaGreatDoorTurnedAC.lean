/- What the card TopTurned leans on: ProdFits. Conditions: none but those of its theorems. -/
import Derived.BigQuiet
import Derived.Test.YtihndbkaoejnnaaGreatDoorTurnedAB
import Derived.Test.YtihndbkaoejnnaaGreatDoorTurnedE
import Derived.Test.YtihndbkaoejnnaaGreatDoorTurnedV
import Derived.Test.YtihndbkaoejnnaaGreatDoorTurnedR
set_option linter.unusedSimpArgs false
set_option linter.unusedVariables false
namespace Go.Proofs.YtihndbkaoejnnaaGreatDoor
open Go Go.RowKit Go.Proofs.YtihndbkaoejnnaaGreatDoor.P

set_option maxRecDepth 100000 in
set_option maxHeartbeats 4000000 in
theorem fits_1 {w : World} {x y : Bool} {A A' D D' : Option Addr} {ca ca' md cd md' cd' : Nat} {L : Nat} (ha : IsInts w (.slice A 1 ca) [(L : Int)]) (hb : IsInts w (.slice A' 1 ca') [(L : Int)]) :
    Calls Tryz.prog 171 #[.agg #[.bool x, .slice A 1 ca, .slice D md cd], .agg #[.bool y, .slice A' 1 ca', .slice D' md' cd']] w fun e w' => ∃ S c, e = .returned (.tuple #[.slice S 0 c, .int .i64 L, .nilIface]) ∧ Owns w' w.heap.size (.slice S 0 c) 0 [] ∧ Below w.heap.size w w' := by
  obtain ⟨A0, c0, e, a1, a2, a3, a5, a4⟩ := ha
  injection e with e1 e2 e3
  subst e1 e3
  clear e2
  obtain ⟨A0', c0', e, b1, b2, b3, b5, b4⟩ := hb
  injection e with e1 e2 e3
  subst e1 e3
  clear e2
  have EA := Lib.hid (show Elems w A [(L : Int)] from a4)
  have EB := Lib.hid (show Elems w A' [(L : Int)] from b4)
  obtain ⟨A1, hp1, hq1, hr1⟩ := part_named (lo := none) (hi := some (.int .i64 0)) (L := 0) (H := 0) EA.out a5 a1 (.inl ⟨rfl, rfl⟩) (.inr rfl) (by omega) (by simp at a1; omega)
  obtain ⟨A2, hp2, hq2, hr2⟩ := part_named (lo := some (.int .i64 1)) (hi := none) (L := 1) (H := 1) EB.out b5 b1 (.inr rfl) (.inl ⟨rfl, rfl⟩) (by omega) (by simp at b1; omega)
  simp only [List.length_cons, List.length_nil, Nat.zero_add, Nat.reduceAdd, Nat.sub_zero, Nat.reduceSub, Nat.sub_self, List.take_succ_cons, List.take_zero, List.drop_succ_cons, List.drop_zero, List.drop_nil] at hp1 hp2 hq1 hq2 hr1 hr2 a1 b1
  have HI1 := Lib.hid (show IsInts w (.slice A1 0 ca) [] from ⟨A1, ca, rfl, by simp; try omega, a2, by simp, hr1, hq1⟩)
  have HI2 := Lib.hid (show IsInts w (.slice A2 0 (ca' - 1)) [] from ⟨A2, ca' - 1, rfl, by simp; try omega, by omega, by simp, hr2, hq2⟩)
  have HP1 := Lib.hid hp1
  have HP2 := Lib.hid hp2
  obtain ⟨ad, rfl, hal, hac⟩ := EA.out 0 (L : Int) rfl
  obtain ⟨bd, rfl, hbl0, hbc⟩ := EB.out 0 (L : Int) rfl
  rw [addr_zero] at hbc
  rw [addr_zero] at hac
  have hbw := below_two w (.cells #[.bool x, .slice (some ad) 1 ca, .slice D md cd] 25) (.cells #[.bool y, .slice (some bd) 1 ca', .slice D' md' cd'] 25)
  have hx := (Box.new w 25 #[.bool x, .slice (some ad) 1 ca, .slice D md cd]).alloc (.cells #[.bool y, .slice (some bd) 1 ca', .slice D' md' cd'] 25)
  have hy := Box.new (w.alloc (.cells #[.bool x, .slice (some ad) 1 ca, .slice D md cd] 25)) 25 #[.bool y, .slice (some bd) 1 ca', .slice D' md' cd']
  simp only [World.size_alloc] at hy
  have hac' := (hbw.cell (p := ad) (by exact hal)).trans hac
  have hbc' := (hbw.cell (p := bd) hbl0).trans hbc
  have ha1 : 1 ≤ ca := a1
  have hb1 : 1 ≤ ca' := b1
  have hmx := mixedZ
  
  skip
  clear a1 a2 a3 a4 a5 b1 b2 b3 b4 b5 hp1 hp2 hq1 hq2 hr1 hr2 hac hbc
  go_enter Tryz.func171, Tryz.ntmps171
  have HX := Lib.hid (And.intro hx hy)
  have HBW := Lib.hid hbw
  go_wp2_with fail
  go_quiet (fail)
  all_goals go_wp2_with fail
  refine wp_region_gate 9 1 (fun i v lo hi w' => match i with
    | 0 => v = .pointer (some ⟨w.heap.size, 1, none⟩)
    | 1 => v = .slice (some ad) 1 ca
    | 2 => v = .int .i64 1
    | 3 => v = .int .i64 0
    | 4 => v = .slice A1 0 ca
    | 5 => v = .pointer (some ⟨w.heap.size + 1, 1, none⟩)
    | 6 => v = .slice (some bd) 1 ca'
    | 7 => v = .slice A2 0 (ca' - 1)
    | 8 => ∃ g, v = .slice (some ⟨g, 0, none⟩) 2 2 ∧ Box w' g 23 #[.slice A1 0 ca, .slice A2 0 (ca' - 1)]
    | _ => True) (by kernel_rfl) (by kernel_rfl) (by kernel_rfl) ?hV ?step ?last
  case hV =>
    intro i v lo hi w1 w2 h hb
    match i, h with
    | 0, h => exact h
    | 1, h => exact h
    | 2, h => exact h
    | 3, h => exact h
    | 4, h => exact h
    | 5, h => exact h
    | 6, h => exact h
    | 7, h => exact h
    | 8, ⟨g, e, h⟩ => exact ⟨g, e, h.below hb⟩
    | i + 9, _ => trivial
  case step =>
    simp only [List.take_succ_cons, List.take_zero, putAll, Act.put, List.setIfInBounds_toArray, List.set_cons_zero, List.set_cons_succ, Nat.reduceAdd, Nat.zero_add]
    intro i o ho hi u lo up wr hbr hd hj K hK
    have hbr2 := Below.trans (below_draws _ ((w.alloc (.cells #[.bool x, .slice (some ad) 1 ca, .slice D md cd] 25)).alloc (.cells #[.bool y, .slice (some bd) 1 ca', .slice D' md' cd'] 25)) _) hbr
    have z3 := HX.out.1.below hbr2
    have z4 := HX.out.2.below hbr2
    obtain ⟨q0, q1, q2⟩ := z3.three
    obtain ⟨p0, p1, p2⟩ := z4.three
    have ql := z3.lt
    have pl := z4.lt
    have hp1 := HP1.out
    have hp2 := HP2.out
    match i, ho with
    | 0, ho =>
      simp only [List.getElem?_cons_zero, Option.some.injEq] at ho
      subst ho
      simp only [Act.put, List.setIfInBounds_toArray, List.set_cons_zero, List.set_cons_succ] at hK
      refine wpOp_step rfl fun K' hK' => ?_
      go_simp
      exact hK' _ _ (hK _ _ (Below.refl _ _) rfl)
    | 1, ho =>
      simp only [List.getElem?_cons_succ, List.getElem?_cons_zero, Option.some.injEq] at ho
      subst ho
      simp only [Act.put, List.setIfInBounds_toArray, List.set_cons_zero, List.set_cons_succ] at hK
      have e0 : u 0 = .pointer (some ⟨w.heap.size, 1, none⟩) := hd ⟨0, .data⟩ (by simp) rfl
      simp only [e0] at hK
      refine wpOp_step rfl fun K' hK' => ?_
      go_simp
      exact hK' _ _ (hK _ _ (Below.refl _ _) rfl)
    | 2, ho =>
      simp only [List.getElem?_cons_succ, List.getElem?_cons_zero, Option.some.injEq] at ho
      subst ho
      simp only [Act.put, List.setIfInBounds_toArray, List.set_cons_zero, List.set_cons_succ] at hK
      refine wpOp_step rfl fun K' hK' => ?_
      go_simp
      exact hK' _ _ (hK _ _ (Below.refl _ _) rfl)
    | 3, ho =>
      simp only [List.getElem?_cons_succ, List.getElem?_cons_zero, Option.some.injEq] at ho
      subst ho
      simp only [Act.put, List.setIfInBounds_toArray, List.set_cons_zero, List.set_cons_succ] at hK
      have e2 : u 2 = .int .i64 1 := hd ⟨2, .data⟩ (by simp) rfl
      simp only [e2] at hK
      refine wpOp_step rfl fun K' hK' => ?_
      go_simp
      exact hK' _ _ (hK _ _ (Below.refl _ _) rfl)
    | 4, ho =>
      simp only [List.getElem?_cons_succ, List.getElem?_cons_zero, Option.some.injEq] at ho
      subst ho
      simp only [Act.put, List.setIfInBounds_toArray, List.set_cons_zero, List.set_cons_succ] at hK
      have e1 : u 1 = .slice (some ad) 1 ca := hd ⟨1, .data⟩ (by simp) rfl
      have e3 : u 3 = .int .i64 0 := hd ⟨3, .data⟩ (by simp) rfl
      simp only [e1, e3] at hK
      refine wpOp_step rfl fun K' hK' => ?_
      go_simp
      exact hK' _ _ (hK _ _ (Below.refl _ _) rfl)
    | 5, ho =>
      simp only [List.getElem?_cons_succ, List.getElem?_cons_zero, Option.some.injEq] at ho
      subst ho
      simp only [Act.put, List.setIfInBounds_toArray, List.set_cons_zero, List.set_cons_succ] at hK
      refine wpOp_step rfl fun K' hK' => ?_
      go_simp
      exact hK' _ _ (hK _ _ (Below.refl _ _) rfl)
    | 6, ho =>
      simp only [List.getElem?_cons_succ, List.getElem?_cons_zero, Option.some.injEq] at ho
      subst ho
      simp only [Act.put, List.setIfInBounds_toArray, List.set_cons_zero, List.set_cons_succ] at hK
      have e5 : u 5 = .pointer (some ⟨w.heap.size + 1, 1, none⟩) := hd ⟨5, .data⟩ (by simp) rfl
      simp only [e5] at hK
      refine wpOp_step rfl fun K' hK' => ?_
      go_simp
      exact hK' _ _ (hK _ _ (Below.refl _ _) rfl)
    | 7, ho =>
      simp only [List.getElem?_cons_succ, List.getElem?_cons_zero, Option.some.injEq] at ho
      subst ho
      simp only [Act.put, List.setIfInBounds_toArray, List.set_cons_zero, List.set_cons_succ] at hK
      have e6 : u 6 = .slice (some bd) 1 ca' := hd ⟨6, .data⟩ (by simp) rfl
      simp only [e6] at hK
      refine wpOp_step rfl fun K' hK' => ?_
      go_simp
      exact hK' _ _ (hK _ _ (Below.refl _ _) rfl)
    | 8, ho =>
      simp only [List.getElem?_cons_succ, List.getElem?_cons_zero, Option.some.injEq] at ho
      subst ho
      simp only [Act.put, List.setIfInBounds_toArray, List.set_cons_zero, List.set_cons_succ] at hK
      have e4 : u 4 = .slice A1 0 ca := hd ⟨4, .data⟩ (by simp) rfl
      have e7 : u 7 = .slice A2 0 (ca' - 1) := hd ⟨7, .data⟩ (by simp) rfl
      simp only [e4, e7] at hK
      refine wpOp_step rfl fun K' hK' => ?_
      go_simp
      exact hK' _ _ (hK _ _ (below_one _ _) ⟨_, rfl, Box.new _ _ _⟩)
    | i + 9, ho => omega
  case last =>
    simp only [List.take_succ_cons, List.take_zero, putAll, Act.put, List.setIfInBounds_toArray, List.set_cons_zero, List.set_cons_succ, Nat.reduceAdd, Nat.zero_add]
    intro u wr lo up hbr hv hj
    have hbr2 := Below.trans (below_draws _ ((w.alloc (.cells #[.bool x, .slice (some ad) 1 ca, .slice D md cd] 25)).alloc (.cells #[.bool y, .slice (some bd) 1 ca', .slice D' md' cd'] 25)) _) hbr
    have hbw2 := HBW.out.trans (hbr2.mono HBW.out.size)
    obtain ⟨g, e8, hbx⟩ := hv 8 (by omega)
    have HCC := Lib.hid (concat_two hbx (HI1.out.mono hbw2) (HI2.out.mono hbw2) (by omega))
    simp only [e8]
    clear hv hj e8 hbr hbr2 hbx
    unfold tailWp
    refine wpOp_step rfl fun K' hK' => ?_
    go_simp
    refine HCC.out.mono ?_
    rintro e w6 ⟨S, c6, rfl, ho6, hb6⟩
    refine hK' _ _ ?_
    clear hK'
    have HO6 := Lib.hid (show Owns w6 w.heap.size (.slice S 0 c6) 0 [] from ho6.base hbw2.size)
    have HB6 := Lib.hid (hbw2.trans (hb6.mono hbw2.size))
    clear ho6 hb6 hbw2
    unfold tailWp
    refine wpOp_step rfl fun K' hK' => ?_
    go_simp
    refine hK' _ _ ?_
    clear hK'
    have HCT := Lib.hid (fun W => (count_ok (.slice S 0 c6) [] W))
    go_wp2_with fail
    refine (HCT.out _ (by first | exact HO6.out.isInts | simpa [ints] using HO6.out.isInts) ⟨by simp, by simp, by simp [prod]⟩).mono ?_
    rintro e w7 ⟨rfl, rfl⟩
    go_wp2_with fail
    refine bodyPost_ret (v := .tuple #[.slice S 0 c6, .int .i64 L, .nilIface]) (by simp [results, Tryz.results171, go_sem]) rfl ?_
    exact ⟨S, c6, rfl, HO6.out, HB6.out⟩

set_option maxRecDepth 100000 in
set_option maxHeartbeats 4000000 in
theorem fits_2 {w : World} {x y : Bool} {A A' D D' : Option Addr} {ca ca' md cd md' cd' : Nat} {p L r : Nat} (ha : IsInts w (.slice A 2 ca) [(p : Int), (L : Int)]) (hb : IsInts w (.slice A' 2 ca') [(L : Int), (r : Int)]) (hg : GoodSh [p, r]) :
    Calls Tryz.prog 171 #[.agg #[.bool x, .slice A 2 ca, .slice D md cd], .agg #[.bool y, .slice A' 2 ca', .slice D' md' cd']] w fun e w' => ∃ S c, e = .returned (.tuple #[.slice S 2 c, .int .i64 L, .nilIface]) ∧ Owns w' w.heap.size (.slice S 2 c) 2 [(p : Int), (r : Int)] ∧ Below w.heap.size w w' := by
  obtain ⟨A0, c0, e, a1, a2, a3, a5, a4⟩ := ha
  injection e with e1 e2 e3
  subst e1 e3
  clear e2
  obtain ⟨A0', c0', e, b1, b2, b3, b5, b4⟩ := hb
  injection e with e1 e2 e3
  subst e1 e3
  clear e2
  have EA := Lib.hid (show Elems w A [(p : Int), (L : Int)] from a4)
  have EB := Lib.hid (show Elems w A' [(L : Int), (r : Int)] from b4)
  obtain ⟨A1, hp1, hq1, hr1⟩ := part_named (lo := none) (hi := some (.int .i64 1)) (L := 0) (H := 1) EA.out a5 a1 (.inl ⟨rfl, rfl⟩) (.inr rfl) (by omega) (by simp at a1; omega)
  obtain ⟨A2, hp2, hq2, hr2⟩ := part_named (lo := some (.int .i64 1)) (hi := none) (L := 1) (H := 2) EB.out b5 b1 (.inr rfl) (.inl ⟨rfl, rfl⟩) (by omega) (by simp at b1; omega)
  simp only [List.length_cons, List.length_nil, Nat.zero_add, Nat.reduceAdd, Nat.sub_zero, Nat.reduceSub, Nat.sub_self, List.take_succ_cons, List.take_zero, List.drop_succ_cons, List.drop_zero, List.drop_nil] at hp1 hp2 hq1 hq2 hr1 hr2 a1 b1
  have HI1 := Lib.hid (show IsInts w (.slice A1 1 ca) [(p : Int)] from ⟨A1, ca, rfl, by simp; try omega, a2, by simp, hr1, hq1⟩)
  have HI2 := Lib.hid (show IsInts w (.slice A2 1 (ca' - 1)) [(r : Int)] from ⟨A2, ca' - 1, rfl, by simp; try omega, by omega, by simp, hr2, hq2⟩)
  have HP1 := Lib.hid hp1
  have HP2 := Lib.hid hp2
  obtain ⟨ad, rfl, hal, hac⟩ := EA.out 1 (L : Int) rfl
  obtain ⟨bd, rfl, hbl0, hbc⟩ := EB.out 0 (L : Int) rfl
  rw [addr_zero] at hbc
  skip
  have hbw := below_two w (.cells #[.bool x, .slice (some ad) 2 ca, .slice D md cd] 25) (.cells #[.bool y, .slice (some bd) 2 ca', .slice D' md' cd'] 25)
  have hx := (Box.new w 25 #[.bool x, .slice (some ad) 2 ca, .slice D md cd]).alloc (.cells #[.bool y, .slice (some bd) 2 ca', .slice D' md' cd'] 25)
  have hy := Box.new (w.alloc (.cells #[.bool x, .slice (some ad) 2 ca, .slice D md cd] 25)) 25 #[.bool y, .slice (some bd) 2 ca', .slice D' md' cd']
  simp only [World.size_alloc] at hy
  have hac' := (hbw.cell (p := (ad.add 1)) (by rw [addr_block_add]; exact hal)).trans hac
  have hbc' := (hbw.cell (p := bd) hbl0).trans hbc
  have ha1 : 2 ≤ ca := a1
  have hb1 : 2 ≤ ca' := b1
  have hmx := mixedZ
  have HG := Lib.hid hg
  have hac2 : w.cell? ⟨ad.block, ad.off + 1, none⟩ = some (.int .i64 (L : Int)) := by simpa [Addr.add] using hac
  clear a1 a2 a3 a4 a5 b1 b2 b3 b4 b5 hp1 hp2 hq1 hq2 hr1 hr2 hac hbc hg
  go_enter Tryz.func171, Tryz.ntmps171
  have HX := Lib.hid (And.intro hx hy)
  have HBW := Lib.hid hbw
  go_wp2_with fail
  go_quiet (fail)
  all_goals go_wp2_with fail
  refine wp_region_gate 9 1 (fun i v lo hi w' => match i with
    | 0 => v = .pointer (some ⟨w.heap.size, 1, none⟩)
    | 1 => v = .slice (some ad) 2 ca
    | 2 => v = .int .i64 2
    | 3 => v = .int .i64 1
    | 4 => v = .slice A1 1 ca
    | 5 => v = .pointer (some ⟨w.heap.size + 1, 1, none⟩)
    | 6 => v = .slice (some bd) 2 ca'
    | 7 => v = .slice A2 1 (ca' - 1)
    | 8 => ∃ g, v = .slice (some ⟨g, 0, none⟩) 2 2 ∧ Box w' g 23 #[.slice A1 1 ca, .slice A2 1 (ca' - 1)]
    | _ => True) (by kernel_rfl) (by kernel_rfl) (by kernel_rfl) ?hV ?step ?last
  case hV =>
    intro i v lo hi w1 w2 h hb
    match i, h with
    | 0, h => exact h
    | 1, h => exact h
    | 2, h => exact h
    | 3, h => exact h
    | 4, h => exact h
    | 5, h => exact h
    | 6, h => exact h
    | 7, h => exact h
    | 8, ⟨g, e, h⟩ => exact ⟨g, e, h.below hb⟩
    | i + 9, _ => trivial
  case step =>
    simp only [List.take_succ_cons, List.take_zero, putAll, Act.put, List.setIfInBounds_toArray, List.set_cons_zero, List.set_cons_succ, Nat.reduceAdd, Nat.zero_add]
    intro i o ho hi u lo up wr hbr hd hj K hK
    have hbr2 := Below.trans (below_draws _ ((w.alloc (.cells #[.bool x, .slice (some ad) 2 ca, .slice D md cd] 25)).alloc (.cells #[.bool y, .slice (some bd) 2 ca', .slice D' md' cd'] 25)) _) hbr
    have z3 := HX.out.1.below hbr2
    have z4 := HX.out.2.below hbr2
    obtain ⟨q0, q1, q2⟩ := z3.three
    obtain ⟨p0, p1, p2⟩ := z4.three
    have ql := z3.lt
    have pl := z4.lt
    have hp1 := HP1.out
    have hp2 := HP2.out
    match i, ho with
    | 0, ho =>
      simp only [List.getElem?_cons_zero, Option.some.injEq] at ho
      subst ho
      simp only [Act.put, List.setIfInBounds_toArray, List.set_cons_zero, List.set_cons_succ] at hK
      refine wpOp_step rfl fun K' hK' => ?_
      go_simp
      exact hK' _ _ (hK _ _ (Below.refl _ _) rfl)
    | 1, ho =>
      simp only [List.getElem?_cons_succ, List.getElem?_cons_zero, Option.some.injEq] at ho
      subst ho
      simp only [Act.put, List.setIfInBounds_toArray, List.set_cons_zero, List.set_cons_succ] at hK
      have e0 : u 0 = .pointer (some ⟨w.heap.size, 1, none⟩) := hd ⟨0, .data⟩ (by simp) rfl
      simp only [e0] at hK
      refine wpOp_step rfl fun K' hK' => ?_
      go_simp
      exact hK' _ _ (hK _ _ (Below.refl _ _) rfl)
    | 2, ho =>
      simp only [List.getElem?_cons_succ, List.getElem?_cons_zero, Option.some.injEq] at ho
      subst ho
      simp only [Act.put, List.setIfInBounds_toArray, List.set_cons_zero, List.set_cons_succ] at hK
      refine wpOp_step rfl fun K' hK' => ?_
      go_simp
      exact hK' _ _ (hK _ _ (Below.refl _ _) rfl)
    | 3, ho =>
      simp only [List.getElem?_cons_succ, List.getElem?_cons_zero, Option.some.injEq] at ho
      subst ho
      simp only [Act.put, List.setIfInBounds_toArray, List.set_cons_zero, List.set_cons_succ] at hK
      have e2 : u 2 = .int .i64 2 := hd ⟨2, .data⟩ (by simp) rfl
      simp only [e2] at hK
      refine wpOp_step rfl fun K' hK' => ?_
      go_simp
      exact hK' _ _ (hK _ _ (Below.refl _ _) rfl)
    | 4, ho =>
      simp only [List.getElem?_cons_succ, List.getElem?_cons_zero, Option.some.injEq] at ho
      subst ho
      simp only [Act.put, List.setIfInBounds_toArray, List.set_cons_zero, List.set_cons_succ] at hK
      have e1 : u 1 = .slice (some ad) 2 ca := hd ⟨1, .data⟩ (by simp) rfl
      have e3 : u 3 = .int .i64 1 := hd ⟨3, .data⟩ (by simp) rfl
      simp only [e1, e3] at hK
      refine wpOp_step rfl fun K' hK' => ?_
      go_simp
      exact hK' _ _ (hK _ _ (Below.refl _ _) rfl)
    | 5, ho =>
      simp only [List.getElem?_cons_succ, List.getElem?_cons_zero, Option.some.injEq] at ho
      subst ho
      simp only [Act.put, List.setIfInBounds_toArray, List.set_cons_zero, List.set_cons_succ] at hK
      refine wpOp_step rfl fun K' hK' => ?_
      go_simp
      exact hK' _ _ (hK _ _ (Below.refl _ _) rfl)
    | 6, ho =>
      simp only [List.getElem?_cons_succ, List.getElem?_cons_zero, Option.some.injEq] at ho
      subst ho
      simp only [Act.put, List.setIfInBounds_toArray, List.set_cons_zero, List.set_cons_succ] at hK
      have e5 : u 5 = .pointer (some ⟨w.heap.size + 1, 1, none⟩) := hd ⟨5, .data⟩ (by simp) rfl
      simp only [e5] at hK
      refine wpOp_step rfl fun K' hK' => ?_
      go_simp
      exact hK' _ _ (hK _ _ (Below.refl _ _) rfl)
    | 7, ho =>
      simp only [List.getElem?_cons_succ, List.getElem?_cons_zero, Option.some.injEq] at ho
      subst ho
      simp only [Act.put, List.setIfInBounds_toArray, List.set_cons_zero, List.set_cons_succ] at hK
      have e6 : u 6 = .slice (some bd) 2 ca' := hd ⟨6, .data⟩ (by simp) rfl
      simp only [e6] at hK
      refine wpOp_step rfl fun K' hK' => ?_
      go_simp
      exact hK' _ _ (hK _ _ (Below.refl _ _) rfl)
    | 8, ho =>
      simp only [List.getElem?_cons_succ, List.getElem?_cons_zero, Option.some.injEq] at ho
      subst ho
      simp only [Act.put, List.setIfInBounds_toArray, List.set_cons_zero, List.set_cons_succ] at hK
      have e4 : u 4 = .slice A1 1 ca := hd ⟨4, .data⟩ (by simp) rfl
      have e7 : u 7 = .slice A2 1 (ca' - 1) := hd ⟨7, .data⟩ (by simp) rfl
      simp only [e4, e7] at hK
      refine wpOp_step rfl fun K' hK' => ?_
      go_simp
      exact hK' _ _ (hK _ _ (below_one _ _) ⟨_, rfl, Box.new _ _ _⟩)
    | i + 9, ho => omega
  case last =>
    simp only [List.take_succ_cons, List.take_zero, putAll, Act.put, List.setIfInBounds_toArray, List.set_cons_zero, List.set_cons_succ, Nat.reduceAdd, Nat.zero_add]
    intro u wr lo up hbr hv hj
    have hbr2 := Below.trans (below_draws _ ((w.alloc (.cells #[.bool x, .slice (some ad) 2 ca, .slice D md cd] 25)).alloc (.cells #[.bool y, .slice (some bd) 2 ca', .slice D' md' cd'] 25)) _) hbr
    have hbw2 := HBW.out.trans (hbr2.mono HBW.out.size)
    obtain ⟨g, e8, hbx⟩ := hv 8 (by omega)
    have HCC := Lib.hid (concat_two hbx (HI1.out.mono hbw2) (HI2.out.mono hbw2) (by omega))
    simp only [e8]
    clear hv hj e8 hbr hbr2 hbx
    unfold tailWp
    refine wpOp_step rfl fun K' hK' => ?_
    go_simp
    refine HCC.out.mono ?_
    rintro e w6 ⟨S, c6, rfl, ho6, hb6⟩
    refine hK' _ _ ?_
    clear hK'
    have HO6 := Lib.hid (show Owns w6 w.heap.size (.slice S 2 c6) 2 [(p : Int), (r : Int)] from ho6.base hbw2.size)
    have HB6 := Lib.hid (hbw2.trans (hb6.mono hbw2.size))
    clear ho6 hb6 hbw2
    unfold tailWp
    refine wpOp_step rfl fun K' hK' => ?_
    go_simp
    refine hK' _ _ ?_
    clear hK'
    have HCT := Lib.hid (fun W => (count_ok (.slice S 2 c6) [p, r] W))
    go_wp2_with fail
    refine (HCT.out _ (by first | exact HO6.out.isInts | simpa [ints] using HO6.out.isInts) HG.out).mono ?_
    rintro e w7 ⟨rfl, rfl⟩
    go_wp2_with fail
    refine bodyPost_ret (v := .tuple #[.slice S 2 c6, .int .i64 L, .nilIface]) (by simp [results, Tryz.results171, go_sem]) rfl ?_
    exact ⟨S, c6, rfl, HO6.out, HB6.out⟩

end Go.Proofs.YtihndbkaoejnnaaGreatDoor
