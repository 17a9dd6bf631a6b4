/- What the card TopSums leans on: ActZip, TopSumsWalk. Conditions: none but those of its theorems. -/
import Derived.Test.YtihndbkaoejnnaaGreatDoorSumsAN
import Derived.Test.YtihndbkaoejnnaaGreatDoorSumsAB
import Derived.Test.YtihndbkaoejnnaaGreatDoorSumsAJ
import Derived.Test.YtihndbkaoejnnaaGreatDoorSumsW
import Derived.Test.YtihndbkaoejnnaaGreatDoorSumsAK
import Derived.Test.YtihndbkaoejnnaaGreatDoorSumsAO
set_option linter.unusedSimpArgs false
set_option linter.unusedVariables false
namespace Go.Proofs.YtihndbkaoejnnaaGreatDoor
open Go Go.RowKit Go.Proofs.YtihndbkaoejnnaaGreatDoor.P

theorem cell_no_err {f : Int} (hf : f = 1 ∨ f = 2 ∨ f = 3 ∨ f = 8) (ca cb : Bool) (x y : Int) : cellE ca cb f x y = 0 := by
  unfold cellE
  split
  · rfl
  · exact twoE_ok (by omega) (by omega) (by omega) (by omega)
theorem eachErr_same {f : Int} {a b : Arr} {t : List Nat} (hf : f = 1 ∨ f = 2 ∨ f = 3 ∨ f = 8) (ha : Ok a t) (hb : Ok b t) (hc : f = 8 ∨ (a.ch = false ∧ b.ch = false)) : eachErr f a b = 0 := by
  have hs : a.sh = b.sh := by rw [ha.sh, hb.sh]
  unfold eachErr
  rw [if_neg (by rw [twoE_ok (by omega) (by omega) (by omega) (by omega)]; simp), if_neg (by rw [arrErr_ok ha]; simp), if_neg (by rw [arrErr_ok hb]; simp)]
  rw [hs]
  simp only [ne_eq, not_true_eq_false, if_false]
  rcases hc with rfl | ⟨h1, h2⟩
  · simp
  · simp [h1, h2]
theorem act_zip {f : Int} {a b : Arr} {t : List Nat} (hf : f = 1 ∨ f = 2 ∨ f = 3 ∨ f = 8) (ha : Ok a t) (hb : Ok b t) (hc : f = 8 ∨ (a.ch = false ∧ b.ch = false)) (hwb : Wf b.da) : ActTwo 0 f 0 a b (zipA f a b) :=
  two_both (arrErr_ok ha) (arrErr_ok hb) (by omega) (fun W => known_cells hf 0 W) (both_cells hf (fun W v1 v2 h1 h2 => each_zip_new h1 h2 hwb ha hb ⟨eachErr_same hf ha hb hc, fun i _ => cell_no_err hf _ _ _ _⟩))

end Go.Proofs.YtihndbkaoejnnaaGreatDoor

namespace Go.Proofs.YtihndbkaoejnnaaGreatDoor
open Go Go.RowKit Go.Proofs.YtihndbkaoejnnaaGreatDoor.P

theorem line_sum3_is : LineOf line_sum3 [] ⟨false, [3], [1, 3, 6]⟩ :=
  have h : Ok ⟨false, [3], [1, 2, 3]⟩ [3] := ⟨rfl, ⟨by simp, by simp, by simp [prod]⟩, by simp [prod], fun e => by cases e⟩
  ⟨by decide, toks_sum3, nodes_sum3, 2, lexes_sum3, by decide, parsed_sum3, walked_sum3, val_sum3 (by have e := act_scan h rfl (by intro x hx; simp at hx; rcases hx with rfl | rfl | rfl <;> decide); rw [show scan1 1 [1, 2, 3] = [1, 3, 6] by decide +kernel] at e; exact e), by decide⟩
theorem line_sumv_is {a : Arr} {n : Nat} (h : Ok a [n]) (hn : 1 ≤ n) (hn2 : n ≤ 4095) (hc : a.ch = false) (hw : Wf a.da) : LineOf line_sumv [(⟨#[118]⟩, a)] a := by
  have hl : a.da.length = n := by rw [h.len]; simp [prod]
  have hs : Ok ⟨false, a.sh, scan1 1 a.da⟩ [n] := ⟨h.sh, h.good, by rw [scan1_len, hl]; simp [prod], fun e => by cases e⟩
  have hd := drop_end hs hn
  have hdo : Ok (drop [-1] ⟨false, a.sh, scan1 1 a.da⟩) [n - 1] := by
    rw [hd]
    exact ⟨rfl, ⟨by simp, by simp; omega, by simp [prod]; omega⟩, by simp [prod, scan1_len, hl], fun e => by cases e⟩
  have a3 := act_comma (x := 0) hdo (by rw [hd]) (by omega)
  rw [hd] at a3
  have hco : Ok ⟨false, [((n - 1 + 1 : Nat) : Int)], 0 :: (scan1 1 a.da).take (n - 1)⟩ [n] := ⟨by simp [ints]; omega, h.good, by simp [prod, scan1_len, hl]; omega, fun e => by cases e⟩
  have hww : Wf (0 :: (scan1 1 a.da).take (n - 1)) := by
    intro x hx
    rcases List.mem_cons.1 hx with rfl | hx
    · decide
    · obtain ⟨i, hi, e⟩ := List.mem_iff_getElem.1 (List.mem_of_mem_take hx)
      have e2 : (scan1 1 a.da)[i]? = some x := by rw [List.getElem?_eq_getElem hi, e]
      rw [scan_sum hw e2]
      exact word_wf.2 (word_wrap _)
  have a0 := act_zip (f := 2) (.inr (.inl rfl)) hs hco (.inr ⟨rfl, rfl⟩) hww
  rw [sums_plain h hn hc hw] at a0
  have a5 := act_drop hs
  rw [hd] at a5
  exact ⟨by decide, toks_sumv, nodes_sumv, 9, lexes_sumv, by decide, parsed_sumv, walked_sumv, val_sumv (bd_one _ a) (act_scan h hc hw) (act_scan h hc hw) a5 a3 a0, by decide⟩

set_option maxRecDepth 100000 in
set_option maxHeartbeats 8000000 in
theorem topSums_walk (V : Value) (a : Arr) (W : World) (hst : Std W) (ha : IsArr W V a) (hw : Wf a.da) : Calls Tryz.prog 6 #[V] W (TrueB W) := by
  obtain ⟨A, ca, D, cd, rfl, -, -⟩ := ha.open_
  obtain ⟨n, hn⟩ : ∃ n, n = a.sh.length := ⟨_, rfl⟩
  obtain ⟨m, hm⟩ : ∃ m, m = a.da.length := ⟨_, rfl⟩
  rw [← hn, ← hm] at ha ⊢
  have HA := Lib.hid ha
  have HN := Lib.hid hn
  have HM := Lib.hid hm
  have HST := Lib.hid hst
  have HW := Lib.hid hw
  have hmx := mixedZ
  clear ha hn hm hst hw
  have hb0 := below_two W (.cells #[.bool a.ch, .slice A n ca, .slice D m cd] 25) (.cells #[.int .i64 1, .int .i64 3, .int .i64 6] 3)
  have hx := (Box.new W 25 #[.bool a.ch, .slice A n ca, .slice D m cd]).alloc (.cells #[.int .i64 1, .int .i64 3, .int .i64 6] 3)
  have hy := Box.new (W.alloc (.cells #[.bool a.ch, .slice A n ca, .slice D m cd] 25)) 3 #[.int .i64 1, .int .i64 3, .int .i64 6]
  have hi : IsInts _ (.slice (some ⟨W.heap.size + 1, 0, none⟩) 3 3) [1, 3, 6] := Box.isInts (xs := [1, 3, 6]) (by simpa using hy) rfl (by omega)
  have HI := Lib.hid hi
  clear hi hy
  go_enter Tryz.func6, Tryz.ntmps6
  go_wp2_with fail
  refine (vector_any false _ _ _ HI.out).mono ?_
  rintro e w1 ⟨r, rfl, hr, hb1⟩
  have HR := Lib.hid hr
  have hbw1 := hb0.trans (hb1.mono hb0.size)
  have x1 := hx.below hb1
  obtain ⟨A2, c2, D2, d2, rfl, -, -⟩ := hr.open_
  clear hb1 hr hx hb0
  go_wp2_with fail
  refine (tells_true (HST.out.below hbw1) (wsAt_nil _) wsOk_nil line_sum3_is HR.out rfl).mono ?_
  rintro e w2 ⟨rfl, hb2⟩
  have x2 := x1.below hb2
  have hbw2 := hbw1.trans (hb2.mono hbw1.size)
  obtain ⟨z0, z1, z2⟩ := x2.three
  have zl := x2.lt
  clear hb2 x1 hbw1
  go_wp2_with fail
  refine (list_is (HA.out.mono hbw2)).mono ?_
  rintro e w3 ⟨rfl, hb3⟩
  have x3 := x2.below hb3
  have hbw3 := hbw2.trans (hb3.mono hbw2.size)
  clear hb3 x2 hbw2 z0 z1 z2 zl
  obtain ⟨z0, z1, z2⟩ := x3.three
  have zl := x3.lt
  by_cases hL : arrErr a = 0 ∧ a.sh.length = 1
  case neg =>
    have e1 : decide (arrErr a = 0 ∧ a.sh.length = 1) = false := by simpa using hL
    rw [e1]
    clear hL e1
    go_wp2_with fail
    go_ret
    exact ⟨rfl, hbw3⟩
  have e1 : decide (arrErr a = 0 ∧ a.sh.length = 1) = true := by simpa using hL
  rw [e1]
  have HL := Lib.hid hL
  clear hL e1
  cases hc : a.ch with
  | true =>
    rw [hc] at z0
    go_wp2_with fail
    go_ret
    exact ⟨rfl, hbw3⟩
  | false =>
  have HC := Lib.hid hc
  rw [hc] at z0
  by_cases h0 : m = 0
  · have e0 : ((m : Int) == 0) = true := by simp [h0]
    clear h0 hc
    go_wp2_with fail
    go_ret
    exact ⟨rfl, hbw3⟩
  have e0 : ((m : Int) == 0) = false := by simpa using h0
  by_cases h4 : m = 4096
  · have e4 : ((m : Int) == 4096) = true := by simp [h4]
    clear h4 h0 hc
    go_wp2_with fail
    go_ret
    exact ⟨rfl, hbw3⟩
  have e4 : ((m : Int) == 4096) = false := by simp; omega
  have HLN := Lib.hid (show LineOf line_sumv [(⟨#[118]⟩, a)] a ∧ WsOk [(⟨#[118]⟩, a)] from by
    obtain ⟨t, ht⟩ := ok_of_arrErr HL.out.1
    have hlt : t.length = 1 := by rw [← length_ints, ← ht.sh]; exact HL.out.2
    obtain ⟨k, rfl⟩ := List.length_eq_one_iff.1 hlt
    have hk : m = k := by rw [HM.out, ht.len]; simp [prod]
    have hg := ht.good.2.1 k (by simp)
    exact ⟨line_sumv_is ht (by omega) (by omega) HC.out HW.out, wsOk_one (nameOk_of (by decide +kernel)) ht⟩)
  have HX := Lib.hid (fun wx (hb : Below w3.heap.size w3 wx) => (show wx.cell? ⟨W.heap.size, 0, none⟩ = some (.bool a.ch) ∧ wx.cell? ⟨W.heap.size, 1, none⟩ = some (.slice A n ca) ∧ wx.cell? ⟨W.heap.size, 2, none⟩ = some (.slice D m cd) ∧ W.heap.size < wx.heap.size from ⟨(x3.below hb).three.1, (x3.below hb).three.2.1, (x3.below hb).three.2.2, (x3.below hb).lt⟩))
  have HBW := Lib.hid hbw3
  clear h0 h4 hc x3
  go_wp2_with fail
  refine wp_region_gate 4 1 (fun i v lo hi w' => match i with
      | 0 => v = .agg #[.bool a.ch, .slice A n ca, .slice D m cd]
      | 1 => v = .agg #[.string ⟨#[118]⟩, .bool a.ch, .slice A n ca, .slice D m cd]
      | 2 => ∃ g, v = .slice (some ⟨g, 0, none⟩) 1 1 ∧ Box w' g 35 #[.string ⟨#[118]⟩, .bool a.ch, .slice A n ca, .slice D m cd]
      | 3 => v = .agg #[.bool a.ch, .slice A n ca, .slice D m cd]
      | _ => True) (by kernel_rfl) (by kernel_rfl) (by kernel_rfl) ?hV ?step ?last
  case hV =>
    intro i v lo hi w1 w2 h hb
    match i, h with
    | 0, h => exact h
    | 1, h => exact h
    | 2, ⟨g, e, h⟩ => exact ⟨g, e, h.below hb⟩
    | 3, h => exact h
    | i + 4, _ => trivial
  case step =>
    simp only [List.take_succ_cons, List.take_zero, putAll, Act.put, List.setIfInBounds_toArray, List.set_cons_zero, List.set_cons_succ, Nat.reduceAdd, Nat.zero_add]
    intro i o ho hi u lo up wr hbr hd hj K hK
    obtain ⟨y0, y1, y2, yl⟩ := HX.out wr hbr
    match i, ho with
    | 0, ho =>
      simp only [List.getElem?_cons_zero, Option.some.injEq] at ho
      subst ho
      simp only [Act.put, List.setIfInBounds_toArray, List.set_cons_zero, List.set_cons_succ] at hK
      refine wpOp_step rfl fun K' hK' => ?_
      go_simp
      exact hK' _ _ (hK _ _ (Below.refl _ _) rfl)
    | 1, ho =>
      simp only [List.getElem?_cons_succ, List.getElem?_cons_zero, Option.some.injEq] at ho
      subst ho
      simp only [Act.put, List.setIfInBounds_toArray, List.set_cons_zero, List.set_cons_succ] at hK
      have e0 : u 0 = .agg #[.bool a.ch, .slice A n ca, .slice D m cd] := hd ⟨0, .data⟩ (by simp) rfl
      simp only [e0] at hK
      refine wpOp_step rfl fun K' hK' => ?_
      go_simp
      refine bind_any.mono ?_
      rintro e w6 ⟨rfl, hb6⟩
      exact hK' _ _ (hK _ _ hb6 rfl)
    | 2, ho =>
      simp only [List.getElem?_cons_succ, List.getElem?_cons_zero, Option.some.injEq] at ho
      subst ho
      simp only [Act.put, List.setIfInBounds_toArray, List.set_cons_zero, List.set_cons_succ] at hK
      have e1 : u 1 = .agg #[.string ⟨#[118]⟩, .bool a.ch, .slice A n ca, .slice D m cd] := hd ⟨1, .data⟩ (by simp) rfl
      simp only [e1] at hK
      refine wpOp_step rfl fun K' hK' => ?_
      go_simp
      exact hK' _ _ (hK _ _ (below_one _ _) ⟨_, rfl, Box.new _ _ _⟩)
    | 3, ho =>
      simp only [List.getElem?_cons_succ, List.getElem?_cons_zero, Option.some.injEq] at ho
      subst ho
      simp only [Act.put, List.setIfInBounds_toArray, List.set_cons_zero, List.set_cons_succ] at hK
      refine wpOp_step rfl fun K' hK' => ?_
      go_simp
      exact hK' _ _ (hK _ _ (Below.refl _ _) rfl)
    | i + 4, ho => omega
  case last =>
    simp only [List.take_succ_cons, List.take_zero, putAll, Act.put, List.setIfInBounds_toArray, List.set_cons_zero, List.set_cons_succ, Nat.reduceAdd, Nat.zero_add]
    intro u wr lo up hbr hv hj
    obtain ⟨g, e2, hbx⟩ := hv 2 (by omega)
    have e3 : u 3 = .agg #[.bool a.ch, .slice A n ca, .slice D m cd] := hv 3 (by omega)
    simp only [e2, e3]
    clear hv hj e2 e3
    unfold tailWp
    refine wpOp_step rfl fun K' hK' => ?_
    go_simp
    refine (tells_true (HST.out.below (HBW.out.trans (hbr.mono HBW.out.size))) (wsAt_one hbx (HA.out.mono (HBW.out.trans (hbr.mono HBW.out.size)))) HLN.out.2 HLN.out.1 (HA.out.mono (HBW.out.trans (hbr.mono HBW.out.size))) rfl).mono ?_
    rintro e w6 ⟨rfl, hb6⟩
    refine hK' _ _ ?_
    clear hK'
    unfold tailWp
    refine wpOp_step rfl fun K' hK' => ?_
    go_simp
    refine hK' _ _ ?_
    clear hK'
    have hbw6 := (HBW.out.trans (hbr.mono HBW.out.size)).trans (hb6.mono (HBW.out.trans (hbr.mono HBW.out.size)).size)
    clear hb6 hbr hbx
    go_wp2_with fail
    go_ret
    exact ⟨rfl, hbw6⟩

end Go.Proofs.YtihndbkaoejnnaaGreatDoor
