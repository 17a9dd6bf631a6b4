/- What the card TopTurned leans on: TopTurnedWalk. Conditions: none but those of its theorems. -/
import Derived.Deep.RegionLaw
import Derived.Test.YtihndbkaoejnnaaGreatDoorTurnedAA
import Derived.Test.YtihndbkaoejnnaaGreatDoorTurnedV
import Derived.Test.YtihndbkaoejnnaaGreatDoorTurnedX
import Derived.Test.YtihndbkaoejnnaaGreatDoorTurnedAO
import Derived.Test.YtihndbkaoejnnaaGreatDoorTurnedAR
import Derived.Test.YtihndbkaoejnnaaGreatDoorTurnedAU
import Derived.Test.YtihndbkaoejnnaaGreatDoorTurnedAV
set_option linter.unusedSimpArgs false
set_option linter.unusedVariables false
namespace Go.Proofs.YtihndbkaoejnnaaGreatDoor
open Go Go.RowKit Go.Proofs.YtihndbkaoejnnaaGreatDoor.P

theorem ok_line {a : Arr} (h : arrErr a = 0 ∧ a.sh.length = 1) : ∃ k, Ok a [k] := by
  obtain ⟨t, ht⟩ := ok_of_arrErr h.1
  have hlt : t.length = 1 := by rw [← length_ints, ← ht.sh]; exact h.2
  obtain ⟨k, rfl⟩ := List.length_eq_one_iff.1 hlt
  exact ⟨k, ht⟩
theorem line_turn6_is : LineOf line_turn6 [] ⟨false, [], [32]⟩ :=
  have h1 : Ok ⟨false, [3], [1, 2, 3]⟩ [3] := ⟨rfl, ⟨by simp, by simp, by simp [prod]⟩, by simp [prod], fun e => by cases e⟩
  have h2 : Ok ⟨false, [3], [4, 5, 6]⟩ [3] := ⟨rfl, ⟨by simp, by simp, by simp [prod]⟩, by simp [prod], fun e => by cases e⟩
  ⟨by decide, toks_turn6, nodes_turn6, 3, lexes_turn6, by decide, parsed_turn6, walked_turn6, val_turn6 (by have e := act_inner1 h1 h2 rfl rfl; rw [show innerD [1, 2, 3] [4, 5, 6] 3 1 1 = [32] by decide +kernel] at e; exact e), by decide⟩
theorem line_turnp_is {a b : Arr} {p L r : Nat} (h1 : Ok a [p, L]) (h2 : Ok b [L, r]) (hca : a.ch = false) (hcb : b.ch = false) (hg : GoodSh [p, r]) : LineOf line_turnp [(⟨#[109]⟩, a), (⟨#[110]⟩, b)] (flip [1, 0] ⟨false, [(p : Int), (r : Int)], innerD a.da b.da L (p * r) r⟩) :=
  ⟨by decide, toks_turnp, nodes_turnp, 4, lexes_turnp, by decide, parsed_turnp, walked_turnp, val_turnp (bd_first _ a _) (bd_second a b (by decide)) (act_inner2 h1 h2 hca hcb hg) (act_flip (innerD_ok hg)), by decide⟩
theorem line_turnq_is {a b : Arr} {p L r : Nat} (h1 : Ok a [p, L]) (h2 : Ok b [L, r]) (hca : a.ch = false) (hcb : b.ch = false) (hg : GoodSh [p, r]) : LineOf line_turnq [(⟨#[109]⟩, a), (⟨#[110]⟩, b)] (flip [1, 0] ⟨false, [(p : Int), (r : Int)], innerD a.da b.da L (p * r) r⟩) :=
  have hg2 : GoodSh [r, p] := ⟨by simp, fun n hn => hg.2.1 n (by simp at hn ⊢; exact hn.symm), by have := hg.2.2; simp only [prod] at this ⊢; rw [Nat.mul_one] at this ⊢; rw [Nat.mul_comm]; exact this⟩
  ⟨by decide, toks_turnq, nodes_turnq, 5, lexes_turnq, by decide, parsed_turnq, walked_turnq, val_turnq (bd_second a b (by decide)) (act_flip h2) (bd_first _ a _) (act_flip h1) (turned h1 h2 hg ▸ act_inner2 (flip_ok2 h2) (flip_ok2 h1) hcb hca hg2), by decide⟩
theorem line_turni_is {a b : Arr} {n : Nat} (h1 : Ok a [n]) (h2 : Ok b [n]) (hca : a.ch = false) (hcb : b.ch = false) : LineOf line_turni [(⟨#[109]⟩, a), (⟨#[110]⟩, b)] ⟨false, [], innerD a.da b.da n 1 1⟩ :=
  ⟨by decide, toks_turni, nodes_turni, 3, lexes_turni, by decide, parsed_turni, walked_turni, val_turni (bd_first _ a _) (bd_second a b (by decide)) (act_inner1 h1 h2 hca hcb), by decide⟩
theorem line_turns_is {a b : Arr} {n : Nat} (h1 : Ok a [n]) (h2 : Ok b [n]) (hca : a.ch = false) (hcb : b.ch = false) (hw : Wf b.da) : LineOf line_turns [(⟨#[109]⟩, a), (⟨#[110]⟩, b)] ⟨false, [], innerD a.da b.da n 1 1⟩ :=
  have a0 : ActOne 1 1 0 (zipA 3 a b) ⟨false, [], innerD a.da b.da n 1 1⟩ := by
    rw [dot_lists h1 hca hcb]
    exact act_fold (.inl rfl) (zip_okN h1) rfl (zip_wf3 hca hcb) (sum_no_err _)
  ⟨by decide, toks_turns, nodes_turns, 4, lexes_turns, by decide, parsed_turns, walked_turns, val_turns (bd_first _ a _) (bd_second a b (by decide)) (act_zip (.inr (.inr (.inl rfl))) h1 h2 (.inr ⟨hca, hcb⟩) hw) a0, by decide⟩

set_option maxRecDepth 100000 in
set_option maxHeartbeats 16000000 in
theorem topTurned_walk (V V' : Value) (a b : Arr) (W : World) (hst : Std W) (ha : IsArr W V a) (hb : IsArr W V' b) (hw : Wf a.da) (hw2 : Wf b.da) : Calls Tryz.prog 5 #[V, V'] W (TrueB W) := by
  obtain ⟨A, ca, D, cd, rfl, -, -⟩ := ha.open_
  obtain ⟨A', ca', D', cd', rfl, -, -⟩ := hb.open_
  obtain ⟨n, hn⟩ : ∃ n, n = a.sh.length := ⟨_, rfl⟩
  obtain ⟨m, hm⟩ : ∃ m, m = a.da.length := ⟨_, rfl⟩
  obtain ⟨n', hn2⟩ : ∃ n, n = b.sh.length := ⟨_, rfl⟩
  obtain ⟨m', hm2⟩ : ∃ m, m = b.da.length := ⟨_, rfl⟩
  rw [← hn, ← hm] at ha ⊢
  rw [← hn2, ← hm2] at hb ⊢
  have HA := Lib.hid ha
  have HB := Lib.hid hb
  have HN := Lib.hid hn
  have HM := Lib.hid hm
  have HN2 := Lib.hid hn2
  have HM2 := Lib.hid hm2
  have HST := Lib.hid hst
  have HW := Lib.hid hw
  have HW2 := Lib.hid hw2
  have hmx := mixedZ
  clear ha hb hn hm hn2 hm2 hst hw hw2
  have hb0 := below_two W (.cells #[.bool a.ch, .slice A n ca, .slice D m cd] 25) (.cells #[.bool b.ch, .slice A' n' ca', .slice D' m' cd'] 25)
  have hx := (Box.new W 25 #[.bool a.ch, .slice A n ca, .slice D m cd]).alloc (.cells #[.bool b.ch, .slice A' n' ca', .slice D' m' cd'] 25)
  have hy := Box.new (W.alloc (.cells #[.bool a.ch, .slice A n ca, .slice D m cd] 25)) 25 #[.bool b.ch, .slice A' n' ca', .slice D' m' cd']
  simp only [World.size_alloc] at hy
  go_enter Tryz.func5, Tryz.ntmps5
  go_wp2_with fail
  refine num_is.mono ?_
  rintro e w1 ⟨r, rfl, hr, hb1⟩
  have HR := Lib.hid hr
  have hbw1 := hb0.trans (hb1.mono hb0.size)
  have x1 := hx.below hb1
  have y1 := hy.below hb1
  obtain ⟨A2, c2, D2, d2, rfl, -, -⟩ := hr.open_
  clear hb1 hr hx hy hb0
  go_wp2_with fail
  refine (tells_true (HST.out.below hbw1) (wsAt_nil _) wsOk_nil line_turn6_is HR.out rfl).mono ?_
  rintro e w2 ⟨rfl, hb2⟩
  have x2 := x1.below hb2
  have y2 := y1.below hb2
  have HBW := Lib.hid (hbw1.trans (hb2.mono hbw1.size))
  have HX := Lib.hid (fun wx (h : Below w2.heap.size w2 wx) => (show wx.cell? ⟨W.heap.size, 0, none⟩ = some (.bool a.ch) ∧ wx.cell? ⟨W.heap.size, 1, none⟩ = some (.slice A n ca) ∧ wx.cell? ⟨W.heap.size, 2, none⟩ = some (.slice D m cd) ∧ wx.cell? ⟨W.heap.size + 1, 0, none⟩ = some (.bool b.ch) ∧ wx.cell? ⟨W.heap.size + 1, 1, none⟩ = some (.slice A' n' ca') ∧ wx.cell? ⟨W.heap.size + 1, 2, none⟩ = some (.slice D' m' cd') ∧ W.heap.size < wx.heap.size ∧ W.heap.size + 1 < wx.heap.size from ⟨(x2.below h).three.1, (x2.below h).three.2.1, (x2.below h).three.2.2, (y2.below h).three.1, (y2.below h).three.2.1, (y2.below h).three.2.2, (x2.below h).lt, (y2.below h).lt⟩))
  obtain ⟨z0, z1, z2, u0, u1, u2, zl, ul⟩ := HX.out w2 (Below.refl _ _)
  clear hb2 x1 y1 hbw1 x2 y2
  by_cases hg1 : GridOk a
  case neg =>
    have HG1 := Lib.hid hg1
    clear hg1
    go_wp2_with fail
    have hRel : Rels (fun w w' => Below w.heap.size w w') := rels_below
    obtain ⟨V, hVe⟩ : ∃ V : Nat → Value → World → Prop, V = fun i v w' => match i with
        | 0 => v = .agg #[.bool a.ch, .slice A n ca, .slice D m cd]
        | 1 => v = .bool false
        | 2 => v = .bool false
        | 5 => v = .bool false
        | 6 => v = .bool false
        | 16 => v = .bool false
        | _ => True := ⟨_, rfl⟩
    have hVm : ∀ j v w1 w2, V j v w1 → (fun w w' => Below w.heap.size w w') w1 w2 → V j v w2 := by
      intro j v w1 w2 h hr
      subst hVe
      match j, h with
      | 0, h => exact h
      | 1, h => exact h
      | 2, h => exact h
      | 3, _ => trivial
      | 4, _ => trivial
      | 5, h => exact h
      | 6, h => exact h
      | 7, _ => trivial
      | 8, _ => trivial
      | 9, _ => trivial
      | 10, _ => trivial
      | 11, _ => trivial
      | 12, _ => trivial
      | 13, _ => trivial
      | 14, _ => trivial
      | 15, _ => trivial
      | 16, h => exact h
      | i + 17, _ => trivial
    have hV0 : ∀ v w', V 0 v w' ↔ v = .agg #[.bool a.ch, .slice A n ca, .slice D m cd] := fun _ _ => by subst hVe; rfl
    have hV1 : ∀ v w', V 1 v w' ↔ v = .bool false := fun _ _ => by subst hVe; rfl
    have hV2 : ∀ v w', V 2 v w' ↔ v = .bool false := fun _ _ => by subst hVe; rfl
    have hV5 : ∀ v w', V 5 v w' ↔ v = .bool false := fun _ _ => by subst hVe; rfl
    have hV6 : ∀ v w', V 6 v w' ↔ v = .bool false := fun _ _ => by subst hVe; rfl
    have hV16 : ∀ v w', V 16 v w' ↔ v = .bool false := fun _ _ => by subst hVe; rfl
    have hV3 : ∀ v w', V 3 v w' := fun _ _ => by subst hVe; trivial
    have hV4 : ∀ v w', V 4 v w' := fun _ _ => by subst hVe; trivial
    have hV7 : ∀ v w', V 7 v w' := fun _ _ => by subst hVe; trivial
    have hV8 : ∀ v w', V 8 v w' := fun _ _ => by subst hVe; trivial
    have hV9 : ∀ v w', V 9 v w' := fun _ _ => by subst hVe; trivial
    have hV10 : ∀ v w', V 10 v w' := fun _ _ => by subst hVe; trivial
    have hV11 : ∀ v w', V 11 v w' := fun _ _ => by subst hVe; trivial
    have hV12 : ∀ v w', V 12 v w' := fun _ _ => by subst hVe; trivial
    have hV13 : ∀ v w', V 13 v w' := fun _ _ => by subst hVe; trivial
    have hV14 : ∀ v w', V 14 v w' := fun _ _ => by subst hVe; trivial
    have hV15 : ∀ v w', V 15 v w' := fun _ _ => by subst hVe; trivial
    obtain ⟨St, hSe⟩ : ∃ St : Nat → (Nat → Value) → World → Prop, St = fun s u w' => match s with
        | 0 => True
        | _ => False := ⟨_, rfl⟩
    have hSm : ∀ s u u' w1 w2, (∀ c ∈ [], u' c = u c) → St s u w1 → Below w1.heap.size w1 w2 → St s u' w2 := by
      intro s u u' w1 w2 hu h hb
      subst hSe
      match s, h with
      | 0, h => trivial
      | s + 1, h => exact h.elim
    have hS0 : ∀ u w', St 0 u w' ↔ (True) := fun _ _ => by subst hSe; rfl
    clear hVe hSe
    refine wp_region_inv (ChainInv (fun w w' => Below w.heap.size w w') V [] St w2) (by kernel_rfl) (by kernel_rfl) (by kernel_rfl) ?start ?step ?fin
    case start => exact fun u => ChainInv.start hRel (Below.refl _ _).drew ((hS0 _ _).2 (trivial))
    case step =>
      simp only [putAll, Act.put, List.setIfInBounds_toArray, List.set_cons_zero, List.set_cons_succ, Nat.reduceAdd, Nat.zero_add]
      intro i o ho done u wr hnd hdep hI K hK
      obtain ⟨z0, z1, z2, u0, u1, u2, zl, ul⟩ := HX.out wr hI.1
      match i, ho with
      | 0, ho =>
        simp only [List.getElem?_cons_zero, Option.some.injEq] at ho
        subst ho
        simp only [Act.put, List.setIfInBounds_toArray, List.set_cons_zero, List.set_cons_succ] at hK
        refine wpOp_step rfl fun K' hK' => ?_
        go_simp
        exact hK' _ _ (hK _ _ (hI.quiet hRel hnd (by decide) hVm hSm (Below.refl _ _) ((hV0 _ _).2 rfl)))
      | 1, ho =>
        simp only [List.getElem?_cons_succ, List.getElem?_cons_zero, Option.some.injEq] at ho
        subst ho
        simp only [Act.put, List.setIfInBounds_toArray, List.set_cons_zero, List.set_cons_succ] at hK
        have e0 := (hV0 _ _).1 (hI.know (hdep ⟨0, .data⟩ (by simp) rfl))
        simp only [e0] at hK
        refine wpOp_step rfl fun K' hK' => ?_
        go_simp
        refine (grid_is (HA.out.mono (HBW.out.trans (hI.1.mono HBW.out.size)))).mono ?_
        rintro e w5 ⟨r, rfl, hr, hb5⟩
        obtain rfl : r = false := by cases r with | false => rfl | true => exact absurd (hr.1 rfl) HG1.out
        exact hK' _ _ (hK _ _ (hI.quiet hRel hnd (by decide) hVm hSm hb5 ((hV1 _ _).2 rfl)))
      | 2, ho =>
        simp only [List.getElem?_cons_succ, List.getElem?_cons_zero, Option.some.injEq] at ho
        subst ho
        simp only [Act.put, List.setIfInBounds_toArray, List.set_cons_zero, List.set_cons_succ] at hK
        have e1 := (hV1 _ _).1 (hI.know (hdep ⟨1, .data⟩ (by simp) rfl))
        simp only [e1] at hK
        refine wpOp_step rfl fun K' hK' => ?_
        go_simp
        exact hK' _ _ (hK _ _ (hI.quiet hRel hnd (by decide) hVm hSm (Below.refl _ _) ((hV2 _ _).2 rfl)))
      | 3, ho =>
        simp only [List.getElem?_cons_succ, List.getElem?_cons_zero, Option.some.injEq] at ho
        subst ho
        simp only [Act.put, List.setIfInBounds_toArray, List.set_cons_zero, List.set_cons_succ] at hK
        have e2 := (hV2 _ _).1 (hI.know (hdep ⟨2, .guard⟩ (by simp) rfl))
        simp only [e2] at hK
        refine wpOp_step rfl fun K' hK' => ?_
        go_simp
        exact hK' _ _ (hK _ _ (hI.quiet hRel hnd (by decide) hVm hSm (Below.refl _ _) (hV3 _ _)))
      | 4, ho =>
        simp only [List.getElem?_cons_succ, List.getElem?_cons_zero, Option.some.injEq] at ho
        subst ho
        simp only [Act.put, List.setIfInBounds_toArray, List.set_cons_zero, List.set_cons_succ] at hK
        have e2 := (hV2 _ _).1 (hI.know (hdep ⟨2, .guard⟩ (by simp) rfl))
        simp only [e2] at hK
        refine wpOp_step rfl fun K' hK' => ?_
        go_simp
        exact hK' _ _ (hK _ _ (hI.quiet hRel hnd (by decide) hVm hSm (Below.refl _ _) (hV4 _ _)))
      | 5, ho =>
        simp only [List.getElem?_cons_succ, List.getElem?_cons_zero, Option.some.injEq] at ho
        subst ho
        simp only [Act.put, List.setIfInBounds_toArray, List.set_cons_zero, List.set_cons_succ] at hK
        have e2 := (hV2 _ _).1 (hI.know (hdep ⟨2, .data⟩ (by simp) rfl))
        simp only [e2] at hK
        refine wpOp_step rfl fun K' hK' => ?_
        go_simp
        exact hK' _ _ (hK _ _ (hI.quiet hRel hnd (by decide) hVm hSm (Below.refl _ _) ((hV5 _ _).2 rfl)))
      | 6, ho =>
        simp only [List.getElem?_cons_succ, List.getElem?_cons_zero, Option.some.injEq] at ho
        subst ho
        simp only [Act.put, List.setIfInBounds_toArray, List.set_cons_zero, List.set_cons_succ] at hK
        have e5 := (hV5 _ _).1 (hI.know (hdep ⟨5, .data⟩ (by simp) rfl))
        simp only [e5] at hK
        refine wpOp_step rfl fun K' hK' => ?_
        go_simp
        exact hK' _ _ (hK _ _ (hI.quiet hRel hnd (by decide) hVm hSm (Below.refl _ _) ((hV6 _ _).2 rfl)))
      | 7, ho =>
        simp only [List.getElem?_cons_succ, List.getElem?_cons_zero, Option.some.injEq] at ho
        subst ho
        simp only [Act.put, List.setIfInBounds_toArray, List.set_cons_zero, List.set_cons_succ] at hK
        have e6 := (hV6 _ _).1 (hI.know (hdep ⟨6, .guard⟩ (by simp) rfl))
        simp only [e6] at hK
        refine wpOp_step rfl fun K' hK' => ?_
        go_simp
        exact hK' _ _ (hK _ _ (hI.quiet hRel hnd (by decide) hVm hSm (Below.refl _ _) (hV7 _ _)))
      | 8, ho =>
        simp only [List.getElem?_cons_succ, List.getElem?_cons_zero, Option.some.injEq] at ho
        subst ho
        simp only [Act.put, List.setIfInBounds_toArray, List.set_cons_zero, List.set_cons_succ] at hK
        have e6 := (hV6 _ _).1 (hI.know (hdep ⟨6, .guard⟩ (by simp) rfl))
        simp only [e6] at hK
        refine wpOp_step rfl fun K' hK' => ?_
        go_simp
        exact hK' _ _ (hK _ _ (hI.quiet hRel hnd (by decide) hVm hSm (Below.refl _ _) (hV8 _ _)))
      | 9, ho =>
        simp only [List.getElem?_cons_succ, List.getElem?_cons_zero, Option.some.injEq] at ho
        subst ho
        simp only [Act.put, List.setIfInBounds_toArray, List.set_cons_zero, List.set_cons_succ] at hK
        have e6 := (hV6 _ _).1 (hI.know (hdep ⟨6, .guard⟩ (by simp) rfl))
        simp only [e6] at hK
        refine wpOp_step rfl fun K' hK' => ?_
        go_simp
        exact hK' _ _ (hK _ _ (hI.quiet hRel hnd (by decide) hVm hSm (Below.refl _ _) (hV9 _ _)))
      | 10, ho =>
        simp only [List.getElem?_cons_succ, List.getElem?_cons_zero, Option.some.injEq] at ho
        subst ho
        simp only [Act.put, List.setIfInBounds_toArray, List.set_cons_zero, List.set_cons_succ] at hK
        have e6 := (hV6 _ _).1 (hI.know (hdep ⟨6, .guard⟩ (by simp) rfl))
        simp only [e6] at hK
        refine wpOp_step rfl fun K' hK' => ?_
        go_simp
        exact hK' _ _ (hK _ _ (hI.quiet hRel hnd (by decide) hVm hSm (Below.refl _ _) (hV10 _ _)))
      | 11, ho =>
        simp only [List.getElem?_cons_succ, List.getElem?_cons_zero, Option.some.injEq] at ho
        subst ho
        simp only [Act.put, List.setIfInBounds_toArray, List.set_cons_zero, List.set_cons_succ] at hK
        have e6 := (hV6 _ _).1 (hI.know (hdep ⟨6, .guard⟩ (by simp) rfl))
        simp only [e6] at hK
        refine wpOp_step rfl fun K' hK' => ?_
        go_simp
        exact hK' _ _ (hK _ _ (hI.quiet hRel hnd (by decide) hVm hSm (Below.refl _ _) (hV11 _ _)))
      | 12, ho =>
        simp only [List.getElem?_cons_succ, List.getElem?_cons_zero, Option.some.injEq] at ho
        subst ho
        simp only [Act.put, List.setIfInBounds_toArray, List.set_cons_zero, List.set_cons_succ] at hK
        have e6 := (hV6 _ _).1 (hI.know (hdep ⟨6, .guard⟩ (by simp) rfl))
        simp only [e6] at hK
        refine wpOp_step rfl fun K' hK' => ?_
        go_simp
        exact hK' _ _ (hK _ _ (hI.quiet hRel hnd (by decide) hVm hSm (Below.refl _ _) (hV12 _ _)))
      | 13, ho =>
        simp only [List.getElem?_cons_succ, List.getElem?_cons_zero, Option.some.injEq] at ho
        subst ho
        simp only [Act.put, List.setIfInBounds_toArray, List.set_cons_zero, List.set_cons_succ] at hK
        have e6 := (hV6 _ _).1 (hI.know (hdep ⟨6, .guard⟩ (by simp) rfl))
        simp only [e6] at hK
        refine wpOp_step rfl fun K' hK' => ?_
        go_simp
        exact hK' _ _ (hK _ _ (hI.quiet hRel hnd (by decide) hVm hSm (Below.refl _ _) (hV13 _ _)))
      | 14, ho =>
        simp only [List.getElem?_cons_succ, List.getElem?_cons_zero, Option.some.injEq] at ho
        subst ho
        simp only [Act.put, List.setIfInBounds_toArray, List.set_cons_zero, List.set_cons_succ] at hK
        have e6 := (hV6 _ _).1 (hI.know (hdep ⟨6, .guard⟩ (by simp) rfl))
        simp only [e6] at hK
        refine wpOp_step rfl fun K' hK' => ?_
        go_simp
        exact hK' _ _ (hK _ _ (hI.quiet hRel hnd (by decide) hVm hSm (Below.refl _ _) (hV14 _ _)))
      | 15, ho =>
        simp only [List.getElem?_cons_succ, List.getElem?_cons_zero, Option.some.injEq] at ho
        subst ho
        simp only [Act.put, List.setIfInBounds_toArray, List.set_cons_zero, List.set_cons_succ] at hK
        have e6 := (hV6 _ _).1 (hI.know (hdep ⟨6, .guard⟩ (by simp) rfl))
        simp only [e6] at hK
        refine wpOp_step rfl fun K' hK' => ?_
        go_simp
        exact hK' _ _ (hK _ _ (hI.quiet hRel hnd (by decide) hVm hSm (Below.refl _ _) (hV15 _ _)))
      | 16, ho =>
        simp only [List.getElem?_cons_succ, List.getElem?_cons_zero, Option.some.injEq] at ho
        subst ho
        simp only [Act.put, List.setIfInBounds_toArray, List.set_cons_zero, List.set_cons_succ] at hK
        have e6 := (hV6 _ _).1 (hI.know (hdep ⟨6, .data⟩ (by simp) rfl))
        simp only [e6] at hK
        refine wpOp_step rfl fun K' hK' => ?_
        go_simp
        exact hK' _ _ (hK _ _ (hI.quiet hRel hnd (by decide) hVm hSm (Below.refl _ _) ((hV16 _ _).2 rfl)))
      | i + 17, ho => simp at ho
    case fin =>
      simp only [putAll, Act.put, List.setIfInBounds_toArray, List.set_cons_zero, List.set_cons_succ, Nat.reduceAdd, Nat.zero_add]
      intro done u wr hd hI
      simp only [List.length_cons, List.length_nil, Nat.reduceAdd, Nat.zero_add] at hd
      have hS := (hS0 _ _).1 (hI.end_ (fun c hc => hd c (by simp at hc)))
      have e16 := (hV16 _ _).1 (hI.know (hd 16 (by omega)))
      have hbr := hI.1
      simp only [e16]
      obtain ⟨w4, rfl⟩ : ∃ X : World, X = wr := ⟨_, rfl⟩
      obtain ⟨z0, z1, z2, u0, u1, u2, zl, ul⟩ := HX.out w4 hbr
      have hbw4 := HBW.out.trans (hbr.mono HBW.out.size)
      have HXZ := Lib.hid (fun (wx : World) (h : Below w4.heap.size w4 wx) => HX.out wx (hbr.trans (h.mono hbr.size)))
      clear hI hd hS hVm hSm hS0 hRel hV0 hV1 hV2 hV3 hV4 hV5 hV6 hV7 hV8 hV9 hV10 hV11 hV12 hV13 hV14 hV15 hV16 e16 hbr
      have HXX := Lib.hid (fun (wx : World) (_ : Below W.heap.size W wx) (h : Below w4.heap.size w4 wx) => (show wx.cell? ⟨W.heap.size, 0, none⟩ = some (.bool a.ch) ∧ wx.cell? ⟨W.heap.size, 1, none⟩ = some (.slice A n ca) ∧ wx.cell? ⟨W.heap.size, 2, none⟩ = some (.slice D m cd) ∧ wx.cell? ⟨W.heap.size + 1, 0, none⟩ = some (.bool b.ch) ∧ wx.cell? ⟨W.heap.size + 1, 1, none⟩ = some (.slice A' n' ca') ∧ wx.cell? ⟨W.heap.size + 1, 2, none⟩ = some (.slice D' m' cd') ∧ W.heap.size < wx.heap.size ∧ W.heap.size + 1 < wx.heap.size from HXZ.out wx h))
      go_wp2_with fail
      refine (list_is (HA.out.mono hbw4)).mono ?_
      rintro e w5 ⟨rfl, hb5⟩
      have hbw5 := hbw4.trans (hb5.mono hbw4.size)
      have hb45 := hb5
      clear z0 z1 z2 u0 u1 u2 zl ul
      obtain ⟨z0, z1, z2, u0, u1, u2, zl, ul⟩ := HXX.out w5 hbw5 (hb45)
      obtain ⟨B1, hB1⟩ : ∃ B, B = decide (arrErr a = 0 ∧ a.sh.length = 1) := ⟨_, rfl⟩
      rw [← hB1]
      have HB1 := Lib.hid hB1
      clear hB1 hb5
      go_wp2_with fail
      refine (list_is (HB.out.mono hbw5)).mono ?_
      rintro e w6 ⟨rfl, hb6⟩
      have hbw6 := hbw5.trans (hb6.mono hbw5.size)
      have hb46 := hb45.trans (hb6.mono hb45.size)
      clear z0 z1 z2 u0 u1 u2 zl ul hb6
      obtain ⟨z0, z1, z2, u0, u1, u2, zl, ul⟩ := HXX.out w6 hbw6 hb46
      obtain ⟨B2, hB2⟩ : ∃ B, B = decide (arrErr b = 0 ∧ b.sh.length = 1) := ⟨_, rfl⟩
      rw [← hB2]
      have HB2 := Lib.hid hB2
      clear hB2 hb45 hbw5 hbw4
      cases B1 with
      | false =>
        cases B2
        all_goals
          go_wp2_with fail
          go_ret
          exact ⟨rfl, hbw6⟩
      | true =>
        cases B2 with
        | false =>
          go_wp2_with fail
          go_ret
          exact ⟨rfl, hbw6⟩
        | true =>
          have HL1 := Lib.hid (of_decide_eq_true HB1.out.symm)
          have HL2 := Lib.hid (of_decide_eq_true HB2.out.symm)
          cases hc : a.ch with
          | true =>
            rw [hc] at z0
            go_wp2_with fail
            go_ret
            exact ⟨rfl, hbw6⟩
          | false =>
            cases hc2 : b.ch with
            | true =>
              rw [hc] at z0
              rw [hc2] at u0
              go_wp2_with fail
              go_ret
              exact ⟨rfl, hbw6⟩
            | false =>
              by_cases hmm : m' = m
              case neg =>
                have e1 : ((m : Int) == (m' : Int)) = false := by rw [beq_eq_false_iff_ne]; omega
                have e2 : ¬ (m : Int) = (m' : Int) := by omega
                have e3 : decide ((m : Int) = (m' : Int)) = false := decide_eq_false e2
                rw [hc] at z0
                rw [hc2] at u0
                clear hmm
                go_wp2_with fail
                go_ret
                exact ⟨rfl, hbw6⟩
              subst hmm
              have HC1 := Lib.hid hc
              have HC2 := Lib.hid hc2
              obtain ⟨X, hX⟩ : ∃ X : Arr, X = ⟨false, [], innerD a.da b.da m' 1 1⟩ := ⟨_, rfl⟩
              have HWF1 := HW.out
              have HWF2 := HW2.out
              have key : LineOf line_turni [(⟨#[109]⟩, a), (⟨#[110]⟩, b)] X ∧ LineOf line_turns [(⟨#[109]⟩, a), (⟨#[110]⟩, b)] X ∧ WsOk [(⟨#[109]⟩, a), (⟨#[110]⟩, b)] := by
                obtain ⟨k, hk⟩ := ok_line HL1.out
                obtain ⟨k2, hk2⟩ := ok_line HL2.out
                have hkm : m' = k := by rw [HM.out, hk.len]; simp [prod]
                have hkm2 : m' = k2 := by rw [HM2.out, hk2.len]; simp [prod]
                subst hkm hkm2
                rw [hX]
                exact ⟨line_turni_is hk hk2 HC1.out HC2.out, line_turns_is hk hk2 HC1.out HC2.out HWF2, wsOk_two (nameOk_of (by decide +kernel)) (nameOk_of (by decide +kernel)) (by decide) hk hk2⟩
              have HLI := Lib.hid key.1
              have HLS := Lib.hid key.2.1
              have HWO := Lib.hid key.2.2
              have HX6 := Lib.hid (fun (wx : World) (h : Below w6.heap.size w6 wx) => HXX.out wx (hbw6.trans (h.mono hbw6.size)) (hb46.trans (h.mono hb46.size)))
              rw [hc] at z0
              rw [hc2] at u0
              rw [hc, hc2] at HX6
              clear key hX HWF1 HWF2 hc hc2 hb46
              go_wp2_with fail
              have hRel : Rels (fun w w' => Below w.heap.size w w') := rels_below
              obtain ⟨V, hVe⟩ : ∃ V : Nat → Value → World → Prop, V = fun i v w' => match i with
                  | 0 => v = .agg #[.bool false, .slice A n ca, .slice D m' cd]
                  | 1 => v = .agg #[.string ⟨#[109]⟩, .bool false, .slice A n ca, .slice D m' cd]
                  | 2 => v = .agg #[.bool false, .slice A' n' ca', .slice D' m' cd']
                  | 3 => v = .agg #[.string ⟨#[110]⟩, .bool false, .slice A' n' ca', .slice D' m' cd']
                  | 4 => ∃ g, v = .slice (some ⟨g, 0, none⟩) 2 2 ∧ Box w' g 35 #[.string ⟨#[109]⟩, .bool false, .slice A n ca, .slice D m' cd, .string ⟨#[110]⟩, .bool false, .slice A' n' ca', .slice D' m' cd']
                  | 5 => ∃ g, v = .slice (some ⟨g, 0, none⟩) 2 2 ∧ Box w' g 35 #[.string ⟨#[109]⟩, .bool false, .slice A n ca, .slice D m' cd, .string ⟨#[110]⟩, .bool false, .slice A' n' ca', .slice D' m' cd']
                  | _ => True := ⟨_, rfl⟩
              have hVm : ∀ j v w1 w2, V j v w1 → (fun w w' => Below w.heap.size w w') w1 w2 → V j v w2 := by
                intro j v w1 w2 h hr
                subst hVe
                match j, h with
                | 0, h => exact h
                | 1, h => exact h
                | 2, h => exact h
                | 3, h => exact h
                | 4, ⟨g, e, h⟩ => exact ⟨g, e, h.below hr⟩
                | 5, ⟨g, e, h⟩ => exact ⟨g, e, h.below hr⟩
                | i + 6, _ => trivial
              have hV0 : ∀ v w', V 0 v w' ↔ v = .agg #[.bool false, .slice A n ca, .slice D m' cd] := fun _ _ => by subst hVe; rfl
              have hV1 : ∀ v w', V 1 v w' ↔ v = .agg #[.string ⟨#[109]⟩, .bool false, .slice A n ca, .slice D m' cd] := fun _ _ => by subst hVe; rfl
              have hV2 : ∀ v w', V 2 v w' ↔ v = .agg #[.bool false, .slice A' n' ca', .slice D' m' cd'] := fun _ _ => by subst hVe; rfl
              have hV3 : ∀ v w', V 3 v w' ↔ v = .agg #[.string ⟨#[110]⟩, .bool false, .slice A' n' ca', .slice D' m' cd'] := fun _ _ => by subst hVe; rfl
              have hV4 : ∀ v w', V 4 v w' ↔ ∃ g, v = .slice (some ⟨g, 0, none⟩) 2 2 ∧ Box w' g 35 #[.string ⟨#[109]⟩, .bool false, .slice A n ca, .slice D m' cd, .string ⟨#[110]⟩, .bool false, .slice A' n' ca', .slice D' m' cd'] := fun _ _ => by subst hVe; rfl
              have hV5 : ∀ v w', V 5 v w' ↔ ∃ g, v = .slice (some ⟨g, 0, none⟩) 2 2 ∧ Box w' g 35 #[.string ⟨#[109]⟩, .bool false, .slice A n ca, .slice D m' cd, .string ⟨#[110]⟩, .bool false, .slice A' n' ca', .slice D' m' cd'] := fun _ _ => by subst hVe; rfl
              obtain ⟨St, hSe⟩ : ∃ St : Nat → (Nat → Value) → World → Prop, St = fun s u w' => match s with
                  | 0 => True
                  | _ => False := ⟨_, rfl⟩
              have hSm : ∀ s u u' w1 w2, (∀ c ∈ [], u' c = u c) → St s u w1 → Below w1.heap.size w1 w2 → St s u' w2 := by
                intro s u u' w1 w2 hu h hb
                subst hSe
                match s, h with
                | 0, h => trivial
                | s + 1, h => exact h.elim
              have hS0 : ∀ u w', St 0 u w' ↔ (True) := fun _ _ => by subst hSe; rfl
              clear hVe hSe
              refine wp_region_inv (ChainInv (fun w w' => Below w.heap.size w w') V [] St w6) (by kernel_rfl) (by kernel_rfl) (by kernel_rfl) ?start ?step ?fin
              case start => exact fun u => ChainInv.start hRel (Below.refl _ _).drew ((hS0 _ _).2 (trivial))
              case step =>
                simp only [putAll, Act.put, List.setIfInBounds_toArray, List.set_cons_zero, List.set_cons_succ, Nat.reduceAdd, Nat.zero_add]
                intro i o ho done u wr hnd hdep hI K hK
                obtain ⟨z0, z1, z2, u0, u1, u2, zl, ul⟩ := HX6.out wr hI.1
                match i, ho with
                | 0, ho =>
                  simp only [List.getElem?_cons_zero, Option.some.injEq] at ho
                  subst ho
                  simp only [Act.put, List.setIfInBounds_toArray, List.set_cons_zero, List.set_cons_succ] at hK
                  refine wpOp_step rfl fun K' hK' => ?_
                  go_simp
                  exact hK' _ _ (hK _ _ (hI.quiet hRel hnd (by decide) hVm hSm (Below.refl _ _) ((hV0 _ _).2 rfl)))
                | 1, ho =>
                  simp only [List.getElem?_cons_succ, List.getElem?_cons_zero, Option.some.injEq] at ho
                  subst ho
                  simp only [Act.put, List.setIfInBounds_toArray, List.set_cons_zero, List.set_cons_succ] at hK
                  have e0 := (hV0 _ _).1 (hI.know (hdep ⟨0, .data⟩ (by simp) rfl))
                  simp only [e0] at hK
                  refine wpOp_step rfl fun K' hK' => ?_
                  go_simp
                  refine bind_any.mono ?_
                  rintro e w6 ⟨rfl, hb6⟩
                  exact hK' _ _ (hK _ _ (hI.quiet hRel hnd (by decide) hVm hSm hb6 ((hV1 _ _).2 rfl)))
                | 2, ho =>
                  simp only [List.getElem?_cons_succ, List.getElem?_cons_zero, Option.some.injEq] at ho
                  subst ho
                  simp only [Act.put, List.setIfInBounds_toArray, List.set_cons_zero, List.set_cons_succ] at hK
                  refine wpOp_step rfl fun K' hK' => ?_
                  go_simp
                  exact hK' _ _ (hK _ _ (hI.quiet hRel hnd (by decide) hVm hSm (Below.refl _ _) ((hV2 _ _).2 rfl)))
                | 3, ho =>
                  simp only [List.getElem?_cons_succ, List.getElem?_cons_zero, Option.some.injEq] at ho
                  subst ho
                  simp only [Act.put, List.setIfInBounds_toArray, List.set_cons_zero, List.set_cons_succ] at hK
                  have e2 := (hV2 _ _).1 (hI.know (hdep ⟨2, .data⟩ (by simp) rfl))
                  simp only [e2] at hK
                  refine wpOp_step rfl fun K' hK' => ?_
                  go_simp
                  refine bind_any.mono ?_
                  rintro e w6 ⟨rfl, hb6⟩
                  exact hK' _ _ (hK _ _ (hI.quiet hRel hnd (by decide) hVm hSm hb6 ((hV3 _ _).2 rfl)))
                | 4, ho =>
                  simp only [List.getElem?_cons_succ, List.getElem?_cons_zero, Option.some.injEq] at ho
                  subst ho
                  simp only [Act.put, List.setIfInBounds_toArray, List.set_cons_zero, List.set_cons_succ] at hK
                  have e1 := (hV1 _ _).1 (hI.know (hdep ⟨1, .data⟩ (by simp) rfl))
                  have e3 := (hV3 _ _).1 (hI.know (hdep ⟨3, .data⟩ (by simp) rfl))
                  simp only [e1, e3] at hK
                  refine wpOp_step rfl fun K' hK' => ?_
                  go_simp
                  exact hK' _ _ (hK _ _ (hI.quiet hRel hnd (by decide) hVm hSm (below_one _ _) ((hV4 _ _).2 ⟨_, rfl, Box.new _ _ _⟩)))
                | 5, ho =>
                  simp only [List.getElem?_cons_succ, List.getElem?_cons_zero, Option.some.injEq] at ho
                  subst ho
                  simp only [Act.put, List.setIfInBounds_toArray, List.set_cons_zero, List.set_cons_succ] at hK
                  obtain ⟨g, e4, hx⟩ := (hV4 _ _).1 (hI.know (hdep ⟨4, .data⟩ (by simp) rfl))
                  simp only [e4] at hK
                  refine wpOp_step rfl fun K' hK' => ?_
                  go_simp
                  exact hK' _ _ (hK _ _ (hI.quiet hRel hnd (by decide) hVm hSm (Below.refl _ _) ((hV5 _ _).2 ⟨g, rfl, hx⟩)))
                | i + 6, ho => simp at ho
              case fin =>
                simp only [putAll, Act.put, List.setIfInBounds_toArray, List.set_cons_zero, List.set_cons_succ, Nat.reduceAdd, Nat.zero_add]
                intro done u wr hd hI
                simp only [List.length_cons, List.length_nil, Nat.reduceAdd, Nat.zero_add] at hd
                have hS := (hS0 _ _).1 (hI.end_ (fun c hc => hd c (by simp at hc)))
                obtain ⟨g, e5, hbx⟩ := (hV5 _ _).1 (hI.know (hd 5 (by omega)))
                have hbr := hI.1
                simp only [e5]
                obtain ⟨w7, rfl⟩ : ∃ X : World, X = wr := ⟨_, rfl⟩
                clear hI hd hS hVm hSm hS0 hRel hV0 hV1 hV2 hV3 hV4 hV5 e5
                have hbw7 := hbw6.trans (hbr.mono hbw6.size)
                have HWS := Lib.hid (wsAt_two (a := a) (b := b) (by rw [HC1.out, HC2.out]; exact hbx) (HA.out.mono hbw7) (HB.out.mono hbw7))
                clear hbr hbx
                go_wp2_with fail
                refine (worth_any (HST.out.below hbw7) HWS.out HWO.out HLI.out).mono ?_
                rintro e w8 ⟨r, rfl, hr, hb8⟩
                obtain ⟨A4, c4, D4, d4, rfl, -, -⟩ := hr.open_
                have HV := Lib.hid (IsArr.mono hr (below_one w8 (.cells #[.bool X.ch, .slice A4 X.sh.length c4, .slice D4 X.da.length d4] 25)))
                have HWS8 := Lib.hid ((HWS.out.below hb8).below (below_one w8 (.cells #[.bool X.ch, .slice A4 X.sh.length c4, .slice D4 X.da.length d4] 25)))
                have hbw8 := (hbw7.trans (hb8.mono hbw7.size)).alloc (by have := hbw7.size; have := hb8.size; omega) (.cells #[.bool X.ch, .slice A4 X.sh.length c4, .slice D4 X.da.length d4] 25)
                clear hb8 hr hbw7
                go_wp2_with fail
                refine (tells_true (HST.out.below hbw8) HWS8.out HWO.out HLS.out HV.out rfl).mono ?_
                rintro e w9 ⟨rfl, hb9⟩
                have hbw9 := hbw8.trans (hb9.mono hbw8.size)
                clear hb9 hbw8
                go_wp2_with fail
                go_ret
                exact ⟨rfl, hbw9⟩
  by_cases hg2 : GridOk b
  case neg =>
    have HG1 := Lib.hid hg1
    have HG2 := Lib.hid hg2
    clear hg1 hg2
    go_wp2_with fail
    have hRel : Rels (fun w w' => Below w.heap.size w w') := rels_below
    obtain ⟨V, hVe⟩ : ∃ V : Nat → Value → World → Prop, V = fun i v w' => match i with
        | 0 => v = .agg #[.bool a.ch, .slice A n ca, .slice D m cd]
        | 1 => v = .bool true
        | 2 => v = .bool true
        | 3 => v = .agg #[.bool b.ch, .slice A' n' ca', .slice D' m' cd']
        | 4 => v = .bool false
        | 5 => v = .bool false
        | 6 => v = .bool false
        | 16 => v = .bool false
        | _ => True := ⟨_, rfl⟩
    have hVm : ∀ j v w1 w2, V j v w1 → (fun w w' => Below w.heap.size w w') w1 w2 → V j v w2 := by
      intro j v w1 w2 h hr
      subst hVe
      match j, h with
      | 0, h => exact h
      | 1, h => exact h
      | 2, h => exact h
      | 3, h => exact h
      | 4, h => exact h
      | 5, h => exact h
      | 6, h => exact h
      | 7, _ => trivial
      | 8, _ => trivial
      | 9, _ => trivial
      | 10, _ => trivial
      | 11, _ => trivial
      | 12, _ => trivial
      | 13, _ => trivial
      | 14, _ => trivial
      | 15, _ => trivial
      | 16, h => exact h
      | i + 17, _ => trivial
    have hV0 : ∀ v w', V 0 v w' ↔ v = .agg #[.bool a.ch, .slice A n ca, .slice D m cd] := fun _ _ => by subst hVe; rfl
    have hV1 : ∀ v w', V 1 v w' ↔ v = .bool true := fun _ _ => by subst hVe; rfl
    have hV2 : ∀ v w', V 2 v w' ↔ v = .bool true := fun _ _ => by subst hVe; rfl
    have hV3 : ∀ v w', V 3 v w' ↔ v = .agg #[.bool b.ch, .slice A' n' ca', .slice D' m' cd'] := fun _ _ => by subst hVe; rfl
    have hV4 : ∀ v w', V 4 v w' ↔ v = .bool false := fun _ _ => by subst hVe; rfl
    have hV5 : ∀ v w', V 5 v w' ↔ v = .bool false := fun _ _ => by subst hVe; rfl
    have hV6 : ∀ v w', V 6 v w' ↔ v = .bool false := fun _ _ => by subst hVe; rfl
    have hV16 : ∀ v w', V 16 v w' ↔ v = .bool false := fun _ _ => by subst hVe; rfl
    have hV7 : ∀ v w', V 7 v w' := fun _ _ => by subst hVe; trivial
    have hV8 : ∀ v w', V 8 v w' := fun _ _ => by subst hVe; trivial
    have hV9 : ∀ v w', V 9 v w' := fun _ _ => by subst hVe; trivial
    have hV10 : ∀ v w', V 10 v w' := fun _ _ => by subst hVe; trivial
    have hV11 : ∀ v w', V 11 v w' := fun _ _ => by subst hVe; trivial
    have hV12 : ∀ v w', V 12 v w' := fun _ _ => by subst hVe; trivial
    have hV13 : ∀ v w', V 13 v w' := fun _ _ => by subst hVe; trivial
    have hV14 : ∀ v w', V 14 v w' := fun _ _ => by subst hVe; trivial
    have hV15 : ∀ v w', V 15 v w' := fun _ _ => by subst hVe; trivial
    obtain ⟨St, hSe⟩ : ∃ St : Nat → (Nat → Value) → World → Prop, St = fun s u w' => match s with
        | 0 => True
        | _ => False := ⟨_, rfl⟩
    have hSm : ∀ s u u' w1 w2, (∀ c ∈ [], u' c = u c) → St s u w1 → Below w1.heap.size w1 w2 → St s u' w2 := by
      intro s u u' w1 w2 hu h hb
      subst hSe
      match s, h with
      | 0, h => trivial
      | s + 1, h => exact h.elim
    have hS0 : ∀ u w', St 0 u w' ↔ (True) := fun _ _ => by subst hSe; rfl
    clear hVe hSe
    refine wp_region_inv (ChainInv (fun w w' => Below w.heap.size w w') V [] St w2) (by kernel_rfl) (by kernel_rfl) (by kernel_rfl) ?start ?step ?fin
    case start => exact fun u => ChainInv.start hRel (Below.refl _ _).drew ((hS0 _ _).2 (trivial))
    case step =>
      simp only [putAll, Act.put, List.setIfInBounds_toArray, List.set_cons_zero, List.set_cons_succ, Nat.reduceAdd, Nat.zero_add]
      intro i o ho done u wr hnd hdep hI K hK
      obtain ⟨z0, z1, z2, u0, u1, u2, zl, ul⟩ := HX.out wr hI.1
      match i, ho with
      | 0, ho =>
        simp only [List.getElem?_cons_zero, Option.some.injEq] at ho
        subst ho
        simp only [Act.put, List.setIfInBounds_toArray, List.set_cons_zero, List.set_cons_succ] at hK
        refine wpOp_step rfl fun K' hK' => ?_
        go_simp
        exact hK' _ _ (hK _ _ (hI.quiet hRel hnd (by decide) hVm hSm (Below.refl _ _) ((hV0 _ _).2 rfl)))
      | 1, ho =>
        simp only [List.getElem?_cons_succ, List.getElem?_cons_zero, Option.some.injEq] at ho
        subst ho
        simp only [Act.put, List.setIfInBounds_toArray, List.set_cons_zero, List.set_cons_succ] at hK
        have e0 := (hV0 _ _).1 (hI.know (hdep ⟨0, .data⟩ (by simp) rfl))
        simp only [e0] at hK
        refine wpOp_step rfl fun K' hK' => ?_
        go_simp
        refine (grid_is (HA.out.mono (HBW.out.trans (hI.1.mono HBW.out.size)))).mono ?_
        rintro e w5 ⟨r, rfl, hr, hb5⟩
        obtain rfl : r = true := hr.2 HG1.out
        exact hK' _ _ (hK _ _ (hI.quiet hRel hnd (by decide) hVm hSm hb5 ((hV1 _ _).2 rfl)))
      | 2, ho =>
        simp only [List.getElem?_cons_succ, List.getElem?_cons_zero, Option.some.injEq] at ho
        subst ho
        simp only [Act.put, List.setIfInBounds_toArray, List.set_cons_zero, List.set_cons_succ] at hK
        have e1 := (hV1 _ _).1 (hI.know (hdep ⟨1, .data⟩ (by simp) rfl))
        simp only [e1] at hK
        refine wpOp_step rfl fun K' hK' => ?_
        go_simp
        exact hK' _ _ (hK _ _ (hI.quiet hRel hnd (by decide) hVm hSm (Below.refl _ _) ((hV2 _ _).2 rfl)))
      | 3, ho =>
        simp only [List.getElem?_cons_succ, List.getElem?_cons_zero, Option.some.injEq] at ho
        subst ho
        simp only [Act.put, List.setIfInBounds_toArray, List.set_cons_zero, List.set_cons_succ] at hK
        have e2 := (hV2 _ _).1 (hI.know (hdep ⟨2, .guard⟩ (by simp) rfl))
        simp only [e2] at hK
        refine wpOp_step rfl fun K' hK' => ?_
        go_simp
        exact hK' _ _ (hK _ _ (hI.quiet hRel hnd (by decide) hVm hSm (Below.refl _ _) ((hV3 _ _).2 rfl)))
      | 4, ho =>
        simp only [List.getElem?_cons_succ, List.getElem?_cons_zero, Option.some.injEq] at ho
        subst ho
        simp only [Act.put, List.setIfInBounds_toArray, List.set_cons_zero, List.set_cons_succ] at hK
        have e3 := (hV3 _ _).1 (hI.know (hdep ⟨3, .data⟩ (by simp) rfl))
        have e2 := (hV2 _ _).1 (hI.know (hdep ⟨2, .guard⟩ (by simp) rfl))
        simp only [e3, e2] at hK
        refine wpOp_step rfl fun K' hK' => ?_
        go_simp
        refine (grid_is (HB.out.mono (HBW.out.trans (hI.1.mono HBW.out.size)))).mono ?_
        rintro e w5 ⟨r, rfl, hr, hb5⟩
        obtain rfl : r = false := by cases r with | false => rfl | true => exact absurd (hr.1 rfl) HG2.out
        exact hK' _ _ (hK _ _ (hI.quiet hRel hnd (by decide) hVm hSm hb5 ((hV4 _ _).2 rfl)))
      | 5, ho =>
        simp only [List.getElem?_cons_succ, List.getElem?_cons_zero, Option.some.injEq] at ho
        subst ho
        simp only [Act.put, List.setIfInBounds_toArray, List.set_cons_zero, List.set_cons_succ] at hK
        have e2 := (hV2 _ _).1 (hI.know (hdep ⟨2, .data⟩ (by simp) rfl))
        have e4 := (hV4 _ _).1 (hI.know (hdep ⟨4, .data⟩ (by simp) rfl))
        simp only [e2, e4] at hK
        refine wpOp_step rfl fun K' hK' => ?_
        go_simp
        exact hK' _ _ (hK _ _ (hI.quiet hRel hnd (by decide) hVm hSm (Below.refl _ _) ((hV5 _ _).2 rfl)))
      | 6, ho =>
        simp only [List.getElem?_cons_succ, List.getElem?_cons_zero, Option.some.injEq] at ho
        subst ho
        simp only [Act.put, List.setIfInBounds_toArray, List.set_cons_zero, List.set_cons_succ] at hK
        have e5 := (hV5 _ _).1 (hI.know (hdep ⟨5, .data⟩ (by simp) rfl))
        simp only [e5] at hK
        refine wpOp_step rfl fun K' hK' => ?_
        go_simp
        exact hK' _ _ (hK _ _ (hI.quiet hRel hnd (by decide) hVm hSm (Below.refl _ _) ((hV6 _ _).2 rfl)))
      | 7, ho =>
        simp only [List.getElem?_cons_succ, List.getElem?_cons_zero, Option.some.injEq] at ho
        subst ho
        simp only [Act.put, List.setIfInBounds_toArray, List.set_cons_zero, List.set_cons_succ] at hK
        have e6 := (hV6 _ _).1 (hI.know (hdep ⟨6, .guard⟩ (by simp) rfl))
        simp only [e6] at hK
        refine wpOp_step rfl fun K' hK' => ?_
        go_simp
        exact hK' _ _ (hK _ _ (hI.quiet hRel hnd (by decide) hVm hSm (Below.refl _ _) (hV7 _ _)))
      | 8, ho =>
        simp only [List.getElem?_cons_succ, List.getElem?_cons_zero, Option.some.injEq] at ho
        subst ho
        simp only [Act.put, List.setIfInBounds_toArray, List.set_cons_zero, List.set_cons_succ] at hK
        have e6 := (hV6 _ _).1 (hI.know (hdep ⟨6, .guard⟩ (by simp) rfl))
        simp only [e6] at hK
        refine wpOp_step rfl fun K' hK' => ?_
        go_simp
        exact hK' _ _ (hK _ _ (hI.quiet hRel hnd (by decide) hVm hSm (Below.refl _ _) (hV8 _ _)))
      | 9, ho =>
        simp only [List.getElem?_cons_succ, List.getElem?_cons_zero, Option.some.injEq] at ho
        subst ho
        simp only [Act.put, List.setIfInBounds_toArray, List.set_cons_zero, List.set_cons_succ] at hK
        have e6 := (hV6 _ _).1 (hI.know (hdep ⟨6, .guard⟩ (by simp) rfl))
        simp only [e6] at hK
        refine wpOp_step rfl fun K' hK' => ?_
        go_simp
        exact hK' _ _ (hK _ _ (hI.quiet hRel hnd (by decide) hVm hSm (Below.refl _ _) (hV9 _ _)))
      | 10, ho =>
        simp only [List.getElem?_cons_succ, List.getElem?_cons_zero, Option.some.injEq] at ho
        subst ho
        simp only [Act.put, List.setIfInBounds_toArray, List.set_cons_zero, List.set_cons_succ] at hK
        have e6 := (hV6 _ _).1 (hI.know (hdep ⟨6, .guard⟩ (by simp) rfl))
        simp only [e6] at hK
        refine wpOp_step rfl fun K' hK' => ?_
        go_simp
        exact hK' _ _ (hK _ _ (hI.quiet hRel hnd (by decide) hVm hSm (Below.refl _ _) (hV10 _ _)))
      | 11, ho =>
        simp only [List.getElem?_cons_succ, List.getElem?_cons_zero, Option.some.injEq] at ho
        subst ho
        simp only [Act.put, List.setIfInBounds_toArray, List.set_cons_zero, List.set_cons_succ] at hK
        have e6 := (hV6 _ _).1 (hI.know (hdep ⟨6, .guard⟩ (by simp) rfl))
        simp only [e6] at hK
        refine wpOp_step rfl fun K' hK' => ?_
        go_simp
        exact hK' _ _ (hK _ _ (hI.quiet hRel hnd (by decide) hVm hSm (Below.refl _ _) (hV11 _ _)))
      | 12, ho =>
        simp only [List.getElem?_cons_succ, List.getElem?_cons_zero, Option.some.injEq] at ho
        subst ho
        simp only [Act.put, List.setIfInBounds_toArray, List.set_cons_zero, List.set_cons_succ] at hK
        have e6 := (hV6 _ _).1 (hI.know (hdep ⟨6, .guard⟩ (by simp) rfl))
        simp only [e6] at hK
        refine wpOp_step rfl fun K' hK' => ?_
        go_simp
        exact hK' _ _ (hK _ _ (hI.quiet hRel hnd (by decide) hVm hSm (Below.refl _ _) (hV12 _ _)))
      | 13, ho =>
        simp only [List.getElem?_cons_succ, List.getElem?_cons_zero, Option.some.injEq] at ho
        subst ho
        simp only [Act.put, List.setIfInBounds_toArray, List.set_cons_zero, List.set_cons_succ] at hK
        have e6 := (hV6 _ _).1 (hI.know (hdep ⟨6, .guard⟩ (by simp) rfl))
        simp only [e6] at hK
        refine wpOp_step rfl fun K' hK' => ?_
        go_simp
        exact hK' _ _ (hK _ _ (hI.quiet hRel hnd (by decide) hVm hSm (Below.refl _ _) (hV13 _ _)))
      | 14, ho =>
        simp only [List.getElem?_cons_succ, List.getElem?_cons_zero, Option.some.injEq] at ho
        subst ho
        simp only [Act.put, List.setIfInBounds_toArray, List.set_cons_zero, List.set_cons_succ] at hK
        have e6 := (hV6 _ _).1 (hI.know (hdep ⟨6, .guard⟩ (by simp) rfl))
        simp only [e6] at hK
        refine wpOp_step rfl fun K' hK' => ?_
        go_simp
        exact hK' _ _ (hK _ _ (hI.quiet hRel hnd (by decide) hVm hSm (Below.refl _ _) (hV14 _ _)))
      | 15, ho =>
        simp only [List.getElem?_cons_succ, List.getElem?_cons_zero, Option.some.injEq] at ho
        subst ho
        simp only [Act.put, List.setIfInBounds_toArray, List.set_cons_zero, List.set_cons_succ] at hK
        have e6 := (hV6 _ _).1 (hI.know (hdep ⟨6, .guard⟩ (by simp) rfl))
        simp only [e6] at hK
        refine wpOp_step rfl fun K' hK' => ?_
        go_simp
        exact hK' _ _ (hK _ _ (hI.quiet hRel hnd (by decide) hVm hSm (Below.refl _ _) (hV15 _ _)))
      | 16, ho =>
        simp only [List.getElem?_cons_succ, List.getElem?_cons_zero, Option.some.injEq] at ho
        subst ho
        simp only [Act.put, List.setIfInBounds_toArray, List.set_cons_zero, List.set_cons_succ] at hK
        have e6 := (hV6 _ _).1 (hI.know (hdep ⟨6, .data⟩ (by simp) rfl))
        simp only [e6] at hK
        refine wpOp_step rfl fun K' hK' => ?_
        go_simp
        exact hK' _ _ (hK _ _ (hI.quiet hRel hnd (by decide) hVm hSm (Below.refl _ _) ((hV16 _ _).2 rfl)))
      | i + 17, ho => simp at ho
    case fin =>
      simp only [putAll, Act.put, List.setIfInBounds_toArray, List.set_cons_zero, List.set_cons_succ, Nat.reduceAdd, Nat.zero_add]
      intro done u wr hd hI
      simp only [List.length_cons, List.length_nil, Nat.reduceAdd, Nat.zero_add] at hd
      have hS := (hS0 _ _).1 (hI.end_ (fun c hc => hd c (by simp at hc)))
      have e16 := (hV16 _ _).1 (hI.know (hd 16 (by omega)))
      have hbr := hI.1
      simp only [e16]
      obtain ⟨w4, rfl⟩ : ∃ X : World, X = wr := ⟨_, rfl⟩
      obtain ⟨z0, z1, z2, u0, u1, u2, zl, ul⟩ := HX.out w4 hbr
      have hbw4 := HBW.out.trans (hbr.mono HBW.out.size)
      have HXZ := Lib.hid (fun (wx : World) (h : Below w4.heap.size w4 wx) => HX.out wx (hbr.trans (h.mono hbr.size)))
      clear hI hd hS hVm hSm hS0 hRel hV0 hV1 hV2 hV3 hV4 hV5 hV6 hV7 hV8 hV9 hV10 hV11 hV12 hV13 hV14 hV15 hV16 e16 hbr
      have HXX := Lib.hid (fun (wx : World) (_ : Below W.heap.size W wx) (h : Below w4.heap.size w4 wx) => (show wx.cell? ⟨W.heap.size, 0, none⟩ = some (.bool a.ch) ∧ wx.cell? ⟨W.heap.size, 1, none⟩ = some (.slice A n ca) ∧ wx.cell? ⟨W.heap.size, 2, none⟩ = some (.slice D m cd) ∧ wx.cell? ⟨W.heap.size + 1, 0, none⟩ = some (.bool b.ch) ∧ wx.cell? ⟨W.heap.size + 1, 1, none⟩ = some (.slice A' n' ca') ∧ wx.cell? ⟨W.heap.size + 1, 2, none⟩ = some (.slice D' m' cd') ∧ W.heap.size < wx.heap.size ∧ W.heap.size + 1 < wx.heap.size from HXZ.out wx h))
      go_wp2_with fail
      refine (list_is (HA.out.mono hbw4)).mono ?_
      rintro e w5 ⟨rfl, hb5⟩
      have hbw5 := hbw4.trans (hb5.mono hbw4.size)
      have hb45 := hb5
      clear z0 z1 z2 u0 u1 u2 zl ul
      obtain ⟨z0, z1, z2, u0, u1, u2, zl, ul⟩ := HXX.out w5 hbw5 (hb45)
      obtain ⟨B1, hB1⟩ : ∃ B, B = decide (arrErr a = 0 ∧ a.sh.length = 1) := ⟨_, rfl⟩
      rw [← hB1]
      have HB1 := Lib.hid hB1
      clear hB1 hb5
      go_wp2_with fail
      refine (list_is (HB.out.mono hbw5)).mono ?_
      rintro e w6 ⟨rfl, hb6⟩
      have hbw6 := hbw5.trans (hb6.mono hbw5.size)
      have hb46 := hb45.trans (hb6.mono hb45.size)
      clear z0 z1 z2 u0 u1 u2 zl ul hb6
      obtain ⟨z0, z1, z2, u0, u1, u2, zl, ul⟩ := HXX.out w6 hbw6 hb46
      obtain ⟨B2, hB2⟩ : ∃ B, B = decide (arrErr b = 0 ∧ b.sh.length = 1) := ⟨_, rfl⟩
      rw [← hB2]
      have HB2 := Lib.hid hB2
      clear hB2 hb45 hbw5 hbw4
      cases B1 with
      | false =>
        cases B2
        all_goals
          go_wp2_with fail
          go_ret
          exact ⟨rfl, hbw6⟩
      | true =>
        cases B2 with
        | false =>
          go_wp2_with fail
          go_ret
          exact ⟨rfl, hbw6⟩
        | true =>
          have HL1 := Lib.hid (of_decide_eq_true HB1.out.symm)
          have HL2 := Lib.hid (of_decide_eq_true HB2.out.symm)
          cases hc : a.ch with
          | true =>
            rw [hc] at z0
            go_wp2_with fail
            go_ret
            exact ⟨rfl, hbw6⟩
          | false =>
            cases hc2 : b.ch with
            | true =>
              rw [hc] at z0
              rw [hc2] at u0
              go_wp2_with fail
              go_ret
              exact ⟨rfl, hbw6⟩
            | false =>
              by_cases hmm : m' = m
              case neg =>
                have e1 : ((m : Int) == (m' : Int)) = false := by rw [beq_eq_false_iff_ne]; omega
                have e2 : ¬ (m : Int) = (m' : Int) := by omega
                have e3 : decide ((m : Int) = (m' : Int)) = false := decide_eq_false e2
                rw [hc] at z0
                rw [hc2] at u0
                clear hmm
                go_wp2_with fail
                go_ret
                exact ⟨rfl, hbw6⟩
              subst hmm
              have HC1 := Lib.hid hc
              have HC2 := Lib.hid hc2
              obtain ⟨X, hX⟩ : ∃ X : Arr, X = ⟨false, [], innerD a.da b.da m' 1 1⟩ := ⟨_, rfl⟩
              have HWF1 := HW.out
              have HWF2 := HW2.out
              have key : LineOf line_turni [(⟨#[109]⟩, a), (⟨#[110]⟩, b)] X ∧ LineOf line_turns [(⟨#[109]⟩, a), (⟨#[110]⟩, b)] X ∧ WsOk [(⟨#[109]⟩, a), (⟨#[110]⟩, b)] := by
                obtain ⟨k, hk⟩ := ok_line HL1.out
                obtain ⟨k2, hk2⟩ := ok_line HL2.out
                have hkm : m' = k := by rw [HM.out, hk.len]; simp [prod]
                have hkm2 : m' = k2 := by rw [HM2.out, hk2.len]; simp [prod]
                subst hkm hkm2
                rw [hX]
                exact ⟨line_turni_is hk hk2 HC1.out HC2.out, line_turns_is hk hk2 HC1.out HC2.out HWF2, wsOk_two (nameOk_of (by decide +kernel)) (nameOk_of (by decide +kernel)) (by decide) hk hk2⟩
              have HLI := Lib.hid key.1
              have HLS := Lib.hid key.2.1
              have HWO := Lib.hid key.2.2
              have HX6 := Lib.hid (fun (wx : World) (h : Below w6.heap.size w6 wx) => HXX.out wx (hbw6.trans (h.mono hbw6.size)) (hb46.trans (h.mono hb46.size)))
              rw [hc] at z0
              rw [hc2] at u0
              rw [hc, hc2] at HX6
              clear key hX HWF1 HWF2 hc hc2 hb46
              go_wp2_with fail
              have hRel : Rels (fun w w' => Below w.heap.size w w') := rels_below
              obtain ⟨V, hVe⟩ : ∃ V : Nat → Value → World → Prop, V = fun i v w' => match i with
                  | 0 => v = .agg #[.bool false, .slice A n ca, .slice D m' cd]
                  | 1 => v = .agg #[.string ⟨#[109]⟩, .bool false, .slice A n ca, .slice D m' cd]
                  | 2 => v = .agg #[.bool false, .slice A' n' ca', .slice D' m' cd']
                  | 3 => v = .agg #[.string ⟨#[110]⟩, .bool false, .slice A' n' ca', .slice D' m' cd']
                  | 4 => ∃ g, v = .slice (some ⟨g, 0, none⟩) 2 2 ∧ Box w' g 35 #[.string ⟨#[109]⟩, .bool false, .slice A n ca, .slice D m' cd, .string ⟨#[110]⟩, .bool false, .slice A' n' ca', .slice D' m' cd']
                  | 5 => ∃ g, v = .slice (some ⟨g, 0, none⟩) 2 2 ∧ Box w' g 35 #[.string ⟨#[109]⟩, .bool false, .slice A n ca, .slice D m' cd, .string ⟨#[110]⟩, .bool false, .slice A' n' ca', .slice D' m' cd']
                  | _ => True := ⟨_, rfl⟩
              have hVm : ∀ j v w1 w2, V j v w1 → (fun w w' => Below w.heap.size w w') w1 w2 → V j v w2 := by
                intro j v w1 w2 h hr
                subst hVe
                match j, h with
                | 0, h => exact h
                | 1, h => exact h
                | 2, h => exact h
                | 3, h => exact h
                | 4, ⟨g, e, h⟩ => exact ⟨g, e, h.below hr⟩
                | 5, ⟨g, e, h⟩ => exact ⟨g, e, h.below hr⟩
                | i + 6, _ => trivial
              have hV0 : ∀ v w', V 0 v w' ↔ v = .agg #[.bool false, .slice A n ca, .slice D m' cd] := fun _ _ => by subst hVe; rfl
              have hV1 : ∀ v w', V 1 v w' ↔ v = .agg #[.string ⟨#[109]⟩, .bool false, .slice A n ca, .slice D m' cd] := fun _ _ => by subst hVe; rfl
              have hV2 : ∀ v w', V 2 v w' ↔ v = .agg #[.bool false, .slice A' n' ca', .slice D' m' cd'] := fun _ _ => by subst hVe; rfl
              have hV3 : ∀ v w', V 3 v w' ↔ v = .agg #[.string ⟨#[110]⟩, .bool false, .slice A' n' ca', .slice D' m' cd'] := fun _ _ => by subst hVe; rfl
              have hV4 : ∀ v w', V 4 v w' ↔ ∃ g, v = .slice (some ⟨g, 0, none⟩) 2 2 ∧ Box w' g 35 #[.string ⟨#[109]⟩, .bool false, .slice A n ca, .slice D m' cd, .string ⟨#[110]⟩, .bool false, .slice A' n' ca', .slice D' m' cd'] := fun _ _ => by subst hVe; rfl
              have hV5 : ∀ v w', V 5 v w' ↔ ∃ g, v = .slice (some ⟨g, 0, none⟩) 2 2 ∧ Box w' g 35 #[.string ⟨#[109]⟩, .bool false, .slice A n ca, .slice D m' cd, .string ⟨#[110]⟩, .bool false, .slice A' n' ca', .slice D' m' cd'] := fun _ _ => by subst hVe; rfl
              obtain ⟨St, hSe⟩ : ∃ St : Nat → (Nat → Value) → World → Prop, St = fun s u w' => match s with
                  | 0 => True
                  | _ => False := ⟨_, rfl⟩
              have hSm : ∀ s u u' w1 w2, (∀ c ∈ [], u' c = u c) → St s u w1 → Below w1.heap.size w1 w2 → St s u' w2 := by
                intro s u u' w1 w2 hu h hb
                subst hSe
                match s, h with
                | 0, h => trivial
                | s + 1, h => exact h.elim
              have hS0 : ∀ u w', St 0 u w' ↔ (True) := fun _ _ => by subst hSe; rfl
              clear hVe hSe
              refine wp_region_inv (ChainInv (fun w w' => Below w.heap.size w w') V [] St w6) (by kernel_rfl) (by kernel_rfl) (by kernel_rfl) ?start ?step ?fin
              case start => exact fun u => ChainInv.start hRel (Below.refl _ _).drew ((hS0 _ _).2 (trivial))
              case step =>
                simp only [putAll, Act.put, List.setIfInBounds_toArray, List.set_cons_zero, List.set_cons_succ, Nat.reduceAdd, Nat.zero_add]
                intro i o ho done u wr hnd hdep hI K hK
                obtain ⟨z0, z1, z2, u0, u1, u2, zl, ul⟩ := HX6.out wr hI.1
                match i, ho with
                | 0, ho =>
                  simp only [List.getElem?_cons_zero, Option.some.injEq] at ho
                  subst ho
                  simp only [Act.put, List.setIfInBounds_toArray, List.set_cons_zero, List.set_cons_succ] at hK
                  refine wpOp_step rfl fun K' hK' => ?_
                  go_simp
                  exact hK' _ _ (hK _ _ (hI.quiet hRel hnd (by decide) hVm hSm (Below.refl _ _) ((hV0 _ _).2 rfl)))
                | 1, ho =>
                  simp only [List.getElem?_cons_succ, List.getElem?_cons_zero, Option.some.injEq] at ho
                  subst ho
                  simp only [Act.put, List.setIfInBounds_toArray, List.set_cons_zero, List.set_cons_succ] at hK
                  have e0 := (hV0 _ _).1 (hI.know (hdep ⟨0, .data⟩ (by simp) rfl))
                  simp only [e0] at hK
                  refine wpOp_step rfl fun K' hK' => ?_
                  go_simp
                  refine bind_any.mono ?_
                  rintro e w6 ⟨rfl, hb6⟩
                  exact hK' _ _ (hK _ _ (hI.quiet hRel hnd (by decide) hVm hSm hb6 ((hV1 _ _).2 rfl)))
                | 2, ho =>
                  simp only [List.getElem?_cons_succ, List.getElem?_cons_zero, Option.some.injEq] at ho
                  subst ho
                  simp only [Act.put, List.setIfInBounds_toArray, List.set_cons_zero, List.set_cons_succ] at hK
                  refine wpOp_step rfl fun K' hK' => ?_
                  go_simp
                  exact hK' _ _ (hK _ _ (hI.quiet hRel hnd (by decide) hVm hSm (Below.refl _ _) ((hV2 _ _).2 rfl)))
                | 3, ho =>
                  simp only [List.getElem?_cons_succ, List.getElem?_cons_zero, Option.some.injEq] at ho
                  subst ho
                  simp only [Act.put, List.setIfInBounds_toArray, List.set_cons_zero, List.set_cons_succ] at hK
                  have e2 := (hV2 _ _).1 (hI.know (hdep ⟨2, .data⟩ (by simp) rfl))
                  simp only [e2] at hK
                  refine wpOp_step rfl fun K' hK' => ?_
                  go_simp
                  refine bind_any.mono ?_
                  rintro e w6 ⟨rfl, hb6⟩
                  exact hK' _ _ (hK _ _ (hI.quiet hRel hnd (by decide) hVm hSm hb6 ((hV3 _ _).2 rfl)))
                | 4, ho =>
                  simp only [List.getElem?_cons_succ, List.getElem?_cons_zero, Option.some.injEq] at ho
                  subst ho
                  simp only [Act.put, List.setIfInBounds_toArray, List.set_cons_zero, List.set_cons_succ] at hK
                  have e1 := (hV1 _ _).1 (hI.know (hdep ⟨1, .data⟩ (by simp) rfl))
                  have e3 := (hV3 _ _).1 (hI.know (hdep ⟨3, .data⟩ (by simp) rfl))
                  simp only [e1, e3] at hK
                  refine wpOp_step rfl fun K' hK' => ?_
                  go_simp
                  exact hK' _ _ (hK _ _ (hI.quiet hRel hnd (by decide) hVm hSm (below_one _ _) ((hV4 _ _).2 ⟨_, rfl, Box.new _ _ _⟩)))
                | 5, ho =>
                  simp only [List.getElem?_cons_succ, List.getElem?_cons_zero, Option.some.injEq] at ho
                  subst ho
                  simp only [Act.put, List.setIfInBounds_toArray, List.set_cons_zero, List.set_cons_succ] at hK
                  obtain ⟨g, e4, hx⟩ := (hV4 _ _).1 (hI.know (hdep ⟨4, .data⟩ (by simp) rfl))
                  simp only [e4] at hK
                  refine wpOp_step rfl fun K' hK' => ?_
                  go_simp
                  exact hK' _ _ (hK _ _ (hI.quiet hRel hnd (by decide) hVm hSm (Below.refl _ _) ((hV5 _ _).2 ⟨g, rfl, hx⟩)))
                | i + 6, ho => simp at ho
              case fin =>
                simp only [putAll, Act.put, List.setIfInBounds_toArray, List.set_cons_zero, List.set_cons_succ, Nat.reduceAdd, Nat.zero_add]
                intro done u wr hd hI
                simp only [List.length_cons, List.length_nil, Nat.reduceAdd, Nat.zero_add] at hd
                have hS := (hS0 _ _).1 (hI.end_ (fun c hc => hd c (by simp at hc)))
                obtain ⟨g, e5, hbx⟩ := (hV5 _ _).1 (hI.know (hd 5 (by omega)))
                have hbr := hI.1
                simp only [e5]
                obtain ⟨w7, rfl⟩ : ∃ X : World, X = wr := ⟨_, rfl⟩
                clear hI hd hS hVm hSm hS0 hRel hV0 hV1 hV2 hV3 hV4 hV5 e5
                have hbw7 := hbw6.trans (hbr.mono hbw6.size)
                have HWS := Lib.hid (wsAt_two (a := a) (b := b) (by rw [HC1.out, HC2.out]; exact hbx) (HA.out.mono hbw7) (HB.out.mono hbw7))
                clear hbr hbx
                go_wp2_with fail
                refine (worth_any (HST.out.below hbw7) HWS.out HWO.out HLI.out).mono ?_
                rintro e w8 ⟨r, rfl, hr, hb8⟩
                obtain ⟨A4, c4, D4, d4, rfl, -, -⟩ := hr.open_
                have HV := Lib.hid (IsArr.mono hr (below_one w8 (.cells #[.bool X.ch, .slice A4 X.sh.length c4, .slice D4 X.da.length d4] 25)))
                have HWS8 := Lib.hid ((HWS.out.below hb8).below (below_one w8 (.cells #[.bool X.ch, .slice A4 X.sh.length c4, .slice D4 X.da.length d4] 25)))
                have hbw8 := (hbw7.trans (hb8.mono hbw7.size)).alloc (by have := hbw7.size; have := hb8.size; omega) (.cells #[.bool X.ch, .slice A4 X.sh.length c4, .slice D4 X.da.length d4] 25)
                clear hb8 hr hbw7
                go_wp2_with fail
                refine (tells_true (HST.out.below hbw8) HWS8.out HWO.out HLS.out HV.out rfl).mono ?_
                rintro e w9 ⟨rfl, hb9⟩
                have hbw9 := hbw8.trans (hb9.mono hbw8.size)
                clear hb9 hbw8
                go_wp2_with fail
                go_ret
                exact ⟨rfl, hbw9⟩
  have HG1 := Lib.hid hg1
  have HG2 := Lib.hid hg2
  obtain ⟨p, q, hp, hq, ho1, hc1⟩ := hg1
  obtain ⟨p2, r, hp2, hr, ho2, hc2⟩ := hg2
  by_cases heq : p2 = q
  case neg =>
    have HNE := Lib.hid (show ¬ (q : Int) = (p2 : Int) by omega)
    obtain rfl : n = 2 := by rw [HN.out, ho1.sh]; rfl
    obtain rfl : n' = 2 := by rw [HN2.out, ho2.sh]; rfl
    obtain ⟨A0, c0, D0, d0, eA, hs1, -⟩ := HA.out.open_
    obtain ⟨A0', c0', D0', d0', eB, hs2, -⟩ := HB.out.open_
    have hs1 : IsInts W (.slice A 2 ca) [(p : Int), (q : Int)] := by
      have h := HA.out.shapeOf
      rw [ho1.sh] at h
      exact h
    have hs2 : IsInts W (.slice A' 2 ca') [(p2 : Int), (r : Int)] := by
      have h := HB.out.shapeOf
      rw [ho2.sh] at h
      exact h
    obtain ⟨_, _, eA1, -, -, -, -, q4⟩ := hs1
    injection eA1 with eA2 eA3 eA4
    subst eA2 eA4
    obtain ⟨_, _, eB1, -, -, -, -, q5⟩ := hs2
    injection eB1 with eB2 eB3 eB4
    subst eB2 eB4
    obtain ⟨ad, rfl, hal, hac⟩ := (show Elems W A [(p : Int), (q : Int)] from q4) 1 (q : Int) rfl
    obtain ⟨bd, rfl, hbl, hbc⟩ := (show Elems W A' [(p2 : Int), (r : Int)] from q5) 0 (p2 : Int) rfl
    rw [addr_zero] at hbc
    have HCX := Lib.hid (fun (wx : World) (h : Below w2.heap.size w2 wx) => (show wx.cell? ⟨ad.block, ad.off + 1, none⟩ = some (.int .i64 (q : Nat)) ∧ wx.cell? bd = some (.int .i64 (p2 : Nat)) from
      have hW := HBW.out.trans (h.mono HBW.out.size)
      ⟨(hW.cell (p := ad.add 1) (by rw [addr_block_add]; exact hal)).trans hac, (hW.cell hbl).trans hbc⟩))
    clear eA3 eB3 q4 q5 hal hac hbl hbc ho1 ho2 hc1 hc2 eA eB
    go_wp2_with fail
    have hRel : Rels (fun w w' => Below w.heap.size w w') := rels_below
    obtain ⟨V, hVe⟩ : ∃ V : Nat → Value → World → Prop, V = fun i v w' => match i with
        | 0 => v = .agg #[.bool a.ch, .slice (some ad) 2 ca, .slice D m cd]
        | 1 => v = .bool true
        | 2 => v = .bool true
        | 3 => v = .agg #[.bool b.ch, .slice (some bd) 2 ca', .slice D' m' cd']
        | 4 => v = .bool true
        | 5 => v = .bool true
        | 6 => v = .bool true
        | 7 => v = .pointer (some ⟨W.heap.size, 1, none⟩)
        | 8 => v = .slice (some ad) 2 ca
        | 9 => v = .pointer (some ⟨ad.block, ad.off + 1, none⟩)
        | 10 => v = .int .i64 (q : Nat)
        | 11 => v = .pointer (some ⟨W.heap.size + 1, 1, none⟩)
        | 12 => v = .slice (some bd) 2 ca'
        | 13 => v = .pointer (some bd)
        | 14 => v = .int .i64 (p2 : Nat)
        | 15 => v = .bool false
        | 16 => v = .bool false
        | _ => True := ⟨_, rfl⟩
    have hVm : ∀ j v w1 w2, V j v w1 → (fun w w' => Below w.heap.size w w') w1 w2 → V j v w2 := by
      intro j v w1 w2 h hr
      subst hVe
      match j, h with
      | 0, h => exact h
      | 1, h => exact h
      | 2, h => exact h
      | 3, h => exact h
      | 4, h => exact h
      | 5, h => exact h
      | 6, h => exact h
      | 7, h => exact h
      | 8, h => exact h
      | 9, h => exact h
      | 10, h => exact h
      | 11, h => exact h
      | 12, h => exact h
      | 13, h => exact h
      | 14, h => exact h
      | 15, h => exact h
      | 16, h => exact h
      | i + 17, _ => trivial
    have hV0 : ∀ v w', V 0 v w' ↔ v = .agg #[.bool a.ch, .slice (some ad) 2 ca, .slice D m cd] := fun _ _ => by subst hVe; rfl
    have hV1 : ∀ v w', V 1 v w' ↔ v = .bool true := fun _ _ => by subst hVe; rfl
    have hV2 : ∀ v w', V 2 v w' ↔ v = .bool true := fun _ _ => by subst hVe; rfl
    have hV3 : ∀ v w', V 3 v w' ↔ v = .agg #[.bool b.ch, .slice (some bd) 2 ca', .slice D' m' cd'] := fun _ _ => by subst hVe; rfl
    have hV4 : ∀ v w', V 4 v w' ↔ v = .bool true := fun _ _ => by subst hVe; rfl
    have hV5 : ∀ v w', V 5 v w' ↔ v = .bool true := fun _ _ => by subst hVe; rfl
    have hV6 : ∀ v w', V 6 v w' ↔ v = .bool true := fun _ _ => by subst hVe; rfl
    have hV7 : ∀ v w', V 7 v w' ↔ v = .pointer (some ⟨W.heap.size, 1, none⟩) := fun _ _ => by subst hVe; rfl
    have hV8 : ∀ v w', V 8 v w' ↔ v = .slice (some ad) 2 ca := fun _ _ => by subst hVe; rfl
    have hV9 : ∀ v w', V 9 v w' ↔ v = .pointer (some ⟨ad.block, ad.off + 1, none⟩) := fun _ _ => by subst hVe; rfl
    have hV10 : ∀ v w', V 10 v w' ↔ v = .int .i64 (q : Nat) := fun _ _ => by subst hVe; rfl
    have hV11 : ∀ v w', V 11 v w' ↔ v = .pointer (some ⟨W.heap.size + 1, 1, none⟩) := fun _ _ => by subst hVe; rfl
    have hV12 : ∀ v w', V 12 v w' ↔ v = .slice (some bd) 2 ca' := fun _ _ => by subst hVe; rfl
    have hV13 : ∀ v w', V 13 v w' ↔ v = .pointer (some bd) := fun _ _ => by subst hVe; rfl
    have hV14 : ∀ v w', V 14 v w' ↔ v = .int .i64 (p2 : Nat) := fun _ _ => by subst hVe; rfl
    have hV15 : ∀ v w', V 15 v w' ↔ v = .bool false := fun _ _ => by subst hVe; rfl
    have hV16 : ∀ v w', V 16 v w' ↔ v = .bool false := fun _ _ => by subst hVe; rfl
    obtain ⟨St, hSe⟩ : ∃ St : Nat → (Nat → Value) → World → Prop, St = fun s u w' => match s with
        | 0 => True
        | _ => False := ⟨_, rfl⟩
    have hSm : ∀ s u u' w1 w2, (∀ c ∈ [], u' c = u c) → St s u w1 → Below w1.heap.size w1 w2 → St s u' w2 := by
      intro s u u' w1 w2 hu h hb
      subst hSe
      match s, h with
      | 0, h => trivial
      | s + 1, h => exact h.elim
    have hS0 : ∀ u w', St 0 u w' ↔ (True) := fun _ _ => by subst hSe; rfl
    clear hVe hSe
    refine wp_region_inv (ChainInv (fun w w' => Below w.heap.size w w') V [] St w2) (by kernel_rfl) (by kernel_rfl) (by kernel_rfl) ?start ?step ?fin
    case start => exact fun u => ChainInv.start hRel (Below.refl _ _).drew ((hS0 _ _).2 (trivial))
    case step =>
      simp only [putAll, Act.put, List.setIfInBounds_toArray, List.set_cons_zero, List.set_cons_succ, Nat.reduceAdd, Nat.zero_add]
      intro i o ho done u wr hnd hdep hI K hK
      obtain ⟨z0, z1, z2, u0, u1, u2, zl, ul⟩ := HX.out wr hI.1
      match i, ho with
      | 0, ho =>
        simp only [List.getElem?_cons_zero, Option.some.injEq] at ho
        subst ho
        simp only [Act.put, List.setIfInBounds_toArray, List.set_cons_zero, List.set_cons_succ] at hK
        refine wpOp_step rfl fun K' hK' => ?_
        go_simp
        exact hK' _ _ (hK _ _ (hI.quiet hRel hnd (by decide) hVm hSm (Below.refl _ _) ((hV0 _ _).2 rfl)))
      | 1, ho =>
        simp only [List.getElem?_cons_succ, List.getElem?_cons_zero, Option.some.injEq] at ho
        subst ho
        simp only [Act.put, List.setIfInBounds_toArray, List.set_cons_zero, List.set_cons_succ] at hK
        have e0 := (hV0 _ _).1 (hI.know (hdep ⟨0, .data⟩ (by simp) rfl))
        simp only [e0] at hK
        refine wpOp_step rfl fun K' hK' => ?_
        go_simp
        refine (grid_is (HA.out.mono (HBW.out.trans (hI.1.mono HBW.out.size)))).mono ?_
        rintro e w5 ⟨r, rfl, hr, hb5⟩
        obtain rfl : r = true := hr.2 HG1.out
        exact hK' _ _ (hK _ _ (hI.quiet hRel hnd (by decide) hVm hSm hb5 ((hV1 _ _).2 rfl)))
      | 2, ho =>
        simp only [List.getElem?_cons_succ, List.getElem?_cons_zero, Option.some.injEq] at ho
        subst ho
        simp only [Act.put, List.setIfInBounds_toArray, List.set_cons_zero, List.set_cons_succ] at hK
        have e1 := (hV1 _ _).1 (hI.know (hdep ⟨1, .data⟩ (by simp) rfl))
        simp only [e1] at hK
        refine wpOp_step rfl fun K' hK' => ?_
        go_simp
        exact hK' _ _ (hK _ _ (hI.quiet hRel hnd (by decide) hVm hSm (Below.refl _ _) ((hV2 _ _).2 rfl)))
      | 3, ho =>
        simp only [List.getElem?_cons_succ, List.getElem?_cons_zero, Option.some.injEq] at ho
        subst ho
        simp only [Act.put, List.setIfInBounds_toArray, List.set_cons_zero, List.set_cons_succ] at hK
        have e2 := (hV2 _ _).1 (hI.know (hdep ⟨2, .guard⟩ (by simp) rfl))
        simp only [e2] at hK
        refine wpOp_step rfl fun K' hK' => ?_
        go_simp
        exact hK' _ _ (hK _ _ (hI.quiet hRel hnd (by decide) hVm hSm (Below.refl _ _) ((hV3 _ _).2 rfl)))
      | 4, ho =>
        simp only [List.getElem?_cons_succ, List.getElem?_cons_zero, Option.some.injEq] at ho
        subst ho
        simp only [Act.put, List.setIfInBounds_toArray, List.set_cons_zero, List.set_cons_succ] at hK
        have e3 := (hV3 _ _).1 (hI.know (hdep ⟨3, .data⟩ (by simp) rfl))
        have e2 := (hV2 _ _).1 (hI.know (hdep ⟨2, .guard⟩ (by simp) rfl))
        simp only [e3, e2] at hK
        refine wpOp_step rfl fun K' hK' => ?_
        go_simp
        refine (grid_is (HB.out.mono (HBW.out.trans (hI.1.mono HBW.out.size)))).mono ?_
        rintro e w5 ⟨r, rfl, hr, hb5⟩
        obtain rfl : r = true := hr.2 HG2.out
        exact hK' _ _ (hK _ _ (hI.quiet hRel hnd (by decide) hVm hSm hb5 ((hV4 _ _).2 rfl)))
      | 5, ho =>
        simp only [List.getElem?_cons_succ, List.getElem?_cons_zero, Option.some.injEq] at ho
        subst ho
        simp only [Act.put, List.setIfInBounds_toArray, List.set_cons_zero, List.set_cons_succ] at hK
        have e2 := (hV2 _ _).1 (hI.know (hdep ⟨2, .data⟩ (by simp) rfl))
        have e4 := (hV4 _ _).1 (hI.know (hdep ⟨4, .data⟩ (by simp) rfl))
        simp only [e2, e4] at hK
        refine wpOp_step rfl fun K' hK' => ?_
        go_simp
        exact hK' _ _ (hK _ _ (hI.quiet hRel hnd (by decide) hVm hSm (Below.refl _ _) ((hV5 _ _).2 rfl)))
      | 6, ho =>
        simp only [List.getElem?_cons_succ, List.getElem?_cons_zero, Option.some.injEq] at ho
        subst ho
        simp only [Act.put, List.setIfInBounds_toArray, List.set_cons_zero, List.set_cons_succ] at hK
        have e5 := (hV5 _ _).1 (hI.know (hdep ⟨5, .data⟩ (by simp) rfl))
        simp only [e5] at hK
        refine wpOp_step rfl fun K' hK' => ?_
        go_simp
        exact hK' _ _ (hK _ _ (hI.quiet hRel hnd (by decide) hVm hSm (Below.refl _ _) ((hV6 _ _).2 rfl)))
      | 7, ho =>
        simp only [List.getElem?_cons_succ, List.getElem?_cons_zero, Option.some.injEq] at ho
        subst ho
        simp only [Act.put, List.setIfInBounds_toArray, List.set_cons_zero, List.set_cons_succ] at hK
        have e6 := (hV6 _ _).1 (hI.know (hdep ⟨6, .guard⟩ (by simp) rfl))
        simp only [e6] at hK
        refine wpOp_step rfl fun K' hK' => ?_
        go_simp
        exact hK' _ _ (hK _ _ (hI.quiet hRel hnd (by decide) hVm hSm (Below.refl _ _) ((hV7 _ _).2 rfl)))
      | 8, ho =>
        simp only [List.getElem?_cons_succ, List.getElem?_cons_zero, Option.some.injEq] at ho
        subst ho
        simp only [Act.put, List.setIfInBounds_toArray, List.set_cons_zero, List.set_cons_succ] at hK
        have e7 := (hV7 _ _).1 (hI.know (hdep ⟨7, .data⟩ (by simp) rfl))
        have e6 := (hV6 _ _).1 (hI.know (hdep ⟨6, .guard⟩ (by simp) rfl))
        simp only [e7, e6] at hK
        refine wpOp_step rfl fun K' hK' => ?_
        go_simp
        exact hK' _ _ (hK _ _ (hI.quiet hRel hnd (by decide) hVm hSm (Below.refl _ _) ((hV8 _ _).2 rfl)))
      | 9, ho =>
        simp only [List.getElem?_cons_succ, List.getElem?_cons_zero, Option.some.injEq] at ho
        subst ho
        simp only [Act.put, List.setIfInBounds_toArray, List.set_cons_zero, List.set_cons_succ] at hK
        have e8 := (hV8 _ _).1 (hI.know (hdep ⟨8, .data⟩ (by simp) rfl))
        have e6 := (hV6 _ _).1 (hI.know (hdep ⟨6, .guard⟩ (by simp) rfl))
        simp only [e8, e6] at hK
        refine wpOp_step rfl fun K' hK' => ?_
        go_simp
        exact hK' _ _ (hK _ _ (hI.quiet hRel hnd (by decide) hVm hSm (Below.refl _ _) ((hV9 _ _).2 rfl)))
      | 10, ho =>
        simp only [List.getElem?_cons_succ, List.getElem?_cons_zero, Option.some.injEq] at ho
        subst ho
        simp only [Act.put, List.setIfInBounds_toArray, List.set_cons_zero, List.set_cons_succ] at hK
        have hcr := (HCX.out wr hI.1).1
        have e9 := (hV9 _ _).1 (hI.know (hdep ⟨9, .data⟩ (by simp) rfl))
        have e6 := (hV6 _ _).1 (hI.know (hdep ⟨6, .guard⟩ (by simp) rfl))
        simp only [e9, e6] at hK
        refine wpOp_step rfl fun K' hK' => ?_
        go_simp
        exact hK' _ _ (hK _ _ (hI.quiet hRel hnd (by decide) hVm hSm (Below.refl _ _) ((hV10 _ _).2 rfl)))
      | 11, ho =>
        simp only [List.getElem?_cons_succ, List.getElem?_cons_zero, Option.some.injEq] at ho
        subst ho
        simp only [Act.put, List.setIfInBounds_toArray, List.set_cons_zero, List.set_cons_succ] at hK
        have e6 := (hV6 _ _).1 (hI.know (hdep ⟨6, .guard⟩ (by simp) rfl))
        simp only [e6] at hK
        refine wpOp_step rfl fun K' hK' => ?_
        go_simp
        exact hK' _ _ (hK _ _ (hI.quiet hRel hnd (by decide) hVm hSm (Below.refl _ _) ((hV11 _ _).2 rfl)))
      | 12, ho =>
        simp only [List.getElem?_cons_succ, List.getElem?_cons_zero, Option.some.injEq] at ho
        subst ho
        simp only [Act.put, List.setIfInBounds_toArray, List.set_cons_zero, List.set_cons_succ] at hK
        have e11 := (hV11 _ _).1 (hI.know (hdep ⟨11, .data⟩ (by simp) rfl))
        have e6 := (hV6 _ _).1 (hI.know (hdep ⟨6, .guard⟩ (by simp) rfl))
        simp only [e11, e6] at hK
        refine wpOp_step rfl fun K' hK' => ?_
        go_simp
        exact hK' _ _ (hK _ _ (hI.quiet hRel hnd (by decide) hVm hSm (Below.refl _ _) ((hV12 _ _).2 rfl)))
      | 13, ho =>
        simp only [List.getElem?_cons_succ, List.getElem?_cons_zero, Option.some.injEq] at ho
        subst ho
        simp only [Act.put, List.setIfInBounds_toArray, List.set_cons_zero, List.set_cons_succ] at hK
        have e12 := (hV12 _ _).1 (hI.know (hdep ⟨12, .data⟩ (by simp) rfl))
        have e6 := (hV6 _ _).1 (hI.know (hdep ⟨6, .guard⟩ (by simp) rfl))
        simp only [e12, e6] at hK
        refine wpOp_step rfl fun K' hK' => ?_
        go_simp
        exact hK' _ _ (hK _ _ (hI.quiet hRel hnd (by decide) hVm hSm (Below.refl _ _) ((hV13 _ _).2 rfl)))
      | 14, ho =>
        simp only [List.getElem?_cons_succ, List.getElem?_cons_zero, Option.some.injEq] at ho
        subst ho
        simp only [Act.put, List.setIfInBounds_toArray, List.set_cons_zero, List.set_cons_succ] at hK
        have hcr := (HCX.out wr hI.1).2
        have e13 := (hV13 _ _).1 (hI.know (hdep ⟨13, .data⟩ (by simp) rfl))
        have e6 := (hV6 _ _).1 (hI.know (hdep ⟨6, .guard⟩ (by simp) rfl))
        simp only [e13, e6] at hK
        refine wpOp_step rfl fun K' hK' => ?_
        go_simp
        exact hK' _ _ (hK _ _ (hI.quiet hRel hnd (by decide) hVm hSm (Below.refl _ _) ((hV14 _ _).2 rfl)))
      | 15, ho =>
        simp only [List.getElem?_cons_succ, List.getElem?_cons_zero, Option.some.injEq] at ho
        subst ho
        simp only [Act.put, List.setIfInBounds_toArray, List.set_cons_zero, List.set_cons_succ] at hK
        have e10 := (hV10 _ _).1 (hI.know (hdep ⟨10, .data⟩ (by simp) rfl))
        have e14 := (hV14 _ _).1 (hI.know (hdep ⟨14, .data⟩ (by simp) rfl))
        have e6 := (hV6 _ _).1 (hI.know (hdep ⟨6, .guard⟩ (by simp) rfl))
        simp only [e10, e14, e6] at hK
        refine wpOp_step rfl fun K' hK' => ?_
        go_simp
        exact hK' _ _ (hK _ _ (hI.quiet hRel hnd (by decide) hVm hSm (Below.refl _ _) ((hV15 _ _).2 (by simp [HNE.out]))))
      | 16, ho =>
        simp only [List.getElem?_cons_succ, List.getElem?_cons_zero, Option.some.injEq] at ho
        subst ho
        simp only [Act.put, List.setIfInBounds_toArray, List.set_cons_zero, List.set_cons_succ] at hK
        have e6 := (hV6 _ _).1 (hI.know (hdep ⟨6, .data⟩ (by simp) rfl))
        have e15 := (hV15 _ _).1 (hI.know (hdep ⟨15, .data⟩ (by simp) rfl))
        simp only [e6, e15] at hK
        refine wpOp_step rfl fun K' hK' => ?_
        go_simp
        exact hK' _ _ (hK _ _ (hI.quiet hRel hnd (by decide) hVm hSm (Below.refl _ _) ((hV16 _ _).2 rfl)))
      | i + 17, ho => simp at ho
    case fin =>
      simp only [putAll, Act.put, List.setIfInBounds_toArray, List.set_cons_zero, List.set_cons_succ, Nat.reduceAdd, Nat.zero_add]
      intro done u wr hd hI
      simp only [List.length_cons, List.length_nil, Nat.reduceAdd, Nat.zero_add] at hd
      have hS := (hS0 _ _).1 (hI.end_ (fun c hc => hd c (by simp at hc)))
      have e16 := (hV16 _ _).1 (hI.know (hd 16 (by omega)))
      have hbr := hI.1
      simp only [e16]
      obtain ⟨w4, rfl⟩ : ∃ X : World, X = wr := ⟨_, rfl⟩
      obtain ⟨z0, z1, z2, u0, u1, u2, zl, ul⟩ := HX.out w4 hbr
      have hbw4 := HBW.out.trans (hbr.mono HBW.out.size)
      have HXZ := Lib.hid (fun (wx : World) (h : Below w4.heap.size w4 wx) => HX.out wx (hbr.trans (h.mono hbr.size)))
      clear hI hd hS hVm hSm hS0 hRel hV0 hV1 hV2 hV3 hV4 hV5 hV6 hV7 hV8 hV9 hV10 hV11 hV12 hV13 hV14 hV15 hV16 e16 hbr
      have HXX := Lib.hid (fun (wx : World) (_ : Below W.heap.size W wx) (h : Below w4.heap.size w4 wx) => (show wx.cell? ⟨W.heap.size, 0, none⟩ = some (.bool a.ch) ∧ wx.cell? ⟨W.heap.size, 1, none⟩ = some (.slice (some ad) 2 ca) ∧ wx.cell? ⟨W.heap.size, 2, none⟩ = some (.slice D m cd) ∧ wx.cell? ⟨W.heap.size + 1, 0, none⟩ = some (.bool b.ch) ∧ wx.cell? ⟨W.heap.size + 1, 1, none⟩ = some (.slice (some bd) 2 ca') ∧ wx.cell? ⟨W.heap.size + 1, 2, none⟩ = some (.slice D' m' cd') ∧ W.heap.size < wx.heap.size ∧ W.heap.size + 1 < wx.heap.size from HXZ.out wx h))
      go_wp2_with fail
      refine (list_is (HA.out.mono hbw4)).mono ?_
      rintro e w5 ⟨rfl, hb5⟩
      have hbw5 := hbw4.trans (hb5.mono hbw4.size)
      have hb45 := hb5
      clear z0 z1 z2 u0 u1 u2 zl ul
      obtain ⟨z0, z1, z2, u0, u1, u2, zl, ul⟩ := HXX.out w5 hbw5 (hb45)
      obtain ⟨B1, hB1⟩ : ∃ B, B = decide (arrErr a = 0 ∧ a.sh.length = 1) := ⟨_, rfl⟩
      rw [← hB1]
      have HB1 := Lib.hid hB1
      clear hB1 hb5
      go_wp2_with fail
      refine (list_is (HB.out.mono hbw5)).mono ?_
      rintro e w6 ⟨rfl, hb6⟩
      have hbw6 := hbw5.trans (hb6.mono hbw5.size)
      have hb46 := hb45.trans (hb6.mono hb45.size)
      clear z0 z1 z2 u0 u1 u2 zl ul hb6
      obtain ⟨z0, z1, z2, u0, u1, u2, zl, ul⟩ := HXX.out w6 hbw6 hb46
      obtain ⟨B2, hB2⟩ : ∃ B, B = decide (arrErr b = 0 ∧ b.sh.length = 1) := ⟨_, rfl⟩
      rw [← hB2]
      have HB2 := Lib.hid hB2
      clear hB2 hb45 hbw5 hbw4
      cases B1 with
      | false =>
        cases B2
        all_goals
          go_wp2_with fail
          go_ret
          exact ⟨rfl, hbw6⟩
      | true =>
        cases B2 with
        | false =>
          go_wp2_with fail
          go_ret
          exact ⟨rfl, hbw6⟩
        | true =>
          have HL1 := Lib.hid (of_decide_eq_true HB1.out.symm)
          have HL2 := Lib.hid (of_decide_eq_true HB2.out.symm)
          cases hc : a.ch with
          | true =>
            rw [hc] at z0
            go_wp2_with fail
            go_ret
            exact ⟨rfl, hbw6⟩
          | false =>
            cases hc2 : b.ch with
            | true =>
              rw [hc] at z0
              rw [hc2] at u0
              go_wp2_with fail
              go_ret
              exact ⟨rfl, hbw6⟩
            | false =>
              by_cases hmm : m' = m
              case neg =>
                have e1 : ((m : Int) == (m' : Int)) = false := by rw [beq_eq_false_iff_ne]; omega
                have e2 : ¬ (m : Int) = (m' : Int) := by omega
                have e3 : decide ((m : Int) = (m' : Int)) = false := decide_eq_false e2
                rw [hc] at z0
                rw [hc2] at u0
                clear hmm
                go_wp2_with fail
                go_ret
                exact ⟨rfl, hbw6⟩
              subst hmm
              have HC1 := Lib.hid hc
              have HC2 := Lib.hid hc2
              obtain ⟨X, hX⟩ : ∃ X : Arr, X = ⟨false, [], innerD a.da b.da m' 1 1⟩ := ⟨_, rfl⟩
              have HWF1 := HW.out
              have HWF2 := HW2.out
              have key : LineOf line_turni [(⟨#[109]⟩, a), (⟨#[110]⟩, b)] X ∧ LineOf line_turns [(⟨#[109]⟩, a), (⟨#[110]⟩, b)] X ∧ WsOk [(⟨#[109]⟩, a), (⟨#[110]⟩, b)] := by
                obtain ⟨k, hk⟩ := ok_line HL1.out
                obtain ⟨k2, hk2⟩ := ok_line HL2.out
                have hkm : m' = k := by rw [HM.out, hk.len]; simp [prod]
                have hkm2 : m' = k2 := by rw [HM2.out, hk2.len]; simp [prod]
                subst hkm hkm2
                rw [hX]
                exact ⟨line_turni_is hk hk2 HC1.out HC2.out, line_turns_is hk hk2 HC1.out HC2.out HWF2, wsOk_two (nameOk_of (by decide +kernel)) (nameOk_of (by decide +kernel)) (by decide) hk hk2⟩
              have HLI := Lib.hid key.1
              have HLS := Lib.hid key.2.1
              have HWO := Lib.hid key.2.2
              have HX6 := Lib.hid (fun (wx : World) (h : Below w6.heap.size w6 wx) => HXX.out wx (hbw6.trans (h.mono hbw6.size)) (hb46.trans (h.mono hb46.size)))
              rw [hc] at z0
              rw [hc2] at u0
              rw [hc, hc2] at HX6
              clear key hX HWF1 HWF2 hc hc2 hb46
              go_wp2_with fail
              have hRel : Rels (fun w w' => Below w.heap.size w w') := rels_below
              obtain ⟨V, hVe⟩ : ∃ V : Nat → Value → World → Prop, V = fun i v w' => match i with
                  | 0 => v = .agg #[.bool false, .slice (some ad) 2 ca, .slice D m' cd]
                  | 1 => v = .agg #[.string ⟨#[109]⟩, .bool false, .slice (some ad) 2 ca, .slice D m' cd]
                  | 2 => v = .agg #[.bool false, .slice (some bd) 2 ca', .slice D' m' cd']
                  | 3 => v = .agg #[.string ⟨#[110]⟩, .bool false, .slice (some bd) 2 ca', .slice D' m' cd']
                  | 4 => ∃ g, v = .slice (some ⟨g, 0, none⟩) 2 2 ∧ Box w' g 35 #[.string ⟨#[109]⟩, .bool false, .slice (some ad) 2 ca, .slice D m' cd, .string ⟨#[110]⟩, .bool false, .slice (some bd) 2 ca', .slice D' m' cd']
                  | 5 => ∃ g, v = .slice (some ⟨g, 0, none⟩) 2 2 ∧ Box w' g 35 #[.string ⟨#[109]⟩, .bool false, .slice (some ad) 2 ca, .slice D m' cd, .string ⟨#[110]⟩, .bool false, .slice (some bd) 2 ca', .slice D' m' cd']
                  | _ => True := ⟨_, rfl⟩
              have hVm : ∀ j v w1 w2, V j v w1 → (fun w w' => Below w.heap.size w w') w1 w2 → V j v w2 := by
                intro j v w1 w2 h hr
                subst hVe
                match j, h with
                | 0, h => exact h
                | 1, h => exact h
                | 2, h => exact h
                | 3, h => exact h
                | 4, ⟨g, e, h⟩ => exact ⟨g, e, h.below hr⟩
                | 5, ⟨g, e, h⟩ => exact ⟨g, e, h.below hr⟩
                | i + 6, _ => trivial
              have hV0 : ∀ v w', V 0 v w' ↔ v = .agg #[.bool false, .slice (some ad) 2 ca, .slice D m' cd] := fun _ _ => by subst hVe; rfl
              have hV1 : ∀ v w', V 1 v w' ↔ v = .agg #[.string ⟨#[109]⟩, .bool false, .slice (some ad) 2 ca, .slice D m' cd] := fun _ _ => by subst hVe; rfl
              have hV2 : ∀ v w', V 2 v w' ↔ v = .agg #[.bool false, .slice (some bd) 2 ca', .slice D' m' cd'] := fun _ _ => by subst hVe; rfl
              have hV3 : ∀ v w', V 3 v w' ↔ v = .agg #[.string ⟨#[110]⟩, .bool false, .slice (some bd) 2 ca', .slice D' m' cd'] := fun _ _ => by subst hVe; rfl
              have hV4 : ∀ v w', V 4 v w' ↔ ∃ g, v = .slice (some ⟨g, 0, none⟩) 2 2 ∧ Box w' g 35 #[.string ⟨#[109]⟩, .bool false, .slice (some ad) 2 ca, .slice D m' cd, .string ⟨#[110]⟩, .bool false, .slice (some bd) 2 ca', .slice D' m' cd'] := fun _ _ => by subst hVe; rfl
              have hV5 : ∀ v w', V 5 v w' ↔ ∃ g, v = .slice (some ⟨g, 0, none⟩) 2 2 ∧ Box w' g 35 #[.string ⟨#[109]⟩, .bool false, .slice (some ad) 2 ca, .slice D m' cd, .string ⟨#[110]⟩, .bool false, .slice (some bd) 2 ca', .slice D' m' cd'] := fun _ _ => by subst hVe; rfl
              obtain ⟨St, hSe⟩ : ∃ St : Nat → (Nat → Value) → World → Prop, St = fun s u w' => match s with
                  | 0 => True
                  | _ => False := ⟨_, rfl⟩
              have hSm : ∀ s u u' w1 w2, (∀ c ∈ [], u' c = u c) → St s u w1 → Below w1.heap.size w1 w2 → St s u' w2 := by
                intro s u u' w1 w2 hu h hb
                subst hSe
                match s, h with
                | 0, h => trivial
                | s + 1, h => exact h.elim
              have hS0 : ∀ u w', St 0 u w' ↔ (True) := fun _ _ => by subst hSe; rfl
              clear hVe hSe
              refine wp_region_inv (ChainInv (fun w w' => Below w.heap.size w w') V [] St w6) (by kernel_rfl) (by kernel_rfl) (by kernel_rfl) ?start ?step ?fin
              case start => exact fun u => ChainInv.start hRel (Below.refl _ _).drew ((hS0 _ _).2 (trivial))
              case step =>
                simp only [putAll, Act.put, List.setIfInBounds_toArray, List.set_cons_zero, List.set_cons_succ, Nat.reduceAdd, Nat.zero_add]
                intro i o ho done u wr hnd hdep hI K hK
                obtain ⟨z0, z1, z2, u0, u1, u2, zl, ul⟩ := HX6.out wr hI.1
                match i, ho with
                | 0, ho =>
                  simp only [List.getElem?_cons_zero, Option.some.injEq] at ho
                  subst ho
                  simp only [Act.put, List.setIfInBounds_toArray, List.set_cons_zero, List.set_cons_succ] at hK
                  refine wpOp_step rfl fun K' hK' => ?_
                  go_simp
                  exact hK' _ _ (hK _ _ (hI.quiet hRel hnd (by decide) hVm hSm (Below.refl _ _) ((hV0 _ _).2 rfl)))
                | 1, ho =>
                  simp only [List.getElem?_cons_succ, List.getElem?_cons_zero, Option.some.injEq] at ho
                  subst ho
                  simp only [Act.put, List.setIfInBounds_toArray, List.set_cons_zero, List.set_cons_succ] at hK
                  have e0 := (hV0 _ _).1 (hI.know (hdep ⟨0, .data⟩ (by simp) rfl))
                  simp only [e0] at hK
                  refine wpOp_step rfl fun K' hK' => ?_
                  go_simp
                  refine bind_any.mono ?_
                  rintro e w6 ⟨rfl, hb6⟩
                  exact hK' _ _ (hK _ _ (hI.quiet hRel hnd (by decide) hVm hSm hb6 ((hV1 _ _).2 rfl)))
                | 2, ho =>
                  simp only [List.getElem?_cons_succ, List.getElem?_cons_zero, Option.some.injEq] at ho
                  subst ho
                  simp only [Act.put, List.setIfInBounds_toArray, List.set_cons_zero, List.set_cons_succ] at hK
                  refine wpOp_step rfl fun K' hK' => ?_
                  go_simp
                  exact hK' _ _ (hK _ _ (hI.quiet hRel hnd (by decide) hVm hSm (Below.refl _ _) ((hV2 _ _).2 rfl)))
                | 3, ho =>
                  simp only [List.getElem?_cons_succ, List.getElem?_cons_zero, Option.some.injEq] at ho
                  subst ho
                  simp only [Act.put, List.setIfInBounds_toArray, List.set_cons_zero, List.set_cons_succ] at hK
                  have e2 := (hV2 _ _).1 (hI.know (hdep ⟨2, .data⟩ (by simp) rfl))
                  simp only [e2] at hK
                  refine wpOp_step rfl fun K' hK' => ?_
                  go_simp
                  refine bind_any.mono ?_
                  rintro e w6 ⟨rfl, hb6⟩
                  exact hK' _ _ (hK _ _ (hI.quiet hRel hnd (by decide) hVm hSm hb6 ((hV3 _ _).2 rfl)))
                | 4, ho =>
                  simp only [List.getElem?_cons_succ, List.getElem?_cons_zero, Option.some.injEq] at ho
                  subst ho
                  simp only [Act.put, List.setIfInBounds_toArray, List.set_cons_zero, List.set_cons_succ] at hK
                  have e1 := (hV1 _ _).1 (hI.know (hdep ⟨1, .data⟩ (by simp) rfl))
                  have e3 := (hV3 _ _).1 (hI.know (hdep ⟨3, .data⟩ (by simp) rfl))
                  simp only [e1, e3] at hK
                  refine wpOp_step rfl fun K' hK' => ?_
                  go_simp
                  exact hK' _ _ (hK _ _ (hI.quiet hRel hnd (by decide) hVm hSm (below_one _ _) ((hV4 _ _).2 ⟨_, rfl, Box.new _ _ _⟩)))
                | 5, ho =>
                  simp only [List.getElem?_cons_succ, List.getElem?_cons_zero, Option.some.injEq] at ho
                  subst ho
                  simp only [Act.put, List.setIfInBounds_toArray, List.set_cons_zero, List.set_cons_succ] at hK
                  obtain ⟨g, e4, hx⟩ := (hV4 _ _).1 (hI.know (hdep ⟨4, .data⟩ (by simp) rfl))
                  simp only [e4] at hK
                  refine wpOp_step rfl fun K' hK' => ?_
                  go_simp
                  exact hK' _ _ (hK _ _ (hI.quiet hRel hnd (by decide) hVm hSm (Below.refl _ _) ((hV5 _ _).2 ⟨g, rfl, hx⟩)))
                | i + 6, ho => simp at ho
              case fin =>
                simp only [putAll, Act.put, List.setIfInBounds_toArray, List.set_cons_zero, List.set_cons_succ, Nat.reduceAdd, Nat.zero_add]
                intro done u wr hd hI
                simp only [List.length_cons, List.length_nil, Nat.reduceAdd, Nat.zero_add] at hd
                have hS := (hS0 _ _).1 (hI.end_ (fun c hc => hd c (by simp at hc)))
                obtain ⟨g, e5, hbx⟩ := (hV5 _ _).1 (hI.know (hd 5 (by omega)))
                have hbr := hI.1
                simp only [e5]
                obtain ⟨w7, rfl⟩ : ∃ X : World, X = wr := ⟨_, rfl⟩
                clear hI hd hS hVm hSm hS0 hRel hV0 hV1 hV2 hV3 hV4 hV5 e5
                have hbw7 := hbw6.trans (hbr.mono hbw6.size)
                have HWS := Lib.hid (wsAt_two (a := a) (b := b) (by rw [HC1.out, HC2.out]; exact hbx) (HA.out.mono hbw7) (HB.out.mono hbw7))
                clear hbr hbx
                go_wp2_with fail
                refine (worth_any (HST.out.below hbw7) HWS.out HWO.out HLI.out).mono ?_
                rintro e w8 ⟨r, rfl, hr, hb8⟩
                obtain ⟨A4, c4, D4, d4, rfl, -, -⟩ := hr.open_
                have HV := Lib.hid (IsArr.mono hr (below_one w8 (.cells #[.bool X.ch, .slice A4 X.sh.length c4, .slice D4 X.da.length d4] 25)))
                have HWS8 := Lib.hid ((HWS.out.below hb8).below (below_one w8 (.cells #[.bool X.ch, .slice A4 X.sh.length c4, .slice D4 X.da.length d4] 25)))
                have hbw8 := (hbw7.trans (hb8.mono hbw7.size)).alloc (by have := hbw7.size; have := hb8.size; omega) (.cells #[.bool X.ch, .slice A4 X.sh.length c4, .slice D4 X.da.length d4] 25)
                clear hb8 hr hbw7
                go_wp2_with fail
                refine (tells_true (HST.out.below hbw8) HWS8.out HWO.out HLS.out HV.out rfl).mono ?_
                rintro e w9 ⟨rfl, hb9⟩
                have hbw9 := hbw8.trans (hb9.mono hbw8.size)
                clear hb9 hbw8
                go_wp2_with fail
                go_ret
                exact ⟨rfl, hbw9⟩
  subst heq
  have hgs : GoodSh [p, r] := ⟨by simp, fun n hn => by simp at hn; rcases hn with rfl | rfl <;> omega, by simp only [prod, Nat.mul_one]; exact Nat.le_trans (Nat.mul_le_mul hp hr) (by omega)⟩
  obtain ⟨X, hX⟩ : ∃ X : Arr, X = flip [1, 0] ⟨false, [(p : Int), (r : Int)], innerD a.da b.da p2 (p * r) r⟩ := ⟨_, rfl⟩
  have HLP := Lib.hid (show LineOf line_turnp [(⟨#[109]⟩, a), (⟨#[110]⟩, b)] X by rw [hX]; exact line_turnp_is ho1 ho2 hc1 hc2 hgs)
  have HLQ := Lib.hid (show LineOf line_turnq [(⟨#[109]⟩, a), (⟨#[110]⟩, b)] X by rw [hX]; exact line_turnq_is ho1 ho2 hc1 hc2 hgs)
  have HWO := Lib.hid (show WsOk [(⟨#[109]⟩, a), (⟨#[110]⟩, b)] from wsOk_two (nameOk_of (by decide +kernel)) (nameOk_of (by decide +kernel)) (by decide) ho1 ho2)
  clear hX hgs
  obtain rfl : n = 2 := by rw [HN.out, ho1.sh]; rfl
  obtain rfl : n' = 2 := by rw [HN2.out, ho2.sh]; rfl
  obtain ⟨A0, c0, D0, d0, eA, hs1, -⟩ := HA.out.open_
  obtain ⟨A0', c0', D0', d0', eB, hs2, -⟩ := HB.out.open_
  have hs1 : IsInts W (.slice A 2 ca) [(p : Int), (p2 : Int)] := by
    have h := HA.out.shapeOf
    rw [ho1.sh] at h
    exact h
  have hs2 : IsInts W (.slice A' 2 ca') [(p2 : Int), (r : Int)] := by
    have h := HB.out.shapeOf
    rw [ho2.sh] at h
    exact h
  obtain ⟨_, _, eA1, -, -, -, -, q4⟩ := hs1
  injection eA1 with eA2 eA3 eA4
  subst eA2 eA4
  obtain ⟨_, _, eB1, -, -, -, -, q5⟩ := hs2
  injection eB1 with eB2 eB3 eB4
  subst eB2 eB4
  obtain ⟨ad, rfl, hal, hac⟩ := (show Elems W A [(p : Int), (p2 : Int)] from q4) 1 (p2 : Int) rfl
  obtain ⟨bd, rfl, hbl, hbc⟩ := (show Elems W A' [(p2 : Int), (r : Int)] from q5) 0 (p2 : Int) rfl
  rw [addr_zero] at hbc
  have HCX := Lib.hid (fun (wx : World) (h : Below w2.heap.size w2 wx) => (show wx.cell? ⟨ad.block, ad.off + 1, none⟩ = some (.int .i64 (p2 : Nat)) ∧ wx.cell? bd = some (.int .i64 (p2 : Nat)) from
    have hW := HBW.out.trans (h.mono HBW.out.size)
    ⟨(hW.cell (p := ad.add 1) (by rw [addr_block_add]; exact hal)).trans hac, (hW.cell hbl).trans hbc⟩))
  clear eA3 eB3 q4 q5 hal hac hbl hbc ho1 ho2 hc1 hc2 eA eB
  go_wp2_with fail
  have hRel : Rels (fun w w' => Below w.heap.size w w') := rels_below
  obtain ⟨V, hVe⟩ : ∃ V : Nat → Value → World → Prop, V = fun i v w' => match i with
      | 0 => v = .agg #[.bool a.ch, .slice (some ad) 2 ca, .slice D m cd]
      | 1 => v = .bool true
      | 2 => v = .bool true
      | 3 => v = .agg #[.bool b.ch, .slice (some bd) 2 ca', .slice D' m' cd']
      | 4 => v = .bool true
      | 5 => v = .bool true
      | 6 => v = .bool true
      | 7 => v = .pointer (some ⟨W.heap.size, 1, none⟩)
      | 8 => v = .slice (some ad) 2 ca
      | 9 => v = .pointer (some ⟨ad.block, ad.off + 1, none⟩)
      | 10 => v = .int .i64 (p2 : Nat)
      | 11 => v = .pointer (some ⟨W.heap.size + 1, 1, none⟩)
      | 12 => v = .slice (some bd) 2 ca'
      | 13 => v = .pointer (some bd)
      | 14 => v = .int .i64 (p2 : Nat)
      | 15 => v = .bool true
      | 16 => v = .bool true
      | _ => True := ⟨_, rfl⟩
  have hVm : ∀ j v w1 w2, V j v w1 → (fun w w' => Below w.heap.size w w') w1 w2 → V j v w2 := by
    intro j v w1 w2 h hr
    subst hVe
    match j, h with
    | 0, h => exact h
    | 1, h => exact h
    | 2, h => exact h
    | 3, h => exact h
    | 4, h => exact h
    | 5, h => exact h
    | 6, h => exact h
    | 7, h => exact h
    | 8, h => exact h
    | 9, h => exact h
    | 10, h => exact h
    | 11, h => exact h
    | 12, h => exact h
    | 13, h => exact h
    | 14, h => exact h
    | 15, h => exact h
    | 16, h => exact h
    | i + 17, _ => trivial
  have hV0 : ∀ v w', V 0 v w' ↔ v = .agg #[.bool a.ch, .slice (some ad) 2 ca, .slice D m cd] := fun _ _ => by subst hVe; rfl
  have hV1 : ∀ v w', V 1 v w' ↔ v = .bool true := fun _ _ => by subst hVe; rfl
  have hV2 : ∀ v w', V 2 v w' ↔ v = .bool true := fun _ _ => by subst hVe; rfl
  have hV3 : ∀ v w', V 3 v w' ↔ v = .agg #[.bool b.ch, .slice (some bd) 2 ca', .slice D' m' cd'] := fun _ _ => by subst hVe; rfl
  have hV4 : ∀ v w', V 4 v w' ↔ v = .bool true := fun _ _ => by subst hVe; rfl
  have hV5 : ∀ v w', V 5 v w' ↔ v = .bool true := fun _ _ => by subst hVe; rfl
  have hV6 : ∀ v w', V 6 v w' ↔ v = .bool true := fun _ _ => by subst hVe; rfl
  have hV7 : ∀ v w', V 7 v w' ↔ v = .pointer (some ⟨W.heap.size, 1, none⟩) := fun _ _ => by subst hVe; rfl
  have hV8 : ∀ v w', V 8 v w' ↔ v = .slice (some ad) 2 ca := fun _ _ => by subst hVe; rfl
  have hV9 : ∀ v w', V 9 v w' ↔ v = .pointer (some ⟨ad.block, ad.off + 1, none⟩) := fun _ _ => by subst hVe; rfl
  have hV10 : ∀ v w', V 10 v w' ↔ v = .int .i64 (p2 : Nat) := fun _ _ => by subst hVe; rfl
  have hV11 : ∀ v w', V 11 v w' ↔ v = .pointer (some ⟨W.heap.size + 1, 1, none⟩) := fun _ _ => by subst hVe; rfl
  have hV12 : ∀ v w', V 12 v w' ↔ v = .slice (some bd) 2 ca' := fun _ _ => by subst hVe; rfl
  have hV13 : ∀ v w', V 13 v w' ↔ v = .pointer (some bd) := fun _ _ => by subst hVe; rfl
  have hV14 : ∀ v w', V 14 v w' ↔ v = .int .i64 (p2 : Nat) := fun _ _ => by subst hVe; rfl
  have hV15 : ∀ v w', V 15 v w' ↔ v = .bool true := fun _ _ => by subst hVe; rfl
  have hV16 : ∀ v w', V 16 v w' ↔ v = .bool true := fun _ _ => by subst hVe; rfl
  obtain ⟨St, hSe⟩ : ∃ St : Nat → (Nat → Value) → World → Prop, St = fun s u w' => match s with
      | 0 => True
      | _ => False := ⟨_, rfl⟩
  have hSm : ∀ s u u' w1 w2, (∀ c ∈ [], u' c = u c) → St s u w1 → Below w1.heap.size w1 w2 → St s u' w2 := by
    intro s u u' w1 w2 hu h hb
    subst hSe
    match s, h with
    | 0, h => trivial
    | s + 1, h => exact h.elim
  have hS0 : ∀ u w', St 0 u w' ↔ (True) := fun _ _ => by subst hSe; rfl
  clear hVe hSe
  refine wp_region_inv (ChainInv (fun w w' => Below w.heap.size w w') V [] St w2) (by kernel_rfl) (by kernel_rfl) (by kernel_rfl) ?start ?step ?fin
  case start => exact fun u => ChainInv.start hRel (Below.refl _ _).drew ((hS0 _ _).2 (trivial))
  case step =>
    simp only [putAll, Act.put, List.setIfInBounds_toArray, List.set_cons_zero, List.set_cons_succ, Nat.reduceAdd, Nat.zero_add]
    intro i o ho done u wr hnd hdep hI K hK
    obtain ⟨z0, z1, z2, u0, u1, u2, zl, ul⟩ := HX.out wr hI.1
    match i, ho with
    | 0, ho =>
      simp only [List.getElem?_cons_zero, Option.some.injEq] at ho
      subst ho
      simp only [Act.put, List.setIfInBounds_toArray, List.set_cons_zero, List.set_cons_succ] at hK
      refine wpOp_step rfl fun K' hK' => ?_
      go_simp
      exact hK' _ _ (hK _ _ (hI.quiet hRel hnd (by decide) hVm hSm (Below.refl _ _) ((hV0 _ _).2 rfl)))
    | 1, ho =>
      simp only [List.getElem?_cons_succ, List.getElem?_cons_zero, Option.some.injEq] at ho
      subst ho
      simp only [Act.put, List.setIfInBounds_toArray, List.set_cons_zero, List.set_cons_succ] at hK
      have e0 := (hV0 _ _).1 (hI.know (hdep ⟨0, .data⟩ (by simp) rfl))
      simp only [e0] at hK
      refine wpOp_step rfl fun K' hK' => ?_
      go_simp
      refine (grid_is (HA.out.mono (HBW.out.trans (hI.1.mono HBW.out.size)))).mono ?_
      rintro e w5 ⟨r, rfl, hr, hb5⟩
      obtain rfl : r = true := hr.2 HG1.out
      exact hK' _ _ (hK _ _ (hI.quiet hRel hnd (by decide) hVm hSm hb5 ((hV1 _ _).2 rfl)))
    | 2, ho =>
      simp only [List.getElem?_cons_succ, List.getElem?_cons_zero, Option.some.injEq] at ho
      subst ho
      simp only [Act.put, List.setIfInBounds_toArray, List.set_cons_zero, List.set_cons_succ] at hK
      have e1 := (hV1 _ _).1 (hI.know (hdep ⟨1, .data⟩ (by simp) rfl))
      simp only [e1] at hK
      refine wpOp_step rfl fun K' hK' => ?_
      go_simp
      exact hK' _ _ (hK _ _ (hI.quiet hRel hnd (by decide) hVm hSm (Below.refl _ _) ((hV2 _ _).2 rfl)))
    | 3, ho =>
      simp only [List.getElem?_cons_succ, List.getElem?_cons_zero, Option.some.injEq] at ho
      subst ho
      simp only [Act.put, List.setIfInBounds_toArray, List.set_cons_zero, List.set_cons_succ] at hK
      have e2 := (hV2 _ _).1 (hI.know (hdep ⟨2, .guard⟩ (by simp) rfl))
      simp only [e2] at hK
      refine wpOp_step rfl fun K' hK' => ?_
      go_simp
      exact hK' _ _ (hK _ _ (hI.quiet hRel hnd (by decide) hVm hSm (Below.refl _ _) ((hV3 _ _).2 rfl)))
    | 4, ho =>
      simp only [List.getElem?_cons_succ, List.getElem?_cons_zero, Option.some.injEq] at ho
      subst ho
      simp only [Act.put, List.setIfInBounds_toArray, List.set_cons_zero, List.set_cons_succ] at hK
      have e3 := (hV3 _ _).1 (hI.know (hdep ⟨3, .data⟩ (by simp) rfl))
      have e2 := (hV2 _ _).1 (hI.know (hdep ⟨2, .guard⟩ (by simp) rfl))
      simp only [e3, e2] at hK
      refine wpOp_step rfl fun K' hK' => ?_
      go_simp
      refine (grid_is (HB.out.mono (HBW.out.trans (hI.1.mono HBW.out.size)))).mono ?_
      rintro e w5 ⟨r, rfl, hr, hb5⟩
      obtain rfl : r = true := hr.2 HG2.out
      exact hK' _ _ (hK _ _ (hI.quiet hRel hnd (by decide) hVm hSm hb5 ((hV4 _ _).2 rfl)))
    | 5, ho =>
      simp only [List.getElem?_cons_succ, List.getElem?_cons_zero, Option.some.injEq] at ho
      subst ho
      simp only [Act.put, List.setIfInBounds_toArray, List.set_cons_zero, List.set_cons_succ] at hK
      have e2 := (hV2 _ _).1 (hI.know (hdep ⟨2, .data⟩ (by simp) rfl))
      have e4 := (hV4 _ _).1 (hI.know (hdep ⟨4, .data⟩ (by simp) rfl))
      simp only [e2, e4] at hK
      refine wpOp_step rfl fun K' hK' => ?_
      go_simp
      exact hK' _ _ (hK _ _ (hI.quiet hRel hnd (by decide) hVm hSm (Below.refl _ _) ((hV5 _ _).2 rfl)))
    | 6, ho =>
      simp only [List.getElem?_cons_succ, List.getElem?_cons_zero, Option.some.injEq] at ho
      subst ho
      simp only [Act.put, List.setIfInBounds_toArray, List.set_cons_zero, List.set_cons_succ] at hK
      have e5 := (hV5 _ _).1 (hI.know (hdep ⟨5, .data⟩ (by simp) rfl))
      simp only [e5] at hK
      refine wpOp_step rfl fun K' hK' => ?_
      go_simp
      exact hK' _ _ (hK _ _ (hI.quiet hRel hnd (by decide) hVm hSm (Below.refl _ _) ((hV6 _ _).2 rfl)))
    | 7, ho =>
      simp only [List.getElem?_cons_succ, List.getElem?_cons_zero, Option.some.injEq] at ho
      subst ho
      simp only [Act.put, List.setIfInBounds_toArray, List.set_cons_zero, List.set_cons_succ] at hK
      have e6 := (hV6 _ _).1 (hI.know (hdep ⟨6, .guard⟩ (by simp) rfl))
      simp only [e6] at hK
      refine wpOp_step rfl fun K' hK' => ?_
      go_simp
      exact hK' _ _ (hK _ _ (hI.quiet hRel hnd (by decide) hVm hSm (Below.refl _ _) ((hV7 _ _).2 rfl)))
    | 8, ho =>
      simp only [List.getElem?_cons_succ, List.getElem?_cons_zero, Option.some.injEq] at ho
      subst ho
      simp only [Act.put, List.setIfInBounds_toArray, List.set_cons_zero, List.set_cons_succ] at hK
      have e7 := (hV7 _ _).1 (hI.know (hdep ⟨7, .data⟩ (by simp) rfl))
      have e6 := (hV6 _ _).1 (hI.know (hdep ⟨6, .guard⟩ (by simp) rfl))
      simp only [e7, e6] at hK
      refine wpOp_step rfl fun K' hK' => ?_
      go_simp
      exact hK' _ _ (hK _ _ (hI.quiet hRel hnd (by decide) hVm hSm (Below.refl _ _) ((hV8 _ _).2 rfl)))
    | 9, ho =>
      simp only [List.getElem?_cons_succ, List.getElem?_cons_zero, Option.some.injEq] at ho
      subst ho
      simp only [Act.put, List.setIfInBounds_toArray, List.set_cons_zero, List.set_cons_succ] at hK
      have e8 := (hV8 _ _).1 (hI.know (hdep ⟨8, .data⟩ (by simp) rfl))
      have e6 := (hV6 _ _).1 (hI.know (hdep ⟨6, .guard⟩ (by simp) rfl))
      simp only [e8, e6] at hK
      refine wpOp_step rfl fun K' hK' => ?_
      go_simp
      exact hK' _ _ (hK _ _ (hI.quiet hRel hnd (by decide) hVm hSm (Below.refl _ _) ((hV9 _ _).2 rfl)))
    | 10, ho =>
      simp only [List.getElem?_cons_succ, List.getElem?_cons_zero, Option.some.injEq] at ho
      subst ho
      simp only [Act.put, List.setIfInBounds_toArray, List.set_cons_zero, List.set_cons_succ] at hK
      have hcr := (HCX.out wr hI.1).1
      have e9 := (hV9 _ _).1 (hI.know (hdep ⟨9, .data⟩ (by simp) rfl))
      have e6 := (hV6 _ _).1 (hI.know (hdep ⟨6, .guard⟩ (by simp) rfl))
      simp only [e9, e6] at hK
      refine wpOp_step rfl fun K' hK' => ?_
      go_simp
      exact hK' _ _ (hK _ _ (hI.quiet hRel hnd (by decide) hVm hSm (Below.refl _ _) ((hV10 _ _).2 rfl)))
    | 11, ho =>
      simp only [List.getElem?_cons_succ, List.getElem?_cons_zero, Option.some.injEq] at ho
      subst ho
      simp only [Act.put, List.setIfInBounds_toArray, List.set_cons_zero, List.set_cons_succ] at hK
      have e6 := (hV6 _ _).1 (hI.know (hdep ⟨6, .guard⟩ (by simp) rfl))
      simp only [e6] at hK
      refine wpOp_step rfl fun K' hK' => ?_
      go_simp
      exact hK' _ _ (hK _ _ (hI.quiet hRel hnd (by decide) hVm hSm (Below.refl _ _) ((hV11 _ _).2 rfl)))
    | 12, ho =>
      simp only [List.getElem?_cons_succ, List.getElem?_cons_zero, Option.some.injEq] at ho
      subst ho
      simp only [Act.put, List.setIfInBounds_toArray, List.set_cons_zero, List.set_cons_succ] at hK
      have e11 := (hV11 _ _).1 (hI.know (hdep ⟨11, .data⟩ (by simp) rfl))
      have e6 := (hV6 _ _).1 (hI.know (hdep ⟨6, .guard⟩ (by simp) rfl))
      simp only [e11, e6] at hK
      refine wpOp_step rfl fun K' hK' => ?_
      go_simp
      exact hK' _ _ (hK _ _ (hI.quiet hRel hnd (by decide) hVm hSm (Below.refl _ _) ((hV12 _ _).2 rfl)))
    | 13, ho =>
      simp only [List.getElem?_cons_succ, List.getElem?_cons_zero, Option.some.injEq] at ho
      subst ho
      simp only [Act.put, List.setIfInBounds_toArray, List.set_cons_zero, List.set_cons_succ] at hK
      have e12 := (hV12 _ _).1 (hI.know (hdep ⟨12, .data⟩ (by simp) rfl))
      have e6 := (hV6 _ _).1 (hI.know (hdep ⟨6, .guard⟩ (by simp) rfl))
      simp only [e12, e6] at hK
      refine wpOp_step rfl fun K' hK' => ?_
      go_simp
      exact hK' _ _ (hK _ _ (hI.quiet hRel hnd (by decide) hVm hSm (Below.refl _ _) ((hV13 _ _).2 rfl)))
    | 14, ho =>
      simp only [List.getElem?_cons_succ, List.getElem?_cons_zero, Option.some.injEq] at ho
      subst ho
      simp only [Act.put, List.setIfInBounds_toArray, List.set_cons_zero, List.set_cons_succ] at hK
      have hcr := (HCX.out wr hI.1).2
      have e13 := (hV13 _ _).1 (hI.know (hdep ⟨13, .data⟩ (by simp) rfl))
      have e6 := (hV6 _ _).1 (hI.know (hdep ⟨6, .guard⟩ (by simp) rfl))
      simp only [e13, e6] at hK
      refine wpOp_step rfl fun K' hK' => ?_
      go_simp
      exact hK' _ _ (hK _ _ (hI.quiet hRel hnd (by decide) hVm hSm (Below.refl _ _) ((hV14 _ _).2 rfl)))
    | 15, ho =>
      simp only [List.getElem?_cons_succ, List.getElem?_cons_zero, Option.some.injEq] at ho
      subst ho
      simp only [Act.put, List.setIfInBounds_toArray, List.set_cons_zero, List.set_cons_succ] at hK
      have e10 := (hV10 _ _).1 (hI.know (hdep ⟨10, .data⟩ (by simp) rfl))
      have e14 := (hV14 _ _).1 (hI.know (hdep ⟨14, .data⟩ (by simp) rfl))
      have e6 := (hV6 _ _).1 (hI.know (hdep ⟨6, .guard⟩ (by simp) rfl))
      simp only [e10, e14, e6] at hK
      refine wpOp_step rfl fun K' hK' => ?_
      go_simp
      exact hK' _ _ (hK _ _ (hI.quiet hRel hnd (by decide) hVm hSm (Below.refl _ _) ((hV15 _ _).2 (by simp))))
    | 16, ho =>
      simp only [List.getElem?_cons_succ, List.getElem?_cons_zero, Option.some.injEq] at ho
      subst ho
      simp only [Act.put, List.setIfInBounds_toArray, List.set_cons_zero, List.set_cons_succ] at hK
      have e6 := (hV6 _ _).1 (hI.know (hdep ⟨6, .data⟩ (by simp) rfl))
      have e15 := (hV15 _ _).1 (hI.know (hdep ⟨15, .data⟩ (by simp) rfl))
      simp only [e6, e15] at hK
      refine wpOp_step rfl fun K' hK' => ?_
      go_simp
      exact hK' _ _ (hK _ _ (hI.quiet hRel hnd (by decide) hVm hSm (Below.refl _ _) ((hV16 _ _).2 rfl)))
    | i + 17, ho => simp at ho
  case fin =>
    simp only [putAll, Act.put, List.setIfInBounds_toArray, List.set_cons_zero, List.set_cons_succ, Nat.reduceAdd, Nat.zero_add]
    intro done u wr hd hI
    simp only [List.length_cons, List.length_nil, Nat.reduceAdd, Nat.zero_add] at hd
    have hS := (hS0 _ _).1 (hI.end_ (fun c hc => hd c (by simp at hc)))
    have e16 := (hV16 _ _).1 (hI.know (hd 16 (by omega)))
    have hbr := hI.1
    simp only [e16]
    obtain ⟨w4, rfl⟩ : ∃ X : World, X = wr := ⟨_, rfl⟩
    obtain ⟨z0, z1, z2, u0, u1, u2, zl, ul⟩ := HX.out w4 hbr
    have hbw4 := HBW.out.trans (hbr.mono HBW.out.size)
    have HXY := Lib.hid (fun (wx : World) (h : Below w4.heap.size w4 wx) => HX.out wx (hbr.trans (h.mono hbr.size)))
    clear hI hd hS hVm hSm hS0 hRel hV0 hV1 hV2 hV3 hV4 hV5 hV6 hV7 hV8 hV9 hV10 hV11 hV12 hV13 hV14 hV15 hV16 e16 hbr
    go_wp2_with fail
    have hRel : Rels (fun w w' => Below w.heap.size w w') := rels_below
    obtain ⟨V, hVe⟩ : ∃ V : Nat → Value → World → Prop, V = fun i v w' => match i with
        | 0 => v = .agg #[.bool a.ch, .slice (some ad) 2 ca, .slice D m cd]
        | 1 => v = .agg #[.string ⟨#[109]⟩, .bool a.ch, .slice (some ad) 2 ca, .slice D m cd]
        | 2 => v = .agg #[.bool b.ch, .slice (some bd) 2 ca', .slice D' m' cd']
        | 3 => v = .agg #[.string ⟨#[110]⟩, .bool b.ch, .slice (some bd) 2 ca', .slice D' m' cd']
        | 4 => ∃ g, v = .slice (some ⟨g, 0, none⟩) 2 2 ∧ Box w' g 35 #[.string ⟨#[109]⟩, .bool a.ch, .slice (some ad) 2 ca, .slice D m cd, .string ⟨#[110]⟩, .bool b.ch, .slice (some bd) 2 ca', .slice D' m' cd']
        | 5 => ∃ g, v = .slice (some ⟨g, 0, none⟩) 2 2 ∧ Box w' g 35 #[.string ⟨#[109]⟩, .bool a.ch, .slice (some ad) 2 ca, .slice D m cd, .string ⟨#[110]⟩, .bool b.ch, .slice (some bd) 2 ca', .slice D' m' cd']
        | _ => True := ⟨_, rfl⟩
    have hVm : ∀ j v w1 w2, V j v w1 → (fun w w' => Below w.heap.size w w') w1 w2 → V j v w2 := by
      intro j v w1 w2 h hr
      subst hVe
      match j, h with
      | 0, h => exact h
      | 1, h => exact h
      | 2, h => exact h
      | 3, h => exact h
      | 4, ⟨g, e, h⟩ => exact ⟨g, e, h.below hr⟩
      | 5, ⟨g, e, h⟩ => exact ⟨g, e, h.below hr⟩
      | i + 6, _ => trivial
    have hV0 : ∀ v w', V 0 v w' ↔ v = .agg #[.bool a.ch, .slice (some ad) 2 ca, .slice D m cd] := fun _ _ => by subst hVe; rfl
    have hV1 : ∀ v w', V 1 v w' ↔ v = .agg #[.string ⟨#[109]⟩, .bool a.ch, .slice (some ad) 2 ca, .slice D m cd] := fun _ _ => by subst hVe; rfl
    have hV2 : ∀ v w', V 2 v w' ↔ v = .agg #[.bool b.ch, .slice (some bd) 2 ca', .slice D' m' cd'] := fun _ _ => by subst hVe; rfl
    have hV3 : ∀ v w', V 3 v w' ↔ v = .agg #[.string ⟨#[110]⟩, .bool b.ch, .slice (some bd) 2 ca', .slice D' m' cd'] := fun _ _ => by subst hVe; rfl
    have hV4 : ∀ v w', V 4 v w' ↔ ∃ g, v = .slice (some ⟨g, 0, none⟩) 2 2 ∧ Box w' g 35 #[.string ⟨#[109]⟩, .bool a.ch, .slice (some ad) 2 ca, .slice D m cd, .string ⟨#[110]⟩, .bool b.ch, .slice (some bd) 2 ca', .slice D' m' cd'] := fun _ _ => by subst hVe; rfl
    have hV5 : ∀ v w', V 5 v w' ↔ ∃ g, v = .slice (some ⟨g, 0, none⟩) 2 2 ∧ Box w' g 35 #[.string ⟨#[109]⟩, .bool a.ch, .slice (some ad) 2 ca, .slice D m cd, .string ⟨#[110]⟩, .bool b.ch, .slice (some bd) 2 ca', .slice D' m' cd'] := fun _ _ => by subst hVe; rfl
    obtain ⟨St, hSe⟩ : ∃ St : Nat → (Nat → Value) → World → Prop, St = fun s u w' => match s with
        | 0 => True
        | _ => False := ⟨_, rfl⟩
    have hSm : ∀ s u u' w1 w2, (∀ c ∈ [], u' c = u c) → St s u w1 → Below w1.heap.size w1 w2 → St s u' w2 := by
      intro s u u' w1 w2 hu h hb
      subst hSe
      match s, h with
      | 0, h => trivial
      | s + 1, h => exact h.elim
    have hS0 : ∀ u w', St 0 u w' ↔ (True) := fun _ _ => by subst hSe; rfl
    clear hVe hSe
    refine wp_region_inv (ChainInv (fun w w' => Below w.heap.size w w') V [] St w4) (by kernel_rfl) (by kernel_rfl) (by kernel_rfl) ?start ?step ?fin
    case start => exact fun u => ChainInv.start hRel (Below.refl _ _).drew ((hS0 _ _).2 (trivial))
    case step =>
      simp only [putAll, Act.put, List.setIfInBounds_toArray, List.set_cons_zero, List.set_cons_succ, Nat.reduceAdd, Nat.zero_add]
      intro i o ho done u wr hnd hdep hI K hK
      obtain ⟨z0, z1, z2, u0, u1, u2, zl, ul⟩ := HXY.out wr hI.1
      match i, ho with
      | 0, ho =>
        simp only [List.getElem?_cons_zero, Option.some.injEq] at ho
        subst ho
        simp only [Act.put, List.setIfInBounds_toArray, List.set_cons_zero, List.set_cons_succ] at hK
        refine wpOp_step rfl fun K' hK' => ?_
        go_simp
        exact hK' _ _ (hK _ _ (hI.quiet hRel hnd (by decide) hVm hSm (Below.refl _ _) ((hV0 _ _).2 rfl)))
      | 1, ho =>
        simp only [List.getElem?_cons_succ, List.getElem?_cons_zero, Option.some.injEq] at ho
        subst ho
        simp only [Act.put, List.setIfInBounds_toArray, List.set_cons_zero, List.set_cons_succ] at hK
        have e0 := (hV0 _ _).1 (hI.know (hdep ⟨0, .data⟩ (by simp) rfl))
        simp only [e0] at hK
        refine wpOp_step rfl fun K' hK' => ?_
        go_simp
        refine bind_any.mono ?_
        rintro e w6 ⟨rfl, hb6⟩
        exact hK' _ _ (hK _ _ (hI.quiet hRel hnd (by decide) hVm hSm hb6 ((hV1 _ _).2 rfl)))
      | 2, ho =>
        simp only [List.getElem?_cons_succ, List.getElem?_cons_zero, Option.some.injEq] at ho
        subst ho
        simp only [Act.put, List.setIfInBounds_toArray, List.set_cons_zero, List.set_cons_succ] at hK
        refine wpOp_step rfl fun K' hK' => ?_
        go_simp
        exact hK' _ _ (hK _ _ (hI.quiet hRel hnd (by decide) hVm hSm (Below.refl _ _) ((hV2 _ _).2 rfl)))
      | 3, ho =>
        simp only [List.getElem?_cons_succ, List.getElem?_cons_zero, Option.some.injEq] at ho
        subst ho
        simp only [Act.put, List.setIfInBounds_toArray, List.set_cons_zero, List.set_cons_succ] at hK
        have e2 := (hV2 _ _).1 (hI.know (hdep ⟨2, .data⟩ (by simp) rfl))
        simp only [e2] at hK
        refine wpOp_step rfl fun K' hK' => ?_
        go_simp
        refine bind_any.mono ?_
        rintro e w6 ⟨rfl, hb6⟩
        exact hK' _ _ (hK _ _ (hI.quiet hRel hnd (by decide) hVm hSm hb6 ((hV3 _ _).2 rfl)))
      | 4, ho =>
        simp only [List.getElem?_cons_succ, List.getElem?_cons_zero, Option.some.injEq] at ho
        subst ho
        simp only [Act.put, List.setIfInBounds_toArray, List.set_cons_zero, List.set_cons_succ] at hK
        have e1 := (hV1 _ _).1 (hI.know (hdep ⟨1, .data⟩ (by simp) rfl))
        have e3 := (hV3 _ _).1 (hI.know (hdep ⟨3, .data⟩ (by simp) rfl))
        simp only [e1, e3] at hK
        refine wpOp_step rfl fun K' hK' => ?_
        go_simp
        exact hK' _ _ (hK _ _ (hI.quiet hRel hnd (by decide) hVm hSm (below_one _ _) ((hV4 _ _).2 ⟨_, rfl, Box.new _ _ _⟩)))
      | 5, ho =>
        simp only [List.getElem?_cons_succ, List.getElem?_cons_zero, Option.some.injEq] at ho
        subst ho
        simp only [Act.put, List.setIfInBounds_toArray, List.set_cons_zero, List.set_cons_succ] at hK
        obtain ⟨g, e4, hx⟩ := (hV4 _ _).1 (hI.know (hdep ⟨4, .data⟩ (by simp) rfl))
        simp only [e4] at hK
        refine wpOp_step rfl fun K' hK' => ?_
        go_simp
        exact hK' _ _ (hK _ _ (hI.quiet hRel hnd (by decide) hVm hSm (Below.refl _ _) ((hV5 _ _).2 ⟨g, rfl, hx⟩)))
      | i + 6, ho => simp at ho
    case fin =>
      simp only [putAll, Act.put, List.setIfInBounds_toArray, List.set_cons_zero, List.set_cons_succ, Nat.reduceAdd, Nat.zero_add]
      intro done u wr hd hI
      simp only [List.length_cons, List.length_nil, Nat.reduceAdd, Nat.zero_add] at hd
      have hS := (hS0 _ _).1 (hI.end_ (fun c hc => hd c (by simp at hc)))
      obtain ⟨g, e5, hbx⟩ := (hV5 _ _).1 (hI.know (hd 5 (by omega)))
      have hbr := hI.1
      simp only [e5]
      obtain ⟨w7, rfl⟩ : ∃ X : World, X = wr := ⟨_, rfl⟩
      clear hI hd hS hVm hSm hS0 hRel hV0 hV1 hV2 hV3 hV4 hV5 e5
      have hbw7 := hbw4.trans (hbr.mono hbw4.size)
      have HWS := Lib.hid (wsAt_two hbx (HA.out.mono hbw7) (HB.out.mono hbw7))
      clear hbr hbx
      go_wp2_with fail
      refine (worth_any (HST.out.below hbw7) HWS.out HWO.out HLP.out).mono ?_
      rintro e w8 ⟨r, rfl, hr, hb8⟩
      obtain ⟨A4, c4, D4, d4, rfl, -, -⟩ := hr.open_
      have HV := Lib.hid (IsArr.mono hr (below_one w8 (.cells #[.bool X.ch, .slice A4 X.sh.length c4, .slice D4 X.da.length d4] 25)))
      have HWS8 := Lib.hid ((HWS.out.below hb8).below (below_one w8 (.cells #[.bool X.ch, .slice A4 X.sh.length c4, .slice D4 X.da.length d4] 25)))
      have hbw8 := (hbw7.trans (hb8.mono hbw7.size)).alloc (by have := hbw7.size; have := hb8.size; omega) (.cells #[.bool X.ch, .slice A4 X.sh.length c4, .slice D4 X.da.length d4] 25)
      clear hb8 hr hbw7
      go_wp2_with fail
      refine (tells_true (HST.out.below hbw8) HWS8.out HWO.out HLQ.out HV.out rfl).mono ?_
      rintro e w9 ⟨rfl, hb9⟩
      have hbw9 := hbw8.trans (hb9.mono hbw8.size)
      clear hb9 hbw8
      go_wp2_with fail
      go_ret
      exact ⟨rfl, hbw9⟩

end Go.Proofs.YtihndbkaoejnnaaGreatDoor
