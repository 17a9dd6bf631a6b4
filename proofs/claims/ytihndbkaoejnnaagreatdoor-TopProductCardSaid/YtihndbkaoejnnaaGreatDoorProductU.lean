/- What the card TopProduct leans on: ParseExpr, ParseTerm, Parse, ParseWhole, ParseFacts, EvalSkip, WalkerFn, WalkerOne, WalkerTwo, WalkerPick, ExList. Conditions: none but those of its theorems. -/
import Derived.Defers
import Derived.Recover
import Derived.Test.YtihndbkaoejnnaaGreatDoorProductP
import Derived.Test.YtihndbkaoejnnaaGreatDoorProductT
import Derived.Test.YtihndbkaoejnnaaGreatDoorProductS
set_option linter.unusedSimpArgs false
set_option linter.unusedVariables false
namespace Go.Proofs.YtihndbkaoejnnaaGreatDoor
open Go Go.RowKit Go.Proofs.YtihndbkaoejnnaaGreatDoor.P


set_option maxRecDepth 100000 in
set_option maxHeartbeats 8000000 in
theorem expr_one {toks : List Tok} {at_ wi q r : Nat} {aop af ag n : Int} {nss : List (List Nd)} {ns : List Nd} (h0 : startsB toks at_ wi = true) (hF : FnAt toks at_ wi q aop af ag n nss) (hE : ExprAt toks q wi r ns) : ExprAt toks at_ wi r ([⟨6, aop, af, ag, n, [], ⟨#[]⟩⟩] ++ catNs nss ++ ns) := by
  intro w P g c h
  have hm := mixedZ
  have HS := Lib.hid (starts_any h)
  rw [h0] at HS
  have HP := Lib.hid h
  have HF := Lib.hid hF
  have HE := Lib.hid hE
  have hPl := h.1.lt
  clear h h0 hF hE
  go_enter Tryz.func65, Tryz.ntmps65
  go_wp2_with fail
  refine HS.out.mono ?_
  rintro e w1 ⟨rfl, n1, rfl⟩
  go_wp2_with fail
  refine (HF.out _ P g c (HP.out.drewN n1)).mono ?_
  rintro e w4 ⟨bA, bk, bc, rfl, hbv, hp4, hg4⟩
  have hbv : IsExprs w4 (w.heap.size - 1) (.slice bA bk bc) nss := hbv
  have HG4 := Lib.hid (grownBy_trans (grownBy_draws w n1 _) hg4)
  clear hg4
  have hP4 := hp4.1.lt
  go_wp2_with fail
  have hx0 := Box.new w4 158 #[.int .i64 aop, .int .i64 af, .int .i64 ag, .int .i64 n, .slice bA bk bc]
  have hb0 := below_one w4 (.cells #[.int .i64 aop, .int .i64 af, .int .i64 ag, .int .i64 n, .slice bA bk bc] 158)
  obtain ⟨W, hWe⟩ : ∃ W, W = w4.alloc (.cells #[.int .i64 aop, .int .i64 af, .int .i64 ag, .int .i64 n, .slice bA bk bc] 158) := ⟨_, rfl⟩
  rw [← hWe] at hx0 hb0 ⊢
  have HB := Lib.hid (hbv.kept (.of_below hb0))
  have HPW := Lib.hid (hp4.below hb0)
  have HGW := Lib.hid (grownBy_then HG4.out hb0)
  clear hWe hbv hp4 hb0
  have hRel : Rels (fun w w' => w.grownBy w' (some P)) := rels_block P
  obtain ⟨V, hVe⟩ : ∃ V : Nat → Value → World → Prop, V = fun i v w' => match i with
      | 0 => v = .agg #[.int .i64 aop, .int .i64 af, .int .i64 ag, .int .i64 n, .slice bA bk bc]
      | 1 => v = .pointer (some ⟨P, 0, none⟩)
      | _ => True := ⟨_, rfl⟩
  have hVm : ∀ j v w1 w2, V j v w1 → (fun w w' => w.grownBy w' (some P)) w1 w2 → V j v w2 := by
    intro j v w1 w2 h hr
    subst hVe
    match j, h with
    | 0, h => exact h
    | 1, h => exact h
    | i + 2, _ => trivial
  have hV0 : ∀ v w', V 0 v w' ↔ v = .agg #[.int .i64 aop, .int .i64 af, .int .i64 ag, .int .i64 n, .slice bA bk bc] := fun _ _ => by subst hVe; rfl
  have hV1 : ∀ v w', V 1 v w' ↔ v = .pointer (some ⟨P, 0, none⟩) := fun _ _ => by subst hVe; rfl
  have hV2 : ∀ v w', V 2 v w' := fun _ _ => by subst hVe; trivial
  have hV3 : ∀ v w', V 3 v w' := fun _ _ => by subst hVe; trivial
  have hV4 : ∀ v w', V 4 v w' := fun _ _ => by subst hVe; trivial
  have hV5 : ∀ v w', V 5 v w' := fun _ _ => by subst hVe; trivial
  obtain ⟨St, hSe⟩ : ∃ St : Nat → (Nat → Value) → World → Prop, St = fun s u w' => match s with
      | 0 => PAt w' P g c toks q wi ∧ W.grownBy w' (some P)
      | 1 => ∃ T x, u 2 = .iface T x ∧ IsExpr w' (w.heap.size - 1) (.iface T x) ns ∧ PAt w' P g c toks r wi ∧ W.grownBy w' (some P)
      | 2 => ∃ T x, u 3 = .agg #[.int .i64 aop, .int .i64 af, .int .i64 ag, .int .i64 n, .slice bA bk bc, .iface T x] ∧ IsExpr w' (w.heap.size - 1) (.iface T x) ns ∧ PAt w' P g c toks r wi ∧ W.grownBy w' (some P)
      | 3 => ∃ T x, u 4 = .iface 161 (.agg #[.int .i64 aop, .int .i64 af, .int .i64 ag, .int .i64 n, .slice bA bk bc, .iface T x]) ∧ IsExpr w' (w.heap.size - 1) (.iface T x) ns ∧ PAt w' P g c toks r wi ∧ W.grownBy w' (some P)
      | 4 => ∃ T x, u 5 = .iface 161 (.agg #[.int .i64 aop, .int .i64 af, .int .i64 ag, .int .i64 n, .slice bA bk bc, .iface T x]) ∧ IsExpr w' (w.heap.size - 1) (.iface T x) ns ∧ PAt w' P g c toks r wi ∧ W.grownBy w' (some P)
      | _ => False := ⟨_, rfl⟩
  have hSm : ∀ s u u' w1 w2, (∀ c ∈ [2, 3, 4, 5], u' c = u c) → St s u w1 → Below w1.heap.size w1 w2 → St s u' w2 := by
    intro s u u' w1 w2 hu h hb
    subst hSe
    match s, h with
    | 0, ⟨h1, h2⟩ => exact ⟨h1.below hb, grownBy_then h2 hb⟩
    | 1, ⟨T, x, e, h1, h2, h3⟩ => exact ⟨T, x, by rw [hu 2 (by decide)]; exact e, h1.kept (.of_below hb), h2.below hb, grownBy_then h3 hb⟩
    | 2, ⟨T, x, e, h1, h2, h3⟩ => exact ⟨T, x, by rw [hu 3 (by decide)]; exact e, h1.kept (.of_below hb), h2.below hb, grownBy_then h3 hb⟩
    | 3, ⟨T, x, e, h1, h2, h3⟩ => exact ⟨T, x, by rw [hu 4 (by decide)]; exact e, h1.kept (.of_below hb), h2.below hb, grownBy_then h3 hb⟩
    | 4, ⟨T, x, e, h1, h2, h3⟩ => exact ⟨T, x, by rw [hu 5 (by decide)]; exact e, h1.kept (.of_below hb), h2.below hb, grownBy_then h3 hb⟩
    | s + 5, h => exact h.elim
  have hS0 : ∀ u w', St 0 u w' ↔ (PAt w' P g c toks q wi ∧ W.grownBy w' (some P)) := fun _ _ => by subst hSe; rfl
  have hS1 : ∀ u w', St 1 u w' ↔ (∃ T x, u 2 = .iface T x ∧ IsExpr w' (w.heap.size - 1) (.iface T x) ns ∧ PAt w' P g c toks r wi ∧ W.grownBy w' (some P)) := fun _ _ => by subst hSe; rfl
  have hS2 : ∀ u w', St 2 u w' ↔ (∃ T x, u 3 = .agg #[.int .i64 aop, .int .i64 af, .int .i64 ag, .int .i64 n, .slice bA bk bc, .iface T x] ∧ IsExpr w' (w.heap.size - 1) (.iface T x) ns ∧ PAt w' P g c toks r wi ∧ W.grownBy w' (some P)) := fun _ _ => by subst hSe; rfl
  have hS3 : ∀ u w', St 3 u w' ↔ (∃ T x, u 4 = .iface 161 (.agg #[.int .i64 aop, .int .i64 af, .int .i64 ag, .int .i64 n, .slice bA bk bc, .iface T x]) ∧ IsExpr w' (w.heap.size - 1) (.iface T x) ns ∧ PAt w' P g c toks r wi ∧ W.grownBy w' (some P)) := fun _ _ => by subst hSe; rfl
  have hS4 : ∀ u w', St 4 u w' ↔ (∃ T x, u 5 = .iface 161 (.agg #[.int .i64 aop, .int .i64 af, .int .i64 ag, .int .i64 n, .slice bA bk bc, .iface T x]) ∧ IsExpr w' (w.heap.size - 1) (.iface T x) ns ∧ PAt w' P g c toks r wi ∧ W.grownBy w' (some P)) := fun _ _ => by subst hSe; rfl
  clear hVe hSe
  refine wp_region_inv (ChainInv (fun w w' => w.grownBy w' (some P)) V [2, 3, 4, 5] St W) (by kernel_rfl) (by kernel_rfl) (by kernel_rfl) ?start ?step ?fin
  case start => exact fun u => ChainInv.start hRel (Below.refl _ _).drew ((hS0 _ _).2 (⟨HPW.out.drewN 1, grownBy_draws _ 1 _⟩))
  case step =>
    simp only [putAll, Act.put, List.setIfInBounds_toArray, List.set_cons_zero, List.set_cons_succ, Nat.reduceAdd, Nat.zero_add]
    intro i o ho done u wr hnd hdep hI K hK
    have hx := Box.grown hx0 hI.1 (by intro e; injection e; omega)
    obtain ⟨c0, c1, c2, c3, c4⟩ := hx.five
    match i, ho with
    | 0, ho =>
      simp only [List.getElem?_cons_zero, Option.some.injEq] at ho
      subst ho
      simp only [Act.put, List.setIfInBounds_toArray, List.set_cons_zero, List.set_cons_succ] at hK
      refine wpOp_step rfl fun K' hK' => ?_
      go_simp
      exact hK' _ _ (hK _ _ (hI.quiet hRel hnd (by decide) hVm hSm (Below.refl _ _) ((hV0 _ _).2 rfl)))
    | 1, ho =>
      simp only [List.getElem?_cons_succ, List.getElem?_cons_zero, Option.some.injEq] at ho
      subst ho
      simp only [Act.put, List.setIfInBounds_toArray, List.set_cons_zero, List.set_cons_succ] at hK
      refine wpOp_step rfl fun K' hK' => ?_
      go_simp
      exact hK' _ _ (hK _ _ (hI.quiet hRel hnd (by decide) hVm hSm (Below.refl _ _) ((hV1 _ _).2 rfl)))
    | 2, ho =>
      simp only [List.getElem?_cons_succ, List.getElem?_cons_zero, Option.some.injEq] at ho
      subst ho
      simp only [Act.put, List.setIfInBounds_toArray, List.set_cons_zero, List.set_cons_succ] at hK
      have e1 := (hV1 _ _).1 (hI.know (hdep ⟨1, .data⟩ (by simp) rfl))
      simp only [e1] at hK
      have hs := (hS0 _ _).1 (hI.at_ (k := 0) rfl hnd (.inl rfl))
      refine wpOp_step rfl fun K' hK' => ?_
      go_simp
      refine (HE.out _ P g c hs.1).mono ?_
      rintro e w5 ⟨v, rfl, hv, hp5, hg5⟩
      obtain ⟨T, x, rfl⟩ : ∃ T u, v = .iface T u := by obtain ⟨T, u, f, e, -⟩ := hv; exact ⟨T, u, e⟩
      exact hK' _ _ (hK _ _ (hI.step hRel (k := 0) rfl hnd (.inl rfl) (by decide) hVm (hg5) (hV2 _ _) ((hS1 _ _).2 (⟨T, x, by rw [upd_same], hv.low (by have := hs.2.size; have := HGW.out.size; omega), hp5, grownBy_trans hs.2 hg5⟩))))
    | 3, ho =>
      simp only [List.getElem?_cons_succ, List.getElem?_cons_zero, Option.some.injEq] at ho
      subst ho
      simp only [Act.put, List.setIfInBounds_toArray, List.set_cons_zero, List.set_cons_succ] at hK
      have e0 := (hV0 _ _).1 (hI.know (hdep ⟨0, .data⟩ (by simp) rfl))
      obtain ⟨T, x, eu, hv, hp5, hg5⟩ := (hS1 _ _).1 (hI.at_ (k := 1) rfl hnd (.inr ⟨2, rfl, hdep ⟨2, .data⟩ (by simp) rfl⟩))
      simp only [e0, eu] at hK
      refine wpOp_step rfl fun K' hK' => ?_
      go_simp
      exact hK' _ _ (hK _ _ (hI.step hRel (k := 1) rfl hnd (.inr ⟨2, rfl, hdep ⟨2, .data⟩ (by simp) rfl⟩) (by decide) hVm (hRel.below (Below.refl _ _)) (hV3 _ _) ((hS2 _ _).2 (⟨T, x, by rw [upd_same], hv, hp5, hg5⟩))))
    | 4, ho =>
      simp only [List.getElem?_cons_succ, List.getElem?_cons_zero, Option.some.injEq] at ho
      subst ho
      simp only [Act.put, List.setIfInBounds_toArray, List.set_cons_zero, List.set_cons_succ] at hK
      obtain ⟨T, x, eu, hv, hp5, hg5⟩ := (hS2 _ _).1 (hI.at_ (k := 2) rfl hnd (.inr ⟨3, rfl, hdep ⟨3, .data⟩ (by simp) rfl⟩))
      simp only [eu] at hK
      refine wpOp_step rfl fun K' hK' => ?_
      go_simp
      exact hK' _ _ (hK _ _ (hI.step hRel (k := 2) rfl hnd (.inr ⟨3, rfl, hdep ⟨3, .data⟩ (by simp) rfl⟩) (by decide) hVm (hRel.below (Below.refl _ _)) (hV4 _ _) ((hS3 _ _).2 (⟨T, x, by rw [upd_same], hv, hp5, hg5⟩))))
    | 5, ho =>
      simp only [List.getElem?_cons_succ, List.getElem?_cons_zero, Option.some.injEq] at ho
      subst ho
      simp only [Act.put, List.setIfInBounds_toArray, List.set_cons_zero, List.set_cons_succ] at hK
      obtain ⟨T, x, eu, hv, hp5, hg5⟩ := (hS3 _ _).1 (hI.at_ (k := 3) rfl hnd (.inr ⟨4, rfl, hdep ⟨4, .data⟩ (by simp) rfl⟩))
      simp only [eu] at hK
      refine wpOp_step rfl fun K' hK' => ?_
      go_simp
      exact hK' _ _ (hK _ _ (hI.step hRel (k := 3) rfl hnd (.inr ⟨4, rfl, hdep ⟨4, .data⟩ (by simp) rfl⟩) (by decide) hVm (hRel.below (Below.refl _ _)) (hV5 _ _) ((hS4 _ _).2 (⟨T, x, by rw [upd_same], hv, hp5, hg5⟩))))
    | i + 6, ho => simp at ho
  case fin =>
    simp only [putAll, Act.put, List.setIfInBounds_toArray, List.set_cons_zero, List.set_cons_succ, Nat.reduceAdd, Nat.zero_add]
    intro done u wr hd hI
    simp only [List.length_cons, List.length_nil, Nat.reduceAdd, Nat.zero_add] at hd
    have hS := (hS4 _ _).1 (hI.end_ (fun c hc => hd c (by simp at hc; omega)))
    obtain ⟨T, x, eu, hv, hp5, hg5⟩ := hS
    simp only [eu]
    go_wp2_with fail
    go_ret
    exact ⟨_, rfl, isExpr_one (HB.out.grown hg5 (by omega)) hv (by have := hg5.size; have := HGW.out.size; omega), hp5, grownBy_trans HGW.out hg5⟩


set_option maxRecDepth 100000 in
set_option maxHeartbeats 8000000 in
theorem expr_two {toks : List Tok} {at_ wi m q r : Nat} {aop af ag n : Int} {nss : List (List Nd)} {nl ns : List Nd} (h0 : startsB toks at_ wi = false) (hT : TermAt toks at_ wi m nl) (h1 : startsB toks m wi = true) (hF : FnAt toks m wi q aop af ag n nss) (hE : ExprAt toks q wi r ns) : ExprAt toks at_ wi r ([⟨7, aop, af, ag, n, [], ⟨#[]⟩⟩] ++ nl ++ catNs nss ++ ns) := by
  intro w P g c h
  have hm := mixedZ
  have HS := Lib.hid (starts_any h)
  rw [h0] at HS
  have HP := Lib.hid h
  have HF := Lib.hid hF
  have HE := Lib.hid hE
  have hPl := h.1.lt
  have HT := Lib.hid hT
  have HS1 := Lib.hid (fun (W : World) (hW : PAt W P g c toks m wi) => by have := starts_any hW; rw [h1] at this; exact this)
  clear hT h1
  clear h h0 hF hE
  go_enter Tryz.func65, Tryz.ntmps65
  go_wp2_with fail
  refine HS.out.mono ?_
  rintro e w1 ⟨rfl, n1, rfl⟩
  go_wp2_with fail
  refine (HT.out _ P g c (HP.out.drewN n1)).mono ?_
  rintro e w2 ⟨lv, rfl, hlv, hp2, hg2⟩
  obtain ⟨lT, lx, rfl⟩ : ∃ T u, lv = .iface T u := by obtain ⟨T, u, f, e, -⟩ := hlv; exact ⟨T, u, e⟩
  go_wp2_with fail
  refine (HS1.out _ hp2).mono ?_
  rintro e w3 ⟨rfl, n3, rfl⟩
  go_wp2_with fail
  refine (HF.out _ P g c (hp2.drewN n3)).mono ?_
  rintro e w4 ⟨bA, bk, bc, rfl, hbv, hp4, hg4⟩
  have hlv : IsExpr w2 (w.heap.size - 1) (.iface lT lx) nl := hlv
  have hw2s : w.heap.size ≤ w2.heap.size := hg2.size
  have HL := Lib.hid ((hlv.grown (grownBy_draws _ n3 (some P)) (by omega)).grown hg4 (by omega))
  have hbv : IsExprs w4 (w2.heap.size - 1) (.slice bA bk bc) nss := hbv
  have hbv := hbv.low (P' := w.heap.size - 1) (by omega)
  have HG4 := Lib.hid (grownBy_trans (grownBy_trans (grownBy_trans (grownBy_draws w n1 _) hg2) (grownBy_draws _ n3 _)) hg4)
  clear hlv hp2 hg2 hg4
  have hP4 := hp4.1.lt
  go_wp2_with fail
  have hx0 := Box.new w4 158 #[.int .i64 aop, .int .i64 af, .int .i64 ag, .int .i64 n, .slice bA bk bc]
  have hb0 := below_one w4 (.cells #[.int .i64 aop, .int .i64 af, .int .i64 ag, .int .i64 n, .slice bA bk bc] 158)
  obtain ⟨W, hWe⟩ : ∃ W, W = w4.alloc (.cells #[.int .i64 aop, .int .i64 af, .int .i64 ag, .int .i64 n, .slice bA bk bc] 158) := ⟨_, rfl⟩
  rw [← hWe] at hx0 hb0 ⊢
  have HB := Lib.hid (hbv.kept (.of_below hb0))
  have HPW := Lib.hid (hp4.below hb0)
  have HGW := Lib.hid (grownBy_then HG4.out hb0)
  have HLW := Lib.hid (HL.out.kept (.of_below hb0))
  clear hWe hbv hp4 hb0
  have hRel : Rels (fun w w' => w.grownBy w' (some P)) := rels_block P
  obtain ⟨V, hVe⟩ : ∃ V : Nat → Value → World → Prop, V = fun i v w' => match i with
      | 0 => v = .iface lT lx
      | 1 => v = .agg #[.int .i64 aop, .int .i64 af, .int .i64 ag, .int .i64 n, .slice bA bk bc]
      | 2 => v = .pointer (some ⟨P, 0, none⟩)
      | _ => True := ⟨_, rfl⟩
  have hVm : ∀ j v w1 w2, V j v w1 → (fun w w' => w.grownBy w' (some P)) w1 w2 → V j v w2 := by
    intro j v w1 w2 h hr
    subst hVe
    match j, h with
    | 0, h => exact h
    | 1, h => exact h
    | 2, h => exact h
    | i + 3, _ => trivial
  have hV0 : ∀ v w', V 0 v w' ↔ v = .iface lT lx := fun _ _ => by subst hVe; rfl
  have hV1 : ∀ v w', V 1 v w' ↔ v = .agg #[.int .i64 aop, .int .i64 af, .int .i64 ag, .int .i64 n, .slice bA bk bc] := fun _ _ => by subst hVe; rfl
  have hV2 : ∀ v w', V 2 v w' ↔ v = .pointer (some ⟨P, 0, none⟩) := fun _ _ => by subst hVe; rfl
  have hV3 : ∀ v w', V 3 v w' := fun _ _ => by subst hVe; trivial
  have hV4 : ∀ v w', V 4 v w' := fun _ _ => by subst hVe; trivial
  have hV5 : ∀ v w', V 5 v w' := fun _ _ => by subst hVe; trivial
  have hV6 : ∀ v w', V 6 v w' := fun _ _ => by subst hVe; trivial
  obtain ⟨St, hSe⟩ : ∃ St : Nat → (Nat → Value) → World → Prop, St = fun s u w' => match s with
      | 0 => PAt w' P g c toks q wi ∧ W.grownBy w' (some P)
      | 1 => ∃ T x, u 3 = .iface T x ∧ IsExpr w' (w.heap.size - 1) (.iface T x) ns ∧ PAt w' P g c toks r wi ∧ W.grownBy w' (some P)
      | 2 => ∃ T x, u 4 = .agg #[.iface lT lx, .int .i64 aop, .int .i64 af, .int .i64 ag, .int .i64 n, .slice bA bk bc, .iface T x] ∧ IsExpr w' (w.heap.size - 1) (.iface T x) ns ∧ PAt w' P g c toks r wi ∧ W.grownBy w' (some P)
      | 3 => ∃ T x, u 5 = .iface 163 (.agg #[.iface lT lx, .int .i64 aop, .int .i64 af, .int .i64 ag, .int .i64 n, .slice bA bk bc, .iface T x]) ∧ IsExpr w' (w.heap.size - 1) (.iface T x) ns ∧ PAt w' P g c toks r wi ∧ W.grownBy w' (some P)
      | 4 => ∃ T x, u 6 = .iface 163 (.agg #[.iface lT lx, .int .i64 aop, .int .i64 af, .int .i64 ag, .int .i64 n, .slice bA bk bc, .iface T x]) ∧ IsExpr w' (w.heap.size - 1) (.iface T x) ns ∧ PAt w' P g c toks r wi ∧ W.grownBy w' (some P)
      | _ => False := ⟨_, rfl⟩
  have hSm : ∀ s u u' w1 w2, (∀ c ∈ [3, 4, 5, 6], u' c = u c) → St s u w1 → Below w1.heap.size w1 w2 → St s u' w2 := by
    intro s u u' w1 w2 hu h hb
    subst hSe
    match s, h with
    | 0, ⟨h1, h2⟩ => exact ⟨h1.below hb, grownBy_then h2 hb⟩
    | 1, ⟨T, x, e, h1, h2, h3⟩ => exact ⟨T, x, by rw [hu 3 (by decide)]; exact e, h1.kept (.of_below hb), h2.below hb, grownBy_then h3 hb⟩
    | 2, ⟨T, x, e, h1, h2, h3⟩ => exact ⟨T, x, by rw [hu 4 (by decide)]; exact e, h1.kept (.of_below hb), h2.below hb, grownBy_then h3 hb⟩
    | 3, ⟨T, x, e, h1, h2, h3⟩ => exact ⟨T, x, by rw [hu 5 (by decide)]; exact e, h1.kept (.of_below hb), h2.below hb, grownBy_then h3 hb⟩
    | 4, ⟨T, x, e, h1, h2, h3⟩ => exact ⟨T, x, by rw [hu 6 (by decide)]; exact e, h1.kept (.of_below hb), h2.below hb, grownBy_then h3 hb⟩
    | s + 5, h => exact h.elim
  have hS0 : ∀ u w', St 0 u w' ↔ (PAt w' P g c toks q wi ∧ W.grownBy w' (some P)) := fun _ _ => by subst hSe; rfl
  have hS1 : ∀ u w', St 1 u w' ↔ (∃ T x, u 3 = .iface T x ∧ IsExpr w' (w.heap.size - 1) (.iface T x) ns ∧ PAt w' P g c toks r wi ∧ W.grownBy w' (some P)) := fun _ _ => by subst hSe; rfl
  have hS2 : ∀ u w', St 2 u w' ↔ (∃ T x, u 4 = .agg #[.iface lT lx, .int .i64 aop, .int .i64 af, .int .i64 ag, .int .i64 n, .slice bA bk bc, .iface T x] ∧ IsExpr w' (w.heap.size - 1) (.iface T x) ns ∧ PAt w' P g c toks r wi ∧ W.grownBy w' (some P)) := fun _ _ => by subst hSe; rfl
  have hS3 : ∀ u w', St 3 u w' ↔ (∃ T x, u 5 = .iface 163 (.agg #[.iface lT lx, .int .i64 aop, .int .i64 af, .int .i64 ag, .int .i64 n, .slice bA bk bc, .iface T x]) ∧ IsExpr w' (w.heap.size - 1) (.iface T x) ns ∧ PAt w' P g c toks r wi ∧ W.grownBy w' (some P)) := fun _ _ => by subst hSe; rfl
  have hS4 : ∀ u w', St 4 u w' ↔ (∃ T x, u 6 = .iface 163 (.agg #[.iface lT lx, .int .i64 aop, .int .i64 af, .int .i64 ag, .int .i64 n, .slice bA bk bc, .iface T x]) ∧ IsExpr w' (w.heap.size - 1) (.iface T x) ns ∧ PAt w' P g c toks r wi ∧ W.grownBy w' (some P)) := fun _ _ => by subst hSe; rfl
  clear hVe hSe
  refine wp_region_inv (ChainInv (fun w w' => w.grownBy w' (some P)) V [3, 4, 5, 6] St W) (by kernel_rfl) (by kernel_rfl) (by kernel_rfl) ?start ?step ?fin
  case start => exact fun u => ChainInv.start hRel (Below.refl _ _).drew ((hS0 _ _).2 (⟨HPW.out.drewN 1, grownBy_draws _ 1 _⟩))
  case step =>
    simp only [putAll, Act.put, List.setIfInBounds_toArray, List.set_cons_zero, List.set_cons_succ, Nat.reduceAdd, Nat.zero_add]
    intro i o ho done u wr hnd hdep hI K hK
    have hx := Box.grown hx0 hI.1 (by intro e; injection e; omega)
    obtain ⟨c0, c1, c2, c3, c4⟩ := hx.five
    match i, ho with
    | 0, ho =>
      simp only [List.getElem?_cons_zero, Option.some.injEq] at ho
      subst ho
      simp only [Act.put, List.setIfInBounds_toArray, List.set_cons_zero, List.set_cons_succ] at hK
      refine wpOp_step rfl fun K' hK' => ?_
      go_simp
      exact hK' _ _ (hK _ _ (hI.quiet hRel hnd (by decide) hVm hSm (Below.refl _ _) ((hV0 _ _).2 rfl)))
    | 1, ho =>
      simp only [List.getElem?_cons_succ, List.getElem?_cons_zero, Option.some.injEq] at ho
      subst ho
      simp only [Act.put, List.setIfInBounds_toArray, List.set_cons_zero, List.set_cons_succ] at hK
      refine wpOp_step rfl fun K' hK' => ?_
      go_simp
      exact hK' _ _ (hK _ _ (hI.quiet hRel hnd (by decide) hVm hSm (Below.refl _ _) ((hV1 _ _).2 rfl)))
    | 2, ho =>
      simp only [List.getElem?_cons_succ, List.getElem?_cons_zero, Option.some.injEq] at ho
      subst ho
      simp only [Act.put, List.setIfInBounds_toArray, List.set_cons_zero, List.set_cons_succ] at hK
      refine wpOp_step rfl fun K' hK' => ?_
      go_simp
      exact hK' _ _ (hK _ _ (hI.quiet hRel hnd (by decide) hVm hSm (Below.refl _ _) ((hV2 _ _).2 rfl)))
    | 3, ho =>
      simp only [List.getElem?_cons_succ, List.getElem?_cons_zero, Option.some.injEq] at ho
      subst ho
      simp only [Act.put, List.setIfInBounds_toArray, List.set_cons_zero, List.set_cons_succ] at hK
      have e2 := (hV2 _ _).1 (hI.know (hdep ⟨2, .data⟩ (by simp) rfl))
      simp only [e2] at hK
      have hs := (hS0 _ _).1 (hI.at_ (k := 0) rfl hnd (.inl rfl))
      refine wpOp_step rfl fun K' hK' => ?_
      go_simp
      refine (HE.out _ P g c hs.1).mono ?_
      rintro e w5 ⟨v, rfl, hv, hp5, hg5⟩
      obtain ⟨T, x, rfl⟩ : ∃ T u, v = .iface T u := by obtain ⟨T, u, f, e, -⟩ := hv; exact ⟨T, u, e⟩
      exact hK' _ _ (hK _ _ (hI.step hRel (k := 0) rfl hnd (.inl rfl) (by decide) hVm (hg5) (hV3 _ _) ((hS1 _ _).2 (⟨T, x, by rw [upd_same], hv.low (by have := hs.2.size; have := HGW.out.size; omega), hp5, grownBy_trans hs.2 hg5⟩))))
    | 4, ho =>
      simp only [List.getElem?_cons_succ, List.getElem?_cons_zero, Option.some.injEq] at ho
      subst ho
      simp only [Act.put, List.setIfInBounds_toArray, List.set_cons_zero, List.set_cons_succ] at hK
      have e0 := (hV0 _ _).1 (hI.know (hdep ⟨0, .data⟩ (by simp) rfl))
      have e1 := (hV1 _ _).1 (hI.know (hdep ⟨1, .data⟩ (by simp) rfl))
      obtain ⟨T, x, eu, hv, hp5, hg5⟩ := (hS1 _ _).1 (hI.at_ (k := 1) rfl hnd (.inr ⟨3, rfl, hdep ⟨3, .data⟩ (by simp) rfl⟩))
      simp only [e0, e1, eu] at hK
      refine wpOp_step rfl fun K' hK' => ?_
      go_simp
      exact hK' _ _ (hK _ _ (hI.step hRel (k := 1) rfl hnd (.inr ⟨3, rfl, hdep ⟨3, .data⟩ (by simp) rfl⟩) (by decide) hVm (hRel.below (Below.refl _ _)) (hV4 _ _) ((hS2 _ _).2 (⟨T, x, by rw [upd_same], hv, hp5, hg5⟩))))
    | 5, ho =>
      simp only [List.getElem?_cons_succ, List.getElem?_cons_zero, Option.some.injEq] at ho
      subst ho
      simp only [Act.put, List.setIfInBounds_toArray, List.set_cons_zero, List.set_cons_succ] at hK
      obtain ⟨T, x, eu, hv, hp5, hg5⟩ := (hS2 _ _).1 (hI.at_ (k := 2) rfl hnd (.inr ⟨4, rfl, hdep ⟨4, .data⟩ (by simp) rfl⟩))
      simp only [eu] at hK
      refine wpOp_step rfl fun K' hK' => ?_
      go_simp
      exact hK' _ _ (hK _ _ (hI.step hRel (k := 2) rfl hnd (.inr ⟨4, rfl, hdep ⟨4, .data⟩ (by simp) rfl⟩) (by decide) hVm (hRel.below (Below.refl _ _)) (hV5 _ _) ((hS3 _ _).2 (⟨T, x, by rw [upd_same], hv, hp5, hg5⟩))))
    | 6, ho =>
      simp only [List.getElem?_cons_succ, List.getElem?_cons_zero, Option.some.injEq] at ho
      subst ho
      simp only [Act.put, List.setIfInBounds_toArray, List.set_cons_zero, List.set_cons_succ] at hK
      obtain ⟨T, x, eu, hv, hp5, hg5⟩ := (hS3 _ _).1 (hI.at_ (k := 3) rfl hnd (.inr ⟨5, rfl, hdep ⟨5, .data⟩ (by simp) rfl⟩))
      simp only [eu] at hK
      refine wpOp_step rfl fun K' hK' => ?_
      go_simp
      exact hK' _ _ (hK _ _ (hI.step hRel (k := 3) rfl hnd (.inr ⟨5, rfl, hdep ⟨5, .data⟩ (by simp) rfl⟩) (by decide) hVm (hRel.below (Below.refl _ _)) (hV6 _ _) ((hS4 _ _).2 (⟨T, x, by rw [upd_same], hv, hp5, hg5⟩))))
    | i + 7, ho => simp at ho
  case fin =>
    simp only [putAll, Act.put, List.setIfInBounds_toArray, List.set_cons_zero, List.set_cons_succ, Nat.reduceAdd, Nat.zero_add]
    intro done u wr hd hI
    simp only [List.length_cons, List.length_nil, Nat.reduceAdd, Nat.zero_add] at hd
    have hS := (hS4 _ _).1 (hI.end_ (fun c hc => hd c (by simp at hc; omega)))
    obtain ⟨T, x, eu, hv, hp5, hg5⟩ := hS
    simp only [eu]
    go_wp2_with fail
    go_ret
    exact ⟨_, rfl, by have h9 := isExpr_two (aop := aop) (af := af) (ag := ag) (n := n) (HLW.out.grown hg5 (by omega)) (HB.out.grown hg5 (by omega)) hv (by have := hg5.size; have := HGW.out.size; omega); simpa [List.append_assoc] using h9, hp5, grownBy_trans HGW.out hg5⟩


set_option maxRecDepth 100000 in
set_option maxHeartbeats 8000000 in
theorem expr_term {toks : List Tok} {at_ wi m : Nat} {ns : List Nd} (h0 : startsB toks at_ wi = false) (hT : TermAt toks at_ wi m ns) (h1 : startsB toks m wi = false) : ExprAt toks at_ wi m ns := by
  intro w P g c h
  have HS := Lib.hid (starts_any h)
  rw [h0] at HS
  have HP := Lib.hid h
  have HT := Lib.hid hT
  have HS1 := Lib.hid (fun (W : World) (hW : PAt W P g c toks m wi) => by have := starts_any hW; rw [h1] at this; exact this)
  clear h h0 hT h1
  go_enter Tryz.func65, Tryz.ntmps65
  go_wp2_with fail
  refine HS.out.mono ?_
  rintro e w1 ⟨rfl, n1, rfl⟩
  go_wp2_with fail
  refine (HT.out _ P g c (HP.out.drewN n1)).mono ?_
  rintro e w2 ⟨lv, rfl, hlv, hp2, hg2⟩
  go_wp2_with fail
  refine (HS1.out _ hp2).mono ?_
  rintro e w3 ⟨rfl, n3, rfl⟩
  go_wp2_with fail
  go_ret
  exact ⟨_, rfl, hlv.kept (.of_below (below_draws _ _ _)), hp2.drewN n3, grownBy_trans (grownBy_trans (grownBy_draws w n1 _) hg2) (grownBy_draws _ n3 _)⟩

end Go.Proofs.YtihndbkaoejnnaaGreatDoor

namespace Go.Proofs.YtihndbkaoejnnaaGreatDoor
open Go Go.RowKit Go.Proofs.YtihndbkaoejnnaaGreatDoor.P

/-- The place at which a parser stands. -/
def pAtIn (w : World) (P : Nat) : Nat := match w.cell? ⟨P, 1, none⟩ with | some (.int _ x) => x.toNat | _ => 0
theorem PAt.pAtIn {w : World} {P g c : Nat} {toks : List Tok} {at_ wi : Nat} (h : PAt w P g c toks at_ wi) : pAtIn w P = at_ := by
  unfold Go.Proofs.YtihndbkaoejnnaaGreatDoor.pAtIn
  rw [(Box.three h.1).2.1]
  simp

set_option maxRecDepth 100000 in
set_option maxHeartbeats 8000000 in
theorem term_atom {toks : List Tok} {at_ wi m : Nat} {ns : List Nd} (hA : AtomAt toks at_ wi m ns) (h7 : kindAt toks m ≠ 7) : TermAt toks at_ wi m ns := by
  intro w P g c h
  have HP := Lib.hid h
  have HA := Lib.hid hA
  obtain ⟨K, hK⟩ : ∃ K, K = kindAt toks m := ⟨_, rfl⟩
  have HK := Lib.hid (fun (W : World) (hW : PAt W P g c toks m wi) => by have := kind_any hW; rw [← hK] at this; exact this)
  rw [← hK] at h7
  have e7 : (K == 7) = false := by simpa using h7
  clear h hA h7 hK
  go_enter Tryz.func94, Tryz.ntmps94
  go_wp2_with fail
  refine (HA.out _ P g c HP.out).mono ?_
  rintro e w2 ⟨v, rfl, hv, hp2, hg2⟩
  have HV := Lib.hid hv
  have HP2 := Lib.hid hp2
  have HG := Lib.hid hg2
  clear hv hp2 hg2
  go_wp2_with fail
  go_loopw [3] (fun s3 wr => s3 = v ∧ wr = w2) (fun _ wr => 0)
  case atStart => exact ⟨rfl, rfl⟩
  case round =>
    obtain ⟨rfl, rfl⟩ := hrel
    go_wp2_with fail
    refine (HK.out _ HP2.out).mono ?_
    rintro e w3 ⟨rfl, n3, rfl⟩
    go_wp2_with fail
    go_ret
    exact ⟨_, rfl, HV.out.kept (.of_below (below_draws _ _ _)), HP2.out.drewN n3, grownBy_trans HG.out (grownBy_draws _ n3 _)⟩

end Go.Proofs.YtihndbkaoejnnaaGreatDoor

namespace Go.Proofs.YtihndbkaoejnnaaGreatDoor
open Go Go.RowKit Go.Proofs.YtihndbkaoejnnaaGreatDoor.P

set_option maxRecDepth 100000 in
set_option maxHeartbeats 8000000 in
theorem line_any {toks : List Tok} {q : Nat} {ns : List Nd} (hE : ExprAt toks 0 0 q ns) (h10 : kindAt toks 0 = 3 → kindAt toks 1 ≠ 10) (h2 : 2 ≤ toks.length) {w : World} {P g c : Nat} (h : PAt w P g c toks 0 0) :
    Calls Tryz.prog 46 #[.pointer (some ⟨P, 0, none⟩)] w (ExPost ns P g c toks q 0 w) := by
  have HP := Lib.hid h
  have HE := Lib.hid hE
  obtain ⟨c0, c1, c2⟩ := Box.three h.1
  have hl := h.2.2.2.2.1
  have hc := h.2.2.1
  obtain ⟨t0, ht0⟩ : ∃ t, toks[0]? = some t := ⟨_, List.getElem?_eq_getElem (by omega)⟩
  obtain ⟨t1, ht1⟩ : ∃ t, toks[1]? = some t := ⟨_, List.getElem?_eq_getElem (by omega)⟩
  obtain ⟨k0, -, -, -, -⟩ := h.2.2.2.2.2.2.2 0 t0 ht0
  obtain ⟨k1, -, -, -, -⟩ := h.2.2.2.2.2.2.2 1 t1 ht1
  rw [kindAt_some ht0, kindAt_some ht1] at h10
  have H10 := Lib.hid h10
  obtain ⟨L, hL⟩ : ∃ L, L = toks.length := ⟨_, rfl⟩
  rw [← hL] at c0 h2 hl hc
  have hL1 : 1 < L := by omega
  have hL0 : 0 < L := by omega
  clear h hE h10 ht0 ht1 hL
  simp only [Nat.zero_mul, Nat.one_mul] at k0 k1
  by_cases h3 : t0.k = 3
  · have e10 : (t1.k == 10) = false := by simpa using H10.out h3
    have e3 : (t0.k == 3) = true := by simp [h3]
    clear h3
    go_enter Tryz.func46, Tryz.ntmps46
    go_wp2_with fail
    refine (HE.out _ P g c HP.out).mono ?_
    rintro e w2 ⟨v, rfl, hv, hp2, hg2⟩
    go_wp2_with fail
    go_ret
    exact ⟨_, rfl, hv, hp2, hg2⟩
  · have e3 : (t0.k == 3) = false := by simpa using h3
    clear h3
    go_enter Tryz.func46, Tryz.ntmps46
    go_wp2_with fail
    refine (HE.out _ P g c HP.out).mono ?_
    rintro e w2 ⟨v, rfl, hv, hp2, hg2⟩
    go_wp2_with fail
    go_ret
    exact ⟨_, rfl, hv, hp2, hg2⟩

theorem parseCatch_idle (p q r : Addr) (w : World) : CallsD Tryz.prog 45 #[.pointer (some p), .pointer (some q), .pointer (some r)] .returning w fun e u' w' => e = .returned (.tuple #[]) ∧ u' = .returning ∧ w' = w := by
  refine callsD_of_wpS Tryz.func45 rfl fun c₀ cs hu => ?_
  apply wpS_seq
  apply wpS_region
  simp [wpOpsS, go_sem, recoverD, hu, Tryz.ntmps45, Exit.thenS]
  refine wpS_of_wp ?_
  simp only [Array.replicate, List.replicate, List.setIfInBounds_toArray, List.set_cons_zero, List.set_cons_succ, List.append_toArray, List.cons_append, List.nil_append]
  go_wp2
  cases c₀
  simp_all [bodyPostS, results, Tryz.results45]

end Go.Proofs.YtihndbkaoejnnaaGreatDoor

namespace Go.Proofs.YtihndbkaoejnnaaGreatDoor
open Go Go.RowKit Go.Proofs.YtihndbkaoejnnaaGreatDoor.P

theorem tokCells_at {toks : List Tok} {i j : Nat} {t : Tok} (h : toks[i]? = some t) (hj : j < 5) : (tokCells toks)[i * 5 + j]? = t.cells[j]? := by
  induction toks generalizing i with
  | nil => simp at h
  | cons x l ih =>
    cases i with
    | zero =>
      simp at h
      subst h
      rw [tokCells, List.getElem?_append_left (by simp [Tok.cells]; omega)]
      simp
    | succ i =>
      simp at h
      rw [tokCells, List.getElem?_append_right (by simp [Tok.cells]; omega)]
      have := ih h
      rw [show (i + 1) * 5 + j - x.cells.length = i * 5 + j by simp [Tok.cells]; omega]
      exact this
theorem toks_own {w : World} {B n c : Nat} {A : Option Addr} {toks : List Tok} (h : w.ownsRow B 113 5 (.slice A n c) n (tokCells toks)) (hn : 0 < toks.length) : ∃ g, A = some ⟨g, 0, none⟩ ∧ B ≤ g ∧ g < w.heap.size ∧ n ≤ c ∧ c ≤ 9223372036854775807 ∧ ∀ (i : Nat) (t : Tok), toks[i]? = some t → TokAt w g (i * 5) t := by
  have hl := h.1
  rw [length_tokCells] at hl
  rcases h.2 with ⟨e, rfl⟩ | ⟨g, cap, cur, e, hb, hg, hnc, hm, _⟩
  · omega
  · injection e with e1 e2 e3
    subst e1 e3
    refine ⟨g, rfl, hb, (Array.getElem?_eq_some_iff.1 hg).1, hnc, by unfold maxLen at hm; omega, fun i t ht => ?_⟩
    have k : ∀ j u, j < 5 → t.cells[j]? = some u → w.cell? ⟨g, i * 5 + j, none⟩ = some u := fun j u hj hu => by
      have := h.cells (g := g) rfl (i * 5 + j) u (by rw [tokCells_at ht hj]; exact hu)
      have e : (⟨g, 0, none⟩ : Addr).add (i * 5 + j) = ⟨g, i * 5 + j, none⟩ := by unfold Addr.add; split <;> simp_all
      rwa [e] at this
    exact ⟨k 0 _ (by omega) rfl, k 1 _ (by omega) rfl, k 2 _ (by omega) rfl, k 3 _ (by omega) rfl, k 4 _ (by omega) rfl⟩

/-- The words are an expression's, and these are its nodes. -/
structure Parsed (toks : List Tok) (ns : List Nd) : Prop where
  ok : ∀ (i : Nat) (t : Tok), toks[i]? = some t → TokOk t
  expr : ExprAt toks 0 0 toks.length ns
  set : kindAt toks 0 = 3 → kindAt toks 1 ≠ 10
  two : 2 ≤ toks.length
  few : toks.length ≤ 199
  nodes : ns.length ≤ 390

set_option maxRecDepth 100000 in
set_option maxHeartbeats 8000000 in
theorem parse_any {toks : List Tok} {ns : List Nd} {w : World} {B n c : Nat} {A : Option Addr} (hst : Std w) (hp : Parsed toks ns) (hn : n = toks.length) (h : w.ownsRow B 113 5 (.slice A n c) n (tokCells toks)) :
    Calls Tryz.prog 33 #[.slice A n c] w fun e w' => ∃ tv, e = .returned (.tuple #[tv, .int .i64 0, .nilIface]) ∧ ToList w' w.heap.size tv ns ∧ Below w.heap.size w w' := by
  have hmf : ∀ (fn : Fn) (first cap : Array Value) (w : World), (Instr.makeFunc fn first cap).run Tryz.prog w = .ok (.func fn first cap) w := fun _ _ _ _ => rfl
  obtain ⟨g, rfl, hBg, hgl, hnc, hcm, htk⟩ := toks_own h (by have := hp.two; omega)
  have HT := Lib.hid htk
  have HST := Lib.hid hst
  have HP := Lib.hid hp
  have HN := Lib.hid hn
  have hn199 : n ≤ 199 := by have := hp.few; omega
  have hn2 : 2 ≤ n := by have := hp.two; omega
  have hlo := hst.low
  clear h hst hp hn htk
  have hb3 := below_three w (.cells #[.slice none 0 0] 65) (.cells #[.int .i64 0] 3) (.cells #[.nilIface] 29)
  have x1 := Box.new w 65 #[.slice none 0 0]
  have x2 := Box.new (w.alloc (.cells #[.slice none 0 0] 65)) 3 #[.int .i64 0]
  have x3 := Box.new ((w.alloc (.cells #[.slice none 0 0] 65)).alloc (.cells #[.int .i64 0] 3)) 29 #[.nilIface]
  simp only [World.size_alloc] at x2 x3
  have X1 := Lib.hid ((x1.alloc (.cells #[.int .i64 0] 3)).alloc (.cells #[.nilIface] 29))
  have X2 := Lib.hid (x2.alloc (.cells #[.nilIface] 29))
  have X3 := Lib.hid x3
  clear x1 x2 x3
  go_enter_defers Tryz.func33, Tryz.ntmps33
  go_wp2_with fail
  obtain ⟨W, hWe⟩ : ∃ W, W = ((w.alloc (.cells #[.slice none 0 0] 65)).alloc (.cells #[.int .i64 0] 3)).alloc (.cells #[.nilIface] 29) := ⟨_, rfl⟩
  rw [← hWe] at X1 X2 X3 hb3 ⊢
  have hWs : W.heap.size = w.heap.size + 3 := by rw [hWe]; simp
  have HWS := Lib.hid hWs
  clear hWe hWs
  go_loopw [16] (fun s16 wr => ∃ k : Nat, k ≤ n ∧ s16 = .int .i64 k ∧ Below W.heap.size W wr) (fun s16 _ => n - (intOf s16).toNat)
  case atStart => exact ⟨0, Nat.zero_le _, rfl, Below.refl _ _⟩
  case round =>
    obtain ⟨k, hk, rfl, hbr⟩ := hrel
    have HBR := Lib.hid hbr
    have HBW := Lib.hid (hb3.trans (hbr.mono hb3.size))
    clear hbr
    rcases Nat.lt_or_ge k n with hlt | hge
    · obtain ⟨t, ht⟩ : ∃ t, toks[k]? = some t := ⟨toks[k]'(by rw [← HN.out]; exact hlt), List.getElem?_eq_getElem _⟩
      have hck : ¬ c = k := by omega
      have HTA := Lib.hid ((HT.out k t ht).below HBW.out)
      have HOK := Lib.hid (HP.out.ok k t ht)
      clear ht
      go_wp2_with fail
      refine (spell_one (HST.out.below HBW.out) HTA.out (by omega) HOK.out).mono ?_
      rintro e w2 ⟨x, hx, rfl, hb2⟩
      go_wp2_with fail
      go_roundw
      case rel => exact ⟨k + 1, by omega, by go_num, HBR.out.trans (hb2.mono HBR.out.size)⟩
      case measure => simp [intOf]; omega
    · have hPA : PAt (wr.alloc (.cells #[.slice (some ⟨g, 0, none⟩) n c, .int .i64 0, .int .i64 0] 91)) wr.heap.size g c toks 0 0 := by
        have e := HN.out
        have hsz := HBW.out.size
        have hb1 := below_one wr (.cells #[.slice (some ⟨g, 0, none⟩) n c, .int .i64 0, .int .i64 0] 91)
        refine ⟨by rw [← e]; exact Box.new wr _ _, by omega, by omega, hcm, by omega, by omega, by omega, fun i t ht => ((HT.out i t ht).below HBW.out).below hb1⟩
      have HPA := Lib.hid hPA
      have HE := Lib.hid (line_any HP.out.expr HP.out.set HP.out.two hPA)
      have hbp := below_one wr (.cells #[.slice (some ⟨g, 0, none⟩) n c, .int .i64 0, .int .i64 0] 91)
      have Y1 := Lib.hid (((X1.out.below HBR.out).alloc (.cells #[.slice (some ⟨g, 0, none⟩) n c, .int .i64 0, .int .i64 0] 91)))
      have Y2 := Lib.hid (((X2.out.below HBR.out).alloc (.cells #[.slice (some ⟨g, 0, none⟩) n c, .int .i64 0, .int .i64 0] 91)))
      have Y3 := Lib.hid (((X3.out.below HBR.out).alloc (.cells #[.slice (some ⟨g, 0, none⟩) n c, .int .i64 0, .int .i64 0] 91)))
      have hWr : w.heap.size + 3 ≤ wr.heap.size := by have := HBR.out.size; have := HWS.out; omega
      clear hPA
      go_wp2_with fail
      refine HE.out.mono ?_
      rintro e w3 ⟨v, rfl, hv, hp3, hg3⟩
      obtain ⟨T, u, f, rfl, hmeth, hcf, hfl⟩ := hv
      obtain ⟨c0, c1, c2⟩ := Box.three hp3.1
      have HNN := Lib.hid (show ((toks.length : Nat) : Int) = (n : Int) by rw [HN.out])
      rw [HNN.out] at c1
      rw [← HN.out] at c0
      have HFL := Lib.hid (hfl w3 w3.heap.size (.slice none 0 0) [] (ExKept.refl _ _) (Nat.le_refl _) (Nat.le_refl _) (ToList.nil _ _) (by have := HP.out.nodes; simp; omega))
      have HG3 := Lib.hid hg3
      have Z1 := Lib.hid (Box.grown Y1.out hg3 (by intro e; injection e; omega))
      have Z2 := Lib.hid (Box.grown Y2.out hg3 (by intro e; injection e; omega))
      have Z3 := Lib.hid (Box.grown Y3.out hg3 (by intro e; injection e; omega))
      clear hfl hg3 hp3
      go_wp2_with fail
      refine HFL.out.mono ?_
      rintro e w4 ⟨tv, rfl, htv, hg4, -⟩
      simp only [List.nil_append] at htv
      have hb4 : Below w3.heap.size w3 w4 := ⟨hg4.os, hg4.tape, hg4.output, hg4.size, fun k hk => hg4.block k hk (by simp [Value.ownBlock])⟩
      have V1 := Z1.out.below hb4
      have V2 := Z2.out.below hb4
      have V3 := Z3.out.below hb4
      have d1 := V1.one
      have d2 := V2.one
      have d3 := V3.one
      have f1 := V1.frozen 0
      have f2 := V2.frozen 0
      have f3 := V3.frozen 0
      have l1 := V1.lt
      have l2 := V2.lt
      have l3 := V3.lt
      obtain ⟨A4, c4, us4, rfl, ho4, hcs4⟩ := htv.form
      have HT4 := Lib.hid htv
      have HO4 := Lib.hid ho4
      have HC4 := Lib.hid hcs4
      have HB4 := Lib.hid hb4
      clear htv ho4 hcs4 hb4 hg4 c0 c1 c2
      go_wp2_with fail
      refine leaves_cons (f := 45) (args := #[.pointer (some ⟨w.heap.size, 0, none⟩), .pointer (some ⟨w.heap.size + 1, 0, none⟩), .pointer (some ⟨w.heap.size + 1 + 1, 0, none⟩)]) (by simp) (by simp [go_sem]) ?_
      refine (parseCatch_idle _ _ _ _).mono ?_
      rintro e u' w'' ⟨rfl, rfl, rfl⟩
      simp [Leaves, settle, results, Tryz.results33, go_sem, d1, d2, d3, f1, f2, f3, l1, l2, l3]
      have hsz3 : wr.heap.size < w3.heap.size := by have := HG3.out.size; simp at this; omega
      refine ⟨?_, ?_⟩
      · exact (((HT4.out.away (p := ⟨w.heap.size, 0, none⟩) (by show w.heap.size < _; omega) _).away (p := ⟨w.heap.size + 1, 0, none⟩) (by show w.heap.size + 1 < _; omega) _).away (p := ⟨w.heap.size + 1 + 1, 0, none⟩) (by show w.heap.size + 1 + 1 < _; omega) _).base (by omega)
      · have hA := (HBW.out.trans (hbp.mono HBW.out.size)).grown HG3.out (by have := HBW.out.size; simp; omega) (fun k e => by injection e; have := HBW.out.size; omega)
        have hC := hA.trans (HB4.out.mono hA.size)
        exact ((hC.setCell (p := ⟨w.heap.size, 0, none⟩) (Nat.le_refl _) _).setCell (p := ⟨w.heap.size + 1, 0, none⟩) (Nat.le_add_right _ _) _).setCell (p := ⟨w.heap.size + 1 + 1, 0, none⟩) (by show w.heap.size ≤ w.heap.size + 1 + 1; omega) _

end Go.Proofs.YtihndbkaoejnnaaGreatDoor

namespace Go.Proofs.YtihndbkaoejnnaaGreatDoor
open Go Go.RowKit Go.Proofs.YtihndbkaoejnnaaGreatDoor.P

def numsB (toks : List Tok) (at_ : Nat) : List Int → Bool
  | [] => true
  | x :: l => (match toks[at_]? with | some t => decide (t.k = 1) && decide (t.n = x) | none => false) && numsB toks (at_ + 1) l
theorem nums_of {toks : List Tok} {at_ : Nat} {xs : List Int} (h : numsB toks at_ xs = true) : ∀ (i : Nat) (x : Int), xs[i]? = some x → ∃ t, toks[at_ + i]? = some t ∧ t.k = 1 ∧ t.n = x := by
  induction xs generalizing at_ with
  | nil => intro i x hx; simp at hx
  | cons y l ih =>
    simp only [numsB, Bool.and_eq_true] at h
    intro i x hx
    cases i with
    | zero =>
      simp at hx
      subst hx
      cases ht : toks[at_]? with
      | none => rw [ht] at h; simp at h
      | some t =>
        rw [ht] at h
        simp at h
        exact ⟨t, by first | exact ht | rfl, h.1.1, h.1.2⟩
    | succ i =>
      simp at hx
      obtain ⟨t, h1, h2⟩ := ih h.2 i x hx
      exact ⟨t, by rw [show at_ + (i + 1) = at_ + 1 + i by omega]; exact h1, h2⟩
theorem nameOk_of {s : ByteArray} (h : (decide (0 < s.size) && (decide (s.size ≤ 12) && (letB (byteAt s 0) && (List.range s.size).all fun k => inB (byteAt s k)))) = true) : NameOk s := by
  simp only [Bool.and_eq_true, decide_eq_true_eq, List.all_eq_true, List.mem_range] at h
  exact ⟨h.1, h.2.1, fun h0 => by rw [← byteAt_get h0]; exact h.2.2.1, fun k hk => by rw [← byteAt_get hk]; exact h.2.2.2 k hk⟩
def AllOk : List Tok → Prop
  | [] => True
  | t :: l => TokOk t ∧ AllOk l
theorem allOk_at {toks : List Tok} (h : AllOk toks) : ∀ (i : Nat) (t : Tok), toks[i]? = some t → TokOk t := by
  induction toks with
  | nil => intro i t ht; simp at ht
  | cons x l ih =>
    intro i t ht
    cases i with
    | zero => simp at ht; subst ht; exact h.1
    | succ i => simp at ht; exact ih h.2 i t ht

end Go.Proofs.YtihndbkaoejnnaaGreatDoor

namespace Go.Proofs.YtihndbkaoejnnaaGreatDoor
open Go Go.RowKit Go.Proofs.YtihndbkaoejnnaaGreatDoor.P

/-- How many expressions a node has. -/
def Nd.more (x : Nd) : Int := (if x.op = 6 then 1 else if x.op = 7 then 2 else if x.op = 8 then x.n + 1 else 0) + (if x.aop = 6 then 2 * x.n + 1 else 0)
/-- So many expressions from this place on end ahead of that one. -/
inductive Skips (ns : List Nd) : Nat → Nat → Nat → Prop
  | done (a : Nat) : Skips ns a 0 a
  | node {a left r e : Nat} {x : Nd} : ns[a]? = some x → x.more = (e : Int) → 0 ≤ x.n → x.n ≤ 100 → left + e ≤ 1000 → Skips ns (a + 1) (left + e) r → Skips ns a (left + 1) r

theorem skip_rel {ns : List Nd} {r : Nat} {w W : World} {x y x' y' : Int} (hx : x = x') (hy : y = y') (h : ∃ a' left' : Nat, Value.int .i64 x' = .int .i64 a' ∧ Value.int .i64 y' = .int .i64 left' ∧ Skips ns a' left' r ∧ left' ≤ 1001 ∧ Below w.heap.size w W) :
    ∃ a' left' : Nat, Value.int .i64 x = .int .i64 a' ∧ Value.int .i64 y = .int .i64 left' ∧ Skips ns a' left' r ∧ left' ≤ 1001 ∧ Below w.heap.size w W := by
  subst hx hy
  exact h

set_option maxRecDepth 100000 in
set_option maxHeartbeats 8000000 in
theorem skip_any {ns : List Nd} {at_ r G g c : Nat} {w : World} (hnds : NdsAt w G g c ns) (hs : Skips ns at_ 1 r) : Calls Tryz.prog 120 #[.slice (some ⟨g, 0, none⟩) ns.length c, .int .i64 at_] w fun e w' => e = .returned (.int .i64 r) ∧ Below w.heap.size w w' := by
  have HNDS := Lib.hid hnds
  have hL390 := hnds.2.2.2.2.1
  have hLc := hnds.2.2.1
  have hgl : g < w.heap.size := Nat.lt_of_lt_of_le hnds.1 hnds.2.1
  obtain ⟨L, hL⟩ : ∃ L, L = ns.length := ⟨_, rfl⟩
  rw [← hL] at hL390 hLc ⊢
  have HL := Lib.hid hL
  clear hnds hL
  go_enter Tryz.func120, Tryz.ntmps120
  go_wp2_with fail
  go_loopw [1, 5] (fun s1 s5 wr => ∃ a left : Nat, s1 = .int .i64 a ∧ s5 = .int .i64 left ∧ Skips ns a left r ∧ left ≤ 1001 ∧ Below w.heap.size w wr) (fun s1 _ _ => L + 1 - (intOf s1).toNat)
  case atStart => exact ⟨at_, 1, rfl, rfl, hs, by omega, Below.refl _ _⟩
  case round =>
    obtain ⟨a, left, rfl, rfl, hsk, hl1, hbr⟩ := hrel
    have HBR := Lib.hid hbr
    have HNR := Lib.hid (HNDS.out.below (by exact (hbr : Below w.heap.size w wr)))
    have hgr : g < wr.heap.size := Nat.lt_of_lt_of_le hgl hbr.size
    clear hbr
    cases hsk with
    | done =>
      go_wp2_with fail
      go_ret
      exact ⟨rfl, HBR.out⟩
    | @node _ left _ e x hx he hn0 hn1 hle hsk =>
      obtain ⟨op, aop, af, ag, n, xs, text⟩ := x
      have halt : a < L := by rw [HL.out]; exact (List.getElem?_eq_some_iff.1 hx).1
      obtain ⟨nA, nc, n0, n1, n2, n3, n4, n5, n6, -, -⟩ := HNR.out.2.2.2.2.2 a _ hx
      simp only [] at n0 n1 n2 n3 n4 n5 n6
      simp only [Nd.more] at he hn0 hn1
      have HSK := Lib.hid hsk
      have hal390 : a ≤ 390 := by omega
      clear hx hsk
      have done1 : ∀ W : World, Below w.heap.size w W → ∃ a' left' : Nat, Value.int .i64 ((a : Int) + 1) = .int .i64 a' ∧ Value.int .i64 ((left : Int) + e) = .int .i64 left' ∧ Skips ns a' left' r ∧ left' ≤ 1001 ∧ Below w.heap.size w W := fun W hW => ⟨a + 1, left + e, by push_cast; rfl, by push_cast; rfl, HSK.out, by omega, hW⟩
      rcases Decidable.em (aop = 6) with hA | hA
      · subst hA
        rcases Decidable.em (op = 6) with h6 | h6
        · subst h6
          simp [Int.reduceEq] at he
          go_wp2_with fail
          go_roundw
          case rel => exact skip_rel (by omega) (by omega) (done1 _ (HBR.out.alloc HBR.out.size _))
          case measure => simp [intOf]; omega
        · have e6 : (op == 6) = false := by simpa using h6
          rcases Decidable.em (op = 7) with h7 | h7
          · subst h7
            simp [Int.reduceEq] at he
            go_wp2_with fail
            go_roundw
            case rel => exact skip_rel (by omega) (by omega) (done1 _ (HBR.out.alloc HBR.out.size _))
            case measure => simp [intOf]; omega
          · have e7 : (op == 7) = false := by simpa using h7
            rcases Decidable.em (op = 8) with h8 | h8
            · subst h8
              simp [Int.reduceEq] at he
              go_wp2_with fail
              go_roundw
              case rel => exact skip_rel (by omega) (by omega) (done1 _ (HBR.out.alloc HBR.out.size _))
              case measure => simp [intOf]; omega
            · have e8 : (op == 8) = false := by simpa using h8
              simp [h6, h7, h8] at he
              go_wp2_with fail
              go_roundw
              case rel => exact skip_rel (by omega) (by omega) (done1 _ (HBR.out.alloc HBR.out.size _))
              case measure => simp [intOf]; omega
      · have eA : (aop == 6) = false := by simpa using hA
        rcases Decidable.em (op = 6) with h6 | h6
        · subst h6
          simp [hA, Int.reduceEq] at he
          go_wp2_with fail
          go_roundw
          case rel => exact skip_rel (by omega) (by omega) (done1 _ (HBR.out.alloc HBR.out.size _))
          case measure => simp [intOf]; omega
        · have e6 : (op == 6) = false := by simpa using h6
          rcases Decidable.em (op = 7) with h7 | h7
          · subst h7
            simp [hA, Int.reduceEq] at he
            go_wp2_with fail
            go_roundw
            case rel => exact skip_rel (by omega) (by omega) (done1 _ (HBR.out.alloc HBR.out.size _))
            case measure => simp [intOf]; omega
          · have e7 : (op == 7) = false := by simpa using h7
            rcases Decidable.em (op = 8) with h8 | h8
            · subst h8
              simp [hA, Int.reduceEq] at he
              go_wp2_with fail
              go_roundw
              case rel => exact skip_rel (by omega) (by omega) (done1 _ (HBR.out.alloc HBR.out.size _))
              case measure => simp [intOf]; omega
            · have e8 : (op == 8) = false := by simpa using h8
              simp [hA, h6, h7, h8] at he
              go_wp2_with fail
              go_roundw
              case rel => exact skip_rel (by omega) (by omega) (done1 _ (HBR.out.alloc HBR.out.size _))
              case measure => simp [intOf]; omega

end Go.Proofs.YtihndbkaoejnnaaGreatDoor

namespace Go.Proofs.YtihndbkaoejnnaaGreatDoor
open Go Go.RowKit Go.Proofs.YtihndbkaoejnnaaGreatDoor.P


set_option maxRecDepth 100000 in
set_option maxHeartbeats 4000000 in
theorem wfn_plain {op aop af ag n : Int} {A : Option Addr} {c K : Nat} {w : World} (h6 : aop ≠ 6) (h7 : aop ≠ 7) : Calls Tryz.prog 119 #[.pointer (some ⟨K, 0, none⟩), .agg #[.int .i64 op, .int .i64 aop, .int .i64 af, .int .i64 ag, .int .i64 n, .slice A 0 c, .string ⟨#[]⟩]] w fun e w' => e = .returned (.agg #[.int .i64 aop, .int .i64 af, .int .i64 ag, .int .i64 n, .slice none 0 0]) ∧ Below w.heap.size w w' := by
  have e6 : (aop == 6) = false := by simpa using h6
  have e7 : (aop == 7) = false := by simpa using h7
  clear h6 h7
  go_enter Tryz.func119, Tryz.ntmps119
  go_wp2_with fail
  refine bodyPost_ret (v := .agg #[.int .i64 aop, .int .i64 af, .int .i64 ag, .int .i64 n, .slice none 0 0]) (by simp [results, Tryz.results119, go_sem]) rfl ?_
  exact ⟨rfl, by go_grown⟩


set_option maxRecDepth 100000 in
set_option maxHeartbeats 4000000 in
theorem wfn_self {op aop af ag n : Int} {A : Option Addr} {c K at_ wi : Nat} {tv : Value} {w : World} (h7 : aop = 7) (hw : 0 < wi) (hb : Box w K 166 #[tv, .int .i64 at_, .int .i64 wi]) : Calls Tryz.prog 119 #[.pointer (some ⟨K, 0, none⟩), .agg #[.int .i64 op, .int .i64 aop, .int .i64 af, .int .i64 ag, .int .i64 n, .slice A 0 c, .string ⟨#[]⟩]] w fun e w' => e = .returned (.agg #[.int .i64 aop, .int .i64 af, .int .i64 ag, .int .i64 n, .slice none 0 0]) ∧ Below w.heap.size w w' := by
  subst h7
  have ew : ((wi : Int) == 0) = false := by simp; omega
  have k1 := fun o => Box.below hb (below_one w o)
  have k2 := fun o p => Box.below (k1 o) (below_one _ p)
  have k3 := fun o p q => Box.below (k2 o p) (below_one _ q)
  have d3 := fun o p q => (k3 o p q).cell 2
  simp at d3
  obtain ⟨c0, c1, c2⟩ := Box.three hb
  have hKl := hb.lt
  clear hb k1 k2 k3
  go_enter Tryz.func119, Tryz.ntmps119
  go_wp2_with fail
  refine bodyPost_ret (v := .agg #[.int .i64 7, .int .i64 af, .int .i64 ag, .int .i64 n, .slice none 0 0]) (by simp [results, Tryz.results119, go_sem]) rfl ?_
  exact ⟨rfl, by go_grown⟩


/-- Here stands a function whose node is this one: the walker's function leaves it at this place. -/
def WFnAt (ns : List Nd) (at_ wi at' : Nat) (x : Nd) : Prop := ∀ (w : World) (K M g c : Nat) (A : Option Addr) (nc : Nat), Std w → 6 ≤ K → WAt w K M g c ns at_ wi →
  Calls Tryz.prog 119 #[.pointer (some ⟨K, 0, none⟩), .agg #[.int .i64 x.op, .int .i64 x.aop, .int .i64 x.af, .int .i64 x.ag, .int .i64 x.n, .slice A 0 nc, .string ⟨#[]⟩]] w fun e w' =>
    ∃ B k cc, e = .returned (.agg #[.int .i64 x.aop, .int .i64 x.af, .int .i64 x.ag, .int .i64 x.n, .slice B k cc]) ∧ WAt w' K M g c ns at' wi ∧ w.grownBy w' (some K)
theorem wfnAt_plain {ns : List Nd} {at_ wi : Nat} {x : Nd} (h6 : x.aop ≠ 6) (h7 : x.aop ≠ 7) : WFnAt ns at_ wi at_ x := fun w K M g c A nc _ _ h =>
  (wfn_plain (K := K) h6 h7).mono fun e w' q => ⟨none, 0, 0, q.1, h.below q.2, grownBy_of_below q.2 (Nat.le_refl _)⟩
theorem wfnAt_self {ns : List Nd} {at_ wi : Nat} {x : Nd} (h7 : x.aop = 7) (hw : 0 < wi) : WFnAt ns at_ wi at_ x := fun w K M g c A nc _ _ h =>
  (wfn_self (K := K) h7 hw h.1).mono fun e w' q => ⟨none, 0, 0, q.1, h.below q.2, grownBy_of_below q.2 (Nat.le_refl _)⟩

end Go.Proofs.YtihndbkaoejnnaaGreatDoor

namespace Go.Proofs.YtihndbkaoejnnaaGreatDoor
open Go Go.RowKit Go.Proofs.YtihndbkaoejnnaaGreatDoor.P


set_option maxRecDepth 100000 in
set_option maxHeartbeats 8000000 in
theorem w_one {ns : List Nd} {at_ wi : Nat} {aop af ag n : Int} {q r : Nat} (hx : ns[at_]? = some ⟨6, aop, af, ag, n, [], ⟨#[]⟩⟩) (hr : RightNd ⟨6, aop, af, ag, n, [], ⟨#[]⟩⟩) (hF : WFnAt ns (at_ + 1) wi q ⟨6, aop, af, ag, n, [], ⟨#[]⟩⟩) (hE : WExpr ns q wi r) : WExpr ns at_ wi (r) := by
  intro w K M g c hst hK20 h
  have HFN := Lib.hid hF
  have HE := Lib.hid hE
  clear hF hE
  have hm := mixedZ
  have hlt : at_ < ns.length := (List.getElem?_eq_some_iff.1 hx).1
  have HW := Lib.hid h
  have HST := Lib.hid hst
  have HRT := Lib.hid hr
  obtain ⟨hbox, hMK, hnds, hal, hwi⟩ := h
  obtain ⟨nA, nc, n0, n1, n2, n3, n4, n5, n6, n7, n8⟩ := hnds.2.2.2.2.2 at_ _ hx
  have hgM := hnds.1
  have hMs := hnds.2.1
  have hL390 := hnds.2.2.2.2.1
  have hLc := hnds.2.2.1
  have hKl := hbox.lt
  have hgl : g < w.heap.size := by omega
  obtain ⟨c0, c1, c2⟩ := Box.three hbox
  have cf := Box.frozen hbox 1
  have cf2 := Box.frozen hbox 2
  obtain ⟨L, hL⟩ : ∃ L, L = ns.length := ⟨_, rfl⟩
  rw [← hL] at c0 hlt hal hL390 hLc
  have HL := Lib.hid hL
  have HN7 := Lib.hid n7
  have HBW := Lib.hid (Below.refl w.heap.size w)
  clear hbox hnds hst hr n7 n8 hL
  simp only [] at n0 n1 n2 n3 n4 n5 n6
  go_enter Tryz.func97, Tryz.ntmps97
  go_wp2_with fail
  have hRel : Rels (fun w w' => Below w.heap.size w w') := rels_below
  obtain ⟨V, hVe⟩ : ∃ V : Nat → Value → World → Prop, V = fun i v w' => match i with
      | 0 => v = .pointer (some ⟨K, 0, none⟩)
      | 1 => v = .pointer (some ⟨K, 0, none⟩)
      | 2 => v = .pointer (some ⟨K, 1, none⟩)
      | 3 => v = .int .i64 at_
      | 4 => v = .pointer (some ⟨K, 0, none⟩)
      | 5 => v = .pointer (some ⟨K, 0, none⟩)
      | 6 => v = .pointer (some ⟨K, 0, none⟩)
      | 7 => v = .slice (some ⟨g, 0, none⟩) L c
      | 8 => v = .int .i64 L
      | 9 => v = .bool false
      | 10 => v = .bool false
      | 11 => v = .pointer (some ⟨K, 0, none⟩)
      | 12 => v = .pointer (some ⟨K, 0, none⟩)
      | 13 => v = .pointer (some ⟨K, 0, none⟩)
      | 14 => v = .slice (some ⟨g, 0, none⟩) L c
      | 15 => v = .pointer (some ⟨K, 0, none⟩)
      | 16 => v = .pointer (some ⟨K, 0, none⟩)
      | 17 => v = .pointer (some ⟨K, 1, none⟩)
      | 18 => v = .int .i64 at_
      | 19 => v = .pointer (some ⟨g, at_ * 7, none⟩)
      | 20 => v = .agg #[.int .i64 6, .int .i64 aop, .int .i64 af, .int .i64 ag, .int .i64 n, .slice nA 0 nc, .string ⟨#[]⟩]
      | 21 => v = .bool true
      | 22 => v = .bool false
      | 23 => v = .bool false
      | _ => True := ⟨_, rfl⟩
  have hVm : ∀ j v w1 w2, V j v w1 → (fun w w' => Below w.heap.size w w') w1 w2 → V j v w2 := by
    intro j v w1 w2 h hr
    subst hVe
    match j, h with
    | 0, h => exact h
    | 1, h => exact h
    | 2, h => exact h
    | 3, h => exact h
    | 4, h => exact h
    | 5, h => exact h
    | 6, h => exact h
    | 7, h => exact h
    | 8, h => exact h
    | 9, h => exact h
    | 10, h => exact h
    | 11, h => exact h
    | 12, h => exact h
    | 13, h => exact h
    | 14, h => exact h
    | 15, h => exact h
    | 16, h => exact h
    | 17, h => exact h
    | 18, h => exact h
    | 19, h => exact h
    | 20, h => exact h
    | 21, h => exact h
    | 22, h => exact h
    | 23, h => exact h
    | i + 24, _ => trivial
  have hV0 : ∀ v w', V 0 v w' ↔ v = .pointer (some ⟨K, 0, none⟩) := fun _ _ => by subst hVe; rfl
  have hV1 : ∀ v w', V 1 v w' ↔ v = .pointer (some ⟨K, 0, none⟩) := fun _ _ => by subst hVe; rfl
  have hV2 : ∀ v w', V 2 v w' ↔ v = .pointer (some ⟨K, 1, none⟩) := fun _ _ => by subst hVe; rfl
  have hV3 : ∀ v w', V 3 v w' ↔ v = .int .i64 at_ := fun _ _ => by subst hVe; rfl
  have hV4 : ∀ v w', V 4 v w' ↔ v = .pointer (some ⟨K, 0, none⟩) := fun _ _ => by subst hVe; rfl
  have hV5 : ∀ v w', V 5 v w' ↔ v = .pointer (some ⟨K, 0, none⟩) := fun _ _ => by subst hVe; rfl
  have hV6 : ∀ v w', V 6 v w' ↔ v = .pointer (some ⟨K, 0, none⟩) := fun _ _ => by subst hVe; rfl
  have hV7 : ∀ v w', V 7 v w' ↔ v = .slice (some ⟨g, 0, none⟩) L c := fun _ _ => by subst hVe; rfl
  have hV8 : ∀ v w', V 8 v w' ↔ v = .int .i64 L := fun _ _ => by subst hVe; rfl
  have hV9 : ∀ v w', V 9 v w' ↔ v = .bool false := fun _ _ => by subst hVe; rfl
  have hV10 : ∀ v w', V 10 v w' ↔ v = .bool false := fun _ _ => by subst hVe; rfl
  have hV11 : ∀ v w', V 11 v w' ↔ v = .pointer (some ⟨K, 0, none⟩) := fun _ _ => by subst hVe; rfl
  have hV12 : ∀ v w', V 12 v w' ↔ v = .pointer (some ⟨K, 0, none⟩) := fun _ _ => by subst hVe; rfl
  have hV13 : ∀ v w', V 13 v w' ↔ v = .pointer (some ⟨K, 0, none⟩) := fun _ _ => by subst hVe; rfl
  have hV14 : ∀ v w', V 14 v w' ↔ v = .slice (some ⟨g, 0, none⟩) L c := fun _ _ => by subst hVe; rfl
  have hV15 : ∀ v w', V 15 v w' ↔ v = .pointer (some ⟨K, 0, none⟩) := fun _ _ => by subst hVe; rfl
  have hV16 : ∀ v w', V 16 v w' ↔ v = .pointer (some ⟨K, 0, none⟩) := fun _ _ => by subst hVe; rfl
  have hV17 : ∀ v w', V 17 v w' ↔ v = .pointer (some ⟨K, 1, none⟩) := fun _ _ => by subst hVe; rfl
  have hV18 : ∀ v w', V 18 v w' ↔ v = .int .i64 at_ := fun _ _ => by subst hVe; rfl
  have hV19 : ∀ v w', V 19 v w' ↔ v = .pointer (some ⟨g, at_ * 7, none⟩) := fun _ _ => by subst hVe; rfl
  have hV20 : ∀ v w', V 20 v w' ↔ v = .agg #[.int .i64 6, .int .i64 aop, .int .i64 af, .int .i64 ag, .int .i64 n, .slice nA 0 nc, .string ⟨#[]⟩] := fun _ _ => by subst hVe; rfl
  have hV21 : ∀ v w', V 21 v w' ↔ v = .bool true := fun _ _ => by subst hVe; rfl
  have hV22 : ∀ v w', V 22 v w' ↔ v = .bool false := fun _ _ => by subst hVe; rfl
  have hV23 : ∀ v w', V 23 v w' ↔ v = .bool false := fun _ _ => by subst hVe; rfl
  obtain ⟨St, hSe⟩ : ∃ St : Nat → (Nat → Value) → World → Prop, St = fun s u w' => match s with
      | 0 => True
      | _ => False := ⟨_, rfl⟩
  have hSm : ∀ s u u' w1 w2, (∀ c ∈ [], u' c = u c) → St s u w1 → Below w1.heap.size w1 w2 → St s u' w2 := by
    intro s u u' w1 w2 hu h hb
    subst hSe
    match s, h with
    | 0, h => trivial
    | s + 1, h => exact h.elim
  have hS0 : ∀ u w', St 0 u w' ↔ (True) := fun _ _ => by subst hSe; rfl
  clear hVe hSe
  refine wp_region_inv (ChainInv (fun w w' => Below w.heap.size w w') V [] St w) (by kernel_rfl) (by kernel_rfl) (by kernel_rfl) ?start ?step ?fin
  case start => exact fun u => ChainInv.start hRel (Below.refl _ _).drew ((hS0 _ _).2 (trivial))
  case step =>
    simp only [putAll, Act.put, List.setIfInBounds_toArray, List.set_cons_zero, List.set_cons_succ, Nat.reduceAdd, Nat.zero_add]
    intro i o ho done u wr hnd hdep hI K hK
    obtain ⟨hcw, hfw⟩ := bcell hI.1
    match i, ho with
    | 0, ho =>
      simp only [List.getElem?_cons_zero, Option.some.injEq] at ho
      subst ho
      simp only [Act.put, List.setIfInBounds_toArray, List.set_cons_zero, List.set_cons_succ] at hK
      refine wpOp_step rfl fun K' hK' => ?_
      go_simp
      exact hK' _ _ (hK _ _ (hI.quiet hRel hnd (by decide) hVm hSm (Below.refl _ _) ((hV0 _ _).2 rfl)))
    | 1, ho =>
      simp only [List.getElem?_cons_succ, List.getElem?_cons_zero, Option.some.injEq] at ho
      subst ho
      simp only [Act.put, List.setIfInBounds_toArray, List.set_cons_zero, List.set_cons_succ] at hK
      have e0 := (hV0 _ _).1 (hI.know (hdep ⟨0, .data⟩ (by simp) rfl))
      simp only [e0] at hK
      refine wpOp_step rfl fun K' hK' => ?_
      go_simp
      exact hK' _ _ (hK _ _ (hI.quiet hRel hnd (by decide) hVm hSm (Below.refl _ _) ((hV1 _ _).2 rfl)))
    | 2, ho =>
      simp only [List.getElem?_cons_succ, List.getElem?_cons_zero, Option.some.injEq] at ho
      subst ho
      simp only [Act.put, List.setIfInBounds_toArray, List.set_cons_zero, List.set_cons_succ] at hK
      have e1 := (hV1 _ _).1 (hI.know (hdep ⟨1, .data⟩ (by simp) rfl))
      simp only [e1] at hK
      refine wpOp_step rfl fun K' hK' => ?_
      go_simp
      exact hK' _ _ (hK _ _ (hI.quiet hRel hnd (by decide) hVm hSm (Below.refl _ _) ((hV2 _ _).2 rfl)))
    | 3, ho =>
      simp only [List.getElem?_cons_succ, List.getElem?_cons_zero, Option.some.injEq] at ho
      subst ho
      simp only [Act.put, List.setIfInBounds_toArray, List.set_cons_zero, List.set_cons_succ] at hK
      have e2 := (hV2 _ _).1 (hI.know (hdep ⟨2, .data⟩ (by simp) rfl))
      simp only [e2] at hK
      refine wpOp_step rfl fun K' hK' => ?_
      go_simp
      exact hK' _ _ (hK _ _ (hI.quiet hRel hnd (by decide) hVm hSm (Below.refl _ _) ((hV3 _ _).2 rfl)))
    | 4, ho =>
      simp only [List.getElem?_cons_succ, List.getElem?_cons_zero, Option.some.injEq] at ho
      subst ho
      simp only [Act.put, List.setIfInBounds_toArray, List.set_cons_zero, List.set_cons_succ] at hK
      refine wpOp_step rfl fun K' hK' => ?_
      go_simp
      exact hK' _ _ (hK _ _ (hI.quiet hRel hnd (by decide) hVm hSm (Below.refl _ _) ((hV4 _ _).2 rfl)))
    | 5, ho =>
      simp only [List.getElem?_cons_succ, List.getElem?_cons_zero, Option.some.injEq] at ho
      subst ho
      simp only [Act.put, List.setIfInBounds_toArray, List.set_cons_zero, List.set_cons_succ] at hK
      have e4 := (hV4 _ _).1 (hI.know (hdep ⟨4, .data⟩ (by simp) rfl))
      simp only [e4] at hK
      refine wpOp_step rfl fun K' hK' => ?_
      go_simp
      exact hK' _ _ (hK _ _ (hI.quiet hRel hnd (by decide) hVm hSm (Below.refl _ _) ((hV5 _ _).2 rfl)))
    | 6, ho =>
      simp only [List.getElem?_cons_succ, List.getElem?_cons_zero, Option.some.injEq] at ho
      subst ho
      simp only [Act.put, List.setIfInBounds_toArray, List.set_cons_zero, List.set_cons_succ] at hK
      have e5 := (hV5 _ _).1 (hI.know (hdep ⟨5, .data⟩ (by simp) rfl))
      simp only [e5] at hK
      refine wpOp_step rfl fun K' hK' => ?_
      go_simp
      exact hK' _ _ (hK _ _ (hI.quiet hRel hnd (by decide) hVm hSm (Below.refl _ _) ((hV6 _ _).2 rfl)))
    | 7, ho =>
      simp only [List.getElem?_cons_succ, List.getElem?_cons_zero, Option.some.injEq] at ho
      subst ho
      simp only [Act.put, List.setIfInBounds_toArray, List.set_cons_zero, List.set_cons_succ] at hK
      have e6 := (hV6 _ _).1 (hI.know (hdep ⟨6, .data⟩ (by simp) rfl))
      simp only [e6] at hK
      refine wpOp_step rfl fun K' hK' => ?_
      go_simp
      exact hK' _ _ (hK _ _ (hI.quiet hRel hnd (by decide) hVm hSm (Below.refl _ _) ((hV7 _ _).2 rfl)))
    | 8, ho =>
      simp only [List.getElem?_cons_succ, List.getElem?_cons_zero, Option.some.injEq] at ho
      subst ho
      simp only [Act.put, List.setIfInBounds_toArray, List.set_cons_zero, List.set_cons_succ] at hK
      have e7 := (hV7 _ _).1 (hI.know (hdep ⟨7, .data⟩ (by simp) rfl))
      simp only [e7] at hK
      refine wpOp_step rfl fun K' hK' => ?_
      go_simp
      exact hK' _ _ (hK _ _ (hI.quiet hRel hnd (by decide) hVm hSm (Below.refl _ _) ((hV8 _ _).2 rfl)))
    | 9, ho =>
      simp only [List.getElem?_cons_succ, List.getElem?_cons_zero, Option.some.injEq] at ho
      subst ho
      simp only [Act.put, List.setIfInBounds_toArray, List.set_cons_zero, List.set_cons_succ] at hK
      have e3 := (hV3 _ _).1 (hI.know (hdep ⟨3, .data⟩ (by simp) rfl))
      have e8 := (hV8 _ _).1 (hI.know (hdep ⟨8, .data⟩ (by simp) rfl))
      simp only [e3, e8] at hK
      refine wpOp_step rfl fun K' hK' => ?_
      go_simp
      exact hK' _ _ (hK _ _ (hI.quiet hRel hnd (by decide) hVm hSm (Below.refl _ _) ((hV9 _ _).2 (by simp; omega))))
    | 10, ho =>
      simp only [List.getElem?_cons_succ, List.getElem?_cons_zero, Option.some.injEq] at ho
      subst ho
      simp only [Act.put, List.setIfInBounds_toArray, List.set_cons_zero, List.set_cons_succ] at hK
      have e9 := (hV9 _ _).1 (hI.know (hdep ⟨9, .data⟩ (by simp) rfl))
      simp only [e9] at hK
      refine wpOp_step rfl fun K' hK' => ?_
      go_simp
      exact hK' _ _ (hK _ _ (hI.quiet hRel hnd (by decide) hVm hSm (Below.refl _ _) ((hV10 _ _).2 rfl)))
    | 11, ho =>
      simp only [List.getElem?_cons_succ, List.getElem?_cons_zero, Option.some.injEq] at ho
      subst ho
      simp only [Act.put, List.setIfInBounds_toArray, List.set_cons_zero, List.set_cons_succ] at hK
      have e10 := (hV10 _ _).1 (hI.know (hdep ⟨10, .guard⟩ (by simp) rfl))
      simp only [e10] at hK
      refine wpOp_step rfl fun K' hK' => ?_
      go_simp
      exact hK' _ _ (hK _ _ (hI.quiet hRel hnd (by decide) hVm hSm (Below.refl _ _) ((hV11 _ _).2 rfl)))
    | 12, ho =>
      simp only [List.getElem?_cons_succ, List.getElem?_cons_zero, Option.some.injEq] at ho
      subst ho
      simp only [Act.put, List.setIfInBounds_toArray, List.set_cons_zero, List.set_cons_succ] at hK
      have e11 := (hV11 _ _).1 (hI.know (hdep ⟨11, .data⟩ (by simp) rfl))
      have e10 := (hV10 _ _).1 (hI.know (hdep ⟨10, .guard⟩ (by simp) rfl))
      simp only [e11, e10] at hK
      refine wpOp_step rfl fun K' hK' => ?_
      go_simp
      exact hK' _ _ (hK _ _ (hI.quiet hRel hnd (by decide) hVm hSm (Below.refl _ _) ((hV12 _ _).2 rfl)))
    | 13, ho =>
      simp only [List.getElem?_cons_succ, List.getElem?_cons_zero, Option.some.injEq] at ho
      subst ho
      simp only [Act.put, List.setIfInBounds_toArray, List.set_cons_zero, List.set_cons_succ] at hK
      have e12 := (hV12 _ _).1 (hI.know (hdep ⟨12, .data⟩ (by simp) rfl))
      have e10 := (hV10 _ _).1 (hI.know (hdep ⟨10, .guard⟩ (by simp) rfl))
      simp only [e12, e10] at hK
      refine wpOp_step rfl fun K' hK' => ?_
      go_simp
      exact hK' _ _ (hK _ _ (hI.quiet hRel hnd (by decide) hVm hSm (Below.refl _ _) ((hV13 _ _).2 rfl)))
    | 14, ho =>
      simp only [List.getElem?_cons_succ, List.getElem?_cons_zero, Option.some.injEq] at ho
      subst ho
      simp only [Act.put, List.setIfInBounds_toArray, List.set_cons_zero, List.set_cons_succ] at hK
      have e13 := (hV13 _ _).1 (hI.know (hdep ⟨13, .data⟩ (by simp) rfl))
      have e10 := (hV10 _ _).1 (hI.know (hdep ⟨10, .guard⟩ (by simp) rfl))
      simp only [e13, e10] at hK
      refine wpOp_step rfl fun K' hK' => ?_
      go_simp
      exact hK' _ _ (hK _ _ (hI.quiet hRel hnd (by decide) hVm hSm (Below.refl _ _) ((hV14 _ _).2 rfl)))
    | 15, ho =>
      simp only [List.getElem?_cons_succ, List.getElem?_cons_zero, Option.some.injEq] at ho
      subst ho
      simp only [Act.put, List.setIfInBounds_toArray, List.set_cons_zero, List.set_cons_succ] at hK
      have e10 := (hV10 _ _).1 (hI.know (hdep ⟨10, .guard⟩ (by simp) rfl))
      simp only [e10] at hK
      refine wpOp_step rfl fun K' hK' => ?_
      go_simp
      exact hK' _ _ (hK _ _ (hI.quiet hRel hnd (by decide) hVm hSm (Below.refl _ _) ((hV15 _ _).2 rfl)))
    | 16, ho =>
      simp only [List.getElem?_cons_succ, List.getElem?_cons_zero, Option.some.injEq] at ho
      subst ho
      simp only [Act.put, List.setIfInBounds_toArray, List.set_cons_zero, List.set_cons_succ] at hK
      have e15 := (hV15 _ _).1 (hI.know (hdep ⟨15, .data⟩ (by simp) rfl))
      have e10 := (hV10 _ _).1 (hI.know (hdep ⟨10, .guard⟩ (by simp) rfl))
      simp only [e15, e10] at hK
      refine wpOp_step rfl fun K' hK' => ?_
      go_simp
      exact hK' _ _ (hK _ _ (hI.quiet hRel hnd (by decide) hVm hSm (Below.refl _ _) ((hV16 _ _).2 rfl)))
    | 17, ho =>
      simp only [List.getElem?_cons_succ, List.getElem?_cons_zero, Option.some.injEq] at ho
      subst ho
      simp only [Act.put, List.setIfInBounds_toArray, List.set_cons_zero, List.set_cons_succ] at hK
      have e16 := (hV16 _ _).1 (hI.know (hdep ⟨16, .data⟩ (by simp) rfl))
      have e10 := (hV10 _ _).1 (hI.know (hdep ⟨10, .guard⟩ (by simp) rfl))
      simp only [e16, e10] at hK
      refine wpOp_step rfl fun K' hK' => ?_
      go_simp
      exact hK' _ _ (hK _ _ (hI.quiet hRel hnd (by decide) hVm hSm (Below.refl _ _) ((hV17 _ _).2 rfl)))
    | 18, ho =>
      simp only [List.getElem?_cons_succ, List.getElem?_cons_zero, Option.some.injEq] at ho
      subst ho
      simp only [Act.put, List.setIfInBounds_toArray, List.set_cons_zero, List.set_cons_succ] at hK
      have e17 := (hV17 _ _).1 (hI.know (hdep ⟨17, .data⟩ (by simp) rfl))
      have e10 := (hV10 _ _).1 (hI.know (hdep ⟨10, .guard⟩ (by simp) rfl))
      simp only [e17, e10] at hK
      refine wpOp_step rfl fun K' hK' => ?_
      go_simp
      exact hK' _ _ (hK _ _ (hI.quiet hRel hnd (by decide) hVm hSm (Below.refl _ _) ((hV18 _ _).2 rfl)))
    | 19, ho =>
      simp only [List.getElem?_cons_succ, List.getElem?_cons_zero, Option.some.injEq] at ho
      subst ho
      simp only [Act.put, List.setIfInBounds_toArray, List.set_cons_zero, List.set_cons_succ] at hK
      have e14 := (hV14 _ _).1 (hI.know (hdep ⟨14, .data⟩ (by simp) rfl))
      have e18 := (hV18 _ _).1 (hI.know (hdep ⟨18, .data⟩ (by simp) rfl))
      have e10 := (hV10 _ _).1 (hI.know (hdep ⟨10, .guard⟩ (by simp) rfl))
      simp only [e14, e18, e10] at hK
      refine wpOp_step rfl fun K' hK' => ?_
      go_simp
      exact hK' _ _ (hK _ _ (hI.quiet hRel hnd (by decide) hVm hSm (Below.refl _ _) ((hV19 _ _).2 rfl)))
    | 20, ho =>
      simp only [List.getElem?_cons_succ, List.getElem?_cons_zero, Option.some.injEq] at ho
      subst ho
      simp only [Act.put, List.setIfInBounds_toArray, List.set_cons_zero, List.set_cons_succ] at hK
      have e19 := (hV19 _ _).1 (hI.know (hdep ⟨19, .data⟩ (by simp) rfl))
      have e10 := (hV10 _ _).1 (hI.know (hdep ⟨10, .guard⟩ (by simp) rfl))
      simp only [e19, e10] at hK
      refine wpOp_step rfl fun K' hK' => ?_
      go_simp
      exact hK' _ _ (hK _ _ (hI.quiet hRel hnd (by decide) hVm hSm (Below.refl _ _) ((hV20 _ _).2 rfl)))
    | 21, ho =>
      simp only [List.getElem?_cons_succ, List.getElem?_cons_zero, Option.some.injEq] at ho
      subst ho
      simp only [Act.put, List.setIfInBounds_toArray, List.set_cons_zero, List.set_cons_succ] at hK
      have e20 := (hV20 _ _).1 (hI.know (hdep ⟨20, .data⟩ (by simp) rfl))
      have e10 := (hV10 _ _).1 (hI.know (hdep ⟨10, .guard⟩ (by simp) rfl))
      simp only [e20, e10] at hK
      refine wpOp_step rfl fun K' hK' => ?_
      go_simp
      refine (HRT.out wr nA nc (HST.out.below (HBW.out.trans (hI.1.mono HBW.out.size)))).mono ?_
      rintro e w2 ⟨rfl, hb2⟩
      exact hK' _ _ (hK _ _ (hI.quiet hRel hnd (by decide) hVm hSm hb2 ((hV21 _ _).2 rfl)))
    | 22, ho =>
      simp only [List.getElem?_cons_succ, List.getElem?_cons_zero, Option.some.injEq] at ho
      subst ho
      simp only [Act.put, List.setIfInBounds_toArray, List.set_cons_zero, List.set_cons_succ] at hK
      have e21 := (hV21 _ _).1 (hI.know (hdep ⟨21, .data⟩ (by simp) rfl))
      have e10 := (hV10 _ _).1 (hI.know (hdep ⟨10, .guard⟩ (by simp) rfl))
      simp only [e21, e10] at hK
      refine wpOp_step rfl fun K' hK' => ?_
      go_simp
      exact hK' _ _ (hK _ _ (hI.quiet hRel hnd (by decide) hVm hSm (Below.refl _ _) ((hV22 _ _).2 rfl)))
    | 23, ho =>
      simp only [List.getElem?_cons_succ, List.getElem?_cons_zero, Option.some.injEq] at ho
      subst ho
      simp only [Act.put, List.setIfInBounds_toArray, List.set_cons_zero, List.set_cons_succ] at hK
      have e10 := (hV10 _ _).1 (hI.know (hdep ⟨10, .data⟩ (by simp) rfl))
      have e22 := (hV22 _ _).1 (hI.know (hdep ⟨22, .data⟩ (by simp) rfl))
      simp only [e10, e22] at hK
      refine wpOp_step rfl fun K' hK' => ?_
      go_simp
      exact hK' _ _ (hK _ _ (hI.quiet hRel hnd (by decide) hVm hSm (Below.refl _ _) ((hV23 _ _).2 rfl)))
    | i + 24, ho => simp at ho
  case fin =>
    simp only [putAll, Act.put, List.setIfInBounds_toArray, List.set_cons_zero, List.set_cons_succ, Nat.reduceAdd, Nat.zero_add]
    intro done u wr hd hI
    simp only [List.length_cons, List.length_nil, Nat.reduceAdd, Nat.zero_add] at hd
    have hS := (hS0 _ _).1 (hI.end_ (fun c hc => hd c (by simp at hc)))
    have f23 := (hV23 _ _).1 (hI.know (hd 23 (by omega)))
    have hbr := hI.1
    have HWR := Lib.hid (HW.out.below hbr)
    have HSR := Lib.hid (HST.out.below hbr)
    have hrs := hbr.size
    obtain ⟨hcw, hfw⟩ := bcell hbr
    have d0 := (hcw K 0 hKl).trans c0
    have d1 := (hcw K 1 hKl).trans c1
    have d2 := (hcw K 2 hKl).trans c2
    have df := (hfw K 1 hKl).trans cf
    have dl : K < wr.heap.size := by omega
    have gl2 : g < wr.heap.size := by omega
    have m0 := (hcw g (at_ * 7) hgl).trans n0
    have m1 := (hcw g (at_ * 7 + 1) hgl).trans n1
    have m2 := (hcw g (at_ * 7 + 2) hgl).trans n2
    have m3 := (hcw g (at_ * 7 + 3) hgl).trans n3
    have m4 := (hcw g (at_ * 7 + 4) hgl).trans n4
    have m5 := (hcw g (at_ * 7 + 5) hgl).trans n5
    have m6 := (hcw g (at_ * 7 + 6) hgl).trans n6
    have hGR := Lib.hid (grownBy_of_below (row := some K) hbr (Nat.le_refl _))
    clear hcw hfw c0 c1 c2 cf cf2 n0 n1 n2 n3 n4 n5 n6
    simp only [f23]
    clear hI hd hS hV0 hV1 hV2 hV3 hV4 hV5 hV6 hV7 hV8 hV9 hV10 hV11 hV12 hV13 hV14 hV15 hV16 hV17 hV18 hV19 hV20 hV21 hV22 hV23 hVm hSm hS0 hRel f23 hbr
    go_wp2_with fail
    go_region
    all_goals go_wp2_with fail
    have hw1 := (HWR.out.next (by rw [← HL.out]; exact hlt)).below ((below_one _ (.cells #[.int .i64 6, .int .i64 aop, .int .i64 af, .int .i64 ag, .int .i64 n, .slice nA 0 nc, .string ⟨#[]⟩] 101)).drew)
    have hg1 := grownBy_then (grownBy_trans hGR.out (grownBy_setCell wr K 1 (.int .i64 (at_ + 1 : Nat)))) ((below_one _ (.cells #[.int .i64 6, .int .i64 aop, .int .i64 af, .int .i64 ag, .int .i64 n, .slice nA 0 nc, .string ⟨#[]⟩] 101)).drew)
    have hs1 : Std _ := HST.out.grown hg1 hK20
    refine (HFN.out _ K M g c nA nc hs1 hK20 hw1).mono ?_
    rintro e wf ⟨bA, bk, bc, rfl, hwf, hgf⟩
    have HGF := Lib.hid (grownBy_trans hg1 hgf)
    clear hg1
    have hsf : Std wf := HST.out.grown HGF.out hK20
    go_wp2_with fail
    have hx0 := Box.new wf 158 #[.int .i64 aop, .int .i64 af, .int .i64 ag, .int .i64 n, .slice bA bk bc]
    have hb0 := below_one wf (.cells #[.int .i64 aop, .int .i64 af, .int .i64 ag, .int .i64 n, .slice bA bk bc] 158)
    obtain ⟨W, hWe⟩ : ∃ W, W = wf.alloc (.cells #[.int .i64 aop, .int .i64 af, .int .i64 ag, .int .i64 n, .slice bA bk bc] 158) := ⟨_, rfl⟩
    rw [← hWe] at hx0 hb0 ⊢
    have HPW := Lib.hid (hwf.below hb0)
    have HGW := Lib.hid (grownBy_then HGF.out hb0)
    have HSW := Lib.hid (hsf.below hb0)
    have hKf := hwf.1.lt
    clear hWe hb0 hwf hgf hsf
    have hRel : Rels (fun w w' => w.grownBy w' (some K)) := rels_block K
    obtain ⟨V, hVe⟩ : ∃ V : Nat → Value → World → Prop, V = fun i v w' => match i with
        | 0 => v = .agg #[.int .i64 aop, .int .i64 af, .int .i64 ag, .int .i64 n, .slice bA bk bc]
        | 1 => v = .pointer (some ⟨K, 0, none⟩)
        | _ => True := ⟨_, rfl⟩
    have hVm : ∀ j v w1 w2, V j v w1 → (fun w w' => w.grownBy w' (some K)) w1 w2 → V j v w2 := by
      intro j v w1 w2 h hr
      subst hVe
      match j, h with
      | 0, h => exact h
      | 1, h => exact h
      | i + 2, _ => trivial
    have hV0 : ∀ v w', V 0 v w' ↔ v = .agg #[.int .i64 aop, .int .i64 af, .int .i64 ag, .int .i64 n, .slice bA bk bc] := fun _ _ => by subst hVe; rfl
    have hV1 : ∀ v w', V 1 v w' ↔ v = .pointer (some ⟨K, 0, none⟩) := fun _ _ => by subst hVe; rfl
    have hV2 : ∀ v w', V 2 v w' := fun _ _ => by subst hVe; trivial
    have hV3 : ∀ v w', V 3 v w' := fun _ _ => by subst hVe; trivial
    have hV4 : ∀ v w', V 4 v w' := fun _ _ => by subst hVe; trivial
    have hV5 : ∀ v w', V 5 v w' := fun _ _ => by subst hVe; trivial
    obtain ⟨St, hSe⟩ : ∃ St : Nat → (Nat → Value) → World → Prop, St = fun s u w' => match s with
        | 0 => WAt w' K M g c ns q wi ∧ W.grownBy w' (some K)
        | 1 => ∃ T x, u 2 = .iface T x ∧ WAt w' K M g c ns r wi ∧ W.grownBy w' (some K)
        | 2 => ∃ T x, u 3 = .agg #[.int .i64 aop, .int .i64 af, .int .i64 ag, .int .i64 n, .slice bA bk bc, .iface T x] ∧ WAt w' K M g c ns r wi ∧ W.grownBy w' (some K)
        | 3 => ∃ T x, u 4 = .iface 161 (.agg #[.int .i64 aop, .int .i64 af, .int .i64 ag, .int .i64 n, .slice bA bk bc, .iface T x]) ∧ WAt w' K M g c ns r wi ∧ W.grownBy w' (some K)
        | 4 => ∃ T x, u 5 = .iface 161 (.agg #[.int .i64 aop, .int .i64 af, .int .i64 ag, .int .i64 n, .slice bA bk bc, .iface T x]) ∧ WAt w' K M g c ns r wi ∧ W.grownBy w' (some K)
        | _ => False := ⟨_, rfl⟩
    have hSm : ∀ s u u' w1 w2, (∀ c ∈ [2, 3, 4, 5], u' c = u c) → St s u w1 → Below w1.heap.size w1 w2 → St s u' w2 := by
      intro s u u' w1 w2 hu h hb
      subst hSe
      match s, h with
      | 0, ⟨h1, h2⟩ => exact ⟨h1.below hb, grownBy_then h2 hb⟩
      | 1, ⟨T, x, e, h2, h3⟩ => exact ⟨T, x, by rw [hu 2 (by decide)]; exact e, h2.below hb, grownBy_then h3 hb⟩
      | 2, ⟨T, x, e, h2, h3⟩ => exact ⟨T, x, by rw [hu 3 (by decide)]; exact e, h2.below hb, grownBy_then h3 hb⟩
      | 3, ⟨T, x, e, h2, h3⟩ => exact ⟨T, x, by rw [hu 4 (by decide)]; exact e, h2.below hb, grownBy_then h3 hb⟩
      | 4, ⟨T, x, e, h2, h3⟩ => exact ⟨T, x, by rw [hu 5 (by decide)]; exact e, h2.below hb, grownBy_then h3 hb⟩
      | s + 5, h => exact h.elim
    have hS0 : ∀ u w', St 0 u w' ↔ (WAt w' K M g c ns q wi ∧ W.grownBy w' (some K)) := fun _ _ => by subst hSe; rfl
    have hS1 : ∀ u w', St 1 u w' ↔ (∃ T x, u 2 = .iface T x ∧ WAt w' K M g c ns r wi ∧ W.grownBy w' (some K)) := fun _ _ => by subst hSe; rfl
    have hS2 : ∀ u w', St 2 u w' ↔ (∃ T x, u 3 = .agg #[.int .i64 aop, .int .i64 af, .int .i64 ag, .int .i64 n, .slice bA bk bc, .iface T x] ∧ WAt w' K M g c ns r wi ∧ W.grownBy w' (some K)) := fun _ _ => by subst hSe; rfl
    have hS3 : ∀ u w', St 3 u w' ↔ (∃ T x, u 4 = .iface 161 (.agg #[.int .i64 aop, .int .i64 af, .int .i64 ag, .int .i64 n, .slice bA bk bc, .iface T x]) ∧ WAt w' K M g c ns r wi ∧ W.grownBy w' (some K)) := fun _ _ => by subst hSe; rfl
    have hS4 : ∀ u w', St 4 u w' ↔ (∃ T x, u 5 = .iface 161 (.agg #[.int .i64 aop, .int .i64 af, .int .i64 ag, .int .i64 n, .slice bA bk bc, .iface T x]) ∧ WAt w' K M g c ns r wi ∧ W.grownBy w' (some K)) := fun _ _ => by subst hSe; rfl
    clear hVe hSe
    refine wp_region_inv (ChainInv (fun w w' => w.grownBy w' (some K)) V [2, 3, 4, 5] St W) (by kernel_rfl) (by kernel_rfl) (by kernel_rfl) ?start ?step ?fin
    case start => exact fun u => ChainInv.start hRel (Below.refl _ _).drew ((hS0 _ _).2 (⟨HPW.out.drewN 1, grownBy_draws _ 1 _⟩))
    case step =>
      simp only [putAll, Act.put, List.setIfInBounds_toArray, List.set_cons_zero, List.set_cons_succ, Nat.reduceAdd, Nat.zero_add]
      intro i o ho done u wr hnd hdep hI K hK
      have hx := Box.grown hx0 hI.1 (by intro e; injection e; omega)
      obtain ⟨c0, c1, c2, c3, c4⟩ := hx.five
      match i, ho with
      | 0, ho =>
        simp only [List.getElem?_cons_zero, Option.some.injEq] at ho
        subst ho
        simp only [Act.put, List.setIfInBounds_toArray, List.set_cons_zero, List.set_cons_succ] at hK
        refine wpOp_step rfl fun K' hK' => ?_
        go_simp
        exact hK' _ _ (hK _ _ (hI.quiet hRel hnd (by decide) hVm hSm (Below.refl _ _) ((hV0 _ _).2 rfl)))
      | 1, ho =>
        simp only [List.getElem?_cons_succ, List.getElem?_cons_zero, Option.some.injEq] at ho
        subst ho
        simp only [Act.put, List.setIfInBounds_toArray, List.set_cons_zero, List.set_cons_succ] at hK
        refine wpOp_step rfl fun K' hK' => ?_
        go_simp
        exact hK' _ _ (hK _ _ (hI.quiet hRel hnd (by decide) hVm hSm (Below.refl _ _) ((hV1 _ _).2 rfl)))
      | 2, ho =>
        simp only [List.getElem?_cons_succ, List.getElem?_cons_zero, Option.some.injEq] at ho
        subst ho
        simp only [Act.put, List.setIfInBounds_toArray, List.set_cons_zero, List.set_cons_succ] at hK
        have e1 := (hV1 _ _).1 (hI.know (hdep ⟨1, .data⟩ (by simp) rfl))
        simp only [e1] at hK
        have hs := (hS0 _ _).1 (hI.at_ (k := 0) rfl hnd (.inl rfl))
        refine wpOp_step rfl fun K' hK' => ?_
        go_simp
        refine (HE.out _ _ M g c (HSW.out.grown hs.2 hK20) hK20 hs.1).mono ?_
        rintro e w5 ⟨T, x, rfl, hp5, hg5⟩
        exact hK' _ _ (hK _ _ (hI.step hRel (k := 0) rfl hnd (.inl rfl) (by decide) hVm (hg5) (hV2 _ _) ((hS1 _ _).2 (⟨T, x, by rw [upd_same], hp5, grownBy_trans hs.2 hg5⟩))))
      | 3, ho =>
        simp only [List.getElem?_cons_succ, List.getElem?_cons_zero, Option.some.injEq] at ho
        subst ho
        simp only [Act.put, List.setIfInBounds_toArray, List.set_cons_zero, List.set_cons_succ] at hK
        have e0 := (hV0 _ _).1 (hI.know (hdep ⟨0, .data⟩ (by simp) rfl))
        obtain ⟨T, x, eu, hp5, hg5⟩ := (hS1 _ _).1 (hI.at_ (k := 1) rfl hnd (.inr ⟨2, rfl, hdep ⟨2, .data⟩ (by simp) rfl⟩))
        simp only [e0, eu] at hK
        refine wpOp_step rfl fun K' hK' => ?_
        go_simp
        exact hK' _ _ (hK _ _ (hI.step hRel (k := 1) rfl hnd (.inr ⟨2, rfl, hdep ⟨2, .data⟩ (by simp) rfl⟩) (by decide) hVm (hRel.below (Below.refl _ _)) (hV3 _ _) ((hS2 _ _).2 (⟨T, x, by rw [upd_same], hp5, hg5⟩))))
      | 4, ho =>
        simp only [List.getElem?_cons_succ, List.getElem?_cons_zero, Option.some.injEq] at ho
        subst ho
        simp only [Act.put, List.setIfInBounds_toArray, List.set_cons_zero, List.set_cons_succ] at hK
        obtain ⟨T, x, eu, hp5, hg5⟩ := (hS2 _ _).1 (hI.at_ (k := 2) rfl hnd (.inr ⟨3, rfl, hdep ⟨3, .data⟩ (by simp) rfl⟩))
        simp only [eu] at hK
        refine wpOp_step rfl fun K' hK' => ?_
        go_simp
        exact hK' _ _ (hK _ _ (hI.step hRel (k := 2) rfl hnd (.inr ⟨3, rfl, hdep ⟨3, .data⟩ (by simp) rfl⟩) (by decide) hVm (hRel.below (Below.refl _ _)) (hV4 _ _) ((hS3 _ _).2 (⟨T, x, by rw [upd_same], hp5, hg5⟩))))
      | 5, ho =>
        simp only [List.getElem?_cons_succ, List.getElem?_cons_zero, Option.some.injEq] at ho
        subst ho
        simp only [Act.put, List.setIfInBounds_toArray, List.set_cons_zero, List.set_cons_succ] at hK
        obtain ⟨T, x, eu, hp5, hg5⟩ := (hS3 _ _).1 (hI.at_ (k := 3) rfl hnd (.inr ⟨4, rfl, hdep ⟨4, .data⟩ (by simp) rfl⟩))
        simp only [eu] at hK
        refine wpOp_step rfl fun K' hK' => ?_
        go_simp
        exact hK' _ _ (hK _ _ (hI.step hRel (k := 3) rfl hnd (.inr ⟨4, rfl, hdep ⟨4, .data⟩ (by simp) rfl⟩) (by decide) hVm (hRel.below (Below.refl _ _)) (hV5 _ _) ((hS4 _ _).2 (⟨T, x, by rw [upd_same], hp5, hg5⟩))))
      | i + 6, ho => simp at ho
    case fin =>
      simp only [putAll, Act.put, List.setIfInBounds_toArray, List.set_cons_zero, List.set_cons_succ, Nat.reduceAdd, Nat.zero_add]
      intro done u wr hd hI
      simp only [List.length_cons, List.length_nil, Nat.reduceAdd, Nat.zero_add] at hd
      have hS := (hS4 _ _).1 (hI.end_ (fun c hc => hd c (by simp at hc; omega)))
      obtain ⟨T, x, eu, hp5, hg5⟩ := hS
      simp only [eu]
      go_wp2_with fail
      go_ret
      exact ⟨_, _, rfl, hp5, grownBy_trans HGW.out hg5⟩


end Go.Proofs.YtihndbkaoejnnaaGreatDoor

namespace Go.Proofs.YtihndbkaoejnnaaGreatDoor
open Go Go.RowKit Go.Proofs.YtihndbkaoejnnaaGreatDoor.P


set_option maxRecDepth 100000 in
set_option maxHeartbeats 8000000 in
theorem w_two {ns : List Nd} {at_ wi : Nat} {aop af ag n : Int} {m q r : Nat} (hx : ns[at_]? = some ⟨7, aop, af, ag, n, [], ⟨#[]⟩⟩) (hr : RightNd ⟨7, aop, af, ag, n, [], ⟨#[]⟩⟩) (hL : WExpr ns (at_ + 1) wi m) (hF : WFnAt ns m wi q ⟨7, aop, af, ag, n, [], ⟨#[]⟩⟩) (hE : WExpr ns q wi r) : WExpr ns at_ wi (r) := by
  intro w K M g c hst hK20 h
  have HFN := Lib.hid hF
  have HE := Lib.hid hE
  have HLE := Lib.hid hL
  clear hL
  clear hF hE
  have hm := mixedZ
  have hlt : at_ < ns.length := (List.getElem?_eq_some_iff.1 hx).1
  have HW := Lib.hid h
  have HST := Lib.hid hst
  have HRT := Lib.hid hr
  obtain ⟨hbox, hMK, hnds, hal, hwi⟩ := h
  obtain ⟨nA, nc, n0, n1, n2, n3, n4, n5, n6, n7, n8⟩ := hnds.2.2.2.2.2 at_ _ hx
  have hgM := hnds.1
  have hMs := hnds.2.1
  have hL390 := hnds.2.2.2.2.1
  have hLc := hnds.2.2.1
  have hKl := hbox.lt
  have hgl : g < w.heap.size := by omega
  obtain ⟨c0, c1, c2⟩ := Box.three hbox
  have cf := Box.frozen hbox 1
  have cf2 := Box.frozen hbox 2
  obtain ⟨L, hL⟩ : ∃ L, L = ns.length := ⟨_, rfl⟩
  rw [← hL] at c0 hlt hal hL390 hLc
  have HL := Lib.hid hL
  have HN7 := Lib.hid n7
  have HBW := Lib.hid (Below.refl w.heap.size w)
  clear hbox hnds hst hr n7 n8 hL
  simp only [] at n0 n1 n2 n3 n4 n5 n6
  go_enter Tryz.func97, Tryz.ntmps97
  go_wp2_with fail
  have hRel : Rels (fun w w' => Below w.heap.size w w') := rels_below
  obtain ⟨V, hVe⟩ : ∃ V : Nat → Value → World → Prop, V = fun i v w' => match i with
      | 0 => v = .pointer (some ⟨K, 0, none⟩)
      | 1 => v = .pointer (some ⟨K, 0, none⟩)
      | 2 => v = .pointer (some ⟨K, 1, none⟩)
      | 3 => v = .int .i64 at_
      | 4 => v = .pointer (some ⟨K, 0, none⟩)
      | 5 => v = .pointer (some ⟨K, 0, none⟩)
      | 6 => v = .pointer (some ⟨K, 0, none⟩)
      | 7 => v = .slice (some ⟨g, 0, none⟩) L c
      | 8 => v = .int .i64 L
      | 9 => v = .bool false
      | 10 => v = .bool false
      | 11 => v = .pointer (some ⟨K, 0, none⟩)
      | 12 => v = .pointer (some ⟨K, 0, none⟩)
      | 13 => v = .pointer (some ⟨K, 0, none⟩)
      | 14 => v = .slice (some ⟨g, 0, none⟩) L c
      | 15 => v = .pointer (some ⟨K, 0, none⟩)
      | 16 => v = .pointer (some ⟨K, 0, none⟩)
      | 17 => v = .pointer (some ⟨K, 1, none⟩)
      | 18 => v = .int .i64 at_
      | 19 => v = .pointer (some ⟨g, at_ * 7, none⟩)
      | 20 => v = .agg #[.int .i64 7, .int .i64 aop, .int .i64 af, .int .i64 ag, .int .i64 n, .slice nA 0 nc, .string ⟨#[]⟩]
      | 21 => v = .bool true
      | 22 => v = .bool false
      | 23 => v = .bool false
      | _ => True := ⟨_, rfl⟩
  have hVm : ∀ j v w1 w2, V j v w1 → (fun w w' => Below w.heap.size w w') w1 w2 → V j v w2 := by
    intro j v w1 w2 h hr
    subst hVe
    match j, h with
    | 0, h => exact h
    | 1, h => exact h
    | 2, h => exact h
    | 3, h => exact h
    | 4, h => exact h
    | 5, h => exact h
    | 6, h => exact h
    | 7, h => exact h
    | 8, h => exact h
    | 9, h => exact h
    | 10, h => exact h
    | 11, h => exact h
    | 12, h => exact h
    | 13, h => exact h
    | 14, h => exact h
    | 15, h => exact h
    | 16, h => exact h
    | 17, h => exact h
    | 18, h => exact h
    | 19, h => exact h
    | 20, h => exact h
    | 21, h => exact h
    | 22, h => exact h
    | 23, h => exact h
    | i + 24, _ => trivial
  have hV0 : ∀ v w', V 0 v w' ↔ v = .pointer (some ⟨K, 0, none⟩) := fun _ _ => by subst hVe; rfl
  have hV1 : ∀ v w', V 1 v w' ↔ v = .pointer (some ⟨K, 0, none⟩) := fun _ _ => by subst hVe; rfl
  have hV2 : ∀ v w', V 2 v w' ↔ v = .pointer (some ⟨K, 1, none⟩) := fun _ _ => by subst hVe; rfl
  have hV3 : ∀ v w', V 3 v w' ↔ v = .int .i64 at_ := fun _ _ => by subst hVe; rfl
  have hV4 : ∀ v w', V 4 v w' ↔ v = .pointer (some ⟨K, 0, none⟩) := fun _ _ => by subst hVe; rfl
  have hV5 : ∀ v w', V 5 v w' ↔ v = .pointer (some ⟨K, 0, none⟩) := fun _ _ => by subst hVe; rfl
  have hV6 : ∀ v w', V 6 v w' ↔ v = .pointer (some ⟨K, 0, none⟩) := fun _ _ => by subst hVe; rfl
  have hV7 : ∀ v w', V 7 v w' ↔ v = .slice (some ⟨g, 0, none⟩) L c := fun _ _ => by subst hVe; rfl
  have hV8 : ∀ v w', V 8 v w' ↔ v = .int .i64 L := fun _ _ => by subst hVe; rfl
  have hV9 : ∀ v w', V 9 v w' ↔ v = .bool false := fun _ _ => by subst hVe; rfl
  have hV10 : ∀ v w', V 10 v w' ↔ v = .bool false := fun _ _ => by subst hVe; rfl
  have hV11 : ∀ v w', V 11 v w' ↔ v = .pointer (some ⟨K, 0, none⟩) := fun _ _ => by subst hVe; rfl
  have hV12 : ∀ v w', V 12 v w' ↔ v = .pointer (some ⟨K, 0, none⟩) := fun _ _ => by subst hVe; rfl
  have hV13 : ∀ v w', V 13 v w' ↔ v = .pointer (some ⟨K, 0, none⟩) := fun _ _ => by subst hVe; rfl
  have hV14 : ∀ v w', V 14 v w' ↔ v = .slice (some ⟨g, 0, none⟩) L c := fun _ _ => by subst hVe; rfl
  have hV15 : ∀ v w', V 15 v w' ↔ v = .pointer (some ⟨K, 0, none⟩) := fun _ _ => by subst hVe; rfl
  have hV16 : ∀ v w', V 16 v w' ↔ v = .pointer (some ⟨K, 0, none⟩) := fun _ _ => by subst hVe; rfl
  have hV17 : ∀ v w', V 17 v w' ↔ v = .pointer (some ⟨K, 1, none⟩) := fun _ _ => by subst hVe; rfl
  have hV18 : ∀ v w', V 18 v w' ↔ v = .int .i64 at_ := fun _ _ => by subst hVe; rfl
  have hV19 : ∀ v w', V 19 v w' ↔ v = .pointer (some ⟨g, at_ * 7, none⟩) := fun _ _ => by subst hVe; rfl
  have hV20 : ∀ v w', V 20 v w' ↔ v = .agg #[.int .i64 7, .int .i64 aop, .int .i64 af, .int .i64 ag, .int .i64 n, .slice nA 0 nc, .string ⟨#[]⟩] := fun _ _ => by subst hVe; rfl
  have hV21 : ∀ v w', V 21 v w' ↔ v = .bool true := fun _ _ => by subst hVe; rfl
  have hV22 : ∀ v w', V 22 v w' ↔ v = .bool false := fun _ _ => by subst hVe; rfl
  have hV23 : ∀ v w', V 23 v w' ↔ v = .bool false := fun _ _ => by subst hVe; rfl
  obtain ⟨St, hSe⟩ : ∃ St : Nat → (Nat → Value) → World → Prop, St = fun s u w' => match s with
      | 0 => True
      | _ => False := ⟨_, rfl⟩
  have hSm : ∀ s u u' w1 w2, (∀ c ∈ [], u' c = u c) → St s u w1 → Below w1.heap.size w1 w2 → St s u' w2 := by
    intro s u u' w1 w2 hu h hb
    subst hSe
    match s, h with
    | 0, h => trivial
    | s + 1, h => exact h.elim
  have hS0 : ∀ u w', St 0 u w' ↔ (True) := fun _ _ => by subst hSe; rfl
  clear hVe hSe
  refine wp_region_inv (ChainInv (fun w w' => Below w.heap.size w w') V [] St w) (by kernel_rfl) (by kernel_rfl) (by kernel_rfl) ?start ?step ?fin
  case start => exact fun u => ChainInv.start hRel (Below.refl _ _).drew ((hS0 _ _).2 (trivial))
  case step =>
    simp only [putAll, Act.put, List.setIfInBounds_toArray, List.set_cons_zero, List.set_cons_succ, Nat.reduceAdd, Nat.zero_add]
    intro i o ho done u wr hnd hdep hI K hK
    obtain ⟨hcw, hfw⟩ := bcell hI.1
    match i, ho with
    | 0, ho =>
      simp only [List.getElem?_cons_zero, Option.some.injEq] at ho
      subst ho
      simp only [Act.put, List.setIfInBounds_toArray, List.set_cons_zero, List.set_cons_succ] at hK
      refine wpOp_step rfl fun K' hK' => ?_
      go_simp
      exact hK' _ _ (hK _ _ (hI.quiet hRel hnd (by decide) hVm hSm (Below.refl _ _) ((hV0 _ _).2 rfl)))
    | 1, ho =>
      simp only [List.getElem?_cons_succ, List.getElem?_cons_zero, Option.some.injEq] at ho
      subst ho
      simp only [Act.put, List.setIfInBounds_toArray, List.set_cons_zero, List.set_cons_succ] at hK
      have e0 := (hV0 _ _).1 (hI.know (hdep ⟨0, .data⟩ (by simp) rfl))
      simp only [e0] at hK
      refine wpOp_step rfl fun K' hK' => ?_
      go_simp
      exact hK' _ _ (hK _ _ (hI.quiet hRel hnd (by decide) hVm hSm (Below.refl _ _) ((hV1 _ _).2 rfl)))
    | 2, ho =>
      simp only [List.getElem?_cons_succ, List.getElem?_cons_zero, Option.some.injEq] at ho
      subst ho
      simp only [Act.put, List.setIfInBounds_toArray, List.set_cons_zero, List.set_cons_succ] at hK
      have e1 := (hV1 _ _).1 (hI.know (hdep ⟨1, .data⟩ (by simp) rfl))
      simp only [e1] at hK
      refine wpOp_step rfl fun K' hK' => ?_
      go_simp
      exact hK' _ _ (hK _ _ (hI.quiet hRel hnd (by decide) hVm hSm (Below.refl _ _) ((hV2 _ _).2 rfl)))
    | 3, ho =>
      simp only [List.getElem?_cons_succ, List.getElem?_cons_zero, Option.some.injEq] at ho
      subst ho
      simp only [Act.put, List.setIfInBounds_toArray, List.set_cons_zero, List.set_cons_succ] at hK
      have e2 := (hV2 _ _).1 (hI.know (hdep ⟨2, .data⟩ (by simp) rfl))
      simp only [e2] at hK
      refine wpOp_step rfl fun K' hK' => ?_
      go_simp
      exact hK' _ _ (hK _ _ (hI.quiet hRel hnd (by decide) hVm hSm (Below.refl _ _) ((hV3 _ _).2 rfl)))
    | 4, ho =>
      simp only [List.getElem?_cons_succ, List.getElem?_cons_zero, Option.some.injEq] at ho
      subst ho
      simp only [Act.put, List.setIfInBounds_toArray, List.set_cons_zero, List.set_cons_succ] at hK
      refine wpOp_step rfl fun K' hK' => ?_
      go_simp
      exact hK' _ _ (hK _ _ (hI.quiet hRel hnd (by decide) hVm hSm (Below.refl _ _) ((hV4 _ _).2 rfl)))
    | 5, ho =>
      simp only [List.getElem?_cons_succ, List.getElem?_cons_zero, Option.some.injEq] at ho
      subst ho
      simp only [Act.put, List.setIfInBounds_toArray, List.set_cons_zero, List.set_cons_succ] at hK
      have e4 := (hV4 _ _).1 (hI.know (hdep ⟨4, .data⟩ (by simp) rfl))
      simp only [e4] at hK
      refine wpOp_step rfl fun K' hK' => ?_
      go_simp
      exact hK' _ _ (hK _ _ (hI.quiet hRel hnd (by decide) hVm hSm (Below.refl _ _) ((hV5 _ _).2 rfl)))
    | 6, ho =>
      simp only [List.getElem?_cons_succ, List.getElem?_cons_zero, Option.some.injEq] at ho
      subst ho
      simp only [Act.put, List.setIfInBounds_toArray, List.set_cons_zero, List.set_cons_succ] at hK
      have e5 := (hV5 _ _).1 (hI.know (hdep ⟨5, .data⟩ (by simp) rfl))
      simp only [e5] at hK
      refine wpOp_step rfl fun K' hK' => ?_
      go_simp
      exact hK' _ _ (hK _ _ (hI.quiet hRel hnd (by decide) hVm hSm (Below.refl _ _) ((hV6 _ _).2 rfl)))
    | 7, ho =>
      simp only [List.getElem?_cons_succ, List.getElem?_cons_zero, Option.some.injEq] at ho
      subst ho
      simp only [Act.put, List.setIfInBounds_toArray, List.set_cons_zero, List.set_cons_succ] at hK
      have e6 := (hV6 _ _).1 (hI.know (hdep ⟨6, .data⟩ (by simp) rfl))
      simp only [e6] at hK
      refine wpOp_step rfl fun K' hK' => ?_
      go_simp
      exact hK' _ _ (hK _ _ (hI.quiet hRel hnd (by decide) hVm hSm (Below.refl _ _) ((hV7 _ _).2 rfl)))
    | 8, ho =>
      simp only [List.getElem?_cons_succ, List.getElem?_cons_zero, Option.some.injEq] at ho
      subst ho
      simp only [Act.put, List.setIfInBounds_toArray, List.set_cons_zero, List.set_cons_succ] at hK
      have e7 := (hV7 _ _).1 (hI.know (hdep ⟨7, .data⟩ (by simp) rfl))
      simp only [e7] at hK
      refine wpOp_step rfl fun K' hK' => ?_
      go_simp
      exact hK' _ _ (hK _ _ (hI.quiet hRel hnd (by decide) hVm hSm (Below.refl _ _) ((hV8 _ _).2 rfl)))
    | 9, ho =>
      simp only [List.getElem?_cons_succ, List.getElem?_cons_zero, Option.some.injEq] at ho
      subst ho
      simp only [Act.put, List.setIfInBounds_toArray, List.set_cons_zero, List.set_cons_succ] at hK
      have e3 := (hV3 _ _).1 (hI.know (hdep ⟨3, .data⟩ (by simp) rfl))
      have e8 := (hV8 _ _).1 (hI.know (hdep ⟨8, .data⟩ (by simp) rfl))
      simp only [e3, e8] at hK
      refine wpOp_step rfl fun K' hK' => ?_
      go_simp
      exact hK' _ _ (hK _ _ (hI.quiet hRel hnd (by decide) hVm hSm (Below.refl _ _) ((hV9 _ _).2 (by simp; omega))))
    | 10, ho =>
      simp only [List.getElem?_cons_succ, List.getElem?_cons_zero, Option.some.injEq] at ho
      subst ho
      simp only [Act.put, List.setIfInBounds_toArray, List.set_cons_zero, List.set_cons_succ] at hK
      have e9 := (hV9 _ _).1 (hI.know (hdep ⟨9, .data⟩ (by simp) rfl))
      simp only [e9] at hK
      refine wpOp_step rfl fun K' hK' => ?_
      go_simp
      exact hK' _ _ (hK _ _ (hI.quiet hRel hnd (by decide) hVm hSm (Below.refl _ _) ((hV10 _ _).2 rfl)))
    | 11, ho =>
      simp only [List.getElem?_cons_succ, List.getElem?_cons_zero, Option.some.injEq] at ho
      subst ho
      simp only [Act.put, List.setIfInBounds_toArray, List.set_cons_zero, List.set_cons_succ] at hK
      have e10 := (hV10 _ _).1 (hI.know (hdep ⟨10, .guard⟩ (by simp) rfl))
      simp only [e10] at hK
      refine wpOp_step rfl fun K' hK' => ?_
      go_simp
      exact hK' _ _ (hK _ _ (hI.quiet hRel hnd (by decide) hVm hSm (Below.refl _ _) ((hV11 _ _).2 rfl)))
    | 12, ho =>
      simp only [List.getElem?_cons_succ, List.getElem?_cons_zero, Option.some.injEq] at ho
      subst ho
      simp only [Act.put, List.setIfInBounds_toArray, List.set_cons_zero, List.set_cons_succ] at hK
      have e11 := (hV11 _ _).1 (hI.know (hdep ⟨11, .data⟩ (by simp) rfl))
      have e10 := (hV10 _ _).1 (hI.know (hdep ⟨10, .guard⟩ (by simp) rfl))
      simp only [e11, e10] at hK
      refine wpOp_step rfl fun K' hK' => ?_
      go_simp
      exact hK' _ _ (hK _ _ (hI.quiet hRel hnd (by decide) hVm hSm (Below.refl _ _) ((hV12 _ _).2 rfl)))
    | 13, ho =>
      simp only [List.getElem?_cons_succ, List.getElem?_cons_zero, Option.some.injEq] at ho
      subst ho
      simp only [Act.put, List.setIfInBounds_toArray, List.set_cons_zero, List.set_cons_succ] at hK
      have e12 := (hV12 _ _).1 (hI.know (hdep ⟨12, .data⟩ (by simp) rfl))
      have e10 := (hV10 _ _).1 (hI.know (hdep ⟨10, .guard⟩ (by simp) rfl))
      simp only [e12, e10] at hK
      refine wpOp_step rfl fun K' hK' => ?_
      go_simp
      exact hK' _ _ (hK _ _ (hI.quiet hRel hnd (by decide) hVm hSm (Below.refl _ _) ((hV13 _ _).2 rfl)))
    | 14, ho =>
      simp only [List.getElem?_cons_succ, List.getElem?_cons_zero, Option.some.injEq] at ho
      subst ho
      simp only [Act.put, List.setIfInBounds_toArray, List.set_cons_zero, List.set_cons_succ] at hK
      have e13 := (hV13 _ _).1 (hI.know (hdep ⟨13, .data⟩ (by simp) rfl))
      have e10 := (hV10 _ _).1 (hI.know (hdep ⟨10, .guard⟩ (by simp) rfl))
      simp only [e13, e10] at hK
      refine wpOp_step rfl fun K' hK' => ?_
      go_simp
      exact hK' _ _ (hK _ _ (hI.quiet hRel hnd (by decide) hVm hSm (Below.refl _ _) ((hV14 _ _).2 rfl)))
    | 15, ho =>
      simp only [List.getElem?_cons_succ, List.getElem?_cons_zero, Option.some.injEq] at ho
      subst ho
      simp only [Act.put, List.setIfInBounds_toArray, List.set_cons_zero, List.set_cons_succ] at hK
      have e10 := (hV10 _ _).1 (hI.know (hdep ⟨10, .guard⟩ (by simp) rfl))
      simp only [e10] at hK
      refine wpOp_step rfl fun K' hK' => ?_
      go_simp
      exact hK' _ _ (hK _ _ (hI.quiet hRel hnd (by decide) hVm hSm (Below.refl _ _) ((hV15 _ _).2 rfl)))
    | 16, ho =>
      simp only [List.getElem?_cons_succ, List.getElem?_cons_zero, Option.some.injEq] at ho
      subst ho
      simp only [Act.put, List.setIfInBounds_toArray, List.set_cons_zero, List.set_cons_succ] at hK
      have e15 := (hV15 _ _).1 (hI.know (hdep ⟨15, .data⟩ (by simp) rfl))
      have e10 := (hV10 _ _).1 (hI.know (hdep ⟨10, .guard⟩ (by simp) rfl))
      simp only [e15, e10] at hK
      refine wpOp_step rfl fun K' hK' => ?_
      go_simp
      exact hK' _ _ (hK _ _ (hI.quiet hRel hnd (by decide) hVm hSm (Below.refl _ _) ((hV16 _ _).2 rfl)))
    | 17, ho =>
      simp only [List.getElem?_cons_succ, List.getElem?_cons_zero, Option.some.injEq] at ho
      subst ho
      simp only [Act.put, List.setIfInBounds_toArray, List.set_cons_zero, List.set_cons_succ] at hK
      have e16 := (hV16 _ _).1 (hI.know (hdep ⟨16, .data⟩ (by simp) rfl))
      have e10 := (hV10 _ _).1 (hI.know (hdep ⟨10, .guard⟩ (by simp) rfl))
      simp only [e16, e10] at hK
      refine wpOp_step rfl fun K' hK' => ?_
      go_simp
      exact hK' _ _ (hK _ _ (hI.quiet hRel hnd (by decide) hVm hSm (Below.refl _ _) ((hV17 _ _).2 rfl)))
    | 18, ho =>
      simp only [List.getElem?_cons_succ, List.getElem?_cons_zero, Option.some.injEq] at ho
      subst ho
      simp only [Act.put, List.setIfInBounds_toArray, List.set_cons_zero, List.set_cons_succ] at hK
      have e17 := (hV17 _ _).1 (hI.know (hdep ⟨17, .data⟩ (by simp) rfl))
      have e10 := (hV10 _ _).1 (hI.know (hdep ⟨10, .guard⟩ (by simp) rfl))
      simp only [e17, e10] at hK
      refine wpOp_step rfl fun K' hK' => ?_
      go_simp
      exact hK' _ _ (hK _ _ (hI.quiet hRel hnd (by decide) hVm hSm (Below.refl _ _) ((hV18 _ _).2 rfl)))
    | 19, ho =>
      simp only [List.getElem?_cons_succ, List.getElem?_cons_zero, Option.some.injEq] at ho
      subst ho
      simp only [Act.put, List.setIfInBounds_toArray, List.set_cons_zero, List.set_cons_succ] at hK
      have e14 := (hV14 _ _).1 (hI.know (hdep ⟨14, .data⟩ (by simp) rfl))
      have e18 := (hV18 _ _).1 (hI.know (hdep ⟨18, .data⟩ (by simp) rfl))
      have e10 := (hV10 _ _).1 (hI.know (hdep ⟨10, .guard⟩ (by simp) rfl))
      simp only [e14, e18, e10] at hK
      refine wpOp_step rfl fun K' hK' => ?_
      go_simp
      exact hK' _ _ (hK _ _ (hI.quiet hRel hnd (by decide) hVm hSm (Below.refl _ _) ((hV19 _ _).2 rfl)))
    | 20, ho =>
      simp only [List.getElem?_cons_succ, List.getElem?_cons_zero, Option.some.injEq] at ho
      subst ho
      simp only [Act.put, List.setIfInBounds_toArray, List.set_cons_zero, List.set_cons_succ] at hK
      have e19 := (hV19 _ _).1 (hI.know (hdep ⟨19, .data⟩ (by simp) rfl))
      have e10 := (hV10 _ _).1 (hI.know (hdep ⟨10, .guard⟩ (by simp) rfl))
      simp only [e19, e10] at hK
      refine wpOp_step rfl fun K' hK' => ?_
      go_simp
      exact hK' _ _ (hK _ _ (hI.quiet hRel hnd (by decide) hVm hSm (Below.refl _ _) ((hV20 _ _).2 rfl)))
    | 21, ho =>
      simp only [List.getElem?_cons_succ, List.getElem?_cons_zero, Option.some.injEq] at ho
      subst ho
      simp only [Act.put, List.setIfInBounds_toArray, List.set_cons_zero, List.set_cons_succ] at hK
      have e20 := (hV20 _ _).1 (hI.know (hdep ⟨20, .data⟩ (by simp) rfl))
      have e10 := (hV10 _ _).1 (hI.know (hdep ⟨10, .guard⟩ (by simp) rfl))
      simp only [e20, e10] at hK
      refine wpOp_step rfl fun K' hK' => ?_
      go_simp
      refine (HRT.out wr nA nc (HST.out.below (HBW.out.trans (hI.1.mono HBW.out.size)))).mono ?_
      rintro e w2 ⟨rfl, hb2⟩
      exact hK' _ _ (hK _ _ (hI.quiet hRel hnd (by decide) hVm hSm hb2 ((hV21 _ _).2 rfl)))
    | 22, ho =>
      simp only [List.getElem?_cons_succ, List.getElem?_cons_zero, Option.some.injEq] at ho
      subst ho
      simp only [Act.put, List.setIfInBounds_toArray, List.set_cons_zero, List.set_cons_succ] at hK
      have e21 := (hV21 _ _).1 (hI.know (hdep ⟨21, .data⟩ (by simp) rfl))
      have e10 := (hV10 _ _).1 (hI.know (hdep ⟨10, .guard⟩ (by simp) rfl))
      simp only [e21, e10] at hK
      refine wpOp_step rfl fun K' hK' => ?_
      go_simp
      exact hK' _ _ (hK _ _ (hI.quiet hRel hnd (by decide) hVm hSm (Below.refl _ _) ((hV22 _ _).2 rfl)))
    | 23, ho =>
      simp only [List.getElem?_cons_succ, List.getElem?_cons_zero, Option.some.injEq] at ho
      subst ho
      simp only [Act.put, List.setIfInBounds_toArray, List.set_cons_zero, List.set_cons_succ] at hK
      have e10 := (hV10 _ _).1 (hI.know (hdep ⟨10, .data⟩ (by simp) rfl))
      have e22 := (hV22 _ _).1 (hI.know (hdep ⟨22, .data⟩ (by simp) rfl))
      simp only [e10, e22] at hK
      refine wpOp_step rfl fun K' hK' => ?_
      go_simp
      exact hK' _ _ (hK _ _ (hI.quiet hRel hnd (by decide) hVm hSm (Below.refl _ _) ((hV23 _ _).2 rfl)))
    | i + 24, ho => simp at ho
  case fin =>
    simp only [putAll, Act.put, List.setIfInBounds_toArray, List.set_cons_zero, List.set_cons_succ, Nat.reduceAdd, Nat.zero_add]
    intro done u wr hd hI
    simp only [List.length_cons, List.length_nil, Nat.reduceAdd, Nat.zero_add] at hd
    have hS := (hS0 _ _).1 (hI.end_ (fun c hc => hd c (by simp at hc)))
    have f23 := (hV23 _ _).1 (hI.know (hd 23 (by omega)))
    have hbr := hI.1
    have HWR := Lib.hid (HW.out.below hbr)
    have HSR := Lib.hid (HST.out.below hbr)
    have hrs := hbr.size
    obtain ⟨hcw, hfw⟩ := bcell hbr
    have d0 := (hcw K 0 hKl).trans c0
    have d1 := (hcw K 1 hKl).trans c1
    have d2 := (hcw K 2 hKl).trans c2
    have df := (hfw K 1 hKl).trans cf
    have dl : K < wr.heap.size := by omega
    have gl2 : g < wr.heap.size := by omega
    have m0 := (hcw g (at_ * 7) hgl).trans n0
    have m1 := (hcw g (at_ * 7 + 1) hgl).trans n1
    have m2 := (hcw g (at_ * 7 + 2) hgl).trans n2
    have m3 := (hcw g (at_ * 7 + 3) hgl).trans n3
    have m4 := (hcw g (at_ * 7 + 4) hgl).trans n4
    have m5 := (hcw g (at_ * 7 + 5) hgl).trans n5
    have m6 := (hcw g (at_ * 7 + 6) hgl).trans n6
    have hGR := Lib.hid (grownBy_of_below (row := some K) hbr (Nat.le_refl _))
    clear hcw hfw c0 c1 c2 cf cf2 n0 n1 n2 n3 n4 n5 n6
    simp only [f23]
    clear hI hd hS hV0 hV1 hV2 hV3 hV4 hV5 hV6 hV7 hV8 hV9 hV10 hV11 hV12 hV13 hV14 hV15 hV16 hV17 hV18 hV19 hV20 hV21 hV22 hV23 hVm hSm hS0 hRel f23 hbr
    go_wp2_with fail
    go_region
    all_goals go_wp2_with fail
    have hw1 := (HWR.out.next (by rw [← HL.out]; exact hlt)).below ((below_one _ (.cells #[.int .i64 7, .int .i64 aop, .int .i64 af, .int .i64 ag, .int .i64 n, .slice nA 0 nc, .string ⟨#[]⟩] 101)).drew)
    have hg1 := grownBy_then (grownBy_trans hGR.out (grownBy_setCell wr K 1 (.int .i64 (at_ + 1 : Nat)))) ((below_one _ (.cells #[.int .i64 7, .int .i64 aop, .int .i64 af, .int .i64 ag, .int .i64 n, .slice nA 0 nc, .string ⟨#[]⟩] 101)).drew)
    have hs1 : Std _ := HST.out.grown hg1 hK20
    have hnb := (Box.new (wr.setCell ⟨K, 1, none⟩ (.int .i64 (at_ + 1 : Nat))) 101 #[.int .i64 7, .int .i64 aop, .int .i64 af, .int .i64 ag, .int .i64 n, .slice nA 0 nc, .string ⟨#[]⟩]).drew
    rw [show (wr.setCell ⟨K, 1, none⟩ (.int .i64 (at_ + 1 : Nat))).heap.size = wr.heap.size by simp] at hnb
    refine (HLE.out _ K M g c hs1 hK20 hw1).mono ?_
    rintro e wl ⟨lT, lx, rfl, hwl, hgl2⟩
    have HG2 := Lib.hid (grownBy_trans hg1 hgl2)
    have hs2 : Std _ := HST.out.grown HG2.out hK20
    have hnb2 := Box.grown hnb hgl2 (by intro e; injection e; omega)
    have o0 := hnb2.cell 0
    have o1 := hnb2.cell 1
    have o2 := hnb2.cell 2
    have o3 := hnb2.cell 3
    have o4 := hnb2.cell 4
    have o5 := hnb2.cell 5
    have o6 := hnb2.cell 6
    clear hnb hnb2 hw1 hg1 hs1 hgl2
    go_wp2_with fail
    refine (HFN.out _ K M g c nA nc hs2 hK20 hwl).mono ?_
    rintro e wf ⟨bA, bk, bc, rfl, hwf, hgf⟩
    have HGF := Lib.hid (grownBy_trans HG2.out hgf)
    have hsf : Std wf := HST.out.grown HGF.out hK20
    go_wp2_with fail
    have hx0 := Box.new wf 158 #[.int .i64 aop, .int .i64 af, .int .i64 ag, .int .i64 n, .slice bA bk bc]
    have hb0 := below_one wf (.cells #[.int .i64 aop, .int .i64 af, .int .i64 ag, .int .i64 n, .slice bA bk bc] 158)
    obtain ⟨W, hWe⟩ : ∃ W, W = wf.alloc (.cells #[.int .i64 aop, .int .i64 af, .int .i64 ag, .int .i64 n, .slice bA bk bc] 158) := ⟨_, rfl⟩
    rw [← hWe] at hx0 hb0 ⊢
    have HPW := Lib.hid (hwf.below hb0)
    have HGW := Lib.hid (grownBy_then HGF.out hb0)
    have HSW := Lib.hid (hsf.below hb0)
    have hKf := hwf.1.lt
    clear hWe hb0 hwf hgf hsf
    have hRel : Rels (fun w w' => w.grownBy w' (some K)) := rels_block K
    obtain ⟨V, hVe⟩ : ∃ V : Nat → Value → World → Prop, V = fun i v w' => match i with
        | 0 => v = .iface lT lx
        | 1 => v = .agg #[.int .i64 aop, .int .i64 af, .int .i64 ag, .int .i64 n, .slice bA bk bc]
        | 2 => v = .pointer (some ⟨K, 0, none⟩)
        | _ => True := ⟨_, rfl⟩
    have hVm : ∀ j v w1 w2, V j v w1 → (fun w w' => w.grownBy w' (some K)) w1 w2 → V j v w2 := by
      intro j v w1 w2 h hr
      subst hVe
      match j, h with
      | 0, h => exact h
      | 1, h => exact h
      | 2, h => exact h
      | i + 3, _ => trivial
    have hV0 : ∀ v w', V 0 v w' ↔ v = .iface lT lx := fun _ _ => by subst hVe; rfl
    have hV1 : ∀ v w', V 1 v w' ↔ v = .agg #[.int .i64 aop, .int .i64 af, .int .i64 ag, .int .i64 n, .slice bA bk bc] := fun _ _ => by subst hVe; rfl
    have hV2 : ∀ v w', V 2 v w' ↔ v = .pointer (some ⟨K, 0, none⟩) := fun _ _ => by subst hVe; rfl
    have hV3 : ∀ v w', V 3 v w' := fun _ _ => by subst hVe; trivial
    have hV4 : ∀ v w', V 4 v w' := fun _ _ => by subst hVe; trivial
    have hV5 : ∀ v w', V 5 v w' := fun _ _ => by subst hVe; trivial
    have hV6 : ∀ v w', V 6 v w' := fun _ _ => by subst hVe; trivial
    obtain ⟨St, hSe⟩ : ∃ St : Nat → (Nat → Value) → World → Prop, St = fun s u w' => match s with
        | 0 => WAt w' K M g c ns q wi ∧ W.grownBy w' (some K)
        | 1 => ∃ T x, u 3 = .iface T x ∧ WAt w' K M g c ns r wi ∧ W.grownBy w' (some K)
        | 2 => ∃ T x, u 4 = .agg #[.iface lT lx, .int .i64 aop, .int .i64 af, .int .i64 ag, .int .i64 n, .slice bA bk bc, .iface T x] ∧ WAt w' K M g c ns r wi ∧ W.grownBy w' (some K)
        | 3 => ∃ T x, u 5 = .iface 163 (.agg #[.iface lT lx, .int .i64 aop, .int .i64 af, .int .i64 ag, .int .i64 n, .slice bA bk bc, .iface T x]) ∧ WAt w' K M g c ns r wi ∧ W.grownBy w' (some K)
        | 4 => ∃ T x, u 6 = .iface 163 (.agg #[.iface lT lx, .int .i64 aop, .int .i64 af, .int .i64 ag, .int .i64 n, .slice bA bk bc, .iface T x]) ∧ WAt w' K M g c ns r wi ∧ W.grownBy w' (some K)
        | _ => False := ⟨_, rfl⟩
    have hSm : ∀ s u u' w1 w2, (∀ c ∈ [3, 4, 5, 6], u' c = u c) → St s u w1 → Below w1.heap.size w1 w2 → St s u' w2 := by
      intro s u u' w1 w2 hu h hb
      subst hSe
      match s, h with
      | 0, ⟨h1, h2⟩ => exact ⟨h1.below hb, grownBy_then h2 hb⟩
      | 1, ⟨T, x, e, h2, h3⟩ => exact ⟨T, x, by rw [hu 3 (by decide)]; exact e, h2.below hb, grownBy_then h3 hb⟩
      | 2, ⟨T, x, e, h2, h3⟩ => exact ⟨T, x, by rw [hu 4 (by decide)]; exact e, h2.below hb, grownBy_then h3 hb⟩
      | 3, ⟨T, x, e, h2, h3⟩ => exact ⟨T, x, by rw [hu 5 (by decide)]; exact e, h2.below hb, grownBy_then h3 hb⟩
      | 4, ⟨T, x, e, h2, h3⟩ => exact ⟨T, x, by rw [hu 6 (by decide)]; exact e, h2.below hb, grownBy_then h3 hb⟩
      | s + 5, h => exact h.elim
    have hS0 : ∀ u w', St 0 u w' ↔ (WAt w' K M g c ns q wi ∧ W.grownBy w' (some K)) := fun _ _ => by subst hSe; rfl
    have hS1 : ∀ u w', St 1 u w' ↔ (∃ T x, u 3 = .iface T x ∧ WAt w' K M g c ns r wi ∧ W.grownBy w' (some K)) := fun _ _ => by subst hSe; rfl
    have hS2 : ∀ u w', St 2 u w' ↔ (∃ T x, u 4 = .agg #[.iface lT lx, .int .i64 aop, .int .i64 af, .int .i64 ag, .int .i64 n, .slice bA bk bc, .iface T x] ∧ WAt w' K M g c ns r wi ∧ W.grownBy w' (some K)) := fun _ _ => by subst hSe; rfl
    have hS3 : ∀ u w', St 3 u w' ↔ (∃ T x, u 5 = .iface 163 (.agg #[.iface lT lx, .int .i64 aop, .int .i64 af, .int .i64 ag, .int .i64 n, .slice bA bk bc, .iface T x]) ∧ WAt w' K M g c ns r wi ∧ W.grownBy w' (some K)) := fun _ _ => by subst hSe; rfl
    have hS4 : ∀ u w', St 4 u w' ↔ (∃ T x, u 6 = .iface 163 (.agg #[.iface lT lx, .int .i64 aop, .int .i64 af, .int .i64 ag, .int .i64 n, .slice bA bk bc, .iface T x]) ∧ WAt w' K M g c ns r wi ∧ W.grownBy w' (some K)) := fun _ _ => by subst hSe; rfl
    clear hVe hSe
    refine wp_region_inv (ChainInv (fun w w' => w.grownBy w' (some K)) V [3, 4, 5, 6] St W) (by kernel_rfl) (by kernel_rfl) (by kernel_rfl) ?start ?step ?fin
    case start => exact fun u => ChainInv.start hRel (Below.refl _ _).drew ((hS0 _ _).2 (⟨HPW.out.drewN 1, grownBy_draws _ 1 _⟩))
    case step =>
      simp only [putAll, Act.put, List.setIfInBounds_toArray, List.set_cons_zero, List.set_cons_succ, Nat.reduceAdd, Nat.zero_add]
      intro i o ho done u wr hnd hdep hI K hK
      have hx := Box.grown hx0 hI.1 (by intro e; injection e; omega)
      obtain ⟨c0, c1, c2, c3, c4⟩ := hx.five
      match i, ho with
      | 0, ho =>
        simp only [List.getElem?_cons_zero, Option.some.injEq] at ho
        subst ho
        simp only [Act.put, List.setIfInBounds_toArray, List.set_cons_zero, List.set_cons_succ] at hK
        refine wpOp_step rfl fun K' hK' => ?_
        go_simp
        exact hK' _ _ (hK _ _ (hI.quiet hRel hnd (by decide) hVm hSm (Below.refl _ _) ((hV0 _ _).2 rfl)))
      | 1, ho =>
        simp only [List.getElem?_cons_succ, List.getElem?_cons_zero, Option.some.injEq] at ho
        subst ho
        simp only [Act.put, List.setIfInBounds_toArray, List.set_cons_zero, List.set_cons_succ] at hK
        refine wpOp_step rfl fun K' hK' => ?_
        go_simp
        exact hK' _ _ (hK _ _ (hI.quiet hRel hnd (by decide) hVm hSm (Below.refl _ _) ((hV1 _ _).2 rfl)))
      | 2, ho =>
        simp only [List.getElem?_cons_succ, List.getElem?_cons_zero, Option.some.injEq] at ho
        subst ho
        simp only [Act.put, List.setIfInBounds_toArray, List.set_cons_zero, List.set_cons_succ] at hK
        refine wpOp_step rfl fun K' hK' => ?_
        go_simp
        exact hK' _ _ (hK _ _ (hI.quiet hRel hnd (by decide) hVm hSm (Below.refl _ _) ((hV2 _ _).2 rfl)))
      | 3, ho =>
        simp only [List.getElem?_cons_succ, List.getElem?_cons_zero, Option.some.injEq] at ho
        subst ho
        simp only [Act.put, List.setIfInBounds_toArray, List.set_cons_zero, List.set_cons_succ] at hK
        have e2 := (hV2 _ _).1 (hI.know (hdep ⟨2, .data⟩ (by simp) rfl))
        simp only [e2] at hK
        have hs := (hS0 _ _).1 (hI.at_ (k := 0) rfl hnd (.inl rfl))
        refine wpOp_step rfl fun K' hK' => ?_
        go_simp
        refine (HE.out _ _ M g c (HSW.out.grown hs.2 hK20) hK20 hs.1).mono ?_
        rintro e w5 ⟨T, x, rfl, hp5, hg5⟩
        exact hK' _ _ (hK _ _ (hI.step hRel (k := 0) rfl hnd (.inl rfl) (by decide) hVm (hg5) (hV3 _ _) ((hS1 _ _).2 (⟨T, x, by rw [upd_same], hp5, grownBy_trans hs.2 hg5⟩))))
      | 4, ho =>
        simp only [List.getElem?_cons_succ, List.getElem?_cons_zero, Option.some.injEq] at ho
        subst ho
        simp only [Act.put, List.setIfInBounds_toArray, List.set_cons_zero, List.set_cons_succ] at hK
        have e0 := (hV0 _ _).1 (hI.know (hdep ⟨0, .data⟩ (by simp) rfl))
        have e1 := (hV1 _ _).1 (hI.know (hdep ⟨1, .data⟩ (by simp) rfl))
        obtain ⟨T, x, eu, hp5, hg5⟩ := (hS1 _ _).1 (hI.at_ (k := 1) rfl hnd (.inr ⟨3, rfl, hdep ⟨3, .data⟩ (by simp) rfl⟩))
        simp only [e0, e1, eu] at hK
        refine wpOp_step rfl fun K' hK' => ?_
        go_simp
        exact hK' _ _ (hK _ _ (hI.step hRel (k := 1) rfl hnd (.inr ⟨3, rfl, hdep ⟨3, .data⟩ (by simp) rfl⟩) (by decide) hVm (hRel.below (Below.refl _ _)) (hV4 _ _) ((hS2 _ _).2 (⟨T, x, by rw [upd_same], hp5, hg5⟩))))
      | 5, ho =>
        simp only [List.getElem?_cons_succ, List.getElem?_cons_zero, Option.some.injEq] at ho
        subst ho
        simp only [Act.put, List.setIfInBounds_toArray, List.set_cons_zero, List.set_cons_succ] at hK
        obtain ⟨T, x, eu, hp5, hg5⟩ := (hS2 _ _).1 (hI.at_ (k := 2) rfl hnd (.inr ⟨4, rfl, hdep ⟨4, .data⟩ (by simp) rfl⟩))
        simp only [eu] at hK
        refine wpOp_step rfl fun K' hK' => ?_
        go_simp
        exact hK' _ _ (hK _ _ (hI.step hRel (k := 2) rfl hnd (.inr ⟨4, rfl, hdep ⟨4, .data⟩ (by simp) rfl⟩) (by decide) hVm (hRel.below (Below.refl _ _)) (hV5 _ _) ((hS3 _ _).2 (⟨T, x, by rw [upd_same], hp5, hg5⟩))))
      | 6, ho =>
        simp only [List.getElem?_cons_succ, List.getElem?_cons_zero, Option.some.injEq] at ho
        subst ho
        simp only [Act.put, List.setIfInBounds_toArray, List.set_cons_zero, List.set_cons_succ] at hK
        obtain ⟨T, x, eu, hp5, hg5⟩ := (hS3 _ _).1 (hI.at_ (k := 3) rfl hnd (.inr ⟨5, rfl, hdep ⟨5, .data⟩ (by simp) rfl⟩))
        simp only [eu] at hK
        refine wpOp_step rfl fun K' hK' => ?_
        go_simp
        exact hK' _ _ (hK _ _ (hI.step hRel (k := 3) rfl hnd (.inr ⟨5, rfl, hdep ⟨5, .data⟩ (by simp) rfl⟩) (by decide) hVm (hRel.below (Below.refl _ _)) (hV6 _ _) ((hS4 _ _).2 (⟨T, x, by rw [upd_same], hp5, hg5⟩))))
      | i + 7, ho => simp at ho
    case fin =>
      simp only [putAll, Act.put, List.setIfInBounds_toArray, List.set_cons_zero, List.set_cons_succ, Nat.reduceAdd, Nat.zero_add]
      intro done u wr hd hI
      simp only [List.length_cons, List.length_nil, Nat.reduceAdd, Nat.zero_add] at hd
      have hS := (hS4 _ _).1 (hI.end_ (fun c hc => hd c (by simp at hc; omega)))
      obtain ⟨T, x, eu, hp5, hg5⟩ := hS
      simp only [eu]
      go_wp2_with fail
      go_ret
      exact ⟨_, _, rfl, hp5, grownBy_trans HGW.out hg5⟩


end Go.Proofs.YtihndbkaoejnnaaGreatDoor

namespace Go.Proofs.YtihndbkaoejnnaaGreatDoor
open Go Go.RowKit Go.Proofs.YtihndbkaoejnnaaGreatDoor.P

/-- Of each pair, the first waits for the second. -/
def Waits (E : List (Nat × Nat)) (done : Nat → Bool) : Prop := ∀ p ∈ E, done p.1 = true → done p.2 = true
theorem Waits.did {E : List (Nat × Nat)} {i : Nat} {done : Nat → Bool} (h : Waits E done) (hi : ∀ p ∈ E, i = p.1 → done p.2 = true) : Waits E (did done i) := by
  intro p hp e
  by_cases h1 : p.2 = i
  · rw [h1, did_same]
  · rw [did_other _ h1]
    by_cases h2 : p.1 = i
    · exact hi p hp h2.symm
    · rw [did_other _ h2] at e
      exact h p hp e


theorem cellsAt_box {w : World} {g : Nat} {t : TypeId} {u : Value} (h : Box w g t #[u]) : CellsAt w (some ⟨g, 0, none⟩) [u] := by
  intro j v hj
  match j, hj with
  | 0, hj =>
    simp at hj
    subst hj
    exact ⟨_, rfl, h.lt, h.cell 0⟩
  | j + 1, hj => simp at hj
theorem below_of_none {w w' : World} (h : w.grownBy w' (Value.slice none 0 0).ownBlock) : Below w.heap.size w w' := ⟨h.os, h.tape, h.output, h.size, fun k hk => h.block k hk (by simp [Value.ownBlock])⟩
theorem wat_away {w w' : World} {K M g c P : Nat} {ns : List Nd} {at_ wi : Nat} (h : WAt w K M g c ns at_ wi) (hg : w.grownBy w' (some P)) (hK : K < P) : WAt w' K M g c ns at_ wi :=
  ⟨h.1.grown hg (by intro e; injection e; omega), h.2.1, h.2.2.1.grown hg (by have := h.2.1; omega), h.2.2.2⟩


end Go.Proofs.YtihndbkaoejnnaaGreatDoor

namespace Go.Proofs.YtihndbkaoejnnaaGreatDoor
open Go Go.RowKit Go.Proofs.YtihndbkaoejnnaaGreatDoor.P

theorem ExKept.beside {P : Nat} {w w1 w2 : World} {row : Option Nat} (h : ExKept P w w1) (hg : w1.grownBy w2 row) (hr : ∀ k, row = some k → k ≤ P ∨ w.heap.size ≤ k) : ExKept P w w2 :=
  ⟨Nat.le_trans h.size hg.size, fun k hP hk => (hg.block k (Nat.lt_of_lt_of_le hk h.size) (fun e => by have := hr k e.symm; omega)).trans (h.block k hP hk)⟩
/-- An expression that stands since a world of its own, whose blocks lie above b. -/
def Stood (w : World) (b : Nat) (own : Option Nat) (x : Value) (ns : List Nd) : Prop := ∃ (wi : World) (T : Nat), IsExpr wi T x ns ∧ ExKept T wi w ∧ b ≤ T ∧ ∀ g, own = some g → g ≤ T ∨ wi.heap.size ≤ g
theorem Stood.beside {w w' : World} {b : Nat} {own row : Option Nat} {x : Value} {ns : List Nd} (h : Stood w b own x ns) (hg : w.grownBy w' row) (hr : ∀ k, row = some k → k ≤ b ∨ own = some k ∨ w.heap.size ≤ k) : Stood w' b own x ns := by
  obtain ⟨wi, T, h1, h2, h3, h4⟩ := h
  refine ⟨wi, T, h1, h2.beside hg fun k e => ?_, h3, h4⟩
  rcases hr k e with h | h | h
  · exact .inl (by omega)
  · exact h4 k h
  · exact .inr (Nat.le_trans h2.size h)
theorem Stood.own {w : World} {b : Nat} {own own' : Option Nat} {x : Value} {ns : List Nd} (h : Stood w b own x ns) (ho : own' = own ∨ ∀ g, own' = some g → w.heap.size ≤ g) : Stood w b own' x ns := by
  obtain ⟨wi, T, h1, h2, h3, h4⟩ := h
  refine ⟨wi, T, h1, h2, h3, fun g e => ?_⟩
  rcases ho with rfl | ho
  · exact h4 g e
  · exact .inr (Nat.le_trans h2.size (ho g e))
theorem Stood.here {w : World} {b : Nat} {own : Option Nat} {x : Value} {ns : List Nd} (h : Stood w b own x ns) {T : Nat} (hT : T ≤ b) : IsExpr w T x ns := by
  obtain ⟨wi, T', h1, h2, h3, -⟩ := h
  exact (h1.kept h2).low (by omega)
/-- A list of expressions under way. -/
structure ExList (w : World) (b B : Nat) (v : Value) (k : Nat) (us : List Value) (nss : List (List Nd)) : Prop where
  own : w.ownsRow B 93 1 v k us
  len : nss.length = k
  ulen : us.length = k
  each : ∀ (i : Nat) (x : Value) (ns : List Nd), us[i]? = some x → nss[i]? = some ns → Stood w b v.ownBlock x ns
theorem ExList.nil (w : World) (b B : Nat) : ExList w b B (.slice none 0 0) 0 [] [] := ⟨World.ownsRow_nil _ _ _ _, rfl, rfl, fun i x ns h => by simp at h⟩
theorem ExList.beside {w w' : World} {b B k : Nat} {v : Value} {us : List Value} {nss : List (List Nd)} {row : Option Nat} (h : ExList w b B v k us nss) (hg : w.grownBy w' row) (hr : ∀ j, row = some j → j ≤ b) (hb : b < B) : ExList w' b B v k us nss :=
  ⟨h.own.kept hg (by
    rcases hv : v.ownBlock with _ | j
    · exact .inl rfl
    · refine .inr fun e => ?_
      have h1 := (h.own.lt j hv).1
      have h2 := hr j e.symm
      omega), h.len, h.ulen, fun i x ns hx hn => (h.each i x ns hx hn).beside hg (fun j e => .inl (hr j e))⟩
theorem ExList.below {w w' : World} {b B k : Nat} {v : Value} {us : List Value} {nss : List (List Nd)} (h : ExList w b B v k us nss) (hb : Below w.heap.size w w') : ExList w' b B v k us nss :=
  ⟨ownsR_below h.own hb, h.len, h.ulen, fun i x ns hx hn => (h.each i x ns hx hn).beside (row := none) (grownBy_of_below hb (Nat.le_refl _)) (fun j e => by cases e)⟩
theorem ExList.snoc {w w' : World} {b B k c' : Nat} {v x : Value} {us : List Value} {nss : List (List Nd)} {ns : List Nd} {A' : Option Addr} (h : ExList w b B v k us nss) (ho : w'.ownsRow B 93 1 (.slice A' (k + 1) c') (k + 1) (us ++ [x])) (hg : w.grownBy w' v.ownBlock)
    (hat : (Value.slice A' (k + 1) c').ownBlock = v.ownBlock ∨ (Value.slice A' (k + 1) c').ownBlock = some w.heap.size) (hx : Stood w b v.ownBlock x ns) : ExList w' b B (.slice A' (k + 1) c') (k + 1) (us ++ [x]) (nss ++ [ns]) := by
  have key : ∀ (y : Value) (ms : List Nd), Stood w b v.ownBlock y ms → Stood w' b (Value.slice A' (k + 1) c').ownBlock y ms := fun y ms hy => by
    have h2 : Stood w b (Value.slice A' (k + 1) c').ownBlock y ms := hy.own (hat.imp id (fun e g e2 => by rw [e] at e2; injection e2; omega))
    obtain ⟨wi, T, h1, h3, h4, h5⟩ := hy
    obtain ⟨wi', T', g1, g3, g4, g5⟩ := h2
    refine ⟨wi, T, h1, h3.beside hg h5, h4, fun g e => ?_⟩
    rcases hat with hat | hat
    · exact h5 g (by rw [← hat]; exact e)
    · rw [hat] at e
      injection e with e
      have := h3.size
      omega
  refine ⟨ho, by simp [h.len], by simp [h.ulen], fun i y ms hy hn => ?_⟩
  rcases Nat.lt_or_ge i k with hi | hi
  · rw [List.getElem?_append_left (by rw [h.ulen]; exact hi)] at hy
    rw [List.getElem?_append_left (by rw [h.len]; exact hi)] at hn
    exact key y ms (h.each i y ms hy hn)
  · rw [List.getElem?_append_right (by rw [h.ulen]; exact hi)] at hy
    rw [List.getElem?_append_right (by rw [h.len]; exact hi)] at hn
    rw [h.ulen] at hy
    rw [h.len] at hn
    have e0 : i - k = 0 := by
      have := (List.getElem?_eq_some_iff.1 hy).1
      simp at this
      omega
    rw [e0] at hy hn
    simp at hy hn
    subst hy hn
    exact key x ns hx
theorem ExList.done {w : World} {b B k T : Nat} {v : Value} {us : List Value} {nss : List (List Nd)} (h : ExList w b B v k us nss) (hT : T ≤ b) (hB : b < B) (hk : k ≤ 400) : IsExprs w T v nss := by
  obtain ⟨A, c, e, h1, h2, h3, h4, h5⟩ := ownsR_form h.own
  refine ⟨A, c, us, by rw [e, h.len], by rw [h.len]; exact h1, h2, h3, by rw [h.ulen, h.len], by rw [h.len]; exact hk, h4, fun ad e2 => ?_, fun i x ns hx hn => (h.each i x ns hx hn).here hT⟩
  have h6 : ∃ j, v.ownBlock = some j ∧ ad.block = j := by
    rcases h.own.2 with ⟨hv, -⟩ | ⟨g, cap, cur, hv, -⟩
    · rw [hv] at e
      injection e with e
      rw [← e] at e2
      cases e2
    · rw [hv] at e
      injection e with e
      rw [← e] at e2
      injection e2 with e2
      exact ⟨g, by rw [hv]; rfl, by rw [← e2]⟩
  obtain ⟨j, h7, h8⟩ := h6
  have := h5 j h7
  omega

end Go.Proofs.YtihndbkaoejnnaaGreatDoor
