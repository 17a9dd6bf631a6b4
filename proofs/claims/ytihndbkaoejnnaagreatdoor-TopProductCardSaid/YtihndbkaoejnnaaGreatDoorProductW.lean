/- What the card TopProduct leans on: ParseWritten, WalkerDfn. Conditions: none but those of its theorems. -/
import Derived.Test.YtihndbkaoejnnaaGreatDoorProductU
import Derived.Test.YtihndbkaoejnnaaGreatDoorProductP
set_option linter.unusedSimpArgs false
set_option linter.unusedVariables false
namespace Go.Proofs.YtihndbkaoejnnaaGreatDoor
open Go Go.RowKit Go.Proofs.YtihndbkaoejnnaaGreatDoor.P

/-- Whatever is none of these three boxes stays. -/
def ExRel (P b : Nat) (own : Option Nat) (w w' : World) : Prop := w.heap.size ≤ w'.heap.size ∧ ∀ (k : Nat) (cs : Array Value) (t : TypeId), k ≠ P → k ≠ b → (∀ j, own = some j → k ≠ j) → Box w k t cs → Box w' k t cs
theorem exRels (P b : Nat) (own : Option Nat) : Rels (ExRel P b own) := ⟨fun hb => ⟨hb.size, fun k cs t _ _ _ h => h.below hb⟩, fun h h2 => ⟨Nat.le_trans h.1 h2.1, fun k cs t h3 h4 h5 hx => h2.2 k cs t h3 h4 h5 (h.2 k cs t h3 h4 h5 hx)⟩⟩
theorem exRel_one {P b : Nat} {own : Option Nat} {w w' : World} (h : w.grownBy w' (some P)) : ExRel P b own w w' := ⟨h.size, fun k cs t hk _ _ hx => hx.grown h (fun e => hk (by injection e with e; exact e.symm))⟩
theorem exRel_two {P b : Nat} {own : Option Nat} {w w' : World} (h : w.grownBy w' (some b)) : ExRel P b own w w' := ⟨h.size, fun k cs t _ hk _ hx => hx.grown h (fun e => hk (by injection e with e; exact e.symm))⟩
theorem exRel_own {P b : Nat} {own : Option Nat} {w w' : World} (h : w.grownBy w' own) : ExRel P b own w w' := ⟨h.size, fun k cs t _ _ hk hx => hx.grown h (fun e => hk k e rfl)⟩
theorem pat_row {w w' : World} {P g c : Nat} {toks : List Tok} {at_ wi : Nat} {row : Option Nat} (h : PAt w P g c toks at_ wi) (hg : w.grownBy w' row) (h1 : row ≠ some P) (h2 : row ≠ some g) : PAt w' P g c toks at_ wi :=
  ⟨h.1.grown hg h1, h.2.1, h.2.2.1, h.2.2.2.1, h.2.2.2.2.1, h.2.2.2.2.2.1, h.2.2.2.2.2.2.1, fun i t ht => by
    obtain ⟨h0, h1', h2', h3, h4⟩ := h.2.2.2.2.2.2.2 i t ht
    have k : ∀ j v, w.cell? ⟨g, j, none⟩ = some v → w'.cell? ⟨g, j, none⟩ = some v := fun j v hc => hg.cell hc (fun e => h2 (by rw [e]))
    exact ⟨k _ _ h0, k _ _ h1', k _ _ h2', k _ _ h3, k _ _ h4⟩⟩

set_option maxRecDepth 100000 in
set_option maxHeartbeats 4000000 in
/-- What is done when it is left: one deep less. -/
theorem less_any {w : World} {P g c B : Nat} {toks : List Tok} {at_ wi : Nat} (h : PAt w P g c toks at_ (wi + 1)) (hb : Box w B 89 #[.pointer (some ⟨P, 0, none⟩)]) (hwi : wi ≤ 99) :
    CallsD Tryz.prog 137 #[.pointer (some ⟨B, 0, none⟩)] .returning w fun e u' w' => u' = .returning ∧ (e = .returned (.tuple #[]) ∧ PAt w' P g c toks at_ wi ∧ w.grownBy w' (some P)) := by
  obtain ⟨c0, c1, c2⟩ := Box.three h.1
  have fz := Box.frozen h.1 2
  have hPl := h.1.lt
  have d0 := hb.one
  have dl := hb.lt
  have HP := Lib.hid h
  have hst : Box (w.setCell ⟨P, 2, none⟩ (.int .i64 (wi : Nat))) P 91 #[.slice (some ⟨g, 0, none⟩) toks.length c, .int .i64 at_, .int .i64 wi] := by simpa using h.1.store 2 (.int .i64 (wi : Nat))
  have HS := Lib.hid hst
  clear h hb hst
  refine callsD_of_wp Tryz.func137 rfl ?_
  simp only [Tryz.ntmps137, Array.replicate, List.replicate, List.append_toArray, List.cons_append, List.nil_append]
  go_wp2_with fail
  simp [bodyPost, results, Tryz.results137, go_sem]
  exact ⟨HP.out.move (grownBy_setCell _ _ _ _) HS.out HP.out.2.2.2.2.2.1 (by omega), grownBy_setCell _ _ _ _⟩

set_option maxRecDepth 100000 in
set_option maxHeartbeats 16000000 in
theorem written_any {toks : List Tok} {at_ wi m0 m1 m2 : Nat} {n0 n1 n2 : List Nd} {t0 tc td te : Tok} (ht0 : toks[at_]? = some t0) (hk0 : t0.k = 14) (hE0 : ExprAt toks (at_ + 1) (wi + 1) m0 n0) (htc : toks[m0]? = some tc) (hkc : tc.k = 16) (hE1 : ExprAt toks (m0 + 1) (wi + 1) m1 n1) (htd : toks[m1]? = some td) (hkd : td.k = 17)
    (hE2 : ExprAt toks (m1 + 1) (wi + 1) m2 n2) (hte : toks[m2]? = some te) (hke : te.k = 15) (hwi : wi ≤ 90) (hlt : at_ < m1) (w : World) (P g c : Nat) (h : PAt w P g c toks at_ wi) :
    Calls Tryz.prog 116 #[.pointer (some ⟨P, 0, none⟩)] w (FnPost 6 0 0 1 [n0, n1, n2] P g c toks (m2 + 1) wi w) := by
  have hmf : ∀ (fn : Fn) (first cap : Array Value) (w : World), (Instr.makeFunc fn first cap).run Tryz.prog w = .ok (.func fn first cap) w := fun _ _ _ _ => rfl
  have hm := mixedZ
  have hlc : m0 < toks.length := (List.getElem?_eq_some_iff.1 htc).1
  have hPl := h.1.lt
  have ha199 : m0 ≤ 199 := by have := h.2.2.2.2.1; omega
  have HE0 := Lib.hid hE0
  have HE1 := Lib.hid hE1
  have HE2 := Lib.hid hE2
  have HN1 := Lib.hid (fun (W : World) (hW : PAt W P g c toks at_ wi) => need_ok hW ht0 hk0)
  have HN2 := Lib.hid (fun (W : World) (hW : PAt W P g c toks m1 (wi + 1)) => need_ok hW htd hkd)
  have HN3 := Lib.hid (fun (W : World) (hW : PAt W P g c toks m2 (wi + 1)) => need_ok hW hte hke)
  have HK0 := Lib.hid (fun (W : World) (hW : PAt W P g c toks m0 (wi + 1)) => by have := kind_any hW; rw [(kindAt_some htc).trans hkc] at this; exact this)
  have HK2 := Lib.hid (fun (W : World) (hW : PAt W P g c toks m2 (wi + 1)) => by have := kind_any hW; rw [(kindAt_some hte).trans hke] at this; exact this)
  have hb2 := below_two w (.cells #[.pointer (some ⟨P, 0, none⟩)] 89) (.cells zeroFn 158)
  have HP := Lib.hid (h.below hb2)
  have x1 := (Box.new w 89 #[.pointer (some ⟨P, 0, none⟩)]).alloc (.cells zeroFn 158)
  have x2 := Box.new (w.alloc (.cells #[.pointer (some ⟨P, 0, none⟩)] 89)) 158 zeroFn
  rw [World.size_alloc] at x2
  have HB2W := Lib.hid hb2
  have X1 := Lib.hid x1
  have X2 := Lib.hid x2
  clear h ht0 hk0 hE0 htc hkc hE1 htd hkd hE2 hte hke hb2 x1 x2
  go_enter_defers Tryz.func116, Tryz.ntmps116
  go_wp2_with fail
  refine (HN1.out _ HP.out).mono ?_
  rintro e w1 ⟨rfl, hp1, hg1⟩
  have y1 := X1.out.grown hg1 (by intro e; injection e; omega)
  have y2 := X2.out.grown hg1 (by intro e; injection e; omega)
  have hw1 := grownBy_trans (grownBy_of_below (row := some P) HB2W.out (Nat.le_refl _)) hg1
  obtain ⟨e0, e1, e2⟩ := Box.three hp1.1
  have ef := Box.frozen hp1.1 2
  have el := hp1.1.lt
  have d1 := y1.one
  have dl1 := y1.lt
  have hs1 := y2.lt
  clear hg1
  go_wp2_with fail
  have hgs := grownBy_setCell w1 P 2 (.int .i64 ((wi + 1 : Nat) : Int))
  have hps : PAt (w1.setCell ⟨P, 2, none⟩ (.int .i64 ((wi + 1 : Nat) : Int))) P g c toks (at_ + 1) (wi + 1) := hp1.move hgs (by simpa using hp1.1.store 2 (.int .i64 ((wi + 1 : Nat) : Int))) hp1.2.2.2.2.2.1 (by omega)
  have hba := below_one (w1.setCell ⟨P, 2, none⟩ (.int .i64 ((wi + 1 : Nat) : Int))) (.cells #[.int .i64 6, .int .i64 0, .int .i64 0, .int .i64 0, .slice none 0 0] 158)
  have hxb := Box.new (w1.setCell ⟨P, 2, none⟩ (.int .i64 ((wi + 1 : Nat) : Int))) 158 #[.int .i64 6, .int .i64 0, .int .i64 0, .int .i64 0, .slice none 0 0]
  obtain ⟨W, hW⟩ : ∃ W, W = (w1.setCell ⟨P, 2, none⟩ (.int .i64 ((wi + 1 : Nat) : Int))).alloc (.cells #[.int .i64 6, .int .i64 0, .int .i64 0, .int .i64 0, .slice none 0 0] 158) := ⟨_, rfl⟩
  have hz : (w1.setCell ⟨P, 2, none⟩ (.int .i64 ((wi + 1 : Nat) : Int))).heap.size = w1.heap.size := by simp
  rw [← hW] at hba hxb
  rw [hz] at hba hxb
  obtain ⟨b, hb⟩ : ∃ b, b = w1.heap.size := ⟨_, rfl⟩
  have hPW : PAt W P g c toks (at_ + 1) (wi + 1) := hps.below (by rw [hz]; exact hba)
  have hGW : w.grownBy W (some P) := grownBy_then (grownBy_trans hw1 hgs) (by rw [hz]; exact hba)
  have HPW := Lib.hid hPW
  have HGW := Lib.hid hGW
  have HB1 := Lib.hid ((y1.grown hgs (by intro e; injection e; omega)).below (by rw [hz]; exact hba))
  have HB2 := Lib.hid ((y2.grown hgs (by intro e; injection e; omega)).below (by rw [hz]; exact hba))
  rw [← hb] at hxb
  have HFB := Lib.hid hxb
  have HLS := Lib.hid (ExList.nil W b (b + 1))
  have hPM := hPW.pAtIn
  have hbP : w.heap.size + 2 ≤ b := by omega
  try rw [show (((wi : Nat) : Int) + 1) = ((wi + 1 : Nat) : Int) by simp]
  rw [← hW]
  try rw [← hb]
  clear hW hgs hps hba hxb hz hPW hGW hb e0 e1 e2 ef el d1 dl1 hs1 hw1 y1 y2 hp1
  go_loopw [16] (fun _ wr => ((wr = W) ∨ (∃ lA lc x0 x1, PAt wr P g c toks (m1 + 1) (wi + 1) ∧ Box wr b 158 #[.int .i64 6, .int .i64 0, .int .i64 0, .int .i64 1, .slice lA 2 lc] ∧ ExList wr b (b + 1) (.slice lA 2 lc) 2 (([] ++ [x0]) ++ [x1]) (([] ++ [n0]) ++ [n1]) ∧ w.grownBy wr (some P) ∧ Box wr w.heap.size 89 #[.pointer (some ⟨P, 0, none⟩)] ∧ Box wr (w.heap.size + 1) 158 zeroFn))) (fun _ wr => m1 + 1 - pAtIn wr P)
  case atStart => exact .inl rfl
  case round =>
    rcases hrel with hrW | ⟨lA, lc, x0, x1, hp, hfb, hls, hg, hb1, hb2⟩
    · have hrW2 := hrW.symm
      clear hrW
      subst hrW2
      have HPM := Lib.hid hPM
      clear hPM
      go_wp2_with fail
      have hown1 : ∀ j, (Value.slice none 0 0).ownBlock = some j → w.heap.size ≠ j := fun j e => by have := (HLS.out.own.lt j e).1; omega
      have hown2 : ∀ j, (Value.slice none 0 0).ownBlock = some j → w.heap.size + 1 ≠ j := fun j e => by have := (HLS.out.own.lt j e).1; omega
      have hRel : Rels (ExRel P b (Value.slice none 0 0).ownBlock) := exRels P b _
      obtain ⟨V, hVe⟩ : ∃ V : Nat → Value → World → Prop, V = fun i v w' => match i with
          | 0 => v = .pointer (some ⟨b, 4, none⟩)
          | 1 => v = .slice none 0 0
          | 2 => v = .pointer (some ⟨P, 0, none⟩)
          | 6 => v = .pointer (some ⟨b, 4, none⟩)
          | _ => True := ⟨_, rfl⟩
      have hVm : ∀ j v w1 w2, V j v w1 → (ExRel P b (Value.slice none 0 0).ownBlock) w1 w2 → V j v w2 := by
        intro j v w1 w2 h hr
        subst hVe
        match j, h with
        | 0, h => exact h
        | 1, h => exact h
        | 2, h => exact h
        | 3, _ => trivial
        | 4, _ => trivial
        | 5, _ => trivial
        | 6, h => exact h
        | i + 7, _ => trivial
      have hV0 : ∀ v w', V 0 v w' ↔ v = .pointer (some ⟨b, 4, none⟩) := fun _ _ => by subst hVe; rfl
      have hV1 : ∀ v w', V 1 v w' ↔ v = .slice none 0 0 := fun _ _ => by subst hVe; rfl
      have hV2 : ∀ v w', V 2 v w' ↔ v = .pointer (some ⟨P, 0, none⟩) := fun _ _ => by subst hVe; rfl
      have hV6 : ∀ v w', V 6 v w' ↔ v = .pointer (some ⟨b, 4, none⟩) := fun _ _ => by subst hVe; rfl
      have hV3 : ∀ v w', V 3 v w' := fun _ _ => by subst hVe; trivial
      have hV4 : ∀ v w', V 4 v w' := fun _ _ => by subst hVe; trivial
      have hV5 : ∀ v w', V 5 v w' := fun _ _ => by subst hVe; trivial
      have hV7 : ∀ v w', V 7 v w' := fun _ _ => by subst hVe; trivial
      obtain ⟨St, hSe⟩ : ∃ St : Nat → (Nat → Value) → World → Prop, St = fun s u w' => match s with
          | 0 => PAt w' P g c toks (at_ + 1) (wi + 1) ∧ Box w' b 158 #[.int .i64 6, .int .i64 0, .int .i64 0, .int .i64 0, .slice none 0 0] ∧ ExList w' b (b + 1) (.slice none 0 0) 0 [] [] ∧ w.grownBy w' (some P)
          | 1 => PAt w' P g c toks m0 (wi + 1) ∧ Box w' b 158 #[.int .i64 6, .int .i64 0, .int .i64 0, .int .i64 0, .slice none 0 0] ∧ ExList w' b (b + 1) (.slice none 0 0) 0 [] [] ∧ w.grownBy w' (some P) ∧ ∃ T x, u 3 = .iface T x ∧ Stood w' b (Value.slice none 0 0).ownBlock (.iface T x) n0
          | 2 => PAt w' P g c toks m0 (wi + 1) ∧ Box w' b 158 #[.int .i64 6, .int .i64 0, .int .i64 0, .int .i64 0, .slice none 0 0] ∧ ExList w' b (b + 1) (.slice none 0 0) 0 [] [] ∧ w.grownBy w' (some P) ∧ ∃ T x g4, u 4 = .slice (some ⟨g4, 0, none⟩) 1 1 ∧ Box w' g4 93 #[.iface T x] ∧ Stood w' b (Value.slice none 0 0).ownBlock (.iface T x) n0
          | 3 => PAt w' P g c toks m0 (wi + 1) ∧ Box w' b 158 #[.int .i64 6, .int .i64 0, .int .i64 0, .int .i64 0, .slice none 0 0] ∧ w.grownBy w' (some P) ∧ ∃ A5 c5 x, u 5 = .slice A5 1 c5 ∧ ExList w' b (b + 1) (.slice A5 1 c5) 1 ([] ++ [x]) ([] ++ [n0])
          | 4 => PAt w' P g c toks m0 (wi + 1) ∧ w.grownBy w' (some P) ∧ ∃ A5 c5 x, Box w' b 158 #[.int .i64 6, .int .i64 0, .int .i64 0, .int .i64 0, .slice A5 1 c5] ∧ ExList w' b (b + 1) (.slice A5 1 c5) 1 ([] ++ [x]) ([] ++ [n0])
          | _ => False := ⟨_, rfl⟩
      have hSm : ∀ s u u' w1 w2, (∀ c ∈ [3, 4, 5, 7], u' c = u c) → St s u w1 → Below w1.heap.size w1 w2 → St s u' w2 := by
        intro s u u' w1 w2 hu h hb
        subst hSe
        match s, h with
        | 0, ⟨h1, h2, h3, h4⟩ => exact ⟨h1.below hb, h2.below hb, h3.below hb, grownBy_then h4 hb⟩
        | 1, ⟨h1, h2, h3, h4, T, x, e, h5⟩ => exact ⟨h1.below hb, h2.below hb, h3.below hb, grownBy_then h4 hb, T, x, by rw [hu 3 (by decide)]; exact e, h5.beside (grownBy_of_below (row := none) hb (Nat.le_refl _)) (fun j e => by cases e)⟩
        | 2, ⟨h1, h2, h3, h4, T, x, g4, e, h5, h6⟩ => exact ⟨h1.below hb, h2.below hb, h3.below hb, grownBy_then h4 hb, T, x, g4, by rw [hu 4 (by decide)]; exact e, h5.below hb, h6.beside (grownBy_of_below (row := none) hb (Nat.le_refl _)) (fun j e => by cases e)⟩
        | 3, ⟨h1, h2, h4, A5, c5, x, e, h5⟩ => exact ⟨h1.below hb, h2.below hb, grownBy_then h4 hb, A5, c5, x, by rw [hu 5 (by decide)]; exact e, h5.below hb⟩
        | 4, ⟨h1, h4, A5, c5, x, h2, h5⟩ => exact ⟨h1.below hb, grownBy_then h4 hb, A5, c5, x, h2.below hb, h5.below hb⟩
        | s + 5, h => exact h.elim
      have hS0 : ∀ u w', St 0 u w' ↔ (PAt w' P g c toks (at_ + 1) (wi + 1) ∧ Box w' b 158 #[.int .i64 6, .int .i64 0, .int .i64 0, .int .i64 0, .slice none 0 0] ∧ ExList w' b (b + 1) (.slice none 0 0) 0 [] [] ∧ w.grownBy w' (some P)) := fun _ _ => by subst hSe; rfl
      have hS1 : ∀ u w', St 1 u w' ↔ (PAt w' P g c toks m0 (wi + 1) ∧ Box w' b 158 #[.int .i64 6, .int .i64 0, .int .i64 0, .int .i64 0, .slice none 0 0] ∧ ExList w' b (b + 1) (.slice none 0 0) 0 [] [] ∧ w.grownBy w' (some P) ∧ ∃ T x, u 3 = .iface T x ∧ Stood w' b (Value.slice none 0 0).ownBlock (.iface T x) n0) := fun _ _ => by subst hSe; rfl
      have hS2 : ∀ u w', St 2 u w' ↔ (PAt w' P g c toks m0 (wi + 1) ∧ Box w' b 158 #[.int .i64 6, .int .i64 0, .int .i64 0, .int .i64 0, .slice none 0 0] ∧ ExList w' b (b + 1) (.slice none 0 0) 0 [] [] ∧ w.grownBy w' (some P) ∧ ∃ T x g4, u 4 = .slice (some ⟨g4, 0, none⟩) 1 1 ∧ Box w' g4 93 #[.iface T x] ∧ Stood w' b (Value.slice none 0 0).ownBlock (.iface T x) n0) := fun _ _ => by subst hSe; rfl
      have hS3 : ∀ u w', St 3 u w' ↔ (PAt w' P g c toks m0 (wi + 1) ∧ Box w' b 158 #[.int .i64 6, .int .i64 0, .int .i64 0, .int .i64 0, .slice none 0 0] ∧ w.grownBy w' (some P) ∧ ∃ A5 c5 x, u 5 = .slice A5 1 c5 ∧ ExList w' b (b + 1) (.slice A5 1 c5) 1 ([] ++ [x]) ([] ++ [n0])) := fun _ _ => by subst hSe; rfl
      have hS4 : ∀ u w', St 4 u w' ↔ (PAt w' P g c toks m0 (wi + 1) ∧ w.grownBy w' (some P) ∧ ∃ A5 c5 x, Box w' b 158 #[.int .i64 6, .int .i64 0, .int .i64 0, .int .i64 0, .slice A5 1 c5] ∧ ExList w' b (b + 1) (.slice A5 1 c5) 1 ([] ++ [x]) ([] ++ [n0])) := fun _ _ => by subst hSe; rfl
      clear hVe hSe
      refine wp_region_inv (fun done u w => ChainInv (ExRel P b (Value.slice none 0 0).ownBlock) V [3, 4, 5, 7] St W done u w ∧ Waits [(7, 5), (5, 1)] done) (by kernel_rfl) (by kernel_rfl) (by kernel_rfl) ?start ?step ?fin
      case start => exact fun u => ⟨ChainInv.start hRel (Below.refl _ _).drew ((hS0 _ _).2 (⟨HPW.out.drewN 1, HFB.out.drewN 1, HLS.out.below (below_draws _ _ _), grownBy_then HGW.out (below_draws _ _ _)⟩)), fun p _ e => by simp at e⟩
      case step =>
        simp only [putAll, Act.put, List.setIfInBounds_toArray, List.set_cons_zero, List.set_cons_succ, Nat.reduceAdd, Nat.zero_add]
        intro i o ho done u wr hnd hdep hIC K hK
        obtain ⟨hI, hcl⟩ := hIC
        match i, ho with
        | 0, ho =>
          simp only [List.getElem?_cons_zero, Option.some.injEq] at ho
          subst ho
          simp only [Act.put, List.setIfInBounds_toArray, List.set_cons_zero, List.set_cons_succ] at hK
          refine wpOp_step rfl fun K' hK' => ?_
          go_simp
          exact hK' _ _ (hK _ _ (⟨hI.quiet hRel hnd (by decide) hVm hSm (Below.refl _ _) ((hV0 _ _).2 rfl), hcl.did (by intro p hp e; simp at hp; rcases hp with rfl | rfl <;> first | exact absurd e (by decide) | exact hdep ⟨_, .data⟩ (by simp) rfl)⟩))
        | 1, ho =>
          simp only [List.getElem?_cons_succ, List.getElem?_cons_zero, Option.some.injEq] at ho
          subst ho
          simp only [Act.put, List.setIfInBounds_toArray, List.set_cons_zero, List.set_cons_succ] at hK
          have e0 := (hV0 _ _).1 (hI.know (hdep ⟨0, .data⟩ (by simp) rfl))
          simp only [e0] at hK
          have hbx : Box wr b 158 #[.int .i64 6, .int .i64 0, .int .i64 0, .int .i64 0, .slice none 0 0] := by
            obtain ⟨-, -, s, h3, h4, h5⟩ := hI
            match s, h3, h4, h5 with
            | 0, _, _, h5 => exact ((hS0 _ _).1 h5).2.1
            | 1, _, _, h5 => exact ((hS1 _ _).1 h5).2.1
            | 2, _, _, h5 => exact ((hS2 _ _).1 h5).2.1
            | 3, _, _, h5 => exact ((hS3 _ _).1 h5).2.1
            | 4, _, h4, _ =>
              have h7 := h4 3 7 rfl
              have h1 := hcl (5, 1) (by simp) (hcl (7, 5) (by simp) (by simpa using h7))
              rw [h1] at hnd
              cases hnd
            | s + 5, h3, _, _ => simp at h3
          have c4 := hbx.cell 4
          have bl := hbx.lt
          simp at c4
          refine wpOp_step rfl fun K' hK' => ?_
          go_simp
          exact hK' _ _ (hK _ _ (⟨hI.quiet hRel hnd (by decide) hVm hSm (Below.refl _ _) ((hV1 _ _).2 rfl), hcl.did (by intro p hp e; simp at hp; rcases hp with rfl | rfl <;> first | exact absurd e (by decide) | exact hdep ⟨_, .data⟩ (by simp) rfl)⟩))
        | 2, ho =>
          simp only [List.getElem?_cons_succ, List.getElem?_cons_zero, Option.some.injEq] at ho
          subst ho
          simp only [Act.put, List.setIfInBounds_toArray, List.set_cons_zero, List.set_cons_succ] at hK
          have hx1 := hI.1.2 _ _ _ (by omega) (by omega) hown1 HB1.out
          have d1 := hx1.one
          have dl1 := hx1.lt
          refine wpOp_step rfl fun K' hK' => ?_
          go_simp
          exact hK' _ _ (hK _ _ (⟨hI.quiet hRel hnd (by decide) hVm hSm (Below.refl _ _) ((hV2 _ _).2 rfl), hcl.did (by intro p hp e; simp at hp; rcases hp with rfl | rfl <;> first | exact absurd e (by decide) | exact hdep ⟨_, .data⟩ (by simp) rfl)⟩))
        | 3, ho =>
          simp only [List.getElem?_cons_succ, List.getElem?_cons_zero, Option.some.injEq] at ho
          subst ho
          simp only [Act.put, List.setIfInBounds_toArray, List.set_cons_zero, List.set_cons_succ] at hK
          have e2 := (hV2 _ _).1 (hI.know (hdep ⟨2, .data⟩ (by simp) rfl))
          simp only [e2] at hK
          obtain ⟨s1, s2, s3, s4⟩ := (hS0 _ _).1 (hI.at_ (k := 0) rfl hnd (.inl rfl))
          refine wpOp_step rfl fun K' hK' => ?_
          go_simp
          refine (HE0.out _ P g c s1).mono ?_
          rintro e w5 ⟨v, rfl, hv, hp5, hg5⟩
          obtain ⟨T, x, rfl⟩ : ∃ T u, v = .iface T u := by obtain ⟨T, u, f, e, -⟩ := hv; exact ⟨T, u, e⟩
          have hbl := s2.lt
          exact hK' _ _ (hK _ _ (⟨hI.step hRel (k := 0) rfl hnd (.inl rfl) (by decide) hVm (exRel_one hg5) (hV3 _ _) ((hS1 _ _).2 (⟨hp5, s2.grown hg5 (by intro e; injection e; omega), s3.beside hg5 (fun j e => by injection e; omega) (by omega), grownBy_trans s4 hg5, T, x, by rw [upd_same], w5, _, hv, ⟨Nat.le_refl _, fun _ _ _ => rfl⟩, by omega, fun j e => .inl (by have := (s3.own.lt j e).2; omega)⟩)), hcl.did (by intro p hp e; simp at hp; rcases hp with rfl | rfl <;> first | exact absurd e (by decide) | exact hdep ⟨_, .data⟩ (by simp) rfl)⟩))
        | 4, ho =>
          simp only [List.getElem?_cons_succ, List.getElem?_cons_zero, Option.some.injEq] at ho
          subst ho
          simp only [Act.put, List.setIfInBounds_toArray, List.set_cons_zero, List.set_cons_succ] at hK
          obtain ⟨s1, s2, s3, s4, T, x, e3, s5⟩ := (hS1 _ _).1 (hI.at_ (k := 1) rfl hnd (.inr ⟨3, rfl, hdep ⟨3, .data⟩ (by simp) rfl⟩))
          simp only [e3] at hK
          refine wpOp_step rfl fun K' hK' => ?_
          go_simp
          exact hK' _ _ (hK _ _ (⟨hI.step hRel (k := 1) rfl hnd (.inr ⟨3, rfl, hdep ⟨3, .data⟩ (by simp) rfl⟩) (by decide) hVm (hRel.below (below_one _ _)) (hV4 _ _) ((hS2 _ _).2 (⟨s1.below (below_one _ _), s2.alloc _, s3.below (below_one _ _), grownBy_then s4 (below_one _ _), T, x, _, by rw [upd_same], Box.new _ _ _, s5.beside (row := none) (grownBy_of_below (below_one _ _) (Nat.le_refl _)) (fun j e => by cases e)⟩)), hcl.did (by intro p hp e; simp at hp; rcases hp with rfl | rfl <;> first | exact absurd e (by decide) | exact hdep ⟨_, .data⟩ (by simp) rfl)⟩))
        | 5, ho =>
          simp only [List.getElem?_cons_succ, List.getElem?_cons_zero, Option.some.injEq] at ho
          subst ho
          simp only [Act.put, List.setIfInBounds_toArray, List.set_cons_zero, List.set_cons_succ] at hK
          have e1 := (hV1 _ _).1 (hI.know (hdep ⟨1, .data⟩ (by simp) rfl))
          obtain ⟨s1, s2, s3, s4, T, x, g4, e4, s5, s6⟩ := (hS2 _ _).1 (hI.at_ (k := 2) rfl hnd (.inr ⟨4, rfl, hdep ⟨4, .data⟩ (by simp) rfl⟩))
          have hbl := s2.lt
          refine wpOp_step rfl fun K' hK' => ?_
          refine step_append_rows wr rfl 156 93 1 16 rowed_expr rfl _ _ (by rfl) (b + 1) 0 (.slice none 0 0) [] (by simpa [Act.eval] using e1) s3.own (some ⟨g4, 0, none⟩) 1 1 [.iface T x] (by simpa [Act.eval] using e4) (fun e => by cases e) (by omega) (cellsAt_box s5) (by simp [Value.oneCell']) rfl (by omega) (by omega) ?_
          intro A5 c5 w5 hown5 hgrow hat
          have hnb : ∀ j, j ≤ b → ((Value.slice none 0 0).ownBlock) ≠ some j := fun j hj e => by have := (s3.own.lt j e).1; omega
          exact hK' _ _ (hK _ _ (⟨hI.step hRel (k := 2) rfl hnd (.inr ⟨4, rfl, hdep ⟨4, .data⟩ (by simp) rfl⟩) (by decide) hVm (exRel_own hgrow) (hV5 _ _) ((hS3 _ _).2 (⟨pat_row s1 hgrow (hnb P (by omega)) (by have := s1.2.1; exact hnb g (by omega)), s2.grown hgrow (hnb b (Nat.le_refl _)), grownBy_row s4 hgrow (fun j e => by have := (s3.own.lt j e).1; omega), A5, c5, _, by rw [upd_same], s3.snoc hown5 hgrow hat s6⟩)), hcl.did (by intro p hp e; simp at hp; rcases hp with rfl | rfl <;> first | exact absurd e (by decide) | exact hdep ⟨_, .data⟩ (by simp) rfl)⟩))
        | 6, ho =>
          simp only [List.getElem?_cons_succ, List.getElem?_cons_zero, Option.some.injEq] at ho
          subst ho
          simp only [Act.put, List.setIfInBounds_toArray, List.set_cons_zero, List.set_cons_succ] at hK
          refine wpOp_step rfl fun K' hK' => ?_
          go_simp
          exact hK' _ _ (hK _ _ (⟨hI.quiet hRel hnd (by decide) hVm hSm (Below.refl _ _) ((hV6 _ _).2 rfl), hcl.did (by intro p hp e; simp at hp; rcases hp with rfl | rfl <;> first | exact absurd e (by decide) | exact hdep ⟨_, .data⟩ (by simp) rfl)⟩))
        | 7, ho =>
          simp only [List.getElem?_cons_succ, List.getElem?_cons_zero, Option.some.injEq] at ho
          subst ho
          simp only [Act.put, List.setIfInBounds_toArray, List.set_cons_zero, List.set_cons_succ] at hK
          have e6 := (hV6 _ _).1 (hI.know (hdep ⟨6, .data⟩ (by simp) rfl))
          obtain ⟨s1, s2, s4, A5, c5, x, e5, s6⟩ := (hS3 _ _).1 (hI.at_ (k := 3) rfl hnd (.inr ⟨5, rfl, hdep ⟨5, .data⟩ (by simp) rfl⟩))
          simp only [e5, e6] at hK
          have hbl := s2.lt
          have c4 := s2.cell 4
          have cf := Box.frozen s2 4
          simp at c4
          refine wpOp_step rfl fun K' hK' => ?_
          go_simp
          have hst : Box (wr.setCell ⟨b, 4, none⟩ (.slice A5 1 c5)) b 158 #[.int .i64 6, .int .i64 0, .int .i64 0, .int .i64 0, .slice A5 1 c5] := by simpa using s2.store 4 (.slice A5 1 c5)
          exact hK' _ _ (hK _ _ (⟨hI.step (v := .nilIface) hRel (k := 3) rfl hnd (.inr ⟨5, rfl, hdep ⟨5, .data⟩ (by simp) rfl⟩) (by decide) hVm (exRel_two (grownBy_setCell _ _ _ _)) (hV7 _ _) ((hS4 _ _).2 (⟨s1.far (grownBy_setCell _ _ _ _) (by omega), grownBy_after s4 (grownBy_setCell _ _ _ _) (by omega), A5, c5, x, hst, s6.beside (grownBy_setCell _ _ _ _) (fun j e => by injection e; omega) (by omega)⟩)), hcl.did (by intro p hp e; simp at hp; rcases hp with rfl | rfl <;> first | exact absurd e (by decide) | exact hdep ⟨_, .data⟩ (by simp) rfl)⟩))
        | i + 8, ho => simp at ho
      case fin =>
        simp only [putAll, Act.put, List.setIfInBounds_toArray, List.set_cons_zero, List.set_cons_succ, Nat.reduceAdd, Nat.zero_add]
        intro done u wr hd hIC
        obtain ⟨hI, -⟩ := hIC
        simp only [List.length_cons, List.length_nil, Nat.reduceAdd, Nat.zero_add] at hd
        have hS := (hS4 _ _).1 (hI.end_ (fun c hc => hd c (by simp at hc; omega)))
        obtain ⟨s1, s4, A0, c0, x0, s2, s6⟩ := hS
        have hI1 := hI.1
        obtain ⟨y0, rfl⟩ : ∃ X : World, X = wr := ⟨_, rfl⟩
        have hB7 := HB1.out
        have hB8 := HB2.out
        have HB1 := Lib.hid (hI1.2 _ _ _ (by omega) (by omega) hown1 hB7)
        have HB2 := Lib.hid (hI1.2 _ _ _ (by omega) (by omega) hown2 hB8)
        clear hown1 hown2 hB7 hB8 hI1 hI hd hVm hSm hS0 hS1 hS2 hS3 hS4 hRel hV0 hV1 hV2 hV3 hV4 hV5 hV6 hV7
        have HS1 := Lib.hid s1
        have HS2 := Lib.hid s2
        have HS4 := Lib.hid s4
        have HS6 := Lib.hid s6
        have d1 := HB1.out.one
        have dl1 := HB1.out.lt
        clear s1 s2 s4 s6
        go_wp2_with fail
        refine (HK0.out _ HS1.out).mono ?_
        rintro e w8 ⟨rfl, nk, rfl⟩
        obtain ⟨e0, e1, e2⟩ := Box.three (HS1.out.drewN nk).1
        have ef := Box.frozen (HS1.out.drewN nk).1 1
        have el := (HS1.out.drewN nk).1.lt
        clear d1 dl1
        have d1 := (HB1.out.drewN nk).one
        have dl1 := (HB1.out.drewN nk).lt
        go_wp2_with fail
        clear e0 e1 e2 ef el d1 dl1
        have hg8 : y0.grownBy ((y0.drewN nk).setCell ⟨P, 1, none⟩ (.int .i64 (m0 + 1 : Nat))) (some P) := grownBy_trans (grownBy_draws _ _ _) (grownBy_setCell _ _ _ _)
        have hp8 := (HS1.out.drewN nk).next hlc
        have hx8 := HS2.out.grown hg8 (by intro e; injection e; omega)
        have hl8 := HS6.out.beside hg8 (fun j e => by injection e; omega) (by omega)
        have hw8 := grownBy_trans HS4.out hg8
        have hb8 := HB1.out.grown hg8 (by intro e; injection e; omega)
        have hb9 := HB2.out.grown hg8 (by intro e; injection e; omega)
        obtain ⟨W, hW⟩ : ∃ W, W = ((y0.drewN nk).setCell ⟨P, 1, none⟩ (.int .i64 (m0 + 1 : Nat))) := ⟨_, rfl⟩
        rw [← hW] at hg8 hp8 hx8 hl8 hw8 hb8 hb9
        try rw [show (((m0 : Nat) : Int) + 1) = ((m0 + 1 : Nat) : Int) by simp]
        rw [← hW]
        have HPW := Lib.hid hp8
        have HFB := Lib.hid hx8
        have HLS := Lib.hid hl8
        have HGW := Lib.hid hw8
        have HB1 := Lib.hid hb8
        have HB2 := Lib.hid hb9
        clear hW hg8 hp8 hx8 hl8 hw8 hb8 hb9 HS1 HS2 HS4 HS6
        have hown1 : ∀ j, (Value.slice A0 1 c0).ownBlock = some j → w.heap.size ≠ j := fun j e => by have := (HLS.out.own.lt j e).1; omega
        have hown2 : ∀ j, (Value.slice A0 1 c0).ownBlock = some j → w.heap.size + 1 ≠ j := fun j e => by have := (HLS.out.own.lt j e).1; omega
        have hRel : Rels (ExRel P b (Value.slice A0 1 c0).ownBlock) := exRels P b _
        obtain ⟨V, hVe⟩ : ∃ V : Nat → Value → World → Prop, V = fun i v w' => match i with
            | 0 => v = .pointer (some ⟨b, 4, none⟩)
            | 1 => v = .slice A0 1 c0
            | 2 => v = .pointer (some ⟨P, 0, none⟩)
            | 6 => v = .pointer (some ⟨b, 4, none⟩)
            | _ => True := ⟨_, rfl⟩
        have hVm : ∀ j v w1 w2, V j v w1 → (ExRel P b (Value.slice A0 1 c0).ownBlock) w1 w2 → V j v w2 := by
          intro j v w1 w2 h hr
          subst hVe
          match j, h with
          | 0, h => exact h
          | 1, h => exact h
          | 2, h => exact h
          | 3, _ => trivial
          | 4, _ => trivial
          | 5, _ => trivial
          | 6, h => exact h
          | i + 7, _ => trivial
        have hV0 : ∀ v w', V 0 v w' ↔ v = .pointer (some ⟨b, 4, none⟩) := fun _ _ => by subst hVe; rfl
        have hV1 : ∀ v w', V 1 v w' ↔ v = .slice A0 1 c0 := fun _ _ => by subst hVe; rfl
        have hV2 : ∀ v w', V 2 v w' ↔ v = .pointer (some ⟨P, 0, none⟩) := fun _ _ => by subst hVe; rfl
        have hV6 : ∀ v w', V 6 v w' ↔ v = .pointer (some ⟨b, 4, none⟩) := fun _ _ => by subst hVe; rfl
        have hV3 : ∀ v w', V 3 v w' := fun _ _ => by subst hVe; trivial
        have hV4 : ∀ v w', V 4 v w' := fun _ _ => by subst hVe; trivial
        have hV5 : ∀ v w', V 5 v w' := fun _ _ => by subst hVe; trivial
        have hV7 : ∀ v w', V 7 v w' := fun _ _ => by subst hVe; trivial
        obtain ⟨St, hSe⟩ : ∃ St : Nat → (Nat → Value) → World → Prop, St = fun s u w' => match s with
            | 0 => PAt w' P g c toks (m0 + 1) (wi + 1) ∧ Box w' b 158 #[.int .i64 6, .int .i64 0, .int .i64 0, .int .i64 0, .slice A0 1 c0] ∧ ExList w' b (b + 1) (.slice A0 1 c0) 1 ([] ++ [x0]) ([] ++ [n0]) ∧ w.grownBy w' (some P)
            | 1 => PAt w' P g c toks m1 (wi + 1) ∧ Box w' b 158 #[.int .i64 6, .int .i64 0, .int .i64 0, .int .i64 0, .slice A0 1 c0] ∧ ExList w' b (b + 1) (.slice A0 1 c0) 1 ([] ++ [x0]) ([] ++ [n0]) ∧ w.grownBy w' (some P) ∧ ∃ T x, u 3 = .iface T x ∧ Stood w' b (Value.slice A0 1 c0).ownBlock (.iface T x) n1
            | 2 => PAt w' P g c toks m1 (wi + 1) ∧ Box w' b 158 #[.int .i64 6, .int .i64 0, .int .i64 0, .int .i64 0, .slice A0 1 c0] ∧ ExList w' b (b + 1) (.slice A0 1 c0) 1 ([] ++ [x0]) ([] ++ [n0]) ∧ w.grownBy w' (some P) ∧ ∃ T x g4, u 4 = .slice (some ⟨g4, 0, none⟩) 1 1 ∧ Box w' g4 93 #[.iface T x] ∧ Stood w' b (Value.slice A0 1 c0).ownBlock (.iface T x) n1
            | 3 => PAt w' P g c toks m1 (wi + 1) ∧ Box w' b 158 #[.int .i64 6, .int .i64 0, .int .i64 0, .int .i64 0, .slice A0 1 c0] ∧ w.grownBy w' (some P) ∧ ∃ A5 c5 x, u 5 = .slice A5 2 c5 ∧ ExList w' b (b + 1) (.slice A5 2 c5) 2 (([] ++ [x0]) ++ [x]) (([] ++ [n0]) ++ [n1])
            | 4 => PAt w' P g c toks m1 (wi + 1) ∧ w.grownBy w' (some P) ∧ ∃ A5 c5 x, Box w' b 158 #[.int .i64 6, .int .i64 0, .int .i64 0, .int .i64 0, .slice A5 2 c5] ∧ ExList w' b (b + 1) (.slice A5 2 c5) 2 (([] ++ [x0]) ++ [x]) (([] ++ [n0]) ++ [n1])
            | _ => False := ⟨_, rfl⟩
        have hSm : ∀ s u u' w1 w2, (∀ c ∈ [3, 4, 5, 7], u' c = u c) → St s u w1 → Below w1.heap.size w1 w2 → St s u' w2 := by
          intro s u u' w1 w2 hu h hb
          subst hSe
          match s, h with
          | 0, ⟨h1, h2, h3, h4⟩ => exact ⟨h1.below hb, h2.below hb, h3.below hb, grownBy_then h4 hb⟩
          | 1, ⟨h1, h2, h3, h4, T, x, e, h5⟩ => exact ⟨h1.below hb, h2.below hb, h3.below hb, grownBy_then h4 hb, T, x, by rw [hu 3 (by decide)]; exact e, h5.beside (grownBy_of_below (row := none) hb (Nat.le_refl _)) (fun j e => by cases e)⟩
          | 2, ⟨h1, h2, h3, h4, T, x, g4, e, h5, h6⟩ => exact ⟨h1.below hb, h2.below hb, h3.below hb, grownBy_then h4 hb, T, x, g4, by rw [hu 4 (by decide)]; exact e, h5.below hb, h6.beside (grownBy_of_below (row := none) hb (Nat.le_refl _)) (fun j e => by cases e)⟩
          | 3, ⟨h1, h2, h4, A5, c5, x, e, h5⟩ => exact ⟨h1.below hb, h2.below hb, grownBy_then h4 hb, A5, c5, x, by rw [hu 5 (by decide)]; exact e, h5.below hb⟩
          | 4, ⟨h1, h4, A5, c5, x, h2, h5⟩ => exact ⟨h1.below hb, grownBy_then h4 hb, A5, c5, x, h2.below hb, h5.below hb⟩
          | s + 5, h => exact h.elim
        have hS0 : ∀ u w', St 0 u w' ↔ (PAt w' P g c toks (m0 + 1) (wi + 1) ∧ Box w' b 158 #[.int .i64 6, .int .i64 0, .int .i64 0, .int .i64 0, .slice A0 1 c0] ∧ ExList w' b (b + 1) (.slice A0 1 c0) 1 ([] ++ [x0]) ([] ++ [n0]) ∧ w.grownBy w' (some P)) := fun _ _ => by subst hSe; rfl
        have hS1 : ∀ u w', St 1 u w' ↔ (PAt w' P g c toks m1 (wi + 1) ∧ Box w' b 158 #[.int .i64 6, .int .i64 0, .int .i64 0, .int .i64 0, .slice A0 1 c0] ∧ ExList w' b (b + 1) (.slice A0 1 c0) 1 ([] ++ [x0]) ([] ++ [n0]) ∧ w.grownBy w' (some P) ∧ ∃ T x, u 3 = .iface T x ∧ Stood w' b (Value.slice A0 1 c0).ownBlock (.iface T x) n1) := fun _ _ => by subst hSe; rfl
        have hS2 : ∀ u w', St 2 u w' ↔ (PAt w' P g c toks m1 (wi + 1) ∧ Box w' b 158 #[.int .i64 6, .int .i64 0, .int .i64 0, .int .i64 0, .slice A0 1 c0] ∧ ExList w' b (b + 1) (.slice A0 1 c0) 1 ([] ++ [x0]) ([] ++ [n0]) ∧ w.grownBy w' (some P) ∧ ∃ T x g4, u 4 = .slice (some ⟨g4, 0, none⟩) 1 1 ∧ Box w' g4 93 #[.iface T x] ∧ Stood w' b (Value.slice A0 1 c0).ownBlock (.iface T x) n1) := fun _ _ => by subst hSe; rfl
        have hS3 : ∀ u w', St 3 u w' ↔ (PAt w' P g c toks m1 (wi + 1) ∧ Box w' b 158 #[.int .i64 6, .int .i64 0, .int .i64 0, .int .i64 0, .slice A0 1 c0] ∧ w.grownBy w' (some P) ∧ ∃ A5 c5 x, u 5 = .slice A5 2 c5 ∧ ExList w' b (b + 1) (.slice A5 2 c5) 2 (([] ++ [x0]) ++ [x]) (([] ++ [n0]) ++ [n1])) := fun _ _ => by subst hSe; rfl
        have hS4 : ∀ u w', St 4 u w' ↔ (PAt w' P g c toks m1 (wi + 1) ∧ w.grownBy w' (some P) ∧ ∃ A5 c5 x, Box w' b 158 #[.int .i64 6, .int .i64 0, .int .i64 0, .int .i64 0, .slice A5 2 c5] ∧ ExList w' b (b + 1) (.slice A5 2 c5) 2 (([] ++ [x0]) ++ [x]) (([] ++ [n0]) ++ [n1])) := fun _ _ => by subst hSe; rfl
        clear hVe hSe
        refine wp_region_inv (fun done u w => ChainInv (ExRel P b (Value.slice A0 1 c0).ownBlock) V [3, 4, 5, 7] St W done u w ∧ Waits [(7, 5), (5, 1)] done) (by kernel_rfl) (by kernel_rfl) (by kernel_rfl) ?start ?step ?fin
        case start => exact fun u => ⟨ChainInv.start hRel (Below.refl _ _).drew ((hS0 _ _).2 (⟨HPW.out.drewN 1, HFB.out.drewN 1, HLS.out.below (below_draws _ _ _), grownBy_then HGW.out (below_draws _ _ _)⟩)), fun p _ e => by simp at e⟩
        case step =>
          simp only [putAll, Act.put, List.setIfInBounds_toArray, List.set_cons_zero, List.set_cons_succ, Nat.reduceAdd, Nat.zero_add]
          intro i o ho done u wr hnd hdep hIC K hK
          obtain ⟨hI, hcl⟩ := hIC
          match i, ho with
          | 0, ho =>
            simp only [List.getElem?_cons_zero, Option.some.injEq] at ho
            subst ho
            simp only [Act.put, List.setIfInBounds_toArray, List.set_cons_zero, List.set_cons_succ] at hK
            refine wpOp_step rfl fun K' hK' => ?_
            go_simp
            exact hK' _ _ (hK _ _ (⟨hI.quiet hRel hnd (by decide) hVm hSm (Below.refl _ _) ((hV0 _ _).2 rfl), hcl.did (by intro p hp e; simp at hp; rcases hp with rfl | rfl <;> first | exact absurd e (by decide) | exact hdep ⟨_, .data⟩ (by simp) rfl)⟩))
          | 1, ho =>
            simp only [List.getElem?_cons_succ, List.getElem?_cons_zero, Option.some.injEq] at ho
            subst ho
            simp only [Act.put, List.setIfInBounds_toArray, List.set_cons_zero, List.set_cons_succ] at hK
            have e0 := (hV0 _ _).1 (hI.know (hdep ⟨0, .data⟩ (by simp) rfl))
            simp only [e0] at hK
            have hbx : Box wr b 158 #[.int .i64 6, .int .i64 0, .int .i64 0, .int .i64 0, .slice A0 1 c0] := by
              obtain ⟨-, -, s, h3, h4, h5⟩ := hI
              match s, h3, h4, h5 with
              | 0, _, _, h5 => exact ((hS0 _ _).1 h5).2.1
              | 1, _, _, h5 => exact ((hS1 _ _).1 h5).2.1
              | 2, _, _, h5 => exact ((hS2 _ _).1 h5).2.1
              | 3, _, _, h5 => exact ((hS3 _ _).1 h5).2.1
              | 4, _, h4, _ =>
                have h7 := h4 3 7 rfl
                have h1 := hcl (5, 1) (by simp) (hcl (7, 5) (by simp) (by simpa using h7))
                rw [h1] at hnd
                cases hnd
              | s + 5, h3, _, _ => simp at h3
            have c4 := hbx.cell 4
            have bl := hbx.lt
            simp at c4
            refine wpOp_step rfl fun K' hK' => ?_
            go_simp
            exact hK' _ _ (hK _ _ (⟨hI.quiet hRel hnd (by decide) hVm hSm (Below.refl _ _) ((hV1 _ _).2 rfl), hcl.did (by intro p hp e; simp at hp; rcases hp with rfl | rfl <;> first | exact absurd e (by decide) | exact hdep ⟨_, .data⟩ (by simp) rfl)⟩))
          | 2, ho =>
            simp only [List.getElem?_cons_succ, List.getElem?_cons_zero, Option.some.injEq] at ho
            subst ho
            simp only [Act.put, List.setIfInBounds_toArray, List.set_cons_zero, List.set_cons_succ] at hK
            have hx1 := hI.1.2 _ _ _ (by omega) (by omega) hown1 HB1.out
            have d1 := hx1.one
            have dl1 := hx1.lt
            refine wpOp_step rfl fun K' hK' => ?_
            go_simp
            exact hK' _ _ (hK _ _ (⟨hI.quiet hRel hnd (by decide) hVm hSm (Below.refl _ _) ((hV2 _ _).2 rfl), hcl.did (by intro p hp e; simp at hp; rcases hp with rfl | rfl <;> first | exact absurd e (by decide) | exact hdep ⟨_, .data⟩ (by simp) rfl)⟩))
          | 3, ho =>
            simp only [List.getElem?_cons_succ, List.getElem?_cons_zero, Option.some.injEq] at ho
            subst ho
            simp only [Act.put, List.setIfInBounds_toArray, List.set_cons_zero, List.set_cons_succ] at hK
            have e2 := (hV2 _ _).1 (hI.know (hdep ⟨2, .data⟩ (by simp) rfl))
            simp only [e2] at hK
            obtain ⟨s1, s2, s3, s4⟩ := (hS0 _ _).1 (hI.at_ (k := 0) rfl hnd (.inl rfl))
            refine wpOp_step rfl fun K' hK' => ?_
            go_simp
            refine (HE1.out _ P g c s1).mono ?_
            rintro e w5 ⟨v, rfl, hv, hp5, hg5⟩
            obtain ⟨T, x, rfl⟩ : ∃ T u, v = .iface T u := by obtain ⟨T, u, f, e, -⟩ := hv; exact ⟨T, u, e⟩
            have hbl := s2.lt
            exact hK' _ _ (hK _ _ (⟨hI.step hRel (k := 0) rfl hnd (.inl rfl) (by decide) hVm (exRel_one hg5) (hV3 _ _) ((hS1 _ _).2 (⟨hp5, s2.grown hg5 (by intro e; injection e; omega), s3.beside hg5 (fun j e => by injection e; omega) (by omega), grownBy_trans s4 hg5, T, x, by rw [upd_same], w5, _, hv, ⟨Nat.le_refl _, fun _ _ _ => rfl⟩, by omega, fun j e => .inl (by have := (s3.own.lt j e).2; omega)⟩)), hcl.did (by intro p hp e; simp at hp; rcases hp with rfl | rfl <;> first | exact absurd e (by decide) | exact hdep ⟨_, .data⟩ (by simp) rfl)⟩))
          | 4, ho =>
            simp only [List.getElem?_cons_succ, List.getElem?_cons_zero, Option.some.injEq] at ho
            subst ho
            simp only [Act.put, List.setIfInBounds_toArray, List.set_cons_zero, List.set_cons_succ] at hK
            obtain ⟨s1, s2, s3, s4, T, x, e3, s5⟩ := (hS1 _ _).1 (hI.at_ (k := 1) rfl hnd (.inr ⟨3, rfl, hdep ⟨3, .data⟩ (by simp) rfl⟩))
            simp only [e3] at hK
            refine wpOp_step rfl fun K' hK' => ?_
            go_simp
            exact hK' _ _ (hK _ _ (⟨hI.step hRel (k := 1) rfl hnd (.inr ⟨3, rfl, hdep ⟨3, .data⟩ (by simp) rfl⟩) (by decide) hVm (hRel.below (below_one _ _)) (hV4 _ _) ((hS2 _ _).2 (⟨s1.below (below_one _ _), s2.alloc _, s3.below (below_one _ _), grownBy_then s4 (below_one _ _), T, x, _, by rw [upd_same], Box.new _ _ _, s5.beside (row := none) (grownBy_of_below (below_one _ _) (Nat.le_refl _)) (fun j e => by cases e)⟩)), hcl.did (by intro p hp e; simp at hp; rcases hp with rfl | rfl <;> first | exact absurd e (by decide) | exact hdep ⟨_, .data⟩ (by simp) rfl)⟩))
          | 5, ho =>
            simp only [List.getElem?_cons_succ, List.getElem?_cons_zero, Option.some.injEq] at ho
            subst ho
            simp only [Act.put, List.setIfInBounds_toArray, List.set_cons_zero, List.set_cons_succ] at hK
            have e1 := (hV1 _ _).1 (hI.know (hdep ⟨1, .data⟩ (by simp) rfl))
            obtain ⟨s1, s2, s3, s4, T, x, g4, e4, s5, s6⟩ := (hS2 _ _).1 (hI.at_ (k := 2) rfl hnd (.inr ⟨4, rfl, hdep ⟨4, .data⟩ (by simp) rfl⟩))
            have hbl := s2.lt
            refine wpOp_step rfl fun K' hK' => ?_
            refine step_append_rows wr rfl 156 93 1 16 rowed_expr rfl _ _ (by rfl) (b + 1) 1 (.slice A0 1 c0) ([] ++ [x0]) (by simpa [Act.eval] using e1) s3.own (some ⟨g4, 0, none⟩) 1 1 [.iface T x] (by simpa [Act.eval] using e4) (fun e => by cases e) (by omega) (cellsAt_box s5) (by simp [Value.oneCell']) rfl (by omega) (by omega) ?_
            intro A5 c5 w5 hown5 hgrow hat
            have hnb : ∀ j, j ≤ b → ((Value.slice A0 1 c0).ownBlock) ≠ some j := fun j hj e => by have := (s3.own.lt j e).1; omega
            exact hK' _ _ (hK _ _ (⟨hI.step hRel (k := 2) rfl hnd (.inr ⟨4, rfl, hdep ⟨4, .data⟩ (by simp) rfl⟩) (by decide) hVm (exRel_own hgrow) (hV5 _ _) ((hS3 _ _).2 (⟨pat_row s1 hgrow (hnb P (by omega)) (by have := s1.2.1; exact hnb g (by omega)), s2.grown hgrow (hnb b (Nat.le_refl _)), grownBy_row s4 hgrow (fun j e => by have := (s3.own.lt j e).1; omega), A5, c5, _, by rw [upd_same], s3.snoc hown5 hgrow hat s6⟩)), hcl.did (by intro p hp e; simp at hp; rcases hp with rfl | rfl <;> first | exact absurd e (by decide) | exact hdep ⟨_, .data⟩ (by simp) rfl)⟩))
          | 6, ho =>
            simp only [List.getElem?_cons_succ, List.getElem?_cons_zero, Option.some.injEq] at ho
            subst ho
            simp only [Act.put, List.setIfInBounds_toArray, List.set_cons_zero, List.set_cons_succ] at hK
            refine wpOp_step rfl fun K' hK' => ?_
            go_simp
            exact hK' _ _ (hK _ _ (⟨hI.quiet hRel hnd (by decide) hVm hSm (Below.refl _ _) ((hV6 _ _).2 rfl), hcl.did (by intro p hp e; simp at hp; rcases hp with rfl | rfl <;> first | exact absurd e (by decide) | exact hdep ⟨_, .data⟩ (by simp) rfl)⟩))
          | 7, ho =>
            simp only [List.getElem?_cons_succ, List.getElem?_cons_zero, Option.some.injEq] at ho
            subst ho
            simp only [Act.put, List.setIfInBounds_toArray, List.set_cons_zero, List.set_cons_succ] at hK
            have e6 := (hV6 _ _).1 (hI.know (hdep ⟨6, .data⟩ (by simp) rfl))
            obtain ⟨s1, s2, s4, A5, c5, x, e5, s6⟩ := (hS3 _ _).1 (hI.at_ (k := 3) rfl hnd (.inr ⟨5, rfl, hdep ⟨5, .data⟩ (by simp) rfl⟩))
            simp only [e5, e6] at hK
            have hbl := s2.lt
            have c4 := s2.cell 4
            have cf := Box.frozen s2 4
            simp at c4
            refine wpOp_step rfl fun K' hK' => ?_
            go_simp
            have hst : Box (wr.setCell ⟨b, 4, none⟩ (.slice A5 2 c5)) b 158 #[.int .i64 6, .int .i64 0, .int .i64 0, .int .i64 0, .slice A5 2 c5] := by simpa using s2.store 4 (.slice A5 2 c5)
            exact hK' _ _ (hK _ _ (⟨hI.step (v := .nilIface) hRel (k := 3) rfl hnd (.inr ⟨5, rfl, hdep ⟨5, .data⟩ (by simp) rfl⟩) (by decide) hVm (exRel_two (grownBy_setCell _ _ _ _)) (hV7 _ _) ((hS4 _ _).2 (⟨s1.far (grownBy_setCell _ _ _ _) (by omega), grownBy_after s4 (grownBy_setCell _ _ _ _) (by omega), A5, c5, x, hst, s6.beside (grownBy_setCell _ _ _ _) (fun j e => by injection e; omega) (by omega)⟩)), hcl.did (by intro p hp e; simp at hp; rcases hp with rfl | rfl <;> first | exact absurd e (by decide) | exact hdep ⟨_, .data⟩ (by simp) rfl)⟩))
          | i + 8, ho => simp at ho
        case fin =>
          simp only [putAll, Act.put, List.setIfInBounds_toArray, List.set_cons_zero, List.set_cons_succ, Nat.reduceAdd, Nat.zero_add]
          intro done u wr hd hIC
          obtain ⟨hI, -⟩ := hIC
          simp only [List.length_cons, List.length_nil, Nat.reduceAdd, Nat.zero_add] at hd
          have hS := (hS4 _ _).1 (hI.end_ (fun c hc => hd c (by simp at hc; omega)))
          obtain ⟨s1, s4, A1, c1, x1, s2, s6⟩ := hS
          have hI1 := hI.1
          obtain ⟨y1, rfl⟩ : ∃ X : World, X = wr := ⟨_, rfl⟩
          have hB7 := HB1.out
          have hB8 := HB2.out
          have HB1 := Lib.hid (hI1.2 _ _ _ (by omega) (by omega) hown1 hB7)
          have HB2 := Lib.hid (hI1.2 _ _ _ (by omega) (by omega) hown2 hB8)
          clear hown1 hown2 hB7 hB8 hI1 hI hd hVm hSm hS0 hS1 hS2 hS3 hS4 hRel hV0 hV1 hV2 hV3 hV4 hV5 hV6 hV7
          have HS1 := Lib.hid s1
          have HS2 := Lib.hid s2
          have HS4 := Lib.hid s4
          have HS6 := Lib.hid s6
          have d1 := HB1.out.one
          have dl1 := HB1.out.lt
          clear s1 s2 s4 s6
          go_wp2_with fail
          refine (HN2.out _ HS1.out).mono ?_
          rintro e w9 ⟨rfl, hp9, hg9⟩
          have hx9 := HS2.out.grown hg9 (by intro e; injection e; omega)
          have hl9 := HS6.out.beside hg9 (fun j e => by injection e; omega) (by omega)
          have hw9 := grownBy_trans HS4.out hg9
          have hb9 := HB1.out.grown hg9 (by intro e; injection e; omega)
          have hb10 := HB2.out.grown hg9 (by intro e; injection e; omega)
          have f3 := hx9.cell 3
          have ff := Box.frozen hx9 3
          have fl := hx9.lt
          simp at f3
          clear d1 dl1 hg9
          go_wp2_with fail
          have hst : Box (w9.setCell ⟨b, 3, none⟩ (.int .i64 1)) b 158 #[.int .i64 6, .int .i64 0, .int .i64 0, .int .i64 1, .slice A1 2 c1] := by simpa using hx9.store 3 (.int .i64 1)
          have hg10 := grownBy_setCell w9 b 3 (.int .i64 1)
          go_roundw
          case rel =>
            refine ⟨_, _, _, _, _, _, _, _, _, _, _, _, _, _, _, _, _, _, _, _, _, _, _, _, _, _, _, _, _, _, ?_, rfl⟩
            exact .inr ⟨A1, c1, x0, x1, hp9.far hg10 (by omega), hst, hl9.beside hg10 (fun j e => by injection e; omega) (by omega), grownBy_after hw9 hg10 (by omega), hb9.grown hg10 (by intro e; injection e; omega), hb10.grown hg10 (by intro e; injection e; omega)⟩
          case measure => exact (show ∀ a b, a = m1 + 1 → b = at_ + 1 → m1 + 1 - a < m1 + 1 - b from fun a b h1 h2 => by omega) _ _ (hp9.far hg10 (by omega)).pAtIn HPM.out
    · clear HPW HGW HB1 HB2 HFB HLS hPM
      obtain ⟨Z, rfl⟩ : ∃ X : World, X = wr := ⟨_, rfl⟩
      have HPW := Lib.hid hp
      have HFB := Lib.hid hfb
      have HLS := Lib.hid hls
      have HGW := Lib.hid hg
      have HB1 := Lib.hid hb1
      have HB2 := Lib.hid hb2
      clear hp hfb hls hg hb1 hb2
      go_wp2_with fail
      have hown1 : ∀ j, (Value.slice lA 2 lc).ownBlock = some j → w.heap.size ≠ j := fun j e => by have := (HLS.out.own.lt j e).1; omega
      have hown2 : ∀ j, (Value.slice lA 2 lc).ownBlock = some j → w.heap.size + 1 ≠ j := fun j e => by have := (HLS.out.own.lt j e).1; omega
      have hRel : Rels (ExRel P b (Value.slice lA 2 lc).ownBlock) := exRels P b _
      obtain ⟨V, hVe⟩ : ∃ V : Nat → Value → World → Prop, V = fun i v w' => match i with
          | 0 => v = .pointer (some ⟨b, 4, none⟩)
          | 1 => v = .slice lA 2 lc
          | 2 => v = .pointer (some ⟨P, 0, none⟩)
          | 6 => v = .pointer (some ⟨b, 4, none⟩)
          | _ => True := ⟨_, rfl⟩
      have hVm : ∀ j v w1 w2, V j v w1 → (ExRel P b (Value.slice lA 2 lc).ownBlock) w1 w2 → V j v w2 := by
        intro j v w1 w2 h hr
        subst hVe
        match j, h with
        | 0, h => exact h
        | 1, h => exact h
        | 2, h => exact h
        | 3, _ => trivial
        | 4, _ => trivial
        | 5, _ => trivial
        | 6, h => exact h
        | i + 7, _ => trivial
      have hV0 : ∀ v w', V 0 v w' ↔ v = .pointer (some ⟨b, 4, none⟩) := fun _ _ => by subst hVe; rfl
      have hV1 : ∀ v w', V 1 v w' ↔ v = .slice lA 2 lc := fun _ _ => by subst hVe; rfl
      have hV2 : ∀ v w', V 2 v w' ↔ v = .pointer (some ⟨P, 0, none⟩) := fun _ _ => by subst hVe; rfl
      have hV6 : ∀ v w', V 6 v w' ↔ v = .pointer (some ⟨b, 4, none⟩) := fun _ _ => by subst hVe; rfl
      have hV3 : ∀ v w', V 3 v w' := fun _ _ => by subst hVe; trivial
      have hV4 : ∀ v w', V 4 v w' := fun _ _ => by subst hVe; trivial
      have hV5 : ∀ v w', V 5 v w' := fun _ _ => by subst hVe; trivial
      have hV7 : ∀ v w', V 7 v w' := fun _ _ => by subst hVe; trivial
      obtain ⟨St, hSe⟩ : ∃ St : Nat → (Nat → Value) → World → Prop, St = fun s u w' => match s with
          | 0 => PAt w' P g c toks (m1 + 1) (wi + 1) ∧ Box w' b 158 #[.int .i64 6, .int .i64 0, .int .i64 0, .int .i64 1, .slice lA 2 lc] ∧ ExList w' b (b + 1) (.slice lA 2 lc) 2 (([] ++ [x0]) ++ [x1]) (([] ++ [n0]) ++ [n1]) ∧ w.grownBy w' (some P)
          | 1 => PAt w' P g c toks m2 (wi + 1) ∧ Box w' b 158 #[.int .i64 6, .int .i64 0, .int .i64 0, .int .i64 1, .slice lA 2 lc] ∧ ExList w' b (b + 1) (.slice lA 2 lc) 2 (([] ++ [x0]) ++ [x1]) (([] ++ [n0]) ++ [n1]) ∧ w.grownBy w' (some P) ∧ ∃ T x, u 3 = .iface T x ∧ Stood w' b (Value.slice lA 2 lc).ownBlock (.iface T x) n2
          | 2 => PAt w' P g c toks m2 (wi + 1) ∧ Box w' b 158 #[.int .i64 6, .int .i64 0, .int .i64 0, .int .i64 1, .slice lA 2 lc] ∧ ExList w' b (b + 1) (.slice lA 2 lc) 2 (([] ++ [x0]) ++ [x1]) (([] ++ [n0]) ++ [n1]) ∧ w.grownBy w' (some P) ∧ ∃ T x g4, u 4 = .slice (some ⟨g4, 0, none⟩) 1 1 ∧ Box w' g4 93 #[.iface T x] ∧ Stood w' b (Value.slice lA 2 lc).ownBlock (.iface T x) n2
          | 3 => PAt w' P g c toks m2 (wi + 1) ∧ Box w' b 158 #[.int .i64 6, .int .i64 0, .int .i64 0, .int .i64 1, .slice lA 2 lc] ∧ w.grownBy w' (some P) ∧ ∃ A5 c5 x, u 5 = .slice A5 3 c5 ∧ ExList w' b (b + 1) (.slice A5 3 c5) 3 ((([] ++ [x0]) ++ [x1]) ++ [x]) ((([] ++ [n0]) ++ [n1]) ++ [n2])
          | 4 => PAt w' P g c toks m2 (wi + 1) ∧ w.grownBy w' (some P) ∧ ∃ A5 c5 x, Box w' b 158 #[.int .i64 6, .int .i64 0, .int .i64 0, .int .i64 1, .slice A5 3 c5] ∧ ExList w' b (b + 1) (.slice A5 3 c5) 3 ((([] ++ [x0]) ++ [x1]) ++ [x]) ((([] ++ [n0]) ++ [n1]) ++ [n2])
          | _ => False := ⟨_, rfl⟩
      have hSm : ∀ s u u' w1 w2, (∀ c ∈ [3, 4, 5, 7], u' c = u c) → St s u w1 → Below w1.heap.size w1 w2 → St s u' w2 := by
        intro s u u' w1 w2 hu h hb
        subst hSe
        match s, h with
        | 0, ⟨h1, h2, h3, h4⟩ => exact ⟨h1.below hb, h2.below hb, h3.below hb, grownBy_then h4 hb⟩
        | 1, ⟨h1, h2, h3, h4, T, x, e, h5⟩ => exact ⟨h1.below hb, h2.below hb, h3.below hb, grownBy_then h4 hb, T, x, by rw [hu 3 (by decide)]; exact e, h5.beside (grownBy_of_below (row := none) hb (Nat.le_refl _)) (fun j e => by cases e)⟩
        | 2, ⟨h1, h2, h3, h4, T, x, g4, e, h5, h6⟩ => exact ⟨h1.below hb, h2.below hb, h3.below hb, grownBy_then h4 hb, T, x, g4, by rw [hu 4 (by decide)]; exact e, h5.below hb, h6.beside (grownBy_of_below (row := none) hb (Nat.le_refl _)) (fun j e => by cases e)⟩
        | 3, ⟨h1, h2, h4, A5, c5, x, e, h5⟩ => exact ⟨h1.below hb, h2.below hb, grownBy_then h4 hb, A5, c5, x, by rw [hu 5 (by decide)]; exact e, h5.below hb⟩
        | 4, ⟨h1, h4, A5, c5, x, h2, h5⟩ => exact ⟨h1.below hb, grownBy_then h4 hb, A5, c5, x, h2.below hb, h5.below hb⟩
        | s + 5, h => exact h.elim
      have hS0 : ∀ u w', St 0 u w' ↔ (PAt w' P g c toks (m1 + 1) (wi + 1) ∧ Box w' b 158 #[.int .i64 6, .int .i64 0, .int .i64 0, .int .i64 1, .slice lA 2 lc] ∧ ExList w' b (b + 1) (.slice lA 2 lc) 2 (([] ++ [x0]) ++ [x1]) (([] ++ [n0]) ++ [n1]) ∧ w.grownBy w' (some P)) := fun _ _ => by subst hSe; rfl
      have hS1 : ∀ u w', St 1 u w' ↔ (PAt w' P g c toks m2 (wi + 1) ∧ Box w' b 158 #[.int .i64 6, .int .i64 0, .int .i64 0, .int .i64 1, .slice lA 2 lc] ∧ ExList w' b (b + 1) (.slice lA 2 lc) 2 (([] ++ [x0]) ++ [x1]) (([] ++ [n0]) ++ [n1]) ∧ w.grownBy w' (some P) ∧ ∃ T x, u 3 = .iface T x ∧ Stood w' b (Value.slice lA 2 lc).ownBlock (.iface T x) n2) := fun _ _ => by subst hSe; rfl
      have hS2 : ∀ u w', St 2 u w' ↔ (PAt w' P g c toks m2 (wi + 1) ∧ Box w' b 158 #[.int .i64 6, .int .i64 0, .int .i64 0, .int .i64 1, .slice lA 2 lc] ∧ ExList w' b (b + 1) (.slice lA 2 lc) 2 (([] ++ [x0]) ++ [x1]) (([] ++ [n0]) ++ [n1]) ∧ w.grownBy w' (some P) ∧ ∃ T x g4, u 4 = .slice (some ⟨g4, 0, none⟩) 1 1 ∧ Box w' g4 93 #[.iface T x] ∧ Stood w' b (Value.slice lA 2 lc).ownBlock (.iface T x) n2) := fun _ _ => by subst hSe; rfl
      have hS3 : ∀ u w', St 3 u w' ↔ (PAt w' P g c toks m2 (wi + 1) ∧ Box w' b 158 #[.int .i64 6, .int .i64 0, .int .i64 0, .int .i64 1, .slice lA 2 lc] ∧ w.grownBy w' (some P) ∧ ∃ A5 c5 x, u 5 = .slice A5 3 c5 ∧ ExList w' b (b + 1) (.slice A5 3 c5) 3 ((([] ++ [x0]) ++ [x1]) ++ [x]) ((([] ++ [n0]) ++ [n1]) ++ [n2])) := fun _ _ => by subst hSe; rfl
      have hS4 : ∀ u w', St 4 u w' ↔ (PAt w' P g c toks m2 (wi + 1) ∧ w.grownBy w' (some P) ∧ ∃ A5 c5 x, Box w' b 158 #[.int .i64 6, .int .i64 0, .int .i64 0, .int .i64 1, .slice A5 3 c5] ∧ ExList w' b (b + 1) (.slice A5 3 c5) 3 ((([] ++ [x0]) ++ [x1]) ++ [x]) ((([] ++ [n0]) ++ [n1]) ++ [n2])) := fun _ _ => by subst hSe; rfl
      clear hVe hSe
      refine wp_region_inv (fun done u w => ChainInv (ExRel P b (Value.slice lA 2 lc).ownBlock) V [3, 4, 5, 7] St Z done u w ∧ Waits [(7, 5), (5, 1)] done) (by kernel_rfl) (by kernel_rfl) (by kernel_rfl) ?start ?step ?fin
      case start => exact fun u => ⟨ChainInv.start hRel (Below.refl _ _).drew ((hS0 _ _).2 (⟨HPW.out.drewN 1, HFB.out.drewN 1, HLS.out.below (below_draws _ _ _), grownBy_then HGW.out (below_draws _ _ _)⟩)), fun p _ e => by simp at e⟩
      case step =>
        simp only [putAll, Act.put, List.setIfInBounds_toArray, List.set_cons_zero, List.set_cons_succ, Nat.reduceAdd, Nat.zero_add]
        intro i o ho done u wr hnd hdep hIC K hK
        obtain ⟨hI, hcl⟩ := hIC
        match i, ho with
        | 0, ho =>
          simp only [List.getElem?_cons_zero, Option.some.injEq] at ho
          subst ho
          simp only [Act.put, List.setIfInBounds_toArray, List.set_cons_zero, List.set_cons_succ] at hK
          refine wpOp_step rfl fun K' hK' => ?_
          go_simp
          exact hK' _ _ (hK _ _ (⟨hI.quiet hRel hnd (by decide) hVm hSm (Below.refl _ _) ((hV0 _ _).2 rfl), hcl.did (by intro p hp e; simp at hp; rcases hp with rfl | rfl <;> first | exact absurd e (by decide) | exact hdep ⟨_, .data⟩ (by simp) rfl)⟩))
        | 1, ho =>
          simp only [List.getElem?_cons_succ, List.getElem?_cons_zero, Option.some.injEq] at ho
          subst ho
          simp only [Act.put, List.setIfInBounds_toArray, List.set_cons_zero, List.set_cons_succ] at hK
          have e0 := (hV0 _ _).1 (hI.know (hdep ⟨0, .data⟩ (by simp) rfl))
          simp only [e0] at hK
          have hbx : Box wr b 158 #[.int .i64 6, .int .i64 0, .int .i64 0, .int .i64 1, .slice lA 2 lc] := by
            obtain ⟨-, -, s, h3, h4, h5⟩ := hI
            match s, h3, h4, h5 with
            | 0, _, _, h5 => exact ((hS0 _ _).1 h5).2.1
            | 1, _, _, h5 => exact ((hS1 _ _).1 h5).2.1
            | 2, _, _, h5 => exact ((hS2 _ _).1 h5).2.1
            | 3, _, _, h5 => exact ((hS3 _ _).1 h5).2.1
            | 4, _, h4, _ =>
              have h7 := h4 3 7 rfl
              have h1 := hcl (5, 1) (by simp) (hcl (7, 5) (by simp) (by simpa using h7))
              rw [h1] at hnd
              cases hnd
            | s + 5, h3, _, _ => simp at h3
          have c4 := hbx.cell 4
          have bl := hbx.lt
          simp at c4
          refine wpOp_step rfl fun K' hK' => ?_
          go_simp
          exact hK' _ _ (hK _ _ (⟨hI.quiet hRel hnd (by decide) hVm hSm (Below.refl _ _) ((hV1 _ _).2 rfl), hcl.did (by intro p hp e; simp at hp; rcases hp with rfl | rfl <;> first | exact absurd e (by decide) | exact hdep ⟨_, .data⟩ (by simp) rfl)⟩))
        | 2, ho =>
          simp only [List.getElem?_cons_succ, List.getElem?_cons_zero, Option.some.injEq] at ho
          subst ho
          simp only [Act.put, List.setIfInBounds_toArray, List.set_cons_zero, List.set_cons_succ] at hK
          have hx1 := hI.1.2 _ _ _ (by omega) (by omega) hown1 HB1.out
          have d1 := hx1.one
          have dl1 := hx1.lt
          refine wpOp_step rfl fun K' hK' => ?_
          go_simp
          exact hK' _ _ (hK _ _ (⟨hI.quiet hRel hnd (by decide) hVm hSm (Below.refl _ _) ((hV2 _ _).2 rfl), hcl.did (by intro p hp e; simp at hp; rcases hp with rfl | rfl <;> first | exact absurd e (by decide) | exact hdep ⟨_, .data⟩ (by simp) rfl)⟩))
        | 3, ho =>
          simp only [List.getElem?_cons_succ, List.getElem?_cons_zero, Option.some.injEq] at ho
          subst ho
          simp only [Act.put, List.setIfInBounds_toArray, List.set_cons_zero, List.set_cons_succ] at hK
          have e2 := (hV2 _ _).1 (hI.know (hdep ⟨2, .data⟩ (by simp) rfl))
          simp only [e2] at hK
          obtain ⟨s1, s2, s3, s4⟩ := (hS0 _ _).1 (hI.at_ (k := 0) rfl hnd (.inl rfl))
          refine wpOp_step rfl fun K' hK' => ?_
          go_simp
          refine (HE2.out _ P g c s1).mono ?_
          rintro e w5 ⟨v, rfl, hv, hp5, hg5⟩
          obtain ⟨T, x, rfl⟩ : ∃ T u, v = .iface T u := by obtain ⟨T, u, f, e, -⟩ := hv; exact ⟨T, u, e⟩
          have hbl := s2.lt
          exact hK' _ _ (hK _ _ (⟨hI.step hRel (k := 0) rfl hnd (.inl rfl) (by decide) hVm (exRel_one hg5) (hV3 _ _) ((hS1 _ _).2 (⟨hp5, s2.grown hg5 (by intro e; injection e; omega), s3.beside hg5 (fun j e => by injection e; omega) (by omega), grownBy_trans s4 hg5, T, x, by rw [upd_same], w5, _, hv, ⟨Nat.le_refl _, fun _ _ _ => rfl⟩, by omega, fun j e => .inl (by have := (s3.own.lt j e).2; omega)⟩)), hcl.did (by intro p hp e; simp at hp; rcases hp with rfl | rfl <;> first | exact absurd e (by decide) | exact hdep ⟨_, .data⟩ (by simp) rfl)⟩))
        | 4, ho =>
          simp only [List.getElem?_cons_succ, List.getElem?_cons_zero, Option.some.injEq] at ho
          subst ho
          simp only [Act.put, List.setIfInBounds_toArray, List.set_cons_zero, List.set_cons_succ] at hK
          obtain ⟨s1, s2, s3, s4, T, x, e3, s5⟩ := (hS1 _ _).1 (hI.at_ (k := 1) rfl hnd (.inr ⟨3, rfl, hdep ⟨3, .data⟩ (by simp) rfl⟩))
          simp only [e3] at hK
          refine wpOp_step rfl fun K' hK' => ?_
          go_simp
          exact hK' _ _ (hK _ _ (⟨hI.step hRel (k := 1) rfl hnd (.inr ⟨3, rfl, hdep ⟨3, .data⟩ (by simp) rfl⟩) (by decide) hVm (hRel.below (below_one _ _)) (hV4 _ _) ((hS2 _ _).2 (⟨s1.below (below_one _ _), s2.alloc _, s3.below (below_one _ _), grownBy_then s4 (below_one _ _), T, x, _, by rw [upd_same], Box.new _ _ _, s5.beside (row := none) (grownBy_of_below (below_one _ _) (Nat.le_refl _)) (fun j e => by cases e)⟩)), hcl.did (by intro p hp e; simp at hp; rcases hp with rfl | rfl <;> first | exact absurd e (by decide) | exact hdep ⟨_, .data⟩ (by simp) rfl)⟩))
        | 5, ho =>
          simp only [List.getElem?_cons_succ, List.getElem?_cons_zero, Option.some.injEq] at ho
          subst ho
          simp only [Act.put, List.setIfInBounds_toArray, List.set_cons_zero, List.set_cons_succ] at hK
          have e1 := (hV1 _ _).1 (hI.know (hdep ⟨1, .data⟩ (by simp) rfl))
          obtain ⟨s1, s2, s3, s4, T, x, g4, e4, s5, s6⟩ := (hS2 _ _).1 (hI.at_ (k := 2) rfl hnd (.inr ⟨4, rfl, hdep ⟨4, .data⟩ (by simp) rfl⟩))
          have hbl := s2.lt
          refine wpOp_step rfl fun K' hK' => ?_
          refine step_append_rows wr rfl 156 93 1 16 rowed_expr rfl _ _ (by rfl) (b + 1) 2 (.slice lA 2 lc) (([] ++ [x0]) ++ [x1]) (by simpa [Act.eval] using e1) s3.own (some ⟨g4, 0, none⟩) 1 1 [.iface T x] (by simpa [Act.eval] using e4) (fun e => by cases e) (by omega) (cellsAt_box s5) (by simp [Value.oneCell']) rfl (by omega) (by omega) ?_
          intro A5 c5 w5 hown5 hgrow hat
          have hnb : ∀ j, j ≤ b → ((Value.slice lA 2 lc).ownBlock) ≠ some j := fun j hj e => by have := (s3.own.lt j e).1; omega
          exact hK' _ _ (hK _ _ (⟨hI.step hRel (k := 2) rfl hnd (.inr ⟨4, rfl, hdep ⟨4, .data⟩ (by simp) rfl⟩) (by decide) hVm (exRel_own hgrow) (hV5 _ _) ((hS3 _ _).2 (⟨pat_row s1 hgrow (hnb P (by omega)) (by have := s1.2.1; exact hnb g (by omega)), s2.grown hgrow (hnb b (Nat.le_refl _)), grownBy_row s4 hgrow (fun j e => by have := (s3.own.lt j e).1; omega), A5, c5, _, by rw [upd_same], s3.snoc hown5 hgrow hat s6⟩)), hcl.did (by intro p hp e; simp at hp; rcases hp with rfl | rfl <;> first | exact absurd e (by decide) | exact hdep ⟨_, .data⟩ (by simp) rfl)⟩))
        | 6, ho =>
          simp only [List.getElem?_cons_succ, List.getElem?_cons_zero, Option.some.injEq] at ho
          subst ho
          simp only [Act.put, List.setIfInBounds_toArray, List.set_cons_zero, List.set_cons_succ] at hK
          refine wpOp_step rfl fun K' hK' => ?_
          go_simp
          exact hK' _ _ (hK _ _ (⟨hI.quiet hRel hnd (by decide) hVm hSm (Below.refl _ _) ((hV6 _ _).2 rfl), hcl.did (by intro p hp e; simp at hp; rcases hp with rfl | rfl <;> first | exact absurd e (by decide) | exact hdep ⟨_, .data⟩ (by simp) rfl)⟩))
        | 7, ho =>
          simp only [List.getElem?_cons_succ, List.getElem?_cons_zero, Option.some.injEq] at ho
          subst ho
          simp only [Act.put, List.setIfInBounds_toArray, List.set_cons_zero, List.set_cons_succ] at hK
          have e6 := (hV6 _ _).1 (hI.know (hdep ⟨6, .data⟩ (by simp) rfl))
          obtain ⟨s1, s2, s4, A5, c5, x, e5, s6⟩ := (hS3 _ _).1 (hI.at_ (k := 3) rfl hnd (.inr ⟨5, rfl, hdep ⟨5, .data⟩ (by simp) rfl⟩))
          simp only [e5, e6] at hK
          have hbl := s2.lt
          have c4 := s2.cell 4
          have cf := Box.frozen s2 4
          simp at c4
          refine wpOp_step rfl fun K' hK' => ?_
          go_simp
          have hst : Box (wr.setCell ⟨b, 4, none⟩ (.slice A5 3 c5)) b 158 #[.int .i64 6, .int .i64 0, .int .i64 0, .int .i64 1, .slice A5 3 c5] := by simpa using s2.store 4 (.slice A5 3 c5)
          exact hK' _ _ (hK _ _ (⟨hI.step (v := .nilIface) hRel (k := 3) rfl hnd (.inr ⟨5, rfl, hdep ⟨5, .data⟩ (by simp) rfl⟩) (by decide) hVm (exRel_two (grownBy_setCell _ _ _ _)) (hV7 _ _) ((hS4 _ _).2 (⟨s1.far (grownBy_setCell _ _ _ _) (by omega), grownBy_after s4 (grownBy_setCell _ _ _ _) (by omega), A5, c5, x, hst, s6.beside (grownBy_setCell _ _ _ _) (fun j e => by injection e; omega) (by omega)⟩)), hcl.did (by intro p hp e; simp at hp; rcases hp with rfl | rfl <;> first | exact absurd e (by decide) | exact hdep ⟨_, .data⟩ (by simp) rfl)⟩))
        | i + 8, ho => simp at ho
      case fin =>
        simp only [putAll, Act.put, List.setIfInBounds_toArray, List.set_cons_zero, List.set_cons_succ, Nat.reduceAdd, Nat.zero_add]
        intro done u wr hd hIC
        obtain ⟨hI, -⟩ := hIC
        simp only [List.length_cons, List.length_nil, Nat.reduceAdd, Nat.zero_add] at hd
        have hS := (hS4 _ _).1 (hI.end_ (fun c hc => hd c (by simp at hc; omega)))
        obtain ⟨s1, s4, A2, c2, x2, s2, s6⟩ := hS
        have hI1 := hI.1
        obtain ⟨y2, rfl⟩ : ∃ X : World, X = wr := ⟨_, rfl⟩
        have hB7 := HB1.out
        have hB8 := HB2.out
        have HB1 := Lib.hid (hI1.2 _ _ _ (by omega) (by omega) hown1 hB7)
        have HB2 := Lib.hid (hI1.2 _ _ _ (by omega) (by omega) hown2 hB8)
        clear hown1 hown2 hB7 hB8 hI1 hI hd hVm hSm hS0 hS1 hS2 hS3 hS4 hRel hV0 hV1 hV2 hV3 hV4 hV5 hV6 hV7
        have HS1 := Lib.hid s1
        have HS2 := Lib.hid s2
        have HS4 := Lib.hid s4
        have HS6 := Lib.hid s6
        have d1 := HB1.out.one
        have dl1 := HB1.out.lt
        clear s1 s2 s4 s6
        go_wp2_with fail
        refine (HK2.out _ HS1.out).mono ?_
        rintro e w8 ⟨rfl, nk, rfl⟩
        clear d1 dl1
        have d1 := (HB1.out.drewN nk).one
        have dl1 := (HB1.out.drewN nk).lt
        go_wp2_with fail
        refine (HN3.out _ (HS1.out.drewN nk)).mono ?_
        rintro e w9 ⟨rfl, hp9, hg9⟩
        have hg9 := grownBy_trans (grownBy_draws y2 nk _) hg9
        have hx9 := HS2.out.grown hg9 (by intro e; injection e; omega)
        have hl9 := HS6.out.beside hg9 (fun j e => by injection e; omega) (by omega)
        have hw9 := grownBy_trans HS4.out hg9
        have hb9 := HB1.out.grown hg9 (by intro e; injection e; omega)
        have hb10 := HB2.out.grown hg9 (by intro e; injection e; omega)
        obtain ⟨f0, f1, f2, f3, f4⟩ := hx9.five
        have fl := hx9.lt
        obtain ⟨r0, r1, r2, r3, r4⟩ := hb10.five
        have q0 := Box.frozen hb10 0
        have q1 := Box.frozen hb10 1
        have q2 := Box.frozen hb10 2
        have q3 := Box.frozen hb10 3
        have q4 := Box.frozen hb10 4
        have ql := hb10.lt
        clear d1 dl1 hg9
        go_wp2_with fail
        have hg5 := grownBy_five w9 (w.heap.size + 1) (.int .i64 6) (.int .i64 0) (.int .i64 0) (.int .i64 1) (.slice A2 3 c2)
        have hz : Box (((((w9.setCell ⟨w.heap.size + 1, 0, none⟩ (.int .i64 6)).setCell ⟨w.heap.size + 1, 1, none⟩ (.int .i64 0)).setCell ⟨w.heap.size + 1, 2, none⟩ (.int .i64 0)).setCell ⟨w.heap.size + 1, 3, none⟩ (.int .i64 1)).setCell ⟨w.heap.size + 1, 4, none⟩ (.slice A2 3 c2)) (w.heap.size + 1) 158 #[.int .i64 6, .int .i64 0, .int .i64 0, .int .i64 1, .slice A2 3 c2] := by simpa using ((((hb10.store 0 (.int .i64 6)).store 1 (.int .i64 0)).store 2 (.int .i64 0)).store 3 (.int .i64 1)).store 4 (.slice A2 3 c2)
        have hp10 := hp9.far hg5 (by omega)
        have hb11 := hb9.grown hg5 (by intro e; injection e; omega)
        have hl10 := hl9.beside hg5 (fun j e => by injection e; omega) (by omega)
        have hw10 := grownBy_after hw9 hg5 (by omega)
        refine leaves_cons (f := 137) (args := #[.pointer (some ⟨w.heap.size, 0, none⟩)]) (by simp) (by simp [go_sem]) ?_
        refine (less_any hp10 hb11 (by omega)).mono ?_
        rintro e u' w'' ⟨rfl, rfl, hp11, hg11⟩
        have hz2 := hz.grown hg11 (by intro e; injection e; omega)
        have hl11 := hl10.beside hg11 (fun j e => by injection e; omega) (by omega)
        obtain ⟨g0, g1, g2, g3, g4⟩ := hz2.five
        have gl := hz2.lt
        simp [Leaves, settle, results, Tryz.results116, go_sem, g0, g1, g2, g3, g4, gl]
        exact ⟨_, _, _, rfl, hl11.done (T := w.heap.size - 1) (by omega) (by omega) (by omega), hp11, grownBy_trans hw10 hg11⟩

set_option maxRecDepth 100000 in
set_option maxHeartbeats 4000000 in
theorem fn_written {toks : List Tok} {at_ wi m0 m1 m2 : Nat} {n0 n1 n2 : List Nd} {t0 tc td te : Tok} (ht0 : toks[at_]? = some t0) (hk0 : t0.k = 14) (hE0 : ExprAt toks (at_ + 1) (wi + 1) m0 n0) (htc : toks[m0]? = some tc) (hkc : tc.k = 16) (hE1 : ExprAt toks (m0 + 1) (wi + 1) m1 n1) (htd : toks[m1]? = some td) (hkd : td.k = 17)
    (hE2 : ExprAt toks (m1 + 1) (wi + 1) m2 n2) (hte : toks[m2]? = some te) (hke : te.k = 15) (hwi : wi ≤ 90) (hlt : at_ < m1) : FnAt toks at_ wi (m2 + 1) 6 0 0 1 [n0, n1, n2] := by
  intro w P g c h
  have hbl := below_one w (.cells zeroFn 158)
  have HP := Lib.hid (h.below hbl)
  have hKE : kindAt toks at_ = 14 := (kindAt_some ht0).trans hk0
  have HK := Lib.hid (kind_any HP.out)
  rw [hKE] at HK
  have HW := Lib.hid (fun (W : World) (hW : PAt W P g c toks at_ wi) => written_any ht0 hk0 hE0 htc hkc hE1 htd hkd hE2 hte hke hwi hlt W P g c hW)
  have hPl := h.1.lt
  have HX := Lib.hid (Box.new w 158 zeroFn)
  have HBL := Lib.hid hbl
  clear h ht0 hk0 hE0 htc hkc hE1 htd hkd hE2 hte hke hKE hbl
  go_enter Tryz.func93, Tryz.ntmps93
  go_wp2_with fail
  refine HK.out.mono ?_
  rintro e w1 ⟨rfl, n, rfl⟩
  go_wp2_with fail
  refine (HW.out _ (HP.out.drewN n)).mono ?_
  rintro e w2 ⟨A, k, cc, rfl, hes, hp2, hg2⟩
  have hg2 : (w.alloc (.cells zeroFn 158)).grownBy w2 (some P) := grownBy_trans (grownBy_draws _ n _) hg2
  have x2 := HX.out.grown hg2 (by intro e; injection e; omega)
  obtain ⟨c0, c1, c2, c3, c4⟩ := x2.five
  have q0 := Box.frozen x2 0
  have q1 := Box.frozen x2 1
  have q2 := Box.frozen x2 2
  have q3 := Box.frozen x2 3
  have q4 := Box.frozen x2 4
  have xl := x2.lt
  have HES := Lib.hid (show IsExprs w2 w.heap.size (.slice A k cc) [n0, n1, n2] from hes.low (by simp))
  have HP2 := Lib.hid hp2
  have HG2 := Lib.hid (grownBy_trans (grownBy_of_below (row := some P) HBL.out (Nat.le_refl _)) hg2)
  have X2 := Lib.hid x2
  clear hes hp2 hg2 x2
  go_wp2_with fail
  have hg5 := grownBy_five w2 w.heap.size (.int .i64 6) (.int .i64 0) (.int .i64 0) (.int .i64 1) (.slice A k cc)
  have hz : Box (((((w2.setCell ⟨w.heap.size, 0, none⟩ (.int .i64 6)).setCell ⟨w.heap.size, 1, none⟩ (.int .i64 0)).setCell ⟨w.heap.size, 2, none⟩ (.int .i64 0)).setCell ⟨w.heap.size, 3, none⟩ (.int .i64 1)).setCell ⟨w.heap.size, 4, none⟩ (.slice A k cc)) w.heap.size 158 #[.int .i64 6, .int .i64 0, .int .i64 0, .int .i64 1, .slice A k cc] := by simpa using ((((X2.out.store 0 (.int .i64 6)).store 1 (.int .i64 0)).store 2 (.int .i64 0)).store 3 (.int .i64 1)).store 4 (.slice A k cc)
  obtain ⟨g0, g1, g2, g3, g4⟩ := hz.five
  have gl := hz.lt
  refine bodyPost_ret (v := .agg #[.int .i64 6, .int .i64 0, .int .i64 0, .int .i64 1, .slice A k cc]) (by simp [results, Tryz.results93, go_sem, g0, g1, g2, g3, g4, gl]; first | done | rfl) rfl ?_
  exact ⟨A, k, cc, rfl, (HES.out.grown hg5 (Nat.le_refl _)).low (by omega), HP2.out.far hg5 (by omega), grownBy_after HG2.out hg5 (Nat.le_refl _)⟩

end Go.Proofs.YtihndbkaoejnnaaGreatDoor

namespace Go.Proofs.YtihndbkaoejnnaaGreatDoor
open Go Go.RowKit Go.Proofs.YtihndbkaoejnnaaGreatDoor.P

theorem cellsAt_box2 {w : World} {g : Nat} {t : TypeId} {u v : Value} (h : Box w g t #[u, v]) : CellsAt w (some ⟨g, 0, none⟩) [u, v] := by
  intro j x hj
  match j, hj with
  | 0, hj =>
    simp at hj
    subst hj
    exact ⟨_, rfl, h.lt, h.cell 0⟩
  | 1, hj =>
    simp at hj
    subst hj
    exact ⟨_, rfl, h.lt, h.cell 1⟩
  | j + 2, hj => simp at hj
theorem wat_row {w w' : World} {K M g c : Nat} {ns : List Nd} {at_ wi : Nat} {row : Option Nat} (h : WAt w K M g c ns at_ wi) (hg : w.grownBy w' row) (h1 : row ≠ some K) (h2 : ∀ j, j < M → row ≠ some j) : WAt w' K M g c ns at_ wi := by
  cases row with
  | none => exact h.below ⟨hg.os, hg.tape, hg.output, hg.size, fun k hk => hg.block k hk (by simp)⟩
  | some k => exact ⟨h.1.grown hg h1, h.2.1, h.2.2.1.grown hg (Nat.le_of_not_lt fun hk => h2 k hk rfl), h.2.2.2⟩

set_option maxRecDepth 100000 in
set_option maxHeartbeats 16000000 in
theorem wfnAt_dfn {ns : List Nd} {at_ wi m0 m1 m2 : Nat} {x : Nd} (h6 : x.aop = 6) (hn : x.n = 1) (hE0 : WExpr ns at_ (wi + 1) m0) (hE1 : WExpr ns m0 (wi + 1) m1) (hE2 : WExpr ns m1 (wi + 1) m2) (hwi : wi ≤ 90) : WFnAt ns at_ wi m2 x := by
  intro w K M g c A nc hst hK20 h
  obtain ⟨op, aop, af, ag, n, xs, s⟩ := x
  simp only [] at h6 hn ⊢
  subst h6 hn
  have hm := mixedZ
  have hKl := h.1.lt
  have hMK := h.2.1
  have HE0 := Lib.hid hE0
  have HE1 := Lib.hid hE1
  have HE2 := Lib.hid hE2
  have HST := Lib.hid hst
  have hb3 := below_three w (.cells #[.int .i64 op, .int .i64 6, .int .i64 af, .int .i64 ag, .int .i64 1, .slice A 0 nc, .string ⟨#[]⟩] 101) (.cells zeroFn 158) (.cells #[.int .i64 6, .int .i64 af, .int .i64 ag, .int .i64 1, .slice none 0 0] 158)
  have x1 := ((Box.new w 101 #[.int .i64 op, .int .i64 6, .int .i64 af, .int .i64 ag, .int .i64 1, .slice A 0 nc, .string ⟨#[]⟩]).alloc (.cells zeroFn 158)).alloc (.cells #[.int .i64 6, .int .i64 af, .int .i64 ag, .int .i64 1, .slice none 0 0] 158)
  have x2 := (Box.new (w.alloc (.cells #[.int .i64 op, .int .i64 6, .int .i64 af, .int .i64 ag, .int .i64 1, .slice A 0 nc, .string ⟨#[]⟩] 101)) 158 zeroFn).alloc (.cells #[.int .i64 6, .int .i64 af, .int .i64 ag, .int .i64 1, .slice none 0 0] 158)
  have x3 := Box.new ((w.alloc (.cells #[.int .i64 op, .int .i64 6, .int .i64 af, .int .i64 ag, .int .i64 1, .slice A 0 nc, .string ⟨#[]⟩] 101)).alloc (.cells zeroFn 158)) 158 #[.int .i64 6, .int .i64 af, .int .i64 ag, .int .i64 1, .slice none 0 0]
  simp only [World.size_alloc] at x2 x3
  have hp := h.below hb3
  obtain ⟨e0, e1, e2⟩ := Box.three h.1
  have ef := Box.frozen h.1 2
  have k3 := fun o p q => Box.below h.1 (below_three w o p q)
  have d3 := fun o p q => (k3 o p q).cell 2
  have f3 := fun o p q => Box.frozen (k3 o p q) 2
  have l3 := fun o p q => (k3 o p q).lt
  simp at d3
  clear k3
  clear h hE0 hE1 hE2 hst
  have X1 := Lib.hid x1
  have X2 := Lib.hid x2
  have X3 := Lib.hid x3
  have HB3 := Lib.hid hb3
  have HP := Lib.hid hp
  clear x1 x2 x3 hb3 hp
  go_enter Tryz.func119, Tryz.ntmps119
  go_wp2_with fail
  try rw [show (((wi : Nat) : Int) + 1) = ((wi + 1 : Nat) : Int) by simp]
  have x1 := X1.out
  have x2 := X2.out
  have x3 := X3.out
  have hb3 := HB3.out
  have hp := HP.out
  obtain ⟨W0, hW0⟩ : ∃ W, W = ((w.alloc (.cells #[.int .i64 op, .int .i64 6, .int .i64 af, .int .i64 ag, .int .i64 1, .slice A 0 nc, .string ⟨#[]⟩] 101)).alloc (.cells zeroFn 158)).alloc (.cells #[.int .i64 6, .int .i64 af, .int .i64 ag, .int .i64 1, .slice none 0 0] 158) := ⟨_, rfl⟩
  try rw [← hW0]
  rw [← hW0] at hb3 x1 x2 x3 hp
  obtain ⟨b, hb⟩ : ∃ b, b = w.heap.size + 1 + 1 := ⟨_, rfl⟩
  rw [← hb] at x3
  try rw [← hb]
  clear hW0 X1 X2 X3 HB3 HP e0 e1 e2 ef d3 f3 l3
  have hgs := grownBy_setCell W0 K 2 (.int .i64 ((wi + 1 : Nat) : Int))
  have hps : WAt (W0.setCell ⟨K, 2, none⟩ (.int .i64 ((wi + 1 : Nat) : Int))) K M g c ns at_ (wi + 1) := hp.move hgs (by simpa using hp.1.store 2 (.int .i64 ((wi + 1 : Nat) : Int))) hp.2.2.2.1 (by omega)
  have HPW := Lib.hid hps
  have HB1 := Lib.hid (x1.grown hgs (by intro e; injection e; omega))
  have HB2 := Lib.hid (x2.grown hgs (by intro e; injection e; omega))
  have HFB := Lib.hid (x3.grown hgs (by intro e; injection e; omega))
  have HGW := Lib.hid (grownBy_trans (grownBy_of_below (row := some K) hb3 (Nat.le_refl _)) hgs)
  obtain ⟨W, hW⟩ : ∃ W, W = W0.setCell ⟨K, 2, none⟩ (.int .i64 ((wi + 1 : Nat) : Int)) := ⟨_, rfl⟩
  rw [← hW] at HPW HB1 HB2 HFB HGW ⊢
  clear hW hgs hps x1 x2 x3 hb3 hp
  have hbw : w.heap.size + 2 ≤ b := by omega
  clear hb
  go_loopw [34] (fun s34 wr => (s34 = .int .i64 0 ∧ wr = W) ∨ (s34 = .int .i64 1 ∧ ∃ A0 c0 us0, WAt wr K M g c ns m1 (wi + 1) ∧ Box wr b 158 #[.int .i64 6, .int .i64 af, .int .i64 ag, .int .i64 1, .slice A0 2 c0] ∧ wr.ownsRow (b + 1) 93 1 (.slice A0 2 c0) 2 us0 ∧ w.grownBy wr (some K) ∧ Box wr w.heap.size 101 #[.int .i64 op, .int .i64 6, .int .i64 af, .int .i64 ag, .int .i64 1, .slice A 0 nc, .string ⟨#[]⟩] ∧ Box wr (w.heap.size + 1) 158 zeroFn)) (fun s34 _ => 1 - (intOf s34).toNat)
  case atStart => exact .inl ⟨rfl, rfl⟩
  case round =>
    rcases hrel with ⟨rfl, hrW⟩ | ⟨rfl, A0, c0, us0, hp, hfb, hls, hg, hb1, hb2⟩
    · have hrW2 := hrW.symm
      clear hrW
      subst hrW2
      go_wp2_with fail
      have hRel : Rels (ExRel K b (Value.slice none 0 0).ownBlock) := exRels K b _
      obtain ⟨V, hVe⟩ : ∃ V : Nat → Value → World → Prop, V = fun i v w' => match i with
          | 0 => v = .pointer (some ⟨b, 4, none⟩)
          | 1 => v = .slice none 0 0
          | 2 => v = .pointer (some ⟨K, 0, none⟩)
          | 4 => v = .pointer (some ⟨K, 0, none⟩)
          | 8 => v = .pointer (some ⟨b, 4, none⟩)
          | _ => True := ⟨_, rfl⟩
      have hVm : ∀ j v w1 w2, V j v w1 → (ExRel K b (Value.slice none 0 0).ownBlock) w1 w2 → V j v w2 := by
        intro j v w1 w2 h hr
        subst hVe
        match j, h with
        | 0, h => exact h
        | 1, h => exact h
        | 2, h => exact h
        | 3, _ => trivial
        | 4, h => exact h
        | 5, _ => trivial
        | 6, _ => trivial
        | 7, _ => trivial
        | 8, h => exact h
        | i + 9, _ => trivial
      have hV0 : ∀ v w', V 0 v w' ↔ v = .pointer (some ⟨b, 4, none⟩) := fun _ _ => by subst hVe; rfl
      have hV1 : ∀ v w', V 1 v w' ↔ v = .slice none 0 0 := fun _ _ => by subst hVe; rfl
      have hV2 : ∀ v w', V 2 v w' ↔ v = .pointer (some ⟨K, 0, none⟩) := fun _ _ => by subst hVe; rfl
      have hV4 : ∀ v w', V 4 v w' ↔ v = .pointer (some ⟨K, 0, none⟩) := fun _ _ => by subst hVe; rfl
      have hV8 : ∀ v w', V 8 v w' ↔ v = .pointer (some ⟨b, 4, none⟩) := fun _ _ => by subst hVe; rfl
      have hV3 : ∀ v w', V 3 v w' := fun _ _ => by subst hVe; trivial
      have hV5 : ∀ v w', V 5 v w' := fun _ _ => by subst hVe; trivial
      have hV6 : ∀ v w', V 6 v w' := fun _ _ => by subst hVe; trivial
      have hV7 : ∀ v w', V 7 v w' := fun _ _ => by subst hVe; trivial
      have hV9 : ∀ v w', V 9 v w' := fun _ _ => by subst hVe; trivial
      obtain ⟨St, hSe⟩ : ∃ St : Nat → (Nat → Value) → World → Prop, St = fun s u w' => match s with
          | 0 => WAt w' K M g c ns at_ (wi + 1) ∧ Box w' b 158 #[.int .i64 6, .int .i64 af, .int .i64 ag, .int .i64 1, .slice none 0 0] ∧ w.grownBy w' (some K)
          | 1 => WAt w' K M g c ns m0 (wi + 1) ∧ Box w' b 158 #[.int .i64 6, .int .i64 af, .int .i64 ag, .int .i64 1, .slice none 0 0] ∧ w.grownBy w' (some K) ∧ ∃ T x, u 3 = .iface T x
          | 2 => WAt w' K M g c ns m1 (wi + 1) ∧ Box w' b 158 #[.int .i64 6, .int .i64 af, .int .i64 ag, .int .i64 1, .slice none 0 0] ∧ w.grownBy w' (some K) ∧ ∃ T x T' x', u 3 = .iface T x ∧ u 5 = .iface T' x'
          | 3 => WAt w' K M g c ns m1 (wi + 1) ∧ Box w' b 158 #[.int .i64 6, .int .i64 af, .int .i64 ag, .int .i64 1, .slice none 0 0] ∧ w.grownBy w' (some K) ∧ ∃ T x T' x' g4, u 6 = .slice (some ⟨g4, 0, none⟩) 2 2 ∧ Box w' g4 93 #[.iface T x, .iface T' x']
          | 4 => WAt w' K M g c ns m1 (wi + 1) ∧ Box w' b 158 #[.int .i64 6, .int .i64 af, .int .i64 ag, .int .i64 1, .slice none 0 0] ∧ w.grownBy w' (some K) ∧ ∃ A5 c5 us, u 7 = .slice A5 2 c5 ∧ w'.ownsRow (b + 1) 93 1 (.slice A5 2 c5) 2 us
          | 5 => WAt w' K M g c ns m1 (wi + 1) ∧ w.grownBy w' (some K) ∧ ∃ A5 c5 us, Box w' b 158 #[.int .i64 6, .int .i64 af, .int .i64 ag, .int .i64 1, .slice A5 2 c5] ∧ w'.ownsRow (b + 1) 93 1 (.slice A5 2 c5) 2 us
          | _ => False := ⟨_, rfl⟩
      have hSm : ∀ s u u' w1 w2, (∀ c ∈ [3, 5, 6, 7, 9], u' c = u c) → St s u w1 → Below w1.heap.size w1 w2 → St s u' w2 := by
        intro s u u' w1 w2 hu h hb
        subst hSe
        match s, h with
        | 0, ⟨h1, h2, h4⟩ => exact ⟨h1.below hb, h2.below hb, grownBy_then h4 hb⟩
        | 1, ⟨h1, h2, h4, T, x, e⟩ => exact ⟨h1.below hb, h2.below hb, grownBy_then h4 hb, T, x, by rw [hu 3 (by decide)]; exact e⟩
        | 2, ⟨h1, h2, h4, T, x, T', x', e, e'⟩ => exact ⟨h1.below hb, h2.below hb, grownBy_then h4 hb, T, x, T', x', by rw [hu 3 (by decide)]; exact e, by rw [hu 5 (by decide)]; exact e'⟩
        | 3, ⟨h1, h2, h4, T, x, T', x', g4, e, h5⟩ => exact ⟨h1.below hb, h2.below hb, grownBy_then h4 hb, T, x, T', x', g4, by rw [hu 6 (by decide)]; exact e, h5.below hb⟩
        | 4, ⟨h1, h2, h4, A5, c5, us, e, h5⟩ => exact ⟨h1.below hb, h2.below hb, grownBy_then h4 hb, A5, c5, us, by rw [hu 7 (by decide)]; exact e, ownsR_below h5 hb⟩
        | 5, ⟨h1, h4, A5, c5, us, h2, h5⟩ => exact ⟨h1.below hb, grownBy_then h4 hb, A5, c5, us, h2.below hb, ownsR_below h5 hb⟩
        | s + 6, h => exact h.elim
      have hS0 : ∀ u w', St 0 u w' ↔ (WAt w' K M g c ns at_ (wi + 1) ∧ Box w' b 158 #[.int .i64 6, .int .i64 af, .int .i64 ag, .int .i64 1, .slice none 0 0] ∧ w.grownBy w' (some K)) := fun _ _ => by subst hSe; rfl
      have hS1 : ∀ u w', St 1 u w' ↔ (WAt w' K M g c ns m0 (wi + 1) ∧ Box w' b 158 #[.int .i64 6, .int .i64 af, .int .i64 ag, .int .i64 1, .slice none 0 0] ∧ w.grownBy w' (some K) ∧ ∃ T x, u 3 = .iface T x) := fun _ _ => by subst hSe; rfl
      have hS2 : ∀ u w', St 2 u w' ↔ (WAt w' K M g c ns m1 (wi + 1) ∧ Box w' b 158 #[.int .i64 6, .int .i64 af, .int .i64 ag, .int .i64 1, .slice none 0 0] ∧ w.grownBy w' (some K) ∧ ∃ T x T' x', u 3 = .iface T x ∧ u 5 = .iface T' x') := fun _ _ => by subst hSe; rfl
      have hS3 : ∀ u w', St 3 u w' ↔ (WAt w' K M g c ns m1 (wi + 1) ∧ Box w' b 158 #[.int .i64 6, .int .i64 af, .int .i64 ag, .int .i64 1, .slice none 0 0] ∧ w.grownBy w' (some K) ∧ ∃ T x T' x' g4, u 6 = .slice (some ⟨g4, 0, none⟩) 2 2 ∧ Box w' g4 93 #[.iface T x, .iface T' x']) := fun _ _ => by subst hSe; rfl
      have hS4 : ∀ u w', St 4 u w' ↔ (WAt w' K M g c ns m1 (wi + 1) ∧ Box w' b 158 #[.int .i64 6, .int .i64 af, .int .i64 ag, .int .i64 1, .slice none 0 0] ∧ w.grownBy w' (some K) ∧ ∃ A5 c5 us, u 7 = .slice A5 2 c5 ∧ w'.ownsRow (b + 1) 93 1 (.slice A5 2 c5) 2 us) := fun _ _ => by subst hSe; rfl
      have hS5 : ∀ u w', St 5 u w' ↔ (WAt w' K M g c ns m1 (wi + 1) ∧ w.grownBy w' (some K) ∧ ∃ A5 c5 us, Box w' b 158 #[.int .i64 6, .int .i64 af, .int .i64 ag, .int .i64 1, .slice A5 2 c5] ∧ w'.ownsRow (b + 1) 93 1 (.slice A5 2 c5) 2 us) := fun _ _ => by subst hSe; rfl
      clear hVe hSe
      refine wp_region_inv (fun done u w => ChainInv (ExRel K b (Value.slice none 0 0).ownBlock) V [3, 5, 6, 7, 9] St W done u w ∧ Waits [(9, 7), (7, 1)] done) (by kernel_rfl) (by kernel_rfl) (by kernel_rfl) ?start ?step ?fin
      case start => exact fun u => ⟨ChainInv.start hRel (Below.refl _ _).drew ((hS0 _ _).2 (⟨HPW.out.drewN 1, HFB.out.drewN 1, grownBy_then HGW.out (below_draws _ _ _)⟩)), fun p _ e => by simp at e⟩
      case step =>
        simp only [putAll, Act.put, List.setIfInBounds_toArray, List.set_cons_zero, List.set_cons_succ, Nat.reduceAdd, Nat.zero_add]
        intro i o ho done u wr hnd hdep hIC K0 hK
        obtain ⟨hI, hcl⟩ := hIC
        match i, ho with
        | 0, ho =>
          simp only [List.getElem?_cons_zero, Option.some.injEq] at ho
          subst ho
          simp only [Act.put, List.setIfInBounds_toArray, List.set_cons_zero, List.set_cons_succ] at hK
          refine wpOp_step rfl fun K' hK' => ?_
          go_simp
          exact hK' _ _ (hK _ _ (⟨hI.quiet hRel hnd (by decide) hVm hSm (Below.refl _ _) ((hV0 _ _).2 rfl), hcl.did (by intro p hp e; simp at hp; rcases hp with rfl | rfl <;> first | exact absurd e (by decide) | exact hdep ⟨_, .data⟩ (by simp) rfl)⟩))
        | 1, ho =>
          simp only [List.getElem?_cons_succ, List.getElem?_cons_zero, Option.some.injEq] at ho
          subst ho
          simp only [Act.put, List.setIfInBounds_toArray, List.set_cons_zero, List.set_cons_succ] at hK
          have e0 := (hV0 _ _).1 (hI.know (hdep ⟨0, .data⟩ (by simp) rfl))
          simp only [e0] at hK
          have hbx : Box wr b 158 #[.int .i64 6, .int .i64 af, .int .i64 ag, .int .i64 1, .slice none 0 0] := by
            obtain ⟨-, -, s, h3, h4, h5⟩ := hI
            match s, h3, h4, h5 with
            | 0, _, _, h5 => exact ((hS0 _ _).1 h5).2.1
            | 1, _, _, h5 => exact ((hS1 _ _).1 h5).2.1
            | 2, _, _, h5 => exact ((hS2 _ _).1 h5).2.1
            | 3, _, _, h5 => exact ((hS3 _ _).1 h5).2.1
            | 4, _, _, h5 => exact ((hS4 _ _).1 h5).2.1
            | 5, _, h4, _ =>
              have h7 := h4 4 9 rfl
              have h1 := hcl (7, 1) (by simp) (hcl (9, 7) (by simp) (by simpa using h7))
              rw [h1] at hnd
              cases hnd
            | s + 6, h3, _, _ => simp at h3
          have c4 := hbx.cell 4
          have bl := hbx.lt
          simp at c4
          refine wpOp_step rfl fun K' hK' => ?_
          go_simp
          exact hK' _ _ (hK _ _ (⟨hI.quiet hRel hnd (by decide) hVm hSm (Below.refl _ _) ((hV1 _ _).2 rfl), hcl.did (by intro p hp e; simp at hp; rcases hp with rfl | rfl <;> first | exact absurd e (by decide) | exact hdep ⟨_, .data⟩ (by simp) rfl)⟩))
        | 2, ho =>
          simp only [List.getElem?_cons_succ, List.getElem?_cons_zero, Option.some.injEq] at ho
          subst ho
          simp only [Act.put, List.setIfInBounds_toArray, List.set_cons_zero, List.set_cons_succ] at hK
          refine wpOp_step rfl fun K' hK' => ?_
          go_simp
          exact hK' _ _ (hK _ _ (⟨hI.quiet hRel hnd (by decide) hVm hSm (Below.refl _ _) ((hV2 _ _).2 rfl), hcl.did (by intro p hp e; simp at hp; rcases hp with rfl | rfl <;> first | exact absurd e (by decide) | exact hdep ⟨_, .data⟩ (by simp) rfl)⟩))
        | 3, ho =>
          simp only [List.getElem?_cons_succ, List.getElem?_cons_zero, Option.some.injEq] at ho
          subst ho
          simp only [Act.put, List.setIfInBounds_toArray, List.set_cons_zero, List.set_cons_succ] at hK
          have e2 := (hV2 _ _).1 (hI.know (hdep ⟨2, .data⟩ (by simp) rfl))
          simp only [e2] at hK
          obtain ⟨s1, s2, s4⟩ := (hS0 _ _).1 (hI.at_ (k := 0) rfl hnd (.inl rfl))
          refine wpOp_step rfl fun K' hK' => ?_
          go_simp
          have hs3 : Std wr := HST.out.grown s4 hK20
          refine (HE0.out _ K M g c hs3 hK20 s1).mono ?_
          rintro e w5 ⟨T, x, rfl, hp5, hg5⟩
          have hbl := s2.lt
          exact hK' _ _ (hK _ _ (⟨hI.step hRel (k := 0) rfl hnd (.inl rfl) (by decide) hVm (exRel_one hg5) (hV3 _ _) ((hS1 _ _).2 (⟨hp5, s2.grown hg5 (by intro e; injection e; omega), grownBy_trans s4 hg5, T, x, by rw [upd_same]⟩)), hcl.did (by intro p hp e; simp at hp; rcases hp with rfl | rfl <;> first | exact absurd e (by decide) | exact hdep ⟨_, .data⟩ (by simp) rfl)⟩))
        | 4, ho =>
          simp only [List.getElem?_cons_succ, List.getElem?_cons_zero, Option.some.injEq] at ho
          subst ho
          simp only [Act.put, List.setIfInBounds_toArray, List.set_cons_zero, List.set_cons_succ] at hK
          refine wpOp_step rfl fun K' hK' => ?_
          go_simp
          exact hK' _ _ (hK _ _ (⟨hI.quiet hRel hnd (by decide) hVm hSm (Below.refl _ _) ((hV4 _ _).2 rfl), hcl.did (by intro p hp e; simp at hp; rcases hp with rfl | rfl <;> first | exact absurd e (by decide) | exact hdep ⟨_, .data⟩ (by simp) rfl)⟩))
        | 5, ho =>
          simp only [List.getElem?_cons_succ, List.getElem?_cons_zero, Option.some.injEq] at ho
          subst ho
          simp only [Act.put, List.setIfInBounds_toArray, List.set_cons_zero, List.set_cons_succ] at hK
          have e4 := (hV4 _ _).1 (hI.know (hdep ⟨4, .data⟩ (by simp) rfl))
          simp only [e4] at hK
          obtain ⟨s1, s2, s4, T0, x0, e3⟩ := (hS1 _ _).1 (hI.at_ (k := 1) rfl hnd (.inr ⟨3, rfl, hdep ⟨3, .chain⟩ (by simp) rfl⟩))
          have HE3 := Lib.hid e3
          clear e3
          refine wpOp_step rfl fun K' hK' => ?_
          go_simp
          have hs3 : Std wr := HST.out.grown s4 hK20
          refine (HE1.out _ K M g c hs3 hK20 s1).mono ?_
          rintro e w5 ⟨T, x, rfl, hp5, hg5⟩
          have hbl := s2.lt
          exact hK' _ _ (hK _ _ (⟨hI.step hRel (k := 1) rfl hnd (.inr ⟨3, rfl, hdep ⟨3, .chain⟩ (by simp) rfl⟩) (by decide) hVm (exRel_one hg5) (hV5 _ _) ((hS2 _ _).2 (⟨hp5, s2.grown hg5 (by intro e; injection e; omega), grownBy_trans s4 hg5, T0, x0, T, x, by rw [upd_other _ _ (by decide)]; exact HE3.out, by rw [upd_same]⟩)), hcl.did (by intro p hp e; simp at hp; rcases hp with rfl | rfl <;> first | exact absurd e (by decide) | exact hdep ⟨_, .data⟩ (by simp) rfl)⟩))
        | 6, ho =>
          simp only [List.getElem?_cons_succ, List.getElem?_cons_zero, Option.some.injEq] at ho
          subst ho
          simp only [Act.put, List.setIfInBounds_toArray, List.set_cons_zero, List.set_cons_succ] at hK
          obtain ⟨s1, s2, s4, T, x, T', x', e3, e5⟩ := (hS2 _ _).1 (hI.at_ (k := 2) rfl hnd (.inr ⟨5, rfl, hdep ⟨5, .data⟩ (by simp) rfl⟩))
          simp only [e3, e5] at hK
          refine wpOp_step rfl fun K' hK' => ?_
          go_simp
          exact hK' _ _ (hK _ _ (⟨hI.step hRel (k := 2) rfl hnd (.inr ⟨5, rfl, hdep ⟨5, .data⟩ (by simp) rfl⟩) (by decide) hVm (hRel.below (below_one _ _)) (hV6 _ _) ((hS3 _ _).2 (⟨s1.below (below_one _ _), s2.alloc _, grownBy_then s4 (below_one _ _), T, x, T', x', _, by rw [upd_same], Box.new _ _ _⟩)), hcl.did (by intro p hp e; simp at hp; rcases hp with rfl | rfl <;> first | exact absurd e (by decide) | exact hdep ⟨_, .data⟩ (by simp) rfl)⟩))
        | 7, ho =>
          simp only [List.getElem?_cons_succ, List.getElem?_cons_zero, Option.some.injEq] at ho
          subst ho
          simp only [Act.put, List.setIfInBounds_toArray, List.set_cons_zero, List.set_cons_succ] at hK
          have e1 := (hV1 _ _).1 (hI.know (hdep ⟨1, .data⟩ (by simp) rfl))
          obtain ⟨s1, s2, s4, T, x, T', x', g4, e6, s5⟩ := (hS3 _ _).1 (hI.at_ (k := 3) rfl hnd (.inr ⟨6, rfl, hdep ⟨6, .data⟩ (by simp) rfl⟩))
          have hbl := s2.lt
          refine wpOp_step rfl fun K' hK' => ?_
          refine step_append_rows wr rfl 156 93 1 16 rowed_expr rfl _ _ (by rfl) (b + 1) 0 (.slice none 0 0) [] (by simpa [Act.eval] using e1) (World.ownsRow_nil _ _ _ _) (some ⟨g4, 0, none⟩) 2 2 [.iface T x, .iface T' x'] (by simpa [Act.eval] using e6) (fun e => by cases e) (by omega) (cellsAt_box2 s5) (by simp [Value.oneCell']) rfl (by omega) (by omega) ?_
          intro A5 c5 w5 hown5 hgrow hat
          have hb5 := below_of_none hgrow
          exact hK' _ _ (hK _ _ (⟨hI.step hRel (k := 3) rfl hnd (.inr ⟨6, rfl, hdep ⟨6, .data⟩ (by simp) rfl⟩) (by decide) hVm (hRel.below hb5) (hV7 _ _) ((hS4 _ _).2 (⟨s1.below hb5, s2.below hb5, grownBy_then s4 hb5, A5, c5, _, by rw [upd_same], hown5⟩)), hcl.did (by intro p hp e; simp at hp; rcases hp with rfl | rfl <;> first | exact absurd e (by decide) | exact hdep ⟨_, .data⟩ (by simp) rfl)⟩))
        | 8, ho =>
          simp only [List.getElem?_cons_succ, List.getElem?_cons_zero, Option.some.injEq] at ho
          subst ho
          simp only [Act.put, List.setIfInBounds_toArray, List.set_cons_zero, List.set_cons_succ] at hK
          refine wpOp_step rfl fun K' hK' => ?_
          go_simp
          exact hK' _ _ (hK _ _ (⟨hI.quiet hRel hnd (by decide) hVm hSm (Below.refl _ _) ((hV8 _ _).2 rfl), hcl.did (by intro p hp e; simp at hp; rcases hp with rfl | rfl <;> first | exact absurd e (by decide) | exact hdep ⟨_, .data⟩ (by simp) rfl)⟩))
        | 9, ho =>
          simp only [List.getElem?_cons_succ, List.getElem?_cons_zero, Option.some.injEq] at ho
          subst ho
          simp only [Act.put, List.setIfInBounds_toArray, List.set_cons_zero, List.set_cons_succ] at hK
          have e8 := (hV8 _ _).1 (hI.know (hdep ⟨8, .data⟩ (by simp) rfl))
          obtain ⟨s1, s2, s4, A5, c5, us, e7, s6⟩ := (hS4 _ _).1 (hI.at_ (k := 4) rfl hnd (.inr ⟨7, rfl, hdep ⟨7, .data⟩ (by simp) rfl⟩))
          simp only [e7, e8] at hK
          have hbl := s2.lt
          have c4 := s2.cell 4
          have cf := Box.frozen s2 4
          simp at c4
          refine wpOp_step rfl fun K' hK' => ?_
          go_simp
          have hst : Box (wr.setCell ⟨b, 4, none⟩ (.slice A5 2 c5)) b 158 #[.int .i64 6, .int .i64 af, .int .i64 ag, .int .i64 1, .slice A5 2 c5] := by simpa using s2.store 4 (.slice A5 2 c5)
          exact hK' _ _ (hK _ _ (⟨hI.step (v := .nilIface) hRel (k := 4) rfl hnd (.inr ⟨7, rfl, hdep ⟨7, .data⟩ (by simp) rfl⟩) (by decide) hVm (exRel_two (grownBy_setCell _ _ _ _)) (hV9 _ _) ((hS5 _ _).2 (⟨wat_away s1 (grownBy_setCell _ _ _ _) (by omega), grownBy_after s4 (grownBy_setCell _ _ _ _) (by omega), A5, c5, us, hst, ownsR_away s6 (ownsR_low s6 (Nat.lt_succ_self b)) _⟩)), hcl.did (by intro p hp e; simp at hp; rcases hp with rfl | rfl <;> first | exact absurd e (by decide) | exact hdep ⟨_, .data⟩ (by simp) rfl)⟩))
        | i + 10, ho => simp at ho
      case fin =>
        simp only [putAll, Act.put, List.setIfInBounds_toArray, List.set_cons_zero, List.set_cons_succ, Nat.reduceAdd, Nat.zero_add]
        intro done u wr hd hIC
        obtain ⟨hI, -⟩ := hIC
        simp only [List.length_cons, List.length_nil, Nat.reduceAdd, Nat.zero_add] at hd
        have hS := (hS5 _ _).1 (hI.end_ (fun c hc => hd c (by simp at hc; omega)))
        obtain ⟨s1, s4, A0, c0, us0, s2, s6⟩ := hS
        have hI1 := hI.1
        obtain ⟨y0, rfl⟩ : ∃ X : World, X = wr := ⟨_, rfl⟩
        have hB7 := HB1.out
        have hB8 := HB2.out
        have HB1 := Lib.hid (hI1.2 _ _ _ (by omega) (by omega) (by intro j e; cases e) hB7)
        have HB2 := Lib.hid (hI1.2 _ _ _ (by omega) (by omega) (by intro j e; cases e) hB8)
        clear hB7 hB8 hI1 hI hd hVm hSm hS0 hS1 hS2 hS3 hS4 hS5 hRel hV0 hV1 hV2 hV3 hV4 hV5 hV6 hV7 hV8 hV9
        have HS1 := Lib.hid s1
        have HS2 := Lib.hid s2
        have HS4 := Lib.hid s4
        have HS6 := Lib.hid s6
        clear s1 s2 s4 s6
        go_wp2_with fail
        go_roundw
        case rel => exact .inr ⟨rfl, A0, c0, us0, HS1.out, HS2.out, HS6.out, HS4.out, HB1.out, HB2.out⟩
        case measure => simp [intOf]
    · clear HPW HGW HB1 HB2 HFB
      obtain ⟨Z, rfl⟩ : ∃ X : World, X = wr := ⟨_, rfl⟩
      have HPW := Lib.hid hp
      have HFB := Lib.hid hfb
      have HLS := Lib.hid hls
      have HGW := Lib.hid hg
      have HB1 := Lib.hid hb1
      have HB2 := Lib.hid hb2
      clear hp hfb hls hg hb1 hb2
      go_wp2_with fail
      have hown1 : ∀ j, (Value.slice A0 2 c0).ownBlock = some j → w.heap.size ≠ j := fun j e => by have := (HLS.out.lt j e).1; omega
      have hown2 : ∀ j, (Value.slice A0 2 c0).ownBlock = some j → w.heap.size + 1 ≠ j := fun j e => by have := (HLS.out.lt j e).1; omega
      have hRel : Rels (ExRel K b (Value.slice A0 2 c0).ownBlock) := exRels K b _
      obtain ⟨V, hVe⟩ : ∃ V : Nat → Value → World → Prop, V = fun i v w' => match i with
          | 0 => v = .pointer (some ⟨b, 4, none⟩)
          | 1 => v = .slice A0 2 c0
          | 2 => v = .pointer (some ⟨K, 0, none⟩)
          | 6 => v = .pointer (some ⟨b, 4, none⟩)
          | _ => True := ⟨_, rfl⟩
      have hVm : ∀ j v w1 w2, V j v w1 → (ExRel K b (Value.slice A0 2 c0).ownBlock) w1 w2 → V j v w2 := by
        intro j v w1 w2 h hr
        subst hVe
        match j, h with
        | 0, h => exact h
        | 1, h => exact h
        | 2, h => exact h
        | 3, _ => trivial
        | 4, _ => trivial
        | 5, _ => trivial
        | 6, h => exact h
        | i + 7, _ => trivial
      have hV0 : ∀ v w', V 0 v w' ↔ v = .pointer (some ⟨b, 4, none⟩) := fun _ _ => by subst hVe; rfl
      have hV1 : ∀ v w', V 1 v w' ↔ v = .slice A0 2 c0 := fun _ _ => by subst hVe; rfl
      have hV2 : ∀ v w', V 2 v w' ↔ v = .pointer (some ⟨K, 0, none⟩) := fun _ _ => by subst hVe; rfl
      have hV6 : ∀ v w', V 6 v w' ↔ v = .pointer (some ⟨b, 4, none⟩) := fun _ _ => by subst hVe; rfl
      have hV3 : ∀ v w', V 3 v w' := fun _ _ => by subst hVe; trivial
      have hV4 : ∀ v w', V 4 v w' := fun _ _ => by subst hVe; trivial
      have hV5 : ∀ v w', V 5 v w' := fun _ _ => by subst hVe; trivial
      have hV7 : ∀ v w', V 7 v w' := fun _ _ => by subst hVe; trivial
      obtain ⟨St, hSe⟩ : ∃ St : Nat → (Nat → Value) → World → Prop, St = fun s u w' => match s with
          | 0 => WAt w' K M g c ns m1 (wi + 1) ∧ Box w' b 158 #[.int .i64 6, .int .i64 af, .int .i64 ag, .int .i64 1, .slice A0 2 c0] ∧ w'.ownsRow (b + 1) 93 1 (.slice A0 2 c0) 2 us0 ∧ w.grownBy w' (some K)
          | 1 => WAt w' K M g c ns m2 (wi + 1) ∧ Box w' b 158 #[.int .i64 6, .int .i64 af, .int .i64 ag, .int .i64 1, .slice A0 2 c0] ∧ w'.ownsRow (b + 1) 93 1 (.slice A0 2 c0) 2 us0 ∧ w.grownBy w' (some K) ∧ ∃ T x, u 3 = .iface T x
          | 2 => WAt w' K M g c ns m2 (wi + 1) ∧ Box w' b 158 #[.int .i64 6, .int .i64 af, .int .i64 ag, .int .i64 1, .slice A0 2 c0] ∧ w'.ownsRow (b + 1) 93 1 (.slice A0 2 c0) 2 us0 ∧ w.grownBy w' (some K) ∧ ∃ T x g4, u 4 = .slice (some ⟨g4, 0, none⟩) 1 1 ∧ Box w' g4 93 #[.iface T x]
          | 3 => WAt w' K M g c ns m2 (wi + 1) ∧ Box w' b 158 #[.int .i64 6, .int .i64 af, .int .i64 ag, .int .i64 1, .slice A0 2 c0] ∧ w.grownBy w' (some K) ∧ ∃ A5 c5, u 5 = .slice A5 3 c5
          | 4 => WAt w' K M g c ns m2 (wi + 1) ∧ w.grownBy w' (some K) ∧ ∃ A5 c5, Box w' b 158 #[.int .i64 6, .int .i64 af, .int .i64 ag, .int .i64 1, .slice A5 3 c5]
          | _ => False := ⟨_, rfl⟩
      have hSm : ∀ s u u' w1 w2, (∀ c ∈ [3, 4, 5, 7], u' c = u c) → St s u w1 → Below w1.heap.size w1 w2 → St s u' w2 := by
        intro s u u' w1 w2 hu h hb
        subst hSe
        match s, h with
        | 0, ⟨h1, h2, h3, h4⟩ => exact ⟨h1.below hb, h2.below hb, ownsR_below h3 hb, grownBy_then h4 hb⟩
        | 1, ⟨h1, h2, h3, h4, T, x, e⟩ => exact ⟨h1.below hb, h2.below hb, ownsR_below h3 hb, grownBy_then h4 hb, T, x, by rw [hu 3 (by decide)]; exact e⟩
        | 2, ⟨h1, h2, h3, h4, T, x, g4, e, h5⟩ => exact ⟨h1.below hb, h2.below hb, ownsR_below h3 hb, grownBy_then h4 hb, T, x, g4, by rw [hu 4 (by decide)]; exact e, h5.below hb⟩
        | 3, ⟨h1, h2, h4, A5, c5, e⟩ => exact ⟨h1.below hb, h2.below hb, grownBy_then h4 hb, A5, c5, by rw [hu 5 (by decide)]; exact e⟩
        | 4, ⟨h1, h4, A5, c5, h2⟩ => exact ⟨h1.below hb, grownBy_then h4 hb, A5, c5, h2.below hb⟩
        | s + 5, h => exact h.elim
      have hS0 : ∀ u w', St 0 u w' ↔ (WAt w' K M g c ns m1 (wi + 1) ∧ Box w' b 158 #[.int .i64 6, .int .i64 af, .int .i64 ag, .int .i64 1, .slice A0 2 c0] ∧ w'.ownsRow (b + 1) 93 1 (.slice A0 2 c0) 2 us0 ∧ w.grownBy w' (some K)) := fun _ _ => by subst hSe; rfl
      have hS1 : ∀ u w', St 1 u w' ↔ (WAt w' K M g c ns m2 (wi + 1) ∧ Box w' b 158 #[.int .i64 6, .int .i64 af, .int .i64 ag, .int .i64 1, .slice A0 2 c0] ∧ w'.ownsRow (b + 1) 93 1 (.slice A0 2 c0) 2 us0 ∧ w.grownBy w' (some K) ∧ ∃ T x, u 3 = .iface T x) := fun _ _ => by subst hSe; rfl
      have hS2 : ∀ u w', St 2 u w' ↔ (WAt w' K M g c ns m2 (wi + 1) ∧ Box w' b 158 #[.int .i64 6, .int .i64 af, .int .i64 ag, .int .i64 1, .slice A0 2 c0] ∧ w'.ownsRow (b + 1) 93 1 (.slice A0 2 c0) 2 us0 ∧ w.grownBy w' (some K) ∧ ∃ T x g4, u 4 = .slice (some ⟨g4, 0, none⟩) 1 1 ∧ Box w' g4 93 #[.iface T x]) := fun _ _ => by subst hSe; rfl
      have hS3 : ∀ u w', St 3 u w' ↔ (WAt w' K M g c ns m2 (wi + 1) ∧ Box w' b 158 #[.int .i64 6, .int .i64 af, .int .i64 ag, .int .i64 1, .slice A0 2 c0] ∧ w.grownBy w' (some K) ∧ ∃ A5 c5, u 5 = .slice A5 3 c5) := fun _ _ => by subst hSe; rfl
      have hS4 : ∀ u w', St 4 u w' ↔ (WAt w' K M g c ns m2 (wi + 1) ∧ w.grownBy w' (some K) ∧ ∃ A5 c5, Box w' b 158 #[.int .i64 6, .int .i64 af, .int .i64 ag, .int .i64 1, .slice A5 3 c5]) := fun _ _ => by subst hSe; rfl
      clear hVe hSe
      refine wp_region_inv (fun done u w => ChainInv (ExRel K b (Value.slice A0 2 c0).ownBlock) V [3, 4, 5, 7] St Z done u w ∧ Waits [(7, 5), (5, 1)] done) (by kernel_rfl) (by kernel_rfl) (by kernel_rfl) ?start ?step ?fin
      case start => exact fun u => ⟨ChainInv.start hRel (Below.refl _ _).drew ((hS0 _ _).2 (⟨HPW.out.drewN 1, HFB.out.drewN 1, ownsR_below HLS.out (below_draws _ _ _), grownBy_then HGW.out (below_draws _ _ _)⟩)), fun p _ e => by simp at e⟩
      case step =>
        simp only [putAll, Act.put, List.setIfInBounds_toArray, List.set_cons_zero, List.set_cons_succ, Nat.reduceAdd, Nat.zero_add]
        intro i o ho done u wr hnd hdep hIC K0 hK
        obtain ⟨hI, hcl⟩ := hIC
        match i, ho with
        | 0, ho =>
          simp only [List.getElem?_cons_zero, Option.some.injEq] at ho
          subst ho
          simp only [Act.put, List.setIfInBounds_toArray, List.set_cons_zero, List.set_cons_succ] at hK
          refine wpOp_step rfl fun K' hK' => ?_
          go_simp
          exact hK' _ _ (hK _ _ (⟨hI.quiet hRel hnd (by decide) hVm hSm (Below.refl _ _) ((hV0 _ _).2 rfl), hcl.did (by intro p hp e; simp at hp; rcases hp with rfl | rfl <;> first | exact absurd e (by decide) | exact hdep ⟨_, .data⟩ (by simp) rfl)⟩))
        | 1, ho =>
          simp only [List.getElem?_cons_succ, List.getElem?_cons_zero, Option.some.injEq] at ho
          subst ho
          simp only [Act.put, List.setIfInBounds_toArray, List.set_cons_zero, List.set_cons_succ] at hK
          have e0 := (hV0 _ _).1 (hI.know (hdep ⟨0, .data⟩ (by simp) rfl))
          simp only [e0] at hK
          have hbx : Box wr b 158 #[.int .i64 6, .int .i64 af, .int .i64 ag, .int .i64 1, .slice A0 2 c0] := by
            obtain ⟨-, -, s, h3, h4, h5⟩ := hI
            match s, h3, h4, h5 with
            | 0, _, _, h5 => exact ((hS0 _ _).1 h5).2.1
            | 1, _, _, h5 => exact ((hS1 _ _).1 h5).2.1
            | 2, _, _, h5 => exact ((hS2 _ _).1 h5).2.1
            | 3, _, _, h5 => exact ((hS3 _ _).1 h5).2.1
            | 4, _, h4, _ =>
              have h7 := h4 3 7 rfl
              have h1 := hcl (5, 1) (by simp) (hcl (7, 5) (by simp) (by simpa using h7))
              rw [h1] at hnd
              cases hnd
            | s + 5, h3, _, _ => simp at h3
          have c4 := hbx.cell 4
          have bl := hbx.lt
          simp at c4
          refine wpOp_step rfl fun K' hK' => ?_
          go_simp
          exact hK' _ _ (hK _ _ (⟨hI.quiet hRel hnd (by decide) hVm hSm (Below.refl _ _) ((hV1 _ _).2 rfl), hcl.did (by intro p hp e; simp at hp; rcases hp with rfl | rfl <;> first | exact absurd e (by decide) | exact hdep ⟨_, .data⟩ (by simp) rfl)⟩))
        | 2, ho =>
          simp only [List.getElem?_cons_succ, List.getElem?_cons_zero, Option.some.injEq] at ho
          subst ho
          simp only [Act.put, List.setIfInBounds_toArray, List.set_cons_zero, List.set_cons_succ] at hK
          refine wpOp_step rfl fun K' hK' => ?_
          go_simp
          exact hK' _ _ (hK _ _ (⟨hI.quiet hRel hnd (by decide) hVm hSm (Below.refl _ _) ((hV2 _ _).2 rfl), hcl.did (by intro p hp e; simp at hp; rcases hp with rfl | rfl <;> first | exact absurd e (by decide) | exact hdep ⟨_, .data⟩ (by simp) rfl)⟩))
        | 3, ho =>
          simp only [List.getElem?_cons_succ, List.getElem?_cons_zero, Option.some.injEq] at ho
          subst ho
          simp only [Act.put, List.setIfInBounds_toArray, List.set_cons_zero, List.set_cons_succ] at hK
          have e2 := (hV2 _ _).1 (hI.know (hdep ⟨2, .data⟩ (by simp) rfl))
          simp only [e2] at hK
          obtain ⟨s1, s2, s3, s4⟩ := (hS0 _ _).1 (hI.at_ (k := 0) rfl hnd (.inl rfl))
          refine wpOp_step rfl fun K' hK' => ?_
          go_simp
          have hs3 : Std wr := HST.out.grown s4 hK20
          refine (HE2.out _ K M g c hs3 hK20 s1).mono ?_
          rintro e w5 ⟨T, x, rfl, hp5, hg5⟩
          have hbl := s2.lt
          exact hK' _ _ (hK _ _ (⟨hI.step hRel (k := 0) rfl hnd (.inl rfl) (by decide) hVm (exRel_one hg5) (hV3 _ _) ((hS1 _ _).2 (⟨hp5, s2.grown hg5 (by intro e; injection e; omega), s3.kept hg5 (.inr (ownsR_low s3 (by omega))), grownBy_trans s4 hg5, T, x, by rw [upd_same]⟩)), hcl.did (by intro p hp e; simp at hp; rcases hp with rfl | rfl <;> first | exact absurd e (by decide) | exact hdep ⟨_, .data⟩ (by simp) rfl)⟩))
        | 4, ho =>
          simp only [List.getElem?_cons_succ, List.getElem?_cons_zero, Option.some.injEq] at ho
          subst ho
          simp only [Act.put, List.setIfInBounds_toArray, List.set_cons_zero, List.set_cons_succ] at hK
          obtain ⟨s1, s2, s3, s4, T, x, e3⟩ := (hS1 _ _).1 (hI.at_ (k := 1) rfl hnd (.inr ⟨3, rfl, hdep ⟨3, .data⟩ (by simp) rfl⟩))
          simp only [e3] at hK
          refine wpOp_step rfl fun K' hK' => ?_
          go_simp
          exact hK' _ _ (hK _ _ (⟨hI.step hRel (k := 1) rfl hnd (.inr ⟨3, rfl, hdep ⟨3, .data⟩ (by simp) rfl⟩) (by decide) hVm (hRel.below (below_one _ _)) (hV4 _ _) ((hS2 _ _).2 (⟨s1.below (below_one _ _), s2.alloc _, ownsR_below s3 (below_one _ _), grownBy_then s4 (below_one _ _), T, x, _, by rw [upd_same], Box.new _ _ _⟩)), hcl.did (by intro p hp e; simp at hp; rcases hp with rfl | rfl <;> first | exact absurd e (by decide) | exact hdep ⟨_, .data⟩ (by simp) rfl)⟩))
        | 5, ho =>
          simp only [List.getElem?_cons_succ, List.getElem?_cons_zero, Option.some.injEq] at ho
          subst ho
          simp only [Act.put, List.setIfInBounds_toArray, List.set_cons_zero, List.set_cons_succ] at hK
          have e1 := (hV1 _ _).1 (hI.know (hdep ⟨1, .data⟩ (by simp) rfl))
          obtain ⟨s1, s2, s3, s4, T, x, g4, e4, s5⟩ := (hS2 _ _).1 (hI.at_ (k := 2) rfl hnd (.inr ⟨4, rfl, hdep ⟨4, .data⟩ (by simp) rfl⟩))
          have hbl := s2.lt
          refine wpOp_step rfl fun K' hK' => ?_
          refine step_append_rows wr rfl 156 93 1 16 rowed_expr rfl _ _ (by rfl) (b + 1) 2 (.slice A0 2 c0) us0 (by simpa [Act.eval] using e1) s3 (some ⟨g4, 0, none⟩) 1 1 [.iface T x] (by simpa [Act.eval] using e4) (fun e => by cases e) (by omega) (cellsAt_box s5) (by simp [Value.oneCell']) rfl (by omega) (by omega) ?_
          intro A5 c5 w5 hown5 hgrow hat
          have hnb : ∀ j, j ≤ b → ((Value.slice A0 2 c0).ownBlock) ≠ some j := fun j hj e => by have := (s3.lt j e).1; omega
          exact hK' _ _ (hK _ _ (⟨hI.step hRel (k := 2) rfl hnd (.inr ⟨4, rfl, hdep ⟨4, .data⟩ (by simp) rfl⟩) (by decide) hVm (exRel_own hgrow) (hV5 _ _) ((hS3 _ _).2 (⟨wat_row s1 hgrow (hnb K (by omega)) (fun j hj => hnb j (by have := s1.2.1; omega)), s2.grown hgrow (hnb b (Nat.le_refl _)), grownBy_row s4 hgrow (fun j e => by have := (s3.lt j e).1; omega), A5, c5, by rw [upd_same]⟩)), hcl.did (by intro p hp e; simp at hp; rcases hp with rfl | rfl <;> first | exact absurd e (by decide) | exact hdep ⟨_, .data⟩ (by simp) rfl)⟩))
        | 6, ho =>
          simp only [List.getElem?_cons_succ, List.getElem?_cons_zero, Option.some.injEq] at ho
          subst ho
          simp only [Act.put, List.setIfInBounds_toArray, List.set_cons_zero, List.set_cons_succ] at hK
          refine wpOp_step rfl fun K' hK' => ?_
          go_simp
          exact hK' _ _ (hK _ _ (⟨hI.quiet hRel hnd (by decide) hVm hSm (Below.refl _ _) ((hV6 _ _).2 rfl), hcl.did (by intro p hp e; simp at hp; rcases hp with rfl | rfl <;> first | exact absurd e (by decide) | exact hdep ⟨_, .data⟩ (by simp) rfl)⟩))
        | 7, ho =>
          simp only [List.getElem?_cons_succ, List.getElem?_cons_zero, Option.some.injEq] at ho
          subst ho
          simp only [Act.put, List.setIfInBounds_toArray, List.set_cons_zero, List.set_cons_succ] at hK
          have e6 := (hV6 _ _).1 (hI.know (hdep ⟨6, .data⟩ (by simp) rfl))
          obtain ⟨s1, s2, s4, A5, c5, e5⟩ := (hS3 _ _).1 (hI.at_ (k := 3) rfl hnd (.inr ⟨5, rfl, hdep ⟨5, .data⟩ (by simp) rfl⟩))
          simp only [e5, e6] at hK
          have hbl := s2.lt
          have c4 := s2.cell 4
          have cf := Box.frozen s2 4
          simp at c4
          refine wpOp_step rfl fun K' hK' => ?_
          go_simp
          have hst : Box (wr.setCell ⟨b, 4, none⟩ (.slice A5 3 c5)) b 158 #[.int .i64 6, .int .i64 af, .int .i64 ag, .int .i64 1, .slice A5 3 c5] := by simpa using s2.store 4 (.slice A5 3 c5)
          exact hK' _ _ (hK _ _ (⟨hI.step (v := .nilIface) hRel (k := 3) rfl hnd (.inr ⟨5, rfl, hdep ⟨5, .data⟩ (by simp) rfl⟩) (by decide) hVm (exRel_two (grownBy_setCell _ _ _ _)) (hV7 _ _) ((hS4 _ _).2 (⟨wat_away s1 (grownBy_setCell _ _ _ _) (by omega), grownBy_after s4 (grownBy_setCell _ _ _ _) (by omega), A5, c5, hst⟩)), hcl.did (by intro p hp e; simp at hp; rcases hp with rfl | rfl <;> first | exact absurd e (by decide) | exact hdep ⟨_, .data⟩ (by simp) rfl)⟩))
        | i + 8, ho => simp at ho
      case fin =>
        simp only [putAll, Act.put, List.setIfInBounds_toArray, List.set_cons_zero, List.set_cons_succ, Nat.reduceAdd, Nat.zero_add]
        intro done u wr hd hIC
        obtain ⟨hI, -⟩ := hIC
        simp only [List.length_cons, List.length_nil, Nat.reduceAdd, Nat.zero_add] at hd
        have hS := (hS4 _ _).1 (hI.end_ (fun c hc => hd c (by simp at hc; omega)))
        obtain ⟨s1, s4, A5, c5, s2⟩ := hS
        have hI1 := hI.1
        obtain ⟨y1, rfl⟩ : ∃ X : World, X = wr := ⟨_, rfl⟩
        have hB7 := HB1.out
        have hB8 := HB2.out
        have HB1 := Lib.hid (hI1.2 _ _ _ (by omega) (by omega) hown1 hB7)
        have HB2 := Lib.hid (hI1.2 _ _ _ (by omega) (by omega) hown2 hB8)
        clear hown1 hown2 hB7 hB8 hI1 hI hd hVm hSm hS0 hS1 hS2 hS3 hS4 hRel hV0 hV1 hV2 hV3 hV4 hV5 hV6 hV7
        obtain ⟨e0, e1, e2⟩ := Box.three s1.1
        have ef := Box.frozen s1.1 2
        have el := s1.1.lt
        have hgs := grownBy_setCell y1 K 2 (.int .i64 (wi : Nat))
        have hps : WAt (y1.setCell ⟨K, 2, none⟩ (.int .i64 (wi : Nat))) K M g c ns m2 wi := s1.move hgs (by simpa using s1.1.store 2 (.int .i64 (wi : Nat))) s1.2.2.2.1 (by omega)
        have z2 := s2.grown hgs (by intro e; injection e; omega)
        have z1 := HB2.out.grown hgs (by intro e; injection e; omega)
        have zg := grownBy_trans s4 hgs
        obtain ⟨f0, f1, f2, f3, f4⟩ := z2.five
        have fl := z2.lt
        obtain ⟨r0, r1, r2, r3, r4⟩ := z1.five
        have q0 := Box.frozen z1 0
        have q1 := Box.frozen z1 1
        have q2 := Box.frozen z1 2
        have q3 := Box.frozen z1 3
        have q4 := Box.frozen z1 4
        have ql := z1.lt
        have HPS := Lib.hid hps
        have HZ1 := Lib.hid z1
        have HZG := Lib.hid zg
        clear s1 s2 s4 hps z1 z2 zg
        go_wp2_with fail
        have hg5 := grownBy_five (y1.setCell ⟨K, 2, none⟩ (.int .i64 (wi : Nat))) (w.heap.size + 1) (.int .i64 6) (.int .i64 af) (.int .i64 ag) (.int .i64 1) (.slice A5 3 c5)
        have hz : Box ((((((y1.setCell ⟨K, 2, none⟩ (.int .i64 (wi : Nat))).setCell ⟨w.heap.size + 1, 0, none⟩ (.int .i64 6)).setCell ⟨w.heap.size + 1, 1, none⟩ (.int .i64 af)).setCell ⟨w.heap.size + 1, 2, none⟩ (.int .i64 ag)).setCell ⟨w.heap.size + 1, 3, none⟩ (.int .i64 1)).setCell ⟨w.heap.size + 1, 4, none⟩ (.slice A5 3 c5)) (w.heap.size + 1) 158 #[.int .i64 6, .int .i64 af, .int .i64 ag, .int .i64 1, .slice A5 3 c5] := by simpa using ((((HZ1.out.store 0 (.int .i64 6)).store 1 (.int .i64 af)).store 2 (.int .i64 ag)).store 3 (.int .i64 1)).store 4 (.slice A5 3 c5)
        obtain ⟨g0, g1, g2, g3, g4⟩ := hz.five
        have gl := hz.lt
        refine bodyPost_ret (v := .agg #[.int .i64 6, .int .i64 af, .int .i64 ag, .int .i64 1, .slice A5 3 c5]) (by simp [results, Tryz.results119, go_sem, g0, g1, g2, g3, g4, gl]; first | done | rfl) rfl ?_
        exact ⟨A5, 3, c5, rfl, wat_away HPS.out hg5 (by omega), grownBy_after HZG.out hg5 (by omega)⟩

end Go.Proofs.YtihndbkaoejnnaaGreatDoor
