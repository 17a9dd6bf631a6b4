/- What the card TopSorts leans on: EvalPick, ValSorts, PrimSmall. Conditions: none but those of its theorems. -/
import Derived.Deep.RegionLaw
import Derived.Test.YtihndbkaoejnnaaGreatDoorSortsV
import Derived.Test.YtihndbkaoejnnaaGreatDoorSortsC
import Derived.Test.YtihndbkaoejnnaaGreatDoorSortsU
import Derived.Test.YtihndbkaoejnnaaGreatDoorSortsE
set_option linter.unusedSimpArgs false
set_option linter.unusedVariables false
namespace Go.Proofs.YtihndbkaoejnnaaGreatDoor
open Go Go.RowKit Go.Proofs.YtihndbkaoejnnaaGreatDoor.P

/-- What is picked of that at this. -/
def ActPick (a1 a2 b : Arr) : Prop := ∀ (w : World) (S : Nat → Prop) (v1 : Value) (g sn sc dn dc : Nat) (x : Bool) (sA dA : Option Addr), ArrAt w S v1 a1 → Box w g 25 #[.bool x, .slice sA sn sc, .slice dA dn dc] → IsArr w (.agg #[.bool x, .slice sA sn sc, .slice dA dn dc]) a2 → (∀ x, S x → x < w.heap.size) →
  Calls Tryz.prog 125 #[v1, .slice (some ⟨g, 0, none⟩) 1 1] w fun e w' => ∃ v', e = .returned (.tuple #[v', .nilIface]) ∧ ArrAt w' S v' b ∧ Below w.heap.size w w'
/-- Only these two blocks are written. -/
structure RelTwo (E P : Nat) (w w' : World) : Prop where
  os : w'.os = w.os
  tape : w'.tape = w.tape
  output : w'.output = w.output
  size : w.heap.size ≤ w'.heap.size
  block : ∀ b, b < w.heap.size → b ≠ E → b ≠ P → w'.heap[b]? = w.heap[b]?
theorem relsTwo (E P : Nat) : Rels (RelTwo E P) := ⟨fun hb => ⟨hb.os, hb.tape, hb.output, hb.size, fun b h _ _ => hb.block b h⟩, fun h h2 => ⟨h2.os.trans h.os, h2.tape.trans h.tape, h2.output.trans h.output, Nat.le_trans h.size h2.size, fun b hb h3 h4 => (h2.block b (Nat.lt_of_lt_of_le hb h.size) h3 h4).trans (h.block b hb h3 h4)⟩⟩
theorem RelTwo.box {E P b : Nat} {w w' : World} {t : TypeId} {cs : Array Value} (h : RelTwo E P w w') (hb : Box w b t cs) (h1 : b ≠ E) (h2 : b ≠ P) : Box w' b t cs := (h.block b hb.lt h1 h2).trans hb
theorem RelTwo.cell {E P b o : Nat} {w w' : World} {v : Value} (h : RelTwo E P w w') (hc : w.cell? ⟨b, o, none⟩ = some v) (h1 : b ≠ E) (h2 : b ≠ P) : w'.cell? ⟨b, o, none⟩ = some v := by
  have hl : b < w.heap.size := World.block_lt_of_cell? w _ hc
  exact (World.cell?_of_block (a := ⟨b, o, none⟩) (h.block b hl h1 h2)).trans hc
theorem relTwo_grown {E P : Nat} {w w' : World} (h : w.grownBy w' (some E)) : RelTwo E P w w' := ⟨h.os, h.tape, h.output, h.size, fun b hb h1 _ => h.block b hb (fun e => h1 (by injection e))⟩
theorem relTwo_grown2 {E P : Nat} {w w' : World} (h : w.grownBy w' (some P)) : RelTwo E P w w' := ⟨h.os, h.tape, h.output, h.size, fun b hb _ h1 => h.block b hb (fun e => h1 (by injection e))⟩
theorem RelTwo.grown {E P : Nat} {w w1 w' : World} (h : w.grownBy w1 (some E)) (h2 : RelTwo E P w1 w') (hP : w.heap.size ≤ P) : w.grownBy w' (some E) :=
  ⟨h2.os.trans h.os, h2.tape.trans h.tape, h2.output.trans h.output, Nat.le_trans h.size h2.size, fun k hk hne => (h2.block k (Nat.lt_of_lt_of_le hk h.size) (fun e => hne (by rw [e])) (by omega)).trans (h.block k hk hne)⟩
theorem owns_box {w : World} {B g : Nat} {x : Int} (hb : Box w g 3 #[.int .i64 x]) (h : B ≤ g) : Owns w B (.slice (some ⟨g, 0, none⟩) 1 1) 1 [x] :=
  ⟨⟨rfl, .inr ⟨g, 1, #[.int .i64 x], rfl, h, hb, Nat.le_refl _, by unfold maxLen; omega, rfl, rfl⟩⟩, by omega⟩
theorem make_one (w : World) : (Instr.makeSlice 194 (.int .i64 1) (.int .i64 1)).run Tryz.prog w = .ok (.slice (some ⟨w.heap.size, 0, none⟩) 1 1) (w.alloc (.cells #[.bool false, .slice none 0 0, .slice none 0 0] 25)) := by kernel_rfl

/-- The invariant of a statement that calls, makes a variable, and stores what the call told into it. -/
def CallStore (Rel : World → World → Prop) (V : Nat → Value → Prop) (A : World → Prop) (B : Value → World → Prop) (Z : Nat → World → Prop) (D : Nat → Value → World → Prop) (n0 ic ia is : Nat) (W : World) (done : Nat → Bool) (u : Nat → Value) (wr : World) : Prop :=
  Rel W wr ∧ (∀ j, done j = true → V j (u j)) ∧ (done ic = false → A wr) ∧ (done ic = true → done is = false → B (u ic) wr) ∧ (done ia = true → ∃ P : Nat, u ia = .pointer (some ⟨P, 0, none⟩) ∧ n0 ≤ P ∧ (done is = false → Z P wr)) ∧ (done is = true → done ic = true ∧ done ia = true ∧ ∃ P : Nat, u ia = .pointer (some ⟨P, 0, none⟩) ∧ n0 ≤ P ∧ D P (u ic) wr)
section
variable {Rel : World → World → Prop} {V : Nat → Value → Prop} {A : World → Prop} {B : Value → World → Prop} {Z : Nat → World → Prop} {D : Nat → Value → World → Prop} {n0 ic ia is : Nat} {W : World} {done : Nat → Bool} {u : Nat → Value} {wr w' : World} {i : Nat} {v : Value}
theorem cs_V (h : ∀ j, done j = true → V j (u j)) (hv : V i v) : ∀ j, did done i j = true → V j (upd u i v j) := fun j hj => by
  by_cases hji : j = i
  · subst hji
    rw [upd_same]
    exact hv
  · rw [did_other _ hji] at hj
    rw [upd_other _ _ hji]
    exact h j hj
theorem CallStore.start (h : Rel W w') (ha : A w') : CallStore Rel V A B Z D n0 ic ia is W (fun _ => false) u w' := ⟨h, fun j e => (by cases e), fun _ => ha, fun e => (by cases e), fun e => (by cases e), fun e => (by cases e)⟩
theorem CallStore.quiet (h : CallStore Rel V A B Z D n0 ic ia is W done u wr) (h1 : i ≠ ic) (h2 : i ≠ ia) (h3 : i ≠ is) (hv : V i v) : CallStore Rel V A B Z D n0 ic ia is W (did done i) (upd u i v) wr := by
  obtain ⟨a1, a2, a3, a4, a5, a6⟩ := h
  refine ⟨a1, cs_V a2 hv, ?_, ?_, ?_, ?_⟩
  · rw [did_other _ (Ne.symm h1)]; exact a3
  · rw [did_other _ (Ne.symm h1), did_other _ (Ne.symm h3), upd_other _ _ (Ne.symm h1)]; exact a4
  · rw [did_other _ (Ne.symm h2), did_other _ (Ne.symm h3), upd_other _ _ (Ne.symm h2)]; exact a5
  · rw [did_other _ (Ne.symm h1), did_other _ (Ne.symm h2), did_other _ (Ne.symm h3), upd_other _ _ (Ne.symm h1), upd_other _ _ (Ne.symm h2)]; exact a6
theorem CallStore.before (h : CallStore Rel V A B Z D n0 ic ia is W done u wr) (hn : done ic = false) : done is = false := by
  cases e : done is with
  | false => rfl
  | true => have := (h.2.2.2.2.2 e).1; rw [hn] at this; cases this
theorem CallStore.before2 (h : CallStore Rel V A B Z D n0 ic ia is W done u wr) (hn : done ia = false) : done is = false := by
  cases e : done is with
  | false => rfl
  | true => have := (h.2.2.2.2.2 e).2.1; rw [hn] at this; cases this
theorem CallStore.call (hR : Rels Rel) (h : CallStore Rel V A B Z D n0 ic ia is W done u wr) (hn : done ic = false) (h2 : ic ≠ ia) (h3 : ic ≠ is) (hv : V ic v) (hr : Rel wr w') (hb : B v w') (hz : ∀ P, n0 ≤ P → Z P wr → Z P w') : CallStore Rel V A B Z D n0 ic ia is W (did done ic) (upd u ic v) w' := by
  have hs := h.before hn
  obtain ⟨a1, a2, a3, a4, a5, a6⟩ := h
  refine ⟨hR.trans a1 hr, cs_V a2 hv, ?_, ?_, ?_, ?_⟩
  · rw [did_same]; intro e; cases e
  · rw [did_same, upd_same]; intro _ _; exact hb
  · rw [did_other _ (Ne.symm h2), did_other _ (Ne.symm h3), upd_other _ _ (Ne.symm h2)]
    intro e
    obtain ⟨P, e1, e2, e3⟩ := a5 e
    exact ⟨P, e1, e2, fun h => hz P e2 (e3 h)⟩
  · rw [did_other _ (Ne.symm h3), hs]; intro e; cases e
theorem CallStore.make (hR : Rels Rel) (h : CallStore Rel V A B Z D n0 ic ia is W done u wr) (hn : done ia = false) (h2 : ic ≠ ia) (h3 : ia ≠ is) {P : Nat} (hv : V ia (.pointer (some ⟨P, 0, none⟩))) (hr : Below wr.heap.size wr w') (hP : n0 ≤ P) (ha : A wr → A w') (hb : ∀ x, B x wr → B x w') (hz : Z P w') : CallStore Rel V A B Z D n0 ic ia is W (did done ia) (upd u ia (.pointer (some ⟨P, 0, none⟩))) w' := by
  have hs := h.before2 hn
  obtain ⟨a1, a2, a3, a4, a5, a6⟩ := h
  refine ⟨hR.trans a1 (hR.below hr), cs_V a2 hv, ?_, ?_, ?_, ?_⟩
  · rw [did_other _ h2]; intro e; exact ha (a3 e)
  · rw [did_other _ h2, did_other _ (Ne.symm h3), upd_other _ _ h2]; intro e1 e2; exact hb _ (a4 e1 e2)
  · rw [did_same, upd_same]; intro _; exact ⟨P, rfl, hP, fun _ => hz⟩
  · rw [did_other _ (Ne.symm h3), hs]; intro e; cases e
theorem CallStore.store (h : CallStore Rel V A B Z D n0 ic ia is W done u wr) (hc : done ic = true) (ha : done ia = true) (h1 : ic ≠ is) (h3 : ia ≠ is) {P : Nat} (hu : u ia = .pointer (some ⟨P, 0, none⟩)) (hP : n0 ≤ P) (hv : V is v) (hr : Rel W w') (hd : D P (u ic) w') : CallStore Rel V A B Z D n0 ic ia is W (did done is) (upd u is v) w' := by
  obtain ⟨a1, a2, a3, a4, a5, a6⟩ := h
  refine ⟨hr, cs_V a2 hv, ?_, ?_, ?_, ?_⟩
  · rw [did_other _ h1, hc]; intro e; cases e
  · rw [did_same]; intro _ e; cases e
  · rw [did_other _ h3, did_same, upd_other _ _ h3]; intro _; exact ⟨P, hu, hP, fun e => by cases e⟩
  · rw [did_other _ h1, did_other _ h3, upd_other _ _ h1, upd_other _ _ h3]; intro _; exact ⟨hc, ha, P, hu, hP, hd⟩
end

set_option maxRecDepth 100000 in
set_option maxHeartbeats 8000000 in
theorem v_picked {om : Option Arr} {bs : List Bd} {ns : List Nd} {at_ m k1 k2 : Nat} {a1 a2 b : Arr} (hx : ns[at_]? = some ⟨8, 0, 0, 0, 1, [], ⟨#[]⟩⟩) (hk : Skips ns (at_ + 1) 1 m) (hm390 : m ≤ 390) (hR : ValAt om bs ns m k2 a2) (hL : ValAt om bs ns (at_ + 1) k1 a1) (hA : ActPick a1 a2 b)
    (w : World) (C : Cl) (E M f G g c : Nat) (S : Nat → Prop) (hst : Std w) (hev : EvAt w E M S bs (f + (k1 + k2 + 1))) (hnds : NdsAt w G g c ns) (hGE : G ≤ E) (hom : OmAt w S C om) (hdeep : C.deep ≤ 60) :
    Calls Tryz.prog 100 #[.agg #[.slice C.bA C.bn C.bc, .int .i64 C.at_, .int .i64 C.n, .pointer C.al, .bool C.ob, .slice C.oA C.on C.oc, .slice C.pA C.pn C.pc, .int .i64 C.deep, .pointer (some ⟨E, 0, none⟩)], .slice (some ⟨g, 0, none⟩) ns.length c, .int .i64 at_] w (VPost E M f S bs b w) := by
  have hmx := mixedZ
  have hlt : at_ < ns.length := (List.getElem?_eq_some_iff.1 hx).1
  obtain ⟨nA, nc, n0, n1, n2, n3, n4, n5, n6, n7, n8⟩ := hnds.2.2.2.2.2 at_ _ hx
  have hgM := hnds.1
  have hMs := hnds.2.1
  have hL390 := hnds.2.2.2.2.1
  have hLc := hnds.2.2.1
  have hgl : g < w.heap.size := by omega
  have hEl := hev.1.lt
  have hE20 : 6 ≤ E := by have := hev.2.1; have := hev.2.2.1; omega
  simp only [] at n0 n1 n2 n3 n4 n5 n6
  obtain ⟨L, hLn⟩ : ∃ L, L = ns.length := ⟨_, rfl⟩
  rw [← hLn] at hlt hL390 hLc
  have hb4 := (below_three w (.cells #[.slice C.bA C.bn C.bc, .int .i64 C.at_, .int .i64 C.n, .pointer C.al, .bool C.ob, .slice C.oA C.on C.oc, .slice C.pA C.pn C.pc, .int .i64 C.deep, .pointer (some ⟨E, 0, none⟩)] 131) (.cells #[.bool false, .slice none 0 0, .slice none 0 0] 25) (.cells #[.int .i64 8, .int .i64 0, .int .i64 0, .int .i64 0, .int .i64 1, .slice nA 0 nc, .string ⟨#[]⟩] 101)).alloc (by simp; omega) (.cells #[.int .i64 ((at_ : Int) + 1)] 3)
  have x3 := (((Box.new w 131 #[.slice C.bA C.bn C.bc, .int .i64 C.at_, .int .i64 C.n, .pointer C.al, .bool C.ob, .slice C.oA C.on C.oc, .slice C.pA C.pn C.pc, .int .i64 C.deep, .pointer (some ⟨E, 0, none⟩)]).alloc (.cells #[.bool false, .slice none 0 0, .slice none 0 0] 25)).alloc (.cells #[.int .i64 8, .int .i64 0, .int .i64 0, .int .i64 0, .int .i64 1, .slice nA 0 nc, .string ⟨#[]⟩] 101)).alloc (.cells #[.int .i64 ((at_ : Int) + 1)] 3)
  have x6 := ((Box.new (w.alloc (.cells #[.slice C.bA C.bn C.bc, .int .i64 C.at_, .int .i64 C.n, .pointer C.al, .bool C.ob, .slice C.oA C.on C.oc, .slice C.pA C.pn C.pc, .int .i64 C.deep, .pointer (some ⟨E, 0, none⟩)] 131)) 25 #[.bool false, .slice none 0 0, .slice none 0 0]).alloc (.cells #[.int .i64 8, .int .i64 0, .int .i64 0, .int .i64 0, .int .i64 1, .slice nA 0 nc, .string ⟨#[]⟩] 101)).alloc (.cells #[.int .i64 ((at_ : Int) + 1)] 3)
  have x7 := (Box.new ((w.alloc (.cells #[.slice C.bA C.bn C.bc, .int .i64 C.at_, .int .i64 C.n, .pointer C.al, .bool C.ob, .slice C.oA C.on C.oc, .slice C.pA C.pn C.pc, .int .i64 C.deep, .pointer (some ⟨E, 0, none⟩)] 131)).alloc (.cells #[.bool false, .slice none 0 0, .slice none 0 0] 25)) 101 #[.int .i64 8, .int .i64 0, .int .i64 0, .int .i64 0, .int .i64 1, .slice nA 0 nc, .string ⟨#[]⟩]).alloc (.cells #[.int .i64 ((at_ : Int) + 1)] 3)
  have x8 := Box.new (((w.alloc (.cells #[.slice C.bA C.bn C.bc, .int .i64 C.at_, .int .i64 C.n, .pointer C.al, .bool C.ob, .slice C.oA C.on C.oc, .slice C.pA C.pn C.pc, .int .i64 C.deep, .pointer (some ⟨E, 0, none⟩)] 131)).alloc (.cells #[.bool false, .slice none 0 0, .slice none 0 0] 25)).alloc (.cells #[.int .i64 8, .int .i64 0, .int .i64 0, .int .i64 0, .int .i64 1, .slice nA 0 nc, .string ⟨#[]⟩] 101)) 3 #[.int .i64 ((at_ : Int) + 1)]
  obtain ⟨W4, hW4⟩ : ∃ W, W = ((((w.alloc (.cells #[.slice C.bA C.bn C.bc, .int .i64 C.at_, .int .i64 C.n, .pointer C.al, .bool C.ob, .slice C.oA C.on C.oc, .slice C.pA C.pn C.pc, .int .i64 C.deep, .pointer (some ⟨E, 0, none⟩)] 131)).alloc (.cells #[.bool false, .slice none 0 0, .slice none 0 0] 25)).alloc (.cells #[.int .i64 8, .int .i64 0, .int .i64 0, .int .i64 0, .int .i64 1, .slice nA 0 nc, .string ⟨#[]⟩] 101)).alloc (.cells #[.int .i64 ((at_ : Int) + 1)] 3)) := ⟨_, rfl⟩
  rw [← hW4] at hb4 x3 x6 x7 x8
  have hWs4 : W4.heap.size = w.heap.size + 4 := by rw [hW4]; simp
  simp only [World.size_alloc] at x6 x7 x8
  have HLN := Lib.hid hLn
  have HB4 := Lib.hid hb4
  have HX3 := Lib.hid x3
  have HX6 := Lib.hid x6
  have HX7 := Lib.hid x7
  have HX8 := Lib.hid x8
  have HST := Lib.hid hst
  have HWS4 := Lib.hid hWs4
  have HA := Lib.hid hA
  have HR := Lib.hid hR
  have HL := Lib.hid hL
  have HND := Lib.hid hnds
  have HOM := Lib.hid hom
  have HEV := Lib.hid hev
  have HK := Lib.hid hk
  rw [← hLn]
  clear hnds hom n7 n8 hev hb4 x3 x6 x7 x8 hWs4 hst hx hLn hA hR hL hk
  go_enter Tryz.func100, Tryz.ntmps100
  go_wp2_with fail
  rw [← hW4]
  clear n0 n1 n2 n3 n4 n5 n6 hW4
  go_loopw [8, 21] (fun s8 s21 wr => (s8 = .slice (some ⟨w.heap.size + 1 + 1 + 1, 0, none⟩) 1 1 ∧ s21 = .int .i64 0 ∧ wr = W4) ∨ (∃ p c2 : Nat, s8 = .slice (some ⟨p, 0, none⟩) 2 c2 ∧ s21 = .int .i64 1 ∧ w.heap.size + 3 ≤ p ∧ p < wr.heap.size ∧ wr.cell? ⟨p, 0, none⟩ = some (.int .i64 ((at_ : Int) + 1)) ∧ wr.cell? ⟨p, 1, none⟩ = some (.int .i64 (m : Int)) ∧ 2 ≤ c2 ∧
      Box wr w.heap.size 131 #[.slice C.bA C.bn C.bc, .int .i64 C.at_, .int .i64 C.n, .pointer C.al, .bool C.ob, .slice C.oA C.on C.oc, .slice C.pA C.pn C.pc, .int .i64 C.deep, .pointer (some ⟨E, 0, none⟩)] ∧ Box wr (w.heap.size + 1) 25 #[.bool false, .slice none 0 0, .slice none 0 0] ∧ Box wr (w.heap.size + 1 + 1) 101 #[.int .i64 8, .int .i64 0, .int .i64 0, .int .i64 0, .int .i64 1, .slice nA 0 nc, .string ⟨#[]⟩] ∧ Below w.heap.size w wr)) (fun _ s21 _ => 1 - (intOf s21).toNat)
  case atStart => exact .inl ⟨rfl, rfl, rfl⟩
  case round =>
    rcases hrel with ⟨rfl, rfl, rfl⟩ | ⟨p, c2, rfl, rfl, hp, hpl, hc0, hc1, hc2, y3, y6, y7, hbw⟩
    · have o4 := HX7.out.cell 4
      have q0 := HX8.out.cell 0
      have l7 := HX7.out.lt
      have l8 := HX8.out.lt
      simp at o4 q0
      have HSK := Lib.hid (skip_any (HND.out.below HB4.out) HK.out)
      rw [← HLN.out] at HSK
      go_wp2_with fail
      refine HSK.out.mono ?_
      rintro e w1 ⟨rfl, hb1⟩
      have HOW := Lib.hid ((owns_box (B := w.heap.size + 3) HX8.out (by omega)).below hb1)
      have y3 := HX3.out.below hb1
      have y6 := HX6.out.below hb1
      have y7 := HX7.out.below hb1
      have hbw1 := HB4.out.trans (hb1.mono HB4.out.size)
      have hs1 := hb1.size
      have hws := HWS4.out
      clear hb1 o4 q0 l7 l8
      go_wp2_with (at_builtin; refine wpList_append_ints _ rfl rfl _ _ rfl (w.heap.size + 3) 1 _ [(at_ : Int) + 1] rfl (HOW.out.alloc _) (some ⟨w1.heap.size, 0, none⟩) 1 1 [(m : Int)] rfl (by simp) (elems_new w1 (m : Int)) rfl (by omega) (by simp; omega) ?_; intro A2 c2 w2 hown hgrow hat)
      have hne : ∀ b, b < w.heap.size + 3 → (some b : Option Nat) ≠ some (w.heap.size + 1 + 1 + 1) := fun b h e => by injection e; omega
      have z3 := Box.grown (y3.alloc (.cells #[.int .i64 (m : Int)] 3)) hgrow (fun e => hne _ (by omega) e.symm)
      have z6 := Box.grown (y6.alloc (.cells #[.int .i64 (m : Int)] 3)) hgrow (fun e => hne _ (by omega) e.symm)
      have z7 := Box.grown (y7.alloc (.cells #[.int .i64 (m : Int)] 3)) hgrow (fun e => hne _ (by omega) e.symm)
      have hb2 := below_grown (hbw1.alloc hbw1.size (.cells #[.int .i64 (m : Int)] 3)) (HOW.out.base (B' := w.heap.size) (by omega) |>.alloc _) hgrow
      obtain ⟨p, rfl, hp1, hp2, hp3, hp4, hp5⟩ : ∃ p, A2 = some ⟨p, 0, none⟩ ∧ w.heap.size + 3 ≤ p ∧ p < w2.heap.size ∧ w2.cell? ⟨p, 0, none⟩ = some (.int .i64 ((at_ : Int) + 1)) ∧ w2.cell? ⟨p, 1, none⟩ = some (.int .i64 (m : Int)) ∧ 2 ≤ c2 := by
        rcases hown.1.2 with ⟨e, he⟩ | ⟨p, cap, cur, e, -⟩
        · injection e with e1 e2 e3
          simp at e2
        · injection e with e1 e2 e3
          subst e1
          have h2 := hown.lt (k := p) rfl
          obtain ⟨A', c', ee, h3, h4, h5, h6, h7⟩ := hown.isInts
          injection ee with ee1 ee2 ee3
          subst ee1 ee3
          obtain ⟨ad, e4, h8, h9⟩ := h7 0 _ rfl
          injection e4 with e4
          subst e4
          obtain ⟨ad, e5, h10, h11⟩ := h7 1 _ rfl
          injection e5 with e5
          subst e5
          refine ⟨p, rfl, h2.1, h2.2, ?_, ?_, by simpa using h3⟩
          · simpa [Addr.add] using h9
          · simpa [Addr.add] using h11
      clear hown hgrow hat HOW y3 y6 y7 hbw1
      have HH := Lib.hid (And.intro hp1 (And.intro hp2 (And.intro hp3 (And.intro hp4 (And.intro hp5 (And.intro z3 (And.intro z6 (And.intro z7 hb2))))))))
      clear hp1 hp2 hp3 hp4 hp5 z3 z6 z7 hb2 hne hs1
      go_wp2_with fail
      go_roundw
      case rel => exact .inr ⟨p, c2, rfl, rfl, HH.out⟩
      case measure => simp [intOf]
    · have o4 := y7.cell 4
      have l7 := y7.lt
      simp at o4
      have hs0 := hbw.size
      have hmk := make_one wr
      have HP := Lib.hid (And.intro hc0 hc1)
      have Y3 := Lib.hid (y3.alloc (.cells #[.bool false, .slice none 0 0, .slice none 0 0] 25))
      have Y6 := Lib.hid (y6.alloc (.cells #[.bool false, .slice none 0 0, .slice none 0 0] 25))
      have Y7 := Lib.hid (y7.alloc (.cells #[.bool false, .slice none 0 0, .slice none 0 0] 25))
      have Y9 := Lib.hid (Box.new wr 25 #[.bool false, .slice none 0 0, .slice none 0 0])
      have HB5 := Lib.hid (hbw.alloc hbw.size (.cells #[.bool false, .slice none 0 0, .slice none 0 0] 25))
      have HC5 := Lib.hid (show (wr.alloc (.cells #[.bool false, .slice none 0 0, .slice none 0 0] 25)).cell? ⟨p, 0, none⟩ = some (.int .i64 ((at_ : Int) + 1)) ∧ (wr.alloc (.cells #[.bool false, .slice none 0 0, .slice none 0 0] 25)).cell? ⟨p, 1, none⟩ = some (.int .i64 (m : Int)) from ⟨cellA hc0, cellA hc1⟩)
      clear hc0 hc1 y3 y6 y7 hbw
      go_wp2_with fail
      obtain ⟨W5, hW5⟩ : ∃ W, W = wr.alloc (.cells #[.bool false, .slice none 0 0, .slice none 0 0] 25) := ⟨_, rfl⟩
      obtain ⟨G2, hG2⟩ : ∃ g, g = wr.heap.size := ⟨_, rfl⟩
      have hW5s : W5.heap.size = G2 + 1 := by rw [hW5, hG2]; simp
      rw [← hW5] at Y3 Y6 Y7 Y9 HB5 HC5 ⊢
      rw [← hG2] at Y9 hpl ⊢
      have hG2w : w.heap.size + 3 ≤ G2 := by omega
      obtain ⟨S', hS'⟩ : ∃ S' : Nat → Prop, S' = fun b => S b ∨ (w.heap.size ≤ b ∧ b < W5.heap.size) := ⟨_, rfl⟩
      have hSi : ∀ b, S b → S' b := fun b h => by rw [hS']; exact .inl h
      have hSo : ∀ b, S' b → S b ∨ (w.heap.size ≤ b ∧ b < W5.heap.size) := fun b h => by rw [hS'] at h; exact h
      have hS6 : S' (w.heap.size + 1) := by rw [hS']; exact .inr ⟨by omega, by omega⟩
      have hSG : S' G2 := by rw [hS']; exact .inr ⟨by omega, by omega⟩
      have hSE : S E := HEV.out.2.2.2.1
      have hSE' : S' E := hSi _ hSE
      have HSI := Lib.hid hSi
      have HEV5 := Lib.hid (show EvAt W5 E M S' bs (f + 1 + k1 + k2) by
        have := HEV.out
        rw [show f + (k1 + k2 + 1) = f + 1 + k1 + k2 by omega] at this
        exact this.wide HB5.out hSo hSE')
      have HOM5 := Lib.hid (HOM.out.wide HB5.out (fun b h => (hSo b h).imp id (fun h => h.1)))
      have HND5 := Lib.hid (HND.out.below HB5.out)
      have HST5 := Lib.hid (HST.out.below HB5.out)
      have hG0 : G2 ≠ E := by omega
      have hpE : p ≠ E := by omega
      have hpG : p ≠ G2 := by omega
      have hwE : w.heap.size ≠ E := by omega
      have hwG : w.heap.size ≠ G2 := by omega
      clear hW5 hG2 hS' hSo hSi hmk o4 l7 hs0
      go_loopw [10] (fun s10 wx => (s10 = .int .i64 1 ∧ W5 = wx) ∨ (∃ sA sc dA dc, s10 = .int .i64 0 ∧ RelTwo E G2 W5 wx ∧ EvAt wx E M S' bs (f + 1 + k1) ∧ ArrAt wx S' (.agg #[.bool a2.ch, .slice sA a2.sh.length sc, .slice dA a2.da.length dc]) a2 ∧ Box wx G2 25 #[.bool a2.ch, .slice sA a2.sh.length sc, .slice dA a2.da.length dc] ∧ OmAt wx S' C om ∧ NdsAt wx G g c ns)) (fun s10 _ => (intOf s10).toNat)
      case atStart => exact .inl ⟨rfl, rfl⟩
      case round =>
        rcases hrel with ⟨rfl, rfl⟩ | ⟨sA, sc, dA, dc, rfl, hr2, hev2, hv2, hx2, hom2, hnd2⟩
        · go_wp2_with fail
          have HX := Lib.hid (fun (wx : World) (h : RelTwo E G2 W5 wx) => (show wx.cell? ⟨w.heap.size, 0, none⟩ = some (.slice C.bA C.bn C.bc) ∧ wx.cell? ⟨w.heap.size, 1, none⟩ = some (.int .i64 C.at_) ∧ wx.cell? ⟨w.heap.size, 2, none⟩ = some (.int .i64 C.n) ∧ wx.cell? ⟨w.heap.size, 3, none⟩ = some (.pointer C.al) ∧ wx.cell? ⟨w.heap.size, 4, none⟩ = some (.bool C.ob) ∧ wx.cell? ⟨w.heap.size, 5, none⟩ = some (.slice C.oA C.on C.oc) ∧ wx.cell? ⟨w.heap.size, 6, none⟩ = some (.slice C.pA C.pn C.pc) ∧ wx.cell? ⟨w.heap.size, 7, none⟩ = some (.int .i64 C.deep) ∧ wx.cell? ⟨w.heap.size, 8, none⟩ = some (.pointer (some ⟨E, 0, none⟩)) ∧ w.heap.size < wx.heap.size from
            have z := h.box Y3.out hwE hwG
            ⟨z.cell 0, z.cell 1, z.cell 2, z.cell 3, z.cell 4, z.cell 5, z.cell 6, z.cell 7, z.cell 8, z.lt⟩))
          have HPC := Lib.hid (fun (wx : World) (h : RelTwo E G2 W5 wx) => (show wx.cell? ⟨p, 1, none⟩ = some (.int .i64 (m : Int)) ∧ p < wx.heap.size from ⟨h.cell HC5.out.2 hpE hpG, by have := h.size; omega⟩))
          have hRel : Rels (RelTwo E G2) := relsTwo E G2
          obtain ⟨V, hVe⟩ : ∃ V : Nat → Value → World → Prop, V = fun i v w' => match i with
              | 0 => v = .slice (some ⟨G2, 0, none⟩) 1 1
              | 1 => v = .int .i64 1
              | 2 => v = .int .i64 0
              | 3 => v = .agg #[.slice C.bA C.bn C.bc, .int .i64 C.at_, .int .i64 C.n, .pointer C.al, .bool C.ob, .slice C.oA C.on C.oc, .slice C.pA C.pn C.pc, .int .i64 C.deep, .pointer (some ⟨E, 0, none⟩)]
              | 4 => v = .slice (some ⟨g, 0, none⟩) L c
              | 5 => v = .slice (some ⟨p, 0, none⟩) 2 c2
              | 6 => v = .int .i64 1
              | 7 => v = .pointer (some ⟨p, 1, none⟩)
              | 8 => v = .int .i64 (m : Int)
              | 10 => v = .pointer (some ⟨G2, 0, none⟩)
              | _ => True := ⟨_, rfl⟩
          have hVm : ∀ j v w1 w2, V j v w1 → (RelTwo E G2) w1 w2 → V j v w2 := by
            intro j v w1 w2 h hr
            subst hVe
            match j, h with
            | 0, h => exact h
            | 1, h => exact h
            | 2, h => exact h
            | 3, h => exact h
            | 4, h => exact h
            | 5, h => exact h
            | 6, h => exact h
            | 7, h => exact h
            | 8, h => exact h
            | 9, _ => trivial
            | 10, h => exact h
            | i + 11, _ => trivial
          have hV0 : ∀ v w', V 0 v w' ↔ v = .slice (some ⟨G2, 0, none⟩) 1 1 := fun _ _ => by subst hVe; rfl
          have hV1 : ∀ v w', V 1 v w' ↔ v = .int .i64 1 := fun _ _ => by subst hVe; rfl
          have hV2 : ∀ v w', V 2 v w' ↔ v = .int .i64 0 := fun _ _ => by subst hVe; rfl
          have hV3 : ∀ v w', V 3 v w' ↔ v = .agg #[.slice C.bA C.bn C.bc, .int .i64 C.at_, .int .i64 C.n, .pointer C.al, .bool C.ob, .slice C.oA C.on C.oc, .slice C.pA C.pn C.pc, .int .i64 C.deep, .pointer (some ⟨E, 0, none⟩)] := fun _ _ => by subst hVe; rfl
          have hV4 : ∀ v w', V 4 v w' ↔ v = .slice (some ⟨g, 0, none⟩) L c := fun _ _ => by subst hVe; rfl
          have hV5 : ∀ v w', V 5 v w' ↔ v = .slice (some ⟨p, 0, none⟩) 2 c2 := fun _ _ => by subst hVe; rfl
          have hV6 : ∀ v w', V 6 v w' ↔ v = .int .i64 1 := fun _ _ => by subst hVe; rfl
          have hV7 : ∀ v w', V 7 v w' ↔ v = .pointer (some ⟨p, 1, none⟩) := fun _ _ => by subst hVe; rfl
          have hV8 : ∀ v w', V 8 v w' ↔ v = .int .i64 (m : Int) := fun _ _ => by subst hVe; rfl
          have hV10 : ∀ v w', V 10 v w' ↔ v = .pointer (some ⟨G2, 0, none⟩) := fun _ _ => by subst hVe; rfl
          have hV9 : ∀ v w', V 9 v w' := fun _ _ => by subst hVe; trivial
          have hV11 : ∀ v w', V 11 v w' := fun _ _ => by subst hVe; trivial
          obtain ⟨St, hSe⟩ : ∃ St : Nat → (Nat → Value) → World → Prop, St = fun s u w' => match s with
              | 0 => EvAt w' E M S' bs (f + 1 + k1 + k2) ∧ OmAt w' S' C om ∧ NdsAt w' G g c ns ∧ Std w' ∧ Box w' G2 25 #[.bool false, .slice none 0 0, .slice none 0 0]
              | 1 => ∃ sA sc dA dc, u 9 = .agg #[.bool a2.ch, .slice sA a2.sh.length sc, .slice dA a2.da.length dc] ∧ EvAt w' E M S' bs (f + 1 + k1) ∧ ArrAt w' S' (.agg #[.bool a2.ch, .slice sA a2.sh.length sc, .slice dA a2.da.length dc]) a2 ∧ Box w' G2 25 #[.bool false, .slice none 0 0, .slice none 0 0] ∧ OmAt w' S' C om ∧ NdsAt w' G g c ns
              | 2 => ∃ sA sc dA dc, EvAt w' E M S' bs (f + 1 + k1) ∧ ArrAt w' S' (.agg #[.bool a2.ch, .slice sA a2.sh.length sc, .slice dA a2.da.length dc]) a2 ∧ Box w' G2 25 #[.bool a2.ch, .slice sA a2.sh.length sc, .slice dA a2.da.length dc] ∧ OmAt w' S' C om ∧ NdsAt w' G g c ns
              | _ => False := ⟨_, rfl⟩
          have hSm : ∀ s u u' w1 w2, (∀ c ∈ [9, 11], u' c = u c) → St s u w1 → Below w1.heap.size w1 w2 → St s u' w2 := by
            intro s u u' w1 w2 hu h hb
            subst hSe
            match s, h with
            | 0, ⟨h1, h2, h3, h4, h5⟩ => exact ⟨h1.below hb, fun a e => (h2 a e).below hb, h3.below hb, h4.below hb, h5.below hb⟩
            | 1, ⟨sA, sc, dA, dc, h0, h1, h2, h3, h4, h5⟩ => exact ⟨sA, sc, dA, dc, by rw [hu 9 (by simp)]; exact h0, h1.below hb, h2.below hb, h3.below hb, fun a e => (h4 a e).below hb, h5.below hb⟩
            | 2, ⟨sA, sc, dA, dc, h1, h2, h3, h4, h5⟩ => exact ⟨sA, sc, dA, dc, h1.below hb, h2.below hb, h3.below hb, fun a e => (h4 a e).below hb, h5.below hb⟩
            | s + 3, h => exact h.elim
          have hS0 : ∀ u w', St 0 u w' ↔ (EvAt w' E M S' bs (f + 1 + k1 + k2) ∧ OmAt w' S' C om ∧ NdsAt w' G g c ns ∧ Std w' ∧ Box w' G2 25 #[.bool false, .slice none 0 0, .slice none 0 0]) := fun _ _ => by subst hSe; rfl
          have hS1 : ∀ u w', St 1 u w' ↔ (∃ sA sc dA dc, u 9 = .agg #[.bool a2.ch, .slice sA a2.sh.length sc, .slice dA a2.da.length dc] ∧ EvAt w' E M S' bs (f + 1 + k1) ∧ ArrAt w' S' (.agg #[.bool a2.ch, .slice sA a2.sh.length sc, .slice dA a2.da.length dc]) a2 ∧ Box w' G2 25 #[.bool false, .slice none 0 0, .slice none 0 0] ∧ OmAt w' S' C om ∧ NdsAt w' G g c ns) := fun _ _ => by subst hSe; rfl
          have hS2 : ∀ u w', St 2 u w' ↔ (∃ sA sc dA dc, EvAt w' E M S' bs (f + 1 + k1) ∧ ArrAt w' S' (.agg #[.bool a2.ch, .slice sA a2.sh.length sc, .slice dA a2.da.length dc]) a2 ∧ Box w' G2 25 #[.bool a2.ch, .slice sA a2.sh.length sc, .slice dA a2.da.length dc] ∧ OmAt w' S' C om ∧ NdsAt w' G g c ns) := fun _ _ => by subst hSe; rfl
          clear hVe hSe
          refine wp_region_inv (ChainInv (RelTwo E G2) V [9, 11] St W5) (by kernel_rfl) (by kernel_rfl) (by kernel_rfl) ?start ?step ?fin
          case start => exact fun u => ChainInv.start hRel (Below.refl _ _).drew ((hS0 _ _).2 (⟨HEV5.out.below (Below.refl _ _).drew, fun a e => (HOM5.out a e).below (Below.refl _ _).drew, HND5.out.below (Below.refl _ _).drew, HST5.out.below (Below.refl _ _).drew, Y9.out.drew⟩))
          case step =>
            simp only [putAll, Act.put, List.setIfInBounds_toArray, List.set_cons_zero, List.set_cons_succ, Nat.reduceAdd, Nat.zero_add]
            intro i o ho done u wr hnd hdep hI K hK
            have hgr := hI.1
            match i, ho with
            | 0, ho =>
              simp only [List.getElem?_cons_zero, Option.some.injEq] at ho
              subst ho
              simp only [Act.put, List.setIfInBounds_toArray, List.set_cons_zero, List.set_cons_succ] at hK
              refine wpOp_step rfl fun K' hK' => ?_
              go_simp
              exact hK' _ _ (hK _ _ (hI.quiet hRel hnd (by decide) hVm hSm (Below.refl _ _) ((hV0 _ _).2 rfl)))
            | 1, ho =>
              simp only [List.getElem?_cons_succ, List.getElem?_cons_zero, Option.some.injEq] at ho
              subst ho
              simp only [Act.put, List.setIfInBounds_toArray, List.set_cons_zero, List.set_cons_succ] at hK
              refine wpOp_step rfl fun K' hK' => ?_
              go_simp
              exact hK' _ _ (hK _ _ (hI.quiet hRel hnd (by decide) hVm hSm (Below.refl _ _) ((hV1 _ _).2 rfl)))
            | 2, ho =>
              simp only [List.getElem?_cons_succ, List.getElem?_cons_zero, Option.some.injEq] at ho
              subst ho
              simp only [Act.put, List.setIfInBounds_toArray, List.set_cons_zero, List.set_cons_succ] at hK
              have e1 := (hV1 _ _).1 (hI.know (hdep ⟨1, .data⟩ (by simp) rfl))
              simp only [e1] at hK
              refine wpOp_step rfl fun K' hK' => ?_
              go_simp
              exact hK' _ _ (hK _ _ (hI.quiet hRel hnd (by decide) hVm hSm (Below.refl _ _) ((hV2 _ _).2 rfl)))
            | 3, ho =>
              simp only [List.getElem?_cons_succ, List.getElem?_cons_zero, Option.some.injEq] at ho
              subst ho
              simp only [Act.put, List.setIfInBounds_toArray, List.set_cons_zero, List.set_cons_succ] at hK
              obtain ⟨y0, y1, y2, y3, y4, y5, y6, y7, y8, yl⟩ := HX.out wr hgr
              refine wpOp_step rfl fun K' hK' => ?_
              go_simp
              exact hK' _ _ (hK _ _ (hI.quiet hRel hnd (by decide) hVm hSm (Below.refl _ _) ((hV3 _ _).2 rfl)))
            | 4, ho =>
              simp only [List.getElem?_cons_succ, List.getElem?_cons_zero, Option.some.injEq] at ho
              subst ho
              simp only [Act.put, List.setIfInBounds_toArray, List.set_cons_zero, List.set_cons_succ] at hK
              refine wpOp_step rfl fun K' hK' => ?_
              go_simp
              exact hK' _ _ (hK _ _ (hI.quiet hRel hnd (by decide) hVm hSm (Below.refl _ _) ((hV4 _ _).2 rfl)))
            | 5, ho =>
              simp only [List.getElem?_cons_succ, List.getElem?_cons_zero, Option.some.injEq] at ho
              subst ho
              simp only [Act.put, List.setIfInBounds_toArray, List.set_cons_zero, List.set_cons_succ] at hK
              refine wpOp_step rfl fun K' hK' => ?_
              go_simp
              exact hK' _ _ (hK _ _ (hI.quiet hRel hnd (by decide) hVm hSm (Below.refl _ _) ((hV5 _ _).2 rfl)))
            | 6, ho =>
              simp only [List.getElem?_cons_succ, List.getElem?_cons_zero, Option.some.injEq] at ho
              subst ho
              simp only [Act.put, List.setIfInBounds_toArray, List.set_cons_zero, List.set_cons_succ] at hK
              refine wpOp_step rfl fun K' hK' => ?_
              go_simp
              exact hK' _ _ (hK _ _ (hI.quiet hRel hnd (by decide) hVm hSm (Below.refl _ _) ((hV6 _ _).2 rfl)))
            | 7, ho =>
              simp only [List.getElem?_cons_succ, List.getElem?_cons_zero, Option.some.injEq] at ho
              subst ho
              simp only [Act.put, List.setIfInBounds_toArray, List.set_cons_zero, List.set_cons_succ] at hK
              have e5 := (hV5 _ _).1 (hI.know (hdep ⟨5, .data⟩ (by simp) rfl))
              have e6 := (hV6 _ _).1 (hI.know (hdep ⟨6, .data⟩ (by simp) rfl))
              simp only [e5, e6] at hK
              refine wpOp_step rfl fun K' hK' => ?_
              go_simp
              exact hK' _ _ (hK _ _ (hI.quiet hRel hnd (by decide) hVm hSm (Below.refl _ _) ((hV7 _ _).2 rfl)))
            | 8, ho =>
              simp only [List.getElem?_cons_succ, List.getElem?_cons_zero, Option.some.injEq] at ho
              subst ho
              simp only [Act.put, List.setIfInBounds_toArray, List.set_cons_zero, List.set_cons_succ] at hK
              obtain ⟨yc, ycl⟩ := HPC.out wr hgr
              have e7 := (hV7 _ _).1 (hI.know (hdep ⟨7, .data⟩ (by simp) rfl))
              simp only [e7] at hK
              refine wpOp_step rfl fun K' hK' => ?_
              go_simp
              exact hK' _ _ (hK _ _ (hI.quiet hRel hnd (by decide) hVm hSm (Below.refl _ _) ((hV8 _ _).2 rfl)))
            | 9, ho =>
              simp only [List.getElem?_cons_succ, List.getElem?_cons_zero, Option.some.injEq] at ho
              subst ho
              simp only [Act.put, List.setIfInBounds_toArray, List.set_cons_zero, List.set_cons_succ] at hK
              have e3 := (hV3 _ _).1 (hI.know (hdep ⟨3, .data⟩ (by simp) rfl))
              have e4 := (hV4 _ _).1 (hI.know (hdep ⟨4, .data⟩ (by simp) rfl))
              have e8 := (hV8 _ _).1 (hI.know (hdep ⟨8, .data⟩ (by simp) rfl))
              obtain ⟨s1, s2, s3, s4, s5⟩ := (hS0 _ _).1 (hI.at_ (k := 0) rfl hnd (.inl rfl))
              simp only [e3, e4, e8] at hK
              refine wpOp_step rfl fun K' hK' => ?_
              go_simp
              have hcl := HR.out wr C E M (f + 1 + k1) G g c S' s4 s1 s3 hGE s2 hdeep
              rw [← HLN.out] at hcl
              refine hcl.mono ?_
              rintro e wB ⟨v2, rfl, hv2, hevB, hgB⟩
              obtain ⟨sA, sc, dA, dc, hve, -⟩ := id hv2
              subst hve
              exact hK' _ _ (hK _ _ (hI.step hRel (k := 0) rfl hnd (.inl rfl) (by decide) hVm (relTwo_grown hgB) (hV9 _ _) ((hS1 _ _).2 (⟨sA, sc, dA, dc, by rw [upd_same], hevB, hv2, Box.grown s5 hgB (by intro e; injection e; omega), fun a e => (s2 a e).grown hgB hSE', s3.grown hgB hGE⟩))))
            | 10, ho =>
              simp only [List.getElem?_cons_succ, List.getElem?_cons_zero, Option.some.injEq] at ho
              subst ho
              simp only [Act.put, List.setIfInBounds_toArray, List.set_cons_zero, List.set_cons_succ] at hK
              have e0 := (hV0 _ _).1 (hI.know (hdep ⟨0, .data⟩ (by simp) rfl))
              have e2 := (hV2 _ _).1 (hI.know (hdep ⟨2, .data⟩ (by simp) rfl))
              simp only [e0, e2] at hK
              refine wpOp_step rfl fun K' hK' => ?_
              go_simp
              exact hK' _ _ (hK _ _ (hI.quiet hRel hnd (by decide) hVm hSm (Below.refl _ _) ((hV10 _ _).2 rfl)))
            | 11, ho =>
              simp only [List.getElem?_cons_succ, List.getElem?_cons_zero, Option.some.injEq] at ho
              subst ho
              simp only [Act.put, List.setIfInBounds_toArray, List.set_cons_zero, List.set_cons_succ] at hK
              have e10 := (hV10 _ _).1 (hI.know (hdep ⟨10, .data⟩ (by simp) rfl))
              obtain ⟨sA, sc, dA, dc, h9, s1, s2, s3, s4, s5⟩ := (hS1 _ _).1 (hI.at_ (k := 1) rfl hnd (.inr ⟨9, rfl, hdep ⟨9, .data⟩ (by simp) rfl⟩))
              simp only [e10, h9] at hK
              obtain ⟨d0, d1, d2⟩ := Box.three s3
              have f0 := Box.frozen s3 0
              have f1 := Box.frozen s3 1
              have f2 := Box.frozen s3 2
              have dl := s3.lt
              refine wpOp_step rfl fun K' hK' => ?_
              go_simp
              have hg3 := grownBy_three wr G2 (.bool a2.ch) (.slice sA a2.sh.length sc) (.slice dA a2.da.length dc)
              have hx3 : Box (((wr.setCell ⟨G2, 0, none⟩ (.bool a2.ch)).setCell ⟨G2, 1, none⟩ (.slice sA a2.sh.length sc)).setCell ⟨G2, 2, none⟩ (.slice dA a2.da.length dc)) G2 25 #[.bool a2.ch, .slice sA a2.sh.length sc, .slice dA a2.da.length dc] := by simpa using ((s3.store 0 (.bool a2.ch)).store 1 (.slice sA a2.sh.length sc)).store 2 (.slice dA a2.da.length dc)
              exact hK' _ _ (hK _ _ (hI.step (v := .nilIface) hRel (k := 1) rfl hnd (.inr ⟨9, rfl, hdep ⟨9, .data⟩ (by simp) rfl⟩) (by decide) hVm (relTwo_grown2 hg3) (hV11 _ _) ((hS2 _ _).2 (⟨sA, sc, dA, dc, s1.off hg3 s3 (by omega), s2.off hg3 s3, hx3, fun a e => (s4 a e).off hg3 s3, s5.grown hg3 (by omega)⟩))))
            | i + 12, ho => simp at ho
          case fin =>
            simp only [putAll, Act.put, List.setIfInBounds_toArray, List.set_cons_zero, List.set_cons_succ, Nat.reduceAdd, Nat.zero_add]
            intro done u wr hd hI
            simp only [List.length_cons, List.length_nil, Nat.reduceAdd, Nat.zero_add] at hd
            have hS := (hS2 _ _).1 (hI.end_ (fun c hc => hd c (by simp at hc; omega)))
            obtain ⟨sA, sc, dA, dc, s1, s2, s3⟩ := hS
            have HH := Lib.hid (And.intro hI.1 (And.intro s1 (And.intro s2 s3)))
            clear hI hd s1 s2 s3
            go_wp2_with fail
            go_roundw
            case rel => exact .inr ⟨sA, sc, dA, dc, rfl, HH.out⟩
            case measure => simp [intOf]
        · have hs6 := hr2.size
          obtain ⟨N0, hN0⟩ : ∃ n, n = wr.heap.size := ⟨_, rfl⟩
          have HX := Lib.hid (fun (wx : World) (h : wr.grownBy wx (some E)) => (show wx.cell? ⟨w.heap.size, 0, none⟩ = some (.slice C.bA C.bn C.bc) ∧ wx.cell? ⟨w.heap.size, 1, none⟩ = some (.int .i64 C.at_) ∧ wx.cell? ⟨w.heap.size, 2, none⟩ = some (.int .i64 C.n) ∧ wx.cell? ⟨w.heap.size, 3, none⟩ = some (.pointer C.al) ∧ wx.cell? ⟨w.heap.size, 4, none⟩ = some (.bool C.ob) ∧ wx.cell? ⟨w.heap.size, 5, none⟩ = some (.slice C.oA C.on C.oc) ∧ wx.cell? ⟨w.heap.size, 6, none⟩ = some (.slice C.pA C.pn C.pc) ∧ wx.cell? ⟨w.heap.size, 7, none⟩ = some (.int .i64 C.deep) ∧ wx.cell? ⟨w.heap.size, 8, none⟩ = some (.pointer (some ⟨E, 0, none⟩)) ∧ w.heap.size < wx.heap.size from
            have z := (relTwo_grown (P := G2) h).box (hr2.box Y3.out hwE hwG) hwE hwG
            ⟨z.cell 0, z.cell 1, z.cell 2, z.cell 3, z.cell 4, z.cell 5, z.cell 6, z.cell 7, z.cell 8, z.lt⟩))
          have HPC := Lib.hid (fun (wx : World) (h : wr.grownBy wx (some E)) => (show wx.cell? ⟨p, 0, none⟩ = some (.int .i64 ((at_ : Int) + 1)) ∧ p < wx.heap.size from ⟨(relTwo_grown (P := G2) h).cell (hr2.cell HC5.out.1 hpE hpG) hpE hpG, by have := h.size; omega⟩))
          have HY6 := Lib.hid (hr2.box Y6.out (by omega) (by omega))
          have HX2 := Lib.hid hx2
          have HGW := Lib.hid (RelTwo.grown (grownBy_of_below (row := some E) HB5.out (Nat.le_refl _)) hr2 (by omega))
          have HOM6 := Lib.hid hom2
          have HND6 := Lib.hid hnd2
          have HST6 := Lib.hid (HST.out.grown HGW.out hE20)
          have HEV6 := Lib.hid hev2
          have HV6 := Lib.hid hv2
          clear hx2 hev2 hv2 hom2 hnd2
          go_wp2_with fail
          have hRel : Rels (fun u0 u1 => u0.grownBy u1 (some E)) := rels_block E
          obtain ⟨V, hVe⟩ : ∃ V : Nat → Value → Prop, V = fun i v => match i with | 0 => v = .agg #[.slice C.bA C.bn C.bc, .int .i64 C.at_, .int .i64 C.n, .pointer C.al, .bool C.ob, .slice C.oA C.on C.oc, .slice C.pA C.pn C.pc, .int .i64 C.deep, .pointer (some ⟨E, 0, none⟩)] | 1 => v = .slice (some ⟨g, 0, none⟩) L c | 2 => v = .slice (some ⟨p, 0, none⟩) 2 c2 | 3 => v = .pointer (some ⟨p, 0, none⟩) | 4 => v = .int .i64 ((at_ : Int) + 1) | _ => True := ⟨_, rfl⟩
          have hV0 : ∀ v, V 0 v ↔ v = .agg #[.slice C.bA C.bn C.bc, .int .i64 C.at_, .int .i64 C.n, .pointer C.al, .bool C.ob, .slice C.oA C.on C.oc, .slice C.pA C.pn C.pc, .int .i64 C.deep, .pointer (some ⟨E, 0, none⟩)] := fun _ => by subst hVe; rfl
          have hV1 : ∀ v, V 1 v ↔ v = .slice (some ⟨g, 0, none⟩) L c := fun _ => by subst hVe; rfl
          have hV2 : ∀ v, V 2 v ↔ v = .slice (some ⟨p, 0, none⟩) 2 c2 := fun _ => by subst hVe; rfl
          have hV3 : ∀ v, V 3 v ↔ v = .pointer (some ⟨p, 0, none⟩) := fun _ => by subst hVe; rfl
          have hV4 : ∀ v, V 4 v ↔ v = .int .i64 ((at_ : Int) + 1) := fun _ => by subst hVe; rfl
          have hV5 : ∀ v, V 5 v := fun _ => by subst hVe; trivial
          have hV6 : ∀ v, V 6 v := fun _ => by subst hVe; trivial
          have hV7 : ∀ v, V 7 v := fun _ => by subst hVe; trivial
          clear hVe
          obtain ⟨A, hA⟩ : ∃ A : World → Prop, A = fun w' => EvAt w' E M S' bs (f + 1 + k1) ∧ OmAt w' S' C om ∧ NdsAt w' G g c ns ∧ Std w' ∧ ArrAt w' S' (.agg #[.bool a2.ch, .slice sA a2.sh.length sc, .slice dA a2.da.length dc]) a2 ∧ Box w' G2 25 #[.bool a2.ch, .slice sA a2.sh.length sc, .slice dA a2.da.length dc] := ⟨_, rfl⟩
          obtain ⟨B, hB⟩ : ∃ B : Value → World → Prop, B = fun v w' => ∃ tA tc eA ec, v = .agg #[.bool a1.ch, .slice tA a1.sh.length tc, .slice eA a1.da.length ec] ∧ EvAt w' E M S' bs (f + 1) ∧ ArrAt w' S' (.agg #[.bool a2.ch, .slice sA a2.sh.length sc, .slice dA a2.da.length dc]) a2 ∧ Box w' G2 25 #[.bool a2.ch, .slice sA a2.sh.length sc, .slice dA a2.da.length dc] ∧ ArrAt w' S' (.agg #[.bool a1.ch, .slice tA a1.sh.length tc, .slice eA a1.da.length ec]) a1 := ⟨_, rfl⟩
          obtain ⟨D, hD⟩ : ∃ D : Nat → Value → World → Prop, D = fun P v w' => ∃ tA tc eA ec, v = .agg #[.bool a1.ch, .slice tA a1.sh.length tc, .slice eA a1.da.length ec] ∧ Box w' P 25 #[.bool a1.ch, .slice tA a1.sh.length tc, .slice eA a1.da.length ec] ∧ EvAt w' E M S' bs (f + 1) ∧ ArrAt w' S' (.agg #[.bool a2.ch, .slice sA a2.sh.length sc, .slice dA a2.da.length dc]) a2 ∧ Box w' G2 25 #[.bool a2.ch, .slice sA a2.sh.length sc, .slice dA a2.da.length dc] ∧ ArrAt w' S' (.agg #[.bool a1.ch, .slice tA a1.sh.length tc, .slice eA a1.da.length ec]) a1 := ⟨_, rfl⟩
          refine wp_region_inv (CallStore (fun u0 u1 => u0.grownBy u1 (some E)) V A B (fun P w' => Box w' P 25 #[.bool false, .slice none 0 0, .slice none 0 0]) D N0 5 6 7 wr) (by kernel_rfl) (by kernel_rfl) (by kernel_rfl) ?start ?step ?fin
          case start => exact fun u => CallStore.start (grownBy_of_below (Below.refl _ _).drew (Nat.le_refl _)) (by rw [hA]; exact ⟨HEV6.out.below (Below.refl _ _).drew, fun a e => (HOM6.out a e).below (Below.refl _ _).drew, HND6.out.below (Below.refl _ _).drew, HST6.out.below (Below.refl _ _).drew, HV6.out.below (Below.refl _ _).drew, HX2.out.drew⟩)
          case step =>
            simp only [putAll, Act.put, List.setIfInBounds_toArray, List.set_cons_zero, List.set_cons_succ, Nat.reduceAdd, Nat.zero_add]
            intro i o ho done u wx hnd hdep hI K hK
            have hgr := hI.1
            match i, ho with
            | 0, ho =>
              simp only [List.getElem?_cons_zero, Option.some.injEq] at ho
              subst ho
              simp only [Act.put, List.setIfInBounds_toArray, List.set_cons_zero, List.set_cons_succ] at hK
              obtain ⟨y0, y1, y2, y3, y4, y5, y6, y7, y8, yl⟩ := HX.out wx hgr
              refine wpOp_step rfl fun K' hK' => ?_
              go_simp
              exact hK' _ _ (hK _ _ (hI.quiet (by decide) (by decide) (by decide) ((hV0 _).2 rfl)))
            | 1, ho =>
              simp only [List.getElem?_cons_succ, List.getElem?_cons_zero, Option.some.injEq] at ho
              subst ho
              simp only [Act.put, List.setIfInBounds_toArray, List.set_cons_zero, List.set_cons_succ] at hK
              refine wpOp_step rfl fun K' hK' => ?_
              go_simp
              exact hK' _ _ (hK _ _ (hI.quiet (by decide) (by decide) (by decide) ((hV1 _).2 rfl)))
            | 2, ho =>
              simp only [List.getElem?_cons_succ, List.getElem?_cons_zero, Option.some.injEq] at ho
              subst ho
              simp only [Act.put, List.setIfInBounds_toArray, List.set_cons_zero, List.set_cons_succ] at hK
              refine wpOp_step rfl fun K' hK' => ?_
              go_simp
              exact hK' _ _ (hK _ _ (hI.quiet (by decide) (by decide) (by decide) ((hV2 _).2 rfl)))
            | 3, ho =>
              simp only [List.getElem?_cons_succ, List.getElem?_cons_zero, Option.some.injEq] at ho
              subst ho
              simp only [Act.put, List.setIfInBounds_toArray, List.set_cons_zero, List.set_cons_succ] at hK
              have e2 := (hV2 _).1 (hI.2.1 2 (hdep ⟨2, .data⟩ (by simp) rfl))
              simp only [e2] at hK
              refine wpOp_step rfl fun K' hK' => ?_
              go_simp
              exact hK' _ _ (hK _ _ (hI.quiet (by decide) (by decide) (by decide) ((hV3 _).2 rfl)))
            | 4, ho =>
              simp only [List.getElem?_cons_succ, List.getElem?_cons_zero, Option.some.injEq] at ho
              subst ho
              simp only [Act.put, List.setIfInBounds_toArray, List.set_cons_zero, List.set_cons_succ] at hK
              obtain ⟨yc, ycl⟩ := HPC.out wx hgr
              have e3 := (hV3 _).1 (hI.2.1 3 (hdep ⟨3, .data⟩ (by simp) rfl))
              simp only [e3] at hK
              refine wpOp_step rfl fun K' hK' => ?_
              go_simp
              exact hK' _ _ (hK _ _ (hI.quiet (by decide) (by decide) (by decide) ((hV4 _).2 rfl)))
            | 5, ho =>
              simp only [List.getElem?_cons_succ, List.getElem?_cons_zero, Option.some.injEq] at ho
              subst ho
              simp only [Act.put, List.setIfInBounds_toArray, List.set_cons_zero, List.set_cons_succ] at hK
              have e0 := (hV0 _).1 (hI.2.1 0 (hdep ⟨0, .data⟩ (by simp) rfl))
              have e1 := (hV1 _).1 (hI.2.1 1 (hdep ⟨1, .data⟩ (by simp) rfl))
              have e4 := (hV4 _).1 (hI.2.1 4 (hdep ⟨4, .data⟩ (by simp) rfl))
              have hAw := hI.2.2.1 hnd
              rw [hA] at hAw
              obtain ⟨s1, s2, s3, s4, s5, s6⟩ := hAw
              simp only [e0, e1, e4] at hK
              refine wpOp_step rfl fun K' hK' => ?_
              go_simp
              have hcl := HL.out wx C E M (f + 1) G g c S' s4 s1 s3 hGE s2 hdeep
              rw [← HLN.out] at hcl
              push_cast at hcl
              refine hcl.mono ?_
              rintro e wB ⟨v1, rfl, hv1, hevB, hgB⟩
              obtain ⟨tA, tc, eA, ec, hve, -⟩ := id hv1
              subst hve
              exact hK' _ _ (hK _ _ (hI.call hRel hnd (by decide) (by decide) (hV5 _) hgB (by rw [hB]; exact ⟨tA, tc, eA, ec, rfl, hevB, s5.grown hgB hSE', Box.grown s6 hgB (by intro e; injection e; omega), hv1⟩) (fun P hP hz => Box.grown hz hgB (by intro e; injection e; omega))))
            | 6, ho =>
              simp only [List.getElem?_cons_succ, List.getElem?_cons_zero, Option.some.injEq] at ho
              subst ho
              simp only [Act.put, List.setIfInBounds_toArray, List.set_cons_zero, List.set_cons_succ] at hK
              refine wpOp_step rfl fun K' hK' => ?_
              go_simp
              exact hK' _ _ (hK _ _ (hI.make hRel hnd (by decide) (by decide) (hV6 _) (below_one _ _) (by have := hgr.size; omega) (fun h => by rw [hA] at h ⊢; obtain ⟨s1, s2, s3, s4, s5, s6⟩ := h; exact ⟨s1.below (below_one _ _), fun a e => (s2 a e).below (below_one _ _), s3.below (below_one _ _), s4.below (below_one _ _), s5.below (below_one _ _), s6.alloc _⟩) (fun x h => by rw [hB] at h ⊢; obtain ⟨tA, tc, eA, ec, e, s1, s2, s3, s4⟩ := h; exact ⟨tA, tc, eA, ec, e, s1.below (below_one _ _), s2.below (below_one _ _), s3.alloc _, s4.below (below_one _ _)⟩) (Box.new _ _ _)))
            | 7, ho =>
              simp only [List.getElem?_cons_succ, List.getElem?_cons_zero, Option.some.injEq] at ho
              subst ho
              simp only [Act.put, List.setIfInBounds_toArray, List.set_cons_zero, List.set_cons_succ] at hK
              have d5 : done 5 = true := hdep ⟨5, .data⟩ (by simp) rfl
              have d6 : done 6 = true := hdep ⟨6, .data⟩ (by simp) rfl
              have hBw := hI.2.2.2.1 d5 hnd
              rw [hB] at hBw
              obtain ⟨tA, tc, eA, ec, e5, s1, s2, s3, s4⟩ := hBw
              obtain ⟨P, e6, hP, hz⟩ := hI.2.2.2.2.1 d6
              have hz := hz hnd
              simp only [e5, e6] at hK
              obtain ⟨z0, z1, z2⟩ := Box.three hz
              have f0 := Box.frozen hz 0
              have f1 := Box.frozen hz 1
              have f2 := Box.frozen hz 2
              have zl := hz.lt
              refine wpOp_step rfl fun K' hK' => ?_
              go_simp
              have hg3 := grownBy_three wx P (.bool a1.ch) (.slice tA a1.sh.length tc) (.slice eA a1.da.length ec)
              have hx3 : Box (((wx.setCell ⟨P, 0, none⟩ (.bool a1.ch)).setCell ⟨P, 1, none⟩ (.slice tA a1.sh.length tc)).setCell ⟨P, 2, none⟩ (.slice eA a1.da.length ec)) P 25 #[.bool a1.ch, .slice tA a1.sh.length tc, .slice eA a1.da.length ec] := by simpa using ((hz.store 0 (.bool a1.ch)).store 1 (.slice tA a1.sh.length tc)).store 2 (.slice eA a1.da.length ec)
              exact hK' _ _ (hK _ _ (hI.store (v := .nilIface) d5 d6 (by decide) (by decide) e6 hP (hV7 _) (grownBy_after hgr hg3 (by omega)) (by rw [hD]; exact ⟨tA, tc, eA, ec, e5, hx3, s1.off hg3 hz (by omega), s2.off hg3 hz, Box.grown s3 hg3 (by intro e; injection e; omega), s4.off hg3 hz⟩)))
            | i + 8, ho => simp at ho
          case fin =>
            simp only [putAll, Act.put, List.setIfInBounds_toArray, List.set_cons_zero, List.set_cons_succ, Nat.reduceAdd, Nat.zero_add]
            intro done u wx hd hI
            simp only [List.length_cons, List.length_nil, Nat.reduceAdd, Nat.zero_add] at hd
            obtain ⟨-, -, P, e6, hP, hDD⟩ := hI.2.2.2.2.2 (hd 7 (by omega))
            rw [hD] at hDD
            obtain ⟨tA, tc, eA, ec, -, x1, x2, x3, x4, x5⟩ := hDD
            have hgr := hI.1
            simp only [e6]
            obtain ⟨y0, y1, y2, y3, y4, y5, y6, y7, y8, yl⟩ := HX.out wx hgr
            have HSTEP := Lib.hid (step_any x2)
            have HG7 := Lib.hid (grownBy_trans HGW.out hgr)
            have Z6 := Lib.hid (Box.grown HY6.out hgr (by intro e; injection e; omega))
            have X1 := Lib.hid x1
            have X3 := Lib.hid x3
            have X4 := Lib.hid x4
            have X5 := Lib.hid x5
            have hs7 := hgr.size
            clear hI hd hA hB hD e6 x1 x2 x3 x4 x5 hgr
            go_wp2_with fail
            refine HSTEP.out.mono ?_
            rintro e wC ⟨rfl, hevC, hgC⟩
            have z1 := Box.grown X1.out hgC (by intro e; injection e; omega)
            obtain ⟨q0, q1, q2⟩ := Box.three z1
            have ql := z1.lt
            have V1 := Lib.hid (X5.out.grown hgC hSE')
            have V2 := Lib.hid (X3.out.grown hgC hSE')
            have Z4 := Lib.hid (Box.grown X4.out hgC (by intro e; injection e; omega))
            have ZZ := Lib.hid (Box.grown Z6.out hgC (by intro e; injection e; omega))
            have HEVC := Lib.hid hevC
            have HGC := Lib.hid (grownBy_trans HG7.out hgC)
            have HPK := Lib.hid (HA.out wC S' _ G2 _ _ _ _ _ _ _ V1.out Z4.out V2.out.isArr hevC.2.2.2.2.1)
            clear hevC hgC z1 y0 y1 y2 y3 y4 y5 y6 y7 y8 yl
            go_wp2_with fail
            refine HPK.out.mono ?_
            rintro e wD ⟨v', rfl, hvD, hbD⟩
            obtain ⟨sB, sd, dB, dd, hve, -⟩ := id hvD
            subst hve
            have HVD := Lib.hid hvD
            have HBD := Lib.hid hbD
            clear hvD hbD q0 q1 q2 ql
            go_wp2_with fail
            refine must_any.mono ?_
            rintro e wE ⟨rfl, hbE⟩
            have hbCE := HBD.out.trans (hbE.mono HBD.out.size)
            have z6 := ZZ.out.below hbCE
            obtain ⟨d0, d1, d2⟩ := Box.three z6
            have f0 := Box.frozen z6 0
            have f1 := Box.frozen z6 1
            have f2 := Box.frozen z6 2
            have dl := z6.lt
            have HVE := Lib.hid (HVD.out.below hbE)
            have HEVE := Lib.hid (HEVC.out.below hbCE)
            have HGE := Lib.hid (grownBy_then HGC.out hbCE)
            clear hbE hbCE z6
            go_wp2_with fail
            refine bodyPost_ret (v := .agg #[.bool b.ch, .slice sB b.sh.length sd, .slice dB b.da.length dd]) (by simp [results, Tryz.results100, go_sem, d0, d1, d2, f0, f1, f2, dl]) rfl ?_
            have hg6 := grownBy_three wE (w.heap.size + 1) (.bool b.ch) (.slice sB b.sh.length sd) (.slice dB b.da.length dd)
            exact ⟨_, rfl, (HVE.out.grown hg6 hS6).wide (fun x h => .inl (HSI.out x h)), (HEVE.out.grown hg6 hS6 (by omega)).narrow HSI.out hSE, grownBy_after HGE.out hg6 (by omega)⟩


set_option maxRecDepth 100000 in
set_option maxHeartbeats 8000000 in
theorem v_pick {om : Option Arr} {bs : List Bd} {ns : List Nd} {at_ m k1 k2 : Nat} {a1 a2 a : Arr} (hx : ns[at_]? = some ⟨8, 0, 0, 0, 1, [], ⟨#[]⟩⟩) (hk : Skips ns (at_ + 1) 1 m) (hm390 : m ≤ 390) (hR : ValAt om bs ns m k2 a2) (hL : ValAt om bs ns (at_ + 1) k1 a1) (hA : ActPick a1 a2 a) : ValAt om bs ns at_ (k1 + k2 + 1) a := by
  intro w C E M f G g c S hst hev hnds hGE hom hdeep
  have hlt : at_ < ns.length := (List.getElem?_eq_some_iff.1 hx).1
  obtain ⟨nA, nc, n0, n1, n2, n3, n4, n5, n6, n7, n8⟩ := hnds.2.2.2.2.2 at_ _ hx
  have hgM := hnds.1
  have hMs := hnds.2.1
  have hL390 := hnds.2.2.2.2.1
  have hLc := hnds.2.2.1
  have hgl : g < w.heap.size := by omega
  have hEl := hev.1.lt
  simp only [] at n0 n1 n2 n3 n4 n5 n6
  obtain ⟨L, hLn⟩ : ∃ L, L = ns.length := ⟨_, rfl⟩
  rw [← hLn] at hlt hL390 hLc
  have hb3 := below_three w (.cells #[.slice C.bA C.bn C.bc, .int .i64 C.at_, .int .i64 C.n, .pointer C.al, .bool C.ob, .slice C.oA C.on C.oc, .slice C.pA C.pn C.pc, .int .i64 C.deep, .pointer (some ⟨E, 0, none⟩)] 131) (.cells #[.bool false, .slice none 0 0, .slice none 0 0] 25) (.cells #[.int .i64 8, .int .i64 0, .int .i64 0, .int .i64 0, .int .i64 1, .slice nA 0 nc, .string ⟨#[]⟩] 101)
  have x6 := (Box.new (w.alloc (.cells #[.slice C.bA C.bn C.bc, .int .i64 C.at_, .int .i64 C.n, .pointer C.al, .bool C.ob, .slice C.oA C.on C.oc, .slice C.pA C.pn C.pc, .int .i64 C.deep, .pointer (some ⟨E, 0, none⟩)] 131)) 25 #[.bool false, .slice none 0 0, .slice none 0 0]).alloc (.cells #[.int .i64 8, .int .i64 0, .int .i64 0, .int .i64 0, .int .i64 1, .slice nA 0 nc, .string ⟨#[]⟩] 101)
  obtain ⟨W, hW⟩ : ∃ W, W = ((w.alloc (.cells #[.slice C.bA C.bn C.bc, .int .i64 C.at_, .int .i64 C.n, .pointer C.al, .bool C.ob, .slice C.oA C.on C.oc, .slice C.pA C.pn C.pc, .int .i64 C.deep, .pointer (some ⟨E, 0, none⟩)] 131)).alloc (.cells #[.bool false, .slice none 0 0, .slice none 0 0] 25)).alloc (.cells #[.int .i64 8, .int .i64 0, .int .i64 0, .int .i64 0, .int .i64 1, .slice nA 0 nc, .string ⟨#[]⟩] 101) := ⟨_, rfl⟩
  rw [← hW] at hb3 x6
  simp only [World.size_alloc] at x6
  have HCALL := Lib.hid (v_picked hx hk hm390 hR hL hA W C E M f G g c S (hst.below hb3) (hev.below hb3) (hnds.below hb3) hGE (hom.wide hb3 (fun b h => .inl h)) hdeep)
  rw [← hLn] at HCALL ⊢
  have HB3 := Lib.hid hb3
  have HX6 := Lib.hid x6
  clear hnds hom n7 n8 hev hb3 x6 hst hx hLn hA hk hR hL
  go_enter Tryz.func68, Tryz.ntmps68
  go_wp2_with fail
  rw [← hW]
  clear n0 n1 n2 n3 n4 n5 n6 hW
  refine HCALL.out.mono ?_
  rintro e w1 ⟨v, rfl, hv, hev1, hg1⟩
  obtain ⟨sA, sc, dA, dc, hve, -⟩ := id hv
  subst hve
  have y6 := Box.grown HX6.out hg1 (by intro e; injection e; omega)
  obtain ⟨d0, d1, d2⟩ := Box.three y6
  have f0 := Box.frozen y6 0
  have f1 := Box.frozen y6 1
  have f2 := Box.frozen y6 2
  have dl := y6.lt
  have HAR := Lib.hid hv
  have HEV1 := Lib.hid hev1
  have HG1 := Lib.hid (grownBy_trans (grownBy_of_below (row := some E) HB3.out (Nat.le_refl _)) hg1)
  have HY6 := Lib.hid y6
  clear hv hev1 hg1 y6
  go_wp2_with fail
  refine bodyPost_ret (v := .agg #[.bool a.ch, .slice sA a.sh.length sc, .slice dA a.da.length dc]) (by simp [results, Tryz.results68, go_sem, d0, d1, d2, f0, f1, f2, dl]) rfl ?_
  have hg3 := grownBy_three w1 (w.heap.size + 1) (.bool a.ch) (.slice sA a.sh.length sc) (.slice dA a.da.length dc)
  exact ⟨_, rfl, ArrAt.off HAR.out hg3 HY6.out, HEV1.out.off hg3 HY6.out (by omega), grownBy_after HG1.out hg3 (by omega)⟩



end Go.Proofs.YtihndbkaoejnnaaGreatDoor

namespace Go.Proofs.YtihndbkaoejnnaaGreatDoor
open Go Go.RowKit Go.Proofs.YtihndbkaoejnnaaGreatDoor.P

theorem vals_sort3 {bs : List Bd} {r2 r0 : Arr} (ns : List Nd) (t0 : ns[0]? = some ⟨8, 0, 0, 0, 1, [], ⟨#[]⟩⟩) (t1 : ns[1]? = some ⟨1, 0, 0, 0, 0, [3, 1, 2], ⟨#[]⟩⟩) (t2 : ns[2]? = some ⟨6, 0, 26, 0, 0, [], ⟨#[]⟩⟩) (t3 : ns[3]? = some ⟨1, 0, 0, 0, 0, [3, 1, 2], ⟨#[]⟩⟩) (a2 : ActOne 0 26 0 (⟨false, [3], [3, 1, 2]⟩ : Arr) r2) (a0 : ActPick (⟨false, [3], [3, 1, 2]⟩ : Arr) r2 r0) : ValAt none bs ns 0 4 r0 := by
  have e_1 : ValAt none bs ns 1 1 (⟨false, [3], [3, 1, 2]⟩ : Arr) := v_nums t1 (by decide)
  have e_2 : ValAt none bs ns 3 1 (⟨false, [3], [3, 1, 2]⟩ : Arr) := v_nums t3 (by decide)
  have e_3 : ValAt none bs ns 2 2 r2 := v_one t2 (acted_one t2 (by decide) (by decide) e_2 a2)
  have e_4 : ValAt none bs ns 0 4 r0 := v_pick (m := 2) t0 (.node t1 (e := 0) (by decide) (by decide) (by decide) (by decide) (.done 2)) (by decide) e_3 e_1 a0
  exact e_4
theorem val_sort3 {bs : List Bd} {r2 r0 : Arr} (a2 : ActOne 0 26 0 (⟨false, [3], [3, 1, 2]⟩ : Arr) r2) (a0 : ActPick (⟨false, [3], [3, 1, 2]⟩ : Arr) r2 r0) : ValAt none bs nodes_sort3 0 4 r0 := vals_sort3 nodes_sort3 rfl rfl rfl rfl a2 a0

theorem vals_sortv {bs : List Bd} {v0 r2 r0 : Arr} (ns : List Nd) (t0 : ns[0]? = some ⟨8, 0, 0, 0, 1, [], ⟨#[]⟩⟩) (t1 : ns[1]? = some ⟨3, 0, 0, 0, 0, [], ⟨#[118]⟩⟩) (t2 : ns[2]? = some ⟨6, 0, 26, 0, 0, [], ⟨#[]⟩⟩) (t3 : ns[3]? = some ⟨3, 0, 0, 0, 0, [], ⟨#[118]⟩⟩) (hv0 : ∃ i, bs[i]? = some (⟨#[118]⟩, v0) ∧ ∀ x ∈ bs.take i, x.1 ≠ ⟨#[118]⟩) (a2 : ActOne 0 26 0 v0 r2) (a0 : ActPick v0 r2 r0) : ValAt none bs ns 0 4 r0 := by
  have e_1 : ValAt none bs ns 1 1 v0 := v_var t1 hv0
  have e_2 : ValAt none bs ns 3 1 v0 := v_var t3 hv0
  have e_3 : ValAt none bs ns 2 2 r2 := v_one t2 (acted_one t2 (by decide) (by decide) e_2 a2)
  have e_4 : ValAt none bs ns 0 4 r0 := v_pick (m := 2) t0 (.node t1 (e := 0) (by decide) (by decide) (by decide) (by decide) (.done 2)) (by decide) e_3 e_1 a0
  exact e_4
theorem val_sortv {bs : List Bd} {v0 r2 r0 : Arr} (hv0 : ∃ i, bs[i]? = some (⟨#[118]⟩, v0) ∧ ∀ x ∈ bs.take i, x.1 ≠ ⟨#[118]⟩) (a2 : ActOne 0 26 0 v0 r2) (a0 : ActPick v0 r2 r0) : ValAt none bs nodes_sortv 0 4 r0 := vals_sortv nodes_sortv rfl rfl rfl rfl hv0 a2 a0

theorem vals_sortg {bs : List Bd} {v0 r1 r4 r3 r0 : Arr} (ns : List Nd) (t0 : ns[0]? = some ⟨8, 0, 0, 0, 1, [], ⟨#[]⟩⟩) (t1 : ns[1]? = some ⟨6, 0, 26, 0, 0, [], ⟨#[]⟩⟩) (t2 : ns[2]? = some ⟨3, 0, 0, 0, 0, [], ⟨#[118]⟩⟩) (t3 : ns[3]? = some ⟨6, 0, 26, 0, 0, [], ⟨#[]⟩⟩) (t4 : ns[4]? = some ⟨6, 0, 26, 0, 0, [], ⟨#[]⟩⟩) (t5 : ns[5]? = some ⟨3, 0, 0, 0, 0, [], ⟨#[118]⟩⟩) (hv0 : ∃ i, bs[i]? = some (⟨#[118]⟩, v0) ∧ ∀ x ∈ bs.take i, x.1 ≠ ⟨#[118]⟩) (a1 : ActOne 0 26 0 v0 r1) (a4 : ActOne 0 26 0 v0 r4) (a3 : ActOne 0 26 0 r4 r3) (a0 : ActPick r1 r3 r0) : ValAt none bs ns 0 6 r0 := by
  have e_1 : ValAt none bs ns 2 1 v0 := v_var t2 hv0
  have e_2 : ValAt none bs ns 1 2 r1 := v_one t1 (acted_one t1 (by decide) (by decide) e_1 a1)
  have e_3 : ValAt none bs ns 5 1 v0 := v_var t5 hv0
  have e_4 : ValAt none bs ns 4 2 r4 := v_one t4 (acted_one t4 (by decide) (by decide) e_3 a4)
  have e_5 : ValAt none bs ns 3 3 r3 := v_one t3 (acted_one t3 (by decide) (by decide) e_4 a3)
  have e_6 : ValAt none bs ns 0 6 r0 := v_pick (m := 3) t0 (.node t1 (e := 1) (by decide) (by decide) (by decide) (by decide) (.node t2 (e := 0) (by decide) (by decide) (by decide) (by decide) (.done 3))) (by decide) e_5 e_2 a0
  exact e_6
theorem val_sortg {bs : List Bd} {v0 r1 r4 r3 r0 : Arr} (hv0 : ∃ i, bs[i]? = some (⟨#[118]⟩, v0) ∧ ∀ x ∈ bs.take i, x.1 ≠ ⟨#[118]⟩) (a1 : ActOne 0 26 0 v0 r1) (a4 : ActOne 0 26 0 v0 r4) (a3 : ActOne 0 26 0 r4 r3) (a0 : ActPick r1 r3 r0) : ValAt none bs nodes_sortg 0 6 r0 := vals_sortg nodes_sortg rfl rfl rfl rfl rfl rfl hv0 a1 a4 a3 a0

end Go.Proofs.YtihndbkaoejnnaaGreatDoor

namespace Go.Proofs.YtihndbkaoejnnaaGreatDoor
open Go Go.RowKit Go.Proofs.YtihndbkaoejnnaaGreatDoor.P

def Yes (w : World) (e : Ending) (w' : World) : Prop := e = .returned (.bool true) ∧ Below w.heap.size w w'

theorem known_plain {f : Int} (h : f = 18 ∨ f = 21 ∨ f = 24 ∨ f = 26 ∨ f = 28) (g : Int) (w : World) : Calls Tryz.prog 148 #[.agg #[.int .i64 0, .int .i64 f, .int .i64 g]] w (Yes w) := by
  rcases h with rfl | rfl | rfl | rfl | rfl
  all_goals
    go_enter Tryz.func148, Tryz.ntmps148
    go_wp2_with fail
    go_ret
    exact ⟨rfl, by go_grown⟩
/-- The last axis. -/
theorem last_any {w : World} {b : Bool} {sA dA : Option Addr} {n sc m dc : Nat} (hn : n = 0 ∨ n = 1 ∨ n = 2) : Calls Tryz.prog 143 #[.agg #[.bool b, .slice sA n sc, .slice dA m dc]] w fun e w' => e = .returned (.tuple #[.int .i64 ((n : Int) - 1), .bool (decide (0 < n))]) ∧ Below w.heap.size w w' := by
  have hbw := below_one w (.cells #[.bool b, .slice sA n sc, .slice dA m dc] 25)
  rcases hn with rfl | rfl | rfl
  all_goals
    go_enter Tryz.func143, Tryz.ntmps143
    go_wp2_with fail
    go_quiet (fail)
    all_goals go_wp2_with fail
    go_ret2
    exact ⟨rfl, hbw.trans (below_draws _ _ _)⟩

/-- A list as an array. -/
theorem list_any {w : World} {A : Option Addr} {n c : Nat} : Calls Tryz.prog 183 #[.slice A n c] w fun e w' => ∃ g, e = .returned (.agg #[.bool false, .slice (some ⟨g, 0, none⟩) 1 1, .slice A n c]) ∧ w.heap.size ≤ g ∧ IsInts w' (.slice (some ⟨g, 0, none⟩) 1 1) [(n : Int)] ∧ Below w.heap.size w w' := by
  go_enter Tryz.func183, Tryz.ntmps183
  go_wp2_with fail
  refine bodyPost_ret (v := .agg #[.bool false, .slice (some ⟨w.heap.size + 1, 0, none⟩) 1 1, .slice A n c]) (by simp [results, Tryz.results183, go_sem]) rfl ?_
  refine ⟨_, rfl, by omega, ?_, below_two w _ _⟩
  have := isInts_one (w.alloc (.cells #[.bool false, .slice (some ⟨w.heap.size + 1, 0, none⟩) 1 1, .slice A n c] 25)) n
  simpa using this

end Go.Proofs.YtihndbkaoejnnaaGreatDoor
