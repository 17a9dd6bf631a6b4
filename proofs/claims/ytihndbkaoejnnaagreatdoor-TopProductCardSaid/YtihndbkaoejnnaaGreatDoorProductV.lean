/- What the card TopProduct leans on: EvalBase, EvalNums, EvalVal, EvalFresh, EvalVar, EvalWhole, EvalValueOf, EvalValue, EvalActs, EvalRun. Conditions: none but those of its theorems. -/
import Derived.Deep.RegionLaw
import Derived.Test.YtihndbkaoejnnaaGreatDoorProductQ
import Derived.Test.YtihndbkaoejnnaaGreatDoorProductS
import Derived.Test.YtihndbkaoejnnaaGreatDoorProductG
import Derived.Test.YtihndbkaoejnnaaGreatDoorProductT
import Derived.Test.YtihndbkaoejnnaaGreatDoorProductU
set_option linter.unusedSimpArgs false
set_option linter.unusedVariables false
namespace Go.Proofs.YtihndbkaoejnnaaGreatDoor
open Go Go.RowKit Go.Proofs.YtihndbkaoejnnaaGreatDoor.P

/-- A list of something that lies in another block stays. -/
theorem IsInts.apart {w w' : World} {A : Option Addr} {c b : Nat} {xs : List Int} (h : IsInts w (.slice A xs.length c) xs) (hg : w.grownBy w' (some b)) (hb : ∀ ad, A = some ad → xs ≠ [] → ad.block ≠ b) : IsInts w' (.slice A xs.length c) xs := by
  by_cases hx : xs = []
  · subst hx
    obtain ⟨A', c', e, h1, h2, h3, h5, h4⟩ := h
    exact ⟨A', c', e, h1, h2, h3, h5, fun k x hk => by simp at hk⟩
  · exact h.grown hg (fun ad n c e => by injection e with e1; exact hb _ e1 hx)
theorem IsInts.lt {w : World} {A : Option Addr} {c : Nat} {xs : List Int} (h : IsInts w (.slice A xs.length c) xs) (hx : xs ≠ []) {ad : Addr} (ha : A = some ad) : ad.block < w.heap.size := by
  obtain ⟨A', c', e, h1, h2, h3, h5, h4⟩ := h
  injection e with e1
  subst e1
  cases xs with
  | nil => exact absurd rfl hx
  | cons x l =>
    obtain ⟨ad', e, hl, -⟩ := h4 0 x rfl
    rw [ha] at e
    cases e
    exact hl

/-- An array that lies in none of these blocks. -/
def ArrAt (w : World) (S : Nat → Prop) (v : Value) (a : Arr) : Prop := ∃ sA sc dA dc, v = .agg #[.bool a.ch, .slice sA a.sh.length sc, .slice dA a.da.length dc] ∧ IsInts w (.slice sA a.sh.length sc) a.sh ∧ IsInts w (.slice dA a.da.length dc) a.da ∧
  (∀ ad, sA = some ad → a.sh ≠ [] → ¬ S ad.block) ∧ (∀ ad, dA = some ad → a.da ≠ [] → ¬ S ad.block)
variable {w w' : World} {S S' : Nat → Prop} {v : Value} {a : Arr} {E M f b : Nat} {bs : List Bd}
theorem ArrAt.isArr (h : ArrAt w S v a) : IsArr w v a := by
  obtain ⟨sA, sc, dA, dc, rfl, h1, h2, -⟩ := h
  exact ⟨_, _, rfl, h1, h2⟩
theorem ArrAt.below (h : ArrAt w S v a) (hb : Below w.heap.size w w') : ArrAt w' S v a := by
  obtain ⟨sA, sc, dA, dc, rfl, h1, h2, h3, h4⟩ := h
  exact ⟨sA, sc, dA, dc, rfl, h1.mono hb, h2.mono hb, h3, h4⟩
theorem ArrAt.grown (h : ArrAt w S v a) (hg : w.grownBy w' (some b)) (hS : S b) : ArrAt w' S v a := by
  obtain ⟨sA, sc, dA, dc, rfl, h1, h2, h3, h4⟩ := h
  exact ⟨sA, sc, dA, dc, rfl, h1.apart hg (fun ad e hx eb => h3 ad e hx (eb ▸ hS)), h2.apart hg (fun ad e hx eb => h4 ad e hx (eb ▸ hS)), h3, h4⟩
/-- What is new besides is avoided too. -/
theorem ArrAt.wide (h : ArrAt w S v a) (hs : ∀ b, S' b → S b ∨ w.heap.size ≤ b) : ArrAt w S' v a := by
  obtain ⟨sA, sc, dA, dc, rfl, h1, h2, h3, h4⟩ := h
  refine ⟨sA, sc, dA, dc, rfl, h1, h2, fun ad e hx hS => ?_, fun ad e hx hS => ?_⟩
  · rcases hs _ hS with h | h
    · exact h3 ad e hx h
    · have := h1.lt hx e
      omega
  · rcases hs _ hS with h | h
    · exact h4 ad e hx h
    · have := h2.lt hx e
      omega

/-- The evaluation in block E, whose names lie in block M: it and its calls' own blocks are those of S. -/
def EvAt (w : World) (E M : Nat) (S : Nat → Prop) (bs : List Bd) (f : Nat) : Prop :=
  Box w E 128 #[.map (some M), .int .i64 f] ∧ M < E ∧ 6 ≤ M ∧ S E ∧ (∀ b, S b → b < w.heap.size) ∧ f ≤ 20000 ∧ ∃ rows, TabAt w M rows ∧ rows.map (·.1) = bs.map (·.1) ∧
    ∀ (i : Nat) (b : Bd) (p : ByteArray × Value), bs[i]? = some b → rows[i]? = some p → ArrAt w S p.2 b.2
theorem EvAt.move {f' : Nat} (h : EvAt w E M S bs f) (hg : w.grownBy w' (some E)) (hb : Box w' E 128 #[.map (some M), .int .i64 f']) (h2 : f' ≤ 20000) : EvAt w' E M S bs f' := by
  obtain ⟨hx, hME, hB, hS, hSl, hf2, rows, ht, hr, hv⟩ := h
  exact ⟨hb, hME, hB, hS, fun b h => Nat.lt_of_lt_of_le (hSl b h) hg.size, h2, rows, ht.kept hg (by intro e; injection e; omega), hr, fun i b p h3 h4 => (hv i b p h3 h4).grown hg hS⟩
theorem EvAt.below (h : EvAt w E M S bs f) (hb : Below w.heap.size w w') : EvAt w' E M S bs f :=
  h.move (grownBy_of_below hb (Nat.le_refl _)) (h.1.below hb) h.2.2.2.2.2.1
/-- One of the calls' own blocks is written. -/
theorem EvAt.grown (h : EvAt w E M S bs f) (hg : w.grownBy w' (some b)) (hS : S b) (hE : E < b) : EvAt w' E M S bs f := by
  obtain ⟨hx, hME, hB, hSE, hSl, hf2, rows, ht, hr, hv⟩ := h
  exact ⟨hx.grown hg (by intro e; injection e; omega), hME, hB, hSE, fun b h => Nat.lt_of_lt_of_le (hSl b h) hg.size, hf2, rows, ht.kept hg (by intro e; injection e; omega), hr, fun i b p h3 h4 => (hv i b p h3 h4).grown hg hS⟩
theorem EvAt.wide (h : EvAt w E M S bs f) (hb : Below w.heap.size w w') (hs : ∀ b, S' b → S b ∨ (w.heap.size ≤ b ∧ b < w'.heap.size)) (hE : S' E) : EvAt w' E M S' bs f := by
  obtain ⟨hx, hME, hB, hSE, hSl, hf2, rows, ht, hr, hv⟩ := h
  exact ⟨hx.below hb, hME, hB, hE, fun b h => (hs b h).elim (fun h => Nat.lt_of_lt_of_le (hSl b h) hb.size) (fun h => h.2), hf2, rows, ht.below hb, hr, fun i b p h3 h4 => ((hv i b p h3 h4).wide (fun b h => (hs b h).imp id (fun h => h.1))).below hb⟩
theorem EvAt.narrow (h : EvAt w E M S bs f) (hs : ∀ b, S' b → S b) (hE : S' E) : EvAt w E M S' bs f := by
  obtain ⟨hx, hME, hB, hSE, hSl, hf2, rows, ht, hr, hv⟩ := h
  exact ⟨hx, hME, hB, hE, fun b h => hSl b (hs b h), hf2, rows, ht, hr, fun i b p h3 h4 => (hv i b p h3 h4).wide (fun b h => .inl (hs b h))⟩

/-- One step of fuel. -/
theorem step_any (h : EvAt w E M S bs (f + 1)) :
    Calls Tryz.prog 69 #[.pointer (some ⟨E, 0, none⟩)] w fun e w' => e = .returned (.tuple #[]) ∧ EvAt w' E M S bs f ∧ w.grownBy w' (some E) := by
  have HE := Lib.hid h
  obtain ⟨c0, c1⟩ := Box.two h.1
  have cf := Box.frozen h.1 1
  have hl := h.1.lt
  have hf2 := h.2.2.2.2.2.1
  clear h
  go_enter Tryz.func69, Tryz.ntmps69
  go_wp2_with fail
  go_end0
  have hg := grownBy_setCell w E 1 (.int .i64 (f : Nat))
  have hb := HE.out.1.store 1 (.int .i64 (f : Nat))
  refine ⟨rfl, ?_, ?_⟩
  · exact HE.out.move hg (by simpa using hb) (by omega)
  · exact hg

/-- An array without an error. -/
theorem must_any {w : World} {b : Bool} {sA dA : Option Addr} {sn sc dn dc : Nat} : Calls Tryz.prog 122 #[.agg #[.bool b, .slice sA sn sc, .slice dA dn dc], .nilIface] w fun e w' => e = .returned (.agg #[.bool b, .slice sA sn sc, .slice dA dn dc]) ∧ Below w.heap.size w w' := by
  go_enter Tryz.func122, Tryz.ntmps122
  go_wp2_with fail
  refine bodyPost_ret (v := .agg #[.bool b, .slice sA sn sc, .slice dA dn dc]) (by simp [results, Tryz.results122, go_sem]) rfl ?_
  exact ⟨rfl, by go_grown⟩

end Go.Proofs.YtihndbkaoejnnaaGreatDoor

namespace Go.Proofs.YtihndbkaoejnnaaGreatDoor
open Go Go.RowKit Go.Proofs.YtihndbkaoejnnaaGreatDoor.P

/-- An array comes, in memory of its own. -/
def NewArr (w : World) (S : Nat → Prop) (a : Arr) (e : Ending) (w' : World) : Prop := ∃ v, e = .returned v ∧ ArrAt w' S v a ∧ Below w.heap.size w w'
theorem addr_zero (ad : Addr) : ad.add 0 = ad := by
  obtain ⟨b, o, k⟩ := ad
  unfold Addr.add
  split <;> simp_all
def numsOf (xs : List Int) : Arr := if xs.length = 1 then ⟨false, [], xs⟩ else ⟨false, [(xs.length : Int)], xs⟩
theorem isInts_one (w : World) (x : Int) : IsInts (w.alloc (.cells #[.int .i64 x] 3)) (.slice (some ⟨w.heap.size, 0, none⟩) 1 1) [x] := Box.isInts (xs := [x]) (Box.new w 3 #[.int .i64 x]) rfl (by omega)
theorem isInts_nil (w : World) : IsInts w (.slice none 0 0) [] := ⟨none, 0, rfl, by simp, by omega, by simp, fun _ => rfl, fun k x hk => by simp at hk⟩

set_option maxRecDepth 100000 in
set_option maxHeartbeats 4000000 in
theorem nums_one_any {w : World} {S : Nat → Prop} {A : Option Addr} {c : Nat} {x : Int} (hS : ∀ b, S b → b < w.heap.size) (h : IsInts w (.slice A 1 c) [x]) : Calls Tryz.prog 101 #[.slice A 1 c] w (NewArr w S ⟨false, [], [x]⟩) := by
  obtain ⟨A', c', e, h1, h2, h3, h5, h4⟩ := h
  injection e with e1 e2 e3
  subst e1 e3
  clear e2
  obtain ⟨ad, rfl, hal, hcv⟩ := h4 0 x rfl
  have hc1 : ¬ c = 0 := by simp at h1; omega
  rw [addr_zero] at hcv
  have hcs := ((below_one w (.cells #[.bool false, .slice none 0 0, .slice none 0 0] 25)).cell (p := ad) hal).trans hcv
  clear h1 h2 h3 h4 h5 hcv
  go_enter Tryz.func101, Tryz.ntmps101
  go_wp2_with fail
  refine bodyPost_ret (v := .agg #[.bool false, .slice none 0 0, .slice (some ⟨w.heap.size + 1, 0, none⟩) 1 1]) (by simp [results, Tryz.results101, go_sem]) rfl ?_
  refine ⟨_, rfl, ⟨none, 0, some ⟨w.heap.size + 1, 0, none⟩, 1, rfl, isInts_nil _, ?_, ?_, ?_⟩, below_two w _ _⟩
  · have := isInts_one (w.alloc (.cells #[.bool false, .slice none 0 0, .slice (some ⟨w.heap.size + 1, 0, none⟩) 1 1] 25)) x
    simpa using this
  · intro ad e
    cases e
  · intro ad e hx hs
    injection e with e
    have := hS _ hs
    rw [← e] at this
    simp only [] at this
    omega

set_option maxRecDepth 100000 in
set_option maxHeartbeats 4000000 in
theorem nums_more_any {w : World} {S : Nat → Prop} {A : Option Addr} {c : Nat} {xs : List Int} (hS : ∀ b, S b → b < w.heap.size) (h : IsInts w (.slice A xs.length c) xs) (hn : xs.length ≠ 1) (hl : xs.length ≤ 4096) : Calls Tryz.prog 101 #[.slice A xs.length c] w (NewArr w S ⟨false, [(xs.length : Int)], xs⟩) := by
  have H := Lib.hid h
  obtain ⟨n, hnn⟩ : ∃ n, n = xs.length := ⟨_, rfl⟩
  rw [← hnn] at hn hl ⊢
  have HN := Lib.hid hnn
  have e1 : ((n : Int) == 1) = false := by simp; omega
  clear h hnn
  go_enter Tryz.func101, Tryz.ntmps101
  go_wp2_with fail
  obtain ⟨W, hW⟩ : ∃ W, W = (w.alloc (.cells #[.bool false, .slice none 0 0, .slice none 0 0] 25)).alloc (.cells #[.int .i64 n] 3) := ⟨_, rfl⟩
  rw [← hW]
  have hb := below_two w (.cells #[.bool false, .slice none 0 0, .slice none 0 0] 25) (.cells #[.int .i64 n] 3)
  have hbx := (Box.new w 25 #[.bool false, .slice none 0 0, .slice none 0 0]).alloc (.cells #[.int .i64 n] 3)
  have hix := isInts_one (w.alloc (.cells #[.bool false, .slice none 0 0, .slice none 0 0] 25)) n
  rw [← hW] at hb hbx hix
  have hWs : W.heap.size = w.heap.size + 2 := by rw [hW]; simp
  clear hW
  have hcl := clone_any _ _ W (H.out.mono hb)
  rw [← HN.out] at hcl
  refine hcl.mono ?_
  rintro e w1 ⟨A1, c1, rfl, ho, hb1⟩
  have hbx1 := hbx.below hb1
  obtain ⟨d0, d1, d2⟩ := Box.three hbx1
  have f0 := Box.frozen hbx1 0
  have f1 := Box.frozen hbx1 1
  have f2 := Box.frozen hbx1 2
  have dl := hbx1.lt
  go_wp2_with fail
  refine bodyPost_ret (v := .agg #[.bool false, .slice (some ⟨w.heap.size + 1, 0, none⟩) 1 1, .slice A1 xs.length c1]) (by simp [results, Tryz.results101, go_sem, d0, d1, d2, f0, f1, f2, dl]) rfl ?_
  have hg3 := grownBy_three w1 w.heap.size (.bool false) (.slice (some ⟨w.heap.size + 1, 0, none⟩) 1 1) (.slice A1 xs.length c1)
  have hix1 := (hix.mono hb1).grown hg3 (fun A n c e => by injection e with e; injection e with e; rw [← e]; simp)
  have hoB := ho.isInts.grown hg3 (fun A n c e => by have := ho.lt (k := A.block) (by rw [e]; rfl); omega)
  refine ⟨_, rfl, ⟨_, _, A1, c1, by rw [← HN.out]; rfl, ?_, hoB, ?_, ?_⟩, ?_⟩
  · simpa using hix1
  · intro ad e hx hs
    injection e with e
    have := hS _ hs
    rw [← e] at this
    simp only [] at this
    omega
  · intro ad e hx hs
    have := ho.lt (k := ad.block) (by rw [e]; rfl)
    have := hS _ hs
    omega
  · exact (((hb.trans (hb1.mono hb.size)).setCell (p := ⟨w.heap.size, 0, none⟩) (Nat.le_refl _) _).setCell (p := ⟨w.heap.size, 1, none⟩) (Nat.le_refl _) _).setCell (p := ⟨w.heap.size, 2, none⟩) (Nat.le_refl _) _

theorem nums_any {w : World} {S : Nat → Prop} {A : Option Addr} {c : Nat} {xs : List Int} (hS : ∀ b, S b → b < w.heap.size) (h : IsInts w (.slice A xs.length c) xs) (hl : xs.length ≤ 4096) : Calls Tryz.prog 101 #[.slice A xs.length c] w (NewArr w S (numsOf xs)) := by
  by_cases hn : xs.length = 1
  · obtain ⟨x, rfl⟩ := List.length_eq_one_iff.1 hn
    exact nums_one_any hS h
  · rw [numsOf, if_neg hn]
    exact nums_more_any hS h hn hl

end Go.Proofs.YtihndbkaoejnnaaGreatDoor

namespace Go.Proofs.YtihndbkaoejnnaaGreatDoor
open Go Go.RowKit Go.Proofs.YtihndbkaoejnnaaGreatDoor.P

/-- An array stays where a box of an array's cells is written. -/
theorem ArrAt.off {w w' : World} {S : Nat → Prop} {b sn sc dn dc : Nat} {v : Value} {a : Arr} {t : TypeId} {x : Bool} {sA dA : Option Addr} (h : ArrAt w S v a) (hg : w.grownBy w' (some b)) (hb : Box w b t #[.bool x, .slice sA sn sc, .slice dA dn dc]) : ArrAt w' S v a := by
  obtain ⟨sA, sc, dA, dc, rfl, h1, h2, h3, h4⟩ := h
  exact ⟨sA, sc, dA, dc, rfl, h1.off hg hb (noInts_arr _ _ _ _ _ _ _), h2.off hg hb (noInts_arr _ _ _ _ _ _ _), h3, h4⟩
theorem EvAt.off {w w' : World} {E M f b sn sc dn dc : Nat} {S : Nat → Prop} {bs : List Bd} {t : TypeId} {x : Bool} {sA dA : Option Addr} (h : EvAt w E M S bs f) (hg : w.grownBy w' (some b)) (hb : Box w b t #[.bool x, .slice sA sn sc, .slice dA dn dc]) (hE : E < b) : EvAt w' E M S bs f := by
  obtain ⟨hx, hME, hB, hSE, hSl, hf2, rows, ht, hr, hv⟩ := h
  exact ⟨hx.grown hg (by intro e; injection e; omega), hME, hB, hSE, fun b h => Nat.lt_of_lt_of_le (hSl b h) hg.size, hf2, rows, ht.kept hg (by intro e; injection e; omega), hr, fun i b p h3 h4 => (hv i b p h3 h4).off hg hb⟩

/-- The function that is evaluated: its body, its arguments. -/
structure Cl where
  bA : Option Addr
  bn : Nat
  bc : Nat
  at_ : Int
  n : Int
  al : Option Addr
  ob : Bool
  oA : Option Addr
  on : Nat
  oc : Nat
  pA : Option Addr
  pn : Nat
  pc : Nat
  deep : Nat
/-- What an evaluation answers. -/
def VPost (E M f : Nat) (S : Nat → Prop) (bs : List Bd) (a : Arr) (w : World) (e : Ending) (w' : World) : Prop := ∃ v, e = .returned v ∧ ArrAt w' S v a ∧ EvAt w' E M S bs f ∧ w.grownBy w' (some E)
/-- What a function that is evaluated leans on: its right argument, its nodes, the place of its first expression, its guards, how deep it is called. -/
structure Env0 where
  arr : Arr
  ns : List Nd
  p : Nat
  n : Nat
  deep : Nat
def Env0.holds (e : Env0) (w : World) (S : Nat → Prop) (C : Cl) : Prop :=
  ArrAt w S (.agg #[.bool C.ob, .slice C.oA C.on C.oc, .slice C.pA C.pn C.pc]) e.arr ∧ (∃ G g, C.bA = some ⟨g, 0, none⟩ ∧ C.bn = e.ns.length ∧ NdsAt w G g C.bc e.ns ∧ ∀ b, S b → G ≤ b) ∧ C.at_ = e.p ∧ C.n = e.n ∧ C.deep = e.deep
theorem Env0.holds.wide {e : Env0} {w : World} {S S' : Nat → Prop} {C : Cl} (h : e.holds w S C) (hs : ∀ b, S' b → S b ∨ w.heap.size ≤ b) : e.holds w S' C := by
  obtain ⟨h1, ⟨G, g, h2, h3, h4, h5⟩, h6⟩ := h
  exact ⟨h1.wide hs, ⟨G, g, h2, h3, h4, fun b hb => (hs b hb).elim (h5 b) (fun h => Nat.le_trans h4.2.1 h)⟩, h6⟩
theorem Env0.holds.below {e : Env0} {w w' : World} {S : Nat → Prop} {C : Cl} (h : e.holds w S C) (hb : Below w.heap.size w w') : e.holds w' S C := by
  obtain ⟨h1, ⟨G, g, h2, h3, h4, h5⟩, h6⟩ := h
  exact ⟨h1.below hb, ⟨G, g, h2, h3, h4.below hb, h5⟩, h6⟩
theorem Env0.holds.grown {e : Env0} {w w' : World} {S : Nat → Prop} {C : Cl} {b : Nat} (h : e.holds w S C) (hg : w.grownBy w' (some b)) (hS : S b) : e.holds w' S C := by
  obtain ⟨h1, ⟨G, g, h2, h3, h4, h5⟩, h6⟩ := h
  exact ⟨h1.grown hg hS, ⟨G, g, h2, h3, h4.grown hg (h5 b hS), h5⟩, h6⟩
/-- The function that is evaluated is this one. -/
def OmAt (w : World) (S : Nat → Prop) (C : Cl) (om : Option Env0) : Prop := ∀ a, om = some a → a.holds w S C
/-- How deep a call lies: the line itself, not at all. -/
def DeepAt (C : Cl) (om : Option Env0) : Prop := C.deep ≤ 60 ∧ (om = none → C.deep = 0)
/-- The expression at this place has this value, in so many steps. -/
def ValAt (om : Option Env0) (bs : List Bd) (ns : List Nd) (at_ k : Nat) (a : Arr) : Prop := ∀ (w : World) (C : Cl) (E M f G g c : Nat) (S : Nat → Prop), Std w → EvAt w E M S bs (f + k) → NdsAt w G g c ns → (∀ b, S b → G ≤ b) → OmAt w S C om → DeepAt C om →
  Calls Tryz.prog 68 #[.agg #[.slice C.bA C.bn C.bc, .int .i64 C.at_, .int .i64 C.n, .pointer C.al, .bool C.ob, .slice C.oA C.on C.oc, .slice C.pA C.pn C.pc, .int .i64 C.deep, .pointer (some ⟨E, 0, none⟩)], .slice (some ⟨g, 0, none⟩) ns.length c, .int .i64 at_] w (VPost E M f S bs a w)

end Go.Proofs.YtihndbkaoejnnaaGreatDoor

namespace Go.Proofs.YtihndbkaoejnnaaGreatDoor
open Go Go.RowKit Go.Proofs.YtihndbkaoejnnaaGreatDoor.P

set_option maxRecDepth 100000 in
set_option maxHeartbeats 8000000 in
theorem fresh_any {w : World} {v : Value} {a : Arr} (ha : IsArr w v a) : Calls Tryz.prog 70 #[v] w fun e w' => ∃ A c A2 c2, e = .returned (.agg #[.bool a.ch, .slice A a.sh.length c, .slice A2 a.da.length c2]) ∧ Owns w' w.heap.size (.slice A a.sh.length c) a.sh.length a.sh ∧ Owns w' w.heap.size (.slice A2 a.da.length c2) a.da.length a.da ∧ Below w.heap.size w w' := by
  have hmx := mixedZ
  obtain ⟨s0, d0, rfl, hs0, hd0⟩ := ha
  have hs1 := hs0
  have hd1 := hd0
  obtain ⟨sA, sc, rfl, -⟩ := hs0
  obtain ⟨dA, dc, rfl, -⟩ := hd0
  have hb2 := below_two w (.cells #[.bool a.ch, .slice sA a.sh.length sc, .slice dA a.da.length dc] 25) (.cells #[.bool false, .slice none 0 0, .slice none 0 0] 25)
  have x1 := (Box.new w 25 #[.bool a.ch, .slice sA a.sh.length sc, .slice dA a.da.length dc]).alloc (.cells #[.bool false, .slice none 0 0, .slice none 0 0] 25)
  have x2 := Box.new (w.alloc (.cells #[.bool a.ch, .slice sA a.sh.length sc, .slice dA a.da.length dc] 25)) 25 #[.bool false, .slice none 0 0, .slice none 0 0]
  obtain ⟨W, hW⟩ : ∃ W, W = (w.alloc (.cells #[.bool a.ch, .slice sA a.sh.length sc, .slice dA a.da.length dc] 25)).alloc (.cells #[.bool false, .slice none 0 0, .slice none 0 0] 25) := ⟨_, rfl⟩
  rw [← hW] at hb2 x1 x2
  have hPW : w.heap.size + 1 < W.heap.size := by rw [hW]; simp
  simp only [World.size_alloc] at x2
  have HS := Lib.hid (hs1.mono hb2)
  have HD := Lib.hid (hd1.mono hb2)
  have HSW := Lib.hid hs1
  have HDW := Lib.hid hd1
  have HX1 := Lib.hid x1
  have HX2 := Lib.hid x2
  have HB2 := Lib.hid hb2
  clear hs1 hd1 x1 x2 hb2
  go_enter Tryz.func70, Tryz.ntmps70
  go_wp2_with fail
  rw [← hW]
  clear hW
  have hRel : Rels (fun u0 u1 => u0.grownBy u1 (some (w.heap.size + 1))) := rels_block (w.heap.size + 1)
  obtain ⟨V, hVe⟩ : ∃ V : Nat → Value → World → Prop, V = fun i v w' => match i with
      | 0 => v = .pointer (some ⟨w.heap.size, 0, none⟩)
      | 1 => v = .bool a.ch
      | 2 => v = .pointer (some ⟨w.heap.size, 1, none⟩)
      | 3 => v = .slice sA a.sh.length sc
      | 4 => ∃ A c, v = .slice A a.sh.length c ∧ Owns w' W.heap.size v a.sh.length a.sh
      | 5 => v = .pointer (some ⟨w.heap.size, 2, none⟩)
      | 6 => v = .slice dA a.da.length dc
      | 7 => ∃ A c, v = .slice A a.da.length c ∧ Owns w' W.heap.size v a.da.length a.da
      | 8 => ∃ A c A2 c2, v = .agg #[.bool a.ch, .slice A a.sh.length c, .slice A2 a.da.length c2] ∧ Owns w' W.heap.size (.slice A a.sh.length c) a.sh.length a.sh ∧ Owns w' W.heap.size (.slice A2 a.da.length c2) a.da.length a.da
      | _ => True := ⟨_, rfl⟩
  have hVm : ∀ j v w1 w2, V j v w1 → (fun u0 u1 => u0.grownBy u1 (some (w.heap.size + 1))) w1 w2 → V j v w2 := by
    intro j v w1 w2 h hr
    subst hVe
    match j, h with
    | 0, h => exact h
    | 1, h => exact h
    | 2, h => exact h
    | 3, h => exact h
    | 4, ⟨A, c, e, h⟩ => exact ⟨A, c, e, h.kept hr (.inr (h.ne_low hPW))⟩
    | 5, h => exact h
    | 6, h => exact h
    | 7, ⟨A, c, e, h⟩ => exact ⟨A, c, e, h.kept hr (.inr (h.ne_low hPW))⟩
    | 8, ⟨A, c, A2, c2, e, h, h2⟩ => exact ⟨A, c, A2, c2, e, h.kept hr (.inr (h.ne_low hPW)), h2.kept hr (.inr (h2.ne_low hPW))⟩
    | i + 9, _ => trivial
  have hV0 : ∀ v w', V 0 v w' ↔ v = .pointer (some ⟨w.heap.size, 0, none⟩) := fun _ _ => by subst hVe; rfl
  have hV1 : ∀ v w', V 1 v w' ↔ v = .bool a.ch := fun _ _ => by subst hVe; rfl
  have hV2 : ∀ v w', V 2 v w' ↔ v = .pointer (some ⟨w.heap.size, 1, none⟩) := fun _ _ => by subst hVe; rfl
  have hV3 : ∀ v w', V 3 v w' ↔ v = .slice sA a.sh.length sc := fun _ _ => by subst hVe; rfl
  have hV4 : ∀ v w', V 4 v w' ↔ ∃ A c, v = .slice A a.sh.length c ∧ Owns w' W.heap.size v a.sh.length a.sh := fun _ _ => by subst hVe; rfl
  have hV5 : ∀ v w', V 5 v w' ↔ v = .pointer (some ⟨w.heap.size, 2, none⟩) := fun _ _ => by subst hVe; rfl
  have hV6 : ∀ v w', V 6 v w' ↔ v = .slice dA a.da.length dc := fun _ _ => by subst hVe; rfl
  have hV7 : ∀ v w', V 7 v w' ↔ ∃ A c, v = .slice A a.da.length c ∧ Owns w' W.heap.size v a.da.length a.da := fun _ _ => by subst hVe; rfl
  have hV8 : ∀ v w', V 8 v w' ↔ ∃ A c A2 c2, v = .agg #[.bool a.ch, .slice A a.sh.length c, .slice A2 a.da.length c2] ∧ Owns w' W.heap.size (.slice A a.sh.length c) a.sh.length a.sh ∧ Owns w' W.heap.size (.slice A2 a.da.length c2) a.da.length a.da := fun _ _ => by subst hVe; rfl
  have hV9 : ∀ v w', V 9 v w' := fun _ _ => by subst hVe; trivial
  obtain ⟨St, hSe⟩ : ∃ St : Nat → (Nat → Value) → World → Prop, St = fun s u w' => match s with
      | 0 => Box w' (w.heap.size + 1) 25 #[.bool false, .slice none 0 0, .slice none 0 0] ∧ Below W.heap.size W w'
      | 1 => ∃ A c A2 c2, Box w' (w.heap.size + 1) 25 #[.bool a.ch, .slice A a.sh.length c, .slice A2 a.da.length c2] ∧ Owns w' W.heap.size (.slice A a.sh.length c) a.sh.length a.sh ∧ Owns w' W.heap.size (.slice A2 a.da.length c2) a.da.length a.da ∧ Below w.heap.size w w'
      | _ => False := ⟨_, rfl⟩
  have hSm : ∀ s u u' w1 w2, (∀ c ∈ [9], u' c = u c) → St s u w1 → Below w1.heap.size w1 w2 → St s u' w2 := by
    intro s u u' w1 w2 hu h hb
    subst hSe
    match s, h with
    | 0, ⟨h, h2⟩ => exact ⟨h.below hb, h2.trans (hb.mono h2.size)⟩
    | 1, ⟨A, c, A2, c2, h, h2, h3, h4⟩ => exact ⟨A, c, A2, c2, h.below hb, h2.below hb, h3.below hb, h4.trans (hb.mono h4.size)⟩
    | s + 2, h => exact h.elim
  have hS0 : ∀ u w', St 0 u w' ↔ (Box w' (w.heap.size + 1) 25 #[.bool false, .slice none 0 0, .slice none 0 0] ∧ Below W.heap.size W w') := fun _ _ => by subst hSe; rfl
  have hS1 : ∀ u w', St 1 u w' ↔ (∃ A c A2 c2, Box w' (w.heap.size + 1) 25 #[.bool a.ch, .slice A a.sh.length c, .slice A2 a.da.length c2] ∧ Owns w' W.heap.size (.slice A a.sh.length c) a.sh.length a.sh ∧ Owns w' W.heap.size (.slice A2 a.da.length c2) a.da.length a.da ∧ Below w.heap.size w w') := fun _ _ => by subst hSe; rfl
  clear hVe hSe
  refine wp_region_inv (ChainInv (fun u0 u1 => u0.grownBy u1 (some (w.heap.size + 1))) V [9] St W) (by kernel_rfl) (by kernel_rfl) (by kernel_rfl) ?start ?step ?fin
  case start => exact fun u => ChainInv.start hRel (Below.refl _ _).drew ((hS0 _ _).2 (⟨HX2.out.drew, (Below.refl _ _).drew⟩))
  case step =>
    simp only [putAll, Act.put, List.setIfInBounds_toArray, List.set_cons_zero, List.set_cons_succ, Nat.reduceAdd, Nat.zero_add]
    intro i o ho done u wr hnd hdep hI K hK
    have hgr := hI.1
    have z1 := Box.grown HX1.out hgr (by intro e; injection e; omega)
    obtain ⟨c0, c1, c2⟩ := Box.three z1
    have zl := z1.lt
    have hsz := hgr.size
    clear z1
    match i, ho with
    | 0, ho =>
      simp only [List.getElem?_cons_zero, Option.some.injEq] at ho
      subst ho
      simp only [Act.put, List.setIfInBounds_toArray, List.set_cons_zero, List.set_cons_succ] at hK
      refine wpOp_step rfl fun K' hK' => ?_
      go_simp
      exact hK' _ _ (hK _ _ (hI.quiet hRel hnd (by decide) hVm hSm (Below.refl _ _) ((hV0 _ _).2 rfl)))
    | 1, ho =>
      simp only [List.getElem?_cons_succ, List.getElem?_cons_zero, Option.some.injEq] at ho
      subst ho
      simp only [Act.put, List.setIfInBounds_toArray, List.set_cons_zero, List.set_cons_succ] at hK
      have e0 := (hV0 _ _).1 (hI.know (hdep ⟨0, .data⟩ (by simp) rfl))
      simp only [e0] at hK
      refine wpOp_step rfl fun K' hK' => ?_
      go_simp
      exact hK' _ _ (hK _ _ (hI.quiet hRel hnd (by decide) hVm hSm (Below.refl _ _) ((hV1 _ _).2 rfl)))
    | 2, ho =>
      simp only [List.getElem?_cons_succ, List.getElem?_cons_zero, Option.some.injEq] at ho
      subst ho
      simp only [Act.put, List.setIfInBounds_toArray, List.set_cons_zero, List.set_cons_succ] at hK
      refine wpOp_step rfl fun K' hK' => ?_
      go_simp
      exact hK' _ _ (hK _ _ (hI.quiet hRel hnd (by decide) hVm hSm (Below.refl _ _) ((hV2 _ _).2 rfl)))
    | 3, ho =>
      simp only [List.getElem?_cons_succ, List.getElem?_cons_zero, Option.some.injEq] at ho
      subst ho
      simp only [Act.put, List.setIfInBounds_toArray, List.set_cons_zero, List.set_cons_succ] at hK
      have e2 := (hV2 _ _).1 (hI.know (hdep ⟨2, .data⟩ (by simp) rfl))
      simp only [e2] at hK
      refine wpOp_step rfl fun K' hK' => ?_
      go_simp
      exact hK' _ _ (hK _ _ (hI.quiet hRel hnd (by decide) hVm hSm (Below.refl _ _) ((hV3 _ _).2 rfl)))
    | 4, ho =>
      simp only [List.getElem?_cons_succ, List.getElem?_cons_zero, Option.some.injEq] at ho
      subst ho
      simp only [Act.put, List.setIfInBounds_toArray, List.set_cons_zero, List.set_cons_succ] at hK
      have e3 := (hV3 _ _).1 (hI.know (hdep ⟨3, .data⟩ (by simp) rfl))
      simp only [e3] at hK
      refine wpOp_step rfl fun K' hK' => ?_
      go_simp
      refine (clone_any _ _ wr (HS.out.apart hgr (fun ad e hx => by have := HSW.out.lt hx e; omega))).mono ?_
      rintro e w5 ⟨A5, c5, rfl, ho5, hb5⟩
      exact hK' _ _ (hK _ _ (hI.quiet hRel hnd (by decide) hVm hSm hb5 ((hV4 _ _).2 ⟨A5, c5, rfl, ho5.base hsz⟩)))
    | 5, ho =>
      simp only [List.getElem?_cons_succ, List.getElem?_cons_zero, Option.some.injEq] at ho
      subst ho
      simp only [Act.put, List.setIfInBounds_toArray, List.set_cons_zero, List.set_cons_succ] at hK
      refine wpOp_step rfl fun K' hK' => ?_
      go_simp
      exact hK' _ _ (hK _ _ (hI.quiet hRel hnd (by decide) hVm hSm (Below.refl _ _) ((hV5 _ _).2 rfl)))
    | 6, ho =>
      simp only [List.getElem?_cons_succ, List.getElem?_cons_zero, Option.some.injEq] at ho
      subst ho
      simp only [Act.put, List.setIfInBounds_toArray, List.set_cons_zero, List.set_cons_succ] at hK
      have e5 := (hV5 _ _).1 (hI.know (hdep ⟨5, .data⟩ (by simp) rfl))
      simp only [e5] at hK
      refine wpOp_step rfl fun K' hK' => ?_
      go_simp
      exact hK' _ _ (hK _ _ (hI.quiet hRel hnd (by decide) hVm hSm (Below.refl _ _) ((hV6 _ _).2 rfl)))
    | 7, ho =>
      simp only [List.getElem?_cons_succ, List.getElem?_cons_zero, Option.some.injEq] at ho
      subst ho
      simp only [Act.put, List.setIfInBounds_toArray, List.set_cons_zero, List.set_cons_succ] at hK
      have e6 := (hV6 _ _).1 (hI.know (hdep ⟨6, .data⟩ (by simp) rfl))
      simp only [e6] at hK
      refine wpOp_step rfl fun K' hK' => ?_
      go_simp
      refine (clone_any _ _ wr (HD.out.apart hgr (fun ad e hx => by have := HDW.out.lt hx e; omega))).mono ?_
      rintro e w5 ⟨A5, c5, rfl, ho5, hb5⟩
      exact hK' _ _ (hK _ _ (hI.quiet hRel hnd (by decide) hVm hSm hb5 ((hV7 _ _).2 ⟨A5, c5, rfl, ho5.base hsz⟩)))
    | 8, ho =>
      simp only [List.getElem?_cons_succ, List.getElem?_cons_zero, Option.some.injEq] at ho
      subst ho
      simp only [Act.put, List.setIfInBounds_toArray, List.set_cons_zero, List.set_cons_succ] at hK
      have e1 := (hV1 _ _).1 (hI.know (hdep ⟨1, .data⟩ (by simp) rfl))
      obtain ⟨A, c, e4, h4⟩ := (hV4 _ _).1 (hI.know (hdep ⟨4, .data⟩ (by simp) rfl))
      obtain ⟨A2, c2, e7, h7⟩ := (hV7 _ _).1 (hI.know (hdep ⟨7, .data⟩ (by simp) rfl))
      rw [e4] at h4
      rw [e7] at h7
      simp only [e1, e4, e7] at hK
      refine wpOp_step rfl fun K' hK' => ?_
      go_simp
      exact hK' _ _ (hK _ _ (hI.quiet hRel hnd (by decide) hVm hSm (Below.refl _ _) ((hV8 _ _).2 ⟨A, c, A2, c2, rfl, h4, h7⟩)))
    | 9, ho =>
      simp only [List.getElem?_cons_succ, List.getElem?_cons_zero, Option.some.injEq] at ho
      subst ho
      simp only [Act.put, List.setIfInBounds_toArray, List.set_cons_zero, List.set_cons_succ] at hK
      obtain ⟨A, c, A2, c2, e8, h4, h7⟩ := (hV8 _ _).1 (hI.know (hdep ⟨8, .data⟩ (by simp) rfl))
      simp only [e8] at hK
      obtain ⟨hx6, hbw⟩ := (hS0 _ _).1 (hI.at_ (k := 0) rfl hnd (.inl rfl))
      obtain ⟨d0, d1, d2⟩ := Box.three hx6
      have f0 := Box.frozen hx6 0
      have f1 := Box.frozen hx6 1
      have f2 := Box.frozen hx6 2
      have dl := hx6.lt
      refine wpOp_step rfl fun K' hK' => ?_
      go_simp
      have hg6 := grownBy_three wr (w.heap.size + 1) (.bool a.ch) (.slice A a.sh.length c) (.slice A2 a.da.length c2)
      have hb6 : Box (((wr.setCell ⟨w.heap.size + 1, 0, none⟩ (.bool a.ch)).setCell ⟨w.heap.size + 1, 1, none⟩ (.slice A a.sh.length c)).setCell ⟨w.heap.size + 1, 2, none⟩ (.slice A2 a.da.length c2)) (w.heap.size + 1) 25 #[.bool a.ch, .slice A a.sh.length c, .slice A2 a.da.length c2] := by simpa using ((hx6.store 0 (.bool a.ch)).store 1 (.slice A a.sh.length c)).store 2 (.slice A2 a.da.length c2)
      have hB6 := (((HB2.out.trans (hbw.mono HB2.out.size)).setCell (p := ⟨w.heap.size + 1, 0, none⟩) (Nat.le_add_right _ _) (.bool a.ch)).setCell (p := ⟨w.heap.size + 1, 1, none⟩) (Nat.le_add_right _ _) (.slice A a.sh.length c)).setCell (p := ⟨w.heap.size + 1, 2, none⟩) (Nat.le_add_right _ _) (.slice A2 a.da.length c2)
      exact hK' _ _ (hK _ _ (hI.step (v := .nilIface) hRel (k := 0) rfl hnd (.inl rfl) (by decide) hVm (hg6) (hV9 _ _) ((hS1 _ _).2 (⟨A, c, A2, c2, hb6, h4.kept hg6 (.inr (h4.ne_low hPW)), h7.kept hg6 (.inr (h7.ne_low hPW)), hB6⟩))))
    | i + 10, ho => simp at ho
  case fin =>
    simp only [putAll, Act.put, List.setIfInBounds_toArray, List.set_cons_zero, List.set_cons_succ, Nat.reduceAdd, Nat.zero_add]
    intro done u wr hd hI
    simp only [List.length_cons, List.length_nil, Nat.reduceAdd, Nat.zero_add] at hd
    have hS := (hS1 _ _).1 (hI.end_ (fun c hc => hd c (by simp at hc; omega)))
    obtain ⟨A, c, A2, c2, hb6, h4, h7, hB6⟩ := hS
    obtain ⟨d0, d1, d2⟩ := Box.three hb6
    have dl := hb6.lt
    go_wp2_with fail
    refine bodyPost_ret (v := .agg #[.bool a.ch, .slice A a.sh.length c, .slice A2 a.da.length c2]) (by simp [results, Tryz.results70, go_sem, d0, d1, d2, dl]) rfl ?_
    exact ⟨_, _, _, _, rfl, h4.base (by omega), h7.base (by omega), hB6⟩

end Go.Proofs.YtihndbkaoejnnaaGreatDoor

namespace Go.Proofs.YtihndbkaoejnnaaGreatDoor
open Go Go.RowKit Go.Proofs.YtihndbkaoejnnaaGreatDoor.P

/-- What lies below n stays, from where all of it is there. -/
def RelFrom (n : Nat) (w w' : World) : Prop := w.heap.size ≤ w'.heap.size ∧ (n ≤ w.heap.size → Below n w w')
theorem relsFrom (n : Nat) : Rels (RelFrom n) := ⟨fun hb => ⟨hb.size, fun h => hb.mono h⟩, fun h h2 => ⟨Nat.le_trans h.1 h2.1, fun hn => (h.2 hn).trans (h2.2 (Nat.le_trans hn h.1))⟩⟩
theorem relFrom_three {n P : Nat} {w : World} (hP : n ≤ P) (u0 u1 u2 : Value) : RelFrom n w (((w.setCell ⟨P, 0, none⟩ u0).setCell ⟨P, 1, none⟩ u1).setCell ⟨P, 2, none⟩ u2) :=
  ⟨(grownBy_three w P u0 u1 u2).size, fun _ => (((Below.refl _ _).setCell (p := ⟨P, 0, none⟩) hP _).setCell (p := ⟨P, 1, none⟩) hP _).setCell (p := ⟨P, 2, none⟩) hP _⟩
theorem zero_arr (w : World) : (zeroValue 25).run Tryz.prog w = .ok (.agg #[.bool false, .slice none 0 0, .slice none 0 0]) w := by kernel_rfl
theorem tabFind_some {s : ByteArray} {a : Arr} : ∀ {rows : List (ByteArray × Value)} {bs : List Bd} {i : Nat}, rows.map (·.1) = bs.map (·.1) → bs[i]? = some (s, a) → (∀ x ∈ bs.take i, x.1 ≠ s) → ∃ p, rows[i]? = some p ∧ tabFind s rows = some p.2 := by
  intro rows
  induction rows with
  | nil =>
    intro bs i h hb _
    cases bs with
    | nil => simp at hb
    | cons b r => simp at h
  | cons p l ih =>
    intro bs i h hb hn
    cases bs with
    | nil => simp at h
    | cons b r =>
      simp at h
      cases i with
      | zero =>
        simp at hb
        subst hb
        exact ⟨p, rfl, by rw [tabFind, if_pos h.1.symm]⟩
      | succ i =>
        obtain ⟨p', h1, h2⟩ := ih h.2 (by simpa using hb) (fun x hx => hn x (by simp [hx]))
        refine ⟨p', by simpa using h1, ?_⟩
        rw [tabFind, if_neg (fun e => hn b (by simp) (by rw [← h.1, e])), h2]


set_option maxRecDepth 100000 in
set_option maxHeartbeats 8000000 in
theorem v_var {om : Option Env0} {bs : List Bd} {ns : List Nd} {at_ : Nat} {s : ByteArray} {a : Arr} (hx : ns[at_]? = some ⟨3, 0, 0, 0, 0, [], s⟩) (hv : ∃ i, bs[i]? = some (s, a) ∧ ∀ x ∈ bs.take i, x.1 ≠ s) : ValAt om bs ns at_ 1 (a) := by
  have hm := mixedZ
  intro w C E M f G g c S hst hev hnds hGE hom hdeep
  have hlt : at_ < ns.length := (List.getElem?_eq_some_iff.1 hx).1
  obtain ⟨nA, nc, n0, n1, n2, n3, n4, n5, n6, n7, n8⟩ := hnds.2.2.2.2.2 at_ _ hx
  have hgM := hnds.1
  have hMs := hnds.2.1
  have hL390 := hnds.2.2.2.2.1
  have hLc := hnds.2.2.1
  have hgl : g < w.heap.size := by omega
  have hEl := hev.1.lt
  obtain ⟨L, hL⟩ : ∃ L, L = ns.length := ⟨_, rfl⟩
  rw [← hL] at hlt hL390 hLc ⊢
  simp only [] at n0 n1 n2 n3 n4 n5 n6
  have HN7 := Lib.hid n7
  have HN8 := Lib.hid n8
  have hb3 := below_three w (.cells #[.slice C.bA C.bn C.bc, .int .i64 C.at_, .int .i64 C.n, .pointer C.al, .bool C.ob, .slice C.oA C.on C.oc, .slice C.pA C.pn C.pc, .int .i64 C.deep, .pointer (some ⟨E, 0, none⟩)] 131) (.cells #[.bool false, .slice none 0 0, .slice none 0 0] 25) (.cells #[.int .i64 3, .int .i64 0, .int .i64 0, .int .i64 0, .int .i64 0, .slice nA 0 nc, .string s] 101)
  have x3 := ((Box.new w 131 #[.slice C.bA C.bn C.bc, .int .i64 C.at_, .int .i64 C.n, .pointer C.al, .bool C.ob, .slice C.oA C.on C.oc, .slice C.pA C.pn C.pc, .int .i64 C.deep, .pointer (some ⟨E, 0, none⟩)]).alloc (.cells #[.bool false, .slice none 0 0, .slice none 0 0] 25)).alloc (.cells #[.int .i64 3, .int .i64 0, .int .i64 0, .int .i64 0, .int .i64 0, .slice nA 0 nc, .string s] 101)
  have x6 := (Box.new (w.alloc (.cells #[.slice C.bA C.bn C.bc, .int .i64 C.at_, .int .i64 C.n, .pointer C.al, .bool C.ob, .slice C.oA C.on C.oc, .slice C.pA C.pn C.pc, .int .i64 C.deep, .pointer (some ⟨E, 0, none⟩)] 131)) 25 #[.bool false, .slice none 0 0, .slice none 0 0]).alloc (.cells #[.int .i64 3, .int .i64 0, .int .i64 0, .int .i64 0, .int .i64 0, .slice nA 0 nc, .string s] 101)
  have x7 := Box.new ((w.alloc (.cells #[.slice C.bA C.bn C.bc, .int .i64 C.at_, .int .i64 C.n, .pointer C.al, .bool C.ob, .slice C.oA C.on C.oc, .slice C.pA C.pn C.pc, .int .i64 C.deep, .pointer (some ⟨E, 0, none⟩)] 131)).alloc (.cells #[.bool false, .slice none 0 0, .slice none 0 0] 25)) 101 #[.int .i64 3, .int .i64 0, .int .i64 0, .int .i64 0, .int .i64 0, .slice nA 0 nc, .string s]
  obtain ⟨W, hW⟩ : ∃ W, W = ((w.alloc (.cells #[.slice C.bA C.bn C.bc, .int .i64 C.at_, .int .i64 C.n, .pointer C.al, .bool C.ob, .slice C.oA C.on C.oc, .slice C.pA C.pn C.pc, .int .i64 C.deep, .pointer (some ⟨E, 0, none⟩)] 131)).alloc (.cells #[.bool false, .slice none 0 0, .slice none 0 0] 25)).alloc (.cells #[.int .i64 3, .int .i64 0, .int .i64 0, .int .i64 0, .int .i64 0, .slice nA 0 nc, .string s] 101) := ⟨_, rfl⟩
  rw [← hW] at hb3 x3 x6 x7
  have hWs : W.heap.size = w.heap.size + 3 := by rw [hW]; simp
  simp only [World.size_alloc] at x6 x7
  have HSTEP := Lib.hid (step_any (hev.below hb3))
  have HB3 := Lib.hid hb3
  have HX3 := Lib.hid x3
  have HX6 := Lib.hid x6
  have HX7 := Lib.hid x7
  have HST := Lib.hid hst
  have HWS := Lib.hid hWs
  clear hnds hom n7 n8 hev hb3 x3 x6 x7 hWs hst hx hL
  go_enter Tryz.func68, Tryz.ntmps68
  go_wp2_with fail
  rw [← hW]
  clear n0 n1 n2 n3 n4 n5 n6 hW
  refine HSTEP.out.mono ?_
  rintro e w1 ⟨rfl, hev1, hg1⟩
  have y3 := Box.grown HX3.out hg1 (by intro e; injection e; omega)
  have y6 := Box.grown HX6.out hg1 (by intro e; injection e; omega)
  have y7 := Box.grown HX7.out hg1 (by intro e; injection e; omega)
  have o0 := y7.cell 0
  have o5 := y7.cell 5
  have o6 := y7.cell 6
  have o7l := y7.lt
  have HG1 := Lib.hid hg1
  have HEV1 := Lib.hid hev1
  have hWs := HWS.out
  have hs1 := hg1.size
  clear hev1 hg1
  simp at o0 o5 o6
  obtain ⟨i, hib, hio⟩ := hv
  obtain ⟨-, -, -, -, -, -, rows, htab, hrn, hrv⟩ := HEV1.out
  obtain ⟨p, hp, hpf⟩ := tabFind_some hrn hib hio
  have har := hrv i _ p hib hp
  have HAR := Lib.hid har
  obtain ⟨sA, sc, dA, dc, hpe, -⟩ := har
  simp only [] at hpe
  rw [hpe] at HAR hpf
  have HTAB := Lib.hid htab
  have HF := Lib.hid hpf
  have HY3 := Lib.hid y3
  have HY6 := Lib.hid y6
  have HY7 := Lib.hid y7
  obtain ⟨S1, hS1⟩ : ∃ S1, S1 = w1.heap.size := ⟨_, rfl⟩
  have HS1 := Lib.hid hS1
  clear hS1
  clear y3 y6 y7 hrn hrv hp hpe hpf htab hib hio
  go_wp2_with fail
  have hRel : Rels (RelFrom S1) := relsFrom S1
  obtain ⟨V, hVe⟩ : ∃ V : Nat → Value → World → Prop, V = fun i v w' => match i with
      | 0 => v = .pointer (some ⟨w.heap.size, 8, none⟩)
      | 1 => v = .pointer (some ⟨E, 0, none⟩)
      | 2 => v = .pointer (some ⟨E, 0, none⟩)
      | 3 => v = .pointer (some ⟨E, 0, none⟩)
      | 4 => v = .map (some M)
      | 5 => v = .pointer (some ⟨w.heap.size + 2, 6, none⟩)
      | 6 => v = .string s
      | 7 => v = .tuple #[.agg #[.bool a.ch, .slice sA a.sh.length sc, .slice dA a.da.length dc], .bool true]
      | 8 => v = .tuple #[.agg #[.bool a.ch, .slice sA a.sh.length sc, .slice dA a.da.length dc], .bool true]
      | 9 => v = .agg #[.bool a.ch, .slice sA a.sh.length sc, .slice dA a.da.length dc]
      | 10 => v = .bool true
      | 13 => v = .bool true
      | _ => True := ⟨_, rfl⟩
  have hVm : ∀ j v w1 w2, V j v w1 → (RelFrom S1) w1 w2 → V j v w2 := by
    intro j v w1 w2 h hr
    subst hVe
    match j, h with
    | 0, h => exact h
    | 1, h => exact h
    | 2, h => exact h
    | 3, h => exact h
    | 4, h => exact h
    | 5, h => exact h
    | 6, h => exact h
    | 7, h => exact h
    | 8, h => exact h
    | 9, h => exact h
    | 10, h => exact h
    | 11, _ => trivial
    | 12, _ => trivial
    | 13, h => exact h
    | i + 14, _ => trivial
  have hV0 : ∀ v w', V 0 v w' ↔ v = .pointer (some ⟨w.heap.size, 8, none⟩) := fun _ _ => by subst hVe; rfl
  have hV1 : ∀ v w', V 1 v w' ↔ v = .pointer (some ⟨E, 0, none⟩) := fun _ _ => by subst hVe; rfl
  have hV2 : ∀ v w', V 2 v w' ↔ v = .pointer (some ⟨E, 0, none⟩) := fun _ _ => by subst hVe; rfl
  have hV3 : ∀ v w', V 3 v w' ↔ v = .pointer (some ⟨E, 0, none⟩) := fun _ _ => by subst hVe; rfl
  have hV4 : ∀ v w', V 4 v w' ↔ v = .map (some M) := fun _ _ => by subst hVe; rfl
  have hV5 : ∀ v w', V 5 v w' ↔ v = .pointer (some ⟨w.heap.size + 2, 6, none⟩) := fun _ _ => by subst hVe; rfl
  have hV6 : ∀ v w', V 6 v w' ↔ v = .string s := fun _ _ => by subst hVe; rfl
  have hV7 : ∀ v w', V 7 v w' ↔ v = .tuple #[.agg #[.bool a.ch, .slice sA a.sh.length sc, .slice dA a.da.length dc], .bool true] := fun _ _ => by subst hVe; rfl
  have hV8 : ∀ v w', V 8 v w' ↔ v = .tuple #[.agg #[.bool a.ch, .slice sA a.sh.length sc, .slice dA a.da.length dc], .bool true] := fun _ _ => by subst hVe; rfl
  have hV9 : ∀ v w', V 9 v w' ↔ v = .agg #[.bool a.ch, .slice sA a.sh.length sc, .slice dA a.da.length dc] := fun _ _ => by subst hVe; rfl
  have hV10 : ∀ v w', V 10 v w' ↔ v = .bool true := fun _ _ => by subst hVe; rfl
  have hV13 : ∀ v w', V 13 v w' ↔ v = .bool true := fun _ _ => by subst hVe; rfl
  have hV11 : ∀ v w', V 11 v w' := fun _ _ => by subst hVe; trivial
  have hV12 : ∀ v w', V 12 v w' := fun _ _ => by subst hVe; trivial
  obtain ⟨St, hSe⟩ : ∃ St : Nat → (Nat → Value) → World → Prop, St = fun s u w' => match s with
      | 0 => True
      | 1 => ∃ P, u 11 = .pointer (some ⟨P, 0, none⟩) ∧ S1 ≤ P ∧ Box w' P 25 #[.bool false, .slice none 0 0, .slice none 0 0]
      | 2 => ∃ P, u 11 = .pointer (some ⟨P, 0, none⟩) ∧ S1 ≤ P ∧ Box w' P 25 #[.bool a.ch, .slice sA a.sh.length sc, .slice dA a.da.length dc]
      | _ => False := ⟨_, rfl⟩
  have hSm : ∀ s u u' w1 w2, (∀ c ∈ [11, 12], u' c = u c) → St s u w1 → Below w1.heap.size w1 w2 → St s u' w2 := by
    intro s u u' w1 w2 hu h hb
    subst hSe
    match s, h with
    | 0, h => trivial
    | 1, ⟨P, e, h1, h2⟩ => exact ⟨P, by rw [hu 11 (by decide)]; exact e, h1, h2.below hb⟩
    | 2, ⟨P, e, h1, h2⟩ => exact ⟨P, by rw [hu 11 (by decide)]; exact e, h1, h2.below hb⟩
    | s + 3, h => exact h.elim
  have hS0 : ∀ u w', St 0 u w' ↔ (True) := fun _ _ => by subst hSe; rfl
  have hS1 : ∀ u w', St 1 u w' ↔ (∃ P, u 11 = .pointer (some ⟨P, 0, none⟩) ∧ S1 ≤ P ∧ Box w' P 25 #[.bool false, .slice none 0 0, .slice none 0 0]) := fun _ _ => by subst hSe; rfl
  have hS2 : ∀ u w', St 2 u w' ↔ (∃ P, u 11 = .pointer (some ⟨P, 0, none⟩) ∧ S1 ≤ P ∧ Box w' P 25 #[.bool a.ch, .slice sA a.sh.length sc, .slice dA a.da.length dc]) := fun _ _ => by subst hSe; rfl
  clear hVe hSe
  refine wp_region_inv (ChainInv (RelFrom S1) V [11, 12] St w1) (by kernel_rfl) (by kernel_rfl) (by kernel_rfl) ?start ?step ?fin
  case start => exact fun u => ChainInv.start hRel (Below.refl _ _).drew ((hS0 _ _).2 (trivial))
  case step =>
    simp only [putAll, Act.put, List.setIfInBounds_toArray, List.set_cons_zero, List.set_cons_succ, Nat.reduceAdd, Nat.zero_add]
    intro i o ho done u wr hnd hdep hI K hK
    have hbw : Below w1.heap.size w1 wr := HS1.out ▸ hI.1.2 (Nat.le_of_eq HS1.out)
    have z3 := (HY3.out.below hbw).cell 8
    have z7 := (HY7.out.below hbw).cell 6
    have zE := (HEV1.out.1.below hbw).cell 0
    have hlk := run_lookup_tab (P := Tryz.prog) (HTAB.out.below hbw) Tryz.underlying126 Tryz.underlying9 (zero_arr wr) s
    rw [HF.out] at hlk
    simp at z3 z7 zE hlk
    have zl3 := (HY3.out.below hbw).lt
    have zl7 := (HY7.out.below hbw).lt
    have zlE := (HEV1.out.1.below hbw).lt
    clear hbw
    match i, ho with
    | 0, ho =>
      simp only [List.getElem?_cons_zero, Option.some.injEq] at ho
      subst ho
      simp only [Act.put, List.setIfInBounds_toArray, List.set_cons_zero, List.set_cons_succ] at hK
      refine wpOp_step rfl fun K' hK' => ?_
      go_simp
      exact hK' _ _ (hK _ _ (hI.quiet hRel hnd (by decide) hVm hSm (Below.refl _ _) ((hV0 _ _).2 rfl)))
    | 1, ho =>
      simp only [List.getElem?_cons_succ, List.getElem?_cons_zero, Option.some.injEq] at ho
      subst ho
      simp only [Act.put, List.setIfInBounds_toArray, List.set_cons_zero, List.set_cons_succ] at hK
      have e0 := (hV0 _ _).1 (hI.know (hdep ⟨0, .data⟩ (by simp) rfl))
      simp only [e0] at hK
      refine wpOp_step rfl fun K' hK' => ?_
      go_simp
      exact hK' _ _ (hK _ _ (hI.quiet hRel hnd (by decide) hVm hSm (Below.refl _ _) ((hV1 _ _).2 rfl)))
    | 2, ho =>
      simp only [List.getElem?_cons_succ, List.getElem?_cons_zero, Option.some.injEq] at ho
      subst ho
      simp only [Act.put, List.setIfInBounds_toArray, List.set_cons_zero, List.set_cons_succ] at hK
      have e1 := (hV1 _ _).1 (hI.know (hdep ⟨1, .data⟩ (by simp) rfl))
      simp only [e1] at hK
      refine wpOp_step rfl fun K' hK' => ?_
      go_simp
      exact hK' _ _ (hK _ _ (hI.quiet hRel hnd (by decide) hVm hSm (Below.refl _ _) ((hV2 _ _).2 rfl)))
    | 3, ho =>
      simp only [List.getElem?_cons_succ, List.getElem?_cons_zero, Option.some.injEq] at ho
      subst ho
      simp only [Act.put, List.setIfInBounds_toArray, List.set_cons_zero, List.set_cons_succ] at hK
      have e2 := (hV2 _ _).1 (hI.know (hdep ⟨2, .data⟩ (by simp) rfl))
      simp only [e2] at hK
      refine wpOp_step rfl fun K' hK' => ?_
      go_simp
      exact hK' _ _ (hK _ _ (hI.quiet hRel hnd (by decide) hVm hSm (Below.refl _ _) ((hV3 _ _).2 rfl)))
    | 4, ho =>
      simp only [List.getElem?_cons_succ, List.getElem?_cons_zero, Option.some.injEq] at ho
      subst ho
      simp only [Act.put, List.setIfInBounds_toArray, List.set_cons_zero, List.set_cons_succ] at hK
      have e3 := (hV3 _ _).1 (hI.know (hdep ⟨3, .data⟩ (by simp) rfl))
      simp only [e3] at hK
      refine wpOp_step rfl fun K' hK' => ?_
      go_simp
      exact hK' _ _ (hK _ _ (hI.quiet hRel hnd (by decide) hVm hSm (Below.refl _ _) ((hV4 _ _).2 rfl)))
    | 5, ho =>
      simp only [List.getElem?_cons_succ, List.getElem?_cons_zero, Option.some.injEq] at ho
      subst ho
      simp only [Act.put, List.setIfInBounds_toArray, List.set_cons_zero, List.set_cons_succ] at hK
      refine wpOp_step rfl fun K' hK' => ?_
      go_simp
      exact hK' _ _ (hK _ _ (hI.quiet hRel hnd (by decide) hVm hSm (Below.refl _ _) ((hV5 _ _).2 rfl)))
    | 6, ho =>
      simp only [List.getElem?_cons_succ, List.getElem?_cons_zero, Option.some.injEq] at ho
      subst ho
      simp only [Act.put, List.setIfInBounds_toArray, List.set_cons_zero, List.set_cons_succ] at hK
      have e5 := (hV5 _ _).1 (hI.know (hdep ⟨5, .data⟩ (by simp) rfl))
      simp only [e5] at hK
      refine wpOp_step rfl fun K' hK' => ?_
      go_simp
      exact hK' _ _ (hK _ _ (hI.quiet hRel hnd (by decide) hVm hSm (Below.refl _ _) ((hV6 _ _).2 rfl)))
    | 7, ho =>
      simp only [List.getElem?_cons_succ, List.getElem?_cons_zero, Option.some.injEq] at ho
      subst ho
      simp only [Act.put, List.setIfInBounds_toArray, List.set_cons_zero, List.set_cons_succ] at hK
      have e4 := (hV4 _ _).1 (hI.know (hdep ⟨4, .data⟩ (by simp) rfl))
      have e6 := (hV6 _ _).1 (hI.know (hdep ⟨6, .data⟩ (by simp) rfl))
      simp only [e4, e6] at hK
      refine wpOp_step rfl fun K' hK' => ?_
      go_simp
      exact hK' _ _ (hK _ _ (hI.quiet hRel hnd (by decide) hVm hSm (Below.refl _ _) ((hV7 _ _).2 rfl)))
    | 8, ho =>
      simp only [List.getElem?_cons_succ, List.getElem?_cons_zero, Option.some.injEq] at ho
      subst ho
      simp only [Act.put, List.setIfInBounds_toArray, List.set_cons_zero, List.set_cons_succ] at hK
      have e7 := (hV7 _ _).1 (hI.know (hdep ⟨7, .data⟩ (by simp) rfl))
      simp only [e7] at hK
      refine wpOp_step rfl fun K' hK' => ?_
      go_simp
      exact hK' _ _ (hK _ _ (hI.quiet hRel hnd (by decide) hVm hSm (Below.refl _ _) ((hV8 _ _).2 rfl)))
    | 9, ho =>
      simp only [List.getElem?_cons_succ, List.getElem?_cons_zero, Option.some.injEq] at ho
      subst ho
      simp only [Act.put, List.setIfInBounds_toArray, List.set_cons_zero, List.set_cons_succ] at hK
      have e8 := (hV8 _ _).1 (hI.know (hdep ⟨8, .data⟩ (by simp) rfl))
      simp only [e8] at hK
      refine wpOp_step rfl fun K' hK' => ?_
      go_simp
      exact hK' _ _ (hK _ _ (hI.quiet hRel hnd (by decide) hVm hSm (Below.refl _ _) ((hV9 _ _).2 rfl)))
    | 10, ho =>
      simp only [List.getElem?_cons_succ, List.getElem?_cons_zero, Option.some.injEq] at ho
      subst ho
      simp only [Act.put, List.setIfInBounds_toArray, List.set_cons_zero, List.set_cons_succ] at hK
      have e8 := (hV8 _ _).1 (hI.know (hdep ⟨8, .data⟩ (by simp) rfl))
      simp only [e8] at hK
      refine wpOp_step rfl fun K' hK' => ?_
      go_simp
      exact hK' _ _ (hK _ _ (hI.quiet hRel hnd (by decide) hVm hSm (Below.refl _ _) ((hV10 _ _).2 rfl)))
    | 11, ho =>
      simp only [List.getElem?_cons_succ, List.getElem?_cons_zero, Option.some.injEq] at ho
      subst ho
      simp only [Act.put, List.setIfInBounds_toArray, List.set_cons_zero, List.set_cons_succ] at hK
      refine wpOp_step rfl fun K' hK' => ?_
      go_simp
      exact hK' _ _ (hK _ _ (hI.step hRel (k := 0) rfl hnd (.inl rfl) (by decide) hVm ((relsFrom _).below (below_one _ _)) (hV11 _ _) ((hS1 _ _).2 (⟨_, by rw [upd_same], by rw [HS1.out]; exact hI.1.1, Box.new _ _ _⟩))))
    | 12, ho =>
      simp only [List.getElem?_cons_succ, List.getElem?_cons_zero, Option.some.injEq] at ho
      subst ho
      simp only [Act.put, List.setIfInBounds_toArray, List.set_cons_zero, List.set_cons_succ] at hK
      have e9 := (hV9 _ _).1 (hI.know (hdep ⟨9, .data⟩ (by simp) rfl))
      obtain ⟨P, e11, hP, hx⟩ := (hS1 _ _).1 (hI.at_ (k := 1) rfl hnd (.inr ⟨11, rfl, hdep ⟨11, .data⟩ (by simp) rfl⟩))
      simp only [e9, e11] at hK
      obtain ⟨d0, d1, d2⟩ := Box.three hx
      have f0 := Box.frozen hx 0
      have f1 := Box.frozen hx 1
      have f2 := Box.frozen hx 2
      have dl := hx.lt
      refine wpOp_step rfl fun K' hK' => ?_
      go_simp
      have hx3 : Box (((wr.setCell ⟨P, 0, none⟩ (.bool a.ch)).setCell ⟨P, 1, none⟩ (.slice sA a.sh.length sc)).setCell ⟨P, 2, none⟩ (.slice dA a.da.length dc)) P 25 #[.bool a.ch, .slice sA a.sh.length sc, .slice dA a.da.length dc] := by simpa using ((hx.store 0 (.bool a.ch)).store 1 (.slice sA a.sh.length sc)).store 2 (.slice dA a.da.length dc)
      exact hK' _ _ (hK _ _ (hI.step (v := .nilIface) hRel (k := 1) rfl hnd (.inr ⟨11, rfl, hdep ⟨11, .data⟩ (by simp) rfl⟩) (by decide) hVm (relFrom_three hP _ _ _) (hV12 _ _) ((hS2 _ _).2 (⟨P, by rw [upd_other _ _ (by decide)]; exact e11, hP, hx3⟩))))
    | 13, ho =>
      simp only [List.getElem?_cons_succ, List.getElem?_cons_zero, Option.some.injEq] at ho
      subst ho
      simp only [Act.put, List.setIfInBounds_toArray, List.set_cons_zero, List.set_cons_succ] at hK
      have e10 := (hV10 _ _).1 (hI.know (hdep ⟨10, .data⟩ (by simp) rfl))
      simp only [e10] at hK
      refine wpOp_step rfl fun K' hK' => ?_
      go_simp
      exact hK' _ _ (hK _ _ (hI.quiet hRel hnd (by decide) hVm hSm (Below.refl _ _) ((hV13 _ _).2 rfl)))
    | i + 14, ho => simp at ho
  case fin =>
    simp only [putAll, Act.put, List.setIfInBounds_toArray, List.set_cons_zero, List.set_cons_succ, Nat.reduceAdd, Nat.zero_add]
    intro done u wr hd hI
    simp only [List.length_cons, List.length_nil, Nat.reduceAdd, Nat.zero_add] at hd
    have hS := (hS2 _ _).1 (hI.end_ (fun c hc => hd c (by simp at hc; omega)))
    have f13 := (hV13 _ _).1 (hI.know (hd 13 (by omega)))
    obtain ⟨P, e11, hP, hx⟩ := hS
    simp only [e11, f13]
    have hbw : Below w1.heap.size w1 wr := HS1.out ▸ hI.1.2 (Nat.le_of_eq HS1.out)
    have y62 := HY6.out.below hbw
    obtain ⟨d0, d1, d2⟩ := Box.three y62
    have f0 := Box.frozen y62 0
    have f1 := Box.frozen y62 1
    have f2 := Box.frozen y62 2
    have dl := y62.lt
    obtain ⟨p0, p1, p2⟩ := Box.three hx
    have pl := hx.lt
    have HAR2 := Lib.hid (HAR.out.below hbw)
    have HEV2 := Lib.hid (HEV1.out.below hbw)
    have HGW := Lib.hid (grownBy_then (grownBy_trans (grownBy_of_below (row := some E) HB3.out (Nat.le_refl _)) HG1.out) hbw)
    clear hbw hI hd hx
    go_wp2_with fail
    refine bodyPost_ret (v := .agg #[.bool a.ch, .slice sA a.sh.length sc, .slice dA a.da.length dc]) (by simp [results, Tryz.results68, go_sem, d0, d1, d2, f0, f1, f2, dl]) rfl ?_
    have hg3 := grownBy_three wr (w.heap.size + 1) (.bool a.ch) (.slice sA a.sh.length sc) (.slice dA a.da.length dc)
    refine ⟨_, rfl, (by exact ArrAt.off HAR2.out hg3 y62), (HEV2.out).off hg3 y62 (by omega), grownBy_row HGW.out hg3 (fun k e => by injection e; omega)⟩


end Go.Proofs.YtihndbkaoejnnaaGreatDoor

namespace Go.Proofs.YtihndbkaoejnnaaGreatDoor
open Go Go.RowKit Go.Proofs.YtihndbkaoejnnaaGreatDoor.P

theorem valueCatch_idle (p q r : Addr) (w : World) : CallsD Tryz.prog 67 #[.pointer (some p), .pointer (some q), .pointer (some r)] .returning w fun e u' w' => e = .returned (.tuple #[]) ∧ u' = .returning ∧ w' = w := by
  refine callsD_of_wpS Tryz.func67 rfl fun c₀ cs hu => ?_
  apply wpS_seq
  apply wpS_region
  simp [wpOpsS, go_sem, recoverD, hu, Tryz.ntmps67, Exit.thenS]
  refine wpS_of_wp ?_
  simp only [Array.replicate, List.replicate, List.setIfInBounds_toArray, List.set_cons_zero, List.set_cons_succ, List.append_toArray, List.cons_append, List.nil_append]
  go_wp2
  cases c₀
  simp_all [bodyPostS, results, Tryz.results67]

theorem EvAt.add {w w' : World} {E M f k : Nat} {S : Nat → Prop} {bs : List Bd} {rows : List (ByteArray × Value)} {b : Bd} {v : Value} (h : EvAt w E M S (bs.take k) f) (hrn : rows.map (·.1) = (bs.take k).map (·.1)) (ht : TabAt w' M (rows ++ [(b.1, v)])) (hg : w.grownBy w' (some M)) (hb : bs[k]? = some b) (hS : S M) (hv : ArrAt w' S v b.2) (ht0 : TabAt w M rows)
    (hrv : ∀ (i : Nat) (b : Bd) (p : ByteArray × Value), (bs.take k)[i]? = some b → rows[i]? = some p → ArrAt w S p.2 b.2) : EvAt w' E M S (bs.take (k + 1)) f := by
  obtain ⟨hx, hME, hB, hSE, hSl, hf2, -⟩ := h
  have hlen : rows.length = (bs.take k).length := by have := congrArg List.length hrn; simpa using this
  have hkl : k < bs.length := (List.getElem?_eq_some_iff.1 hb).1
  have hlk : rows.length = k := by rw [hlen, List.length_take]; omega
  refine ⟨hx.grown hg (by intro e; injection e; omega), hME, hB, hSE, fun b h => Nat.lt_of_lt_of_le (hSl b h) hg.size, hf2, rows ++ [(b.1, v)], ht, by rw [List.map_append, hrn, List.take_add_one, hb]; simp, fun i b' p h1 h2 => ?_⟩
  rcases Nat.lt_or_ge i k with hi | hi
  · rw [List.getElem?_append_left (by omega)] at h2
    rw [List.getElem?_take_of_lt (by omega)] at h1
    exact (hrv i b' p (by rw [List.getElem?_take_of_lt hi]; exact h1) h2).grown hg hS
  · rw [List.getElem?_append_right (by omega)] at h2
    have h3 := (List.getElem?_eq_some_iff.1 h1).1
    rw [List.length_take] at h3
    have : i = k := by omega
    subst this
    rw [List.getElem?_take_of_lt (by omega), hb] at h1
    rw [hlk] at h2
    simp at h1 h2
    subst h1 h2
    exact hv

end Go.Proofs.YtihndbkaoejnnaaGreatDoor

namespace Go.Proofs.YtihndbkaoejnnaaGreatDoor
open Go Go.RowKit Go.Proofs.YtihndbkaoejnnaaGreatDoor.P

theorem EvAt.off2 {w w' : World} {E M f b sn sc dn dc : Nat} {S : Nat → Prop} {bs : List Bd} {t : TypeId} {x : Bool} {sA dA : Option Addr} (h : EvAt w E M S bs f) (hg : w.grownBy w' (some b)) (hb : Box w b t #[.bool x, .slice sA sn sc, .slice dA dn dc]) (hE : b ≠ E) (hM : b ≠ M) : EvAt w' E M S bs f := by
  obtain ⟨hx, hME, hB, hSE, hSl, hf2, rows, ht, hr, hv⟩ := h
  exact ⟨hx.grown hg (by intro e; injection e; omega), hME, hB, hSE, fun b h => Nat.lt_of_lt_of_le (hSl b h) hg.size, hf2, rows, ht.kept hg (by intro e; injection e; omega), hr, fun i b p h3 h4 => (hv i b p h3 h4).off hg hb⟩

set_option maxRecDepth 100000 in
set_option maxHeartbeats 8000000 in
theorem valueOf_any {w : World} {ws : Value} {bs : List Bd} {ns : List Nd} {G g c f k F : Nat} {av : Arr} (hst : Std w) (hws : WsAt w ws bs) (hok : WsOk bs) (hnds : NdsAt w G g c ns) (hV : ValAt none bs ns 0 k av) (hF : F = f + 1 + k) (hF2 : F ≤ 20000) :
    Calls Tryz.prog 50 #[ws, .slice (some ⟨g, 0, none⟩) ns.length c, .int .i64 F] w fun e w' => ∃ v, e = .returned (.tuple #[v, .int .i64 f, .nilIface]) ∧ IsArr w' v av ∧ Below w.heap.size w w' := by
  have hm := mixedZ
  have hmk : ∀ w, (Instr.makeMap 126 none).run Tryz.prog w = .ok (.map (some w.heap.size)) (w.alloc (.map #[] 0)) := fun _ => by kernel_rfl
  have hmf : ∀ (fn : Fn) (first cap : Array Value) (w : World), (Instr.makeFunc fn first cap).run Tryz.prog w = .ok (.func fn first cap) w := fun _ _ _ _ => rfl
  obtain ⟨A, cw, rfl, hnc, hbs⟩ := hws
  have hlo := hst.low
  have hb5 : Below w.heap.size w (((((w.alloc (.cells #[.bool false, .slice none 0 0, .slice none 0 0] 25)).alloc (.cells #[.int .i64 0] 3)).alloc (.cells #[.nilIface] 29)).alloc (.map #[] 0)).alloc (.cells #[.map (some (w.heap.size + 1 + 1 + 1)), .int .i64 F] 128)) := (((below_three w _ _ _).alloc (by simp; omega) _).alloc (by simp; omega) _)
  have x6 := ((((Box.new w 25 #[.bool false, .slice none 0 0, .slice none 0 0]).alloc (.cells #[.int .i64 0] 3)).alloc (.cells #[.nilIface] 29)).alloc (.map #[] 0)).alloc (.cells #[.map (some (w.heap.size + 1 + 1 + 1)), .int .i64 F] 128)
  have x7 := (((Box.new (w.alloc (.cells #[.bool false, .slice none 0 0, .slice none 0 0] 25)) 3 #[.int .i64 0]).alloc (.cells #[.nilIface] 29)).alloc (.map #[] 0)).alloc (.cells #[.map (some (w.heap.size + 1 + 1 + 1)), .int .i64 F] 128)
  have x8 := ((Box.new ((w.alloc (.cells #[.bool false, .slice none 0 0, .slice none 0 0] 25)).alloc (.cells #[.int .i64 0] 3)) 29 #[.nilIface]).alloc (.map #[] 0)).alloc (.cells #[.map (some (w.heap.size + 1 + 1 + 1)), .int .i64 F] 128)
  have xM := (TabAt.made (((w.alloc (.cells #[.bool false, .slice none 0 0, .slice none 0 0] 25)).alloc (.cells #[.int .i64 0] 3)).alloc (.cells #[.nilIface] 29))).below (below_one _ (.cells #[.map (some (w.heap.size + 1 + 1 + 1)), .int .i64 F] 128))
  have xE := Box.new ((((w.alloc (.cells #[.bool false, .slice none 0 0, .slice none 0 0] 25)).alloc (.cells #[.int .i64 0] 3)).alloc (.cells #[.nilIface] 29)).alloc (.map #[] 0)) 128 #[.map (some (w.heap.size + 1 + 1 + 1)), .int .i64 F]
  obtain ⟨W, hW⟩ : ∃ W, W = ((((w.alloc (.cells #[.bool false, .slice none 0 0, .slice none 0 0] 25)).alloc (.cells #[.int .i64 0] 3)).alloc (.cells #[.nilIface] 29)).alloc (.map #[] 0)).alloc (.cells #[.map (some (w.heap.size + 1 + 1 + 1)), .int .i64 F] 128) := ⟨_, rfl⟩
  rw [← hW] at hb5 x6 x7 x8 xM xE
  have hWs : W.heap.size = w.heap.size + 5 := by rw [hW]; simp
  simp only [World.size_alloc] at x6 x7 x8 xM xE
  obtain ⟨S, hS⟩ : ∃ S : Nat → Prop, S = fun b => b = (w.heap.size + 1 + 1 + 1 + 1) ∨ b = (w.heap.size + 1 + 1 + 1) := ⟨_, rfl⟩
  have hSM : S (w.heap.size + 1 + 1 + 1) := by rw [hS]; exact .inr rfl
  have hSE : S (w.heap.size + 1 + 1 + 1 + 1) := by rw [hS]; exact .inl rfl
  have hSl : ∀ b, S b → w.heap.size ≤ b ∧ b < w.heap.size + 5 := fun b h => by rw [hS] at h; rcases h with h | h <;> omega
  clear hS
  have hev0 : EvAt W (w.heap.size + 1 + 1 + 1 + 1) (w.heap.size + 1 + 1 + 1) S (bs.take 0) F := ⟨xE, by omega, by omega, hSE, fun b h => by have := hSl b h; omega, hF2, [], xM, by simp, fun i b p h => by simp at h⟩
  have HBS := Lib.hid hbs
  have HOK := Lib.hid hok
  have HST := Lib.hid hst
  have HND := Lib.hid hnds
  have HV := Lib.hid hV
  have HB5 := Lib.hid hb5
  have X6 := Lib.hid x6
  have X7 := Lib.hid x7
  have X8 := Lib.hid x8
  have HEV0 := Lib.hid hev0
  have HFE := Lib.hid hF
  have HWS := Lib.hid hWs
  obtain ⟨n, hn⟩ : ∃ n, n = bs.length := ⟨_, rfl⟩
  have hn20 : n ≤ 20 := by rw [hn]; exact hok.few
  obtain ⟨L, hL⟩ : ∃ L, L = ns.length := ⟨_, rfl⟩
  rw [← hn] at hnc ⊢
  rw [← hL]
  have HN := Lib.hid hn
  have HL := Lib.hid hL
  clear hst hbs hok hnds hV hb5 x6 x7 x8 xM xE hev0 hF hWs hn hL
  go_enter_defers Tryz.func50, Tryz.ntmps50
  go_wp2_with fail
  rw [← hW]
  clear hW
  go_loopw [19] (fun s19 wr => ∃ k' : Nat, k' ≤ n ∧ s19 = .int .i64 k' ∧ EvAt wr (w.heap.size + 1 + 1 + 1 + 1) (w.heap.size + 1 + 1 + 1) S (bs.take k') F ∧ W.grownBy wr (some (w.heap.size + 1 + 1 + 1))) (fun s19 _ => n - (intOf s19).toNat)
  case atStart => exact ⟨0, Nat.zero_le _, rfl, HEV0.out, World.grownBy.refl _ _⟩
  case round =>
    obtain ⟨k', hk, rfl, hev, hgr⟩ := hrel
    have HEV := Lib.hid hev
    have HGR := Lib.hid hgr
    rcases Nat.lt_or_ge k' n with hlt | hge
    · obtain ⟨⟨nm, a⟩, hb⟩ : ∃ b, bs[k']? = some b := ⟨bs[k']'(by rw [← HN.out]; exact hlt), List.getElem?_eq_getElem _⟩
      obtain ⟨g2, rfl, hgl2, hbd⟩ := HBS.out k' _ hb
      obtain ⟨sv, dv, e0, e1, e2, e3, hsi, hdi⟩ := hbd
      have hWs := HWS.out
      have hgs := hgr.size
      have c0 := HGR.out.cell (((bcell HB5.out).1 g2 (k' * 4) hgl2).trans e0) (fun e => by injection e with e; simp at e; omega)
      have c1 := HGR.out.cell (((bcell HB5.out).1 g2 (k' * 4 + 1) hgl2).trans e1) (fun e => by injection e with e; simp at e; omega)
      have c2 := HGR.out.cell (((bcell HB5.out).1 g2 (k' * 4 + 2) hgl2).trans e2) (fun e => by injection e with e; simp at e; omega)
      have c3 := HGR.out.cell (((bcell HB5.out).1 g2 (k' * 4 + 3) hgl2).trans e3) (fun e => by injection e with e; simp at e; omega)
      simp only [] at c0 c1 hsi hdi
      have hsi2 := hsi
      have hdi2 := hdi
      obtain ⟨sA, sc, rfl, -⟩ := hsi
      obtain ⟨dA, dc, rfl, -⟩ := hdi
      have hi1 := (hsi2.mono HB5.out).apart HGR.out (fun ad e hx => by have := hsi2.lt hx e; omega)
      have hi2 := (hdi2.mono HB5.out).apart HGR.out (fun ad e hx => by have := hdi2.lt hx e; omega)
      have har : ArrAt wr S (.agg #[.bool a.ch, .slice sA a.sh.length sc, .slice dA a.da.length dc]) a := ⟨sA, sc, dA, dc, rfl, hi1, hi2, fun ad e hx h => by have := hsi2.lt hx e; have := hSl _ h; omega, fun ad e hx h => by have := hdi2.lt hx e; have := hSl _ h; omega⟩
      have HONCE := Lib.hid (HOK.out.once k' _ hb)
      have HBK := Lib.hid hb
      have hgr2 : g2 < wr.heap.size := by omega
      have hck : ¬ cw = k' := by omega
      have hb1 := below_one wr (.cells #[.string nm, .bool a.ch, .slice sA a.sh.length sc, .slice dA a.da.length dc] 35)
      have HX11 := Lib.hid (Box.new wr 35 #[.string nm, .bool a.ch, .slice sA a.sh.length sc, .slice dA a.da.length dc])
      have HXE := Lib.hid (HEV.out.1.alloc (.cells #[.string nm, .bool a.ch, .slice sA a.sh.length sc, .slice dA a.da.length dc] 35))
      have HEV1 := Lib.hid (HEV.out.below hb1)
      have HAR := Lib.hid (har.below hb1)
      have HB1 := Lib.hid hb1
      have sW1 : wr.heap.size < (wr.alloc (.cells #[.string nm, .bool a.ch, .slice sA a.sh.length sc, .slice dA a.da.length dc] 35)).heap.size := by simp
      clear hb e0 e1 e2 e3 hsi2 hdi2 hi1 hi2 har hb1 hev hgr
      go_wp2_with fail
      obtain ⟨W1, hW1⟩ : ∃ W1, W1 = wr.alloc (.cells #[.string nm, .bool a.ch, .slice sA a.sh.length sc, .slice dA a.da.length dc] 35) := ⟨_, rfl⟩
      rw [← hW1] at HX11 HXE HEV1 HAR HB1 sW1 ⊢
      clear hW1 c0 c1 c2 c3
      have hRel : Rels (fun u0 u1 => u0.grownBy u1 (some (w.heap.size + 1 + 1 + 1))) := rels_block (w.heap.size + 1 + 1 + 1)
      obtain ⟨V, hVe⟩ : ∃ V : Nat → Value → World → Prop, V = fun i v w' => match i with
          | 0 => v = .pointer (some ⟨(w.heap.size + 1 + 1 + 1 + 1), 0, none⟩)
          | 1 => v = .pointer (some ⟨(w.heap.size + 1 + 1 + 1 + 1), 0, none⟩)
          | 2 => v = .pointer (some ⟨(w.heap.size + 1 + 1 + 1 + 1), 0, none⟩)
          | 3 => v = .map (some (w.heap.size + 1 + 1 + 1))
          | 4 => v = .pointer (some ⟨wr.heap.size, 0, none⟩)
          | 5 => v = .string nm
          | 6 => v = .pointer (some ⟨wr.heap.size, 1, none⟩)
          | 7 => v = .agg #[.bool a.ch, .slice sA a.sh.length sc, .slice dA a.da.length dc]
          | _ => True := ⟨_, rfl⟩
      have hVm : ∀ j v w1 w2, V j v w1 → (fun u0 u1 => u0.grownBy u1 (some (w.heap.size + 1 + 1 + 1))) w1 w2 → V j v w2 := by
        intro j v w1 w2 h hr
        subst hVe
        match j, h with
        | 0, h => exact h
        | 1, h => exact h
        | 2, h => exact h
        | 3, h => exact h
        | 4, h => exact h
        | 5, h => exact h
        | 6, h => exact h
        | 7, h => exact h
        | i + 8, _ => trivial
      have hV0 : ∀ v w', V 0 v w' ↔ v = .pointer (some ⟨(w.heap.size + 1 + 1 + 1 + 1), 0, none⟩) := fun _ _ => by subst hVe; rfl
      have hV1 : ∀ v w', V 1 v w' ↔ v = .pointer (some ⟨(w.heap.size + 1 + 1 + 1 + 1), 0, none⟩) := fun _ _ => by subst hVe; rfl
      have hV2 : ∀ v w', V 2 v w' ↔ v = .pointer (some ⟨(w.heap.size + 1 + 1 + 1 + 1), 0, none⟩) := fun _ _ => by subst hVe; rfl
      have hV3 : ∀ v w', V 3 v w' ↔ v = .map (some (w.heap.size + 1 + 1 + 1)) := fun _ _ => by subst hVe; rfl
      have hV4 : ∀ v w', V 4 v w' ↔ v = .pointer (some ⟨wr.heap.size, 0, none⟩) := fun _ _ => by subst hVe; rfl
      have hV5 : ∀ v w', V 5 v w' ↔ v = .string nm := fun _ _ => by subst hVe; rfl
      have hV6 : ∀ v w', V 6 v w' ↔ v = .pointer (some ⟨wr.heap.size, 1, none⟩) := fun _ _ => by subst hVe; rfl
      have hV7 : ∀ v w', V 7 v w' ↔ v = .agg #[.bool a.ch, .slice sA a.sh.length sc, .slice dA a.da.length dc] := fun _ _ => by subst hVe; rfl
      have hV8 : ∀ v w', V 8 v w' := fun _ _ => by subst hVe; trivial
      obtain ⟨St, hSe⟩ : ∃ St : Nat → (Nat → Value) → World → Prop, St = fun s u w' => match s with
          | 0 => EvAt w' (w.heap.size + 1 + 1 + 1 + 1) (w.heap.size + 1 + 1 + 1) S (bs.take k') F
          | 1 => EvAt w' (w.heap.size + 1 + 1 + 1 + 1) (w.heap.size + 1 + 1 + 1) S (bs.take (k' + 1)) F
          | _ => False := ⟨_, rfl⟩
      have hSm : ∀ s u u' w1 w2, (∀ c ∈ [8], u' c = u c) → St s u w1 → Below w1.heap.size w1 w2 → St s u' w2 := by
        intro s u u' w1 w2 hu h hb
        subst hSe
        match s, h with
        | 0, h => exact h.below hb
        | 1, h => exact h.below hb
        | s + 2, h => exact h.elim
      have hS0 : ∀ u w', St 0 u w' ↔ (EvAt w' (w.heap.size + 1 + 1 + 1 + 1) (w.heap.size + 1 + 1 + 1) S (bs.take k') F) := fun _ _ => by subst hSe; rfl
      have hS1 : ∀ u w', St 1 u w' ↔ (EvAt w' (w.heap.size + 1 + 1 + 1 + 1) (w.heap.size + 1 + 1 + 1) S (bs.take (k' + 1)) F) := fun _ _ => by subst hSe; rfl
      clear hVe hSe
      refine wp_region_inv (ChainInv (fun u0 u1 => u0.grownBy u1 (some (w.heap.size + 1 + 1 + 1))) V [8] St W1) (by kernel_rfl) (by kernel_rfl) (by kernel_rfl) ?start ?step ?fin
      case start => exact fun u => ChainInv.start hRel (Below.refl _ _).drew ((hS0 _ _).2 (HEV1.out.below ((Below.refl _ _).drew)))
      case step =>
        simp only [putAll, Act.put, List.setIfInBounds_toArray, List.set_cons_zero, List.set_cons_succ, Nat.reduceAdd, Nat.zero_add]
        intro i o ho done u wr hnd hdep hI K hK
        have hgr := hI.1
        have z11 := Box.grown HX11.out hgr (by intro e; injection e; omega)
        have zE := Box.grown HXE.out hgr (by intro e; injection e; omega)
        have q0 := z11.cell 0
        have q1 := z11.cell 1
        have q2 := z11.cell 2
        have q3 := z11.cell 3
        have qE := zE.cell 0
        have ql := z11.lt
        have qEl := zE.lt
        simp at q0 q1 q2 q3 qE
        clear z11 zE
        match i, ho with
        | 0, ho =>
          simp only [List.getElem?_cons_zero, Option.some.injEq] at ho
          subst ho
          simp only [Act.put, List.setIfInBounds_toArray, List.set_cons_zero, List.set_cons_succ] at hK
          refine wpOp_step rfl fun K' hK' => ?_
          go_simp
          exact hK' _ _ (hK _ _ (hI.quiet hRel hnd (by decide) hVm hSm (Below.refl _ _) ((hV0 _ _).2 rfl)))
        | 1, ho =>
          simp only [List.getElem?_cons_succ, List.getElem?_cons_zero, Option.some.injEq] at ho
          subst ho
          simp only [Act.put, List.setIfInBounds_toArray, List.set_cons_zero, List.set_cons_succ] at hK
          have e0 := (hV0 _ _).1 (hI.know (hdep ⟨0, .data⟩ (by simp) rfl))
          simp only [e0] at hK
          refine wpOp_step rfl fun K' hK' => ?_
          go_simp
          exact hK' _ _ (hK _ _ (hI.quiet hRel hnd (by decide) hVm hSm (Below.refl _ _) ((hV1 _ _).2 rfl)))
        | 2, ho =>
          simp only [List.getElem?_cons_succ, List.getElem?_cons_zero, Option.some.injEq] at ho
          subst ho
          simp only [Act.put, List.setIfInBounds_toArray, List.set_cons_zero, List.set_cons_succ] at hK
          have e1 := (hV1 _ _).1 (hI.know (hdep ⟨1, .data⟩ (by simp) rfl))
          simp only [e1] at hK
          refine wpOp_step rfl fun K' hK' => ?_
          go_simp
          exact hK' _ _ (hK _ _ (hI.quiet hRel hnd (by decide) hVm hSm (Below.refl _ _) ((hV2 _ _).2 rfl)))
        | 3, ho =>
          simp only [List.getElem?_cons_succ, List.getElem?_cons_zero, Option.some.injEq] at ho
          subst ho
          simp only [Act.put, List.setIfInBounds_toArray, List.set_cons_zero, List.set_cons_succ] at hK
          have e2 := (hV2 _ _).1 (hI.know (hdep ⟨2, .data⟩ (by simp) rfl))
          simp only [e2] at hK
          refine wpOp_step rfl fun K' hK' => ?_
          go_simp
          exact hK' _ _ (hK _ _ (hI.quiet hRel hnd (by decide) hVm hSm (Below.refl _ _) ((hV3 _ _).2 rfl)))
        | 4, ho =>
          simp only [List.getElem?_cons_succ, List.getElem?_cons_zero, Option.some.injEq] at ho
          subst ho
          simp only [Act.put, List.setIfInBounds_toArray, List.set_cons_zero, List.set_cons_succ] at hK
          refine wpOp_step rfl fun K' hK' => ?_
          go_simp
          exact hK' _ _ (hK _ _ (hI.quiet hRel hnd (by decide) hVm hSm (Below.refl _ _) ((hV4 _ _).2 rfl)))
        | 5, ho =>
          simp only [List.getElem?_cons_succ, List.getElem?_cons_zero, Option.some.injEq] at ho
          subst ho
          simp only [Act.put, List.setIfInBounds_toArray, List.set_cons_zero, List.set_cons_succ] at hK
          have e4 := (hV4 _ _).1 (hI.know (hdep ⟨4, .data⟩ (by simp) rfl))
          simp only [e4] at hK
          refine wpOp_step rfl fun K' hK' => ?_
          go_simp
          exact hK' _ _ (hK _ _ (hI.quiet hRel hnd (by decide) hVm hSm (Below.refl _ _) ((hV5 _ _).2 rfl)))
        | 6, ho =>
          simp only [List.getElem?_cons_succ, List.getElem?_cons_zero, Option.some.injEq] at ho
          subst ho
          simp only [Act.put, List.setIfInBounds_toArray, List.set_cons_zero, List.set_cons_succ] at hK
          refine wpOp_step rfl fun K' hK' => ?_
          go_simp
          exact hK' _ _ (hK _ _ (hI.quiet hRel hnd (by decide) hVm hSm (Below.refl _ _) ((hV6 _ _).2 rfl)))
        | 7, ho =>
          simp only [List.getElem?_cons_succ, List.getElem?_cons_zero, Option.some.injEq] at ho
          subst ho
          simp only [Act.put, List.setIfInBounds_toArray, List.set_cons_zero, List.set_cons_succ] at hK
          have e6 := (hV6 _ _).1 (hI.know (hdep ⟨6, .data⟩ (by simp) rfl))
          simp only [e6] at hK
          refine wpOp_step rfl fun K' hK' => ?_
          go_simp
          exact hK' _ _ (hK _ _ (hI.quiet hRel hnd (by decide) hVm hSm (Below.refl _ _) ((hV7 _ _).2 rfl)))
        | 8, ho =>
          simp only [List.getElem?_cons_succ, List.getElem?_cons_zero, Option.some.injEq] at ho
          subst ho
          simp only [Act.put, List.setIfInBounds_toArray, List.set_cons_zero, List.set_cons_succ] at hK
          have e3 := (hV3 _ _).1 (hI.know (hdep ⟨3, .data⟩ (by simp) rfl))
          have e5 := (hV5 _ _).1 (hI.know (hdep ⟨5, .data⟩ (by simp) rfl))
          have e7 := (hV7 _ _).1 (hI.know (hdep ⟨7, .data⟩ (by simp) rfl))
          simp only [e3, e5, e7] at hK
          have hs := (hS0 _ _).1 (hI.at_ (k := 0) rfl hnd (.inl rfl))
          obtain ⟨-, -, -, -, -, -, rows, ht, hrn, hrv⟩ := id hs
          obtain ⟨w5, hst5, ht5, hg5⟩ := run_store_tab (P := Tryz.prog) ht Tryz.underlying126 Tryz.underlying9 (tabFind_none hrn HONCE.out) (.agg #[.bool a.ch, .slice sA a.sh.length sc, .slice dA a.da.length dc])
          refine wpOp_step rfl fun K' hK' => ?_
          go_simp
          exact hK' _ _ (hK _ _ (hI.step (v := .nilIface) hRel (k := 0) rfl hnd (.inl rfl) (by decide) hVm (hg5) (hV8 _ _) ((hS1 _ _).2 (hs.add hrn ht5 hg5 HBK.out (hSM) ((HAR.out.grown hgr hSM).grown hg5 hSM) ht hrv))))
        | i + 9, ho => simp at ho
      case fin =>
        simp only [putAll, Act.put, List.setIfInBounds_toArray, List.set_cons_zero, List.set_cons_succ, Nat.reduceAdd, Nat.zero_add]
        intro done u wr hd hI
        simp only [List.length_cons, List.length_nil, Nat.reduceAdd, Nat.zero_add] at hd
        have hS := (hS1 _ _).1 (hI.end_ (fun c hc => hd c (by simp at hc; omega)))
        have hgI := hI.1
        clear hI hd
        go_wp2_with fail
        go_roundw
        case rel => exact ⟨k' + 1, by omega, by go_num, hS, grownBy_trans (grownBy_then HGR.out HB1.out) hgI⟩
        case measure => simp [intOf]; omega
    · have hkn : k' = n := by omega
      subst hkn
      rw [HN.out, List.take_of_length_le (Nat.le_refl _)] at HEV
      have hWs := HWS.out
      have hgs := hgr.size
      have hSTr : Std wr := (HST.out.below HB5.out).grown HGR.out (by omega)
      have hGw := HND.out.2.1
      have hNDr := (HND.out.below HB5.out).grown HGR.out (by omega)
      have HVAL := Lib.hid (HV.out wr ⟨none, 0, 0, 0, 0, none, false, none, 0, 0, none, 0, 0, 0⟩ (w.heap.size + 1 + 1 + 1 + 1) (w.heap.size + 1 + 1 + 1) (f + 1) G g c S hSTr (by have := HEV.out; rwa [HFE.out] at this) hNDr (fun b h => by have := hSl b h; omega) (fun a e => by cases e) ⟨by decide, fun _ => rfl⟩)
      rw [← HL.out] at HVAL
      have Y6 := Lib.hid (Box.grown X6.out HGR.out (by intro e; injection e; omega))
      have Y7 := Lib.hid (Box.grown X7.out HGR.out (by intro e; injection e; omega))
      have Y8 := Lib.hid (Box.grown X8.out HGR.out (by intro e; injection e; omega))
      clear hSTr hNDr hev hgr
      go_wp2_with fail
      refine HVAL.out.mono ?_
      rintro e w2 ⟨v, rfl, hv, hev2, hg2⟩
      obtain ⟨vA, vc, uA, uc, hve, -⟩ := id hv
      subst hve
      have sw2 := hg2.size
      have z6 := Box.grown Y6.out hg2 (by intro e; injection e; omega)
      have z7 := Box.grown Y7.out hg2 (by intro e; injection e; omega)
      have z8 := Box.grown Y8.out hg2 (by intro e; injection e; omega)
      obtain ⟨d0, d1, d2⟩ := Box.three z6
      have f0 := Box.frozen z6 0
      have f1 := Box.frozen z6 1
      have f2 := Box.frozen z6 2
      have dl := z6.lt
      have hg3 := grownBy_three w2 w.heap.size (.bool av.ch) (.slice vA av.sh.length vc) (.slice uA av.da.length uc)
      have HV3 := Lib.hid (ArrAt.off hv hg3 z6)
      have HEV3 := Lib.hid (EvAt.off2 hev2 hg3 z6 (by omega) (by omega))
      have T7 := Lib.hid (Box.grown z7 hg3 (by intro e; injection e; omega))
      have T8 := Lib.hid (Box.grown z8 hg3 (by intro e; injection e; omega))
      have T6 := Lib.hid ((((z6.store 0 (.bool av.ch)).store 1 (.slice vA av.sh.length vc)).store 2 (.slice uA av.da.length uc)))
      have HG2 := Lib.hid hg2
      clear hv hev2 hg2 hg3 z6 z7 z8
      go_wp2_with fail
      refine (step_any HEV3.out).mono ?_
      rintro e w4 ⟨rfl, hev4, hg4⟩
      have hEl4 := hev4.1.lt
      have n6 := Box.grown T6.out hg4 (by intro e; injection e; omega)
      simp at n6
      have N6 := Lib.hid n6
      have N7 := Lib.hid (Box.grown T7.out hg4 (by intro e; injection e; omega))
      have N8 := Lib.hid (Box.grown T8.out hg4 (by intro e; injection e; omega))
      have HE4 := Lib.hid hev4
      have HV4 := Lib.hid ((HV3.out.grown hg4 HEV3.out.2.2.2.1).isArr)
      have hA1 := HB5.out.grown HGR.out HB5.out.size (fun k e => by injection e; omega)
      have hA2 := hA1.grown HG2.out hA1.size (fun k e => by injection e; omega)
      have hA3 := ((hA2.setCell (p := ⟨w.heap.size, 0, none⟩) (Nat.le_refl _) (.bool av.ch)).setCell (p := ⟨w.heap.size, 1, none⟩) (Nat.le_refl _) (.slice vA av.sh.length vc)).setCell (p := ⟨w.heap.size, 2, none⟩) (Nat.le_refl _) (.slice uA av.da.length uc)
      have hA4 := hA3.grown hg4 hA3.size (fun k e => by injection e; omega)
      have HA4 := Lib.hid hA4
      clear hev4 hg4 n6 hA1 hA2 hA3 hA4 d0 d1 d2 f0 f1 f2 dl
      go_wp2_with fail
      have hRel : Rels (fun u0 u1 => u0.heap.size ≤ u1.heap.size ∧ ∀ (b : Nat) (cs : Array Value) (t : TypeId), w.heap.size + 3 ≤ b → Box u0 b t cs → Box u1 b t cs) := ⟨fun hb => ⟨hb.size, fun b cs t _ hx => hx.below hb⟩, fun h h2 => ⟨Nat.le_trans h.1 h2.1, fun b cs t hb hx => h2.2 b cs t hb (h.2 b cs t hb hx)⟩⟩
      obtain ⟨V, hVe⟩ : ∃ V : Nat → Value → World → Prop, V = fun i v w' => match i with
          | 2 => v = .pointer (some ⟨(w.heap.size + 1 + 1 + 1 + 1), 0, none⟩)
          | 3 => v = .pointer (some ⟨(w.heap.size + 1 + 1 + 1 + 1), 0, none⟩)
          | 4 => v = .pointer (some ⟨(w.heap.size + 1 + 1 + 1 + 1), 1, none⟩)
          | 5 => v = .int .i64 f
          | _ => True := ⟨_, rfl⟩
      have hVm : ∀ j v w1 w2, V j v w1 → (fun u0 u1 => u0.heap.size ≤ u1.heap.size ∧ ∀ (b : Nat) (cs : Array Value) (t : TypeId), w.heap.size + 3 ≤ b → Box u0 b t cs → Box u1 b t cs) w1 w2 → V j v w2 := by
        intro j v w1 w2 h hr
        subst hVe
        match j, h with
        | 0, _ => trivial
        | 1, _ => trivial
        | 2, h => exact h
        | 3, h => exact h
        | 4, h => exact h
        | 5, h => exact h
        | i + 6, _ => trivial
      have hV2 : ∀ v w', V 2 v w' ↔ v = .pointer (some ⟨(w.heap.size + 1 + 1 + 1 + 1), 0, none⟩) := fun _ _ => by subst hVe; rfl
      have hV3 : ∀ v w', V 3 v w' ↔ v = .pointer (some ⟨(w.heap.size + 1 + 1 + 1 + 1), 0, none⟩) := fun _ _ => by subst hVe; rfl
      have hV4 : ∀ v w', V 4 v w' ↔ v = .pointer (some ⟨(w.heap.size + 1 + 1 + 1 + 1), 1, none⟩) := fun _ _ => by subst hVe; rfl
      have hV5 : ∀ v w', V 5 v w' ↔ v = .int .i64 f := fun _ _ => by subst hVe; rfl
      have hV0 : ∀ v w', V 0 v w' := fun _ _ => by subst hVe; trivial
      have hV1 : ∀ v w', V 1 v w' := fun _ _ => by subst hVe; trivial
      have hV6 : ∀ v w', V 6 v w' := fun _ _ => by subst hVe; trivial
      have hV7 : ∀ v w', V 7 v w' := fun _ _ => by subst hVe; trivial
      have hV8 : ∀ v w', V 8 v w' := fun _ _ => by subst hVe; trivial
      obtain ⟨St, hSe⟩ : ∃ St : Nat → (Nat → Value) → World → Prop, St = fun s u w' => match s with
          | 0 => IsArr w' (.agg #[.bool av.ch, .slice vA av.sh.length vc, .slice uA av.da.length uc]) av ∧ Box w' w.heap.size 25 #[.bool av.ch, .slice vA av.sh.length vc, .slice uA av.da.length uc] ∧ Box w' (w.heap.size + 1) 3 #[.int .i64 0] ∧ Box w' (w.heap.size + 1 + 1) 29 #[.nilIface] ∧ Below w.heap.size w w'
          | 1 => u 0 = .agg #[.bool av.ch, .slice vA av.sh.length vc, .slice uA av.da.length uc] ∧ IsArr w' (.agg #[.bool av.ch, .slice vA av.sh.length vc, .slice uA av.da.length uc]) av ∧ Box w' w.heap.size 25 #[.bool av.ch, .slice vA av.sh.length vc, .slice uA av.da.length uc] ∧ Box w' (w.heap.size + 1) 3 #[.int .i64 0] ∧ Box w' (w.heap.size + 1 + 1) 29 #[.nilIface] ∧ Below w.heap.size w w'
          | 2 => ∃ A c A2 c2, u 1 = .agg #[.bool av.ch, .slice A av.sh.length c, .slice A2 av.da.length c2] ∧ Owns w' w4.heap.size (.slice A av.sh.length c) av.sh.length av.sh ∧ Owns w' w4.heap.size (.slice A2 av.da.length c2) av.da.length av.da ∧ Box w' w.heap.size 25 #[.bool av.ch, .slice vA av.sh.length vc, .slice uA av.da.length uc] ∧ Box w' (w.heap.size + 1) 3 #[.int .i64 0] ∧ Box w' (w.heap.size + 1 + 1) 29 #[.nilIface] ∧ Below w.heap.size w w'
          | 3 => ∃ A c A2 c2, Owns w' w4.heap.size (.slice A av.sh.length c) av.sh.length av.sh ∧ Owns w' w4.heap.size (.slice A2 av.da.length c2) av.da.length av.da ∧ Box w' w.heap.size 25 #[.bool av.ch, .slice A av.sh.length c, .slice A2 av.da.length c2] ∧ Box w' (w.heap.size + 1) 3 #[.int .i64 0] ∧ Box w' (w.heap.size + 1 + 1) 29 #[.nilIface] ∧ Below w.heap.size w w'
          | 4 => ∃ A c A2 c2, Owns w' w4.heap.size (.slice A av.sh.length c) av.sh.length av.sh ∧ Owns w' w4.heap.size (.slice A2 av.da.length c2) av.da.length av.da ∧ Box w' w.heap.size 25 #[.bool av.ch, .slice A av.sh.length c, .slice A2 av.da.length c2] ∧ Box w' (w.heap.size + 1) 3 #[.int .i64 f] ∧ Box w' (w.heap.size + 1 + 1) 29 #[.nilIface] ∧ Below w.heap.size w w'
          | 5 => ∃ A c A2 c2, Owns w' w4.heap.size (.slice A av.sh.length c) av.sh.length av.sh ∧ Owns w' w4.heap.size (.slice A2 av.da.length c2) av.da.length av.da ∧ Box w' w.heap.size 25 #[.bool av.ch, .slice A av.sh.length c, .slice A2 av.da.length c2] ∧ Box w' (w.heap.size + 1) 3 #[.int .i64 f] ∧ Box w' (w.heap.size + 1 + 1) 29 #[.nilIface] ∧ Below w.heap.size w w'
          | _ => False := ⟨_, rfl⟩
      have hSm : ∀ s u u' w1 w2, (∀ c ∈ [0, 1, 6, 7, 8], u' c = u c) → St s u w1 → Below w1.heap.size w1 w2 → St s u' w2 := by
        intro s u u' w1 w2 hu h hb
        subst hSe
        match s, h with
        | 0, ⟨h1, h2, h3, h4, h5⟩ => exact ⟨h1.mono hb, h2.below hb, h3.below hb, h4.below hb, h5.trans (hb.mono h5.size)⟩
        | 1, ⟨e, h1, h2, h3, h4, h5⟩ => exact ⟨by rw [hu 0 (by decide)]; exact e, h1.mono hb, h2.below hb, h3.below hb, h4.below hb, h5.trans (hb.mono h5.size)⟩
        | 2, ⟨A, c, A2, c2, e, o1, o2, h2, h3, h4, h5⟩ => exact ⟨A, c, A2, c2, by rw [hu 1 (by decide)]; exact e, o1.below hb, o2.below hb, h2.below hb, h3.below hb, h4.below hb, h5.trans (hb.mono h5.size)⟩
        | 3, ⟨A, c, A2, c2, o1, o2, h2, h3, h4, h5⟩ => exact ⟨A, c, A2, c2, o1.below hb, o2.below hb, h2.below hb, h3.below hb, h4.below hb, h5.trans (hb.mono h5.size)⟩
        | 4, ⟨A, c, A2, c2, o1, o2, h2, h3, h4, h5⟩ => exact ⟨A, c, A2, c2, o1.below hb, o2.below hb, h2.below hb, h3.below hb, h4.below hb, h5.trans (hb.mono h5.size)⟩
        | 5, ⟨A, c, A2, c2, o1, o2, h2, h3, h4, h5⟩ => exact ⟨A, c, A2, c2, o1.below hb, o2.below hb, h2.below hb, h3.below hb, h4.below hb, h5.trans (hb.mono h5.size)⟩
        | s + 6, h => exact h.elim
      have hS0 : ∀ u w', St 0 u w' ↔ (IsArr w' (.agg #[.bool av.ch, .slice vA av.sh.length vc, .slice uA av.da.length uc]) av ∧ Box w' w.heap.size 25 #[.bool av.ch, .slice vA av.sh.length vc, .slice uA av.da.length uc] ∧ Box w' (w.heap.size + 1) 3 #[.int .i64 0] ∧ Box w' (w.heap.size + 1 + 1) 29 #[.nilIface] ∧ Below w.heap.size w w') := fun _ _ => by subst hSe; rfl
      have hS1 : ∀ u w', St 1 u w' ↔ (u 0 = .agg #[.bool av.ch, .slice vA av.sh.length vc, .slice uA av.da.length uc] ∧ IsArr w' (.agg #[.bool av.ch, .slice vA av.sh.length vc, .slice uA av.da.length uc]) av ∧ Box w' w.heap.size 25 #[.bool av.ch, .slice vA av.sh.length vc, .slice uA av.da.length uc] ∧ Box w' (w.heap.size + 1) 3 #[.int .i64 0] ∧ Box w' (w.heap.size + 1 + 1) 29 #[.nilIface] ∧ Below w.heap.size w w') := fun _ _ => by subst hSe; rfl
      have hS2 : ∀ u w', St 2 u w' ↔ (∃ A c A2 c2, u 1 = .agg #[.bool av.ch, .slice A av.sh.length c, .slice A2 av.da.length c2] ∧ Owns w' w4.heap.size (.slice A av.sh.length c) av.sh.length av.sh ∧ Owns w' w4.heap.size (.slice A2 av.da.length c2) av.da.length av.da ∧ Box w' w.heap.size 25 #[.bool av.ch, .slice vA av.sh.length vc, .slice uA av.da.length uc] ∧ Box w' (w.heap.size + 1) 3 #[.int .i64 0] ∧ Box w' (w.heap.size + 1 + 1) 29 #[.nilIface] ∧ Below w.heap.size w w') := fun _ _ => by subst hSe; rfl
      have hS3 : ∀ u w', St 3 u w' ↔ (∃ A c A2 c2, Owns w' w4.heap.size (.slice A av.sh.length c) av.sh.length av.sh ∧ Owns w' w4.heap.size (.slice A2 av.da.length c2) av.da.length av.da ∧ Box w' w.heap.size 25 #[.bool av.ch, .slice A av.sh.length c, .slice A2 av.da.length c2] ∧ Box w' (w.heap.size + 1) 3 #[.int .i64 0] ∧ Box w' (w.heap.size + 1 + 1) 29 #[.nilIface] ∧ Below w.heap.size w w') := fun _ _ => by subst hSe; rfl
      have hS4 : ∀ u w', St 4 u w' ↔ (∃ A c A2 c2, Owns w' w4.heap.size (.slice A av.sh.length c) av.sh.length av.sh ∧ Owns w' w4.heap.size (.slice A2 av.da.length c2) av.da.length av.da ∧ Box w' w.heap.size 25 #[.bool av.ch, .slice A av.sh.length c, .slice A2 av.da.length c2] ∧ Box w' (w.heap.size + 1) 3 #[.int .i64 f] ∧ Box w' (w.heap.size + 1 + 1) 29 #[.nilIface] ∧ Below w.heap.size w w') := fun _ _ => by subst hSe; rfl
      have hS5 : ∀ u w', St 5 u w' ↔ (∃ A c A2 c2, Owns w' w4.heap.size (.slice A av.sh.length c) av.sh.length av.sh ∧ Owns w' w4.heap.size (.slice A2 av.da.length c2) av.da.length av.da ∧ Box w' w.heap.size 25 #[.bool av.ch, .slice A av.sh.length c, .slice A2 av.da.length c2] ∧ Box w' (w.heap.size + 1) 3 #[.int .i64 f] ∧ Box w' (w.heap.size + 1 + 1) 29 #[.nilIface] ∧ Below w.heap.size w w') := fun _ _ => by subst hSe; rfl
      clear hVe hSe
      refine wp_region_inv (ChainInv (fun u0 u1 => u0.heap.size ≤ u1.heap.size ∧ ∀ (b : Nat) (cs : Array Value) (t : TypeId), w.heap.size + 3 ≤ b → Box u0 b t cs → Box u1 b t cs) V [0, 1, 6, 7, 8] St w4) (by kernel_rfl) (by kernel_rfl) (by kernel_rfl) ?start ?step ?fin
      case start => exact fun u => ChainInv.start hRel (Below.refl _ _).drew ((hS0 _ _).2 (⟨HV4.out.mono ((Below.refl _ _).drew), N6.out.drew, N7.out.drew, N8.out.drew, HA4.out.drew⟩))
      case step =>
        simp only [putAll, Act.put, List.setIfInBounds_toArray, List.set_cons_zero, List.set_cons_succ, Nat.reduceAdd, Nat.zero_add]
        intro i o ho done u wr hnd hdep hI K hK
        have hsz := hI.1.1
        have zE := hI.1.2 _ _ _ (by omega) HE4.out.1
        have qE := zE.cell 1
        have qEl := zE.lt
        simp at qE
        clear zE
        match i, ho with
        | 0, ho =>
          simp only [List.getElem?_cons_zero, Option.some.injEq] at ho
          subst ho
          simp only [Act.put, List.setIfInBounds_toArray, List.set_cons_zero, List.set_cons_succ] at hK
          obtain ⟨ha, h6, h7, h8, hbl⟩ := (hS0 _ _).1 (hI.at_ (k := 0) rfl hnd (.inl rfl))
          obtain ⟨d0, d1, d2⟩ := Box.three h6
          have dl := h6.lt
          refine wpOp_step rfl fun K' hK' => ?_
          go_simp
          exact hK' _ _ (hK _ _ (hI.step hRel (k := 0) rfl hnd (.inl rfl) (by decide) hVm (hRel.below (Below.refl _ _)) (hV0 _ _) ((hS1 _ _).2 (⟨by rw [upd_same], ha, h6, h7, h8, hbl⟩))))
        | 1, ho =>
          simp only [List.getElem?_cons_succ, List.getElem?_cons_zero, Option.some.injEq] at ho
          subst ho
          simp only [Act.put, List.setIfInBounds_toArray, List.set_cons_zero, List.set_cons_succ] at hK
          obtain ⟨e0, ha, h6, h7, h8, hbl⟩ := (hS1 _ _).1 (hI.at_ (k := 1) rfl hnd (.inr ⟨0, rfl, hdep ⟨0, .data⟩ (by simp) rfl⟩))
          simp only [e0] at hK
          refine wpOp_step rfl fun K' hK' => ?_
          go_simp
          refine (fresh_any ha).mono ?_
          rintro e w5 ⟨A, c, A2, c2, rfl, o1, o2, hb5⟩
          exact hK' _ _ (hK _ _ (hI.step hRel (k := 1) rfl hnd (.inr ⟨0, rfl, hdep ⟨0, .data⟩ (by simp) rfl⟩) (by decide) hVm (hRel.below hb5) (hV1 _ _) ((hS2 _ _).2 (⟨A, c, A2, c2, by rw [upd_same], o1.base hsz, o2.base hsz, h6.below hb5, h7.below hb5, h8.below hb5, hbl.trans (hb5.mono hbl.size)⟩))))
        | 2, ho =>
          simp only [List.getElem?_cons_succ, List.getElem?_cons_zero, Option.some.injEq] at ho
          subst ho
          simp only [Act.put, List.setIfInBounds_toArray, List.set_cons_zero, List.set_cons_succ] at hK
          refine wpOp_step rfl fun K' hK' => ?_
          go_simp
          exact hK' _ _ (hK _ _ (hI.quiet hRel hnd (by decide) hVm hSm (Below.refl _ _) ((hV2 _ _).2 rfl)))
        | 3, ho =>
          simp only [List.getElem?_cons_succ, List.getElem?_cons_zero, Option.some.injEq] at ho
          subst ho
          simp only [Act.put, List.setIfInBounds_toArray, List.set_cons_zero, List.set_cons_succ] at hK
          have e2 := (hV2 _ _).1 (hI.know (hdep ⟨2, .data⟩ (by simp) rfl))
          simp only [e2] at hK
          refine wpOp_step rfl fun K' hK' => ?_
          go_simp
          exact hK' _ _ (hK _ _ (hI.quiet hRel hnd (by decide) hVm hSm (Below.refl _ _) ((hV3 _ _).2 rfl)))
        | 4, ho =>
          simp only [List.getElem?_cons_succ, List.getElem?_cons_zero, Option.some.injEq] at ho
          subst ho
          simp only [Act.put, List.setIfInBounds_toArray, List.set_cons_zero, List.set_cons_succ] at hK
          have e3 := (hV3 _ _).1 (hI.know (hdep ⟨3, .data⟩ (by simp) rfl))
          simp only [e3] at hK
          refine wpOp_step rfl fun K' hK' => ?_
          go_simp
          exact hK' _ _ (hK _ _ (hI.quiet hRel hnd (by decide) hVm hSm (Below.refl _ _) ((hV4 _ _).2 rfl)))
        | 5, ho =>
          simp only [List.getElem?_cons_succ, List.getElem?_cons_zero, Option.some.injEq] at ho
          subst ho
          simp only [Act.put, List.setIfInBounds_toArray, List.set_cons_zero, List.set_cons_succ] at hK
          have e4 := (hV4 _ _).1 (hI.know (hdep ⟨4, .data⟩ (by simp) rfl))
          simp only [e4] at hK
          refine wpOp_step rfl fun K' hK' => ?_
          go_simp
          exact hK' _ _ (hK _ _ (hI.quiet hRel hnd (by decide) hVm hSm (Below.refl _ _) ((hV5 _ _).2 rfl)))
        | 6, ho =>
          simp only [List.getElem?_cons_succ, List.getElem?_cons_zero, Option.some.injEq] at ho
          subst ho
          simp only [Act.put, List.setIfInBounds_toArray, List.set_cons_zero, List.set_cons_succ] at hK
          obtain ⟨A, c, A2, c2, e1, o1, o2, h6, h7, h8, hbl⟩ := (hS2 _ _).1 (hI.at_ (k := 2) rfl hnd (.inr ⟨1, rfl, hdep ⟨1, .data⟩ (by simp) rfl⟩))
          simp only [e1] at hK
          obtain ⟨d0, d1, d2⟩ := Box.three h6
          have f0 := Box.frozen h6 0
          have f1 := Box.frozen h6 1
          have f2 := Box.frozen h6 2
          have dl := h6.lt
          have hg6 := grownBy_three wr w.heap.size (.bool av.ch) (.slice A av.sh.length c) (.slice A2 av.da.length c2)
          have hb6 : Box (((wr.setCell ⟨w.heap.size, 0, none⟩ (.bool av.ch)).setCell ⟨w.heap.size, 1, none⟩ (.slice A av.sh.length c)).setCell ⟨w.heap.size, 2, none⟩ (.slice A2 av.da.length c2)) w.heap.size 25 #[.bool av.ch, .slice A av.sh.length c, .slice A2 av.da.length c2] := by simpa using ((h6.store 0 (.bool av.ch)).store 1 (.slice A av.sh.length c)).store 2 (.slice A2 av.da.length c2)
          have hB6 := ((hbl.setCell (p := ⟨w.heap.size, 0, none⟩) (Nat.le_refl _) (.bool av.ch)).setCell (p := ⟨w.heap.size, 1, none⟩) (Nat.le_refl _) (.slice A av.sh.length c)).setCell (p := ⟨w.heap.size, 2, none⟩) (Nat.le_refl _) (.slice A2 av.da.length c2)
          refine wpOp_step rfl fun K' hK' => ?_
          go_simp
          exact hK' _ _ (hK _ _ (hI.step (v := .nilIface) hRel (k := 2) rfl hnd (.inr ⟨1, rfl, hdep ⟨1, .data⟩ (by simp) rfl⟩) (by decide) hVm (⟨hg6.size, fun b cs t hb hx => hx.grown hg6 (by intro e; injection e; omega)⟩) (hV6 _ _) ((hS3 _ _).2 (⟨A, c, A2, c2, o1.kept hg6 (.inr (o1.ne_low (by omega))), o2.kept hg6 (.inr (o2.ne_low (by omega))), hb6, h7.grown hg6 (by intro e; injection e; omega), h8.grown hg6 (by intro e; injection e; omega), hB6⟩))))
        | 7, ho =>
          simp only [List.getElem?_cons_succ, List.getElem?_cons_zero, Option.some.injEq] at ho
          subst ho
          simp only [Act.put, List.setIfInBounds_toArray, List.set_cons_zero, List.set_cons_succ] at hK
          have e5 := (hV5 _ _).1 (hI.know (hdep ⟨5, .data⟩ (by simp) rfl))
          simp only [e5] at hK
          obtain ⟨A, c, A2, c2, o1, o2, h6, h7, h8, hbl⟩ := (hS3 _ _).1 (hI.at_ (k := 3) rfl hnd (.inr ⟨6, rfl, hdep ⟨6, .chain⟩ (by simp) rfl⟩))
          have d0 := h7.one
          have f0 := Box.frozen h7 0
          have dl := h7.lt
          have hg6 := grownBy_setCell wr (w.heap.size + 1) 0 (.int .i64 f)
          have hb6 : Box (wr.setCell ⟨w.heap.size + 1, 0, none⟩ (.int .i64 f)) (w.heap.size + 1) 3 #[.int .i64 f] := by simpa using h7.store 0 (.int .i64 f)
          have hB6 := hbl.setCell (p := ⟨w.heap.size + 1, 0, none⟩) (by show w.heap.size ≤ w.heap.size + 1; omega) (.int .i64 f)
          refine wpOp_step rfl fun K' hK' => ?_
          go_simp
          exact hK' _ _ (hK _ _ (hI.step (v := .nilIface) hRel (k := 3) rfl hnd (.inr ⟨6, rfl, hdep ⟨6, .chain⟩ (by simp) rfl⟩) (by decide) hVm (⟨hg6.size, fun b cs t hb hx => hx.grown hg6 (by intro e; injection e; omega)⟩) (hV7 _ _) ((hS4 _ _).2 (⟨A, c, A2, c2, o1.kept hg6 (.inr (o1.ne_low (by omega))), o2.kept hg6 (.inr (o2.ne_low (by omega))), h6.grown hg6 (by intro e; injection e; omega), hb6, h8.grown hg6 (by intro e; injection e; omega), hB6⟩))))
        | 8, ho =>
          simp only [List.getElem?_cons_succ, List.getElem?_cons_zero, Option.some.injEq] at ho
          subst ho
          simp only [Act.put, List.setIfInBounds_toArray, List.set_cons_zero, List.set_cons_succ] at hK
          obtain ⟨A, c, A2, c2, o1, o2, h6, h7, h8, hbl⟩ := (hS4 _ _).1 (hI.at_ (k := 4) rfl hnd (.inr ⟨7, rfl, hdep ⟨7, .chain⟩ (by simp) rfl⟩))
          have d0 := h8.one
          have f0 := Box.frozen h8 0
          have dl := h8.lt
          have hg6 := grownBy_setCell wr (w.heap.size + 1 + 1) 0 (.nilIface)
          have hb6 : Box (wr.setCell ⟨w.heap.size + 1 + 1, 0, none⟩ (.nilIface)) (w.heap.size + 1 + 1) 29 #[.nilIface] := by simpa using h8.store 0 (.nilIface)
          have hB6 := hbl.setCell (p := ⟨w.heap.size + 1 + 1, 0, none⟩) (by show w.heap.size ≤ w.heap.size + 1 + 1; omega) (.nilIface)
          refine wpOp_step rfl fun K' hK' => ?_
          go_simp
          exact hK' _ _ (hK _ _ (hI.step (v := .nilIface) hRel (k := 4) rfl hnd (.inr ⟨7, rfl, hdep ⟨7, .chain⟩ (by simp) rfl⟩) (by decide) hVm (⟨hg6.size, fun b cs t hb hx => hx.grown hg6 (by intro e; injection e; omega)⟩) (hV8 _ _) ((hS5 _ _).2 (⟨A, c, A2, c2, o1.kept hg6 (.inr (o1.ne_low (by omega))), o2.kept hg6 (.inr (o2.ne_low (by omega))), h6.grown hg6 (by intro e; injection e; omega), h7.grown hg6 (by intro e; injection e; omega), hb6, hB6⟩))))
        | i + 9, ho => simp at ho
      case fin =>
        simp only [putAll, Act.put, List.setIfInBounds_toArray, List.set_cons_zero, List.set_cons_succ, Nat.reduceAdd, Nat.zero_add]
        intro done u wr hd hI
        simp only [List.length_cons, List.length_nil, Nat.reduceAdd, Nat.zero_add] at hd
        have hS := (hS5 _ _).1 (hI.end_ (fun c hc => hd c (by simp at hc; omega)))
        obtain ⟨A9, c9, A2, c2, o1, o2, h6, h7, h8, hbl⟩ := hS
        obtain ⟨d0, d1, d2⟩ := Box.three h6
        have d3 := h7.one
        have d4 := h8.one
        have l6 := h6.lt
        have l7 := h7.lt
        have l8 := h8.lt
        go_wp2_with fail
        refine leaves_cons (f := 67) (args := #[.pointer (some ⟨w.heap.size, 0, none⟩), .pointer (some ⟨w.heap.size + 1, 0, none⟩), .pointer (some ⟨w.heap.size + 1 + 1, 0, none⟩)]) (by simp) (by simp [go_sem]) ?_
        refine (valueCatch_idle _ _ _ _).mono ?_
        rintro e u' w'' ⟨rfl, rfl, rfl⟩
        simp [Leaves, settle, results, Tryz.results50, go_sem, d0, d1, d2, d3, d4, l6, l7, l8]
        exact ⟨⟨_, _, rfl, o1.isInts, o2.isInts⟩, hbl⟩

end Go.Proofs.YtihndbkaoejnnaaGreatDoor

namespace Go.Proofs.YtihndbkaoejnnaaGreatDoor
open Go Go.RowKit Go.Proofs.YtihndbkaoejnnaaGreatDoor.P

set_option maxRecDepth 100000 in
set_option maxHeartbeats 8000000 in
theorem value_any {w : World} {ws : Value} {bs : List Bd} {ns : List Nd} {G g c f k F : Nat} {av : Arr} (hst : Std w) (hws : WsAt w ws bs) (hok : WsOk bs) (hG : 6 ≤ G) (hnds : NdsAt w G g c ns) (hwk : Walked ns) (hV : ValAt none bs ns 0 k av) (hF : F = f + 1 + k) (hF2 : F ≤ 20000) :
    Calls Tryz.prog 34 #[ws, .slice (some ⟨g, 0, none⟩) ns.length c, .int .i64 F] w fun e w' => ∃ v, e = .returned (.tuple #[v, .int .i64 f, .nilIface]) ∧ IsArr w' v av ∧ Below w.heap.size w w' := by
  have hb0 := below_one w (.cells #[.bool false, .slice none 0 0, .slice none 0 0] 25)
  have HX := Lib.hid (Box.new w 25 #[.bool false, .slice none 0 0, .slice none 0 0])
  have HC := Lib.hid (evalCheck_any (hst.below hb0) (hws.below hb0) hok)
  have HST := Lib.hid hst
  have HWS := Lib.hid hws
  have HOK := Lib.hid hok
  have HND := Lib.hid hnds
  have HWK := Lib.hid hwk
  have HV := Lib.hid hV
  have HF := Lib.hid hF
  have HB0 := Lib.hid hb0
  obtain ⟨x, hx, hx9⟩ := hwk.head
  have hn0 : 0 < ns.length := (List.getElem?_eq_some_iff.1 hx).1
  obtain ⟨nA, nc, n0, -⟩ := hnds.2.2.2.2.2 0 x hx
  simp only [Nat.zero_mul] at n0
  obtain ⟨op, hop⟩ : ∃ op, op = x.op := ⟨_, rfl⟩
  rw [← hop] at n0 hx9
  have hLc := hnds.2.2.1
  have hgl : g < w.heap.size := Nat.lt_of_lt_of_le hnds.1 hnds.2.1
  have e9 : (op == 9) = false := by simpa using hx9
  obtain ⟨L, hL⟩ : ∃ L, L = ns.length := ⟨_, rfl⟩
  rw [← hL] at hn0 hLc ⊢
  have HL := Lib.hid hL
  have N0 := Lib.hid n0
  clear hst hws hok hnds hwk hV hF hx hop hL n0 hb0
  go_enter Tryz.func34, Tryz.ntmps34
  go_wp2_with fail
  refine HC.out.mono ?_
  rintro e w1 ⟨rfl, hb1⟩
  have hbw1 := HB0.out.trans (hb1.mono HB0.out.size)
  have hc2 := treeCheck_any (HST.out.below hbw1) hG (HND.out.below hbw1) HWK.out
  rw [← HL.out] at hc2
  have HC2 := Lib.hid hc2
  have HX1 := Lib.hid (HX.out.below hb1)
  clear hc2 hb1
  go_wp2_with fail
  refine HC2.out.mono ?_
  rintro e w2 ⟨rfl, hb2⟩
  have hbw2 := hbw1.trans (hb2.mono hbw1.size)
  have n0 := ((bcell hbw2).1 g 0 hgl).trans N0.out
  have hgl2 : g < w2.heap.size := Nat.lt_of_lt_of_le hgl hbw2.size
  have hc3 := valueOf_any (HST.out.below hbw2) (HWS.out.below hbw2) HOK.out (HND.out.below hbw2) HV.out HF.out hF2
  rw [← HL.out] at hc3
  have HC3 := Lib.hid hc3
  have HX2 := Lib.hid (HX1.out.below hb2)
  have HBW2 := Lib.hid hbw2
  clear hc3 hb2 hbw1 hbw2
  go_wp2_with fail
  refine HC3.out.mono ?_
  rintro e w3 ⟨v, rfl, hv, hb3⟩
  obtain ⟨s0, d0', rfl, hs, hd⟩ := hv
  have hs1 := hs
  have hd1 := hd
  obtain ⟨sA, sc, rfl, -⟩ := hs
  obtain ⟨dA, dc, rfl, -⟩ := hd
  have hx := HX2.out.below hb3
  obtain ⟨d0, d1, d2⟩ := Box.three hx
  have f0 := Box.frozen hx 0
  have f1 := Box.frozen hx 1
  have f2 := Box.frozen hx 2
  have dl := hx.lt
  have HXX := Lib.hid hx
  have HS := Lib.hid hs1
  have HD := Lib.hid hd1
  have HB3 := Lib.hid (HBW2.out.trans (hb3.mono HBW2.out.size))
  clear hs1 hd1 hb3 hx n0
  go_wp2_with fail
  refine bodyPost_ret (v := .tuple #[.agg #[.bool av.ch, .slice sA av.sh.length sc, .slice dA av.da.length dc], .int .i64 f, .nilIface]) (by simp [results, Tryz.results34, go_sem, d0, d1, d2, f0, f1, f2, dl]) rfl ?_
  have hg3 := grownBy_three w3 w.heap.size (.bool av.ch) (.slice sA av.sh.length sc) (.slice dA av.da.length dc)
  exact ⟨_, rfl, ⟨_, _, rfl, HS.out.off hg3 HXX.out (noInts_arr _ _ _ _ _ _ _), HD.out.off hg3 HXX.out (noInts_arr _ _ _ _ _ _ _)⟩, ((HB3.out.setCell (p := ⟨w.heap.size, 0, none⟩) (Nat.le_refl _) _).setCell (p := ⟨w.heap.size, 1, none⟩) (Nat.le_refl _) _).setCell (p := ⟨w.heap.size, 2, none⟩) (Nat.le_refl _) _⟩

end Go.Proofs.YtihndbkaoejnnaaGreatDoor

namespace Go.Proofs.YtihndbkaoejnnaaGreatDoor
open Go Go.RowKit Go.Proofs.YtihndbkaoejnnaaGreatDoor.P

/-- The function of one part answers this of that. -/
def ActOne (aop af ag : Int) (a b : Arr) : Prop := ∀ (w : World) (S : Nat → Prop) (v : Value), Std w → ArrAt w S v a → (∀ x, S x → x < w.heap.size) →
  Calls Tryz.prog 124 #[.agg #[.int .i64 aop, .int .i64 af, .int .i64 ag], v] w fun e w' => ∃ v', e = .returned (.tuple #[v', .nilIface]) ∧ ArrAt w' S v' b ∧ Below w.heap.size w w'
/-- The function of two parts. -/
def ActTwo (aop af ag : Int) (a1 a2 b : Arr) : Prop := ∀ (w : World) (S : Nat → Prop) (v1 v2 : Value), Std w → ArrAt w S v1 a1 → ArrAt w S v2 a2 → (∀ x, S x → x < w.heap.size) →
  Calls Tryz.prog 123 #[.agg #[.int .i64 aop, .int .i64 af, .int .i64 ag], v1, v2] w fun e w' => ∃ v', e = .returned (.tuple #[v', .nilIface]) ∧ ArrAt w' S v' b ∧ Below w.heap.size w w'
/-- A function's node has this value. -/
def ActedAt (om : Option Env0) (bs : List Bd) (ns : List Nd) (at_ k : Nat) (a : Arr) : Prop := ∀ (w : World) (C : Cl) (E M f G g c : Nat) (S : Nat → Prop), Std w → EvAt w E M S bs (f + k) → NdsAt w G g c ns → (∀ b, S b → G ≤ b) → OmAt w S C om → DeepAt C om →
  Calls Tryz.prog 99 #[.agg #[.slice C.bA C.bn C.bc, .int .i64 C.at_, .int .i64 C.n, .pointer C.al, .bool C.ob, .slice C.oA C.on C.oc, .slice C.pA C.pn C.pc, .int .i64 C.deep, .pointer (some ⟨E, 0, none⟩)], .slice (some ⟨g, 0, none⟩) ns.length c, .int .i64 at_] w (VPost E M f S bs a w)
theorem OmAt.wide {w W : World} {S S' : Nat → Prop} {C : Cl} {om : Option Env0} (h : OmAt w S C om) (hb : Below w.heap.size w W) (hs : ∀ b, S' b → S b ∨ w.heap.size ≤ b) : OmAt W S' C om := fun a e => ((h a e).wide hs).below hb
theorem grownBy_456 (w : World) (b : Nat) (u0 u1 u2 : Value) : w.grownBy (((w.setCell ⟨b, 4, none⟩ u0).setCell ⟨b, 5, none⟩ u1).setCell ⟨b, 6, none⟩ u2) (some b) :=
  grownBy_trans (grownBy_trans (grownBy_setCell _ _ _ _) (grownBy_setCell _ _ _ _)) (grownBy_setCell _ _ _ _)

end Go.Proofs.YtihndbkaoejnnaaGreatDoor

namespace Go.Proofs.YtihndbkaoejnnaaGreatDoor
open Go Go.RowKit Go.Proofs.YtihndbkaoejnnaaGreatDoor.P

/-- A call of this function has this value, in so many steps. -/
def RunAt (env : Env0) (bs : List Bd) (k : Nat) (b : Arr) : Prop := ∀ (w : World) (C : Cl) (E M f : Nat) (S : Nat → Prop), Std w → EvAt w E M S bs (f + k) → env.holds w S C →
  Calls Tryz.prog 121 #[.agg #[.slice C.bA C.bn C.bc, .int .i64 C.at_, .int .i64 C.n, .pointer C.al, .bool C.ob, .slice C.oA C.on C.oc, .slice C.pA C.pn C.pc, .int .i64 C.deep, .pointer (some ⟨E, 0, none⟩)]] w (VPost E M f S bs b w)

set_option maxRecDepth 100000 in
set_option maxHeartbeats 8000000 in
theorem run_any {env : Env0} {bs : List Bd} {k0 k1 q0 q1 : Nat} {z : Int} {b : Arr} (hn : env.n = 1) (hd : env.deep ≤ 50) (hV0 : ValAt (some env) bs env.ns env.p k0 ⟨false, [], [z]⟩) (hk0 : Skips env.ns env.p 1 q0) (hz : (z = 1 ∧ q1 = q0) ∨ (z = 0 ∧ Skips env.ns q0 1 q1)) (hV1 : ValAt (some env) bs env.ns q1 k1 b) : RunAt env bs (k0 + 1 + k1 + 1) b := by
  intro w C E M f S hst hev hh
  obtain ⟨bA, bn, bc, at_, nn, al, ob, oA, on_, oc, pA, pn, pc, deep⟩ := C
  obtain ⟨h1, ⟨G, g, hbA, hbn, hnd, hSG⟩, hat, hcn, hdp⟩ := id hh
  simp only [] at hbA hbn hat hcn hdp hnd ⊢
  rw [hn] at hcn
  subst hbA hbn hat hcn
  have hSE := hev.2.2.2.1
  have hGE := hSG E hSE
  have hE20 : 6 ≤ E := by have := hev.2.1; have := hev.2.2.1; omega
  have hEl := hev.1.lt
  have hd50 : deep ≤ 50 := by omega
  have hc0' := fun (W : World) (S' : Nat → Prop) (F : Nat) (q1 : Std W) (q2 : EvAt W E M S' bs (F + k0)) (q3 : NdsAt W G g bc env.ns) (q4 : env.holds W S' ⟨some ⟨g, 0, none⟩, env.ns.length, bc, env.p, ((1 : Nat) : Int), al, ob, oA, on_, oc, pA, pn, pc, deep⟩) (q5 : ∀ b, S' b → G ≤ b) => hV0 W ⟨some ⟨g, 0, none⟩, env.ns.length, bc, env.p, ((1 : Nat) : Int), al, ob, oA, on_, oc, pA, pn, pc, deep⟩ E M F G g bc S' q1 q2 q3 q5 (fun a e => by cases e; exact q4) ⟨Nat.le_trans hd50 (by decide), fun e => by cases e⟩
  have hc1' := fun (W : World) (S' : Nat → Prop) (F : Nat) (q1 : Std W) (q2 : EvAt W E M S' bs (F + k1)) (q3 : NdsAt W G g bc env.ns) (q4 : env.holds W S' ⟨some ⟨g, 0, none⟩, env.ns.length, bc, env.p, ((1 : Nat) : Int), al, ob, oA, on_, oc, pA, pn, pc, deep⟩) (q5 : ∀ b, S' b → G ≤ b) => hV1 W ⟨some ⟨g, 0, none⟩, env.ns.length, bc, env.p, ((1 : Nat) : Int), al, ob, oA, on_, oc, pA, pn, pc, deep⟩ E M F G g bc S' q1 q2 q3 q5 (fun a e => by cases e; exact q4) ⟨Nat.le_trans hd50 (by decide), fun e => by cases e⟩
  have hSK := fun (W : World) (q3 : NdsAt W G g bc env.ns) => skip_any q3 hk0
  have hSK2 := fun (W : World) (q3 : NdsAt W G g bc env.ns) (h : Skips env.ns q0 1 q1) => skip_any q3 h
  have HH0 := Lib.hid hh
  have HND := Lib.hid hnd
  obtain ⟨L, hL⟩ : ∃ L, L = env.ns.length := ⟨_, rfl⟩
  obtain ⟨p0, hp0⟩ : ∃ p, p = env.p := ⟨_, rfl⟩
  simp only [← hL, ← hp0] at hc0' hc1' hSK ⊢
  simp only [← hL] at hSK2
  simp only [← hL, ← hp0] at HH0
  have HC0 := Lib.hid hc0'
  have HC1 := Lib.hid hc1'
  have HSK := Lib.hid hSK
  have HSKB := Lib.hid hSK2
  have HHZ := Lib.hid hz
  clear hc0' hc1' hSK hSK2 hh h1 hnd hV0 hV1 hL hp0 hdp
  have hx := (Box.new w 131 #[.slice (some ⟨g, 0, none⟩) L bc, .int .i64 p0, .int .i64 1, .pointer al, .bool ob, .slice oA on_ oc, .slice pA pn pc, .int .i64 deep, .pointer (some ⟨E, 0, none⟩)]).alloc (.cells #[.bool false, .slice none 0 0, .slice none 0 0] 25)
  have hy := Box.new (w.alloc (.cells #[.slice (some ⟨g, 0, none⟩) L bc, .int .i64 p0, .int .i64 1, .pointer al, .bool ob, .slice oA on_ oc, .slice pA pn pc, .int .i64 deep, .pointer (some ⟨E, 0, none⟩)] 131)) 25 #[.bool false, .slice none 0 0, .slice none 0 0]
  simp only [World.size_alloc] at hy
  have hb2 := below_two w (.cells #[.slice (some ⟨g, 0, none⟩) L bc, .int .i64 p0, .int .i64 1, .pointer al, .bool ob, .slice oA on_ oc, .slice pA pn pc, .int .i64 deep, .pointer (some ⟨E, 0, none⟩)] 131) (.cells #[.bool false, .slice none 0 0, .slice none 0 0] 25)
  obtain ⟨W, hW⟩ : ∃ W, W = (w.alloc (.cells #[.slice (some ⟨g, 0, none⟩) L bc, .int .i64 p0, .int .i64 1, .pointer al, .bool ob, .slice oA on_ oc, .slice pA pn pc, .int .i64 deep, .pointer (some ⟨E, 0, none⟩)] 131)).alloc (.cells #[.bool false, .slice none 0 0, .slice none 0 0] 25) := ⟨_, rfl⟩
  rw [← hW] at hx hy hb2
  have hWs : W.heap.size = w.heap.size + 2 := by rw [hW]; simp
  obtain ⟨S', hS'⟩ : ∃ S' : Nat → Prop, S' = fun b => S b ∨ (w.heap.size ≤ b ∧ b < W.heap.size) := ⟨_, rfl⟩
  have hSi : ∀ b, S b → S' b := fun b h => by rw [hS']; exact .inl h
  have hSo : ∀ b, S' b → S b ∨ (w.heap.size ≤ b ∧ b < W.heap.size) := fun b h => by rw [hS'] at h; exact h
  have hSGP : ∀ b, S' b → G ≤ b := fun b h => (hSo b h).elim (hSG b) (fun h => Nat.le_trans HND.out.2.1 h.1)
  have hS1 : S' (w.heap.size + 1) := by rw [hS']; exact .inr ⟨by omega, by omega⟩
  have hevW : EvAt W E M S' bs (f + (k1 + 1) + 1 + k0) := by
    have := hev
    rw [show f + (k0 + 1 + k1 + 1) = f + (k1 + 1) + 1 + k0 by omega] at this
    exact this.wide hb2 hSo (hSi _ hSE)
  have hhW := (HH0.out.wide (fun b h => (hSo b h).imp id (fun h => h.1))).below hb2
  have hc0 := HC0.out W S' (f + (k1 + 1) + 1) (hst.below hb2) hevW (HND.out.below hb2) hhW hSGP
  have HCA := Lib.hid hc0
  have HHW := Lib.hid hhW
  have HX := Lib.hid hx
  have HY := Lib.hid hy
  have HB2 := Lib.hid hb2
  have HST := Lib.hid hst
  have HSO := Lib.hid hSo
  have hd1 : ¬ (50 : Int) < (deep : Int) := by omega
  clear hx hy hb2 hst hSo hevW hhW hc0 hev hn hd
  have c1 := HX.out.cell 1
  have c2 := HX.out.cell 2
  have c5 := HX.out.cell 7
  have xl := HX.out.lt
  simp at c1 c2 c5
  go_enter Tryz.func121, Tryz.ntmps121
  go_wp2_with fail
  rw [← hW]
  clear hW c1 c2 c5 hd1 xl
  have HGW := Lib.hid (grownBy_of_below (row := some E) HB2.out (Nat.le_refl _))
  have HEW := Lib.hid (show True from trivial)
  go_loopw [3, 14] (fun s3 s14 wr => (s3 = .int .i64 p0 ∧ s14 = .int .i64 0 ∧ wr = W) ∨ (s3 = .int .i64 q1 ∧ s14 = .int .i64 1 ∧ EvAt wr E M S' bs (f + 1 + k1) ∧ env.holds wr S' ⟨some ⟨g, 0, none⟩, L, bc, p0, ((1 : Nat) : Int), al, ob, oA, on_, oc, pA, pn, pc, deep⟩ ∧ Box wr w.heap.size 131 #[.slice (some ⟨g, 0, none⟩) L bc, .int .i64 p0, .int .i64 1, .pointer al, .bool ob, .slice oA on_ oc, .slice pA pn pc, .int .i64 deep, .pointer (some ⟨E, 0, none⟩)] ∧ Box wr (w.heap.size + 1) 25 #[.bool false, .slice none 0 0, .slice none 0 0] ∧ w.grownBy wr (some E))) (fun _ s14 _ => 1 - (intOf s14).toNat)
  case atStart => exact .inl ⟨rfl, rfl, rfl⟩
  case round =>
    rcases hrel with ⟨rfl, rfl, hrW⟩ | ⟨rfl, rfl, hev, hho, hbx, hby, hgr⟩
    · have hrW2 := hrW.symm
      clear hrW
      subst hrW2
      have t0 := HX.out.cell 0
      have t1 := HX.out.cell 1
      have t2 := HX.out.cell 2
      have t3 := HX.out.cell 3
      have t4 := HX.out.cell 4
      have t5 := HX.out.cell 5
      have t6 := HX.out.cell 6
      have t7 := HX.out.cell 7
      have t8 := HX.out.cell 8
      have xl := HX.out.lt
      simp at t0 t1 t2 t3 t4 t5 t6 t7 t8
      go_wp2_with fail
      refine HCA.out.mono ?_
      rintro e w1 ⟨v, rfl, hv, hev1, hg1⟩
      clear t0 t1 t2 t3 t4 t5 t6 t7 t8
      obtain ⟨sA, sc, dA, dc, rfl, -, hvd, -⟩ := id hv
      have hvd : IsInts w1 (.slice dA 1 dc) [z] := hvd
      obtain ⟨dd, hdd, hdl, hdc⟩ : ∃ dd, dA = some dd ∧ dd.block < w1.heap.size ∧ w1.cell? dd = some (.int .i64 z) := by
        obtain ⟨A, c, e, -, -, -, -, h4⟩ := hvd
        injection e with e1 e2 e3
        obtain ⟨ad, e, h5, h6⟩ := h4 0 z rfl
        rw [addr_zero] at h6
        exact ⟨ad, by rw [e1]; exact e, h5, h6⟩
      subst hdd
      simp only [List.length_cons, List.length_nil, Nat.zero_add]
      have hx1 := HX.out.grown hg1 (by intro e; injection e; omega)
      have hy1 := HY.out.grown hg1 (by intro e; injection e; omega)
      have t0 := hx1.cell 0
      have t8 := hx1.cell 8
      have xl := hx1.lt
      simp at t0 t8
      have HG1 := Lib.hid (grownBy_trans HGW.out hg1)
      have HEV1 := Lib.hid hev1
      have HX1 := Lib.hid hx1
      have HY1 := Lib.hid hy1
      have HV := Lib.hid hv
      have HSK1 := Lib.hid (fun o => HSK.out (w1.alloc o) (((HND.out.below HB2.out).grown hg1 hGE).below (below_one _ o)))
      have HH1 := Lib.hid (HHW.out.grown hg1 (by rw [hS']; exact .inl hSE))
      clear hv hvd hev1 hg1 hx1 hy1 hdc
      go_wp2_with fail
      refine (HSK1.out _).mono ?_
      rintro e w2 ⟨rfl, hb2⟩
      have hbv := (Box.new w1 25 #[.bool false, .slice sA 0 sc, .slice (some dd) 1 dc]).below hb2
      have hb12 := (below_one w1 (.cells #[.bool false, .slice sA 0 sc, .slice (some dd) 1 dc] 25)).trans (hb2.mono (by simp))
      have hx2 := HX1.out.below hb12
      have hy2 := HY1.out.below hb12
      have HSTEP := Lib.hid (step_any (f := f + (k1 + 1)) (HEV1.out.below hb12))
      have HV2 := Lib.hid (HV.out.below hb12)
      have HH2 := Lib.hid (HH1.out.below hb12)
      have HG2 := Lib.hid (grownBy_then HG1.out hb12)
      have HN2 := Lib.hid (show w1.heap.size < w2.heap.size from hbv.lt)
      have HX2 := Lib.hid hx2
      have HY2 := Lib.hid hy2
      have HBV := Lib.hid hbv
      clear t0 t8 xl
      have t8 := hx2.cell 8
      have xl := hx2.lt
      simp at t8
      clear hb2 hb12 hbv hx2 hy2 HX1 HY1
      go_wp2_with fail
      refine HSTEP.out.mono ?_
      rintro e w3 ⟨rfl, hev3, hg3⟩
      have hS'E : S' E := by rw [hS']; exact .inl hSE
      obtain ⟨_, _, _, _, e3, -, hvd3, -⟩ := HV2.out.grown hg3 hS'E
      simp only [Value.agg.injEq] at e3
      have hdc : w3.cell? dd = some (.int .i64 z) := by
        simp at e3
        obtain ⟨-, rfl, rfl⟩ := e3
        obtain ⟨A, c, e, -, -, -, -, h4⟩ := hvd3
        injection e with e1 e2 e3
        obtain ⟨ad, e, h5, h6⟩ := h4 0 z rfl
        rw [addr_zero] at h6
        rw [← e1] at e
        injection e with e
        rw [e]
        exact h6
      have hw1s := HG1.out.size
      have hb3 := HBV.out.grown hg3 (by intro e; injection e; omega)
      have hx3 := HX2.out.grown hg3 (by intro e; injection e; omega)
      have hy3 := HY2.out.grown hg3 (by intro e; injection e; omega)
      obtain ⟨b0, b1, b2⟩ := hb3.three
      have bl := hb3.lt
      have HXX := Lib.hid hx3
      have HYX := Lib.hid hy3
      have HEX := Lib.hid (show EvAt w3 E M S' bs (f + 1 + k1) by rw [show f + 1 + k1 = f + (k1 + 1) by omega]; exact hev3)
      have HGX := Lib.hid (grownBy_trans HG2.out hg3)
      have HSX := Lib.hid (HST.out.grown HGX.out hE20)
      have HNX := Lib.hid (HND.out.grown HGX.out hGE)
      have HHX := Lib.hid (HH2.out.grown hg3 hS'E)
      clear t8 xl hev3 hg3 hvd3 e3
      have t0 := hx3.cell 0
      have t1 := hx3.cell 1
      have t2 := hx3.cell 2
      have t3 := hx3.cell 3
      have t4 := hx3.cell 4
      have t5 := hx3.cell 5
      have t6 := hx3.cell 6
      have t7 := hx3.cell 7
      have t8 := hx3.cell 8
      have xl := hx3.lt
      simp at t0 t1 t2 t3 t4 t5 t6 t7 t8
      clear hx3 hy3 hb3
      rcases HHZ.out with ⟨rfl, rfl⟩ | ⟨rfl, hk1⟩
      · clear HHZ hz
        go_wp2_with fail
        clear t0 t1 t2 t3 t4 t5 t6 t7 t8 xl b0 b1 b2 bl hdc
        refine (HC1.out w3 S' (f + 1) HSX.out HEX.out HNX.out HHX.out hSGP).mono ?_
        rintro e w5 ⟨v5, rfl, hv5, hev5, hg5⟩
        obtain ⟨rA, rc, uA, uc, rfl, -⟩ := id hv5
        have hx5 := HXX.out.grown hg5 (by intro e; injection e; omega)
        have hy5 := HYX.out.grown hg5 (by intro e; injection e; omega)
        have t8 := hx5.cell 8
        have xl := hx5.lt
        simp at t8
        have HG5 := Lib.hid (grownBy_trans HGX.out hg5)
        have HSTEP5 := Lib.hid (step_any (f := f) (hev5.below (below_one w5 (.cells #[.bool b.ch, .slice rA b.sh.length rc, .slice uA b.da.length uc] 25))))
        have HV5 := Lib.hid (hv5.below (below_one w5 (.cells #[.bool b.ch, .slice rA b.sh.length rc, .slice uA b.da.length uc] 25)))
        have HB5 := Lib.hid (Box.new w5 25 #[.bool b.ch, .slice rA b.sh.length rc, .slice uA b.da.length uc])
        have HY5 := Lib.hid (hy5.alloc (.cells #[.bool b.ch, .slice rA b.sh.length rc, .slice uA b.da.length uc] 25))
        have HS5 := Lib.hid hg5.size
        clear hv5 hev5 hg5 hx5 hy5
        go_wp2_with fail
        refine HSTEP5.out.mono ?_
        rintro e w6 ⟨rfl, hev6, hg6⟩
        have hb6 := HB5.out.grown hg6 (by intro e; injection e; omega)
        have hy6 := HY5.out.grown hg6 (by intro e; injection e; omega)
        obtain ⟨b0, b1, b2⟩ := hb6.three
        have bl := hb6.lt
        obtain ⟨d0, d1, d2⟩ := hy6.three
        have f0 := Box.frozen hy6 0
        have f1 := Box.frozen hy6 1
        have f2 := Box.frozen hy6 2
        have dl := hy6.lt
        have HEV6 := Lib.hid hev6
        have HV6 := Lib.hid (HV5.out.grown hg6 (by rw [hS']; exact .inl hSE))
        have HG6 := Lib.hid (grownBy_trans (grownBy_then HG5.out (below_one w5 (.cells #[.bool b.ch, .slice rA b.sh.length rc, .slice uA b.da.length uc] 25))) hg6)
        have Y6 := Lib.hid hy6
        clear hb6 hy6 hev6 hg6 t8 xl
        go_wp2_with fail
        have hg7 := grownBy_three w6 (w.heap.size + 1) (.bool b.ch) (.slice rA b.sh.length rc) (.slice uA b.da.length uc)
        have hb7 := ((Y6.out.store 0 (.bool b.ch)).store 1 (.slice rA b.sh.length rc)).store 2 (.slice uA b.da.length uc)
        simp only [List.setIfInBounds_toArray, List.set_cons_zero, List.set_cons_succ] at hb7
        obtain ⟨d0, d1, d2⟩ := hb7.three
        have dl := hb7.lt
        refine bodyPost_ret (v := .agg #[.bool b.ch, .slice rA b.sh.length rc, .slice uA b.da.length uc]) (by simp [results, Tryz.results121, go_sem, d0, d1, d2, dl]) rfl ?_
        exact ⟨_, rfl, (ArrAt.off HV6.out hg7 Y6.out).wide (fun x h => .inl (by rw [hS']; exact .inl h)), ((HEV6.out).off hg7 Y6.out (by omega)).narrow (fun x h => by rw [hS']; exact .inl h) hSE, grownBy_after HG6.out hg7 (by omega)⟩
      · have HSK2 := Lib.hid (HSKB.out _ HNX.out hk1)
        clear HHZ hz hk1
        go_wp2_with fail
        refine HSK2.out.mono ?_
        rintro e w4 ⟨rfl, hb4⟩
        clear t0 t1 t2 t3 t4 t5 t6 t7 t8 xl b0 b1 b2 bl hdc
        go_wp2_with fail
        go_roundw
        case rel => exact .inr ⟨rfl, rfl, HEX.out.below hb4, HHX.out.below hb4, HXX.out.below hb4, HYX.out.below hb4, grownBy_then HGX.out hb4⟩
        case measure => simp [intOf]
    · have HXX := Lib.hid hbx
      have HYX := Lib.hid hby
      have HEX := Lib.hid hev
      have HGX := Lib.hid hgr
      have HSX := Lib.hid (HST.out.grown hgr hE20)
      have HNX := Lib.hid (HND.out.grown hgr hGE)
      have HHX := Lib.hid hho
      have t0 := hbx.cell 0
      have t1 := hbx.cell 1
      have t2 := hbx.cell 2
      have t3 := hbx.cell 3
      have t4 := hbx.cell 4
      have t5 := hbx.cell 5
      have t6 := hbx.cell 6
      have t7 := hbx.cell 7
      have t8 := hbx.cell 8
      have xl := hbx.lt
      simp at t0 t1 t2 t3 t4 t5 t6 t7 t8
      clear hbx hby hev hgr hho hz HHZ
      go_wp2_with fail
      clear t0 t1 t2 t3 t4 t5 t6 t7 t8 xl
      refine (HC1.out _ S' (f + 1) HSX.out HEX.out HNX.out HHX.out hSGP).mono ?_
      rintro e w5 ⟨v5, rfl, hv5, hev5, hg5⟩
      obtain ⟨rA, rc, uA, uc, rfl, -⟩ := id hv5
      have hx5 := HXX.out.grown hg5 (by intro e; injection e; omega)
      have hy5 := HYX.out.grown hg5 (by intro e; injection e; omega)
      have t8 := hx5.cell 8
      have xl := hx5.lt
      simp at t8
      have HG5 := Lib.hid (grownBy_trans HGX.out hg5)
      have HSTEP5 := Lib.hid (step_any (f := f) (hev5.below (below_one w5 (.cells #[.bool b.ch, .slice rA b.sh.length rc, .slice uA b.da.length uc] 25))))
      have HV5 := Lib.hid (hv5.below (below_one w5 (.cells #[.bool b.ch, .slice rA b.sh.length rc, .slice uA b.da.length uc] 25)))
      have HB5 := Lib.hid (Box.new w5 25 #[.bool b.ch, .slice rA b.sh.length rc, .slice uA b.da.length uc])
      have HY5 := Lib.hid (hy5.alloc (.cells #[.bool b.ch, .slice rA b.sh.length rc, .slice uA b.da.length uc] 25))
      have HS5 := Lib.hid hg5.size
      clear hv5 hev5 hg5 hx5 hy5
      go_wp2_with fail
      refine HSTEP5.out.mono ?_
      rintro e w6 ⟨rfl, hev6, hg6⟩
      have hb6 := HB5.out.grown hg6 (by intro e; injection e; omega)
      have hy6 := HY5.out.grown hg6 (by intro e; injection e; omega)
      obtain ⟨b0, b1, b2⟩ := hb6.three
      have bl := hb6.lt
      obtain ⟨d0, d1, d2⟩ := hy6.three
      have f0 := Box.frozen hy6 0
      have f1 := Box.frozen hy6 1
      have f2 := Box.frozen hy6 2
      have dl := hy6.lt
      have HEV6 := Lib.hid hev6
      have HV6 := Lib.hid (HV5.out.grown hg6 (by rw [hS']; exact .inl hSE))
      have HG6 := Lib.hid (grownBy_trans (grownBy_then HG5.out (below_one w5 (.cells #[.bool b.ch, .slice rA b.sh.length rc, .slice uA b.da.length uc] 25))) hg6)
      have Y6 := Lib.hid hy6
      clear hb6 hy6 hev6 hg6 t8 xl
      go_wp2_with fail
      have hg7 := grownBy_three w6 (w.heap.size + 1) (.bool b.ch) (.slice rA b.sh.length rc) (.slice uA b.da.length uc)
      have hb7 := ((Y6.out.store 0 (.bool b.ch)).store 1 (.slice rA b.sh.length rc)).store 2 (.slice uA b.da.length uc)
      simp only [List.setIfInBounds_toArray, List.set_cons_zero, List.set_cons_succ] at hb7
      obtain ⟨d0, d1, d2⟩ := hb7.three
      have dl := hb7.lt
      refine bodyPost_ret (v := .agg #[.bool b.ch, .slice rA b.sh.length rc, .slice uA b.da.length uc]) (by simp [results, Tryz.results121, go_sem, d0, d1, d2, dl]) rfl ?_
      exact ⟨_, rfl, (ArrAt.off HV6.out hg7 Y6.out).wide (fun x h => .inl (by rw [hS']; exact .inl h)), ((HEV6.out).off hg7 Y6.out (by omega)).narrow (fun x h => by rw [hS']; exact .inl h) hSE, grownBy_after HG6.out hg7 (by omega)⟩

end Go.Proofs.YtihndbkaoejnnaaGreatDoor
