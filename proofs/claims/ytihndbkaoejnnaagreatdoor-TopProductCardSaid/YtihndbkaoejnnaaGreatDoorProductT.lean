/- What the card TopProduct leans on: NodesAt, Walker, TreeCheck, FlatOne, FlatPick, ExprOf, ParseAtom. Conditions: none but those of its theorems. -/
import Derived.Deep.RegionLaw
import Derived.Test.YtihndbkaoejnnaaGreatDoorProductP
import Derived.Test.YtihndbkaoejnnaaGreatDoorProductS
set_option linter.unusedSimpArgs false
set_option linter.unusedVariables false
namespace Go.Proofs.YtihndbkaoejnnaaGreatDoor
open Go Go.RowKit Go.Proofs.YtihndbkaoejnnaaGreatDoor.P

/-- A node's cells lie here; its numbers lie below M. -/
def NdAt (w : World) (M g o : Nat) (x : Nd) : Prop :=
  ∃ A c, w.cell? ⟨g, o, none⟩ = some (.int .i64 x.op) ∧ w.cell? ⟨g, o + 1, none⟩ = some (.int .i64 x.aop) ∧ w.cell? ⟨g, o + 2, none⟩ = some (.int .i64 x.af) ∧ w.cell? ⟨g, o + 3, none⟩ = some (.int .i64 x.ag) ∧ w.cell? ⟨g, o + 4, none⟩ = some (.int .i64 x.n) ∧
    w.cell? ⟨g, o + 5, none⟩ = some (.slice A x.nums.length c) ∧ w.cell? ⟨g, o + 6, none⟩ = some (.string x.text) ∧ IsInts w (.slice A x.nums.length c) x.nums ∧ (∀ ad, A = some ad → ad.block < M)
/-- A list of nodes lies at the head of block g; all of it lies below M. -/
def NdsAt (w : World) (M g c : Nat) (ns : List Nd) : Prop :=
  g < M ∧ M ≤ w.heap.size ∧ ns.length ≤ c ∧ c ≤ 9223372036854775807 ∧ ns.length ≤ 390 ∧ ∀ (i : Nat) (x : Nd), ns[i]? = some x → NdAt w M g (i * 7) x

theorem NdAt.grown {w w' : World} {M g o k : Nat} {x : Nd} (h : NdAt w M g o x) (hg : w.grownBy w' (some k)) (hgM : g < M) (hk : M ≤ k) : NdAt w' M g o x := by
  obtain ⟨A, c, h0, h1, h2, h3, h4, h5, h6, h7, h8⟩ := h
  have K : ∀ j v, w.cell? ⟨g, j, none⟩ = some v → w'.cell? ⟨g, j, none⟩ = some v := fun j v hc => hg.cell hc (fun e => by injection e with e; simp at e; omega)
  exact ⟨A, c, K _ _ h0, K _ _ h1, K _ _ h2, K _ _ h3, K _ _ h4, K _ _ h5, K _ _ h6, h7.grown hg (fun ad n c e => by injection e with e1 e2 e3; have := h8 ad e1; omega), h8⟩
theorem NdsAt.grown {w w' : World} {M g c k : Nat} {ns : List Nd} (h : NdsAt w M g c ns) (hg : w.grownBy w' (some k)) (hk : M ≤ k) : NdsAt w' M g c ns :=
  ⟨h.1, Nat.le_trans h.2.1 hg.size, h.2.2.1, h.2.2.2.1, h.2.2.2.2.1, fun i x hx => (h.2.2.2.2.2 i x hx).grown hg h.1 hk⟩
theorem NdsAt.below {w w' : World} {M g c : Nat} {ns : List Nd} (h : NdsAt w M g c ns) (hb : Below w.heap.size w w') : NdsAt w' M g c ns :=
  h.grown (k := w.heap.size) (grownBy_of_below hb (Nat.le_refl _)) h.2.1

theorem ndsCells_at {w : World} {B : Nat} {us : List Value} {ms : List Nd} (h : NdsCells w B us ms) : us.length = ms.length * 7 ∧ ∀ (i : Nat) (x : Nd), ms[i]? = some x → ∃ vs, NdCells w B vs x ∧ ∀ j, j < 7 → us[i * 7 + j]? = vs[j]? := by
  induction h with
  | nil => exact ⟨rfl, fun i x hx => by simp at hx⟩
  | snoc us vs ms x _ h2 ih =>
    have hl := h2.seven
    refine ⟨by rw [List.length_append, List.length_append, ih.1, hl]; simp; omega, fun i y hy => ?_⟩
    rcases Nat.lt_or_ge i ms.length with hlt | hge
    · rw [List.getElem?_append_left hlt] at hy
      obtain ⟨vs', h3, h4⟩ := ih.2 i y hy
      exact ⟨vs', h3, fun j hj => by rw [List.getElem?_append_left (by rw [ih.1]; omega)]; exact h4 j hj⟩
    · have hi : i = ms.length := by have := (List.getElem?_eq_some_iff.1 hy).1; simp at this; omega
      subst hi
      simp at hy
      subst hy
      exact ⟨vs, h2, fun j hj => by rw [List.getElem?_append_right (by rw [ih.1]; omega), ih.1]; congr 1; omega⟩
theorem ToList.at_ {w : World} {B : Nat} {tv : Value} {ns : List Nd} (h : ToList w B tv ns) (h0 : 0 < ns.length) (hl : ns.length ≤ 390) : ∃ g c, tv = .slice (some ⟨g, 0, none⟩) ns.length c ∧ B ≤ g ∧ NdsAt w w.heap.size g c ns := by
  obtain ⟨us, ho, hcs⟩ := h
  obtain ⟨e1, e2⟩ := ndsCells_at hcs
  rcases ho.2 with ⟨rfl, e⟩ | ⟨g, cap, cur, rfl, hb, hg, hnc, hm, _⟩
  · omega
  · have hgl := (Array.getElem?_eq_some_iff.1 hg).1
    refine ⟨g, cap, rfl, hb, hgl, Nat.le_refl _, hnc, by unfold maxLen at hm; omega, hl, fun i x hx => ?_⟩
    obtain ⟨vs, hvs, hj⟩ := e2 i x hx
    obtain ⟨v, rfl, hv⟩ := hvs
    obtain ⟨A, c, rfl, f1, f2, f3, f4⟩ := hv.form
    have K : ∀ j u, j < 7 → ([.int .i64 x.op, .int .i64 x.aop, .int .i64 x.af, .int .i64 x.ag, .int .i64 x.n, .slice A x.nums.length c, .string x.text] : List Value)[j]? = some u → w.cell? ⟨g, i * 7 + j, none⟩ = some u := fun j u hj7 hu => by
      have := ho.cells (g := g) rfl (i * 7 + j) u (by rw [hj j hj7]; exact hu)
      have e : (⟨g, 0, none⟩ : Addr).add (i * 7 + j) = ⟨g, i * 7 + j, none⟩ := by unfold Addr.add; split <;> simp_all
      rwa [e] at this
    refine ⟨A, c, K 0 _ (by omega) rfl, K 1 _ (by omega) rfl, K 2 _ (by omega) rfl, K 3 _ (by omega) rfl, K 4 _ (by omega) rfl, K 5 _ (by omega) rfl, K 6 _ (by omega) rfl, hv.isInts, fun ad e => (f4 ad e).2.2.2⟩

/-- The walker's block: the nodes, the place, how deep. -/
def WAt (w : World) (K M g c : Nat) (ns : List Nd) (at_ wi : Nat) : Prop :=
  Box w K 166 #[.slice (some ⟨g, 0, none⟩) ns.length c, .int .i64 at_, .int .i64 wi] ∧ M ≤ K ∧ NdsAt w M g c ns ∧ at_ ≤ ns.length ∧ wi ≤ 100
theorem WAt.move {w w' : World} {K M g c : Nat} {ns : List Nd} {at_ wi at' wi' : Nat} (h : WAt w K M g c ns at_ wi) (hg : w.grownBy w' (some K)) (hb : Box w' K 166 #[.slice (some ⟨g, 0, none⟩) ns.length c, .int .i64 at', .int .i64 wi']) (ha : at' ≤ ns.length) (hw : wi' ≤ 100) : WAt w' K M g c ns at' wi' :=
  ⟨hb, h.2.1, h.2.2.1.grown hg h.2.1, ha, hw⟩
theorem WAt.below {w w' : World} {K M g c : Nat} {ns : List Nd} {at_ wi : Nat} (h : WAt w K M g c ns at_ wi) (hb : Below w.heap.size w w') : WAt w' K M g c ns at_ wi :=
  h.move (grownBy_of_below hb (Nat.le_refl _)) (h.1.below hb) h.2.2.2.1 h.2.2.2.2
theorem WAt.drewN {w : World} {K M g c : Nat} {ns : List Nd} {at_ wi : Nat} (h : WAt w K M g c ns at_ wi) (n : Nat) : WAt (w.drewN n) K M g c ns at_ wi := h.below (below_draws _ _ _)
theorem WAt.next {w : World} {K M g c : Nat} {ns : List Nd} {at_ wi : Nat} (h : WAt w K M g c ns at_ wi) (hl : at_ < ns.length) : WAt (w.setCell ⟨K, 1, none⟩ (.int .i64 (at_ + 1 : Nat))) K M g c ns (at_ + 1) wi :=
  h.move (grownBy_setCell _ _ _ _) (by simpa using h.1.store 1 (.int .i64 (at_ + 1 : Nat))) (by omega) h.2.2.2.2

/-- A node that is right. -/
def RightNd (x : Nd) : Prop := ∀ (w : World) (A : Option Addr) (c : Nat), Std w →
  Calls Tryz.prog 96 #[.agg #[.int .i64 x.op, .int .i64 x.aop, .int .i64 x.af, .int .i64 x.ag, .int .i64 x.n, .slice A x.nums.length c, .string x.text]] w fun e w' => e = .returned (.bool true) ∧ Below w.heap.size w w'
theorem rightNd_nums {xs : List Int} (h : 0 < xs.length) : RightNd ⟨1, 0, 0, 0, 0, xs, ⟨#[]⟩⟩ := fun w A c _ => right_nums h
theorem rightNd_var {s : ByteArray} (h : NameOk s) : RightNd ⟨3, 0, 0, 0, 0, [], s⟩ := fun w A c hst => right_var hst h
theorem rightNd_arg : RightNd ⟨5, 0, 0, 0, 0, [], ⟨#[]⟩⟩ := fun w A c _ => right_arg
theorem rightNd_act {op aop af ag n : Int} (hop : op = 6 ∨ op = 7) (ha : ActOk aop af ag) (hn : 0 ≤ n) (hn2 : n = 0 ∨ aop = 6) : RightNd ⟨op, aop, af, ag, n, [], ⟨#[]⟩⟩ := fun w A c _ => right_act hop ha hn hn2

end Go.Proofs.YtihndbkaoejnnaaGreatDoor

namespace Go.Proofs.YtihndbkaoejnnaaGreatDoor
open Go Go.RowKit Go.Proofs.YtihndbkaoejnnaaGreatDoor.P

theorem rels_below : Rels (fun w w' => Below w.heap.size w w') := ⟨fun h => h, fun h h2 => h.trans (h2.mono h.size)⟩

/-- An expression of the tree is walked over. -/
def WPost (K M g c : Nat) (ns : List Nd) (at' wi : Nat) (w : World) (e : Ending) (w' : World) : Prop := ∃ T u, e = .returned (.iface T u) ∧ WAt w' K M g c ns at' wi ∧ w.grownBy w' (some K)
def WExpr (ns : List Nd) (at_ wi at' : Nat) : Prop := ∀ (w : World) (K M g c : Nat), Std w → 6 ≤ K → WAt w K M g c ns at_ wi → Calls Tryz.prog 97 #[.pointer (some ⟨K, 0, none⟩)] w (WPost K M g c ns at' wi w)


set_option maxRecDepth 100000 in
set_option maxHeartbeats 8000000 in
theorem w_nums {ns : List Nd} {at_ wi : Nat} {xs : List Int} (hx : ns[at_]? = some ⟨1, 0, 0, 0, 0, xs, ⟨#[]⟩⟩) (hr : RightNd ⟨1, 0, 0, 0, 0, xs, ⟨#[]⟩⟩)  : WExpr ns at_ wi (at_ + 1) := by
  intro w K M g c hst hK20 h
  have hm := mixedZ
  have hlt : at_ < ns.length := (List.getElem?_eq_some_iff.1 hx).1
  have HW := Lib.hid h
  have HST := Lib.hid hst
  have HRT := Lib.hid hr
  obtain ⟨hbox, hMK, hnds, hal, hwi⟩ := h
  obtain ⟨nA, nc, n0, n1, n2, n3, n4, n5, n6, n7, n8⟩ := hnds.2.2.2.2.2 at_ _ hx
  have hgM := hnds.1
  have hMs := hnds.2.1
  have hL390 := hnds.2.2.2.2.1
  have hLc := hnds.2.2.1
  have hKl := hbox.lt
  have hgl : g < w.heap.size := by omega
  obtain ⟨c0, c1, c2⟩ := Box.three hbox
  have cf := Box.frozen hbox 1
  have cf2 := Box.frozen hbox 2
  obtain ⟨L, hL⟩ : ∃ L, L = ns.length := ⟨_, rfl⟩
  rw [← hL] at c0 hlt hal hL390 hLc
  have HL := Lib.hid hL
  have HN7 := Lib.hid n7
  have HBW := Lib.hid (Below.refl w.heap.size w)
  clear hbox hnds hst hr n7 n8 hL
  simp only [] at n0 n1 n2 n3 n4 n5 n6
  go_enter Tryz.func97, Tryz.ntmps97
  go_wp2_with fail
  have hRel : Rels (fun w w' => Below w.heap.size w w') := rels_below
  obtain ⟨V, hVe⟩ : ∃ V : Nat → Value → World → Prop, V = fun i v w' => match i with
      | 0 => v = .pointer (some ⟨K, 0, none⟩)
      | 1 => v = .pointer (some ⟨K, 0, none⟩)
      | 2 => v = .pointer (some ⟨K, 1, none⟩)
      | 3 => v = .int .i64 at_
      | 4 => v = .pointer (some ⟨K, 0, none⟩)
      | 5 => v = .pointer (some ⟨K, 0, none⟩)
      | 6 => v = .pointer (some ⟨K, 0, none⟩)
      | 7 => v = .slice (some ⟨g, 0, none⟩) L c
      | 8 => v = .int .i64 L
      | 9 => v = .bool false
      | 10 => v = .bool false
      | 11 => v = .pointer (some ⟨K, 0, none⟩)
      | 12 => v = .pointer (some ⟨K, 0, none⟩)
      | 13 => v = .pointer (some ⟨K, 0, none⟩)
      | 14 => v = .slice (some ⟨g, 0, none⟩) L c
      | 15 => v = .pointer (some ⟨K, 0, none⟩)
      | 16 => v = .pointer (some ⟨K, 0, none⟩)
      | 17 => v = .pointer (some ⟨K, 1, none⟩)
      | 18 => v = .int .i64 at_
      | 19 => v = .pointer (some ⟨g, at_ * 7, none⟩)
      | 20 => v = .agg #[.int .i64 1, .int .i64 0, .int .i64 0, .int .i64 0, .int .i64 0, .slice nA xs.length nc, .string ⟨#[]⟩]
      | 21 => v = .bool true
      | 22 => v = .bool false
      | 23 => v = .bool false
      | _ => True := ⟨_, rfl⟩
  have hVm : ∀ j v w1 w2, V j v w1 → (fun w w' => Below w.heap.size w w') w1 w2 → V j v w2 := by
    intro j v w1 w2 h hr
    subst hVe
    match j, h with
    | 0, h => exact h
    | 1, h => exact h
    | 2, h => exact h
    | 3, h => exact h
    | 4, h => exact h
    | 5, h => exact h
    | 6, h => exact h
    | 7, h => exact h
    | 8, h => exact h
    | 9, h => exact h
    | 10, h => exact h
    | 11, h => exact h
    | 12, h => exact h
    | 13, h => exact h
    | 14, h => exact h
    | 15, h => exact h
    | 16, h => exact h
    | 17, h => exact h
    | 18, h => exact h
    | 19, h => exact h
    | 20, h => exact h
    | 21, h => exact h
    | 22, h => exact h
    | 23, h => exact h
    | i + 24, _ => trivial
  have hV0 : ∀ v w', V 0 v w' ↔ v = .pointer (some ⟨K, 0, none⟩) := fun _ _ => by subst hVe; rfl
  have hV1 : ∀ v w', V 1 v w' ↔ v = .pointer (some ⟨K, 0, none⟩) := fun _ _ => by subst hVe; rfl
  have hV2 : ∀ v w', V 2 v w' ↔ v = .pointer (some ⟨K, 1, none⟩) := fun _ _ => by subst hVe; rfl
  have hV3 : ∀ v w', V 3 v w' ↔ v = .int .i64 at_ := fun _ _ => by subst hVe; rfl
  have hV4 : ∀ v w', V 4 v w' ↔ v = .pointer (some ⟨K, 0, none⟩) := fun _ _ => by subst hVe; rfl
  have hV5 : ∀ v w', V 5 v w' ↔ v = .pointer (some ⟨K, 0, none⟩) := fun _ _ => by subst hVe; rfl
  have hV6 : ∀ v w', V 6 v w' ↔ v = .pointer (some ⟨K, 0, none⟩) := fun _ _ => by subst hVe; rfl
  have hV7 : ∀ v w', V 7 v w' ↔ v = .slice (some ⟨g, 0, none⟩) L c := fun _ _ => by subst hVe; rfl
  have hV8 : ∀ v w', V 8 v w' ↔ v = .int .i64 L := fun _ _ => by subst hVe; rfl
  have hV9 : ∀ v w', V 9 v w' ↔ v = .bool false := fun _ _ => by subst hVe; rfl
  have hV10 : ∀ v w', V 10 v w' ↔ v = .bool false := fun _ _ => by subst hVe; rfl
  have hV11 : ∀ v w', V 11 v w' ↔ v = .pointer (some ⟨K, 0, none⟩) := fun _ _ => by subst hVe; rfl
  have hV12 : ∀ v w', V 12 v w' ↔ v = .pointer (some ⟨K, 0, none⟩) := fun _ _ => by subst hVe; rfl
  have hV13 : ∀ v w', V 13 v w' ↔ v = .pointer (some ⟨K, 0, none⟩) := fun _ _ => by subst hVe; rfl
  have hV14 : ∀ v w', V 14 v w' ↔ v = .slice (some ⟨g, 0, none⟩) L c := fun _ _ => by subst hVe; rfl
  have hV15 : ∀ v w', V 15 v w' ↔ v = .pointer (some ⟨K, 0, none⟩) := fun _ _ => by subst hVe; rfl
  have hV16 : ∀ v w', V 16 v w' ↔ v = .pointer (some ⟨K, 0, none⟩) := fun _ _ => by subst hVe; rfl
  have hV17 : ∀ v w', V 17 v w' ↔ v = .pointer (some ⟨K, 1, none⟩) := fun _ _ => by subst hVe; rfl
  have hV18 : ∀ v w', V 18 v w' ↔ v = .int .i64 at_ := fun _ _ => by subst hVe; rfl
  have hV19 : ∀ v w', V 19 v w' ↔ v = .pointer (some ⟨g, at_ * 7, none⟩) := fun _ _ => by subst hVe; rfl
  have hV20 : ∀ v w', V 20 v w' ↔ v = .agg #[.int .i64 1, .int .i64 0, .int .i64 0, .int .i64 0, .int .i64 0, .slice nA xs.length nc, .string ⟨#[]⟩] := fun _ _ => by subst hVe; rfl
  have hV21 : ∀ v w', V 21 v w' ↔ v = .bool true := fun _ _ => by subst hVe; rfl
  have hV22 : ∀ v w', V 22 v w' ↔ v = .bool false := fun _ _ => by subst hVe; rfl
  have hV23 : ∀ v w', V 23 v w' ↔ v = .bool false := fun _ _ => by subst hVe; rfl
  obtain ⟨St, hSe⟩ : ∃ St : Nat → (Nat → Value) → World → Prop, St = fun s u w' => match s with
      | 0 => True
      | _ => False := ⟨_, rfl⟩
  have hSm : ∀ s u u' w1 w2, (∀ c ∈ [], u' c = u c) → St s u w1 → Below w1.heap.size w1 w2 → St s u' w2 := by
    intro s u u' w1 w2 hu h hb
    subst hSe
    match s, h with
    | 0, h => trivial
    | s + 1, h => exact h.elim
  have hS0 : ∀ u w', St 0 u w' ↔ (True) := fun _ _ => by subst hSe; rfl
  clear hVe hSe
  refine wp_region_inv (ChainInv (fun w w' => Below w.heap.size w w') V [] St w) (by kernel_rfl) (by kernel_rfl) (by kernel_rfl) ?start ?step ?fin
  case start => exact fun u => ChainInv.start hRel (Below.refl _ _).drew ((hS0 _ _).2 (trivial))
  case step =>
    simp only [putAll, Act.put, List.setIfInBounds_toArray, List.set_cons_zero, List.set_cons_succ, Nat.reduceAdd, Nat.zero_add]
    intro i o ho done u wr hnd hdep hI K hK
    obtain ⟨hcw, hfw⟩ := bcell hI.1
    match i, ho with
    | 0, ho =>
      simp only [List.getElem?_cons_zero, Option.some.injEq] at ho
      subst ho
      simp only [Act.put, List.setIfInBounds_toArray, List.set_cons_zero, List.set_cons_succ] at hK
      refine wpOp_step rfl fun K' hK' => ?_
      go_simp
      exact hK' _ _ (hK _ _ (hI.quiet hRel hnd (by decide) hVm hSm (Below.refl _ _) ((hV0 _ _).2 rfl)))
    | 1, ho =>
      simp only [List.getElem?_cons_succ, List.getElem?_cons_zero, Option.some.injEq] at ho
      subst ho
      simp only [Act.put, List.setIfInBounds_toArray, List.set_cons_zero, List.set_cons_succ] at hK
      have e0 := (hV0 _ _).1 (hI.know (hdep ⟨0, .data⟩ (by simp) rfl))
      simp only [e0] at hK
      refine wpOp_step rfl fun K' hK' => ?_
      go_simp
      exact hK' _ _ (hK _ _ (hI.quiet hRel hnd (by decide) hVm hSm (Below.refl _ _) ((hV1 _ _).2 rfl)))
    | 2, ho =>
      simp only [List.getElem?_cons_succ, List.getElem?_cons_zero, Option.some.injEq] at ho
      subst ho
      simp only [Act.put, List.setIfInBounds_toArray, List.set_cons_zero, List.set_cons_succ] at hK
      have e1 := (hV1 _ _).1 (hI.know (hdep ⟨1, .data⟩ (by simp) rfl))
      simp only [e1] at hK
      refine wpOp_step rfl fun K' hK' => ?_
      go_simp
      exact hK' _ _ (hK _ _ (hI.quiet hRel hnd (by decide) hVm hSm (Below.refl _ _) ((hV2 _ _).2 rfl)))
    | 3, ho =>
      simp only [List.getElem?_cons_succ, List.getElem?_cons_zero, Option.some.injEq] at ho
      subst ho
      simp only [Act.put, List.setIfInBounds_toArray, List.set_cons_zero, List.set_cons_succ] at hK
      have e2 := (hV2 _ _).1 (hI.know (hdep ⟨2, .data⟩ (by simp) rfl))
      simp only [e2] at hK
      refine wpOp_step rfl fun K' hK' => ?_
      go_simp
      exact hK' _ _ (hK _ _ (hI.quiet hRel hnd (by decide) hVm hSm (Below.refl _ _) ((hV3 _ _).2 rfl)))
    | 4, ho =>
      simp only [List.getElem?_cons_succ, List.getElem?_cons_zero, Option.some.injEq] at ho
      subst ho
      simp only [Act.put, List.setIfInBounds_toArray, List.set_cons_zero, List.set_cons_succ] at hK
      refine wpOp_step rfl fun K' hK' => ?_
      go_simp
      exact hK' _ _ (hK _ _ (hI.quiet hRel hnd (by decide) hVm hSm (Below.refl _ _) ((hV4 _ _).2 rfl)))
    | 5, ho =>
      simp only [List.getElem?_cons_succ, List.getElem?_cons_zero, Option.some.injEq] at ho
      subst ho
      simp only [Act.put, List.setIfInBounds_toArray, List.set_cons_zero, List.set_cons_succ] at hK
      have e4 := (hV4 _ _).1 (hI.know (hdep ⟨4, .data⟩ (by simp) rfl))
      simp only [e4] at hK
      refine wpOp_step rfl fun K' hK' => ?_
      go_simp
      exact hK' _ _ (hK _ _ (hI.quiet hRel hnd (by decide) hVm hSm (Below.refl _ _) ((hV5 _ _).2 rfl)))
    | 6, ho =>
      simp only [List.getElem?_cons_succ, List.getElem?_cons_zero, Option.some.injEq] at ho
      subst ho
      simp only [Act.put, List.setIfInBounds_toArray, List.set_cons_zero, List.set_cons_succ] at hK
      have e5 := (hV5 _ _).1 (hI.know (hdep ⟨5, .data⟩ (by simp) rfl))
      simp only [e5] at hK
      refine wpOp_step rfl fun K' hK' => ?_
      go_simp
      exact hK' _ _ (hK _ _ (hI.quiet hRel hnd (by decide) hVm hSm (Below.refl _ _) ((hV6 _ _).2 rfl)))
    | 7, ho =>
      simp only [List.getElem?_cons_succ, List.getElem?_cons_zero, Option.some.injEq] at ho
      subst ho
      simp only [Act.put, List.setIfInBounds_toArray, List.set_cons_zero, List.set_cons_succ] at hK
      have e6 := (hV6 _ _).1 (hI.know (hdep ⟨6, .data⟩ (by simp) rfl))
      simp only [e6] at hK
      refine wpOp_step rfl fun K' hK' => ?_
      go_simp
      exact hK' _ _ (hK _ _ (hI.quiet hRel hnd (by decide) hVm hSm (Below.refl _ _) ((hV7 _ _).2 rfl)))
    | 8, ho =>
      simp only [List.getElem?_cons_succ, List.getElem?_cons_zero, Option.some.injEq] at ho
      subst ho
      simp only [Act.put, List.setIfInBounds_toArray, List.set_cons_zero, List.set_cons_succ] at hK
      have e7 := (hV7 _ _).1 (hI.know (hdep ⟨7, .data⟩ (by simp) rfl))
      simp only [e7] at hK
      refine wpOp_step rfl fun K' hK' => ?_
      go_simp
      exact hK' _ _ (hK _ _ (hI.quiet hRel hnd (by decide) hVm hSm (Below.refl _ _) ((hV8 _ _).2 rfl)))
    | 9, ho =>
      simp only [List.getElem?_cons_succ, List.getElem?_cons_zero, Option.some.injEq] at ho
      subst ho
      simp only [Act.put, List.setIfInBounds_toArray, List.set_cons_zero, List.set_cons_succ] at hK
      have e3 := (hV3 _ _).1 (hI.know (hdep ⟨3, .data⟩ (by simp) rfl))
      have e8 := (hV8 _ _).1 (hI.know (hdep ⟨8, .data⟩ (by simp) rfl))
      simp only [e3, e8] at hK
      refine wpOp_step rfl fun K' hK' => ?_
      go_simp
      exact hK' _ _ (hK _ _ (hI.quiet hRel hnd (by decide) hVm hSm (Below.refl _ _) ((hV9 _ _).2 (by simp; omega))))
    | 10, ho =>
      simp only [List.getElem?_cons_succ, List.getElem?_cons_zero, Option.some.injEq] at ho
      subst ho
      simp only [Act.put, List.setIfInBounds_toArray, List.set_cons_zero, List.set_cons_succ] at hK
      have e9 := (hV9 _ _).1 (hI.know (hdep ⟨9, .data⟩ (by simp) rfl))
      simp only [e9] at hK
      refine wpOp_step rfl fun K' hK' => ?_
      go_simp
      exact hK' _ _ (hK _ _ (hI.quiet hRel hnd (by decide) hVm hSm (Below.refl _ _) ((hV10 _ _).2 rfl)))
    | 11, ho =>
      simp only [List.getElem?_cons_succ, List.getElem?_cons_zero, Option.some.injEq] at ho
      subst ho
      simp only [Act.put, List.setIfInBounds_toArray, List.set_cons_zero, List.set_cons_succ] at hK
      have e10 := (hV10 _ _).1 (hI.know (hdep ⟨10, .guard⟩ (by simp) rfl))
      simp only [e10] at hK
      refine wpOp_step rfl fun K' hK' => ?_
      go_simp
      exact hK' _ _ (hK _ _ (hI.quiet hRel hnd (by decide) hVm hSm (Below.refl _ _) ((hV11 _ _).2 rfl)))
    | 12, ho =>
      simp only [List.getElem?_cons_succ, List.getElem?_cons_zero, Option.some.injEq] at ho
      subst ho
      simp only [Act.put, List.setIfInBounds_toArray, List.set_cons_zero, List.set_cons_succ] at hK
      have e11 := (hV11 _ _).1 (hI.know (hdep ⟨11, .data⟩ (by simp) rfl))
      have e10 := (hV10 _ _).1 (hI.know (hdep ⟨10, .guard⟩ (by simp) rfl))
      simp only [e11, e10] at hK
      refine wpOp_step rfl fun K' hK' => ?_
      go_simp
      exact hK' _ _ (hK _ _ (hI.quiet hRel hnd (by decide) hVm hSm (Below.refl _ _) ((hV12 _ _).2 rfl)))
    | 13, ho =>
      simp only [List.getElem?_cons_succ, List.getElem?_cons_zero, Option.some.injEq] at ho
      subst ho
      simp only [Act.put, List.setIfInBounds_toArray, List.set_cons_zero, List.set_cons_succ] at hK
      have e12 := (hV12 _ _).1 (hI.know (hdep ⟨12, .data⟩ (by simp) rfl))
      have e10 := (hV10 _ _).1 (hI.know (hdep ⟨10, .guard⟩ (by simp) rfl))
      simp only [e12, e10] at hK
      refine wpOp_step rfl fun K' hK' => ?_
      go_simp
      exact hK' _ _ (hK _ _ (hI.quiet hRel hnd (by decide) hVm hSm (Below.refl _ _) ((hV13 _ _).2 rfl)))
    | 14, ho =>
      simp only [List.getElem?_cons_succ, List.getElem?_cons_zero, Option.some.injEq] at ho
      subst ho
      simp only [Act.put, List.setIfInBounds_toArray, List.set_cons_zero, List.set_cons_succ] at hK
      have e13 := (hV13 _ _).1 (hI.know (hdep ⟨13, .data⟩ (by simp) rfl))
      have e10 := (hV10 _ _).1 (hI.know (hdep ⟨10, .guard⟩ (by simp) rfl))
      simp only [e13, e10] at hK
      refine wpOp_step rfl fun K' hK' => ?_
      go_simp
      exact hK' _ _ (hK _ _ (hI.quiet hRel hnd (by decide) hVm hSm (Below.refl _ _) ((hV14 _ _).2 rfl)))
    | 15, ho =>
      simp only [List.getElem?_cons_succ, List.getElem?_cons_zero, Option.some.injEq] at ho
      subst ho
      simp only [Act.put, List.setIfInBounds_toArray, List.set_cons_zero, List.set_cons_succ] at hK
      have e10 := (hV10 _ _).1 (hI.know (hdep ⟨10, .guard⟩ (by simp) rfl))
      simp only [e10] at hK
      refine wpOp_step rfl fun K' hK' => ?_
      go_simp
      exact hK' _ _ (hK _ _ (hI.quiet hRel hnd (by decide) hVm hSm (Below.refl _ _) ((hV15 _ _).2 rfl)))
    | 16, ho =>
      simp only [List.getElem?_cons_succ, List.getElem?_cons_zero, Option.some.injEq] at ho
      subst ho
      simp only [Act.put, List.setIfInBounds_toArray, List.set_cons_zero, List.set_cons_succ] at hK
      have e15 := (hV15 _ _).1 (hI.know (hdep ⟨15, .data⟩ (by simp) rfl))
      have e10 := (hV10 _ _).1 (hI.know (hdep ⟨10, .guard⟩ (by simp) rfl))
      simp only [e15, e10] at hK
      refine wpOp_step rfl fun K' hK' => ?_
      go_simp
      exact hK' _ _ (hK _ _ (hI.quiet hRel hnd (by decide) hVm hSm (Below.refl _ _) ((hV16 _ _).2 rfl)))
    | 17, ho =>
      simp only [List.getElem?_cons_succ, List.getElem?_cons_zero, Option.some.injEq] at ho
      subst ho
      simp only [Act.put, List.setIfInBounds_toArray, List.set_cons_zero, List.set_cons_succ] at hK
      have e16 := (hV16 _ _).1 (hI.know (hdep ⟨16, .data⟩ (by simp) rfl))
      have e10 := (hV10 _ _).1 (hI.know (hdep ⟨10, .guard⟩ (by simp) rfl))
      simp only [e16, e10] at hK
      refine wpOp_step rfl fun K' hK' => ?_
      go_simp
      exact hK' _ _ (hK _ _ (hI.quiet hRel hnd (by decide) hVm hSm (Below.refl _ _) ((hV17 _ _).2 rfl)))
    | 18, ho =>
      simp only [List.getElem?_cons_succ, List.getElem?_cons_zero, Option.some.injEq] at ho
      subst ho
      simp only [Act.put, List.setIfInBounds_toArray, List.set_cons_zero, List.set_cons_succ] at hK
      have e17 := (hV17 _ _).1 (hI.know (hdep ⟨17, .data⟩ (by simp) rfl))
      have e10 := (hV10 _ _).1 (hI.know (hdep ⟨10, .guard⟩ (by simp) rfl))
      simp only [e17, e10] at hK
      refine wpOp_step rfl fun K' hK' => ?_
      go_simp
      exact hK' _ _ (hK _ _ (hI.quiet hRel hnd (by decide) hVm hSm (Below.refl _ _) ((hV18 _ _).2 rfl)))
    | 19, ho =>
      simp only [List.getElem?_cons_succ, List.getElem?_cons_zero, Option.some.injEq] at ho
      subst ho
      simp only [Act.put, List.setIfInBounds_toArray, List.set_cons_zero, List.set_cons_succ] at hK
      have e14 := (hV14 _ _).1 (hI.know (hdep ⟨14, .data⟩ (by simp) rfl))
      have e18 := (hV18 _ _).1 (hI.know (hdep ⟨18, .data⟩ (by simp) rfl))
      have e10 := (hV10 _ _).1 (hI.know (hdep ⟨10, .guard⟩ (by simp) rfl))
      simp only [e14, e18, e10] at hK
      refine wpOp_step rfl fun K' hK' => ?_
      go_simp
      exact hK' _ _ (hK _ _ (hI.quiet hRel hnd (by decide) hVm hSm (Below.refl _ _) ((hV19 _ _).2 rfl)))
    | 20, ho =>
      simp only [List.getElem?_cons_succ, List.getElem?_cons_zero, Option.some.injEq] at ho
      subst ho
      simp only [Act.put, List.setIfInBounds_toArray, List.set_cons_zero, List.set_cons_succ] at hK
      have e19 := (hV19 _ _).1 (hI.know (hdep ⟨19, .data⟩ (by simp) rfl))
      have e10 := (hV10 _ _).1 (hI.know (hdep ⟨10, .guard⟩ (by simp) rfl))
      simp only [e19, e10] at hK
      refine wpOp_step rfl fun K' hK' => ?_
      go_simp
      exact hK' _ _ (hK _ _ (hI.quiet hRel hnd (by decide) hVm hSm (Below.refl _ _) ((hV20 _ _).2 rfl)))
    | 21, ho =>
      simp only [List.getElem?_cons_succ, List.getElem?_cons_zero, Option.some.injEq] at ho
      subst ho
      simp only [Act.put, List.setIfInBounds_toArray, List.set_cons_zero, List.set_cons_succ] at hK
      have e20 := (hV20 _ _).1 (hI.know (hdep ⟨20, .data⟩ (by simp) rfl))
      have e10 := (hV10 _ _).1 (hI.know (hdep ⟨10, .guard⟩ (by simp) rfl))
      simp only [e20, e10] at hK
      refine wpOp_step rfl fun K' hK' => ?_
      go_simp
      refine (HRT.out wr nA nc (HST.out.below (HBW.out.trans (hI.1.mono HBW.out.size)))).mono ?_
      rintro e w2 ⟨rfl, hb2⟩
      exact hK' _ _ (hK _ _ (hI.quiet hRel hnd (by decide) hVm hSm hb2 ((hV21 _ _).2 rfl)))
    | 22, ho =>
      simp only [List.getElem?_cons_succ, List.getElem?_cons_zero, Option.some.injEq] at ho
      subst ho
      simp only [Act.put, List.setIfInBounds_toArray, List.set_cons_zero, List.set_cons_succ] at hK
      have e21 := (hV21 _ _).1 (hI.know (hdep ⟨21, .data⟩ (by simp) rfl))
      have e10 := (hV10 _ _).1 (hI.know (hdep ⟨10, .guard⟩ (by simp) rfl))
      simp only [e21, e10] at hK
      refine wpOp_step rfl fun K' hK' => ?_
      go_simp
      exact hK' _ _ (hK _ _ (hI.quiet hRel hnd (by decide) hVm hSm (Below.refl _ _) ((hV22 _ _).2 rfl)))
    | 23, ho =>
      simp only [List.getElem?_cons_succ, List.getElem?_cons_zero, Option.some.injEq] at ho
      subst ho
      simp only [Act.put, List.setIfInBounds_toArray, List.set_cons_zero, List.set_cons_succ] at hK
      have e10 := (hV10 _ _).1 (hI.know (hdep ⟨10, .data⟩ (by simp) rfl))
      have e22 := (hV22 _ _).1 (hI.know (hdep ⟨22, .data⟩ (by simp) rfl))
      simp only [e10, e22] at hK
      refine wpOp_step rfl fun K' hK' => ?_
      go_simp
      exact hK' _ _ (hK _ _ (hI.quiet hRel hnd (by decide) hVm hSm (Below.refl _ _) ((hV23 _ _).2 rfl)))
    | i + 24, ho => simp at ho
  case fin =>
    simp only [putAll, Act.put, List.setIfInBounds_toArray, List.set_cons_zero, List.set_cons_succ, Nat.reduceAdd, Nat.zero_add]
    intro done u wr hd hI
    simp only [List.length_cons, List.length_nil, Nat.reduceAdd, Nat.zero_add] at hd
    have hS := (hS0 _ _).1 (hI.end_ (fun c hc => hd c (by simp at hc)))
    have f23 := (hV23 _ _).1 (hI.know (hd 23 (by omega)))
    have hbr := hI.1
    have HWR := Lib.hid (HW.out.below hbr)
    have HSR := Lib.hid (HST.out.below hbr)
    have hrs := hbr.size
    obtain ⟨hcw, hfw⟩ := bcell hbr
    have d0 := (hcw K 0 hKl).trans c0
    have d1 := (hcw K 1 hKl).trans c1
    have d2 := (hcw K 2 hKl).trans c2
    have df := (hfw K 1 hKl).trans cf
    have dl : K < wr.heap.size := by omega
    have gl2 : g < wr.heap.size := by omega
    have m0 := (hcw g (at_ * 7) hgl).trans n0
    have m1 := (hcw g (at_ * 7 + 1) hgl).trans n1
    have m2 := (hcw g (at_ * 7 + 2) hgl).trans n2
    have m3 := (hcw g (at_ * 7 + 3) hgl).trans n3
    have m4 := (hcw g (at_ * 7 + 4) hgl).trans n4
    have m5 := (hcw g (at_ * 7 + 5) hgl).trans n5
    have m6 := (hcw g (at_ * 7 + 6) hgl).trans n6
    have hGR := Lib.hid (grownBy_of_below (row := some K) hbr (Nat.le_refl _))
    clear hcw hfw c0 c1 c2 cf cf2 n0 n1 n2 n3 n4 n5 n6
    simp only [f23]
    clear hI hd hS hV0 hV1 hV2 hV3 hV4 hV5 hV6 hV7 hV8 hV9 hV10 hV11 hV12 hV13 hV14 hV15 hV16 hV17 hV18 hV19 hV20 hV21 hV22 hV23 hVm hSm hS0 hRel f23 hbr
    go_wp2_with fail
    go_region
    all_goals go_wp2_with fail
    all_goals go_ret
    all_goals exact ⟨_, _, rfl, (HWR.out.next (by rw [← HL.out]; exact hlt)).below ((below_one _ _).drew), grownBy_then (grownBy_trans hGR.out (grownBy_setCell _ _ _ _)) ((below_one _ _).drew)⟩


set_option maxRecDepth 100000 in
set_option maxHeartbeats 8000000 in
theorem w_var {ns : List Nd} {at_ wi : Nat} {s : ByteArray} (hx : ns[at_]? = some ⟨3, 0, 0, 0, 0, [], s⟩) (hr : RightNd ⟨3, 0, 0, 0, 0, [], s⟩)  : WExpr ns at_ wi (at_ + 1) := by
  intro w K M g c hst hK20 h
  have hm := mixedZ
  have hlt : at_ < ns.length := (List.getElem?_eq_some_iff.1 hx).1
  have HW := Lib.hid h
  have HST := Lib.hid hst
  have HRT := Lib.hid hr
  obtain ⟨hbox, hMK, hnds, hal, hwi⟩ := h
  obtain ⟨nA, nc, n0, n1, n2, n3, n4, n5, n6, n7, n8⟩ := hnds.2.2.2.2.2 at_ _ hx
  have hgM := hnds.1
  have hMs := hnds.2.1
  have hL390 := hnds.2.2.2.2.1
  have hLc := hnds.2.2.1
  have hKl := hbox.lt
  have hgl : g < w.heap.size := by omega
  obtain ⟨c0, c1, c2⟩ := Box.three hbox
  have cf := Box.frozen hbox 1
  have cf2 := Box.frozen hbox 2
  obtain ⟨L, hL⟩ : ∃ L, L = ns.length := ⟨_, rfl⟩
  rw [← hL] at c0 hlt hal hL390 hLc
  have HL := Lib.hid hL
  have HN7 := Lib.hid n7
  have HBW := Lib.hid (Below.refl w.heap.size w)
  clear hbox hnds hst hr n7 n8 hL
  simp only [] at n0 n1 n2 n3 n4 n5 n6
  go_enter Tryz.func97, Tryz.ntmps97
  go_wp2_with fail
  have hRel : Rels (fun w w' => Below w.heap.size w w') := rels_below
  obtain ⟨V, hVe⟩ : ∃ V : Nat → Value → World → Prop, V = fun i v w' => match i with
      | 0 => v = .pointer (some ⟨K, 0, none⟩)
      | 1 => v = .pointer (some ⟨K, 0, none⟩)
      | 2 => v = .pointer (some ⟨K, 1, none⟩)
      | 3 => v = .int .i64 at_
      | 4 => v = .pointer (some ⟨K, 0, none⟩)
      | 5 => v = .pointer (some ⟨K, 0, none⟩)
      | 6 => v = .pointer (some ⟨K, 0, none⟩)
      | 7 => v = .slice (some ⟨g, 0, none⟩) L c
      | 8 => v = .int .i64 L
      | 9 => v = .bool false
      | 10 => v = .bool false
      | 11 => v = .pointer (some ⟨K, 0, none⟩)
      | 12 => v = .pointer (some ⟨K, 0, none⟩)
      | 13 => v = .pointer (some ⟨K, 0, none⟩)
      | 14 => v = .slice (some ⟨g, 0, none⟩) L c
      | 15 => v = .pointer (some ⟨K, 0, none⟩)
      | 16 => v = .pointer (some ⟨K, 0, none⟩)
      | 17 => v = .pointer (some ⟨K, 1, none⟩)
      | 18 => v = .int .i64 at_
      | 19 => v = .pointer (some ⟨g, at_ * 7, none⟩)
      | 20 => v = .agg #[.int .i64 3, .int .i64 0, .int .i64 0, .int .i64 0, .int .i64 0, .slice nA 0 nc, .string s]
      | 21 => v = .bool true
      | 22 => v = .bool false
      | 23 => v = .bool false
      | _ => True := ⟨_, rfl⟩
  have hVm : ∀ j v w1 w2, V j v w1 → (fun w w' => Below w.heap.size w w') w1 w2 → V j v w2 := by
    intro j v w1 w2 h hr
    subst hVe
    match j, h with
    | 0, h => exact h
    | 1, h => exact h
    | 2, h => exact h
    | 3, h => exact h
    | 4, h => exact h
    | 5, h => exact h
    | 6, h => exact h
    | 7, h => exact h
    | 8, h => exact h
    | 9, h => exact h
    | 10, h => exact h
    | 11, h => exact h
    | 12, h => exact h
    | 13, h => exact h
    | 14, h => exact h
    | 15, h => exact h
    | 16, h => exact h
    | 17, h => exact h
    | 18, h => exact h
    | 19, h => exact h
    | 20, h => exact h
    | 21, h => exact h
    | 22, h => exact h
    | 23, h => exact h
    | i + 24, _ => trivial
  have hV0 : ∀ v w', V 0 v w' ↔ v = .pointer (some ⟨K, 0, none⟩) := fun _ _ => by subst hVe; rfl
  have hV1 : ∀ v w', V 1 v w' ↔ v = .pointer (some ⟨K, 0, none⟩) := fun _ _ => by subst hVe; rfl
  have hV2 : ∀ v w', V 2 v w' ↔ v = .pointer (some ⟨K, 1, none⟩) := fun _ _ => by subst hVe; rfl
  have hV3 : ∀ v w', V 3 v w' ↔ v = .int .i64 at_ := fun _ _ => by subst hVe; rfl
  have hV4 : ∀ v w', V 4 v w' ↔ v = .pointer (some ⟨K, 0, none⟩) := fun _ _ => by subst hVe; rfl
  have hV5 : ∀ v w', V 5 v w' ↔ v = .pointer (some ⟨K, 0, none⟩) := fun _ _ => by subst hVe; rfl
  have hV6 : ∀ v w', V 6 v w' ↔ v = .pointer (some ⟨K, 0, none⟩) := fun _ _ => by subst hVe; rfl
  have hV7 : ∀ v w', V 7 v w' ↔ v = .slice (some ⟨g, 0, none⟩) L c := fun _ _ => by subst hVe; rfl
  have hV8 : ∀ v w', V 8 v w' ↔ v = .int .i64 L := fun _ _ => by subst hVe; rfl
  have hV9 : ∀ v w', V 9 v w' ↔ v = .bool false := fun _ _ => by subst hVe; rfl
  have hV10 : ∀ v w', V 10 v w' ↔ v = .bool false := fun _ _ => by subst hVe; rfl
  have hV11 : ∀ v w', V 11 v w' ↔ v = .pointer (some ⟨K, 0, none⟩) := fun _ _ => by subst hVe; rfl
  have hV12 : ∀ v w', V 12 v w' ↔ v = .pointer (some ⟨K, 0, none⟩) := fun _ _ => by subst hVe; rfl
  have hV13 : ∀ v w', V 13 v w' ↔ v = .pointer (some ⟨K, 0, none⟩) := fun _ _ => by subst hVe; rfl
  have hV14 : ∀ v w', V 14 v w' ↔ v = .slice (some ⟨g, 0, none⟩) L c := fun _ _ => by subst hVe; rfl
  have hV15 : ∀ v w', V 15 v w' ↔ v = .pointer (some ⟨K, 0, none⟩) := fun _ _ => by subst hVe; rfl
  have hV16 : ∀ v w', V 16 v w' ↔ v = .pointer (some ⟨K, 0, none⟩) := fun _ _ => by subst hVe; rfl
  have hV17 : ∀ v w', V 17 v w' ↔ v = .pointer (some ⟨K, 1, none⟩) := fun _ _ => by subst hVe; rfl
  have hV18 : ∀ v w', V 18 v w' ↔ v = .int .i64 at_ := fun _ _ => by subst hVe; rfl
  have hV19 : ∀ v w', V 19 v w' ↔ v = .pointer (some ⟨g, at_ * 7, none⟩) := fun _ _ => by subst hVe; rfl
  have hV20 : ∀ v w', V 20 v w' ↔ v = .agg #[.int .i64 3, .int .i64 0, .int .i64 0, .int .i64 0, .int .i64 0, .slice nA 0 nc, .string s] := fun _ _ => by subst hVe; rfl
  have hV21 : ∀ v w', V 21 v w' ↔ v = .bool true := fun _ _ => by subst hVe; rfl
  have hV22 : ∀ v w', V 22 v w' ↔ v = .bool false := fun _ _ => by subst hVe; rfl
  have hV23 : ∀ v w', V 23 v w' ↔ v = .bool false := fun _ _ => by subst hVe; rfl
  obtain ⟨St, hSe⟩ : ∃ St : Nat → (Nat → Value) → World → Prop, St = fun s u w' => match s with
      | 0 => True
      | _ => False := ⟨_, rfl⟩
  have hSm : ∀ s u u' w1 w2, (∀ c ∈ [], u' c = u c) → St s u w1 → Below w1.heap.size w1 w2 → St s u' w2 := by
    intro s u u' w1 w2 hu h hb
    subst hSe
    match s, h with
    | 0, h => trivial
    | s + 1, h => exact h.elim
  have hS0 : ∀ u w', St 0 u w' ↔ (True) := fun _ _ => by subst hSe; rfl
  clear hVe hSe
  refine wp_region_inv (ChainInv (fun w w' => Below w.heap.size w w') V [] St w) (by kernel_rfl) (by kernel_rfl) (by kernel_rfl) ?start ?step ?fin
  case start => exact fun u => ChainInv.start hRel (Below.refl _ _).drew ((hS0 _ _).2 (trivial))
  case step =>
    simp only [putAll, Act.put, List.setIfInBounds_toArray, List.set_cons_zero, List.set_cons_succ, Nat.reduceAdd, Nat.zero_add]
    intro i o ho done u wr hnd hdep hI K hK
    obtain ⟨hcw, hfw⟩ := bcell hI.1
    match i, ho with
    | 0, ho =>
      simp only [List.getElem?_cons_zero, Option.some.injEq] at ho
      subst ho
      simp only [Act.put, List.setIfInBounds_toArray, List.set_cons_zero, List.set_cons_succ] at hK
      refine wpOp_step rfl fun K' hK' => ?_
      go_simp
      exact hK' _ _ (hK _ _ (hI.quiet hRel hnd (by decide) hVm hSm (Below.refl _ _) ((hV0 _ _).2 rfl)))
    | 1, ho =>
      simp only [List.getElem?_cons_succ, List.getElem?_cons_zero, Option.some.injEq] at ho
      subst ho
      simp only [Act.put, List.setIfInBounds_toArray, List.set_cons_zero, List.set_cons_succ] at hK
      have e0 := (hV0 _ _).1 (hI.know (hdep ⟨0, .data⟩ (by simp) rfl))
      simp only [e0] at hK
      refine wpOp_step rfl fun K' hK' => ?_
      go_simp
      exact hK' _ _ (hK _ _ (hI.quiet hRel hnd (by decide) hVm hSm (Below.refl _ _) ((hV1 _ _).2 rfl)))
    | 2, ho =>
      simp only [List.getElem?_cons_succ, List.getElem?_cons_zero, Option.some.injEq] at ho
      subst ho
      simp only [Act.put, List.setIfInBounds_toArray, List.set_cons_zero, List.set_cons_succ] at hK
      have e1 := (hV1 _ _).1 (hI.know (hdep ⟨1, .data⟩ (by simp) rfl))
      simp only [e1] at hK
      refine wpOp_step rfl fun K' hK' => ?_
      go_simp
      exact hK' _ _ (hK _ _ (hI.quiet hRel hnd (by decide) hVm hSm (Below.refl _ _) ((hV2 _ _).2 rfl)))
    | 3, ho =>
      simp only [List.getElem?_cons_succ, List.getElem?_cons_zero, Option.some.injEq] at ho
      subst ho
      simp only [Act.put, List.setIfInBounds_toArray, List.set_cons_zero, List.set_cons_succ] at hK
      have e2 := (hV2 _ _).1 (hI.know (hdep ⟨2, .data⟩ (by simp) rfl))
      simp only [e2] at hK
      refine wpOp_step rfl fun K' hK' => ?_
      go_simp
      exact hK' _ _ (hK _ _ (hI.quiet hRel hnd (by decide) hVm hSm (Below.refl _ _) ((hV3 _ _).2 rfl)))
    | 4, ho =>
      simp only [List.getElem?_cons_succ, List.getElem?_cons_zero, Option.some.injEq] at ho
      subst ho
      simp only [Act.put, List.setIfInBounds_toArray, List.set_cons_zero, List.set_cons_succ] at hK
      refine wpOp_step rfl fun K' hK' => ?_
      go_simp
      exact hK' _ _ (hK _ _ (hI.quiet hRel hnd (by decide) hVm hSm (Below.refl _ _) ((hV4 _ _).2 rfl)))
    | 5, ho =>
      simp only [List.getElem?_cons_succ, List.getElem?_cons_zero, Option.some.injEq] at ho
      subst ho
      simp only [Act.put, List.setIfInBounds_toArray, List.set_cons_zero, List.set_cons_succ] at hK
      have e4 := (hV4 _ _).1 (hI.know (hdep ⟨4, .data⟩ (by simp) rfl))
      simp only [e4] at hK
      refine wpOp_step rfl fun K' hK' => ?_
      go_simp
      exact hK' _ _ (hK _ _ (hI.quiet hRel hnd (by decide) hVm hSm (Below.refl _ _) ((hV5 _ _).2 rfl)))
    | 6, ho =>
      simp only [List.getElem?_cons_succ, List.getElem?_cons_zero, Option.some.injEq] at ho
      subst ho
      simp only [Act.put, List.setIfInBounds_toArray, List.set_cons_zero, List.set_cons_succ] at hK
      have e5 := (hV5 _ _).1 (hI.know (hdep ⟨5, .data⟩ (by simp) rfl))
      simp only [e5] at hK
      refine wpOp_step rfl fun K' hK' => ?_
      go_simp
      exact hK' _ _ (hK _ _ (hI.quiet hRel hnd (by decide) hVm hSm (Below.refl _ _) ((hV6 _ _).2 rfl)))
    | 7, ho =>
      simp only [List.getElem?_cons_succ, List.getElem?_cons_zero, Option.some.injEq] at ho
      subst ho
      simp only [Act.put, List.setIfInBounds_toArray, List.set_cons_zero, List.set_cons_succ] at hK
      have e6 := (hV6 _ _).1 (hI.know (hdep ⟨6, .data⟩ (by simp) rfl))
      simp only [e6] at hK
      refine wpOp_step rfl fun K' hK' => ?_
      go_simp
      exact hK' _ _ (hK _ _ (hI.quiet hRel hnd (by decide) hVm hSm (Below.refl _ _) ((hV7 _ _).2 rfl)))
    | 8, ho =>
      simp only [List.getElem?_cons_succ, List.getElem?_cons_zero, Option.some.injEq] at ho
      subst ho
      simp only [Act.put, List.setIfInBounds_toArray, List.set_cons_zero, List.set_cons_succ] at hK
      have e7 := (hV7 _ _).1 (hI.know (hdep ⟨7, .data⟩ (by simp) rfl))
      simp only [e7] at hK
      refine wpOp_step rfl fun K' hK' => ?_
      go_simp
      exact hK' _ _ (hK _ _ (hI.quiet hRel hnd (by decide) hVm hSm (Below.refl _ _) ((hV8 _ _).2 rfl)))
    | 9, ho =>
      simp only [List.getElem?_cons_succ, List.getElem?_cons_zero, Option.some.injEq] at ho
      subst ho
      simp only [Act.put, List.setIfInBounds_toArray, List.set_cons_zero, List.set_cons_succ] at hK
      have e3 := (hV3 _ _).1 (hI.know (hdep ⟨3, .data⟩ (by simp) rfl))
      have e8 := (hV8 _ _).1 (hI.know (hdep ⟨8, .data⟩ (by simp) rfl))
      simp only [e3, e8] at hK
      refine wpOp_step rfl fun K' hK' => ?_
      go_simp
      exact hK' _ _ (hK _ _ (hI.quiet hRel hnd (by decide) hVm hSm (Below.refl _ _) ((hV9 _ _).2 (by simp; omega))))
    | 10, ho =>
      simp only [List.getElem?_cons_succ, List.getElem?_cons_zero, Option.some.injEq] at ho
      subst ho
      simp only [Act.put, List.setIfInBounds_toArray, List.set_cons_zero, List.set_cons_succ] at hK
      have e9 := (hV9 _ _).1 (hI.know (hdep ⟨9, .data⟩ (by simp) rfl))
      simp only [e9] at hK
      refine wpOp_step rfl fun K' hK' => ?_
      go_simp
      exact hK' _ _ (hK _ _ (hI.quiet hRel hnd (by decide) hVm hSm (Below.refl _ _) ((hV10 _ _).2 rfl)))
    | 11, ho =>
      simp only [List.getElem?_cons_succ, List.getElem?_cons_zero, Option.some.injEq] at ho
      subst ho
      simp only [Act.put, List.setIfInBounds_toArray, List.set_cons_zero, List.set_cons_succ] at hK
      have e10 := (hV10 _ _).1 (hI.know (hdep ⟨10, .guard⟩ (by simp) rfl))
      simp only [e10] at hK
      refine wpOp_step rfl fun K' hK' => ?_
      go_simp
      exact hK' _ _ (hK _ _ (hI.quiet hRel hnd (by decide) hVm hSm (Below.refl _ _) ((hV11 _ _).2 rfl)))
    | 12, ho =>
      simp only [List.getElem?_cons_succ, List.getElem?_cons_zero, Option.some.injEq] at ho
      subst ho
      simp only [Act.put, List.setIfInBounds_toArray, List.set_cons_zero, List.set_cons_succ] at hK
      have e11 := (hV11 _ _).1 (hI.know (hdep ⟨11, .data⟩ (by simp) rfl))
      have e10 := (hV10 _ _).1 (hI.know (hdep ⟨10, .guard⟩ (by simp) rfl))
      simp only [e11, e10] at hK
      refine wpOp_step rfl fun K' hK' => ?_
      go_simp
      exact hK' _ _ (hK _ _ (hI.quiet hRel hnd (by decide) hVm hSm (Below.refl _ _) ((hV12 _ _).2 rfl)))
    | 13, ho =>
      simp only [List.getElem?_cons_succ, List.getElem?_cons_zero, Option.some.injEq] at ho
      subst ho
      simp only [Act.put, List.setIfInBounds_toArray, List.set_cons_zero, List.set_cons_succ] at hK
      have e12 := (hV12 _ _).1 (hI.know (hdep ⟨12, .data⟩ (by simp) rfl))
      have e10 := (hV10 _ _).1 (hI.know (hdep ⟨10, .guard⟩ (by simp) rfl))
      simp only [e12, e10] at hK
      refine wpOp_step rfl fun K' hK' => ?_
      go_simp
      exact hK' _ _ (hK _ _ (hI.quiet hRel hnd (by decide) hVm hSm (Below.refl _ _) ((hV13 _ _).2 rfl)))
    | 14, ho =>
      simp only [List.getElem?_cons_succ, List.getElem?_cons_zero, Option.some.injEq] at ho
      subst ho
      simp only [Act.put, List.setIfInBounds_toArray, List.set_cons_zero, List.set_cons_succ] at hK
      have e13 := (hV13 _ _).1 (hI.know (hdep ⟨13, .data⟩ (by simp) rfl))
      have e10 := (hV10 _ _).1 (hI.know (hdep ⟨10, .guard⟩ (by simp) rfl))
      simp only [e13, e10] at hK
      refine wpOp_step rfl fun K' hK' => ?_
      go_simp
      exact hK' _ _ (hK _ _ (hI.quiet hRel hnd (by decide) hVm hSm (Below.refl _ _) ((hV14 _ _).2 rfl)))
    | 15, ho =>
      simp only [List.getElem?_cons_succ, List.getElem?_cons_zero, Option.some.injEq] at ho
      subst ho
      simp only [Act.put, List.setIfInBounds_toArray, List.set_cons_zero, List.set_cons_succ] at hK
      have e10 := (hV10 _ _).1 (hI.know (hdep ⟨10, .guard⟩ (by simp) rfl))
      simp only [e10] at hK
      refine wpOp_step rfl fun K' hK' => ?_
      go_simp
      exact hK' _ _ (hK _ _ (hI.quiet hRel hnd (by decide) hVm hSm (Below.refl _ _) ((hV15 _ _).2 rfl)))
    | 16, ho =>
      simp only [List.getElem?_cons_succ, List.getElem?_cons_zero, Option.some.injEq] at ho
      subst ho
      simp only [Act.put, List.setIfInBounds_toArray, List.set_cons_zero, List.set_cons_succ] at hK
      have e15 := (hV15 _ _).1 (hI.know (hdep ⟨15, .data⟩ (by simp) rfl))
      have e10 := (hV10 _ _).1 (hI.know (hdep ⟨10, .guard⟩ (by simp) rfl))
      simp only [e15, e10] at hK
      refine wpOp_step rfl fun K' hK' => ?_
      go_simp
      exact hK' _ _ (hK _ _ (hI.quiet hRel hnd (by decide) hVm hSm (Below.refl _ _) ((hV16 _ _).2 rfl)))
    | 17, ho =>
      simp only [List.getElem?_cons_succ, List.getElem?_cons_zero, Option.some.injEq] at ho
      subst ho
      simp only [Act.put, List.setIfInBounds_toArray, List.set_cons_zero, List.set_cons_succ] at hK
      have e16 := (hV16 _ _).1 (hI.know (hdep ⟨16, .data⟩ (by simp) rfl))
      have e10 := (hV10 _ _).1 (hI.know (hdep ⟨10, .guard⟩ (by simp) rfl))
      simp only [e16, e10] at hK
      refine wpOp_step rfl fun K' hK' => ?_
      go_simp
      exact hK' _ _ (hK _ _ (hI.quiet hRel hnd (by decide) hVm hSm (Below.refl _ _) ((hV17 _ _).2 rfl)))
    | 18, ho =>
      simp only [List.getElem?_cons_succ, List.getElem?_cons_zero, Option.some.injEq] at ho
      subst ho
      simp only [Act.put, List.setIfInBounds_toArray, List.set_cons_zero, List.set_cons_succ] at hK
      have e17 := (hV17 _ _).1 (hI.know (hdep ⟨17, .data⟩ (by simp) rfl))
      have e10 := (hV10 _ _).1 (hI.know (hdep ⟨10, .guard⟩ (by simp) rfl))
      simp only [e17, e10] at hK
      refine wpOp_step rfl fun K' hK' => ?_
      go_simp
      exact hK' _ _ (hK _ _ (hI.quiet hRel hnd (by decide) hVm hSm (Below.refl _ _) ((hV18 _ _).2 rfl)))
    | 19, ho =>
      simp only [List.getElem?_cons_succ, List.getElem?_cons_zero, Option.some.injEq] at ho
      subst ho
      simp only [Act.put, List.setIfInBounds_toArray, List.set_cons_zero, List.set_cons_succ] at hK
      have e14 := (hV14 _ _).1 (hI.know (hdep ⟨14, .data⟩ (by simp) rfl))
      have e18 := (hV18 _ _).1 (hI.know (hdep ⟨18, .data⟩ (by simp) rfl))
      have e10 := (hV10 _ _).1 (hI.know (hdep ⟨10, .guard⟩ (by simp) rfl))
      simp only [e14, e18, e10] at hK
      refine wpOp_step rfl fun K' hK' => ?_
      go_simp
      exact hK' _ _ (hK _ _ (hI.quiet hRel hnd (by decide) hVm hSm (Below.refl _ _) ((hV19 _ _).2 rfl)))
    | 20, ho =>
      simp only [List.getElem?_cons_succ, List.getElem?_cons_zero, Option.some.injEq] at ho
      subst ho
      simp only [Act.put, List.setIfInBounds_toArray, List.set_cons_zero, List.set_cons_succ] at hK
      have e19 := (hV19 _ _).1 (hI.know (hdep ⟨19, .data⟩ (by simp) rfl))
      have e10 := (hV10 _ _).1 (hI.know (hdep ⟨10, .guard⟩ (by simp) rfl))
      simp only [e19, e10] at hK
      refine wpOp_step rfl fun K' hK' => ?_
      go_simp
      exact hK' _ _ (hK _ _ (hI.quiet hRel hnd (by decide) hVm hSm (Below.refl _ _) ((hV20 _ _).2 rfl)))
    | 21, ho =>
      simp only [List.getElem?_cons_succ, List.getElem?_cons_zero, Option.some.injEq] at ho
      subst ho
      simp only [Act.put, List.setIfInBounds_toArray, List.set_cons_zero, List.set_cons_succ] at hK
      have e20 := (hV20 _ _).1 (hI.know (hdep ⟨20, .data⟩ (by simp) rfl))
      have e10 := (hV10 _ _).1 (hI.know (hdep ⟨10, .guard⟩ (by simp) rfl))
      simp only [e20, e10] at hK
      refine wpOp_step rfl fun K' hK' => ?_
      go_simp
      refine (HRT.out wr nA nc (HST.out.below (HBW.out.trans (hI.1.mono HBW.out.size)))).mono ?_
      rintro e w2 ⟨rfl, hb2⟩
      exact hK' _ _ (hK _ _ (hI.quiet hRel hnd (by decide) hVm hSm hb2 ((hV21 _ _).2 rfl)))
    | 22, ho =>
      simp only [List.getElem?_cons_succ, List.getElem?_cons_zero, Option.some.injEq] at ho
      subst ho
      simp only [Act.put, List.setIfInBounds_toArray, List.set_cons_zero, List.set_cons_succ] at hK
      have e21 := (hV21 _ _).1 (hI.know (hdep ⟨21, .data⟩ (by simp) rfl))
      have e10 := (hV10 _ _).1 (hI.know (hdep ⟨10, .guard⟩ (by simp) rfl))
      simp only [e21, e10] at hK
      refine wpOp_step rfl fun K' hK' => ?_
      go_simp
      exact hK' _ _ (hK _ _ (hI.quiet hRel hnd (by decide) hVm hSm (Below.refl _ _) ((hV22 _ _).2 rfl)))
    | 23, ho =>
      simp only [List.getElem?_cons_succ, List.getElem?_cons_zero, Option.some.injEq] at ho
      subst ho
      simp only [Act.put, List.setIfInBounds_toArray, List.set_cons_zero, List.set_cons_succ] at hK
      have e10 := (hV10 _ _).1 (hI.know (hdep ⟨10, .data⟩ (by simp) rfl))
      have e22 := (hV22 _ _).1 (hI.know (hdep ⟨22, .data⟩ (by simp) rfl))
      simp only [e10, e22] at hK
      refine wpOp_step rfl fun K' hK' => ?_
      go_simp
      exact hK' _ _ (hK _ _ (hI.quiet hRel hnd (by decide) hVm hSm (Below.refl _ _) ((hV23 _ _).2 rfl)))
    | i + 24, ho => simp at ho
  case fin =>
    simp only [putAll, Act.put, List.setIfInBounds_toArray, List.set_cons_zero, List.set_cons_succ, Nat.reduceAdd, Nat.zero_add]
    intro done u wr hd hI
    simp only [List.length_cons, List.length_nil, Nat.reduceAdd, Nat.zero_add] at hd
    have hS := (hS0 _ _).1 (hI.end_ (fun c hc => hd c (by simp at hc)))
    have f23 := (hV23 _ _).1 (hI.know (hd 23 (by omega)))
    have hbr := hI.1
    have HWR := Lib.hid (HW.out.below hbr)
    have HSR := Lib.hid (HST.out.below hbr)
    have hrs := hbr.size
    obtain ⟨hcw, hfw⟩ := bcell hbr
    have d0 := (hcw K 0 hKl).trans c0
    have d1 := (hcw K 1 hKl).trans c1
    have d2 := (hcw K 2 hKl).trans c2
    have df := (hfw K 1 hKl).trans cf
    have dl : K < wr.heap.size := by omega
    have gl2 : g < wr.heap.size := by omega
    have m0 := (hcw g (at_ * 7) hgl).trans n0
    have m1 := (hcw g (at_ * 7 + 1) hgl).trans n1
    have m2 := (hcw g (at_ * 7 + 2) hgl).trans n2
    have m3 := (hcw g (at_ * 7 + 3) hgl).trans n3
    have m4 := (hcw g (at_ * 7 + 4) hgl).trans n4
    have m5 := (hcw g (at_ * 7 + 5) hgl).trans n5
    have m6 := (hcw g (at_ * 7 + 6) hgl).trans n6
    have hGR := Lib.hid (grownBy_of_below (row := some K) hbr (Nat.le_refl _))
    clear hcw hfw c0 c1 c2 cf cf2 n0 n1 n2 n3 n4 n5 n6
    simp only [f23]
    clear hI hd hS hV0 hV1 hV2 hV3 hV4 hV5 hV6 hV7 hV8 hV9 hV10 hV11 hV12 hV13 hV14 hV15 hV16 hV17 hV18 hV19 hV20 hV21 hV22 hV23 hVm hSm hS0 hRel f23 hbr
    go_wp2_with fail
    go_region
    all_goals go_wp2_with fail
    all_goals go_ret
    all_goals exact ⟨_, _, rfl, (HWR.out.next (by rw [← HL.out]; exact hlt)).below ((below_one _ _).drew), grownBy_then (grownBy_trans hGR.out (grownBy_setCell _ _ _ _)) ((below_one _ _).drew)⟩


set_option maxRecDepth 100000 in
set_option maxHeartbeats 8000000 in
theorem w_arg {ns : List Nd} {at_ wi : Nat}  (hx : ns[at_]? = some ⟨5, 0, 0, 0, 0, [], ⟨#[]⟩⟩) (hr : RightNd ⟨5, 0, 0, 0, 0, [], ⟨#[]⟩⟩) (hwi0 : 0 < wi) : WExpr ns at_ wi (at_ + 1) := by
  intro w K M g c hst hK20 h
  have hm := mixedZ
  have hlt : at_ < ns.length := (List.getElem?_eq_some_iff.1 hx).1
  have HW := Lib.hid h
  have HST := Lib.hid hst
  have HRT := Lib.hid hr
  obtain ⟨hbox, hMK, hnds, hal, hwi⟩ := h
  obtain ⟨nA, nc, n0, n1, n2, n3, n4, n5, n6, n7, n8⟩ := hnds.2.2.2.2.2 at_ _ hx
  have hgM := hnds.1
  have hMs := hnds.2.1
  have hL390 := hnds.2.2.2.2.1
  have hLc := hnds.2.2.1
  have hKl := hbox.lt
  have hgl : g < w.heap.size := by omega
  obtain ⟨c0, c1, c2⟩ := Box.three hbox
  have cf := Box.frozen hbox 1
  have cf2 := Box.frozen hbox 2
  obtain ⟨L, hL⟩ : ∃ L, L = ns.length := ⟨_, rfl⟩
  rw [← hL] at c0 hlt hal hL390 hLc
  have HL := Lib.hid hL
  have HN7 := Lib.hid n7
  have HBW := Lib.hid (Below.refl w.heap.size w)
  clear hbox hnds hst hr n7 n8 hL
  simp only [] at n0 n1 n2 n3 n4 n5 n6
  go_enter Tryz.func97, Tryz.ntmps97
  go_wp2_with fail
  have hRel : Rels (fun w w' => Below w.heap.size w w') := rels_below
  obtain ⟨V, hVe⟩ : ∃ V : Nat → Value → World → Prop, V = fun i v w' => match i with
      | 0 => v = .pointer (some ⟨K, 0, none⟩)
      | 1 => v = .pointer (some ⟨K, 0, none⟩)
      | 2 => v = .pointer (some ⟨K, 1, none⟩)
      | 3 => v = .int .i64 at_
      | 4 => v = .pointer (some ⟨K, 0, none⟩)
      | 5 => v = .pointer (some ⟨K, 0, none⟩)
      | 6 => v = .pointer (some ⟨K, 0, none⟩)
      | 7 => v = .slice (some ⟨g, 0, none⟩) L c
      | 8 => v = .int .i64 L
      | 9 => v = .bool false
      | 10 => v = .bool false
      | 11 => v = .pointer (some ⟨K, 0, none⟩)
      | 12 => v = .pointer (some ⟨K, 0, none⟩)
      | 13 => v = .pointer (some ⟨K, 0, none⟩)
      | 14 => v = .slice (some ⟨g, 0, none⟩) L c
      | 15 => v = .pointer (some ⟨K, 0, none⟩)
      | 16 => v = .pointer (some ⟨K, 0, none⟩)
      | 17 => v = .pointer (some ⟨K, 1, none⟩)
      | 18 => v = .int .i64 at_
      | 19 => v = .pointer (some ⟨g, at_ * 7, none⟩)
      | 20 => v = .agg #[.int .i64 5, .int .i64 0, .int .i64 0, .int .i64 0, .int .i64 0, .slice nA 0 nc, .string ⟨#[]⟩]
      | 21 => v = .bool true
      | 22 => v = .bool false
      | 23 => v = .bool false
      | _ => True := ⟨_, rfl⟩
  have hVm : ∀ j v w1 w2, V j v w1 → (fun w w' => Below w.heap.size w w') w1 w2 → V j v w2 := by
    intro j v w1 w2 h hr
    subst hVe
    match j, h with
    | 0, h => exact h
    | 1, h => exact h
    | 2, h => exact h
    | 3, h => exact h
    | 4, h => exact h
    | 5, h => exact h
    | 6, h => exact h
    | 7, h => exact h
    | 8, h => exact h
    | 9, h => exact h
    | 10, h => exact h
    | 11, h => exact h
    | 12, h => exact h
    | 13, h => exact h
    | 14, h => exact h
    | 15, h => exact h
    | 16, h => exact h
    | 17, h => exact h
    | 18, h => exact h
    | 19, h => exact h
    | 20, h => exact h
    | 21, h => exact h
    | 22, h => exact h
    | 23, h => exact h
    | i + 24, _ => trivial
  have hV0 : ∀ v w', V 0 v w' ↔ v = .pointer (some ⟨K, 0, none⟩) := fun _ _ => by subst hVe; rfl
  have hV1 : ∀ v w', V 1 v w' ↔ v = .pointer (some ⟨K, 0, none⟩) := fun _ _ => by subst hVe; rfl
  have hV2 : ∀ v w', V 2 v w' ↔ v = .pointer (some ⟨K, 1, none⟩) := fun _ _ => by subst hVe; rfl
  have hV3 : ∀ v w', V 3 v w' ↔ v = .int .i64 at_ := fun _ _ => by subst hVe; rfl
  have hV4 : ∀ v w', V 4 v w' ↔ v = .pointer (some ⟨K, 0, none⟩) := fun _ _ => by subst hVe; rfl
  have hV5 : ∀ v w', V 5 v w' ↔ v = .pointer (some ⟨K, 0, none⟩) := fun _ _ => by subst hVe; rfl
  have hV6 : ∀ v w', V 6 v w' ↔ v = .pointer (some ⟨K, 0, none⟩) := fun _ _ => by subst hVe; rfl
  have hV7 : ∀ v w', V 7 v w' ↔ v = .slice (some ⟨g, 0, none⟩) L c := fun _ _ => by subst hVe; rfl
  have hV8 : ∀ v w', V 8 v w' ↔ v = .int .i64 L := fun _ _ => by subst hVe; rfl
  have hV9 : ∀ v w', V 9 v w' ↔ v = .bool false := fun _ _ => by subst hVe; rfl
  have hV10 : ∀ v w', V 10 v w' ↔ v = .bool false := fun _ _ => by subst hVe; rfl
  have hV11 : ∀ v w', V 11 v w' ↔ v = .pointer (some ⟨K, 0, none⟩) := fun _ _ => by subst hVe; rfl
  have hV12 : ∀ v w', V 12 v w' ↔ v = .pointer (some ⟨K, 0, none⟩) := fun _ _ => by subst hVe; rfl
  have hV13 : ∀ v w', V 13 v w' ↔ v = .pointer (some ⟨K, 0, none⟩) := fun _ _ => by subst hVe; rfl
  have hV14 : ∀ v w', V 14 v w' ↔ v = .slice (some ⟨g, 0, none⟩) L c := fun _ _ => by subst hVe; rfl
  have hV15 : ∀ v w', V 15 v w' ↔ v = .pointer (some ⟨K, 0, none⟩) := fun _ _ => by subst hVe; rfl
  have hV16 : ∀ v w', V 16 v w' ↔ v = .pointer (some ⟨K, 0, none⟩) := fun _ _ => by subst hVe; rfl
  have hV17 : ∀ v w', V 17 v w' ↔ v = .pointer (some ⟨K, 1, none⟩) := fun _ _ => by subst hVe; rfl
  have hV18 : ∀ v w', V 18 v w' ↔ v = .int .i64 at_ := fun _ _ => by subst hVe; rfl
  have hV19 : ∀ v w', V 19 v w' ↔ v = .pointer (some ⟨g, at_ * 7, none⟩) := fun _ _ => by subst hVe; rfl
  have hV20 : ∀ v w', V 20 v w' ↔ v = .agg #[.int .i64 5, .int .i64 0, .int .i64 0, .int .i64 0, .int .i64 0, .slice nA 0 nc, .string ⟨#[]⟩] := fun _ _ => by subst hVe; rfl
  have hV21 : ∀ v w', V 21 v w' ↔ v = .bool true := fun _ _ => by subst hVe; rfl
  have hV22 : ∀ v w', V 22 v w' ↔ v = .bool false := fun _ _ => by subst hVe; rfl
  have hV23 : ∀ v w', V 23 v w' ↔ v = .bool false := fun _ _ => by subst hVe; rfl
  obtain ⟨St, hSe⟩ : ∃ St : Nat → (Nat → Value) → World → Prop, St = fun s u w' => match s with
      | 0 => True
      | _ => False := ⟨_, rfl⟩
  have hSm : ∀ s u u' w1 w2, (∀ c ∈ [], u' c = u c) → St s u w1 → Below w1.heap.size w1 w2 → St s u' w2 := by
    intro s u u' w1 w2 hu h hb
    subst hSe
    match s, h with
    | 0, h => trivial
    | s + 1, h => exact h.elim
  have hS0 : ∀ u w', St 0 u w' ↔ (True) := fun _ _ => by subst hSe; rfl
  clear hVe hSe
  refine wp_region_inv (ChainInv (fun w w' => Below w.heap.size w w') V [] St w) (by kernel_rfl) (by kernel_rfl) (by kernel_rfl) ?start ?step ?fin
  case start => exact fun u => ChainInv.start hRel (Below.refl _ _).drew ((hS0 _ _).2 (trivial))
  case step =>
    simp only [putAll, Act.put, List.setIfInBounds_toArray, List.set_cons_zero, List.set_cons_succ, Nat.reduceAdd, Nat.zero_add]
    intro i o ho done u wr hnd hdep hI K hK
    obtain ⟨hcw, hfw⟩ := bcell hI.1
    match i, ho with
    | 0, ho =>
      simp only [List.getElem?_cons_zero, Option.some.injEq] at ho
      subst ho
      simp only [Act.put, List.setIfInBounds_toArray, List.set_cons_zero, List.set_cons_succ] at hK
      refine wpOp_step rfl fun K' hK' => ?_
      go_simp
      exact hK' _ _ (hK _ _ (hI.quiet hRel hnd (by decide) hVm hSm (Below.refl _ _) ((hV0 _ _).2 rfl)))
    | 1, ho =>
      simp only [List.getElem?_cons_succ, List.getElem?_cons_zero, Option.some.injEq] at ho
      subst ho
      simp only [Act.put, List.setIfInBounds_toArray, List.set_cons_zero, List.set_cons_succ] at hK
      have e0 := (hV0 _ _).1 (hI.know (hdep ⟨0, .data⟩ (by simp) rfl))
      simp only [e0] at hK
      refine wpOp_step rfl fun K' hK' => ?_
      go_simp
      exact hK' _ _ (hK _ _ (hI.quiet hRel hnd (by decide) hVm hSm (Below.refl _ _) ((hV1 _ _).2 rfl)))
    | 2, ho =>
      simp only [List.getElem?_cons_succ, List.getElem?_cons_zero, Option.some.injEq] at ho
      subst ho
      simp only [Act.put, List.setIfInBounds_toArray, List.set_cons_zero, List.set_cons_succ] at hK
      have e1 := (hV1 _ _).1 (hI.know (hdep ⟨1, .data⟩ (by simp) rfl))
      simp only [e1] at hK
      refine wpOp_step rfl fun K' hK' => ?_
      go_simp
      exact hK' _ _ (hK _ _ (hI.quiet hRel hnd (by decide) hVm hSm (Below.refl _ _) ((hV2 _ _).2 rfl)))
    | 3, ho =>
      simp only [List.getElem?_cons_succ, List.getElem?_cons_zero, Option.some.injEq] at ho
      subst ho
      simp only [Act.put, List.setIfInBounds_toArray, List.set_cons_zero, List.set_cons_succ] at hK
      have e2 := (hV2 _ _).1 (hI.know (hdep ⟨2, .data⟩ (by simp) rfl))
      simp only [e2] at hK
      refine wpOp_step rfl fun K' hK' => ?_
      go_simp
      exact hK' _ _ (hK _ _ (hI.quiet hRel hnd (by decide) hVm hSm (Below.refl _ _) ((hV3 _ _).2 rfl)))
    | 4, ho =>
      simp only [List.getElem?_cons_succ, List.getElem?_cons_zero, Option.some.injEq] at ho
      subst ho
      simp only [Act.put, List.setIfInBounds_toArray, List.set_cons_zero, List.set_cons_succ] at hK
      refine wpOp_step rfl fun K' hK' => ?_
      go_simp
      exact hK' _ _ (hK _ _ (hI.quiet hRel hnd (by decide) hVm hSm (Below.refl _ _) ((hV4 _ _).2 rfl)))
    | 5, ho =>
      simp only [List.getElem?_cons_succ, List.getElem?_cons_zero, Option.some.injEq] at ho
      subst ho
      simp only [Act.put, List.setIfInBounds_toArray, List.set_cons_zero, List.set_cons_succ] at hK
      have e4 := (hV4 _ _).1 (hI.know (hdep ⟨4, .data⟩ (by simp) rfl))
      simp only [e4] at hK
      refine wpOp_step rfl fun K' hK' => ?_
      go_simp
      exact hK' _ _ (hK _ _ (hI.quiet hRel hnd (by decide) hVm hSm (Below.refl _ _) ((hV5 _ _).2 rfl)))
    | 6, ho =>
      simp only [List.getElem?_cons_succ, List.getElem?_cons_zero, Option.some.injEq] at ho
      subst ho
      simp only [Act.put, List.setIfInBounds_toArray, List.set_cons_zero, List.set_cons_succ] at hK
      have e5 := (hV5 _ _).1 (hI.know (hdep ⟨5, .data⟩ (by simp) rfl))
      simp only [e5] at hK
      refine wpOp_step rfl fun K' hK' => ?_
      go_simp
      exact hK' _ _ (hK _ _ (hI.quiet hRel hnd (by decide) hVm hSm (Below.refl _ _) ((hV6 _ _).2 rfl)))
    | 7, ho =>
      simp only [List.getElem?_cons_succ, List.getElem?_cons_zero, Option.some.injEq] at ho
      subst ho
      simp only [Act.put, List.setIfInBounds_toArray, List.set_cons_zero, List.set_cons_succ] at hK
      have e6 := (hV6 _ _).1 (hI.know (hdep ⟨6, .data⟩ (by simp) rfl))
      simp only [e6] at hK
      refine wpOp_step rfl fun K' hK' => ?_
      go_simp
      exact hK' _ _ (hK _ _ (hI.quiet hRel hnd (by decide) hVm hSm (Below.refl _ _) ((hV7 _ _).2 rfl)))
    | 8, ho =>
      simp only [List.getElem?_cons_succ, List.getElem?_cons_zero, Option.some.injEq] at ho
      subst ho
      simp only [Act.put, List.setIfInBounds_toArray, List.set_cons_zero, List.set_cons_succ] at hK
      have e7 := (hV7 _ _).1 (hI.know (hdep ⟨7, .data⟩ (by simp) rfl))
      simp only [e7] at hK
      refine wpOp_step rfl fun K' hK' => ?_
      go_simp
      exact hK' _ _ (hK _ _ (hI.quiet hRel hnd (by decide) hVm hSm (Below.refl _ _) ((hV8 _ _).2 rfl)))
    | 9, ho =>
      simp only [List.getElem?_cons_succ, List.getElem?_cons_zero, Option.some.injEq] at ho
      subst ho
      simp only [Act.put, List.setIfInBounds_toArray, List.set_cons_zero, List.set_cons_succ] at hK
      have e3 := (hV3 _ _).1 (hI.know (hdep ⟨3, .data⟩ (by simp) rfl))
      have e8 := (hV8 _ _).1 (hI.know (hdep ⟨8, .data⟩ (by simp) rfl))
      simp only [e3, e8] at hK
      refine wpOp_step rfl fun K' hK' => ?_
      go_simp
      exact hK' _ _ (hK _ _ (hI.quiet hRel hnd (by decide) hVm hSm (Below.refl _ _) ((hV9 _ _).2 (by simp; omega))))
    | 10, ho =>
      simp only [List.getElem?_cons_succ, List.getElem?_cons_zero, Option.some.injEq] at ho
      subst ho
      simp only [Act.put, List.setIfInBounds_toArray, List.set_cons_zero, List.set_cons_succ] at hK
      have e9 := (hV9 _ _).1 (hI.know (hdep ⟨9, .data⟩ (by simp) rfl))
      simp only [e9] at hK
      refine wpOp_step rfl fun K' hK' => ?_
      go_simp
      exact hK' _ _ (hK _ _ (hI.quiet hRel hnd (by decide) hVm hSm (Below.refl _ _) ((hV10 _ _).2 rfl)))
    | 11, ho =>
      simp only [List.getElem?_cons_succ, List.getElem?_cons_zero, Option.some.injEq] at ho
      subst ho
      simp only [Act.put, List.setIfInBounds_toArray, List.set_cons_zero, List.set_cons_succ] at hK
      have e10 := (hV10 _ _).1 (hI.know (hdep ⟨10, .guard⟩ (by simp) rfl))
      simp only [e10] at hK
      refine wpOp_step rfl fun K' hK' => ?_
      go_simp
      exact hK' _ _ (hK _ _ (hI.quiet hRel hnd (by decide) hVm hSm (Below.refl _ _) ((hV11 _ _).2 rfl)))
    | 12, ho =>
      simp only [List.getElem?_cons_succ, List.getElem?_cons_zero, Option.some.injEq] at ho
      subst ho
      simp only [Act.put, List.setIfInBounds_toArray, List.set_cons_zero, List.set_cons_succ] at hK
      have e11 := (hV11 _ _).1 (hI.know (hdep ⟨11, .data⟩ (by simp) rfl))
      have e10 := (hV10 _ _).1 (hI.know (hdep ⟨10, .guard⟩ (by simp) rfl))
      simp only [e11, e10] at hK
      refine wpOp_step rfl fun K' hK' => ?_
      go_simp
      exact hK' _ _ (hK _ _ (hI.quiet hRel hnd (by decide) hVm hSm (Below.refl _ _) ((hV12 _ _).2 rfl)))
    | 13, ho =>
      simp only [List.getElem?_cons_succ, List.getElem?_cons_zero, Option.some.injEq] at ho
      subst ho
      simp only [Act.put, List.setIfInBounds_toArray, List.set_cons_zero, List.set_cons_succ] at hK
      have e12 := (hV12 _ _).1 (hI.know (hdep ⟨12, .data⟩ (by simp) rfl))
      have e10 := (hV10 _ _).1 (hI.know (hdep ⟨10, .guard⟩ (by simp) rfl))
      simp only [e12, e10] at hK
      refine wpOp_step rfl fun K' hK' => ?_
      go_simp
      exact hK' _ _ (hK _ _ (hI.quiet hRel hnd (by decide) hVm hSm (Below.refl _ _) ((hV13 _ _).2 rfl)))
    | 14, ho =>
      simp only [List.getElem?_cons_succ, List.getElem?_cons_zero, Option.some.injEq] at ho
      subst ho
      simp only [Act.put, List.setIfInBounds_toArray, List.set_cons_zero, List.set_cons_succ] at hK
      have e13 := (hV13 _ _).1 (hI.know (hdep ⟨13, .data⟩ (by simp) rfl))
      have e10 := (hV10 _ _).1 (hI.know (hdep ⟨10, .guard⟩ (by simp) rfl))
      simp only [e13, e10] at hK
      refine wpOp_step rfl fun K' hK' => ?_
      go_simp
      exact hK' _ _ (hK _ _ (hI.quiet hRel hnd (by decide) hVm hSm (Below.refl _ _) ((hV14 _ _).2 rfl)))
    | 15, ho =>
      simp only [List.getElem?_cons_succ, List.getElem?_cons_zero, Option.some.injEq] at ho
      subst ho
      simp only [Act.put, List.setIfInBounds_toArray, List.set_cons_zero, List.set_cons_succ] at hK
      have e10 := (hV10 _ _).1 (hI.know (hdep ⟨10, .guard⟩ (by simp) rfl))
      simp only [e10] at hK
      refine wpOp_step rfl fun K' hK' => ?_
      go_simp
      exact hK' _ _ (hK _ _ (hI.quiet hRel hnd (by decide) hVm hSm (Below.refl _ _) ((hV15 _ _).2 rfl)))
    | 16, ho =>
      simp only [List.getElem?_cons_succ, List.getElem?_cons_zero, Option.some.injEq] at ho
      subst ho
      simp only [Act.put, List.setIfInBounds_toArray, List.set_cons_zero, List.set_cons_succ] at hK
      have e15 := (hV15 _ _).1 (hI.know (hdep ⟨15, .data⟩ (by simp) rfl))
      have e10 := (hV10 _ _).1 (hI.know (hdep ⟨10, .guard⟩ (by simp) rfl))
      simp only [e15, e10] at hK
      refine wpOp_step rfl fun K' hK' => ?_
      go_simp
      exact hK' _ _ (hK _ _ (hI.quiet hRel hnd (by decide) hVm hSm (Below.refl _ _) ((hV16 _ _).2 rfl)))
    | 17, ho =>
      simp only [List.getElem?_cons_succ, List.getElem?_cons_zero, Option.some.injEq] at ho
      subst ho
      simp only [Act.put, List.setIfInBounds_toArray, List.set_cons_zero, List.set_cons_succ] at hK
      have e16 := (hV16 _ _).1 (hI.know (hdep ⟨16, .data⟩ (by simp) rfl))
      have e10 := (hV10 _ _).1 (hI.know (hdep ⟨10, .guard⟩ (by simp) rfl))
      simp only [e16, e10] at hK
      refine wpOp_step rfl fun K' hK' => ?_
      go_simp
      exact hK' _ _ (hK _ _ (hI.quiet hRel hnd (by decide) hVm hSm (Below.refl _ _) ((hV17 _ _).2 rfl)))
    | 18, ho =>
      simp only [List.getElem?_cons_succ, List.getElem?_cons_zero, Option.some.injEq] at ho
      subst ho
      simp only [Act.put, List.setIfInBounds_toArray, List.set_cons_zero, List.set_cons_succ] at hK
      have e17 := (hV17 _ _).1 (hI.know (hdep ⟨17, .data⟩ (by simp) rfl))
      have e10 := (hV10 _ _).1 (hI.know (hdep ⟨10, .guard⟩ (by simp) rfl))
      simp only [e17, e10] at hK
      refine wpOp_step rfl fun K' hK' => ?_
      go_simp
      exact hK' _ _ (hK _ _ (hI.quiet hRel hnd (by decide) hVm hSm (Below.refl _ _) ((hV18 _ _).2 rfl)))
    | 19, ho =>
      simp only [List.getElem?_cons_succ, List.getElem?_cons_zero, Option.some.injEq] at ho
      subst ho
      simp only [Act.put, List.setIfInBounds_toArray, List.set_cons_zero, List.set_cons_succ] at hK
      have e14 := (hV14 _ _).1 (hI.know (hdep ⟨14, .data⟩ (by simp) rfl))
      have e18 := (hV18 _ _).1 (hI.know (hdep ⟨18, .data⟩ (by simp) rfl))
      have e10 := (hV10 _ _).1 (hI.know (hdep ⟨10, .guard⟩ (by simp) rfl))
      simp only [e14, e18, e10] at hK
      refine wpOp_step rfl fun K' hK' => ?_
      go_simp
      exact hK' _ _ (hK _ _ (hI.quiet hRel hnd (by decide) hVm hSm (Below.refl _ _) ((hV19 _ _).2 rfl)))
    | 20, ho =>
      simp only [List.getElem?_cons_succ, List.getElem?_cons_zero, Option.some.injEq] at ho
      subst ho
      simp only [Act.put, List.setIfInBounds_toArray, List.set_cons_zero, List.set_cons_succ] at hK
      have e19 := (hV19 _ _).1 (hI.know (hdep ⟨19, .data⟩ (by simp) rfl))
      have e10 := (hV10 _ _).1 (hI.know (hdep ⟨10, .guard⟩ (by simp) rfl))
      simp only [e19, e10] at hK
      refine wpOp_step rfl fun K' hK' => ?_
      go_simp
      exact hK' _ _ (hK _ _ (hI.quiet hRel hnd (by decide) hVm hSm (Below.refl _ _) ((hV20 _ _).2 rfl)))
    | 21, ho =>
      simp only [List.getElem?_cons_succ, List.getElem?_cons_zero, Option.some.injEq] at ho
      subst ho
      simp only [Act.put, List.setIfInBounds_toArray, List.set_cons_zero, List.set_cons_succ] at hK
      have e20 := (hV20 _ _).1 (hI.know (hdep ⟨20, .data⟩ (by simp) rfl))
      have e10 := (hV10 _ _).1 (hI.know (hdep ⟨10, .guard⟩ (by simp) rfl))
      simp only [e20, e10] at hK
      refine wpOp_step rfl fun K' hK' => ?_
      go_simp
      refine (HRT.out wr nA nc (HST.out.below (HBW.out.trans (hI.1.mono HBW.out.size)))).mono ?_
      rintro e w2 ⟨rfl, hb2⟩
      exact hK' _ _ (hK _ _ (hI.quiet hRel hnd (by decide) hVm hSm hb2 ((hV21 _ _).2 rfl)))
    | 22, ho =>
      simp only [List.getElem?_cons_succ, List.getElem?_cons_zero, Option.some.injEq] at ho
      subst ho
      simp only [Act.put, List.setIfInBounds_toArray, List.set_cons_zero, List.set_cons_succ] at hK
      have e21 := (hV21 _ _).1 (hI.know (hdep ⟨21, .data⟩ (by simp) rfl))
      have e10 := (hV10 _ _).1 (hI.know (hdep ⟨10, .guard⟩ (by simp) rfl))
      simp only [e21, e10] at hK
      refine wpOp_step rfl fun K' hK' => ?_
      go_simp
      exact hK' _ _ (hK _ _ (hI.quiet hRel hnd (by decide) hVm hSm (Below.refl _ _) ((hV22 _ _).2 rfl)))
    | 23, ho =>
      simp only [List.getElem?_cons_succ, List.getElem?_cons_zero, Option.some.injEq] at ho
      subst ho
      simp only [Act.put, List.setIfInBounds_toArray, List.set_cons_zero, List.set_cons_succ] at hK
      have e10 := (hV10 _ _).1 (hI.know (hdep ⟨10, .data⟩ (by simp) rfl))
      have e22 := (hV22 _ _).1 (hI.know (hdep ⟨22, .data⟩ (by simp) rfl))
      simp only [e10, e22] at hK
      refine wpOp_step rfl fun K' hK' => ?_
      go_simp
      exact hK' _ _ (hK _ _ (hI.quiet hRel hnd (by decide) hVm hSm (Below.refl _ _) ((hV23 _ _).2 rfl)))
    | i + 24, ho => simp at ho
  case fin =>
    simp only [putAll, Act.put, List.setIfInBounds_toArray, List.set_cons_zero, List.set_cons_succ, Nat.reduceAdd, Nat.zero_add]
    intro done u wr hd hI
    simp only [List.length_cons, List.length_nil, Nat.reduceAdd, Nat.zero_add] at hd
    have hS := (hS0 _ _).1 (hI.end_ (fun c hc => hd c (by simp at hc)))
    have f23 := (hV23 _ _).1 (hI.know (hd 23 (by omega)))
    have hbr := hI.1
    have HWR := Lib.hid (HW.out.below hbr)
    have HSR := Lib.hid (HST.out.below hbr)
    have hrs := hbr.size
    obtain ⟨hcw, hfw⟩ := bcell hbr
    have d0 := (hcw K 0 hKl).trans c0
    have d1 := (hcw K 1 hKl).trans c1
    have d2 := (hcw K 2 hKl).trans c2
    have df := (hfw K 1 hKl).trans cf
    have dl : K < wr.heap.size := by omega
    have gl2 : g < wr.heap.size := by omega
    have m0 := (hcw g (at_ * 7) hgl).trans n0
    have m1 := (hcw g (at_ * 7 + 1) hgl).trans n1
    have m2 := (hcw g (at_ * 7 + 2) hgl).trans n2
    have m3 := (hcw g (at_ * 7 + 3) hgl).trans n3
    have m4 := (hcw g (at_ * 7 + 4) hgl).trans n4
    have m5 := (hcw g (at_ * 7 + 5) hgl).trans n5
    have m6 := (hcw g (at_ * 7 + 6) hgl).trans n6
    have hGR := Lib.hid (grownBy_of_below (row := some K) hbr (Nat.le_refl _))
    clear hcw hfw c0 c1 c2 cf cf2 n0 n1 n2 n3 n4 n5 n6
    simp only [f23]
    clear hI hd hS hV0 hV1 hV2 hV3 hV4 hV5 hV6 hV7 hV8 hV9 hV10 hV11 hV12 hV13 hV14 hV15 hV16 hV17 hV18 hV19 hV20 hV21 hV22 hV23 hVm hSm hS0 hRel f23 hbr
    go_wp2_with fail
    go_region
    all_goals go_wp2_with fail
    all_goals go_ret
    all_goals exact ⟨_, _, rfl, (HWR.out.next (by rw [← HL.out]; exact hlt)).below ((below_one _ _).drew), grownBy_then (grownBy_trans hGR.out (grownBy_setCell _ _ _ _)) ((below_one _ _).drew)⟩


end Go.Proofs.YtihndbkaoejnnaaGreatDoor

namespace Go.Proofs.YtihndbkaoejnnaaGreatDoor
open Go Go.RowKit Go.Proofs.YtihndbkaoejnnaaGreatDoor.P

theorem checkCatch_idle (p q : Addr) (w : World) : CallsD Tryz.prog 95 #[.pointer (some p), .pointer (some q)] .returning w fun e u' w' => e = .returned (.tuple #[]) ∧ u' = .returning ∧ w' = w := by
  refine callsD_of_wpS Tryz.func95 rfl fun c₀ cs hu => ?_
  apply wpS_seq
  apply wpS_region
  simp [wpOpsS, go_sem, recoverD, hu, Tryz.ntmps95, Exit.thenS]
  refine wpS_of_wp ?_
  simp only [Array.replicate, List.replicate, List.setIfInBounds_toArray, List.set_cons_zero, List.set_cons_succ, List.append_toArray, List.cons_append, List.nil_append]
  go_wp2
  cases c₀
  simp_all [bodyPostS, results, Tryz.results95]

/-- The nodes are a tree's. -/
structure Walked (ns : List Nd) : Prop where
  walk : WExpr ns 0 0 ns.length
  head : ∃ x, ns[0]? = some x ∧ x.op ≠ 9
  few : ns.length ≤ 390

set_option maxRecDepth 100000 in
set_option maxHeartbeats 8000000 in
theorem readTree {ns : List Nd} {w : World} {M g c : Nat} (hst : Std w) (hM : 6 ≤ M) (hnds : NdsAt w M g c ns) (hwk : Walked ns) :
    Calls Tryz.prog 66 #[.slice (some ⟨g, 0, none⟩) ns.length c] w fun e w' => (∃ v, e = .returned (.tuple #[v, .nilIface])) ∧ Below w.heap.size w w' := by
  have hmf : ∀ (fn : Fn) (first cap : Array Value) (w : World), (Instr.makeFunc fn first cap).run Tryz.prog w = .ok (.func fn first cap) w := fun _ _ _ _ => rfl
  obtain ⟨x, hx, hx9⟩ := hwk.head
  have hn0 : 0 < ns.length := (List.getElem?_eq_some_iff.1 hx).1
  have hn390 := hwk.few
  obtain ⟨nA, nc, n0, -⟩ := hnds.2.2.2.2.2 0 x hx
  simp only [Nat.zero_mul] at n0
  obtain ⟨op, hop⟩ : ∃ op, op = x.op := ⟨_, rfl⟩
  rw [← hop] at n0 hx9
  have hgM := hnds.1
  have hMs := hnds.2.1
  have hLc := hnds.2.2.1
  have hcm := hnds.2.2.2.1
  have hgl : g < w.heap.size := by omega
  have e9 : (op == 9) = false := by simpa using hx9
  have n0' := fun o p q => ((bcell (below_three w o p q)).1 g 0 hgl).trans n0
  have hWA : WAt (((w.alloc (.cells #[.nilIface] 93)).alloc (.cells #[.nilIface] 29)).alloc (.cells #[.slice (some ⟨g, 0, none⟩) ns.length c, .int .i64 0, .int .i64 0] 166)) (w.heap.size + 1 + 1) M g c ns 0 0 :=
    ⟨by have := Box.new ((w.alloc (.cells #[.nilIface] 93)).alloc (.cells #[.nilIface] 29)) 166 #[.slice (some ⟨g, 0, none⟩) ns.length c, .int .i64 0, .int .i64 0]; simpa using this, by omega,
      hnds.below (below_three w _ _ _), Nat.zero_le _, by omega⟩
  have hSt : Std (((w.alloc (.cells #[.nilIface] 93)).alloc (.cells #[.nilIface] 29)).alloc (.cells #[.slice (some ⟨g, 0, none⟩) ns.length c, .int .i64 0, .int .i64 0] 166)) := hst.below (below_three w _ _ _)
  have HCALL := Lib.hid (hwk.walk _ _ M g c hSt (show 6 ≤ w.heap.size + 1 + 1 by omega) hWA)
  have hb3 := below_three w (.cells #[.nilIface] 93) (.cells #[.nilIface] 29) (.cells #[.slice (some ⟨g, 0, none⟩) ns.length c, .int .i64 0, .int .i64 0] 166)
  have x1 := (Box.new w 93 #[.nilIface]).alloc (.cells #[.nilIface] 29)
  have x2 := Box.new (w.alloc (.cells #[.nilIface] 93)) 29 #[.nilIface]
  simp only [World.size_alloc] at x2
  have X1 := Lib.hid (x1.alloc (.cells #[.slice (some ⟨g, 0, none⟩) ns.length c, .int .i64 0, .int .i64 0] 166))
  have X2 := Lib.hid (x2.alloc (.cells #[.slice (some ⟨g, 0, none⟩) ns.length c, .int .i64 0, .int .i64 0] 166))
  have HB3 := Lib.hid hb3
  obtain ⟨n, hn⟩ : ∃ n, n = ns.length := ⟨_, rfl⟩
  rw [← hn] at HCALL X1 X2 HB3 hn0 hn390 hLc ⊢
  have HN := Lib.hid hn
  clear x1 x2 hb3 hWA hSt hnds hwk hop hx hn
  go_enter_defers Tryz.func66, Tryz.ntmps66
  go_wp2_with fail
  refine HCALL.out.mono ?_
  rintro e w4 ⟨T, u, rfl, hw4, hg4⟩
  obtain ⟨c0, c1, c2⟩ := Box.three hw4.1
  rw [← HN.out] at c0
  have hKl := hw4.1.lt
  have V1 := Box.grown X1.out hg4 (by intro e; injection e; omega)
  have V2 := Box.grown X2.out hg4 (by intro e; injection e; omega)
  have d1 := V1.one
  have d2 := V2.one
  have f1 := V1.frozen 0
  have f2 := V2.frozen 0
  have l1 := V1.lt
  have l2 := V2.lt
  have HG4 := Lib.hid hg4
  clear hg4 hw4 V1 V2
  go_wp2_with fail
  refine leaves_cons (f := 95) (args := #[.pointer (some ⟨w.heap.size, 0, none⟩), .pointer (some ⟨w.heap.size + 1, 0, none⟩)]) (by simp) (by simp [go_sem]) ?_
  refine (checkCatch_idle _ _ _).mono ?_
  rintro e u' w'' ⟨rfl, rfl, rfl⟩
  simp [Leaves, settle, results, Tryz.results66, go_sem, d1, d2, f1, f2, l1, l2]
  have hA := HB3.out.grown HG4.out HB3.out.size (fun k e => by injection e; omega)
  exact (((hA.setCell (p := ⟨w.heap.size, 0, none⟩) (Nat.le_refl _) _).setCell (p := ⟨w.heap.size, 0, none⟩) (Nat.le_refl _) _).setCell (p := ⟨w.heap.size + 1, 0, none⟩) (Nat.le_add_right _ _) _)

set_option maxRecDepth 100000 in
set_option maxHeartbeats 8000000 in
theorem treeCheck_any {ns : List Nd} {w : World} {M g c : Nat} (hst : Std w) (hM : 6 ≤ M) (hnds : NdsAt w M g c ns) (hwk : Walked ns) :
    Calls Tryz.prog 49 #[.slice (some ⟨g, 0, none⟩) ns.length c] w fun e w' => e = .returned .nilIface ∧ Below w.heap.size w w' := by
  have HR := Lib.hid (readTree hst hM hnds hwk)
  go_enter Tryz.func49, Tryz.ntmps49
  go_wp2_with fail
  refine HR.out.mono ?_
  rintro e w1 ⟨⟨v, rfl⟩, hb⟩
  go_wp2_with fail
  go_ret
  exact ⟨rfl, hb⟩

end Go.Proofs.YtihndbkaoejnnaaGreatDoor

namespace Go.Proofs.YtihndbkaoejnnaaGreatDoor
open Go Go.RowKit Go.Proofs.YtihndbkaoejnnaaGreatDoor.P



/-- Whatever is no list of nodes stays. -/
def NodeRel (w w' : World) : Prop := w.heap.size ≤ w'.heap.size ∧ ∀ (k : Nat) (cs : Array Value) (t : TypeId), t ≠ 101 → Box w k t cs → Box w' k t cs
theorem nodeRels : Rels NodeRel := ⟨fun hb => ⟨hb.size, fun k cs t _ h => h.below hb⟩, fun h h2 => ⟨Nat.le_trans h.1 h2.1, fun k cs t ht hx => h2.2 k cs t ht (h.2 k cs t ht hx)⟩⟩
theorem nodeRel_grown {w w' : World} {B n : Nat} {tv : Value} {us : List Value} (ho : w.ownsRow B 101 7 tv n us) (hg : w.grownBy w' tv.ownBlock) : NodeRel w w' :=
  ⟨hg.size, fun k cs t ht hx => hx.grown hg (ownsR_ne ho hx ht)⟩

/-- In the midst of flattening: these nodes have been appended. -/
def Mid (ns ms : List Nd) (B : Nat) (tv : Value) (w : World) (tv' : Value) (w' : World) : Prop := ToList w' B tv' (ms ++ ns) ∧ w.grownBy w' tv.ownBlock ∧ (tv'.ownBlock = tv.ownBlock ∨ ∀ k, tv'.ownBlock = some k → w.heap.size ≤ k)
theorem Mid.below {ns ms : List Nd} {B : Nat} {tv tv' : Value} {w w1 w2 : World} (h : Mid ns ms B tv w tv' w1) (hb : Below w1.heap.size w1 w2) : Mid ns ms B tv w tv' w2 :=
  ⟨h.1.below hb, grownBy_then h.2.1 hb, h.2.2⟩
theorem Mid.flats {ns ms : List Nd} {B : Nat} {tv tv' : Value} {w w1 : World} (h : Mid ns ms B tv w tv' w1) : Flats ns ms B tv w (.returned tv') w1 := ⟨_, rfl, h⟩
/-- More nodes behind them. -/
theorem Mid.more {ns ns2 ms : List Nd} {B : Nat} {tv tv' : Value} {w w1 w2 : World} {e : Ending} (h : Mid ns ms B tv w tv' w1) (h2 : Flats ns2 (ms ++ ns) B tv' w1 e w2) : ∃ tv2, e = .returned tv2 ∧ Mid (ns ++ ns2) ms B tv w tv2 w2 ∧ NodeRel w1 w2 := by
  obtain ⟨tv2, rfl, h3, h4, h5⟩ := h2
  obtain ⟨us, ho, -⟩ := h.1
  exact ⟨tv2, rfl, ⟨by rw [← List.append_assoc]; exact h3, grownBy_chain h.2.1 h4 h.2.2, own_chain h.2.1.size h.2.2 h5⟩, nodeRel_grown ho h4⟩
theorem Mid.start {ms : List Nd} {B : Nat} {tv : Value} {w w1 : World} (h : ToList w B tv ms) (hb : Below w.heap.size w w1) : Mid [] ms B tv w tv w1 := ⟨by rw [List.append_nil]; exact h.below hb, grownBy_of_below hb (Nat.le_refl _), .inl rfl⟩
theorem Mid.later {w0 w w1 : World} {P B : Nat} {tv tv' : Value} {ns ms : List Nd} (h : Mid ns ms B tv w tv' w1) (hw : ExKept P w0 w) (ht : ToList w B tv ms) (hB : w0.heap.size ≤ B) : ExKept P w0 w1 := by
  obtain ⟨us, ho, -⟩ := ht
  exact hw.row h.2.1 (fun k hk => Nat.le_trans hB (ho.lt k hk).1)
theorem mid_one {ms : List Nd} {B : Nat} {tv tv' : Value} {w w1 w5 : World} {us vs : List Value} {x : Nd} (h : Mid [] ms B tv w tv w1) (ho : w1.ownsRow B 101 7 tv ms.length us) (hc : NdsCells w1 B us ms) (hx : NdCells w1 B vs x) (hg : w1.grownBy w5 tv.ownBlock)
    (h5 : w5.ownsRow B 101 7 tv' (ms.length + 1) (us ++ vs)) (hat : tv'.ownBlock = tv.ownBlock ∨ tv'.ownBlock = some w1.heap.size) : Mid [x] ms B tv w tv' w5 := by
  obtain ⟨tv2, e, h2, -⟩ := h.more (e := .returned tv') (by rw [List.append_nil]; exact flats_one (Below.refl _ _) ho hc hx hg h5 hat)
  injection e with e
  subst e
  exact h2


set_option maxRecDepth 100000 in
set_option maxHeartbeats 8000000 in
theorem flat_one {aop af ag n : Int} {bv rv : Value} {nss : List (List Nd)} {ns : List Nd} {w0 w : World} {P B : Nat} {tv : Value} {ms : List Nd} (hbv : IsExprs w0 P bv nss) (hrv : IsExpr w0 P rv ns) (hw : ExKept P w0 w) (hP : P < w0.heap.size) (hB0 : w0.heap.size ≤ B) (hB : B ≤ w.heap.size) (h : ToList w B tv ms)
    (hn : ms.length + (1 + (catNs nss).length + ns.length) ≤ 800) :
    Calls Tryz.prog 267 #[.agg #[.int .i64 aop, .int .i64 af, .int .i64 ag, .int .i64 n, bv, rv], tv] w (Flats ([⟨6, aop, af, ag, n, [], ⟨#[]⟩⟩] ++ catNs nss ++ ns) ms B tv w) := by
  have hm := mixedZ
  obtain ⟨rT, ru, rfl⟩ : ∃ T u, rv = .iface T u := by obtain ⟨T, u, f, e, -⟩ := hrv; exact ⟨T, u, e⟩
  obtain ⟨bA, bn, bc, rfl⟩ : ∃ A k c, bv = .slice A k c := by obtain ⟨A, c, vs, e, -⟩ := hbv; exact ⟨A, _, c, e⟩
  have HB := Lib.hid hbv
  have HR := Lib.hid hrv
  have HW := Lib.hid hw
  have HT := Lib.hid h
  have HN := Lib.hid hn
  clear hbv hrv hw h hn
  go_enter Tryz.func267, Tryz.ntmps267
  go_wp2_with fail
  have hx0 := Box.new w 161 #[.int .i64 aop, .int .i64 af, .int .i64 ag, .int .i64 n, .slice bA bn bc, .iface rT ru]
  have hb0 := below_one w (.cells #[.int .i64 aop, .int .i64 af, .int .i64 ag, .int .i64 n, .slice bA bn bc, .iface rT ru] 161)
  obtain ⟨W, hWe⟩ : ∃ W, W = w.alloc (.cells #[.int .i64 aop, .int .i64 af, .int .i64 ag, .int .i64 n, .slice bA bn bc, .iface rT ru] 161) := ⟨_, rfl⟩
  rw [← hWe] at hx0 hb0 ⊢
  have hWs : w.heap.size < W.heap.size := by rw [hWe]; simp
  clear hWe
  have hRel : Rels (NodeRel) := nodeRels
  obtain ⟨V, hVe⟩ : ∃ V : Nat → Value → World → Prop, V = fun i v w' => match i with
      | 0 => v = tv
      | 1 => v = .pointer (some ⟨w.heap.size, 0, none⟩)
      | 2 => v = .agg #[.int .i64 aop, .int .i64 af, .int .i64 ag, .int .i64 n, .slice bA bn bc]
      | 3 => v = .agg #[.int .i64 6, .int .i64 aop, .int .i64 af, .int .i64 ag, .int .i64 n, .slice none 0 0, .string ⟨#[]⟩]
      | 6 => v = .pointer (some ⟨w.heap.size, 0, none⟩)
      | 7 => v = .pointer (some ⟨w.heap.size, 4, none⟩)
      | 8 => v = .slice bA bn bc
      | 10 => v = .pointer (some ⟨w.heap.size, 5, none⟩)
      | 11 => v = .iface rT ru
      | 12 => ∃ g, v = .slice (some ⟨g, 0, none⟩) 1 1 ∧ W.heap.size ≤ g ∧ Box w' g 93 #[.iface rT ru]
      | _ => True := ⟨_, rfl⟩
  have hVm : ∀ j v w1 w2, V j v w1 → (NodeRel) w1 w2 → V j v w2 := by
    intro j v w1 w2 h hr
    subst hVe
    match j, h with
    | 0, h => exact h
    | 1, h => exact h
    | 2, h => exact h
    | 3, h => exact h
    | 4, _ => trivial
    | 5, _ => trivial
    | 6, h => exact h
    | 7, h => exact h
    | 8, h => exact h
    | 9, _ => trivial
    | 10, h => exact h
    | 11, h => exact h
    | 12, ⟨g, e, hg, hx⟩ => exact ⟨g, e, hg, hr.2 _ _ _ (by decide) hx⟩
    | i + 13, _ => trivial
  have hV0 : ∀ v w', V 0 v w' ↔ v = tv := fun _ _ => by subst hVe; rfl
  have hV1 : ∀ v w', V 1 v w' ↔ v = .pointer (some ⟨w.heap.size, 0, none⟩) := fun _ _ => by subst hVe; rfl
  have hV2 : ∀ v w', V 2 v w' ↔ v = .agg #[.int .i64 aop, .int .i64 af, .int .i64 ag, .int .i64 n, .slice bA bn bc] := fun _ _ => by subst hVe; rfl
  have hV3 : ∀ v w', V 3 v w' ↔ v = .agg #[.int .i64 6, .int .i64 aop, .int .i64 af, .int .i64 ag, .int .i64 n, .slice none 0 0, .string ⟨#[]⟩] := fun _ _ => by subst hVe; rfl
  have hV6 : ∀ v w', V 6 v w' ↔ v = .pointer (some ⟨w.heap.size, 0, none⟩) := fun _ _ => by subst hVe; rfl
  have hV7 : ∀ v w', V 7 v w' ↔ v = .pointer (some ⟨w.heap.size, 4, none⟩) := fun _ _ => by subst hVe; rfl
  have hV8 : ∀ v w', V 8 v w' ↔ v = .slice bA bn bc := fun _ _ => by subst hVe; rfl
  have hV10 : ∀ v w', V 10 v w' ↔ v = .pointer (some ⟨w.heap.size, 5, none⟩) := fun _ _ => by subst hVe; rfl
  have hV11 : ∀ v w', V 11 v w' ↔ v = .iface rT ru := fun _ _ => by subst hVe; rfl
  have hV12 : ∀ v w', V 12 v w' ↔ ∃ g, v = .slice (some ⟨g, 0, none⟩) 1 1 ∧ W.heap.size ≤ g ∧ Box w' g 93 #[.iface rT ru] := fun _ _ => by subst hVe; rfl
  have hV4 : ∀ v w', V 4 v w' := fun _ _ => by subst hVe; trivial
  have hV5 : ∀ v w', V 5 v w' := fun _ _ => by subst hVe; trivial
  have hV9 : ∀ v w', V 9 v w' := fun _ _ => by subst hVe; trivial
  have hV13 : ∀ v w', V 13 v w' := fun _ _ => by subst hVe; trivial
  have hV14 : ∀ v w', V 14 v w' := fun _ _ => by subst hVe; trivial
  obtain ⟨St, hSe⟩ : ∃ St : Nat → (Nat → Value) → World → Prop, St = fun s u w' => match s with
      | 0 => Mid [] ms B tv w tv w'
      | 1 => Mid [] ms B tv w tv w' ∧ ∃ g, u 4 = .slice (some ⟨g, 0, none⟩) 1 1 ∧ CellsAt w' (some ⟨g, 0, none⟩) [.int .i64 6, .int .i64 aop, .int .i64 af, .int .i64 ag, .int .i64 n, .slice none 0 0, .string ⟨#[]⟩]
      | 2 => Mid [⟨6, aop, af, ag, n, [], ⟨#[]⟩⟩] ms B tv w (u 5) w'
      | 3 => Mid ([⟨6, aop, af, ag, n, [], ⟨#[]⟩⟩] ++ catNs nss) ms B tv w (u 9) w'
      | 4 => Mid ([⟨6, aop, af, ag, n, [], ⟨#[]⟩⟩] ++ catNs nss ++ ns) ms B tv w (u 13) w'
      | 5 => Mid ([⟨6, aop, af, ag, n, [], ⟨#[]⟩⟩] ++ catNs nss ++ ns) ms B tv w (u 14) w'
      | _ => False := ⟨_, rfl⟩
  have hSm : ∀ s u u' w1 w2, (∀ c ∈ [4, 5, 9, 13, 14], u' c = u c) → St s u w1 → Below w1.heap.size w1 w2 → St s u' w2 := by
    intro s u u' w1 w2 hu h hb
    subst hSe
    match s, h with
    | 0, h => exact Mid.below h hb
    | 1, ⟨h, g, e, hc⟩ => exact ⟨Mid.below h hb, g, by rw [hu 4 (by decide)]; exact e, hc.mono hb⟩
    | 2, h => rw [hu 5 (by decide)]; exact Mid.below h hb
    | 3, h => rw [hu 9 (by decide)]; exact Mid.below h hb
    | 4, h => rw [hu 13 (by decide)]; exact Mid.below h hb
    | 5, h => rw [hu 14 (by decide)]; exact Mid.below h hb
    | s + 6, h => exact h.elim
  have hS0 : ∀ u w', St 0 u w' ↔ (Mid [] ms B tv w tv w') := fun _ _ => by subst hSe; rfl
  have hS1 : ∀ u w', St 1 u w' ↔ (Mid [] ms B tv w tv w' ∧ ∃ g, u 4 = .slice (some ⟨g, 0, none⟩) 1 1 ∧ CellsAt w' (some ⟨g, 0, none⟩) [.int .i64 6, .int .i64 aop, .int .i64 af, .int .i64 ag, .int .i64 n, .slice none 0 0, .string ⟨#[]⟩]) := fun _ _ => by subst hSe; rfl
  have hS2 : ∀ u w', St 2 u w' ↔ (Mid [⟨6, aop, af, ag, n, [], ⟨#[]⟩⟩] ms B tv w (u 5) w') := fun _ _ => by subst hSe; rfl
  have hS3 : ∀ u w', St 3 u w' ↔ (Mid ([⟨6, aop, af, ag, n, [], ⟨#[]⟩⟩] ++ catNs nss) ms B tv w (u 9) w') := fun _ _ => by subst hSe; rfl
  have hS4 : ∀ u w', St 4 u w' ↔ (Mid ([⟨6, aop, af, ag, n, [], ⟨#[]⟩⟩] ++ catNs nss ++ ns) ms B tv w (u 13) w') := fun _ _ => by subst hSe; rfl
  have hS5 : ∀ u w', St 5 u w' ↔ (Mid ([⟨6, aop, af, ag, n, [], ⟨#[]⟩⟩] ++ catNs nss ++ ns) ms B tv w (u 14) w') := fun _ _ => by subst hSe; rfl
  clear hVe hSe
  refine wp_region_inv (ChainInv (NodeRel) V [4, 5, 9, 13, 14] St W) (by kernel_rfl) (by kernel_rfl) (by kernel_rfl) ?start ?step ?fin
  case start => exact fun u => ChainInv.start hRel (Below.refl _ _).drew ((hS0 _ _).2 (Mid.start HT.out hb0.drew))
  case step =>
    simp only [putAll, Act.put, List.setIfInBounds_toArray, List.set_cons_zero, List.set_cons_succ, Nat.reduceAdd, Nat.zero_add]
    intro i o ho done u wr hnd hdep hI K hK
    have hx := hI.1.2 _ _ _ (by decide) hx0
    obtain ⟨c0, c1, c2, c3, c4, c5⟩ := (show _ ∧ _ ∧ _ ∧ _ ∧ _ ∧ _ from ⟨hx.cell 0, hx.cell 1, hx.cell 2, hx.cell 3, hx.cell 4, hx.cell 5⟩)
    have hWr := hI.1.1
    match i, ho with
    | 0, ho =>
      simp only [List.getElem?_cons_zero, Option.some.injEq] at ho
      subst ho
      simp only [Act.put, List.setIfInBounds_toArray, List.set_cons_zero, List.set_cons_succ] at hK
      refine wpOp_step rfl fun K' hK' => ?_
      go_simp
      exact hK' _ _ (hK _ _ (hI.quiet hRel hnd (by decide) hVm hSm (Below.refl _ _) ((hV0 _ _).2 rfl)))
    | 1, ho =>
      simp only [List.getElem?_cons_succ, List.getElem?_cons_zero, Option.some.injEq] at ho
      subst ho
      simp only [Act.put, List.setIfInBounds_toArray, List.set_cons_zero, List.set_cons_succ] at hK
      refine wpOp_step rfl fun K' hK' => ?_
      go_simp
      exact hK' _ _ (hK _ _ (hI.quiet hRel hnd (by decide) hVm hSm (Below.refl _ _) ((hV1 _ _).2 rfl)))
    | 2, ho =>
      simp only [List.getElem?_cons_succ, List.getElem?_cons_zero, Option.some.injEq] at ho
      subst ho
      simp only [Act.put, List.setIfInBounds_toArray, List.set_cons_zero, List.set_cons_succ] at hK
      have e1 := (hV1 _ _).1 (hI.know (hdep ⟨1, .data⟩ (by simp) rfl))
      simp only [e1] at hK
      refine wpOp_step rfl fun K' hK' => ?_
      go_simp
      exact hK' _ _ (hK _ _ (hI.quiet hRel hnd (by decide) hVm hSm (Below.refl _ _) ((hV2 _ _).2 rfl)))
    | 3, ho =>
      simp only [List.getElem?_cons_succ, List.getElem?_cons_zero, Option.some.injEq] at ho
      subst ho
      simp only [Act.put, List.setIfInBounds_toArray, List.set_cons_zero, List.set_cons_succ] at hK
      have e2 := (hV2 _ _).1 (hI.know (hdep ⟨2, .data⟩ (by simp) rfl))
      simp only [e2] at hK
      refine wpOp_step rfl fun K' hK' => ?_
      go_simp
      refine (node_any).mono ?_
      rintro e w1 ⟨rfl, hb1⟩
      exact hK' _ _ (hK _ _ (hI.quiet hRel hnd (by decide) hVm hSm hb1 ((hV3 _ _).2 rfl)))
    | 4, ho =>
      simp only [List.getElem?_cons_succ, List.getElem?_cons_zero, Option.some.injEq] at ho
      subst ho
      simp only [Act.put, List.setIfInBounds_toArray, List.set_cons_zero, List.set_cons_succ] at hK
      have e3 := (hV3 _ _).1 (hI.know (hdep ⟨3, .data⟩ (by simp) rfl))
      simp only [e3] at hK
      have hs := (hS0 _ _).1 (hI.at_ (k := 0) rfl hnd (.inl rfl))
      refine wpOp_step rfl fun K' hK' => ?_
      go_simp
      exact hK' _ _ (hK _ _ (hI.step hRel (k := 0) rfl hnd (.inl rfl) (by decide) hVm (hRel.below (below_one _ _)) (hV4 _ _) ((hS1 _ _).2 (⟨hs.below (below_one _ _), _, by rw [upd_same], cellsAt_new wr 101 [.int .i64 6, .int .i64 aop, .int .i64 af, .int .i64 ag, .int .i64 n, .slice none 0 0, .string ⟨#[]⟩]⟩))))
    | 5, ho =>
      simp only [List.getElem?_cons_succ, List.getElem?_cons_zero, Option.some.injEq] at ho
      subst ho
      simp only [Act.put, List.setIfInBounds_toArray, List.set_cons_zero, List.set_cons_succ] at hK
      have e0 := (hV0 _ _).1 (hI.know (hdep ⟨0, .data⟩ (by simp) rfl))
      obtain ⟨hs, g, e4, hc4⟩ := (hS1 _ _).1 (hI.at_ (k := 1) rfl hnd (.inr ⟨4, rfl, hdep ⟨4, .data⟩ (by simp) rfl⟩))
      obtain ⟨us, hown, hcs⟩ := hs.1
      simp only [List.append_nil] at hown hcs
      refine wpOp_step rfl fun K' hK' => ?_
      refine step_append_rows wr rfl 65 101 7 80 rowed_node rfl _ _ (by rfl) B ms.length tv us (by simpa [Act.eval] using e0) hown (some ⟨g, 0, none⟩) 1 1 [.int .i64 6, .int .i64 aop, .int .i64 af, .int .i64 ag, .int .i64 n, .slice none 0 0, .string ⟨#[]⟩] (by simpa [Act.eval] using e4) (fun e => by cases e) (by omega) hc4 (by simp [Value.oneCell']) rfl (by have := HN.out; omega) (by have := hs.2.1.size; omega) ?_
      intro A2 c2 w5 hown5 hgrow hat
      exact hK' _ _ (hK _ _ (hI.step hRel (k := 1) rfl hnd (.inr ⟨4, rfl, hdep ⟨4, .data⟩ (by simp) rfl⟩) (by decide) hVm (nodeRel_grown hown hgrow) (hV5 _ _) ((hS2 _ _).2 (by rw [upd_same]; exact mid_one hs hown hcs ⟨.slice none 0 0, rfl, noNums _ _⟩ hgrow hown5 hat))))
    | 6, ho =>
      simp only [List.getElem?_cons_succ, List.getElem?_cons_zero, Option.some.injEq] at ho
      subst ho
      simp only [Act.put, List.setIfInBounds_toArray, List.set_cons_zero, List.set_cons_succ] at hK
      refine wpOp_step rfl fun K' hK' => ?_
      go_simp
      exact hK' _ _ (hK _ _ (hI.quiet hRel hnd (by decide) hVm hSm (Below.refl _ _) ((hV6 _ _).2 rfl)))
    | 7, ho =>
      simp only [List.getElem?_cons_succ, List.getElem?_cons_zero, Option.some.injEq] at ho
      subst ho
      simp only [Act.put, List.setIfInBounds_toArray, List.set_cons_zero, List.set_cons_succ] at hK
      have e6 := (hV6 _ _).1 (hI.know (hdep ⟨6, .data⟩ (by simp) rfl))
      simp only [e6] at hK
      refine wpOp_step rfl fun K' hK' => ?_
      go_simp
      exact hK' _ _ (hK _ _ (hI.quiet hRel hnd (by decide) hVm hSm (Below.refl _ _) ((hV7 _ _).2 rfl)))
    | 8, ho =>
      simp only [List.getElem?_cons_succ, List.getElem?_cons_zero, Option.some.injEq] at ho
      subst ho
      simp only [Act.put, List.setIfInBounds_toArray, List.set_cons_zero, List.set_cons_succ] at hK
      have e7 := (hV7 _ _).1 (hI.know (hdep ⟨7, .data⟩ (by simp) rfl))
      simp only [e7] at hK
      refine wpOp_step rfl fun K' hK' => ?_
      go_simp
      exact hK' _ _ (hK _ _ (hI.quiet hRel hnd (by decide) hVm hSm (Below.refl _ _) ((hV8 _ _).2 rfl)))
    | 9, ho =>
      simp only [List.getElem?_cons_succ, List.getElem?_cons_zero, Option.some.injEq] at ho
      subst ho
      simp only [Act.put, List.setIfInBounds_toArray, List.set_cons_zero, List.set_cons_succ] at hK
      have hs := (hS2 _ _).1 (hI.at_ (k := 2) rfl hnd (.inr ⟨5, rfl, hdep ⟨5, .data⟩ (by simp) rfl⟩))
      have e8 := (hV8 _ _).1 (hI.know (hdep ⟨8, .data⟩ (by simp) rfl))
      have hex := HB.out.at_ (hs.later HW.out HT.out hB0) hB0
      simp only [e8] at hK
      refine wpOp_step rfl fun K' hK' => ?_
      go_simp
      refine (flatAll_any hex (hs.later HW.out HT.out hB0) hB0 (Nat.le_trans hB hs.2.1.size) hs.1 (by have := HN.out; simp [catNs] at this ⊢; omega)).mono ?_
      intro e w1 hfl
      obtain ⟨tv2, rfl, hm2, hnr⟩ := hs.more hfl
      exact hK' _ _ (hK _ _ (hI.step hRel (k := 2) rfl hnd (.inr ⟨5, rfl, hdep ⟨5, .data⟩ (by simp) rfl⟩) (by decide) hVm (hnr) (hV9 _ _) ((hS3 _ _).2 (by rw [upd_same]; simpa [catNs] using hm2))))
    | 10, ho =>
      simp only [List.getElem?_cons_succ, List.getElem?_cons_zero, Option.some.injEq] at ho
      subst ho
      simp only [Act.put, List.setIfInBounds_toArray, List.set_cons_zero, List.set_cons_succ] at hK
      refine wpOp_step rfl fun K' hK' => ?_
      go_simp
      exact hK' _ _ (hK _ _ (hI.quiet hRel hnd (by decide) hVm hSm (Below.refl _ _) ((hV10 _ _).2 rfl)))
    | 11, ho =>
      simp only [List.getElem?_cons_succ, List.getElem?_cons_zero, Option.some.injEq] at ho
      subst ho
      simp only [Act.put, List.setIfInBounds_toArray, List.set_cons_zero, List.set_cons_succ] at hK
      have e10 := (hV10 _ _).1 (hI.know (hdep ⟨10, .data⟩ (by simp) rfl))
      simp only [e10] at hK
      refine wpOp_step rfl fun K' hK' => ?_
      go_simp
      exact hK' _ _ (hK _ _ (hI.quiet hRel hnd (by decide) hVm hSm (Below.refl _ _) ((hV11 _ _).2 rfl)))
    | 12, ho =>
      simp only [List.getElem?_cons_succ, List.getElem?_cons_zero, Option.some.injEq] at ho
      subst ho
      simp only [Act.put, List.setIfInBounds_toArray, List.set_cons_zero, List.set_cons_succ] at hK
      have e11 := (hV11 _ _).1 (hI.know (hdep ⟨11, .data⟩ (by simp) rfl))
      simp only [e11] at hK
      refine wpOp_step rfl fun K' hK' => ?_
      go_simp
      exact hK' _ _ (hK _ _ (hI.quiet hRel hnd (by decide) hVm hSm (below_one _ _) ((hV12 _ _).2 ⟨_, rfl, hWr, Box.new _ _ _⟩)))
    | 13, ho =>
      simp only [List.getElem?_cons_succ, List.getElem?_cons_zero, Option.some.injEq] at ho
      subst ho
      simp only [Act.put, List.setIfInBounds_toArray, List.set_cons_zero, List.set_cons_succ] at hK
      have hs := (hS3 _ _).1 (hI.at_ (k := 3) rfl hnd (.inr ⟨9, rfl, hdep ⟨9, .data⟩ (by simp) rfl⟩))
      obtain ⟨g, e12, hg, hx12⟩ := (hV12 _ _).1 (hI.know (hdep ⟨12, .data⟩ (by simp) rfl))
      have hex := exprsAt_one (B := B) HR.out hx12
      simp only [e12] at hK
      refine wpOp_step rfl fun K' hK' => ?_
      go_simp
      refine (flatAll_any hex (hs.later HW.out HT.out hB0) hB0 (Nat.le_trans hB hs.2.1.size) hs.1 (by have := HN.out; simp [catNs] at this ⊢; omega)).mono ?_
      intro e w1 hfl
      obtain ⟨tv2, rfl, hm2, hnr⟩ := hs.more hfl
      exact hK' _ _ (hK _ _ (hI.step hRel (k := 3) rfl hnd (.inr ⟨9, rfl, hdep ⟨9, .data⟩ (by simp) rfl⟩) (by decide) hVm (hnr) (hV13 _ _) ((hS4 _ _).2 (by rw [upd_same]; simpa [catNs] using hm2))))
    | 14, ho =>
      simp only [List.getElem?_cons_succ, List.getElem?_cons_zero, Option.some.injEq] at ho
      subst ho
      simp only [Act.put, List.setIfInBounds_toArray, List.set_cons_zero, List.set_cons_succ] at hK
      have hs := (hS4 _ _).1 (hI.at_ (k := 4) rfl hnd (.inr ⟨13, rfl, hdep ⟨13, .data⟩ (by simp) rfl⟩))
      refine wpOp_step rfl fun K' hK' => ?_
      go_simp
      exact hK' _ _ (hK _ _ (hI.step hRel (k := 4) rfl hnd (.inr ⟨13, rfl, hdep ⟨13, .data⟩ (by simp) rfl⟩) (by decide) hVm (hRel.below (Below.refl _ _)) (hV14 _ _) ((hS5 _ _).2 (by rw [upd_same]; exact hs))))
    | i + 15, ho => simp at ho
  case fin =>
    simp only [putAll, Act.put, List.setIfInBounds_toArray, List.set_cons_zero, List.set_cons_succ, Nat.reduceAdd, Nat.zero_add]
    intro done u wr hd hI
    simp only [List.length_cons, List.length_nil, Nat.reduceAdd, Nat.zero_add] at hd
    have hS := (hS5 _ _).1 (hI.end_ (fun c hc => hd c (by simp at hc; omega)))
    go_wp2_with fail
    go_ret
    exact hS.flats


set_option maxRecDepth 100000 in
set_option maxHeartbeats 8000000 in
theorem flat_two {aop af ag n : Int} {lv bv rv : Value} {nss : List (List Nd)} {nl ns : List Nd} {w0 w : World} {P B : Nat} {tv : Value} {ms : List Nd} (hlv : IsExpr w0 P lv nl) (hbv : IsExprs w0 P bv nss) (hrv : IsExpr w0 P rv ns) (hw : ExKept P w0 w) (hP : P < w0.heap.size) (hB0 : w0.heap.size ≤ B) (hB : B ≤ w.heap.size) (h : ToList w B tv ms)
    (hn : ms.length + (1 + nl.length + (catNs nss).length + ns.length) ≤ 800) :
    Calls Tryz.prog 269 #[.agg #[lv, .int .i64 aop, .int .i64 af, .int .i64 ag, .int .i64 n, bv, rv], tv] w (Flats ([⟨7, aop, af, ag, n, [], ⟨#[]⟩⟩] ++ nl ++ catNs nss ++ ns) ms B tv w) := by
  have hm := mixedZ
  obtain ⟨rT, ru, rfl⟩ : ∃ T u, rv = .iface T u := by obtain ⟨T, u, f, e, -⟩ := hrv; exact ⟨T, u, e⟩
  obtain ⟨lT, lu, rfl⟩ : ∃ T u, lv = .iface T u := by obtain ⟨T, u, f, e, -⟩ := hlv; exact ⟨T, u, e⟩
  obtain ⟨bA, bn, bc, rfl⟩ : ∃ A k c, bv = .slice A k c := by obtain ⟨A, c, vs, e, -⟩ := hbv; exact ⟨A, _, c, e⟩
  have HB := Lib.hid hbv
  have HR := Lib.hid hrv
  have HW := Lib.hid hw
  have HT := Lib.hid h
  have HN := Lib.hid hn
  have HL := Lib.hid hlv
  clear hlv
  clear hbv hrv hw h hn
  go_enter Tryz.func269, Tryz.ntmps269
  go_wp2_with fail
  have hx0 := Box.new w 163 #[.iface lT lu, .int .i64 aop, .int .i64 af, .int .i64 ag, .int .i64 n, .slice bA bn bc, .iface rT ru]
  have hb0 := below_one w (.cells #[.iface lT lu, .int .i64 aop, .int .i64 af, .int .i64 ag, .int .i64 n, .slice bA bn bc, .iface rT ru] 163)
  obtain ⟨W, hWe⟩ : ∃ W, W = w.alloc (.cells #[.iface lT lu, .int .i64 aop, .int .i64 af, .int .i64 ag, .int .i64 n, .slice bA bn bc, .iface rT ru] 163) := ⟨_, rfl⟩
  rw [← hWe] at hx0 hb0 ⊢
  have hWs : w.heap.size < W.heap.size := by rw [hWe]; simp
  clear hWe
  have hRel : Rels (NodeRel) := nodeRels
  obtain ⟨V, hVe⟩ : ∃ V : Nat → Value → World → Prop, V = fun i v w' => match i with
      | 0 => v = tv
      | 1 => v = .pointer (some ⟨w.heap.size, 1, none⟩)
      | 2 => v = .agg #[.int .i64 aop, .int .i64 af, .int .i64 ag, .int .i64 n, .slice bA bn bc]
      | 3 => v = .agg #[.int .i64 7, .int .i64 aop, .int .i64 af, .int .i64 ag, .int .i64 n, .slice none 0 0, .string ⟨#[]⟩]
      | 6 => v = .pointer (some ⟨w.heap.size, 0, none⟩)
      | 7 => v = .iface lT lu
      | 8 => ∃ g, v = .slice (some ⟨g, 0, none⟩) 1 1 ∧ W.heap.size ≤ g ∧ Box w' g 93 #[.iface lT lu]
      | 10 => v = .pointer (some ⟨w.heap.size, 1, none⟩)
      | 11 => v = .pointer (some ⟨w.heap.size, 5, none⟩)
      | 12 => v = .slice bA bn bc
      | 14 => v = .pointer (some ⟨w.heap.size, 6, none⟩)
      | 15 => v = .iface rT ru
      | 16 => ∃ g, v = .slice (some ⟨g, 0, none⟩) 1 1 ∧ W.heap.size ≤ g ∧ Box w' g 93 #[.iface rT ru]
      | _ => True := ⟨_, rfl⟩
  have hVm : ∀ j v w1 w2, V j v w1 → (NodeRel) w1 w2 → V j v w2 := by
    intro j v w1 w2 h hr
    subst hVe
    match j, h with
    | 0, h => exact h
    | 1, h => exact h
    | 2, h => exact h
    | 3, h => exact h
    | 4, _ => trivial
    | 5, _ => trivial
    | 6, h => exact h
    | 7, h => exact h
    | 8, ⟨g, e, hg, hx⟩ => exact ⟨g, e, hg, hr.2 _ _ _ (by decide) hx⟩
    | 9, _ => trivial
    | 10, h => exact h
    | 11, h => exact h
    | 12, h => exact h
    | 13, _ => trivial
    | 14, h => exact h
    | 15, h => exact h
    | 16, ⟨g, e, hg, hx⟩ => exact ⟨g, e, hg, hr.2 _ _ _ (by decide) hx⟩
    | i + 17, _ => trivial
  have hV0 : ∀ v w', V 0 v w' ↔ v = tv := fun _ _ => by subst hVe; rfl
  have hV1 : ∀ v w', V 1 v w' ↔ v = .pointer (some ⟨w.heap.size, 1, none⟩) := fun _ _ => by subst hVe; rfl
  have hV2 : ∀ v w', V 2 v w' ↔ v = .agg #[.int .i64 aop, .int .i64 af, .int .i64 ag, .int .i64 n, .slice bA bn bc] := fun _ _ => by subst hVe; rfl
  have hV3 : ∀ v w', V 3 v w' ↔ v = .agg #[.int .i64 7, .int .i64 aop, .int .i64 af, .int .i64 ag, .int .i64 n, .slice none 0 0, .string ⟨#[]⟩] := fun _ _ => by subst hVe; rfl
  have hV6 : ∀ v w', V 6 v w' ↔ v = .pointer (some ⟨w.heap.size, 0, none⟩) := fun _ _ => by subst hVe; rfl
  have hV7 : ∀ v w', V 7 v w' ↔ v = .iface lT lu := fun _ _ => by subst hVe; rfl
  have hV8 : ∀ v w', V 8 v w' ↔ ∃ g, v = .slice (some ⟨g, 0, none⟩) 1 1 ∧ W.heap.size ≤ g ∧ Box w' g 93 #[.iface lT lu] := fun _ _ => by subst hVe; rfl
  have hV10 : ∀ v w', V 10 v w' ↔ v = .pointer (some ⟨w.heap.size, 1, none⟩) := fun _ _ => by subst hVe; rfl
  have hV11 : ∀ v w', V 11 v w' ↔ v = .pointer (some ⟨w.heap.size, 5, none⟩) := fun _ _ => by subst hVe; rfl
  have hV12 : ∀ v w', V 12 v w' ↔ v = .slice bA bn bc := fun _ _ => by subst hVe; rfl
  have hV14 : ∀ v w', V 14 v w' ↔ v = .pointer (some ⟨w.heap.size, 6, none⟩) := fun _ _ => by subst hVe; rfl
  have hV15 : ∀ v w', V 15 v w' ↔ v = .iface rT ru := fun _ _ => by subst hVe; rfl
  have hV16 : ∀ v w', V 16 v w' ↔ ∃ g, v = .slice (some ⟨g, 0, none⟩) 1 1 ∧ W.heap.size ≤ g ∧ Box w' g 93 #[.iface rT ru] := fun _ _ => by subst hVe; rfl
  have hV4 : ∀ v w', V 4 v w' := fun _ _ => by subst hVe; trivial
  have hV5 : ∀ v w', V 5 v w' := fun _ _ => by subst hVe; trivial
  have hV9 : ∀ v w', V 9 v w' := fun _ _ => by subst hVe; trivial
  have hV13 : ∀ v w', V 13 v w' := fun _ _ => by subst hVe; trivial
  have hV17 : ∀ v w', V 17 v w' := fun _ _ => by subst hVe; trivial
  have hV18 : ∀ v w', V 18 v w' := fun _ _ => by subst hVe; trivial
  obtain ⟨St, hSe⟩ : ∃ St : Nat → (Nat → Value) → World → Prop, St = fun s u w' => match s with
      | 0 => Mid [] ms B tv w tv w'
      | 1 => Mid [] ms B tv w tv w' ∧ ∃ g, u 4 = .slice (some ⟨g, 0, none⟩) 1 1 ∧ CellsAt w' (some ⟨g, 0, none⟩) [.int .i64 7, .int .i64 aop, .int .i64 af, .int .i64 ag, .int .i64 n, .slice none 0 0, .string ⟨#[]⟩]
      | 2 => Mid [⟨7, aop, af, ag, n, [], ⟨#[]⟩⟩] ms B tv w (u 5) w'
      | 3 => Mid ([⟨7, aop, af, ag, n, [], ⟨#[]⟩⟩] ++ nl) ms B tv w (u 9) w'
      | 4 => Mid ([⟨7, aop, af, ag, n, [], ⟨#[]⟩⟩] ++ nl ++ catNs nss) ms B tv w (u 13) w'
      | 5 => Mid ([⟨7, aop, af, ag, n, [], ⟨#[]⟩⟩] ++ nl ++ catNs nss ++ ns) ms B tv w (u 17) w'
      | 6 => Mid ([⟨7, aop, af, ag, n, [], ⟨#[]⟩⟩] ++ nl ++ catNs nss ++ ns) ms B tv w (u 18) w'
      | _ => False := ⟨_, rfl⟩
  have hSm : ∀ s u u' w1 w2, (∀ c ∈ [4, 5, 9, 13, 17, 18], u' c = u c) → St s u w1 → Below w1.heap.size w1 w2 → St s u' w2 := by
    intro s u u' w1 w2 hu h hb
    subst hSe
    match s, h with
    | 0, h => exact Mid.below h hb
    | 1, ⟨h, g, e, hc⟩ => exact ⟨Mid.below h hb, g, by rw [hu 4 (by decide)]; exact e, hc.mono hb⟩
    | 2, h => rw [hu 5 (by decide)]; exact Mid.below h hb
    | 3, h => rw [hu 9 (by decide)]; exact Mid.below h hb
    | 4, h => rw [hu 13 (by decide)]; exact Mid.below h hb
    | 5, h => rw [hu 17 (by decide)]; exact Mid.below h hb
    | 6, h => rw [hu 18 (by decide)]; exact Mid.below h hb
    | s + 7, h => exact h.elim
  have hS0 : ∀ u w', St 0 u w' ↔ (Mid [] ms B tv w tv w') := fun _ _ => by subst hSe; rfl
  have hS1 : ∀ u w', St 1 u w' ↔ (Mid [] ms B tv w tv w' ∧ ∃ g, u 4 = .slice (some ⟨g, 0, none⟩) 1 1 ∧ CellsAt w' (some ⟨g, 0, none⟩) [.int .i64 7, .int .i64 aop, .int .i64 af, .int .i64 ag, .int .i64 n, .slice none 0 0, .string ⟨#[]⟩]) := fun _ _ => by subst hSe; rfl
  have hS2 : ∀ u w', St 2 u w' ↔ (Mid [⟨7, aop, af, ag, n, [], ⟨#[]⟩⟩] ms B tv w (u 5) w') := fun _ _ => by subst hSe; rfl
  have hS3 : ∀ u w', St 3 u w' ↔ (Mid ([⟨7, aop, af, ag, n, [], ⟨#[]⟩⟩] ++ nl) ms B tv w (u 9) w') := fun _ _ => by subst hSe; rfl
  have hS4 : ∀ u w', St 4 u w' ↔ (Mid ([⟨7, aop, af, ag, n, [], ⟨#[]⟩⟩] ++ nl ++ catNs nss) ms B tv w (u 13) w') := fun _ _ => by subst hSe; rfl
  have hS5 : ∀ u w', St 5 u w' ↔ (Mid ([⟨7, aop, af, ag, n, [], ⟨#[]⟩⟩] ++ nl ++ catNs nss ++ ns) ms B tv w (u 17) w') := fun _ _ => by subst hSe; rfl
  have hS6 : ∀ u w', St 6 u w' ↔ (Mid ([⟨7, aop, af, ag, n, [], ⟨#[]⟩⟩] ++ nl ++ catNs nss ++ ns) ms B tv w (u 18) w') := fun _ _ => by subst hSe; rfl
  clear hVe hSe
  refine wp_region_inv (ChainInv (NodeRel) V [4, 5, 9, 13, 17, 18] St W) (by kernel_rfl) (by kernel_rfl) (by kernel_rfl) ?start ?step ?fin
  case start => exact fun u => ChainInv.start hRel (Below.refl _ _).drew ((hS0 _ _).2 (Mid.start HT.out hb0.drew))
  case step =>
    simp only [putAll, Act.put, List.setIfInBounds_toArray, List.set_cons_zero, List.set_cons_succ, Nat.reduceAdd, Nat.zero_add]
    intro i o ho done u wr hnd hdep hI K hK
    have hx := hI.1.2 _ _ _ (by decide) hx0
    obtain ⟨c0, c1, c2, c3, c4, c5, c6⟩ := (show _ ∧ _ ∧ _ ∧ _ ∧ _ ∧ _ ∧ _ from ⟨hx.cell 0, hx.cell 1, hx.cell 2, hx.cell 3, hx.cell 4, hx.cell 5, hx.cell 6⟩)
    have hWr := hI.1.1
    match i, ho with
    | 0, ho =>
      simp only [List.getElem?_cons_zero, Option.some.injEq] at ho
      subst ho
      simp only [Act.put, List.setIfInBounds_toArray, List.set_cons_zero, List.set_cons_succ] at hK
      refine wpOp_step rfl fun K' hK' => ?_
      go_simp
      exact hK' _ _ (hK _ _ (hI.quiet hRel hnd (by decide) hVm hSm (Below.refl _ _) ((hV0 _ _).2 rfl)))
    | 1, ho =>
      simp only [List.getElem?_cons_succ, List.getElem?_cons_zero, Option.some.injEq] at ho
      subst ho
      simp only [Act.put, List.setIfInBounds_toArray, List.set_cons_zero, List.set_cons_succ] at hK
      refine wpOp_step rfl fun K' hK' => ?_
      go_simp
      exact hK' _ _ (hK _ _ (hI.quiet hRel hnd (by decide) hVm hSm (Below.refl _ _) ((hV1 _ _).2 rfl)))
    | 2, ho =>
      simp only [List.getElem?_cons_succ, List.getElem?_cons_zero, Option.some.injEq] at ho
      subst ho
      simp only [Act.put, List.setIfInBounds_toArray, List.set_cons_zero, List.set_cons_succ] at hK
      have e1 := (hV1 _ _).1 (hI.know (hdep ⟨1, .data⟩ (by simp) rfl))
      simp only [e1] at hK
      refine wpOp_step rfl fun K' hK' => ?_
      go_simp
      exact hK' _ _ (hK _ _ (hI.quiet hRel hnd (by decide) hVm hSm (Below.refl _ _) ((hV2 _ _).2 rfl)))
    | 3, ho =>
      simp only [List.getElem?_cons_succ, List.getElem?_cons_zero, Option.some.injEq] at ho
      subst ho
      simp only [Act.put, List.setIfInBounds_toArray, List.set_cons_zero, List.set_cons_succ] at hK
      have e2 := (hV2 _ _).1 (hI.know (hdep ⟨2, .data⟩ (by simp) rfl))
      simp only [e2] at hK
      refine wpOp_step rfl fun K' hK' => ?_
      go_simp
      refine (node_any).mono ?_
      rintro e w1 ⟨rfl, hb1⟩
      exact hK' _ _ (hK _ _ (hI.quiet hRel hnd (by decide) hVm hSm hb1 ((hV3 _ _).2 rfl)))
    | 4, ho =>
      simp only [List.getElem?_cons_succ, List.getElem?_cons_zero, Option.some.injEq] at ho
      subst ho
      simp only [Act.put, List.setIfInBounds_toArray, List.set_cons_zero, List.set_cons_succ] at hK
      have e3 := (hV3 _ _).1 (hI.know (hdep ⟨3, .data⟩ (by simp) rfl))
      simp only [e3] at hK
      have hs := (hS0 _ _).1 (hI.at_ (k := 0) rfl hnd (.inl rfl))
      refine wpOp_step rfl fun K' hK' => ?_
      go_simp
      exact hK' _ _ (hK _ _ (hI.step hRel (k := 0) rfl hnd (.inl rfl) (by decide) hVm (hRel.below (below_one _ _)) (hV4 _ _) ((hS1 _ _).2 (⟨hs.below (below_one _ _), _, by rw [upd_same], cellsAt_new wr 101 [.int .i64 7, .int .i64 aop, .int .i64 af, .int .i64 ag, .int .i64 n, .slice none 0 0, .string ⟨#[]⟩]⟩))))
    | 5, ho =>
      simp only [List.getElem?_cons_succ, List.getElem?_cons_zero, Option.some.injEq] at ho
      subst ho
      simp only [Act.put, List.setIfInBounds_toArray, List.set_cons_zero, List.set_cons_succ] at hK
      have e0 := (hV0 _ _).1 (hI.know (hdep ⟨0, .data⟩ (by simp) rfl))
      obtain ⟨hs, g, e4, hc4⟩ := (hS1 _ _).1 (hI.at_ (k := 1) rfl hnd (.inr ⟨4, rfl, hdep ⟨4, .data⟩ (by simp) rfl⟩))
      obtain ⟨us, hown, hcs⟩ := hs.1
      simp only [List.append_nil] at hown hcs
      refine wpOp_step rfl fun K' hK' => ?_
      refine step_append_rows wr rfl 65 101 7 80 rowed_node rfl _ _ (by rfl) B ms.length tv us (by simpa [Act.eval] using e0) hown (some ⟨g, 0, none⟩) 1 1 [.int .i64 7, .int .i64 aop, .int .i64 af, .int .i64 ag, .int .i64 n, .slice none 0 0, .string ⟨#[]⟩] (by simpa [Act.eval] using e4) (fun e => by cases e) (by omega) hc4 (by simp [Value.oneCell']) rfl (by have := HN.out; omega) (by have := hs.2.1.size; omega) ?_
      intro A2 c2 w5 hown5 hgrow hat
      exact hK' _ _ (hK _ _ (hI.step hRel (k := 1) rfl hnd (.inr ⟨4, rfl, hdep ⟨4, .data⟩ (by simp) rfl⟩) (by decide) hVm (nodeRel_grown hown hgrow) (hV5 _ _) ((hS2 _ _).2 (by rw [upd_same]; exact mid_one hs hown hcs ⟨.slice none 0 0, rfl, noNums _ _⟩ hgrow hown5 hat))))
    | 6, ho =>
      simp only [List.getElem?_cons_succ, List.getElem?_cons_zero, Option.some.injEq] at ho
      subst ho
      simp only [Act.put, List.setIfInBounds_toArray, List.set_cons_zero, List.set_cons_succ] at hK
      refine wpOp_step rfl fun K' hK' => ?_
      go_simp
      exact hK' _ _ (hK _ _ (hI.quiet hRel hnd (by decide) hVm hSm (Below.refl _ _) ((hV6 _ _).2 rfl)))
    | 7, ho =>
      simp only [List.getElem?_cons_succ, List.getElem?_cons_zero, Option.some.injEq] at ho
      subst ho
      simp only [Act.put, List.setIfInBounds_toArray, List.set_cons_zero, List.set_cons_succ] at hK
      have e6 := (hV6 _ _).1 (hI.know (hdep ⟨6, .data⟩ (by simp) rfl))
      simp only [e6] at hK
      refine wpOp_step rfl fun K' hK' => ?_
      go_simp
      exact hK' _ _ (hK _ _ (hI.quiet hRel hnd (by decide) hVm hSm (Below.refl _ _) ((hV7 _ _).2 rfl)))
    | 8, ho =>
      simp only [List.getElem?_cons_succ, List.getElem?_cons_zero, Option.some.injEq] at ho
      subst ho
      simp only [Act.put, List.setIfInBounds_toArray, List.set_cons_zero, List.set_cons_succ] at hK
      have e7 := (hV7 _ _).1 (hI.know (hdep ⟨7, .data⟩ (by simp) rfl))
      simp only [e7] at hK
      refine wpOp_step rfl fun K' hK' => ?_
      go_simp
      exact hK' _ _ (hK _ _ (hI.quiet hRel hnd (by decide) hVm hSm (below_one _ _) ((hV8 _ _).2 ⟨_, rfl, hWr, Box.new _ _ _⟩)))
    | 9, ho =>
      simp only [List.getElem?_cons_succ, List.getElem?_cons_zero, Option.some.injEq] at ho
      subst ho
      simp only [Act.put, List.setIfInBounds_toArray, List.set_cons_zero, List.set_cons_succ] at hK
      have hs := (hS2 _ _).1 (hI.at_ (k := 2) rfl hnd (.inr ⟨5, rfl, hdep ⟨5, .data⟩ (by simp) rfl⟩))
      obtain ⟨g, e8, hg, hx8⟩ := (hV8 _ _).1 (hI.know (hdep ⟨8, .data⟩ (by simp) rfl))
      have hex := exprsAt_one (B := B) HL.out hx8
      simp only [e8] at hK
      refine wpOp_step rfl fun K' hK' => ?_
      go_simp
      refine (flatAll_any hex (hs.later HW.out HT.out hB0) hB0 (Nat.le_trans hB hs.2.1.size) hs.1 (by have := HN.out; simp [catNs] at this ⊢; omega)).mono ?_
      intro e w1 hfl
      obtain ⟨tv2, rfl, hm2, hnr⟩ := hs.more hfl
      exact hK' _ _ (hK _ _ (hI.step hRel (k := 2) rfl hnd (.inr ⟨5, rfl, hdep ⟨5, .data⟩ (by simp) rfl⟩) (by decide) hVm (hnr) (hV9 _ _) ((hS3 _ _).2 (by rw [upd_same]; simpa [catNs] using hm2))))
    | 10, ho =>
      simp only [List.getElem?_cons_succ, List.getElem?_cons_zero, Option.some.injEq] at ho
      subst ho
      simp only [Act.put, List.setIfInBounds_toArray, List.set_cons_zero, List.set_cons_succ] at hK
      refine wpOp_step rfl fun K' hK' => ?_
      go_simp
      exact hK' _ _ (hK _ _ (hI.quiet hRel hnd (by decide) hVm hSm (Below.refl _ _) ((hV10 _ _).2 rfl)))
    | 11, ho =>
      simp only [List.getElem?_cons_succ, List.getElem?_cons_zero, Option.some.injEq] at ho
      subst ho
      simp only [Act.put, List.setIfInBounds_toArray, List.set_cons_zero, List.set_cons_succ] at hK
      have e10 := (hV10 _ _).1 (hI.know (hdep ⟨10, .data⟩ (by simp) rfl))
      simp only [e10] at hK
      refine wpOp_step rfl fun K' hK' => ?_
      go_simp
      exact hK' _ _ (hK _ _ (hI.quiet hRel hnd (by decide) hVm hSm (Below.refl _ _) ((hV11 _ _).2 rfl)))
    | 12, ho =>
      simp only [List.getElem?_cons_succ, List.getElem?_cons_zero, Option.some.injEq] at ho
      subst ho
      simp only [Act.put, List.setIfInBounds_toArray, List.set_cons_zero, List.set_cons_succ] at hK
      have e11 := (hV11 _ _).1 (hI.know (hdep ⟨11, .data⟩ (by simp) rfl))
      simp only [e11] at hK
      refine wpOp_step rfl fun K' hK' => ?_
      go_simp
      exact hK' _ _ (hK _ _ (hI.quiet hRel hnd (by decide) hVm hSm (Below.refl _ _) ((hV12 _ _).2 rfl)))
    | 13, ho =>
      simp only [List.getElem?_cons_succ, List.getElem?_cons_zero, Option.some.injEq] at ho
      subst ho
      simp only [Act.put, List.setIfInBounds_toArray, List.set_cons_zero, List.set_cons_succ] at hK
      have hs := (hS3 _ _).1 (hI.at_ (k := 3) rfl hnd (.inr ⟨9, rfl, hdep ⟨9, .data⟩ (by simp) rfl⟩))
      have e12 := (hV12 _ _).1 (hI.know (hdep ⟨12, .data⟩ (by simp) rfl))
      have hex := HB.out.at_ (hs.later HW.out HT.out hB0) hB0
      simp only [e12] at hK
      refine wpOp_step rfl fun K' hK' => ?_
      go_simp
      refine (flatAll_any hex (hs.later HW.out HT.out hB0) hB0 (Nat.le_trans hB hs.2.1.size) hs.1 (by have := HN.out; simp [catNs] at this ⊢; omega)).mono ?_
      intro e w1 hfl
      obtain ⟨tv2, rfl, hm2, hnr⟩ := hs.more hfl
      exact hK' _ _ (hK _ _ (hI.step hRel (k := 3) rfl hnd (.inr ⟨9, rfl, hdep ⟨9, .data⟩ (by simp) rfl⟩) (by decide) hVm (hnr) (hV13 _ _) ((hS4 _ _).2 (by rw [upd_same]; simpa [catNs] using hm2))))
    | 14, ho =>
      simp only [List.getElem?_cons_succ, List.getElem?_cons_zero, Option.some.injEq] at ho
      subst ho
      simp only [Act.put, List.setIfInBounds_toArray, List.set_cons_zero, List.set_cons_succ] at hK
      refine wpOp_step rfl fun K' hK' => ?_
      go_simp
      exact hK' _ _ (hK _ _ (hI.quiet hRel hnd (by decide) hVm hSm (Below.refl _ _) ((hV14 _ _).2 rfl)))
    | 15, ho =>
      simp only [List.getElem?_cons_succ, List.getElem?_cons_zero, Option.some.injEq] at ho
      subst ho
      simp only [Act.put, List.setIfInBounds_toArray, List.set_cons_zero, List.set_cons_succ] at hK
      have e14 := (hV14 _ _).1 (hI.know (hdep ⟨14, .data⟩ (by simp) rfl))
      simp only [e14] at hK
      refine wpOp_step rfl fun K' hK' => ?_
      go_simp
      exact hK' _ _ (hK _ _ (hI.quiet hRel hnd (by decide) hVm hSm (Below.refl _ _) ((hV15 _ _).2 rfl)))
    | 16, ho =>
      simp only [List.getElem?_cons_succ, List.getElem?_cons_zero, Option.some.injEq] at ho
      subst ho
      simp only [Act.put, List.setIfInBounds_toArray, List.set_cons_zero, List.set_cons_succ] at hK
      have e15 := (hV15 _ _).1 (hI.know (hdep ⟨15, .data⟩ (by simp) rfl))
      simp only [e15] at hK
      refine wpOp_step rfl fun K' hK' => ?_
      go_simp
      exact hK' _ _ (hK _ _ (hI.quiet hRel hnd (by decide) hVm hSm (below_one _ _) ((hV16 _ _).2 ⟨_, rfl, hWr, Box.new _ _ _⟩)))
    | 17, ho =>
      simp only [List.getElem?_cons_succ, List.getElem?_cons_zero, Option.some.injEq] at ho
      subst ho
      simp only [Act.put, List.setIfInBounds_toArray, List.set_cons_zero, List.set_cons_succ] at hK
      have hs := (hS4 _ _).1 (hI.at_ (k := 4) rfl hnd (.inr ⟨13, rfl, hdep ⟨13, .data⟩ (by simp) rfl⟩))
      obtain ⟨g, e16, hg, hx16⟩ := (hV16 _ _).1 (hI.know (hdep ⟨16, .data⟩ (by simp) rfl))
      have hex := exprsAt_one (B := B) HR.out hx16
      simp only [e16] at hK
      refine wpOp_step rfl fun K' hK' => ?_
      go_simp
      refine (flatAll_any hex (hs.later HW.out HT.out hB0) hB0 (Nat.le_trans hB hs.2.1.size) hs.1 (by have := HN.out; simp [catNs] at this ⊢; omega)).mono ?_
      intro e w1 hfl
      obtain ⟨tv2, rfl, hm2, hnr⟩ := hs.more hfl
      exact hK' _ _ (hK _ _ (hI.step hRel (k := 4) rfl hnd (.inr ⟨13, rfl, hdep ⟨13, .data⟩ (by simp) rfl⟩) (by decide) hVm (hnr) (hV17 _ _) ((hS5 _ _).2 (by rw [upd_same]; simpa [catNs] using hm2))))
    | 18, ho =>
      simp only [List.getElem?_cons_succ, List.getElem?_cons_zero, Option.some.injEq] at ho
      subst ho
      simp only [Act.put, List.setIfInBounds_toArray, List.set_cons_zero, List.set_cons_succ] at hK
      have hs := (hS5 _ _).1 (hI.at_ (k := 5) rfl hnd (.inr ⟨17, rfl, hdep ⟨17, .data⟩ (by simp) rfl⟩))
      refine wpOp_step rfl fun K' hK' => ?_
      go_simp
      exact hK' _ _ (hK _ _ (hI.step hRel (k := 5) rfl hnd (.inr ⟨17, rfl, hdep ⟨17, .data⟩ (by simp) rfl⟩) (by decide) hVm (hRel.below (Below.refl _ _)) (hV18 _ _) ((hS6 _ _).2 (by rw [upd_same]; exact hs))))
    | i + 19, ho => simp at ho
  case fin =>
    simp only [putAll, Act.put, List.setIfInBounds_toArray, List.set_cons_zero, List.set_cons_succ, Nat.reduceAdd, Nat.zero_add]
    intro done u wr hd hI
    simp only [List.length_cons, List.length_nil, Nat.reduceAdd, Nat.zero_add] at hd
    have hS := (hS6 _ _).1 (hI.end_ (fun c hc => hd c (by simp at hc; omega)))
    go_wp2_with fail
    go_ret
    exact hS.flats


end Go.Proofs.YtihndbkaoejnnaaGreatDoor

namespace Go.Proofs.YtihndbkaoejnnaaGreatDoor
open Go Go.RowKit Go.Proofs.YtihndbkaoejnnaaGreatDoor.P

end Go.Proofs.YtihndbkaoejnnaaGreatDoor

namespace Go.Proofs.YtihndbkaoejnnaaGreatDoor
open Go Go.RowKit Go.Proofs.YtihndbkaoejnnaaGreatDoor.P

theorem isExpr_name (w : World) (P : Nat) (s : ByteArray) : IsExpr w P (.iface 119 (.agg #[.string s])) [⟨3, 0, 0, 0, 0, [], s⟩] :=
  ⟨_, _, 262, rfl, fun W => by kernel_rfl, enters_of Tryz.func262 (by kernel_rfl) rfl, fun w' B tv ms _ _ hB ht hn => flat_name ht hB (by omega)⟩
theorem isExpr_arg (w : World) (P : Nat) (op : Int) : IsExpr w P (.iface 187 (.agg #[.int .i64 op])) [⟨op, 0, 0, 0, 0, [], ⟨#[]⟩⟩] :=
  ⟨_, _, 273, rfl, fun W => by kernel_rfl, enters_of Tryz.func273 (by kernel_rfl) rfl, fun w' B tv ms _ _ hB ht hn => flat_arg ht hB (by omega)⟩
theorem isExpr_nums {w : World} {P B k : Nat} {nv : Value} {xs : List Int} (h : Owns w B nv k xs) (hP : P < B) (hl : xs.length ≤ 200) : IsExpr w P (.iface 184 (.agg #[nv])) [⟨1, 0, 0, 0, 0, xs, ⟨#[]⟩⟩] :=
  ⟨_, _, 271, rfl, fun W => by kernel_rfl, enters_of Tryz.func271 (by kernel_rfl) rfl, fun w' B' tv ms hg _ hB ht hn => flat_nums (h.exInts hg hP) hl ht hB (by omega)⟩
theorem isExpr_one {aop af ag n : Int} {A : Option Addr} {k c : Nat} {rv : Value} {nss : List (List Nd)} {ns : List Nd} {w : World} {P : Nat} (hb : IsExprs w P (.slice A k c) nss) (hr : IsExpr w P rv ns) (hP : P < w.heap.size) :
    IsExpr w P (.iface 161 (.agg #[.int .i64 aop, .int .i64 af, .int .i64 ag, .int .i64 n, .slice A k c, rv])) ([⟨6, aop, af, ag, n, [], ⟨#[]⟩⟩] ++ catNs nss ++ ns) :=
  ⟨_, _, 267, rfl, fun W => by kernel_rfl, enters_of Tryz.func267 (by kernel_rfl) rfl, fun w' B tv ms hg hB0 hB ht hn => flat_one hb hr hg hP hB0 hB ht (by simp at hn ⊢; omega)⟩
theorem isExpr_two {aop af ag n : Int} {A : Option Addr} {k c : Nat} {lv rv : Value} {nss : List (List Nd)} {nl ns : List Nd} {w : World} {P : Nat} (hl : IsExpr w P lv nl) (hb : IsExprs w P (.slice A k c) nss) (hr : IsExpr w P rv ns) (hP : P < w.heap.size) :
    IsExpr w P (.iface 163 (.agg #[lv, .int .i64 aop, .int .i64 af, .int .i64 ag, .int .i64 n, .slice A k c, rv])) ([⟨7, aop, af, ag, n, [], ⟨#[]⟩⟩] ++ nl ++ catNs nss ++ ns) :=
  ⟨_, _, 269, rfl, fun W => by kernel_rfl, enters_of Tryz.func269 (by kernel_rfl) rfl, fun w' B tv ms hg hB0 hB ht hn => flat_two hl hb hr hg hP hB0 hB ht (by simp at hn ⊢; omega)⟩
/-- An expression is read. -/
def ExPost (ns : List Nd) (P g c : Nat) (toks : List Tok) (at' wi : Nat) (w : World) (e : Ending) (w' : World) : Prop := ∃ v, e = .returned v ∧ IsExpr w' (w.heap.size - 1) v ns ∧ PAt w' P g c toks at' wi ∧ w.grownBy w' (some P)
def AtomAt (toks : List Tok) (at_ wi at' : Nat) (ns : List Nd) : Prop := ∀ (w : World) (P g c : Nat), PAt w P g c toks at_ wi → Calls Tryz.prog 117 #[.pointer (some ⟨P, 0, none⟩)] w (ExPost ns P g c toks at' wi w)
def TermAt (toks : List Tok) (at_ wi at' : Nat) (ns : List Nd) : Prop := ∀ (w : World) (P g c : Nat), PAt w P g c toks at_ wi → Calls Tryz.prog 94 #[.pointer (some ⟨P, 0, none⟩)] w (ExPost ns P g c toks at' wi w)
def ExprAt (toks : List Tok) (at_ wi at' : Nat) (ns : List Nd) : Prop := ∀ (w : World) (P g c : Nat), PAt w P g c toks at_ wi → Calls Tryz.prog 65 #[.pointer (some ⟨P, 0, none⟩)] w (ExPost ns P g c toks at' wi w)

end Go.Proofs.YtihndbkaoejnnaaGreatDoor

namespace Go.Proofs.YtihndbkaoejnnaaGreatDoor
open Go Go.RowKit Go.Proofs.YtihndbkaoejnnaaGreatDoor.P

def sliceLen : Value → Nat
  | .slice _ n _ => n
  | _ => 0
theorem take_next {xs : List Int} {k : Nat} {x : Int} (h : xs[k]? = some x) : xs.take k ++ [x] = xs.take (k + 1) := by rw [List.take_add_one, h]; rfl

set_option maxRecDepth 100000 in
set_option maxHeartbeats 4000000 in
theorem atom_name {toks : List Tok} {at_ wi : Nat} {t : Tok} (ht : toks[at_]? = some t) (hk : t.k = 3) : AtomAt toks at_ wi (at_ + 1) [⟨3, 0, 0, 0, 0, [], t.t⟩] := by
  intro w P g c h
  have HK := Lib.hid (kind_any h)
  have hKE : kindAt toks at_ = 3 := (kindAt_some ht).trans hk
  rw [hKE] at HK
  have HNEED := Lib.hid (fun (W : World) (hW : PAt W P g c toks at_ wi) => need_ok hW ht hk)
  have HP := Lib.hid h
  obtain ⟨tk, tf, tn, tt, ta⟩ := t
  simp only [Tok.v, tokV] at HNEED
  have hf3 := fun w => tok_text tk tf tn ta tt w
  clear h ht hk hKE
  go_enter Tryz.func117, Tryz.ntmps117
  go_wp2_with fail
  refine HK.out.mono ?_
  rintro e w1 ⟨rfl, n, rfl⟩
  go_wp2_with fail
  refine (HNEED.out _ (HP.out.drewN n)).mono ?_
  rintro e w2 ⟨rfl, hp2, hg2⟩
  go_wp2_with fail
  go_ret
  exact ⟨_, rfl, isExpr_name _ _ _, hp2, grownBy_trans (grownBy_draws _ _ _) hg2⟩

set_option maxRecDepth 100000 in
set_option maxHeartbeats 4000000 in
theorem atom_omega {toks : List Tok} {at_ wi : Nat} {t : Tok} (ht : toks[at_]? = some t) (hk : t.k = 19) (hwi : 0 < wi) : AtomAt toks at_ wi (at_ + 1) [⟨5, 0, 0, 0, 0, [], ⟨#[]⟩⟩] := by
  intro w P g c h
  have hlt : at_ < toks.length := (List.getElem?_eq_some_iff.1 ht).1
  have HK := Lib.hid (kind_any h)
  have hKE : kindAt toks at_ = 19 := (kindAt_some ht).trans hk
  rw [hKE] at HK
  have HP := Lib.hid h
  have ha : at_ ≤ 199 := by have := h.2.2.2.2.1; omega
  obtain ⟨c0, c1, c2⟩ := Box.three h.1
  have fz := Box.frozen h.1 1
  have lz := Box.lt h.1
  have ewi : ((wi : Int) == 0) = false := by simp; omega
  clear h ht hk hKE
  go_enter Tryz.func117, Tryz.ntmps117
  go_wp2_with fail
  refine HK.out.mono ?_
  rintro e w1 ⟨rfl, n, rfl⟩
  go_wp2_with fail
  go_ret
  exact ⟨_, rfl, isExpr_arg _ _ _, PAt.next (HP.out.drewN n) hlt, grownBy_trans (grownBy_draws _ _ _) (grownBy_setCell _ _ _ _)⟩

set_option maxRecDepth 100000 in
set_option maxHeartbeats 8000000 in
theorem atom_nums {toks : List Tok} {at_ wi : Nat} {xs : List Int} (hx : ∀ (i : Nat) (x : Int), xs[i]? = some x → ∃ t, toks[at_ + i]? = some t ∧ t.k = 1 ∧ t.n = x) (h0 : 0 < xs.length) (hend : kindAt toks (at_ + xs.length) ≠ 1) : AtomAt toks at_ wi (at_ + xs.length) [⟨1, 0, 0, 0, 0, xs, ⟨#[]⟩⟩] := by
  intro w P g c h
  have HK := Lib.hid (kind_any h)
  obtain ⟨x0, hx0⟩ : ∃ x, xs[0]? = some x := ⟨_, List.getElem?_eq_getElem h0⟩
  obtain ⟨t0, ht0, hk0, -⟩ := hx 0 x0 hx0
  have hKE : kindAt toks at_ = 1 := (kindAt_some ht0).trans hk0
  rw [hKE] at HK
  have hPl := h.1.lt
  have hxl : xs.length ≤ 200 := by
    obtain ⟨x, hxx⟩ : ∃ x, xs[xs.length - 1]? = some x := ⟨_, List.getElem?_eq_getElem (by omega)⟩
    obtain ⟨t, ht, -⟩ := hx _ x hxx
    have h1 := (List.getElem?_eq_some_iff.1 ht).1
    have h2 := h.2.2.2.2.1
    omega
  have HP := Lib.hid h
  have HX := Lib.hid hx
  have HE := Lib.hid hend
  clear h ht0 hk0 hKE hx hx0 hend
  go_enter Tryz.func117, Tryz.ntmps117
  go_wp2_with fail
  refine HK.out.mono ?_
  rintro e w1 ⟨rfl, n, rfl⟩
  go_wp2_with fail
  go_loopw [4] (fun s4 wr => ∃ (j : Nat) (A : Option Addr) (cc : Nat), j ≤ xs.length ∧ s4 = .slice A j cc ∧ Owns wr w.heap.size (.slice A j cc) j (xs.take j) ∧ PAt wr P g c toks (at_ + j) wi ∧ w.grownBy wr (some P)) (fun s4 _ => xs.length - sliceLen s4)
  case atStart => exact ⟨0, none, 0, by omega, rfl, Owns.nil _ _, HP.out.drewN n, grownBy_draws _ _ _⟩
  case round =>
    obtain ⟨j, A, cc, hj, rfl, hown, hp, hg⟩ := hrel
    have HO := Lib.hid hown
    have HPr := Lib.hid hp
    have HG := Lib.hid hg
    have HKr := Lib.hid (kind_any hp)
    clear hown hp hg
    rcases Nat.lt_or_ge j xs.length with hlt | hge
    · obtain ⟨x, hx⟩ : ∃ x, xs[j]? = some x := ⟨_, List.getElem?_eq_getElem hlt⟩
      obtain ⟨t, ht, hk, htn⟩ := HX.out j x hx
      have hKE : kindAt toks (at_ + j) = 1 := (kindAt_some ht).trans hk
      rw [hKE] at HKr
      have HNEED := Lib.hid (fun (W : World) (hW : PAt W P g c toks (at_ + j) wi) => need_ok hW ht hk)
      obtain ⟨tk, tf, tn, tt, ta⟩ := t
      simp only [Tok.v, tokV] at HNEED
      have hf2 := fun w => tok_num tk tf tn ta tt w
      have HTN := Lib.hid (show tn = x from htn)
      have HXJ := Lib.hid hx
      clear ht hk hKE htn hx
      go_wp2_with fail
      refine HKr.out.mono ?_
      rintro e w2 ⟨rfl, n2, rfl⟩
      go_wp2_with fail
      refine (HNEED.out _ (HPr.out.drewN n2)).mono ?_
      rintro e w3 ⟨rfl, hp3, hg3⟩
      have ho3 := (HO.out.drewN n2).kept hg3 (.inr (HO.out.ne_low hPl))
      have hP3 := hp3.1.lt
      have HG3 := Lib.hid (grownBy_trans (grownBy_trans HG.out (grownBy_draws _ n2 _)) hg3)
      have hs3 := HG3.out.size
      go_wp2_with (at_builtin; refine wpList_append_ints _ rfl rfl _ _ (by rfl) w.heap.size j _ (xs.take j) (by rfl) (ho3.alloc _) (some ⟨w3.heap.size, 0, none⟩) 1 1 [tn] (by rfl) (by simp) (elems_new w3 tn) rfl (by omega) (by simp; omega) ?_; intro A2 c2 w5 hown5 hgrow hat)
      go_roundw
      case rel =>
        have hgA : w3.grownBy w5 (Value.slice A j cc).ownBlock := grownBy_trans (grownBy_of_below (below_one w3 _) (Nat.le_refl _)) hgrow
        refine ⟨j + 1, A2, c2, by omega, rfl, ?_, ?_, ?_⟩
        · rw [← take_next (HXJ.out)]
          rw [HTN.out] at hown5
          exact hown5
        · exact ⟨hp3.1.grown hgA (ho3.ne_low hPl), hp3.2.1, hp3.2.2.1, hp3.2.2.2.1, hp3.2.2.2.2.1, hp3.2.2.2.2.2.1, hp3.2.2.2.2.2.2.1, fun i t' ht' => by
            have h1 := hp3.2.2.2.2.2.2.2 i t' ht'
            rcases hb : (Value.slice A j cc).ownBlock with _ | k
            · rw [hb] at hgA
              exact h1.below ⟨hgA.os, hgA.tape, hgA.output, hgA.size, fun k hk => hgA.block k hk (by simp)⟩
            · rw [hb] at hgA
              have := (ho3.lt hb).1
              have := hp3.2.1
              exact h1.grown hgA (by omega)⟩
        · exact grownBy_row HG3.out hgA (fun k hk => (ho3.lt hk).1)
      case measure => simp [sliceLen]; omega
    · have hje : j = xs.length := by omega
      have HKE := Lib.hid (show (kindAt toks (at_ + j) == 1) = false by rw [hje]; simpa using HE.out)
      obtain ⟨K2, hK2⟩ : ∃ K2, K2 = kindAt toks (at_ + j) := ⟨_, rfl⟩
      rw [← hK2] at HKr HKE
      have e1 := HKE.out
      have HJ := Lib.hid hje
      clear hje hK2
      go_wp2_with fail
      refine HKr.out.mono ?_
      rintro e w2 ⟨rfl, n2, rfl⟩
      go_wp2_with fail
      go_ret
      have hje := HJ.out
      subst hje
      refine ⟨_, rfl, ?_, HPr.out.drewN n2, grownBy_trans HG.out (grownBy_draws _ _ _)⟩
      have ho := HO.out.drewN n2
      rw [List.take_of_length_le (Nat.le_refl _)] at ho
      exact isExpr_nums ho (by omega) hxl

end Go.Proofs.YtihndbkaoejnnaaGreatDoor
