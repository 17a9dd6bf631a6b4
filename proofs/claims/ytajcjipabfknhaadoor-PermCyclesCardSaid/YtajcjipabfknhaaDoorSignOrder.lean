/- The walk of perm.Sign. Conditions: none. -/
import Derived.Test.YtajcjipabfknhaaDoorRoundsOrder
set_option linter.unusedSimpArgs false
set_option linter.unusedVariables false
namespace Go.Proofs.YtajcjipabfknhaaDoor
open Go Go.RowKit Go.Shelf Go.Proofs.YtajcjipabfknhaaDoor.P

attribute [local go_sem] Oper.semAt_some

theorem PrC.turns {p : List Nat} {pre : List Cyc} {x : Cyc} {W1 W2 : World} {B B' : Nat} (h : PrC p B' pre x W1) (ht : Turns (fun k o => B ≤ k ∧ o.isCells = false) W1 W2) : PrC p B' pre x W2 := ⟨h.1.turns ht fun _ _ _ hm => (by cases hm.2), h.2⟩
theorem PrC.lower {p : List Nat} {pre : List Cyc} {x : Cyc} {W : World} {B B' : Nat} (h : PrC p B' pre x W) (hB : B ≤ B') : PrC p B pre x W := ⟨h.1.base hB, h.2⟩

def signAll (p : List Nat) (xs : List Cyc) : Int := sgn (P.part p (xs.map Prod.snd).flatten)

set_option maxRecDepth 100000 in
set_option maxHeartbeats 4000000 in
theorem sign_in (F : Fence) (n : Nat) (hF : F = Fence.wide) (hn : 3 ≤ n) (v : Value) (p : List Nat) (w : World) (h1 : IsInts w v (ints p)) (hp : Perm p) (hl : p.length ≤ 4096) :
    CallsIn F n Tryd.prog 23 #[v] w fun e w' => e = .returned (.tuple #[.int .i64 (sgn p), .nilIface]) ∧ Below w.heap.size w w' := by
  obtain ⟨A, c, rfl, c1, c2, c3, EA, H0⟩ := h1.open_
  have o1 := ordErr_ok hp hl
  simp only [length_ints] at c1 c3 H0 ⊢
  have O1 := Lib.hid o1
  have HP := Lib.hid hp
  clear h1 o1 hp
  have hro : F.round = none := by rw [hF]; rfl
  have hfn : ∀ k, F.fn k := fun k => by rw [hF]; trivial
  have hf80 := hfn 41
  have hf53 := hfn 35
  have hf52 := hfn 10
  have hf24 := hfn 23
  have hn1 : 1 ≤ n := by omega
  have hchk : CallsIn F (n - 1) Tryd.prog 10 #[.slice A p.length c] w fun e w' => e = .returned .nilIface ∧ Below w.heap.size w w' := by
    rw [hF]; exact callsIn_wide.2 (pcheck_ok _ _ _ H0 O1.out)
  clear hF H0 hfn
  refine callsIn_of_wp_marks Tryd.func23 rfl hf24 ?_ hro
  simp only [Tryd.ntmps23, List.size_toArray, List.length_cons, List.length_nil, Nat.reduceAdd, Nat.reduceSub, Array.replicate_succ, Array.replicate_zero, List.push_toArray, List.append_toArray, List.nil_append, List.cons_append]
  gi_wp2_with fail
  refine hchk.mono ?_
  rintro e w1 ⟨rfl, hb1⟩
  clear hchk
  gi_wp2_with fail
  refine (rounds_in F (n - 1) hf53 hro A p.length c _).mono ?_
  rintro e w2 ⟨rfl, rfl⟩
  gi_wp2_with fail
  have bS := (Box.new w1 3 #[.int .i64 1]).alloc (.cells #[.slice A p.length c] 22)
  have bP := Box.new (w1.alloc (.cells #[.int .i64 1] 3)) 22 #[.slice A p.length c]
  rw [World.size_alloc] at bP
  have hs1 := hb1.size
  have hbw : Below w.heap.size w ((w1.alloc (.cells #[.int .i64 1] 3)).alloc (.cells #[.slice A p.length c] 22)) := (hb1.alloc hs1 _).alloc (by simp; omega) _
  refine wp_range (α := Cyc) hro hn1 (gf := 41) (lb := #[.pointer (some ⟨w1.heap.size + 1, 0, none⟩)]) rfl hf80 (enters_of Tryd.func41 (by kernel_rfl) rfl) (encs := fun x : Cyc => #[x.1]) (fun _ => rfl)
    (It := ItC) (M := fun k _ => k = w1.heap.size) (fun k o hk hm => by simp at hk; omega) (Pr := PrC p w1.heap.size) (S := SC p) (Sp := fun _ => True)
    ?seq (fun pre x W1 W2 h ht => h.turns ht)
    (fun pre W => Box W w1.heap.size 3 #[.int .i64 (signAll p pre)] ∧ Rounds p (pre.map Prod.snd) ∧ Below w.heap.size w W) (fun _ _ _ => False) ?hI (fun _ _ _ _ h _ => h) ?h0
    (fun x => { tmps := #[.slice A p.length c, undef, .int .i64 0, .nilIface, .nilIface, .pointer (some ⟨w1.heap.size, 0, none⟩), x.1, .slice A p.length c, .nilIface, .nilIface, .bool false, undef, .slice A p.length c,
      .func (.func 41) #[] #[.pointer (some ⟨w1.heap.size + 1, 0, none⟩)], x.1, undef, undef, undef, undef, undef, undef, undef], defers := [] }) ?assign ?body ?done ?stop
  case seq =>
    intro l J Jx W hW hlt hle hJ _ hY h0
    simp at hle
    exact rounds1_in F (n - 1) hf80 hro (by omega) w A c p HP.out hl EA c1 c2 (w1.heap.size + 1) l _ J Jx W (hbw.trans (hW.mono (by simp; omega))) (bP.below hW) hlt (by omega) (by omega)
      (fun k o hk => ⟨by omega, by omega, fun h => by have := hW.size; simp at this; omega⟩) hJ (fun pre x W1 hj hp => hY pre x W1 hj (hp.lower (by have := hW.size; simp at this; omega))) h0
  case hI =>
    rintro s W1 W2 ⟨hb, hR, hB⟩ ht
    refine ⟨hb.turns ht fun h => by have := h.1; simp at this; omega, hR, hB.trans (ht.below hB.size fun k o hk _ h => by have := h.1; simp at this; omega)⟩
  case h0 =>
    refine ⟨?_, Rounds.nil p, hbw⟩
    have : signAll p [] = 1 := by unfold signAll; simp [part_nil, sgn_idn]
    rw [this]
    exact bS
  case assign =>
    intro l x W K hK
    gi_wp2
    exact hK
  case body =>
    rintro l pre ⟨v, cy⟩ W ⟨hb, hR, hB⟩ ⟨hi0, hrd, -, hnew⟩
    dsimp only at hi0 hrd hnew ⊢
    have hi := hi0.isInts
    clear hi0
    obtain ⟨A', c', rfl, -, -, -, -, -⟩ := hi.open_
    rw [length_ints]
    have hc := hb.one
    have hf := hb.frozen
    have hz := hb.lt
    have hst := sgn_part_add HP.out (Rounds.shut HP.out hR.1) hrd hnew
    have hsa : signAll p (pre ++ [(.slice A' cy.length c', cy)]) = P.sgn (P.part p ((pre.map Prod.snd).flatten ++ cy)) := by unfold signAll; simp
    have hR2 : Rounds p ((pre ++ [(Value.slice A' cy.length c', cy)]).map Prod.snd) := by rw [List.map_append]; exact hR.add hrd hnew
    have HSA := Lib.hid hsa
    have HST := Lib.hid hst
    have HR2 := Lib.hid hR2
    clear hst hsa hR2 hR hrd hnew hi
    gi_wp2
    · have hx : ((cy.length : Int) % 2 == 0) = true := by assumption
      have hx' : cy.length % 2 = 0 := by simp at hx; omega
      have e : wrap64 (-signAll p pre) = signAll p (pre ++ [(.slice A' cy.length c', cy)]) := by
        rw [HSA.out, HST.out, if_pos hx']
        unfold signAll wrap64
        rcases sgn_cases (P.part p (pre.map Prod.snd).flatten) with h | h <;> rw [h] <;> rfl
      rw [e]
      exact ⟨Turns.setCell hb rfl _, Box.store hb 0 _, HR2.out, hB.setCell (p := ⟨w1.heap.size, 0, none⟩) hs1 _⟩
    · have hx : ((cy.length : Int) % 2 == 0) = false := by assumption
      have hx' : ¬ cy.length % 2 = 0 := by simp at hx; omega
      have e : signAll p pre = signAll p (pre ++ [(.slice A' cy.length c', cy)]) := by
        rw [HSA.out, HST.out, if_neg hx']
        rfl
      rw [e] at hb
      exact ⟨Turns.refl _ _, hb, HR2.out, hB⟩
  case done =>
    rintro D ys W hD hS ⟨hb, hR, hB⟩ hK
    have hc := hb.one
    have hz := hb.lt
    have hfin : signAll p ys = P.sgn p := by unfold signAll; rw [part_all hS.2.1]
    rw [hfin] at hc
    gi_wp2
    refine ⟨by simp, .inl ⟨_, _, rfl, run_takeDeferred hK, ?_⟩⟩
    refine ⟨.tuple #[.int .i64 (P.sgn p), .nilIface], by simp [results, Tryd.results23, go_sem], rfl, hB.trans (belowK_b (w := w) (Nat.le_refl _) W D _ _ (by simp at hD; omega) hK rfl rfl)⟩
  case stop =>
    rintro D c pre W _ _ h _
    exact h.elim

theorem sign_ok (v : Value) (p : List Nat) (w : World) (h1 : IsInts w v (ints p)) (hp : Perm p) (hl : p.length ≤ 4096) :
    Calls Tryd.prog 23 #[v] w fun e w' => e = .returned (.tuple #[.int .i64 (sgn p), .nilIface]) ∧ Below w.heap.size w w' :=
  callsIn_wide.1 (sign_in Fence.wide 3 rfl (Nat.le_refl _) v p w h1 hp hl)

set_option maxHeartbeats 1000000 in
theorem sign_bad (v : Value) (p : List Int) (w : World) (h1 : IsInts w v p) (h : ordErr p ≠ 0) :
    Calls Tryd.prog 23 #[v] w fun e w' => e = .returned (.tuple #[.int .i64 0, .iface 23 (.int .i64 (ordErr p))]) ∧ Below w.heap.size w w' := by
  obtain ⟨A, ca, rfl, a1, a2, a3, -, H0⟩ := h1.open_
  have C1 := Lib.hid h
  clear h1 h
  go_enter Tryd.func23, Tryd.ntmps23
  go_wp2_with fail
  refine (pcheck_bad _ _ _ H0 C1.out).mono ?_
  rintro en w1 ⟨rfl, hb1⟩
  go_wp2_with fail
  refine bodyPost_ret (v := .tuple #[.int .i64 0, .iface 23 (.int .i64 (ordErr p))]) (by simp [results, Tryd.results23, go_sem]) rfl ?_
  exact ⟨rfl, by go_grown⟩

end Go.Proofs.YtajcjipabfknhaaDoor
