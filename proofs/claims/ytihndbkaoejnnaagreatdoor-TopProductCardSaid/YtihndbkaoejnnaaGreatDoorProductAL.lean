/- What the card TopProduct leans on: FoldOf. Conditions: none but those of its theorems. -/
import Derived.Test.YtihndbkaoejnnaaGreatDoorProductAG
import Derived.Test.YtihndbkaoejnnaaGreatDoorProductAK
set_option linter.unusedSimpArgs false
set_option linter.unusedVariables false
namespace Go.Proofs.YtihndbkaoejnnaaGreatDoor.P
/-- What a line folds to, from the right; and its error. -/
def ofR (f : Int) : List Int → Int × Int
  | [] => (neutV f, neutE f)
  | [x] => (x, 0)
  | x :: y :: l => if (ofR f (y :: l)).2 ≠ 0 then (0, (ofR f (y :: l)).2) else (twoV f x (ofR f (y :: l)).1, twoE f x (ofR f (y :: l)).1)
theorem ofR_cons {f x : Int} {l : List Int} (h : l ≠ []) : ofR f (x :: l) = if (ofR f l).2 ≠ 0 then (0, (ofR f l).2) else (twoV f x (ofR f l).1, twoE f x (ofR f l).1) := by
  cases l with
  | nil => exact absurd rfl h
  | cons y l => rfl
theorem twoV_err {f a b : Int} (h : twoE f a b ≠ 0) : twoV f a b = 0 := by
  unfold twoE at h
  by_cases h1 : f < 1 ∨ 16 < f
  · unfold twoV
    rw [if_neg (by omega), if_neg (by omega), if_neg (by omega), if_neg (by omega), if_neg (by omega), if_neg (by omega), if_neg (by omega), if_neg (by omega), if_neg (by omega), if_neg (by omega), if_neg (by omega), if_neg (by omega), if_neg (by omega), if_neg (by omega), if_neg (by omega), if_neg (by omega)]
  · rw [if_neg h1] at h
    by_cases h2 : f = 4 ∧ b = 0
    · obtain ⟨rfl, rfl⟩ := h2
      unfold twoV; simp
    · rw [if_neg h2] at h
      by_cases h3 : f = 16 ∧ b < 0
      · obtain ⟨rfl, h4⟩ := h3
        unfold twoV; simp [h4]
      · rw [if_neg h3] at h
        exact absurd rfl h
/-- An error on the way is the whole line's. -/
theorem ofR_stop {f : Int} {l : List Int} {k : Nat} (hk : k < l.length) (h : (ofR f (l.drop k)).2 ≠ 0) : ofR f l = (0, (ofR f (l.drop k)).2) := by
  induction l generalizing k with
  | nil => simp at hk
  | cons x l ih =>
    cases k with
    | zero =>
      rw [List.drop_zero] at h ⊢
      cases l with
      | nil => exact absurd rfl h
      | cons y l =>
        rw [ofR_cons (by simp)] at h ⊢
        by_cases h1 : (ofR f (y :: l)).2 ≠ 0
        · rw [if_pos h1]
        · rw [if_neg h1] at h ⊢
          rw [twoV_err h]
    | succ k =>
      rw [List.drop_succ_cons] at h ⊢
      have hk' : k < l.length := by simpa using hk
      have e := ih hk' h
      rw [ofR_cons (fun e0 => by rw [e0] at hk'; simp at hk'), e]
      rw [if_pos h]
theorem ofR_top {l : List Int} (hw : ∀ x ∈ l, (Lit.int .i64 x).wf = true) (hl : l ≠ []) : (ofR 16 l).1 ≤ 9223372036854775807 := by
  have hwr : ∀ x : Int, Go.RowKit.wrap64 x ≤ 9223372036854775807 := fun x => by unfold Go.RowKit.wrap64; omega
  cases l with
  | nil => exact absurd rfl hl
  | cons x l =>
    cases l with
    | nil =>
      have := hw x (by simp)
      simp only [Lit.wf, Bool.and_eq_true, decide_eq_true_eq] at this
      exact this.2
    | cons y l =>
      rw [ofR_cons (by simp)]
      by_cases h1 : (ofR 16 (y :: l)).2 ≠ 0
      · rw [if_pos h1]; show (0 : Int) ≤ _; omega
      · rw [if_neg h1]
        show twoV 16 x _ ≤ _
        unfold twoV
        simp only [show ((16 : Int) = 1) = False by simp, show ((16 : Int) = 2) = False by simp, show ((16 : Int) = 3) = False by simp, show ((16 : Int) = 4) = False by simp, show ((16 : Int) = 5) = False by simp, show ((16 : Int) = 6) = False by simp, show ((16 : Int) = 7) = False by simp, show ((16 : Int) = 8) = False by simp, show ((16 : Int) = 9) = False by simp, show ((16 : Int) = 10) = False by simp, show ((16 : Int) = 11) = False by simp, show ((16 : Int) = 12) = False by simp, show ((16 : Int) = 13) = False by simp, show ((16 : Int) = 14) = False by simp, show ((16 : Int) = 15) = False by simp, if_false, if_true]
        split
        · omega
        · exact hwr _
end Go.Proofs.YtihndbkaoejnnaaGreatDoor.P
namespace Go.Proofs.YtihndbkaoejnnaaGreatDoor
open Go Go.RowKit Go.Shelf Go.Proofs.YtihndbkaoejnnaaGreatDoor.P

attribute [local go_sem] Oper.semAt_some

set_option maxHeartbeats 1000000 in
theorem back_in (F : Fence) (n : Nat) (hfn : F.fn 57) (hro : F.round = none) (A : Option Addr) (len cap : Nat) (w : World) :
    CallsIn F n Tryz.prog 57 #[.slice A len cap] w fun e w' => e = .returned (.func (.func 74) #[] #[.pointer (some ⟨w.heap.size, 0, none⟩)]) ∧ w' = w.alloc (.cells #[.slice A len cap] 23) := by
  refine callsIn_of_wp Tryz.func57 rfl hfn ?_ hro
  simp only [Tryz.ntmps57, List.size_toArray, List.length_cons, List.length_nil, Nat.reduceAdd, Nat.reduceSub, Array.replicate_succ, Array.replicate_zero, List.push_toArray, List.append_toArray, List.nil_append, List.cons_append]
  gi_wp2
  go_ret
  exact ⟨rfl, rfl⟩

set_option maxRecDepth 100000 in
set_option maxHeartbeats 4000000 in
theorem back1_in (F : Fence) (n : Nat) (hfn : F.fn 74) (hro : F.round = none) (hn : 1 ≤ n) (w0 : World) (A : Option Addr) (c : Nat) (xs : List Int) (hx4 : xs.length ≤ 9000000000000)
    (EA : Elems w0 A xs) (Bp l : Nat) (M : Nat → Obj → Prop) (J Jx : List Nat → World → Prop) (W : World) (hbw : Below w0.heap.size w0 W)
    (hBp : Box W Bp 23 #[.slice A xs.length c]) (hl : l < W.heap.size) (hl0 : w0.heap.size ≤ l) (hlB : l ≠ Bp) (hM : ∀ k o, M k o → w0.heap.size ≤ k ∧ k ≠ Bp)
    (hY : ∀ pre x W1, J pre W1 → (pre.length < xs.length ∧ x = xs.length - 1 - pre.length) → YieldAt F (n - 1) Tryz.prog l #[.int .i64 x, .int .i64 (xs.getD x 0)] W1 fun e W' =>
      (e = .returned (.bool true) ∧ J (pre ++ [x]) W' ∧ Turns (fun k o => M k o ∨ k = l) W1 W') ∨ (e = .returned (.bool false) ∧ Jx (pre ++ [x]) W'))
    (h0 : J [] W) :
    CallsIn F n Tryz.prog 74 #[.func (.yield l) #[] #[], .pointer (some ⟨Bp, 0, none⟩)] W fun e W' => (∃ v, e = .returned v) ∧ ((∃ s : List Nat, s.length = xs.length ∧ J s W') ∨ (∃ pre, True ∧ Jx pre W')) := by
  have hb0 := hBp.one
  have hlt0 := hBp.lt
  refine callsIn_of_wp Tryz.func74 rfl hfn ?_ hro
  simp only [Tryz.ntmps74, List.size_toArray, List.length_cons, List.length_nil, Nat.reduceAdd, Nat.reduceSub, Array.replicate_succ, Array.replicate_zero, List.push_toArray, List.append_toArray, List.nil_append, List.cons_append]
  gi_wp2
  have HY := Lib.hid hY
  have HM := Lib.hid hM
  clear hY hM hb0
  gi_loopw [3] (fun i wr => ∃ (k : Nat) (s : List Nat), k ≤ xs.length ∧ i = .int .i64 ((k : Int) - 1) ∧ s.length = xs.length - k ∧ J s wr ∧ Below w0.heap.size w0 wr ∧ Box wr Bp 23 #[.slice A xs.length c] ∧ W.heap.size ≤ wr.heap.size) (fun i _ => (intOf i + 1).toNat)
  case atStart => exact ⟨xs.length, [], Nat.le_refl _, rfl, by simp, h0, hbw, hBp, Nat.le_refl _⟩
  case round =>
    clear h0 hbw hBp
    obtain ⟨k, s, hk, rfl, hs, hJ, hbl, hBx, hsz⟩ := hrel
    have hbc := hBx.one
    have hblt := hBx.lt
    rcases k with _ | k
    · gi_wp2
      go_end0
      exact ⟨⟨_, rfl⟩, .inl ⟨s, by omega, hJ⟩⟩
    · have hk1 : ((k + 1 : Nat) : Int) - 1 = (k : Int) := by omega
      rw [hk1]
      obtain ⟨ad, x, rfl, hx, hal, hcx⟩ := Elems.later EA hbl (k := k) (by omega)
      have hgx : xs.getD k 0 = x := by rw [List.getD_eq_getElem?_getD, hx]; rfl
      have hkx : k < xs.length := by omega
      have HHY := HY.out s k wr hJ ⟨by omega, by omega⟩
      rw [hgx] at HHY
      have HS := Lib.hid hs
      obtain ⟨fn, tmps, assign, body, hy, hRo⟩ := HHY
      clear hx hgx hs hk1
      gi_wp2
      refine hRo.mono ?_
      clear hy hRo
      rintro e W3 (⟨rfl, hJ3, hT3⟩ | ⟨rfl, hJx3⟩)
      · have hB3 := hBx.turns hT3 fun h => by
          rcases h with h | h
          · exact (HM.out _ _ h).2 rfl
          · exact hlB h.symm
        have hb3 : Below w0.heap.size w0 W3 := hbl.trans (hT3.below hbl.size fun i o hi ho h => by
          rcases h with h | h
          · have := (HM.out _ _ h).1; omega
          · omega)
        have hz3 := hT3.size
        have HB3 := Lib.hid hB3
        clear hB3 hbc hblt hBx hT3 hJ
        gi_wp2
        go_roundw
        case rel => exact ⟨k, s ++ [k], by omega, rfl, by have := HS.out; simp; omega, hJ3, hb3, HB3.out, by omega⟩
        case measure => simp [intOf]
      · gi_wp2
        refine bodyPost_ret (results_none rfl _ _ _) rfl ?_
        exact ⟨⟨_, rfl⟩, .inr ⟨_, trivial, hJx3⟩⟩

theorem Box.put_other {W : World} {b l : Nat} {t : TypeId} {cs : Array Value} (h : Box W b t cs) (hne : b ≠ l) (o : Obj) : Box (W.putObj l o) b t cs := by
  unfold Box
  rw [World.putObj_heap_other hne]
  exact h

set_option maxRecDepth 100000 in
set_option maxHeartbeats 1000000 in
theorem of_nil (f : Int) (A : Option Addr) (c : Nat) (w : World) :
    Calls Tryz.prog 40 #[.int .i64 f, .slice A 0 c] w fun e w' => e = .returned (.tuple #[.int .i64 (neutV f), errV (neutE f)]) ∧ Below w.heap.size w w' := by
  have hnn := fun W => neutral_any f W
  by_cases hz : neutE f = 0
  · rw [hz, show errV 0 = .nilIface from rfl] at hnn ⊢
    have HN := Lib.hid hnn
    clear hnn hz
    have bI := (Box.new (w.alloc (.cells #[.int .i64 f] 32)) 3 #[.int .i64 (neutV f)]).alloc (.cells #[.nilIface] 29)
    have bE := Box.new ((w.alloc (.cells #[.int .i64 f] 32)).alloc (.cells #[.int .i64 (neutV f)] 3)) 29 #[.nilIface]
    simp only [World.size_alloc] at bI bE
    have j1 := bI.one
    have j2 := bE.one
    have jl := bI.lt
    have jl2 := bE.lt
    go_enter Tryz.func40, Tryz.ntmps40
    go_wp2_with fail
    refine (HN.out _).mono ?_
    rintro e w1 ⟨rfl, rfl⟩
    go_wp2_with fail
    refine bodyPost_ret (v := .tuple #[.int .i64 (neutV f), .nilIface]) (by simp [results, Tryz.results40, go_sem, j1, j2, jl, jl2]) rfl ?_
    exact ⟨rfl, by go_grown⟩
  · rw [errV_ne hz] at hnn ⊢
    have HN := Lib.hid hnn
    clear hnn hz
    have bI := (Box.new (w.alloc (.cells #[.int .i64 f] 32)) 3 #[.int .i64 (neutV f)]).alloc (.cells #[.iface 54 (.int .i64 (neutE f))] 29)
    have bE := Box.new ((w.alloc (.cells #[.int .i64 f] 32)).alloc (.cells #[.int .i64 (neutV f)] 3)) 29 #[.iface 54 (.int .i64 (neutE f))]
    simp only [World.size_alloc] at bI bE
    have j1 := bI.one
    have j2 := bE.one
    have jl := bI.lt
    have jl2 := bE.lt
    go_enter Tryz.func40, Tryz.ntmps40
    go_wp2_with fail
    refine (HN.out _).mono ?_
    rintro e w1 ⟨rfl, rfl⟩
    go_wp2_with fail
    refine bodyPost_ret (v := .tuple #[.int .i64 (neutV f), .iface 54 (.int .i64 (neutE f))]) (by simp [results, Tryz.results40, go_sem, j1, j2, jl, jl2]) rfl ?_
    exact ⟨rfl, by go_grown⟩

set_option maxRecDepth 100000 in
set_option maxHeartbeats 4000000 in
theorem of_in (F : Fence) (n : Nat) (hF : F = Fence.wide) (hn : 3 ≤ n) (f : Int) (v : Value) (ln : List Int) (w : World) (h1 : IsInts w v ln) (hl4 : ln.length ≤ 4096) (hw : ∀ x ∈ ln, (Lit.int .i64 x).wf = true) :
    CallsIn F n Tryz.prog 40 #[.int .i64 f, v] w fun e w' => e = .returned (.tuple #[.int .i64 (ofR f ln).1, errV (ofR f ln).2]) ∧ Below w.heap.size w w' := by
  obtain ⟨A, c, rfl, c1, c2, c3, EA, H0⟩ := h1.open_
  clear h1 H0
  by_cases h0 : ln = []
  · subst h0
    rw [hF]
    exact callsIn_wide.2 (of_nil f A c w)
  have hro : F.round = none := by rw [hF]; rfl
  have hfn : ∀ k, F.fn k := fun k => by rw [hF]; trivial
  have hfo := hfn 40
  have hfb := hfn 57
  have hfb1 := hfn 74
  have hft := hfn 39
  have hfneu := hfn 22
  have hn1 : 1 ≤ n := by omega
  have hn11 : 1 ≤ n - 1 - 1 := by omega
  have hneu : ∀ W, CallsIn F (n - 1) Tryz.prog 22 #[.int .i64 f] W fun e w' => e = .returned (.tuple #[.int .i64 (neutV f), errV (neutE f)]) ∧ W = w' := fun W => by
    rw [hF]; exact callsIn_wide.2 (neutral_any f W)
  have htwo : ∀ r a b W, (f = 16 → b ≤ 9223372036854775807) → CallsIn F r Tryz.prog 39 #[.int .i64 f, .int .i64 a, .int .i64 b] W fun e w' => e = .returned (.tuple #[.int .i64 (twoV f a b), errV (twoE f a b)]) ∧ Below W.heap.size W w' := fun r a b W h => by
    rw [hF]; exact callsIn_wide.2 (two_any f a b W h)
  have HNEU := Lib.hid hneu
  have HTWO := Lib.hid htwo
  have HW := Lib.hid hw
  clear hF hfn hneu htwo hw
  have bI0 := (Box.new (w.alloc (.cells #[.int .i64 f] 32)) 3 #[.int .i64 0]).alloc (.cells #[.nilIface] 29)
  have bE0 := Box.new ((w.alloc (.cells #[.int .i64 f] 32)).alloc (.cells #[.int .i64 0] 3)) 29 #[.nilIface]
  have bF0 := ((Box.new w 32 #[.int .i64 f]).alloc (.cells #[.int .i64 0] 3)).alloc (.cells #[.nilIface] 29)
  simp only [World.size_alloc] at bI0 bE0
  obtain ⟨m, hm⟩ : ∃ m, ln.length = m + 1 := ⟨ln.length - 1, by have := List.length_pos_iff.2 h0; omega⟩
  obtain ⟨ad, xl, rfl, hxl, hal, hcl⟩ := Elems.later EA (Below.refl _ _) (k := m) (by omega)
  have hbk : ∀ A2 c2 W, CallsIn F (n - 1) Tryz.prog 57 #[.slice A2 m c2] W fun e w' => e = .returned (.func (.func 74) #[] #[.pointer (some ⟨W.heap.size, 0, none⟩)]) ∧ w' = W.alloc (.cells #[.slice A2 m c2] 23) := fun A2 c2 W => back_in F (n - 1) hfb hro A2 m c2 W
  have HBK := Lib.hid hbk
  have HL0 := Lib.hid h0
  have HM := Lib.hid hm
  have HXL := Lib.hid hxl
  have hm4 : m ≤ 4096 := by omega
  rw [hm] at c1 c3 ⊢
  have hmc : m ≤ c := by omega
  have e0 : (((m : Int) + 1) == 0) = false := by rw [beq_eq_false_iff_ne]; omega
  have hb3 := below_three w (.cells #[.int .i64 f] 32) (.cells #[.int .i64 0] 3) (.cells #[.nilIface] 29)
  have hcl3 := (hb3.cell (p := ad.add m) (by rw [addr_block_add]; exact hal)).trans hcl
  have HB3 := Lib.hid hb3
  clear hbk h0 hm hxl hcl hb3
  refine callsIn_of_wp_marks Tryz.func40 rfl hfo ?_ hro
  simp only [Tryz.ntmps40, List.size_toArray, List.length_cons, List.length_nil, Nat.reduceAdd, Nat.reduceSub, Array.replicate_succ, Array.replicate_zero, List.push_toArray, List.append_toArray, List.nil_append, List.cons_append]
  gi_wp2_with fail
  refine (HBK.out _ _ _).mono ?_
  rintro e w4 ⟨rfl, rfl⟩
  gi_wp2_with fail
  obtain ⟨g, hg⟩ : ∃ g, g = w.heap.size := ⟨_, rfl⟩
  obtain ⟨W5, hW5⟩ : ∃ W, W = ((((w.alloc (.cells #[.int .i64 f] 32)).alloc (.cells #[.int .i64 0] 3)).alloc (.cells #[.nilIface] 29)).alloc (.cells #[.int .i64 xl] 3)).alloc (.cells #[.slice (some ad) m c] 23) := ⟨_, rfl⟩
  have bF5 : Box W5 g 32 #[.int .i64 f] := by rw [hW5, hg]; exact (bF0.alloc _).alloc _
  have bI5 : Box W5 (g + 1) 3 #[.int .i64 0] := by rw [hW5, hg]; exact (bI0.alloc _).alloc _
  have bE5 : Box W5 (g + 1 + 1) 29 #[.nilIface] := by rw [hW5, hg]; exact (bE0.alloc _).alloc _
  have bN5 : Box W5 (g + 1 + 1 + 1) 3 #[.int .i64 xl] := by rw [hW5, hg]; have := (Box.new (((w.alloc (.cells #[.int .i64 f] 32)).alloc (.cells #[.int .i64 0] 3)).alloc (.cells #[.nilIface] 29)) 3 #[.int .i64 xl]).alloc (.cells #[.slice (some ad) m c] 23); simpa using this
  have bS5 : Box W5 (g + 1 + 1 + 1 + 1) 23 #[.slice (some ad) m c] := by rw [hW5, hg]; have := Box.new ((((w.alloc (.cells #[.int .i64 f] 32)).alloc (.cells #[.int .i64 0] 3)).alloc (.cells #[.nilIface] 29)).alloc (.cells #[.int .i64 xl] 3)) 23 #[.slice (some ad) m c]; simpa using this
  have hb5 : Below w.heap.size w W5 := by rw [hW5]; exact (HB3.out.alloc (by simp; omega) _).alloc (by simp; omega) _
  have hz5 : W5.heap.size = g + 5 := by rw [hW5, hg]; simp
  have hET : Elems w (some ad) (ln.take m) := fun k x hx => by
    rw [List.getElem?_take] at hx
    split at hx
    · exact EA k x hx
    · cases hx
  have hTL : (ln.take m).length = m := by rw [List.length_take, HM.out]; omega
  rw [← hW5, ← hg]
  rw [← hg] at hb5 hal
  have HGW := Lib.hid hg
  have hb5g : Below g w W5 := hb5
  clear hW5 hcl3 bF0 bI0 bE0 HB3 hg
  refine wp_range (α := Nat) hro hn1 (gf := 74) (lb := #[.pointer (some ⟨g + 1 + 1 + 1 + 1, 0, none⟩)]) rfl hfb1 (enters_of Tryz.func74 (by kernel_rfl) rfl) (encs := fun x : Nat => #[.int .i64 x, .int .i64 ((ln.take m).getD x 0)]) (fun _ => rfl)
    (It := fun _ => False) (M := fun k _ => k = g + 1 ∨ k = g + 1 + 1 ∨ k = g + 1 + 1 + 1) (fun k o hk hm => by omega) (Pr := fun pre x _ => pre.length < (ln.take m).length ∧ x = (ln.take m).length - 1 - pre.length) (S := fun xs => xs.length = (ln.take m).length) (Sp := fun _ => True)
    ?seq (fun pre x W1 W2 h _ => h)
    (fun pre W => ∃ v, Box W g 32 #[.int .i64 f] ∧ Box W (g + 1) 3 #[.int .i64 0] ∧ Box W (g + 1 + 1) 29 #[.nilIface] ∧ Box W (g + 1 + 1 + 1) 3 #[.int .i64 v] ∧ ofR f (ln.drop (m - pre.length)) = (v, 0) ∧ pre.length ≤ m ∧ g + 5 ≤ W.heap.size ∧ Below g w W)
    (fun cd pre W => cd = .ret ∧ ∃ e, e ≠ 0 ∧ ofR f ln = (0, e) ∧ Box W (g + 1) 3 #[.int .i64 0] ∧ Box W (g + 1 + 1) 29 #[.iface 54 (.int .i64 e)] ∧ g + 5 ≤ W.heap.size ∧ Below g w W)
    ?hI ?hIx ?h0 (fun x => { tmps := #[.int .i64 f, .slice (some ad) (m + 1) c, .pointer (some ⟨g, 0, none⟩), undef, .pointer (some ⟨g + 1, 0, none⟩), .pointer (some ⟨g + 1 + 1, 0, none⟩), .pointer (some ⟨g + 1 + 1 + 1, 0, none⟩), undef, .int .i64 ((ln.take m).getD x 0), undef, undef, .slice (some ad) (m + 1) c, .int .i64 ((m : Int) + 1), .bool false, undef, undef, undef, undef, .slice (some ad) (m + 1) c, .slice (some ad) (m + 1) c, .int .i64 ((m : Int) + 1), .int .i64 m, .pointer (some (ad.add m)), .int .i64 xl, .slice (some ad) (m + 1) c, .slice (some ad) (m + 1) c, .int .i64 ((m : Int) + 1), .int .i64 m, .slice (some ad) m c, .func (.func 74) #[] #[.pointer (some ⟨g + 1 + 1 + 1 + 1, 0, none⟩)], .int .i64 x, .int .i64 ((ln.take m).getD x 0), undef, undef, undef, undef, undef, undef, undef, undef, undef, undef, undef, undef], defers := [] }) ?assign ?body ?done ?stop
  case seq =>
    intro l J Jx W hW hlt hle hJ hJx hY h0
    have hWs := hW.size
    have hgs := HGW.out
    exact back1_in F (n - 1) hfb1 hro (by omega) w (some ad) c (ln.take m) (by omega) hET (g + 1 + 1 + 1 + 1) l _ J Jx W (by have h9 := hb5.trans (hW.mono (by omega)); rw [HGW.out] at h9; exact h9) (by rw [hTL]; exact bS5.below hW) hlt (by omega) (by omega) (fun k o hk => by omega) hY h0
  case hI =>
    rintro s W1 W2 ⟨v, h1, h2, h3, h4, h5, h6, h7, h8⟩ ht
    have hno : ∀ k t cs, k < W5.heap.size → ¬ (W5.heap.size ≤ k ∧ ((fun _ => False) (Obj.cells cs t (0, 0)) ∨ (Obj.cells cs t (0, 0)).isCells = false)) := fun k t cs hk h => by omega
    exact ⟨v, h1.turns ht (hno _ _ _ (by omega)), h2.turns ht (hno _ _ _ (by omega)), h3.turns ht (hno _ _ _ (by omega)), h4.turns ht (hno _ _ _ (by omega)), h5, h6, by have := ht.size; omega, h8.trans (ht.below (by omega) fun k o hk _ h => by omega)⟩
  case hIx =>
    rintro cd s W1 W2 ⟨rfl, e, he, h1, h2, h3, h7, h8⟩ ht
    have hno : ∀ k t cs, k < W5.heap.size → ¬ (W5.heap.size ≤ k ∧ ((fun _ => False) (Obj.cells cs t (0, 0)) ∨ (Obj.cells cs t (0, 0)).isCells = false)) := fun k t cs hk h => by omega
    exact ⟨rfl, e, he, h1, h2.turns ht (hno _ _ _ (by omega)), h3.turns ht (hno _ _ _ (by omega)), by have := ht.size; omega, h8.trans (ht.below (by omega) fun k o hk _ h => by omega)⟩
  case h0 =>
    refine ⟨xl, bF5, bI5, bE5, bN5, ?_, Nat.zero_le _, by omega, hb5⟩
    rw [show m - ([] : List Nat).length = m from rfl, List.drop_eq_getElem_cons (by rw [HM.out]; omega), List.drop_of_length_le (by rw [HM.out]; omega)]
    have h := HXL.out
    rw [List.getElem?_eq_getElem (by rw [HM.out]; omega)] at h
    injection h with h
    rw [h]
    rfl
  case assign =>
    intro l x W K hK
    obtain ⟨y, hy⟩ : ∃ y, y = (ln.take m).getD x 0 := ⟨_, rfl⟩
    rw [← hy] at hK ⊢
    clear hy
    gi_wp2
    exact hK
  case body =>
    rintro l pre x W ⟨v, h1, h2, h3, h4, h5, h6, h7, h8⟩ ⟨hp1, hp2⟩
    rw [hTL] at hp1 hp2
    dsimp only
    have i1 := h1.one
    have i2 := h2.one
    have i3 := h3.one
    have i4 := h4.one
    have l1 := h1.lt
    have f2 := h2.frozen
    have f3 := h3.frozen
    have f4 := h4.frozen
    have hxl : x < ln.length := by rw [HM.out]; omega
    obtain ⟨y, hy⟩ : ∃ y, y = (ln.take m).getD x 0 := ⟨_, rfl⟩
    have hyl : ln[x]? = some y := by rw [hy, List.getD_eq_getElem?_getD, List.getElem?_take, if_pos (by omega), List.getElem?_eq_getElem hxl]; rfl
    rw [← hy]
    have hdr : ln.drop (m - (pre ++ [x]).length) = y :: ln.drop (m - pre.length) := by
      rw [List.length_append, List.length_singleton, show m - (pre.length + 1) = x by omega, List.drop_eq_getElem_cons hxl, show x + 1 = m - pre.length by omega]
      rw [List.getElem?_eq_getElem hxl] at hyl
      injection hyl with hyl
      rw [hyl]
    have hne : ln.drop (m - pre.length) ≠ [] := fun e => by have := congrArg List.length e; rw [List.length_drop, HM.out] at this; simp at this; omega
    have hst : ofR f (ln.drop (m - (pre ++ [x]).length)) = (twoV f y v, twoE f y v) := by
      rw [hdr, ofR_cons hne, h5]
      simp
    have HST := Lib.hid hst
    have hv16 : f = 16 → v ≤ 9223372036854775807 := fun h => by
      subst h
      have h9 := ofR_top (l := ln.drop (m - pre.length)) (fun z hz => HW.out z (List.mem_of_mem_drop hz)) hne
      rw [h5] at h9
      exact h9
    have HC := Lib.hid (fun r W => HTWO.out r y v W hv16)
    have HP2 := Lib.hid hp2
    clear hst hdr hyl hne hp2 hy
    by_cases hz : twoE f y v = 0
    · have hcw := fun r W => HC.out r W
      rw [hz, show errV 0 = .nilIface from rfl] at hcw
      have HCW := Lib.hid hcw
      have HZ := Lib.hid hz
      clear hcw hz HC
      gi_wp2_with fail
      refine (CallsIn.inRound l (HCW.out _ _)).mono ?_
      rintro e W2 ⟨rfl, hb2⟩
      have k1 := h1.below hb2
      have k2 := h2.below hb2
      have k3 := h3.below hb2
      have k4 := h4.below hb2
      have i5 := k4.one
      have f5 := k4.frozen
      have l5 := k4.lt
      have hs2 := hb2.size
      have T1 := Lib.hid (show Turns (fun k _ => k = g + 1 ∨ k = g + 1 + 1 ∨ k = g + 1 + 1 + 1) W (W2.setCell ⟨g + 1 + 1 + 1, 0, none⟩ (.int .i64 (twoV f y v))) from (Turns.of_below hb2 (fun k o hk ho => absurd (Array.getElem?_eq_some_iff.1 ho).1 (by omega))).trans (Turns.setCell (cs := #[.int .i64 v]) (t := 3) k4 (.inr (.inr rfl)) _))
      have K1 := Lib.hid (k1.far (p := ⟨g + 1 + 1 + 1, 0, none⟩) (by simp; omega) (.int .i64 (twoV f y v)))
      have K2 := Lib.hid (k2.far (p := ⟨g + 1 + 1 + 1, 0, none⟩) (by simp) (.int .i64 (twoV f y v)))
      have K3 := Lib.hid (k3.far (p := ⟨g + 1 + 1 + 1, 0, none⟩) (by simp) (.int .i64 (twoV f y v)))
      have k5 := k4.store 0 (.int .i64 (twoV f y v))
      simp only [List.setIfInBounds_toArray, List.set_cons_zero] at k5
      have K4 := Lib.hid k5
      have K8 := Lib.hid ((h8.trans (hb2.mono (by omega))).setCell (p := ⟨g + 1 + 1 + 1, 0, none⟩) (by simp; omega) (.int .i64 (twoV f y v)))
      clear k1 k2 k3 k5 i1 i2 i3 i4 f2 f3 f4 h1 h2 h3 h4 h8 hb2
      gi_wp2_with fail
      refine ⟨T1.out, twoV f y v, K1.out, K2.out, K3.out, K4.out, by rw [HST.out, HZ.out], by simp; omega, by simp; omega, K8.out⟩
    · have hcw := fun r W => HC.out r W
      rw [errV_ne hz] at hcw
      have HCW := Lib.hid hcw
      have HST2 := Lib.hid (show ofR f ln = (0, twoE f y v) by
        have h9 := ofR_stop (f := f) (l := ln) (k := m - (pre ++ [x]).length) (by rw [HM.out]; omega) (by rw [HST.out]; exact hz)
        rw [HST.out] at h9
        exact h9)
      have HZ := Lib.hid hz
      obtain ⟨ee, hee⟩ : ∃ e, e = twoE f y v := ⟨_, rfl⟩
      rw [← hee] at HCW HST2 HZ
      clear hcw hz HC hee
      gi_wp2_with fail
      refine (CallsIn.inRound l (HCW.out _ _)).mono ?_
      rintro e W2 ⟨rfl, hb2⟩
      have k2 := h2.below hb2
      have k3 := h3.below hb2
      have i5 := k2.one
      have f5 := k2.frozen
      have l5 := k2.lt
      have i6 := k3.one
      have f6 := k3.frozen
      have l6 := k3.lt
      have hs2 := hb2.size
      have s2 := k2.store 0 (.int .i64 0)
      simp only [List.setIfInBounds_toArray, List.set_cons_zero] at s2
      have s3 := k3.far (p := ⟨g + 1, 0, none⟩) (by simp) (.int .i64 0)
      have i7 := s3.one
      have f7 := s3.frozen
      have l7 := s3.lt
      have s4 := s3.store 0 (.iface 54 (.int .i64 ee))
      simp only [List.setIfInBounds_toArray, List.set_cons_zero] at s4
      have s5 := s2.far (p := ⟨g + 1 + 1, 0, none⟩) (by simp) (.iface 54 (.int .i64 ee))
      have T1 := Lib.hid (show Turns (fun k _ => k = g + 1 ∨ k = g + 1 + 1 ∨ k = g + 1 + 1 + 1) W ((W2.setCell ⟨g + 1, 0, none⟩ (.int .i64 0)).setCell ⟨g + 1 + 1, 0, none⟩ (.iface 54 (.int .i64 ee))) from ((Turns.of_below hb2 (fun k o hk ho => absurd (Array.getElem?_eq_some_iff.1 ho).1 (by omega))).trans (Turns.setCell (cs := #[.int .i64 0]) (t := 3) k2 (.inl rfl) _)).trans (Turns.setCell (cs := #[.nilIface]) (t := 29) s3 (.inr (.inl rfl)) _))
      have K2 := Lib.hid s5
      have K3 := Lib.hid s4
      have K8 := Lib.hid (((h8.trans (hb2.mono (by omega))).setCell (p := ⟨g + 1, 0, none⟩) (by simp) (.int .i64 0)).setCell (p := ⟨g + 1 + 1, 0, none⟩) (by simp; omega) (.iface 54 (.int .i64 ee)))
      clear s2 s4 s5 i1 i2 i3 i4 f2 f3 f4 h1 h2 h3 h4 h8 hb2
      gi_wp2_with fail
      refine ⟨T1.out, rfl, ee, HZ.out, HST2.out, K2.out, K3.out, by simp; omega, K8.out⟩
  case done =>
    rintro D ys W hD hS ⟨v, h1, h2, h3, h4, h5, h6, h7, h8⟩ hK
    have i4 := h4.one
    have l4 := h4.lt
    have i2 := h2.one
    have l2 := h2.lt
    have f2 := h2.frozen
    have s2 := h2.store 0 (.int .i64 v)
    have s3 := h3.far (p := ⟨g + 1, 0, none⟩) (by simp) (.int .i64 v)
    simp only [List.setIfInBounds_toArray, List.set_cons_zero] at s2
    have i3 := s3.one
    have l3 := s3.lt
    have f3 := s3.frozen
    have hDg : g + 5 ≤ D := by omega
    have r2 := (s2.far (p := ⟨g + 1 + 1, 0, none⟩) (by simp) .nilIface)
    have r3 := s3.store 0 .nilIface
    simp only [List.setIfInBounds_toArray, List.set_cons_zero] at r3
    have hK2 : ((W.setCell ⟨g + 1, 0, none⟩ (.int .i64 v)).setCell ⟨g + 1 + 1, 0, none⟩ .nilIface).heap[D]? = some (.deferred (some [])) := by
      rw [Below.heap_setCell _ _ _ D (by simp; omega), Below.heap_setCell _ _ _ D (by simp; omega)]
      exact hK
    have hB := (h8.setCell (p := ⟨g + 1, 0, none⟩) (by simp) (.int .i64 v)).setCell (p := ⟨g + 1 + 1, 0, none⟩) (by simp; omega) .nilIface
    have HOF := Lib.hid (show ofR f ln = (v, 0) by
      rw [hTL] at hS
      rw [hS, Nat.sub_self, List.drop_zero] at h5
      exact h5)
    clear h1 h2 h3 h4 h5 h8 s2 s3
    gi_wp2_with fail
    refine ⟨by simp, .inl ⟨_, _, rfl, run_takeDeferred hK2, ?_⟩⟩
    have q2 := (r2.put_other (l := D) (by omega) (.deferred none)).one
    have q3 := (r3.put_other (l := D) (by omega) (.deferred none)).one
    have q4 := (r2.put_other (l := D) (by omega) (.deferred none)).lt
    have q5 := (r3.put_other (l := D) (by omega) (.deferred none)).lt
    refine ⟨.tuple #[.int .i64 v, .nilIface], by simp [results, Tryz.results40, go_sem, q2, q3, q4, q5], by rw [HOF.out]; rfl, ?_⟩
    have hgw := HGW.out
    rw [← hgw]
    exact hB.trans (belowK_b (w := w) (by omega) _ D _ _ (by omega) hK2 rfl rfl)
  case stop =>
    rintro D cd pre W hD _ ⟨rfl, e, he, h1, h2, h3, h7, h8⟩ hK
    have hDg : g + 5 ≤ D := by omega
    have HE := Lib.hid he
    have HOF := Lib.hid h1
    clear he h1
    gi_wp2_with fail
    refine ⟨by simp, .inl ⟨_, _, rfl, run_takeDeferred hK, ?_⟩⟩
    have q2 := (h2.put_other (l := D) (by omega) (.deferred none)).one
    have q3 := (h3.put_other (l := D) (by omega) (.deferred none)).one
    have q4 := (h2.put_other (l := D) (by omega) (.deferred none)).lt
    have q5 := (h3.put_other (l := D) (by omega) (.deferred none)).lt
    refine ⟨.tuple #[.int .i64 0, .iface 54 (.int .i64 e)], by simp [results, Tryz.results40, go_sem, q2, q3, q4, q5], by rw [HOF.out, errV_ne HE.out], ?_⟩
    have hgw := HGW.out
    rw [hgw] at h8
    exact h8.trans (belowK_b (w := w) (Nat.le_refl _) _ D _ _ (by omega) hK rfl rfl)

set_option maxHeartbeats 1000000 in
theorem of_any (f : Int) (v : Value) (ln : List Int) (w : World) (h1 : IsInts w v ln) (hl4 : ln.length ≤ 4096) (hw : ∀ x ∈ ln, (Lit.int .i64 x).wf = true) :
    Calls Tryz.prog 40 #[.int .i64 f, v] w fun e w' => e = .returned (.tuple #[.int .i64 (ofR f ln).1, errV (ofR f ln).2]) ∧ Below w.heap.size w w' :=
  callsIn_wide.1 (of_in Fence.wide 3 rfl (Nat.le_refl _) f v ln w h1 hl4 hw)

end Go.Proofs.YtihndbkaoejnnaaGreatDoor
