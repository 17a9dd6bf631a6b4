/- What the card TopOnce leans on: Firsts, Chosen, SeekFn. Conditions: none but those of its theorems. -/
import Derived.Maps.OwnOps
import Derived.Maps.OwnSet
import Derived.Test.YtihndbkaoejnnaaGreatDoorOnceE
import Derived.Test.YtihndbkaoejnnaaGreatDoorOnceH
import Derived.Test.YtihndbkaoejnnaaGreatDoorOnceA
import Derived.Test.YtihndbkaoejnnaaGreatDoorOnceC
set_option linter.unusedSimpArgs false
set_option linter.unusedVariables false
namespace Go.Proofs.YtihndbkaoejnnaaGreatDoor.P

theorem idx_new {d : List Int} {k : Nat} {x : Int} (hx : d[k]? = some x) (h : x ∉ d.take k) : d.idxOf x = k := by
  obtain ⟨hk, e⟩ := List.getElem?_eq_some_iff.1 hx
  conv => lhs; rw [← List.take_append_drop k d]
  rw [List.idxOf_append, if_neg h, List.drop_eq_getElem_cons hk, e, List.idxOf_cons_self, List.length_take]
  omega
theorem mem_take_succ {d : List Int} {k : Nat} {x y : Int} (hx : d[k]? = some x) : y ∈ d.take (k + 1) ↔ y ∈ d.take k ∨ y = x := by
  rw [List.take_add_one, hx]
  simp

end Go.Proofs.YtihndbkaoejnnaaGreatDoor.P
namespace Go.Proofs.YtihndbkaoejnnaaGreatDoor
open Go Go.RowKit Go.Proofs.YtihndbkaoejnnaaGreatDoor.P

theorem int_keys : Maps.Keyed Tryz.prog 3 := Maps.int_keyed Tryz.underlying3
theorem int_zero (w : World) : (zeroValue 3).run Tryz.prog w = .ok (.int .i64 0) w := by kernel_rfl

theorem run_makeMap_sized (n : Int) (w : World) : (Instr.makeMap 58 (some (.int .i64 n))).run Tryz.prog w = .ok (.map (some w.heap.size)) (w.alloc (.map #[] 0)) := by
  have hu := run_underlying (P := Tryz.prog) (w := w) Tryz.underlying58
  simp [Instr.makeMap, hu, asInt, asIntOf]

/-- These are numbers that a word has. -/
def Wf (d : List Int) : Prop := ∀ x ∈ d, (Lit.int .i64 x).wf = true
theorem Wf.at_ {d : List Int} (h : Wf d) {k : Nat} {x : Int} (hx : d[k]? = some x) : (Lit.int .i64 x).wf = true := h x (List.mem_of_getElem? hx)

/-- A map tells where the numbers of a list are first. -/
def Tells (D : DataW Unit) (d e : List Int) : Prop :=
  Maps.IsMap D ∧ (∀ x, (Lit.int .i64 x).wf = true → Maps.has D (.int .i64 x) = decide (x ∈ e)) ∧ ∀ x, (Lit.int .i64 x).wf = true → x ∈ e → ∀ z, D.atKey (.int .i64 x) z = .lit (.int .i64 ((d.idxOf x : Nat) : Int))
theorem Tells.none (d : List Int) : Tells (.map []) d (d.take 0) := ⟨Maps.isMap_empty, fun x _ => by simp [Maps.has_eq], fun x _ h => by simp at h⟩
theorem key_lit (x : Int) (h : (Lit.int .i64 x).wf = true) : WideAt.IsKeyLit (.int .i64 x) := by
  first | exact h | trivial | simp [WideAt.IsKeyLit, h] | (unfold WideAt.IsKeyLit; exact h)
theorem Tells.known {D : DataW Unit} {d : List Int} {k : Nat} {x : Int} (h : Tells D d (d.take k)) (hx : d[k]? = some x) (hk : x ∈ d.take k) : Tells D d (d.take (k + 1)) := by
  obtain ⟨h1, h2, h3⟩ := h
  refine ⟨h1, fun y hy => ?_, fun y hy hm z => ?_⟩
  · rw [h2 y hy, decide_eq_decide, mem_take_succ hx]
    exact ⟨.inl, fun h => h.elim id fun e => e ▸ hk⟩
  · rw [mem_take_succ hx] at hm
    exact h3 y hy (hm.elim id fun e => e ▸ hk) z
theorem Tells.new {D : DataW Unit} {d : List Int} {k : Nat} {x : Int} (h : Tells D d (d.take k)) (hx : d[k]? = some x) (hw : (Lit.int .i64 x).wf = true) (hk : x ∉ d.take k) : Tells (D.put (.int .i64 x) (.lit (.int .i64 (k : Int)))) d (d.take (k + 1)) := by
  obtain ⟨h1, h2, h3⟩ := h
  refine ⟨h1.put _ _, fun y hy => ?_, fun y hy hm z => ?_⟩
  · by_cases e : y = x
    · subst e
      rw [Maps.has_put_same h1 (key_lit y hw)]
      symm
      rw [decide_eq_true_iff, mem_take_succ hx]
      exact .inr rfl
    · rw [Maps.has_put_other (by intro e2; injection e2 with _ e2; exact e e2), h2 y hy, decide_eq_decide, mem_take_succ hx]
      exact ⟨.inl, fun h => h.elim id fun e2 => absurd e2 e⟩
  · by_cases e : y = x
    · subst e
      rw [Maps.atKey_put_same h1 (key_lit y hw), idx_new hx hk]
    · rw [Maps.atKey_put_other (by intro e2; injection e2 with _ e2; exact e e2)]
      rw [mem_take_succ hx] at hm
      exact h3 y hy (hm.elim id fun e2 => absurd e2 e) z

/-- A block of such a map. -/
def FirstsAt (w : World) (g : Nat) (d : List Int) : Prop := ∃ n D, w.ownsMap Tryz.prog 3 (plainElem Tryz.prog 3) g n D ∧ Tells D d d
theorem ownsMap_below {w w' : World} {g n : Nat} {D : DataW Unit} (h : w.ownsMap Tryz.prog 3 (plainElem Tryz.prog 3) g n D) (hb : Below w.heap.size w w') : w'.ownsMap Tryz.prog 3 (plainElem Tryz.prog 3) g n D :=
  h.kept (row := none) ⟨hb.os, hb.tape, hb.output, hb.size, fun k hk _ => hb.block k hk⟩ (by simp)
theorem FirstsAt.mono {w w' : World} {g : Nat} {d : List Int} (h : FirstsAt w g d) (hb : Below w.heap.size w w') : FirstsAt w' g d := by
  obtain ⟨n, D, h1, h2⟩ := h
  exact ⟨n, D, ownsMap_below h1 hb, h2⟩

set_option maxRecDepth 100000 in
set_option maxHeartbeats 1000000 in
theorem firsts_any {v : Value} {a : Arr} {w : World} (ha : IsArr w v a) (hw : Wf a.da) (hl : a.da.length ≤ 4096) :
    Calls Tryz.prog 29 #[v] w fun e w' => ∃ g, e = .returned (.map (some g)) ∧ w.heap.size ≤ g ∧ FirstsAt w' g a.da ∧ Below w.heap.size w w' := by
  obtain ⟨A, ca, D, cd, rfl, hs, hd⟩ := ha.open_
  obtain ⟨_, _, e1, d1, d2, d3, d0, d4⟩ := id hd
  cases e1
  have D4 := Lib.hid (show Elems w D a.da from d4)
  have HW := Lib.hid hw
  have hmm := run_makeMap_sized
  have bA0 := (Box.new w 25 #[.bool a.ch, .slice A a.sh.length ca, .slice D a.da.length cd]).alloc (.map #[] 0)
  have hm0 := World.ownsMap_made (H := Unit) (w.alloc (.cells #[.bool a.ch, .slice A a.sh.length ca, .slice D a.da.length cd] 25)) Tryz.prog 3 (plainElem Tryz.prog 3)
  rw [World.size_alloc] at hm0
  have hb0 := below_two w (.cells #[.bool a.ch, .slice A a.sh.length ca, .slice D a.da.length cd] 25) (.map #[] 0)
  obtain ⟨t0, t1, t2⟩ := bA0.three
  clear d4 d0 hs hd hw
  go_enter Tryz.func29, Tryz.ntmps29
  go_wp2_with fail
  clear t0 t1 t2
  go_loopw [15] (fun i wr => ∃ (k : Nat) (M : DataW Unit), k ≤ a.da.length ∧ i = .int .i64 k ∧ wr.ownsMap Tryz.prog 3 (plainElem Tryz.prog 3) (w.heap.size + 1) k M ∧ Tells M a.da (a.da.take k) ∧ Below w.heap.size w wr) (fun i _ => a.da.length - (intOf i).toNat)
  case atStart => exact ⟨0, _, Nat.zero_le _, rfl, hm0, Tells.none _, hb0⟩
  case round =>
    clear bA0 hm0 hb0
    obtain ⟨k, M, hk, rfl, hown, ht, hbl⟩ := hrel
    rcases Nat.lt_or_ge k a.da.length with hlt | hge
    · obtain ⟨ad, x, rfl, hx, hal, hcx⟩ := Elems.later D4.out hbl hlt
      have hwx := HW.out.at_ hx
      have hkey : keyOf Tryz.prog 3 (.int .i64 x) = some (.int .i64 x) := Maps.keyOf_int_mk Tryz.underlying3 hwx
      have hwk : (Lit.int .i64 (k : Int)).wf = true := WalkArith.wf_i64 (by omega)
      have hhas := ht.2.1 x hwx
      have HX := Lib.hid hx
      have HT := Lib.hid ht
      have HWX := Lib.hid hwx
      clear hx ht hwx
      by_cases hm : x ∈ a.da.take k
      · rw [decide_eq_true hm] at hhas
        have HM := Lib.hid hm
        have hown2 := hown.mono (Nat.le_succ k)
        clear hm
        go_wp2_with (at_lookup; refine wpList_lookup_own_ok_int _ rfl _ _ 58 rfl 3 3 .i64 int_keys Tryz.underlying58 Tryz.underlying3 (int_zero _) (w.heap.size + 1) k _ rfl hown _ _ rfl hkey ?_; intro c hat hwc; rw [hhas])
        go_roundw
        case rel => exact ⟨k + 1, M, by omega, by go_num, hown2, HT.out.known HX.out HM.out, hbl⟩
        case measure => simp [intOf]; omega
      · rw [decide_eq_false hm] at hhas
        have HM := Lib.hid hm
        clear hm
        go_wp2_with (first | (at_lookup; refine wpList_lookup_own_ok_int _ rfl _ _ 58 rfl 3 3 .i64 int_keys Tryz.underlying58 Tryz.underlying3 (int_zero _) (w.heap.size + 1) k _ rfl hown _ _ rfl hkey ?_; intro c hat hwc; rw [hhas]) | (at_mapUpdate; refine wpList_mapUpdate_own _ rfl _ _ _ 58 rfl 3 3 int_keys Tryz.underlying58 _ (w.heap.size + 1) k _ rfl hown (by unfold maxLen; omega) _ _ _ rfl rfl hkey _ [] (plainElem_int Tryz.underlying3 hwk) ?_; intro w1 hown1 hgrow1))
        go_roundw
        case rel => exact ⟨k + 1, _, by omega, by go_num, hown1, HT.out.new HX.out HWX.out HM.out, hbl.grown hgrow1 hbl.size (fun j e => by cases e; omega)⟩
        case measure => simp [intOf]; omega
    · have hke : k = a.da.length := by omega
      subst hke
      rw [List.take_length] at ht
      have HT := Lib.hid ht
      clear ht
      go_wp2_with fail
      go_ret
      exact ⟨_, rfl, by omega, ⟨_, M, hown, HT.out⟩, hbl⟩

set_option maxHeartbeats 400000 in
theorem scheck_any {va vb : Value} {a b : Arr} {w : World} (ha : IsArr w va a) (hb : IsArr w vb b) :
    Calls Tryz.prog 225 #[va, vb] w fun e w' => e = .returned (errV (twoErr a b)) ∧ Below w.heap.size w w' := by
  obtain ⟨A, ca, D, cd, rfl, hs, hd⟩ := ha.open_
  obtain ⟨A', ca', D', cd', rfl, hs', hd'⟩ := hb.open_
  by_cases c1 : arrErr a ≠ 0
  · have HE := Lib.hid (show twoErr a b = arrErr a by unfold twoErr; rw [if_pos c1])
    have C1 := Lib.hid c1
    clear c1
    go_enter Tryz.func225, Tryz.ntmps225
    go_wp2_with fail
    refine (check_bad (ha.mono (below_two _ _ _)) C1.out).mono ?_
    rintro e w1 ⟨rfl, hb1⟩
    have hbw := (below_two w _ _).trans (hb1.mono (below_two w _ _).size)
    clear hb1
    go_wp2_with fail
    go_ret
    exact ⟨by rw [HE.out, errV_ne C1.out]; rfl, hbw⟩
  · obtain ⟨t, ht⟩ := ok_of_arrErr (by simpa using c1)
    have HT := Lib.hid ht
    have HE := Lib.hid (show twoErr a b = arrErr b by unfold twoErr; rw [if_neg c1])
    clear c1 ht
    have bB := Box.new (w.alloc (.cells #[.bool a.ch, .slice A a.sh.length ca, .slice D a.da.length cd] 25)) 25 #[.bool b.ch, .slice A' b.sh.length ca', .slice D' b.da.length cd']
    rw [World.size_alloc] at bB
    go_enter Tryz.func225, Tryz.ntmps225
    go_wp2_with fail
    refine (check_ok (ha.mono (below_two _ _ _)) HT.out).mono ?_
    rintro e w1 ⟨rfl, hb1⟩
    have hbw := (below_two w _ _).trans (hb1.mono (below_two w _ _).size)
    have bB1 := bB.below hb1
    obtain ⟨t0, t1, t2⟩ := bB1.three
    clear hb1 bB
    go_wp2_with fail
    refine (check_any _ b _ (hb.mono hbw)).mono ?_
    rintro e w2 ⟨rfl, hb2⟩
    have hbw2 := hbw.trans (hb2.mono hbw.size)
    clear hb2
    go_wp2_with fail
    go_ret
    exact ⟨by rw [HE.out]; rfl, hbw2⟩

end Go.Proofs.YtihndbkaoejnnaaGreatDoor

namespace Go.Proofs.YtihndbkaoejnnaaGreatDoor
open Go Go.RowKit Go.Proofs.YtihndbkaoejnnaaGreatDoor.P

theorem chosen_step {w wr w4 : World} {ch : Bool} {o : Obj} {A2 A4 : Option Addr} {c2 c4 p : Nat} {xs ys : List Int} {a : Arr} {A : Option Addr} {ca : Nat} {D : Option Addr} {cd : Nat}
    (h1 : Box wr (w.heap.size + 1 + 1) 25 #[.bool ch, .slice none 0 0, .slice A2 p c2]) (h2 : Owns wr (w.heap.size + 3) (.slice A2 p c2) p xs)
    (h3 : Box wr w.heap.size 25 #[.bool a.ch, .slice A a.sh.length ca, .slice D a.da.length cd]) (h4 : Box wr (w.heap.size + 1) 25 #[.bool false, .slice none 0 0, .slice none 0 0]) (h5 : Below w.heap.size w wr)
    (hgrow : (wr.alloc o).grownBy w4 (Value.slice A2 p c2).ownBlock) (hown : Owns w4 (w.heap.size + 3) (.slice A4 (p + 1) c4) (p + 1) ys) :
    Box (w4.setCell ⟨w.heap.size + 1 + 1, 2, none⟩ (.slice A4 (p + 1) c4)) (w.heap.size + 1 + 1) 25 #[.bool ch, .slice none 0 0, .slice A4 (p + 1) c4] ∧ Owns (w4.setCell ⟨w.heap.size + 1 + 1, 2, none⟩ (.slice A4 (p + 1) c4)) (w.heap.size + 3) (.slice A4 (p + 1) c4) (p + 1) ys ∧
    Box (w4.setCell ⟨w.heap.size + 1 + 1, 2, none⟩ (.slice A4 (p + 1) c4)) w.heap.size 25 #[.bool a.ch, .slice A a.sh.length ca, .slice D a.da.length cd] ∧ Box (w4.setCell ⟨w.heap.size + 1 + 1, 2, none⟩ (.slice A4 (p + 1) c4)) (w.heap.size + 1) 25 #[.bool false, .slice none 0 0, .slice none 0 0] ∧
    Below w.heap.size w (w4.setCell ⟨w.heap.size + 1 + 1, 2, none⟩ (.slice A4 (p + 1) c4)) := by
  have b4 := Box.grown (w := wr.alloc o) (h1.alloc o) hgrow (h2.ne_box h1 (by decide))
  have s := b4.store 2 (.slice A4 (p + 1) c4)
  simp only [List.setIfInBounds_toArray, List.set_cons_zero, List.set_cons_succ] at s
  exact ⟨s, hown.setCell (p := ⟨w.heap.size + 1 + 1, 2, none⟩) (hown.ne_box b4 (by decide)) _, (Box.grown (w := wr.alloc o) (h3.alloc o) hgrow (h2.ne_low (by omega))).far (p := ⟨w.heap.size + 1 + 1, 2, none⟩) (by simp; omega) _,
    (Box.grown (w := wr.alloc o) (h4.alloc o) hgrow (h2.ne_low (by omega))).far (p := ⟨w.heap.size + 1 + 1, 2, none⟩) (by simp) _,
    ((h5.alloc h5.size o).grown hgrow (by have := h5.size; simp; omega) (fun j e => by have := (h2.lt e).1; omega)).setCell (p := ⟨w.heap.size + 1 + 1, 2, none⟩) (by simp; omega) _⟩

set_option maxRecDepth 100000 in
set_option maxHeartbeats 2000000 in
theorem chosen_new (v : Value) (a : Arr) (F : Nat) (caps : Array Value) (q : Nat → Int → Bool) (w : World) (ha : IsArr w v a) (hl : a.da.length ≤ 4096)
    (hF : ∀ i x, a.da[i]? = some x → ∀ W, Below w.heap.size w W → Calls Tryz.prog F (#[.int .i64 i, .int .i64 x] ++ caps) W fun e W' => e = .returned (.bool (q i x)) ∧ W = W')
    (hcf : ∀ args W, (callFunc F args).run Tryz.prog W = .ok (.enter F args) W) :
    Calls Tryz.prog 30 #[v, .func (.func F) #[] caps] w (GivesN (vecOf a.ch (sel q a.da)) w) := by
  obtain ⟨A, ca, D, cd, rfl, hs, hd⟩ := ha.open_
  obtain ⟨_, _, e1, d1, d2, d3, d0, d4⟩ := id hd
  cases e1
  have D4 := Lib.hid (show Elems w D a.da from d4)
  have HF := Lib.hid hF
  have bA0 := ((Box.new w 25 #[.bool a.ch, .slice A a.sh.length ca, .slice D a.da.length cd]).alloc (.cells #[.bool false, .slice none 0 0, .slice none 0 0] 25)).alloc (.cells #[.bool a.ch, .slice none 0 0, .slice none 0 0] 25)
  have bZ0 := (Box.new (w.alloc (.cells #[.bool a.ch, .slice A a.sh.length ca, .slice D a.da.length cd] 25)) 25 #[.bool false, .slice none 0 0, .slice none 0 0]).alloc (.cells #[.bool a.ch, .slice none 0 0, .slice none 0 0] 25)
  have bO0 := Box.new ((w.alloc (.cells #[.bool a.ch, .slice A a.sh.length ca, .slice D a.da.length cd] 25)).alloc (.cells #[.bool false, .slice none 0 0, .slice none 0 0] 25)) 25 #[.bool a.ch, .slice none 0 0, .slice none 0 0]
  simp only [World.size_alloc] at bZ0 bO0
  have hb0 := below_three w (.cells #[.bool a.ch, .slice A a.sh.length ca, .slice D a.da.length cd] 25) (.cells #[.bool false, .slice none 0 0, .slice none 0 0] 25) (.cells #[.bool a.ch, .slice none 0 0, .slice none 0 0] 25)
  obtain ⟨t0, t1, t2⟩ := bA0.three
  clear d4 d0 hs hd hF
  go_enter Tryz.func30, Tryz.ntmps30
  go_wp2_with fail
  clear t0 t1 t2
  go_loopw [14] (fun i wr => ∃ (k : Nat) (A2 : Option Addr) (c2 p : Nat), k ≤ a.da.length ∧ i = .int .i64 k ∧ p ≤ k ∧ Box wr (w.heap.size + 1 + 1) 25 #[.bool a.ch, .slice none 0 0, .slice A2 p c2] ∧ Owns wr (w.heap.size + 3) (.slice A2 p c2) p (sel q (a.da.take k)) ∧
      Box wr w.heap.size 25 #[.bool a.ch, .slice A a.sh.length ca, .slice D a.da.length cd] ∧ Box wr (w.heap.size + 1) 25 #[.bool false, .slice none 0 0, .slice none 0 0] ∧ Below w.heap.size w wr) (fun i _ => a.da.length - (intOf i).toNat)
  case atStart => exact ⟨0, none, 0, 0, Nat.zero_le _, rfl, Nat.le_refl _, bO0, by rw [sel_zero]; exact Owns.nil _ _, bA0, bZ0, hb0⟩
  case round =>
    clear bA0 bZ0 bO0 hb0
    obtain ⟨k, A2, c2, p, hk, rfl, hpk, h1, h2, h3, h4, hbl⟩ := hrel
    rcases Nat.lt_or_ge k a.da.length with hlt | hge
    · obtain ⟨ad, x, rfl, hx, hal, hcx⟩ := Elems.later D4.out hbl hlt
      have hcall := Lib.hid (HF.out k x hx wr hbl)
      have hyes := Lib.hid (fun e => sel_yes (q := q) hx e)
      have hno := Lib.hid (fun e => sel_no (q := q) hx e)
      obtain ⟨g0, g1, g2⟩ := h1.three
      have gf := h1.frozen
      have gl := h1.lt
      have hsz := hbl.size
      clear hx
      go_wp2_with fail
      refine (hcall.out).mono ?_
      rintro e W ⟨rfl, rfl⟩
      cases hq : q k x
      · have HN := Lib.hid (hno.out hq)
        clear hq
        go_wp2_with fail
        go_roundw
        case rel => exact ⟨k + 1, A2, c2, p, by omega, by go_num, by omega, h1, by rw [HN.out]; exact h2, h3, h4, hbl⟩
        case measure => simp [intOf]; omega
      · have HY := Lib.hid (hyes.out hq)
        clear hq
        go_wp2_with (at_builtin; refine wpList_append_ints _ rfl rfl _ _ rfl (w.heap.size + 3) p _ (sel q (a.da.take k)) rfl (h2.alloc _) (some ⟨wr.heap.size, 0, none⟩) 1 1 [x] rfl (by simp) (elems_new wr x) rfl (by omega) (by simp; omega) ?_; intro A4 c4 w4 hown4 hgrow4 hat4; have b4 := Box.grown (w := wr.alloc _) (h1.alloc _) hgrow4 (h2.ne_box h1 (by decide)); have hc4 := b4.three.2.2; have hf4 := b4.frozen 2)
        go_roundw
        case rel =>
          obtain ⟨r1, r2, r3, r4, r5⟩ := chosen_step (o := .cells #[.int .i64 x] 3) h1 h2 h3 h4 hbl hgrow4 hown4
          exact ⟨k + 1, A4, c4, p + 1, by omega, by go_num, by omega, r1, by rw [HY.out]; exact r2, r3, r4, r5⟩
        case measure => simp [intOf]; omega
    · have hke : k = a.da.length := by omega
      subst hke
      rw [List.take_length] at h2
      obtain ⟨g0, g1, g2⟩ := h1.three
      obtain ⟨z0, z1, z2⟩ := h4.three
      have gf := h1.frozen
      have zf := h4.frozen
      have gl := h1.lt
      have zl := h4.lt
      have hlen := Lib.hid h2.length
      go_wp2_with fail
      refine bodyPost_ret (v := .agg #[.bool a.ch, .slice (some ⟨wr.heap.size, 0, none⟩) 1 1, .slice A2 p c2]) (by simp [results, Tryz.results30, go_sem, zl, z0, z1, z2, g0, g1, g2]) rfl ?_
      have k1 := h2.setCell (p := ⟨w.heap.size + 1 + 1, 1, none⟩) (h2.ne_low (by show w.heap.size + 1 + 1 < w.heap.size + 3; omega)) (.slice (some ⟨wr.heap.size, 0, none⟩) 1 1)
      have gg := grownBy_three (wr.setCell ⟨w.heap.size + 1 + 1, 1, none⟩ (.slice (some ⟨wr.heap.size, 0, none⟩) 1 1)) (w.heap.size + 1) (.bool a.ch) (.slice (some ⟨wr.heap.size, 0, none⟩) 1 1) (.slice A2 p c2)
      have k2 := ((k1.kept gg (.inr (k1.ne_low (by omega)))).alloc (.cells #[.int .i64 p] 3)).isInts
      have bS := Box.new ((((wr.setCell ⟨w.heap.size + 1 + 1, 1, none⟩ (.slice (some ⟨wr.heap.size, 0, none⟩) 1 1)).setCell ⟨w.heap.size + 1, 0, none⟩ (.bool a.ch)).setCell ⟨w.heap.size + 1, 1, none⟩ (.slice (some ⟨wr.heap.size, 0, none⟩) 1 1)).setCell ⟨w.heap.size + 1, 2, none⟩ (.slice A2 p c2)) 3 #[.int .i64 p]
      simp only [World.size_setCell] at bS
      have k3 := bS.isInts (xs := [(p : Int)]) (n := 1) rfl (by omega)
      have hp : ((sel q a.da).length : Int) = (p : Int) := by rw [hlen.out]
      refine ⟨_, rfl, ⟨_, _, rfl, ?_, k2⟩, by have := hbl.size; go_grown, newV (block_from (by have := hbl.size; omega)) (h2.from_ (by omega))⟩
      show IsInts _ _ [((sel q a.da).length : Int)]
      rw [hp]
      exact k3

end Go.Proofs.YtihndbkaoejnnaaGreatDoor

namespace Go.Proofs.YtihndbkaoejnnaaGreatDoor
open Go Go.RowKit Go.Proofs.YtihndbkaoejnnaaGreatDoor.P

theorem FirstsAt.has {w : World} {g : Nat} {d : List Int} (h : FirstsAt w g d) : ∃ n D, w.ownsMap Tryz.prog 3 (plainElem Tryz.prog 3) g n D ∧ Tells D d d := h

set_option maxRecDepth 100000 in
set_option maxHeartbeats 1000000 in
theorem nub1_any (i : Nat) (x : Int) (b g : Nat) (d : List Int) (W : World) (hb : Box W b 58 #[.map (some g)]) (hg : FirstsAt W g d) (hx : x ∈ d) (hw : (Lit.int .i64 x).wf = true) :
    Calls Tryz.prog 31 (#[.int .i64 i, .int .i64 x] ++ #[.pointer (some ⟨b, 0, none⟩)]) W fun e W' => e = .returned (.bool (firstB d i x)) ∧ W = W' := by
  obtain ⟨n, D, hown, ht⟩ := hg
  have hat0 := ht.2.2 x hw hx (.lit (.int .i64 0))
  have hkey : keyOf Tryz.prog 3 (.int .i64 x) = some (.int .i64 x) := Maps.keyOf_int_mk Tryz.underlying3 hw
  have H0 := Lib.hid hat0
  have c0 := hb.one
  clear hat0 ht hx hw
  simp only [List.append_toArray, List.cons_append, List.nil_append]
  go_enter Tryz.func31, Tryz.ntmps31
  go_wp2_with (at_lookup; refine wpList_lookup_own_int _ rfl _ _ 58 rfl 3 3 .i64 int_keys Tryz.underlying58 Tryz.underlying3 (int_zero _) g n _ rfl hown _ _ rfl hkey ?_; intro c hat hwc)
  have hc : c = ((d.idxOf x : Nat) : Int) := by
    rw [H0.out] at hat
    injection hat with hat
    injection hat with _ hat
    exact hat.symm
  subst hc
  clear hat hwc
  go_ret
  refine ⟨?_, rfl⟩
  unfold firstB
  by_cases e : d.idxOf x = i
  · rw [e]; simp
  · rw [decide_eq_false e]
    have : (((d.idxOf x : Nat) : Int) == (i : Int)) = false := by simp; omega
    rw [this]
    rfl

end Go.Proofs.YtihndbkaoejnnaaGreatDoor
