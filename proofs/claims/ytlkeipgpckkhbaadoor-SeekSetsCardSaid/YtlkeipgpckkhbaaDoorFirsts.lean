/- The walks of seek.firsts and seek.check: a map of where each cell is first. Conditions: none. -/
import Derived.Test.YtlkeipgpckkhbaaDoorCount
import Derived.Test.YtlkeipgpckkhbaaDoorMake
import Derived.Test.YtlkeipgpckkhbaaDoorSeekPlain
import Derived.Maps.OwnOps
import Derived.Maps.OwnSet
namespace Go.Proofs.YtlkeipgpckkhbaaDoor.P

theorem idx_take {d : List Int} {k : Nat} {x : Int} (h : x ∈ d.take k) : (d.take k).idxOf x = d.idxOf x := by
  conv => rhs; rw [← List.take_append_drop k d]
  rw [List.idxOf_append, if_pos h]
theorem idx_new {d : List Int} {k : Nat} {x : Int} (hx : d[k]? = some x) (h : x ∉ d.take k) : d.idxOf x = k := by
  obtain ⟨hk, e⟩ := List.getElem?_eq_some_iff.1 hx
  conv => lhs; rw [← List.take_append_drop k d]
  rw [List.idxOf_append, if_neg h, List.drop_eq_getElem_cons hk, e, List.idxOf_cons_self, List.length_take]
  omega
theorem mem_take_succ {d : List Int} {k : Nat} {x y : Int} (hx : d[k]? = some x) : y ∈ d.take (k + 1) ↔ y ∈ d.take k ∨ y = x := by
  rw [List.take_add_one, hx]
  simp

end Go.Proofs.YtlkeipgpckkhbaaDoor.P
namespace Go.Proofs.YtlkeipgpckkhbaaDoor
open Go Go.RowKit Go.Proofs.YtlkeipgpckkhbaaDoor.P

theorem int_keys : Maps.Keyed Tryd.prog 3 := Maps.int_keyed Tryd.underlying3
theorem int_zero (w : World) : (zeroValue 3).run Tryd.prog w = .ok (.int .i64 0) w := by kernel_rfl

theorem run_makeMap_sized (n : Int) (w : World) : (Instr.makeMap 54 (some (.int .i64 n))).run Tryd.prog w = .ok (.map (some w.heap.size)) (w.alloc (.map #[] 0)) := by
  have hu := run_underlying (P := Tryd.prog) (w := w) Tryd.underlying54
  simp [Instr.makeMap, hu, asInt, asIntOf]

/-- These are numbers that a word has. -/
def Wf (d : List Int) : Prop := ∀ x ∈ d, (Lit.int .i64 x).wf = true
theorem Wf.at_ {d : List Int} (h : Wf d) {k : Nat} {x : Int} (hx : d[k]? = some x) : (Lit.int .i64 x).wf = true := h x (List.mem_of_getElem? hx)

/-- A map tells where the numbers of a list are first. -/
def Tells (D : DataW Unit) (d e : List Int) : Prop :=
  Maps.IsMap D ∧ (∀ x, (Lit.int .i64 x).wf = true → Maps.has D (.int .i64 x) = decide (x ∈ e)) ∧ ∀ x, (Lit.int .i64 x).wf = true → x ∈ e → ∀ z, D.atKey (.int .i64 x) z = .lit (.int .i64 ((d.idxOf x : Nat) : Int))
theorem Tells.none (d : List Int) : Tells (.map []) d (d.take 0) := ⟨Maps.isMap_empty, fun x _ => by simp [Maps.has_eq], fun x _ h => by simp at h⟩
theorem key_lit (x : Int) (h : (Lit.int .i64 x).wf = true) : WideAt.IsKeyLit (.int .i64 x) := by
  first | exact h | trivial | simp [WideAt.IsKeyLit, h] | (unfold WideAt.IsKeyLit; exact h)
theorem Tells.known {D : DataW Unit} {d : List Int} {k : Nat} {x : Int} (h : Tells D d (d.take k)) (hx : d[k]? = some x) (hk : x ∈ d.take k) : Tells D d (d.take (k + 1)) := by
  obtain ⟨h1, h2, h3⟩ := h
  refine ⟨h1, fun y hy => ?_, fun y hy hm z => ?_⟩
  · rw [h2 y hy, decide_eq_decide, mem_take_succ hx]
    exact ⟨.inl, fun h => h.elim id fun e => e ▸ hk⟩
  · rw [mem_take_succ hx] at hm
    exact h3 y hy (hm.elim id fun e => e ▸ hk) z
theorem Tells.new {D : DataW Unit} {d : List Int} {k : Nat} {x : Int} (h : Tells D d (d.take k)) (hx : d[k]? = some x) (hw : (Lit.int .i64 x).wf = true) (hk : x ∉ d.take k) : Tells (D.put (.int .i64 x) (.lit (.int .i64 (k : Int)))) d (d.take (k + 1)) := by
  obtain ⟨h1, h2, h3⟩ := h
  refine ⟨h1.put _ _, fun y hy => ?_, fun y hy hm z => ?_⟩
  · by_cases e : y = x
    · subst e
      rw [Maps.has_put_same h1 (key_lit y hw)]
      symm
      rw [decide_eq_true_iff, mem_take_succ hx]
      exact .inr rfl
    · rw [Maps.has_put_other (by intro e2; injection e2 with _ e2; exact e e2), h2 y hy, decide_eq_decide, mem_take_succ hx]
      exact ⟨.inl, fun h => h.elim id fun e2 => absurd e2 e⟩
  · by_cases e : y = x
    · subst e
      rw [Maps.atKey_put_same h1 (key_lit y hw), idx_new hx hk]
    · rw [Maps.atKey_put_other (by intro e2; injection e2 with _ e2; exact e e2)]
      rw [mem_take_succ hx] at hm
      exact h3 y hy (hm.elim id fun e2 => absurd e2 e) z

/-- A block of such a map. -/
def FirstsAt (w : World) (g : Nat) (d : List Int) : Prop := ∃ n D, w.ownsMap Tryd.prog 3 (plainElem Tryd.prog 3) g n D ∧ Tells D d d
theorem ownsMap_below {w w' : World} {g n : Nat} {D : DataW Unit} (h : w.ownsMap Tryd.prog 3 (plainElem Tryd.prog 3) g n D) (hb : Below w.heap.size w w') : w'.ownsMap Tryd.prog 3 (plainElem Tryd.prog 3) g n D :=
  h.kept (row := none) ⟨hb.os, hb.tape, hb.output, hb.size, fun k hk _ => hb.block k hk⟩ (by simp)
theorem FirstsAt.mono {w w' : World} {g : Nat} {d : List Int} (h : FirstsAt w g d) (hb : Below w.heap.size w w') : FirstsAt w' g d := by
  obtain ⟨n, D, h1, h2⟩ := h
  exact ⟨n, D, ownsMap_below h1 hb, h2⟩

set_option maxRecDepth 100000 in
set_option maxHeartbeats 1000000 in
theorem firsts_any {v : Value} {a : Arr} {w : World} (ha : IsArr w v a) (hw : Wf a.da) (hl : a.da.length ≤ 4096) :
    Calls Tryd.prog 31 #[v] w fun e w' => ∃ g, e = .returned (.map (some g)) ∧ w.heap.size ≤ g ∧ FirstsAt w' g a.da ∧ Below w.heap.size w w' := by
  obtain ⟨A, ca, D, cd, rfl, hs, hd⟩ := ha.open_
  obtain ⟨_, _, e1, d1, d2, d3, d0, d4⟩ := id hd
  cases e1
  have D4 := Lib.hid (show Elems w D a.da from d4)
  have HW := Lib.hid hw
  have hmm := run_makeMap_sized
  have bA0 := (Box.new w 24 #[.bool a.ch, .slice A a.sh.length ca, .slice D a.da.length cd]).alloc (.map #[] 0)
  have hm0 := World.ownsMap_made (H := Unit) (w.alloc (.cells #[.bool a.ch, .slice A a.sh.length ca, .slice D a.da.length cd] 24)) Tryd.prog 3 (plainElem Tryd.prog 3)
  rw [World.size_alloc] at hm0
  have hb0 := below_two w (.cells #[.bool a.ch, .slice A a.sh.length ca, .slice D a.da.length cd] 24) (.map #[] 0)
  obtain ⟨t0, t1, t2⟩ := bA0.three
  clear d4 d0 hs hd hw
  go_enter Tryd.func31, Tryd.ntmps31
  go_wp2_with fail
  clear t0 t1 t2
  go_loopw [15] (fun i wr => ∃ (k : Nat) (M : DataW Unit), k ≤ a.da.length ∧ i = .int .i64 k ∧ wr.ownsMap Tryd.prog 3 (plainElem Tryd.prog 3) (w.heap.size + 1) k M ∧ Tells M a.da (a.da.take k) ∧ Below w.heap.size w wr) (fun i _ => a.da.length - (intOf i).toNat)
  case atStart => exact ⟨0, _, Nat.zero_le _, rfl, hm0, Tells.none _, hb0⟩
  case round =>
    clear bA0 hm0 hb0
    obtain ⟨k, M, hk, rfl, hown, ht, hbl⟩ := hrel
    rcases Nat.lt_or_ge k a.da.length with hlt | hge
    · obtain ⟨ad, x, rfl, hx, hal, hcx⟩ := Elems.later D4.out hbl hlt
      have hwx := HW.out.at_ hx
      have hkey : keyOf Tryd.prog 3 (.int .i64 x) = some (.int .i64 x) := Maps.keyOf_int_mk Tryd.underlying3 hwx
      have hwk : (Lit.int .i64 (k : Int)).wf = true := WalkArith.wf_i64 (by omega)
      have hhas := ht.2.1 x hwx
      have HX := Lib.hid hx
      have HT := Lib.hid ht
      have HWX := Lib.hid hwx
      clear hx ht hwx
      by_cases hm : x ∈ a.da.take k
      · rw [decide_eq_true hm] at hhas
        have HM := Lib.hid hm
        have hown2 := hown.mono (Nat.le_succ k)
        clear hm
        go_wp2_with (at_lookup; refine wpList_lookup_own_ok_int _ rfl _ _ 54 rfl 3 3 .i64 int_keys Tryd.underlying54 Tryd.underlying3 (int_zero _) (w.heap.size + 1) k _ rfl hown _ _ rfl hkey ?_; intro c hat hwc; rw [hhas])
        go_roundw
        case rel => exact ⟨k + 1, M, by omega, by go_num, hown2, HT.out.known HX.out HM.out, hbl⟩
        case measure => simp [intOf]; omega
      · rw [decide_eq_false hm] at hhas
        have HM := Lib.hid hm
        clear hm
        go_wp2_with (first | (at_lookup; refine wpList_lookup_own_ok_int _ rfl _ _ 54 rfl 3 3 .i64 int_keys Tryd.underlying54 Tryd.underlying3 (int_zero _) (w.heap.size + 1) k _ rfl hown _ _ rfl hkey ?_; intro c hat hwc; rw [hhas]) | (at_mapUpdate; refine wpList_mapUpdate_own _ rfl _ _ _ 54 rfl 3 3 int_keys Tryd.underlying54 _ (w.heap.size + 1) k _ rfl hown (by unfold maxLen; omega) _ _ _ rfl rfl hkey _ [] (plainElem_int Tryd.underlying3 hwk) ?_; intro w1 hown1 hgrow1))
        go_roundw
        case rel => exact ⟨k + 1, _, by omega, by go_num, hown1, HT.out.new HX.out HWX.out HM.out, hbl.grown hgrow1 hbl.size (fun j e => by cases e; omega)⟩
        case measure => simp [intOf]; omega
    · have hke : k = a.da.length := by omega
      subst hke
      rw [List.take_length] at ht
      have HT := Lib.hid ht
      clear ht
      go_wp2_with fail
      go_ret
      exact ⟨_, rfl, by omega, ⟨_, M, hown, HT.out⟩, hbl⟩

set_option maxHeartbeats 400000 in
theorem scheck_any {va vb : Value} {a b : Arr} {w : World} (ha : IsArr w va a) (hb : IsArr w vb b) :
    Calls Tryd.prog 48 #[va, vb] w fun e w' => e = .returned (errV (twoErr a b)) ∧ Below w.heap.size w w' := by
  obtain ⟨A, ca, D, cd, rfl, hs, hd⟩ := ha.open_
  obtain ⟨A', ca', D', cd', rfl, hs', hd'⟩ := hb.open_
  by_cases c1 : arrErr a ≠ 0
  · have HE := Lib.hid (show twoErr a b = arrErr a by unfold twoErr; rw [if_pos c1])
    have C1 := Lib.hid c1
    clear c1
    go_enter Tryd.func48, Tryd.ntmps48
    go_wp2_with fail
    refine (check_bad (ha.mono (below_two _ _ _)) C1.out).mono ?_
    rintro e w1 ⟨rfl, hb1⟩
    have hbw := (below_two w _ _).trans (hb1.mono (below_two w _ _).size)
    clear hb1
    go_wp2_with fail
    go_ret
    exact ⟨by rw [HE.out, errV_ne C1.out]; rfl, hbw⟩
  · obtain ⟨t, ht⟩ := ok_of_arrErr (by simpa using c1)
    have HT := Lib.hid ht
    have HE := Lib.hid (show twoErr a b = arrErr b by unfold twoErr; rw [if_neg c1])
    clear c1 ht
    have bB := Box.new (w.alloc (.cells #[.bool a.ch, .slice A a.sh.length ca, .slice D a.da.length cd] 24)) 24 #[.bool b.ch, .slice A' b.sh.length ca', .slice D' b.da.length cd']
    rw [World.size_alloc] at bB
    go_enter Tryd.func48, Tryd.ntmps48
    go_wp2_with fail
    refine (check_ok (ha.mono (below_two _ _ _)) HT.out).mono ?_
    rintro e w1 ⟨rfl, hb1⟩
    have hbw := (below_two w _ _).trans (hb1.mono (below_two w _ _).size)
    have bB1 := bB.below hb1
    obtain ⟨t0, t1, t2⟩ := bB1.three
    clear hb1 bB
    go_wp2_with fail
    refine (check_any _ b _ (hb.mono hbw)).mono ?_
    rintro e w2 ⟨rfl, hb2⟩
    have hbw2 := hbw.trans (hb2.mono hbw.size)
    clear hb2
    go_wp2_with fail
    go_ret
    exact ⟨by rw [HE.out]; rfl, hbw2⟩

end Go.Proofs.YtlkeipgpckkhbaaDoor
