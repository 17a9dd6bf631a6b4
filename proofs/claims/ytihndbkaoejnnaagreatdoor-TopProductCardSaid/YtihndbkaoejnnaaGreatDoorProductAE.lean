/- What the card TopProduct leans on: EachFit. Conditions: none but those of its theorems. -/
import Derived.BigQuiet
import Derived.Laws.EntriesVeiled
import Derived.Test.YtihndbkaoejnnaaGreatDoorProductE
import Derived.Test.YtihndbkaoejnnaaGreatDoorProductZ
import Derived.Test.YtihndbkaoejnnaaGreatDoorProductB
import Derived.Test.YtihndbkaoejnnaaGreatDoorProductAA
import Derived.Test.YtihndbkaoejnnaaGreatDoorProductC
import Derived.Test.YtihndbkaoejnnaaGreatDoorProductAD
set_option linter.unusedSimpArgs false
set_option linter.unusedVariables false
namespace Go.Proofs.YtihndbkaoejnnaaGreatDoor
open Go Go.RowKit Go.Proofs.YtihndbkaoejnnaaGreatDoor.P

set_option maxRecDepth 100000 in
set_option maxHeartbeats 400000 in
theorem equal_two (va vb : Value) (xs ys : List Int) (w : World) (ha : IsInts w va xs) (hb : IsInts w vb ys) (hl : xs.length = ys.length) : Calls Tryz.prog 228 #[va, vb] w (TellsB (xs = ys) w) := by
  obtain ⟨A, ca, rfl, a1, a2, a3, EA0, -⟩ := ha.open_
  obtain ⟨B, cb, rfl, b1, b2, b3, EB0, -⟩ := hb.open_
  have EA := Lib.hid EA0
  have EB := Lib.hid EB0
  have HL := Lib.hid hl
  rw [← hl]
  clear EA0 EB0 ha hb hl b1 b3
  go_enter Tryz.func228, Tryz.ntmps228
  go_wp2_with fail
  go_loopw [13] (fun s13 wr => ∃ k : Nat, k ≤ xs.length ∧ s13 = .int .i64 k ∧ SameTo k xs ys ∧ Below w.heap.size w wr) (fun s13 _ => xs.length - (intOf s13).toNat)
  case atStart => exact ⟨0, Nat.zero_le _, rfl, SameTo.zero _ _, Below.refl _ _⟩
  case round =>
    obtain ⟨k, hk, rfl, hsm, hbl⟩ := hrel
    rcases Nat.lt_or_ge k xs.length with hlt | hge
    · obtain ⟨ad, x, rfl, hx, hal, hcx⟩ := Elems.later EA.out hbl hlt
      obtain ⟨ae, y, rfl, hy, hae, hcy⟩ := Elems.later EB.out hbl (show k < ys.length by rw [← HL.out]; exact hlt)
      have HX := Lib.hid hx
      have HY := Lib.hid hy
      have HSM := Lib.hid hsm
      clear hx hy hsm
      by_cases hxy : x = y
      · subst hxy
        go_wp2_with fail
        go_quiet (fail)
        all_goals go_wp2_with fail
        go_roundw
        case rel => exact ⟨k + 1, by omega, by go_num, HSM.out.succ HX.out HY.out, hbl.trans (below_draws _ _ _)⟩
        case measure => simp [intOf]; omega
      · have hne : (x != y) = true := by simp [hxy]
        have HXY := Lib.hid hxy
        clear hxy
        go_wp2_with fail
        go_quiet (fail)
        all_goals go_wp2_with fail
        go_ret
        exact tells_no rfl (fun h => HXY.out (by subst h; have := HX.out.symm.trans HY.out; injection this)) (hbl.trans (below_draws _ _ _))
    · have HSM := Lib.hid hsm
      clear hsm
      go_wp2_with fail
      go_ret
      exact tells_yes rfl (HSM.out.all hge (by rw [← HL.out]; exact hge)) hbl

set_option maxRecDepth 100000 in
set_option maxHeartbeats 400000 in
theorem plain_fn {w : World} (cs : Array Value) : Calls Tryz.prog 242 #[.agg cs] w fun e w' => e = .returned (.func (.func 243) #[] #[.pointer (some ⟨w.heap.size, 0, none⟩)]) ∧ w' = w.alloc (.cells cs 25) := by
  go_enter Tryz.func242, Tryz.ntmps242
  go_wp2_with fail
  go_ret
  exact ⟨rfl, rfl⟩

set_option maxRecDepth 100000 in
set_option maxHeartbeats 400000 in
theorem single_fn {w : World} (cs : Array Value) : Calls Tryz.prog 244 #[.agg cs] w fun e w' => e = .returned (.func (.func 245) #[] #[.pointer (some ⟨w.heap.size, 0, none⟩)]) ∧ w' = w.alloc (.cells cs 25) := by
  go_enter Tryz.func244, Tryz.ntmps244
  go_wp2_with fail
  go_ret
  exact ⟨rfl, rfl⟩

set_option maxRecDepth 100000 in
set_option maxHeartbeats 400000 in
theorem plain_at (i : Nat) (x : Int) (b : Nat) (d : List Int) (c0 s : Value) (D : Option Addr) (cd : Nat) (W : World) (hb : Box W b 25 #[c0, s, .slice D d.length cd]) (he : Elems W D d) (hi : d[i]? = some x) :
    Calls Tryz.prog 243 (#[.int .i64 i] ++ #[.pointer (some ⟨b, 0, none⟩)]) W fun e W' => e = .returned (.int .i64 x) ∧ W = W' := by
  obtain ⟨c1, c2, c3⟩ := hb.three
  have hil := (List.getElem?_eq_some_iff.1 hi).1
  obtain ⟨ad, e, hl, hc⟩ := he i x hi
  subst e
  clear hi he
  simp only [List.append_toArray, List.cons_append, List.nil_append]
  go_enter Tryz.func243, Tryz.ntmps243
  go_wp2_with fail
  go_ret
  exact ⟨rfl, rfl⟩

set_option maxRecDepth 100000 in
set_option maxHeartbeats 400000 in
theorem single_at (i : Nat) (x : Int) (b : Nat) (d : List Int) (c0 s : Value) (D : Option Addr) (cd : Nat) (W : World) (hb : Box W b 25 #[c0, s, .slice D d.length cd]) (he : Elems W D d) (hi : d[0]? = some x) :
    Calls Tryz.prog 245 (#[.int .i64 i] ++ #[.pointer (some ⟨b, 0, none⟩)]) W fun e W' => e = .returned (.int .i64 x) ∧ W = W' := by
  obtain ⟨c1, c2, c3⟩ := hb.three
  have hil := (List.getElem?_eq_some_iff.1 hi).1
  obtain ⟨ad, e, hl, hc⟩ := he 0 x hi
  subst e
  have hc' : W.cell? ad = some (.int .i64 x) := hc
  have hd0 : ¬ d.length = 0 := by omega
  clear hi he hc
  simp only [List.append_toArray, List.cons_append, List.nil_append]
  go_enter Tryz.func245, Tryz.ntmps245
  go_wp2_with fail
  go_ret
  exact ⟨rfl, rfl⟩

/-- What fit tells: a shape, a length, two functions. -/
def FitsF (S : Value) (n F1 F2 : Nat) (ba bb : Array Value) (w : World) (e : Ending) (w' : World) : Prop :=
  ∃ b1 b2, e = .returned (.tuple #[S, .int .i64 n, .func (.func F1) #[] #[.pointer (some ⟨b1, 0, none⟩)], .func (.func F2) #[] #[.pointer (some ⟨b2, 0, none⟩)], .nilIface]) ∧
    Box w' b1 25 ba ∧ Box w' b2 25 bb ∧ Below w.heap.size w w'
def FitsNot (k : Int) (w : World) (e : Ending) (w' : World) : Prop := e = .returned (.tuple #[.slice none 0 0, .int .i64 0, .nilFunc, .nilFunc, .iface 54 (.int .i64 k)]) ∧ Below w.heap.size w w'

set_option maxRecDepth 100000 in
set_option maxHeartbeats 4000000 in
theorem fit_first {a b : Arr} {fa fb : Bool} {w : World} {A A' D D' : Option Addr} {ca ca' cd cd' : Nat} (ha : IsArr w (.agg #[.bool fa, .slice A a.sh.length ca, .slice D a.da.length cd]) a) (hb : IsArr w (.agg #[.bool fb, .slice A' b.sh.length ca', .slice D' b.da.length cd']) b) (h0 : a.sh.length = 0) :
    Calls Tryz.prog 229 #[.agg #[.bool fa, .slice A a.sh.length ca, .slice D a.da.length cd], .agg #[.bool fb, .slice A' b.sh.length ca', .slice D' b.da.length cd']] w (FitsF (.slice A' b.sh.length ca') b.da.length 245 243 #[.bool fa, .slice A a.sh.length ca, .slice D a.da.length cd] #[.bool fb, .slice A' b.sh.length ca', .slice D' b.da.length cd'] w) := by
  have bA0 := (Box.new w 25 #[.bool fa, .slice A a.sh.length ca, .slice D a.da.length cd]).alloc (.cells #[.bool fb, .slice A' b.sh.length ca', .slice D' b.da.length cd'] 25)
  have bB0 := Box.new (w.alloc (.cells #[.bool fa, .slice A a.sh.length ca, .slice D a.da.length cd] 25)) 25 #[.bool fb, .slice A' b.sh.length ca', .slice D' b.da.length cd']
  rw [World.size_alloc] at bB0
  have hb0 := below_two w (.cells #[.bool fa, .slice A a.sh.length ca, .slice D a.da.length cd] 25) (.cells #[.bool fb, .slice A' b.sh.length ca', .slice D' b.da.length cd'] 25)
  obtain ⟨t0, t1, t2⟩ := bA0.three
  obtain ⟨u0, u1, u2⟩ := bB0.three
  have e0 : ((a.sh.length : Int) == 0) = true := by rw [h0]; rfl
  clear h0
  go_enter Tryz.func229, Tryz.ntmps229
  go_wp2_with fail
  have hzA := bA0.lt
  have hzB := bB0.lt
  have hbw := hb0
  refine wp_region_open (fun i v lo hi w' => match i with
    | 0 => v = .pointer (some ⟨w.heap.size + 1, 1, none⟩)
    | 1 => v = .slice A' b.sh.length ca'
    | 2 => v = .pointer (some ⟨w.heap.size + 1, 2, none⟩)
    | 3 => v = .slice D' b.da.length cd'
    | 4 => v = .int .i64 b.da.length
    | 5 => v = .func (.func 244) #[] #[]
    | 6 => v = .agg #[.bool fa, .slice A a.sh.length ca, .slice D a.da.length cd]
    | 7 => ∃ q, v = .func (.func 245) #[] #[.pointer (some ⟨q, 0, none⟩)] ∧ Box w' q 25 #[.bool fa, .slice A a.sh.length ca, .slice D a.da.length cd]
    | 8 => v = .func (.func 242) #[] #[]
    | 9 => v = .agg #[.bool fb, .slice A' b.sh.length ca', .slice D' b.da.length cd']
    | 10 => ∃ q, v = .func (.func 243) #[] #[.pointer (some ⟨q, 0, none⟩)] ∧ Box w' q 25 #[.bool fb, .slice A' b.sh.length ca', .slice D' b.da.length cd']
    | 11 => v = .slice A' b.sh.length ca'
    | 12 => v = .int .i64 b.da.length
    | 13 => ∃ q, v = .func (.func 245) #[] #[.pointer (some ⟨q, 0, none⟩)] ∧ Box w' q 25 #[.bool fa, .slice A a.sh.length ca, .slice D a.da.length cd]
    | 14 => ∃ q, v = .func (.func 243) #[] #[.pointer (some ⟨q, 0, none⟩)] ∧ Box w' q 25 #[.bool fb, .slice A' b.sh.length ca', .slice D' b.da.length cd']
    | _ => True) (by kernel_rfl) (by kernel_rfl) (by kernel_rfl) ?hV ?step ?last
  case hV =>
    intro i v lo hi w1 w2 h hb
    match i, h with
    | 0, h => exact h
    | 1, h => exact h
    | 2, h => exact h
    | 3, h => exact h
    | 4, h => exact h
    | 5, h => exact h
    | 6, h => exact h
    | 7, ⟨q, e, h⟩ => exact ⟨q, e, h.below hb⟩
    | 8, h => exact h
    | 9, h => exact h
    | 10, ⟨q, e, h⟩ => exact ⟨q, e, h.below hb⟩
    | 11, h => exact h
    | 12, h => exact h
    | 13, ⟨q, e, h⟩ => exact ⟨q, e, h.below hb⟩
    | 14, ⟨q, e, h⟩ => exact ⟨q, e, h.below hb⟩
    | i + 15, _ => trivial
  case step =>
    simp only [putAll, Act.put, List.setIfInBounds_toArray, List.set_cons_zero, List.set_cons_succ, Nat.reduceAdd, Nat.zero_add]
    intro i o ho hi uu lo up wr hbr hd hj K hK
    obtain ⟨hcw, hfw⟩ := bcell hbr
    match i, ho with
    | 0, ho =>
      simp only [List.getElem?_cons_zero, Option.some.injEq] at ho
      subst ho
      simp only [Act.put, List.setIfInBounds_toArray, List.set_cons_zero, List.set_cons_succ] at hK
      refine wpOp_step rfl fun K' hK' => ?_
      go_simp
      exact hK' _ _ (hK _ _ (Below.refl _ _) rfl)
    | 1, ho =>
      simp only [List.getElem?_cons_succ, List.getElem?_cons_zero, Option.some.injEq] at ho
      subst ho
      simp only [Act.put, List.setIfInBounds_toArray, List.set_cons_zero, List.set_cons_succ] at hK
      have h0 : uu 0 = .pointer (some ⟨w.heap.size + 1, 1, none⟩) := hd ⟨0, .data⟩ (by simp) rfl
      simp only [h0] at hK
      refine wpOp_step rfl fun K' hK' => ?_
      go_simp
      exact hK' _ _ (hK _ _ (Below.refl _ _) rfl)
    | 2, ho =>
      simp only [List.getElem?_cons_succ, List.getElem?_cons_zero, Option.some.injEq] at ho
      subst ho
      simp only [Act.put, List.setIfInBounds_toArray, List.set_cons_zero, List.set_cons_succ] at hK
      refine wpOp_step rfl fun K' hK' => ?_
      go_simp
      exact hK' _ _ (hK _ _ (Below.refl _ _) rfl)
    | 3, ho =>
      simp only [List.getElem?_cons_succ, List.getElem?_cons_zero, Option.some.injEq] at ho
      subst ho
      simp only [Act.put, List.setIfInBounds_toArray, List.set_cons_zero, List.set_cons_succ] at hK
      have h2 : uu 2 = .pointer (some ⟨w.heap.size + 1, 2, none⟩) := hd ⟨2, .data⟩ (by simp) rfl
      simp only [h2] at hK
      refine wpOp_step rfl fun K' hK' => ?_
      go_simp
      exact hK' _ _ (hK _ _ (Below.refl _ _) rfl)
    | 4, ho =>
      simp only [List.getElem?_cons_succ, List.getElem?_cons_zero, Option.some.injEq] at ho
      subst ho
      simp only [Act.put, List.setIfInBounds_toArray, List.set_cons_zero, List.set_cons_succ] at hK
      have h3 : uu 3 = .slice D' b.da.length cd' := hd ⟨3, .data⟩ (by simp) rfl
      simp only [h3] at hK
      refine wpOp_step rfl fun K' hK' => ?_
      go_simp
      exact hK' _ _ (hK _ _ (Below.refl _ _) rfl)
    | 5, ho =>
      simp only [List.getElem?_cons_succ, List.getElem?_cons_zero, Option.some.injEq] at ho
      subst ho
      simp only [Act.put, List.setIfInBounds_toArray, List.set_cons_zero, List.set_cons_succ] at hK
      refine wpOp_step rfl fun K' hK' => ?_
      go_simp
      exact hK' _ _ (hK _ _ (Below.refl _ _) rfl)
    | 6, ho =>
      simp only [List.getElem?_cons_succ, List.getElem?_cons_zero, Option.some.injEq] at ho
      subst ho
      simp only [Act.put, List.setIfInBounds_toArray, List.set_cons_zero, List.set_cons_succ] at hK
      refine wpOp_step rfl fun K' hK' => ?_
      go_simp
      exact hK' _ _ (hK _ _ (Below.refl _ _) rfl)
    | 7, ho =>
      simp only [List.getElem?_cons_succ, List.getElem?_cons_zero, Option.some.injEq] at ho
      subst ho
      simp only [Act.put, List.setIfInBounds_toArray, List.set_cons_zero, List.set_cons_succ] at hK
      have h5 : uu 5 = .func (.func 244) #[] #[] := hd ⟨5, .data⟩ (by simp) rfl
      have h6 : uu 6 = .agg #[.bool fa, .slice A a.sh.length ca, .slice D a.da.length cd] := hd ⟨6, .data⟩ (by simp) rfl
      simp only [h5, h6] at hK
      refine wpOp_step rfl fun K' hK' => ?_
      go_simp
      refine (single_fn _).mono ?_
      rintro e w1 ⟨rfl, rfl⟩
      exact hK' _ _ (hK _ _ (below_one _ _) ⟨_, rfl, Box.new _ _ _⟩)
    | 8, ho =>
      simp only [List.getElem?_cons_succ, List.getElem?_cons_zero, Option.some.injEq] at ho
      subst ho
      simp only [Act.put, List.setIfInBounds_toArray, List.set_cons_zero, List.set_cons_succ] at hK
      refine wpOp_step rfl fun K' hK' => ?_
      go_simp
      exact hK' _ _ (hK _ _ (Below.refl _ _) rfl)
    | 9, ho =>
      simp only [List.getElem?_cons_succ, List.getElem?_cons_zero, Option.some.injEq] at ho
      subst ho
      simp only [Act.put, List.setIfInBounds_toArray, List.set_cons_zero, List.set_cons_succ] at hK
      refine wpOp_step rfl fun K' hK' => ?_
      go_simp
      exact hK' _ _ (hK _ _ (Below.refl _ _) rfl)
    | 10, ho =>
      simp only [List.getElem?_cons_succ, List.getElem?_cons_zero, Option.some.injEq] at ho
      subst ho
      simp only [Act.put, List.setIfInBounds_toArray, List.set_cons_zero, List.set_cons_succ] at hK
      have h8 : uu 8 = .func (.func 242) #[] #[] := hd ⟨8, .data⟩ (by simp) rfl
      have h9 : uu 9 = .agg #[.bool fb, .slice A' b.sh.length ca', .slice D' b.da.length cd'] := hd ⟨9, .data⟩ (by simp) rfl
      simp only [h8, h9] at hK
      refine wpOp_step rfl fun K' hK' => ?_
      go_simp
      refine (plain_fn _).mono ?_
      rintro e w1 ⟨rfl, rfl⟩
      exact hK' _ _ (hK _ _ (below_one _ _) ⟨_, rfl, Box.new _ _ _⟩)
    | 11, ho =>
      simp only [List.getElem?_cons_succ, List.getElem?_cons_zero, Option.some.injEq] at ho
      subst ho
      simp only [Act.put, List.setIfInBounds_toArray, List.set_cons_zero, List.set_cons_succ] at hK
      have h1 : uu 1 = .slice A' b.sh.length ca' := hd ⟨1, .data⟩ (by simp) rfl
      simp only [h1] at hK
      refine wpOp_step rfl fun K' hK' => ?_
      go_simp
      exact hK' _ _ (hK _ _ (Below.refl _ _) rfl)
    | 12, ho =>
      simp only [List.getElem?_cons_succ, List.getElem?_cons_zero, Option.some.injEq] at ho
      subst ho
      simp only [Act.put, List.setIfInBounds_toArray, List.set_cons_zero, List.set_cons_succ] at hK
      have h4 : uu 4 = .int .i64 b.da.length := hd ⟨4, .data⟩ (by simp) rfl
      simp only [h4] at hK
      refine wpOp_step rfl fun K' hK' => ?_
      go_simp
      exact hK' _ _ (hK _ _ (Below.refl _ _) rfl)
    | 13, ho =>
      simp only [List.getElem?_cons_succ, List.getElem?_cons_zero, Option.some.injEq] at ho
      subst ho
      simp only [Act.put, List.setIfInBounds_toArray, List.set_cons_zero, List.set_cons_succ] at hK
      obtain ⟨bx, e7, hx7⟩ := hd ⟨7, .data⟩ (by simp) rfl
      simp only [e7] at hK
      refine wpOp_step rfl fun K' hK' => ?_
      go_simp
      exact hK' _ _ (hK _ _ (Below.refl _ _) ⟨bx, rfl, hx7⟩)
    | 14, ho =>
      simp only [List.getElem?_cons_succ, List.getElem?_cons_zero, Option.some.injEq] at ho
      subst ho
      simp only [Act.put, List.setIfInBounds_toArray, List.set_cons_zero, List.set_cons_succ] at hK
      obtain ⟨bx, e10, hx10⟩ := hd ⟨10, .data⟩ (by simp) rfl
      simp only [e10] at hK
      refine wpOp_step rfl fun K' hK' => ?_
      go_simp
      exact hK' _ _ (hK _ _ (Below.refl _ _) ⟨bx, rfl, hx10⟩)
    | i + 15, ho => simp at hi; omega
  case last =>
    simp only [putAll, Act.put, List.setIfInBounds_toArray, List.set_cons_zero, List.set_cons_succ, Nat.reduceAdd, Nat.zero_add]
    intro uu wr lo up hbr hv hj
    have v1 : uu 11 = .slice A' b.sh.length ca' := hv 11 (by simp)
    have v2 : uu 12 = .int .i64 b.da.length := hv 12 (by simp)
    obtain ⟨b1, v3, x1⟩ := hv 13 (by simp)
    obtain ⟨b2, v4, x2⟩ := hv 14 (by simp)
    simp only [v1, v2, v3, v4]
    clear hv hj v1 v2 v3 v4
    refine wpOp_step rfl fun K' hK' => ?_
    go_simp
    refine hK' _ _ ?_
    clear hK'
    go_wp2_with fail
    have hbw9 := hbw.trans (hbr.mono hbw.size)
    refine bodyPost_ret (v := .tuple #[.slice A' b.sh.length ca', .int .i64 b.da.length, .func (.func 245) #[] #[.pointer (some ⟨b1, 0, none⟩)], .func (.func 243) #[] #[.pointer (some ⟨b2, 0, none⟩)], .nilIface]) (by simp [results, Tryz.results229, go_sem]; first | done | rfl | exact ⟨rfl, rfl, rfl⟩) rfl ?_
    exact ⟨b1, b2, rfl, x1, x2, hbw9⟩

set_option maxRecDepth 100000 in
set_option maxHeartbeats 4000000 in
theorem fit_second {a b : Arr} {fa fb : Bool} {w : World} {A A' D D' : Option Addr} {ca ca' cd cd' : Nat} (ha : IsArr w (.agg #[.bool fa, .slice A a.sh.length ca, .slice D a.da.length cd]) a) (hb : IsArr w (.agg #[.bool fb, .slice A' b.sh.length ca', .slice D' b.da.length cd']) b) (h0 : a.sh.length ≠ 0) (h1 : b.sh.length = 0) :
    Calls Tryz.prog 229 #[.agg #[.bool fa, .slice A a.sh.length ca, .slice D a.da.length cd], .agg #[.bool fb, .slice A' b.sh.length ca', .slice D' b.da.length cd']] w (FitsF (.slice A a.sh.length ca) a.da.length 243 245 #[.bool fa, .slice A a.sh.length ca, .slice D a.da.length cd] #[.bool fb, .slice A' b.sh.length ca', .slice D' b.da.length cd'] w) := by
  have bA0 := (Box.new w 25 #[.bool fa, .slice A a.sh.length ca, .slice D a.da.length cd]).alloc (.cells #[.bool fb, .slice A' b.sh.length ca', .slice D' b.da.length cd'] 25)
  have bB0 := Box.new (w.alloc (.cells #[.bool fa, .slice A a.sh.length ca, .slice D a.da.length cd] 25)) 25 #[.bool fb, .slice A' b.sh.length ca', .slice D' b.da.length cd']
  rw [World.size_alloc] at bB0
  have hb0 := below_two w (.cells #[.bool fa, .slice A a.sh.length ca, .slice D a.da.length cd] 25) (.cells #[.bool fb, .slice A' b.sh.length ca', .slice D' b.da.length cd'] 25)
  obtain ⟨t0, t1, t2⟩ := bA0.three
  obtain ⟨u0, u1, u2⟩ := bB0.three
  have e0 : ((a.sh.length : Int) == 0) = false := beq_eq_false_iff_ne.2 (by omega)
  have e1 : ((b.sh.length : Int) == 0) = true := by rw [h1]; rfl
  clear h0 h1
  go_enter Tryz.func229, Tryz.ntmps229
  go_wp2_with fail
  have hzA := bA0.lt
  have hzB := bB0.lt
  have hbw := hb0
  refine wp_region_open (fun i v lo hi w' => match i with
    | 0 => v = .pointer (some ⟨w.heap.size, 1, none⟩)
    | 1 => v = .slice A a.sh.length ca
    | 2 => v = .pointer (some ⟨w.heap.size, 2, none⟩)
    | 3 => v = .slice D a.da.length cd
    | 4 => v = .int .i64 a.da.length
    | 5 => v = .func (.func 242) #[] #[]
    | 6 => v = .agg #[.bool fa, .slice A a.sh.length ca, .slice D a.da.length cd]
    | 7 => ∃ q, v = .func (.func 243) #[] #[.pointer (some ⟨q, 0, none⟩)] ∧ Box w' q 25 #[.bool fa, .slice A a.sh.length ca, .slice D a.da.length cd]
    | 8 => v = .func (.func 244) #[] #[]
    | 9 => v = .agg #[.bool fb, .slice A' b.sh.length ca', .slice D' b.da.length cd']
    | 10 => ∃ q, v = .func (.func 245) #[] #[.pointer (some ⟨q, 0, none⟩)] ∧ Box w' q 25 #[.bool fb, .slice A' b.sh.length ca', .slice D' b.da.length cd']
    | 11 => v = .slice A a.sh.length ca
    | 12 => v = .int .i64 a.da.length
    | 13 => ∃ q, v = .func (.func 243) #[] #[.pointer (some ⟨q, 0, none⟩)] ∧ Box w' q 25 #[.bool fa, .slice A a.sh.length ca, .slice D a.da.length cd]
    | 14 => ∃ q, v = .func (.func 245) #[] #[.pointer (some ⟨q, 0, none⟩)] ∧ Box w' q 25 #[.bool fb, .slice A' b.sh.length ca', .slice D' b.da.length cd']
    | _ => True) (by kernel_rfl) (by kernel_rfl) (by kernel_rfl) ?hV ?step ?last
  case hV =>
    intro i v lo hi w1 w2 h hb
    match i, h with
    | 0, h => exact h
    | 1, h => exact h
    | 2, h => exact h
    | 3, h => exact h
    | 4, h => exact h
    | 5, h => exact h
    | 6, h => exact h
    | 7, ⟨q, e, h⟩ => exact ⟨q, e, h.below hb⟩
    | 8, h => exact h
    | 9, h => exact h
    | 10, ⟨q, e, h⟩ => exact ⟨q, e, h.below hb⟩
    | 11, h => exact h
    | 12, h => exact h
    | 13, ⟨q, e, h⟩ => exact ⟨q, e, h.below hb⟩
    | 14, ⟨q, e, h⟩ => exact ⟨q, e, h.below hb⟩
    | i + 15, _ => trivial
  case step =>
    simp only [putAll, Act.put, List.setIfInBounds_toArray, List.set_cons_zero, List.set_cons_succ, Nat.reduceAdd, Nat.zero_add]
    intro i o ho hi uu lo up wr hbr hd hj K hK
    obtain ⟨hcw, hfw⟩ := bcell hbr
    match i, ho with
    | 0, ho =>
      simp only [List.getElem?_cons_zero, Option.some.injEq] at ho
      subst ho
      simp only [Act.put, List.setIfInBounds_toArray, List.set_cons_zero, List.set_cons_succ] at hK
      refine wpOp_step rfl fun K' hK' => ?_
      go_simp
      exact hK' _ _ (hK _ _ (Below.refl _ _) rfl)
    | 1, ho =>
      simp only [List.getElem?_cons_succ, List.getElem?_cons_zero, Option.some.injEq] at ho
      subst ho
      simp only [Act.put, List.setIfInBounds_toArray, List.set_cons_zero, List.set_cons_succ] at hK
      have h0 : uu 0 = .pointer (some ⟨w.heap.size, 1, none⟩) := hd ⟨0, .data⟩ (by simp) rfl
      simp only [h0] at hK
      refine wpOp_step rfl fun K' hK' => ?_
      go_simp
      exact hK' _ _ (hK _ _ (Below.refl _ _) rfl)
    | 2, ho =>
      simp only [List.getElem?_cons_succ, List.getElem?_cons_zero, Option.some.injEq] at ho
      subst ho
      simp only [Act.put, List.setIfInBounds_toArray, List.set_cons_zero, List.set_cons_succ] at hK
      refine wpOp_step rfl fun K' hK' => ?_
      go_simp
      exact hK' _ _ (hK _ _ (Below.refl _ _) rfl)
    | 3, ho =>
      simp only [List.getElem?_cons_succ, List.getElem?_cons_zero, Option.some.injEq] at ho
      subst ho
      simp only [Act.put, List.setIfInBounds_toArray, List.set_cons_zero, List.set_cons_succ] at hK
      have h2 : uu 2 = .pointer (some ⟨w.heap.size, 2, none⟩) := hd ⟨2, .data⟩ (by simp) rfl
      simp only [h2] at hK
      refine wpOp_step rfl fun K' hK' => ?_
      go_simp
      exact hK' _ _ (hK _ _ (Below.refl _ _) rfl)
    | 4, ho =>
      simp only [List.getElem?_cons_succ, List.getElem?_cons_zero, Option.some.injEq] at ho
      subst ho
      simp only [Act.put, List.setIfInBounds_toArray, List.set_cons_zero, List.set_cons_succ] at hK
      have h3 : uu 3 = .slice D a.da.length cd := hd ⟨3, .data⟩ (by simp) rfl
      simp only [h3] at hK
      refine wpOp_step rfl fun K' hK' => ?_
      go_simp
      exact hK' _ _ (hK _ _ (Below.refl _ _) rfl)
    | 5, ho =>
      simp only [List.getElem?_cons_succ, List.getElem?_cons_zero, Option.some.injEq] at ho
      subst ho
      simp only [Act.put, List.setIfInBounds_toArray, List.set_cons_zero, List.set_cons_succ] at hK
      refine wpOp_step rfl fun K' hK' => ?_
      go_simp
      exact hK' _ _ (hK _ _ (Below.refl _ _) rfl)
    | 6, ho =>
      simp only [List.getElem?_cons_succ, List.getElem?_cons_zero, Option.some.injEq] at ho
      subst ho
      simp only [Act.put, List.setIfInBounds_toArray, List.set_cons_zero, List.set_cons_succ] at hK
      refine wpOp_step rfl fun K' hK' => ?_
      go_simp
      exact hK' _ _ (hK _ _ (Below.refl _ _) rfl)
    | 7, ho =>
      simp only [List.getElem?_cons_succ, List.getElem?_cons_zero, Option.some.injEq] at ho
      subst ho
      simp only [Act.put, List.setIfInBounds_toArray, List.set_cons_zero, List.set_cons_succ] at hK
      have h5 : uu 5 = .func (.func 242) #[] #[] := hd ⟨5, .data⟩ (by simp) rfl
      have h6 : uu 6 = .agg #[.bool fa, .slice A a.sh.length ca, .slice D a.da.length cd] := hd ⟨6, .data⟩ (by simp) rfl
      simp only [h5, h6] at hK
      refine wpOp_step rfl fun K' hK' => ?_
      go_simp
      refine (plain_fn _).mono ?_
      rintro e w1 ⟨rfl, rfl⟩
      exact hK' _ _ (hK _ _ (below_one _ _) ⟨_, rfl, Box.new _ _ _⟩)
    | 8, ho =>
      simp only [List.getElem?_cons_succ, List.getElem?_cons_zero, Option.some.injEq] at ho
      subst ho
      simp only [Act.put, List.setIfInBounds_toArray, List.set_cons_zero, List.set_cons_succ] at hK
      refine wpOp_step rfl fun K' hK' => ?_
      go_simp
      exact hK' _ _ (hK _ _ (Below.refl _ _) rfl)
    | 9, ho =>
      simp only [List.getElem?_cons_succ, List.getElem?_cons_zero, Option.some.injEq] at ho
      subst ho
      simp only [Act.put, List.setIfInBounds_toArray, List.set_cons_zero, List.set_cons_succ] at hK
      refine wpOp_step rfl fun K' hK' => ?_
      go_simp
      exact hK' _ _ (hK _ _ (Below.refl _ _) rfl)
    | 10, ho =>
      simp only [List.getElem?_cons_succ, List.getElem?_cons_zero, Option.some.injEq] at ho
      subst ho
      simp only [Act.put, List.setIfInBounds_toArray, List.set_cons_zero, List.set_cons_succ] at hK
      have h8 : uu 8 = .func (.func 244) #[] #[] := hd ⟨8, .data⟩ (by simp) rfl
      have h9 : uu 9 = .agg #[.bool fb, .slice A' b.sh.length ca', .slice D' b.da.length cd'] := hd ⟨9, .data⟩ (by simp) rfl
      simp only [h8, h9] at hK
      refine wpOp_step rfl fun K' hK' => ?_
      go_simp
      refine (single_fn _).mono ?_
      rintro e w1 ⟨rfl, rfl⟩
      exact hK' _ _ (hK _ _ (below_one _ _) ⟨_, rfl, Box.new _ _ _⟩)
    | 11, ho =>
      simp only [List.getElem?_cons_succ, List.getElem?_cons_zero, Option.some.injEq] at ho
      subst ho
      simp only [Act.put, List.setIfInBounds_toArray, List.set_cons_zero, List.set_cons_succ] at hK
      have h1 : uu 1 = .slice A a.sh.length ca := hd ⟨1, .data⟩ (by simp) rfl
      simp only [h1] at hK
      refine wpOp_step rfl fun K' hK' => ?_
      go_simp
      exact hK' _ _ (hK _ _ (Below.refl _ _) rfl)
    | 12, ho =>
      simp only [List.getElem?_cons_succ, List.getElem?_cons_zero, Option.some.injEq] at ho
      subst ho
      simp only [Act.put, List.setIfInBounds_toArray, List.set_cons_zero, List.set_cons_succ] at hK
      have h4 : uu 4 = .int .i64 a.da.length := hd ⟨4, .data⟩ (by simp) rfl
      simp only [h4] at hK
      refine wpOp_step rfl fun K' hK' => ?_
      go_simp
      exact hK' _ _ (hK _ _ (Below.refl _ _) rfl)
    | 13, ho =>
      simp only [List.getElem?_cons_succ, List.getElem?_cons_zero, Option.some.injEq] at ho
      subst ho
      simp only [Act.put, List.setIfInBounds_toArray, List.set_cons_zero, List.set_cons_succ] at hK
      obtain ⟨bx, e7, hx7⟩ := hd ⟨7, .data⟩ (by simp) rfl
      simp only [e7] at hK
      refine wpOp_step rfl fun K' hK' => ?_
      go_simp
      exact hK' _ _ (hK _ _ (Below.refl _ _) ⟨bx, rfl, hx7⟩)
    | 14, ho =>
      simp only [List.getElem?_cons_succ, List.getElem?_cons_zero, Option.some.injEq] at ho
      subst ho
      simp only [Act.put, List.setIfInBounds_toArray, List.set_cons_zero, List.set_cons_succ] at hK
      obtain ⟨bx, e10, hx10⟩ := hd ⟨10, .data⟩ (by simp) rfl
      simp only [e10] at hK
      refine wpOp_step rfl fun K' hK' => ?_
      go_simp
      exact hK' _ _ (hK _ _ (Below.refl _ _) ⟨bx, rfl, hx10⟩)
    | i + 15, ho => simp at hi; omega
  case last =>
    simp only [putAll, Act.put, List.setIfInBounds_toArray, List.set_cons_zero, List.set_cons_succ, Nat.reduceAdd, Nat.zero_add]
    intro uu wr lo up hbr hv hj
    have v1 : uu 11 = .slice A a.sh.length ca := hv 11 (by simp)
    have v2 : uu 12 = .int .i64 a.da.length := hv 12 (by simp)
    obtain ⟨b1, v3, x1⟩ := hv 13 (by simp)
    obtain ⟨b2, v4, x2⟩ := hv 14 (by simp)
    simp only [v1, v2, v3, v4]
    clear hv hj v1 v2 v3 v4
    refine wpOp_step rfl fun K' hK' => ?_
    go_simp
    refine hK' _ _ ?_
    clear hK'
    go_wp2_with fail
    have hbw9 := hbw.trans (hbr.mono hbw.size)
    refine bodyPost_ret (v := .tuple #[.slice A a.sh.length ca, .int .i64 a.da.length, .func (.func 243) #[] #[.pointer (some ⟨b1, 0, none⟩)], .func (.func 245) #[] #[.pointer (some ⟨b2, 0, none⟩)], .nilIface]) (by simp [results, Tryz.results229, go_sem]; first | done | rfl | exact ⟨rfl, rfl, rfl⟩) rfl ?_
    exact ⟨b1, b2, rfl, x1, x2, hbw9⟩

set_option maxRecDepth 100000 in
set_option maxHeartbeats 4000000 in
theorem fit_like {a b : Arr} {fa fb : Bool} {w : World} {A A' D D' : Option Addr} {ca ca' cd cd' : Nat} (ha : IsArr w (.agg #[.bool fa, .slice A a.sh.length ca, .slice D a.da.length cd]) a) (hb : IsArr w (.agg #[.bool fb, .slice A' b.sh.length ca', .slice D' b.da.length cd']) b) (h0 : a.sh.length ≠ 0) (hs : a.sh = b.sh) :
    Calls Tryz.prog 229 #[.agg #[.bool fa, .slice A a.sh.length ca, .slice D a.da.length cd], .agg #[.bool fb, .slice A' b.sh.length ca', .slice D' b.da.length cd']] w (FitsF (.slice A a.sh.length ca) a.da.length 243 243 #[.bool fa, .slice A a.sh.length ca, .slice D a.da.length cd] #[.bool fb, .slice A' b.sh.length ca', .slice D' b.da.length cd'] w) := by
  have bA0 := (Box.new w 25 #[.bool fa, .slice A a.sh.length ca, .slice D a.da.length cd]).alloc (.cells #[.bool fb, .slice A' b.sh.length ca', .slice D' b.da.length cd'] 25)
  have bB0 := Box.new (w.alloc (.cells #[.bool fa, .slice A a.sh.length ca, .slice D a.da.length cd] 25)) 25 #[.bool fb, .slice A' b.sh.length ca', .slice D' b.da.length cd']
  rw [World.size_alloc] at bB0
  have hb0 := below_two w (.cells #[.bool fa, .slice A a.sh.length ca, .slice D a.da.length cd] 25) (.cells #[.bool fb, .slice A' b.sh.length ca', .slice D' b.da.length cd'] 25)
  obtain ⟨t0, t1, t2⟩ := bA0.three
  obtain ⟨u0, u1, u2⟩ := bB0.three
  have HEQ := Lib.hid hs
  have HL := Lib.hid (congrArg List.length hs)
  have e0 : ((a.sh.length : Int) == 0) = false := beq_eq_false_iff_ne.2 (by omega)
  have e1 : ((b.sh.length : Int) == 0) = false := by rw [← hs]; exact beq_eq_false_iff_ne.2 (by omega)
  have e2 : ((a.sh.length : Int) != (b.sh.length : Int)) = false := by rw [hs]; simp
  clear hs h0
  go_enter Tryz.func229, Tryz.ntmps229
  go_wp2_with fail
  refine (equal_two _ _ a.sh b.sh _ ((IsArr.shapeOf ha).mono hb0) ((IsArr.shapeOf hb).mono hb0) HL.out).mono ?_
  rintro e w1 ⟨r, rfl, hr, hb1⟩
  have er : r = true := by
    cases r with
    | true => rfl
    | false => exact (hr.2 HEQ.out).symm ▸ rfl
  subst er
  have bA := bA0.below hb1
  have bB := bB0.below hb1
  have hbw := hb0.trans (hb1.mono hb0.size)
  clear bA0 bB0 hb1 t0 t1 t2 u0 u1 u2 hr
  obtain ⟨t0, t1, t2⟩ := bA.three
  obtain ⟨u0, u1, u2⟩ := bB.three
  have hzA := bA.lt
  have hzB := bB.lt
  go_wp2_with fail
  refine wp_region_open (fun i v lo hi w' => match i with
    | 0 => v = .pointer (some ⟨w.heap.size, 1, none⟩)
    | 1 => v = .slice A a.sh.length ca
    | 2 => v = .pointer (some ⟨w.heap.size, 2, none⟩)
    | 3 => v = .slice D a.da.length cd
    | 4 => v = .int .i64 a.da.length
    | 5 => v = .func (.func 242) #[] #[]
    | 6 => v = .agg #[.bool fa, .slice A a.sh.length ca, .slice D a.da.length cd]
    | 7 => ∃ q, v = .func (.func 243) #[] #[.pointer (some ⟨q, 0, none⟩)] ∧ Box w' q 25 #[.bool fa, .slice A a.sh.length ca, .slice D a.da.length cd]
    | 8 => v = .func (.func 242) #[] #[]
    | 9 => v = .agg #[.bool fb, .slice A' b.sh.length ca', .slice D' b.da.length cd']
    | 10 => ∃ q, v = .func (.func 243) #[] #[.pointer (some ⟨q, 0, none⟩)] ∧ Box w' q 25 #[.bool fb, .slice A' b.sh.length ca', .slice D' b.da.length cd']
    | 11 => v = .slice A a.sh.length ca
    | 12 => v = .int .i64 a.da.length
    | 13 => ∃ q, v = .func (.func 243) #[] #[.pointer (some ⟨q, 0, none⟩)] ∧ Box w' q 25 #[.bool fa, .slice A a.sh.length ca, .slice D a.da.length cd]
    | 14 => ∃ q, v = .func (.func 243) #[] #[.pointer (some ⟨q, 0, none⟩)] ∧ Box w' q 25 #[.bool fb, .slice A' b.sh.length ca', .slice D' b.da.length cd']
    | _ => True) (by kernel_rfl) (by kernel_rfl) (by kernel_rfl) ?hV ?step ?last
  case hV =>
    intro i v lo hi w1 w2 h hb
    match i, h with
    | 0, h => exact h
    | 1, h => exact h
    | 2, h => exact h
    | 3, h => exact h
    | 4, h => exact h
    | 5, h => exact h
    | 6, h => exact h
    | 7, ⟨q, e, h⟩ => exact ⟨q, e, h.below hb⟩
    | 8, h => exact h
    | 9, h => exact h
    | 10, ⟨q, e, h⟩ => exact ⟨q, e, h.below hb⟩
    | 11, h => exact h
    | 12, h => exact h
    | 13, ⟨q, e, h⟩ => exact ⟨q, e, h.below hb⟩
    | 14, ⟨q, e, h⟩ => exact ⟨q, e, h.below hb⟩
    | i + 15, _ => trivial
  case step =>
    simp only [putAll, Act.put, List.setIfInBounds_toArray, List.set_cons_zero, List.set_cons_succ, Nat.reduceAdd, Nat.zero_add]
    intro i o ho hi uu lo up wr hbr hd hj K hK
    obtain ⟨hcw, hfw⟩ := bcell hbr
    match i, ho with
    | 0, ho =>
      simp only [List.getElem?_cons_zero, Option.some.injEq] at ho
      subst ho
      simp only [Act.put, List.setIfInBounds_toArray, List.set_cons_zero, List.set_cons_succ] at hK
      refine wpOp_step rfl fun K' hK' => ?_
      go_simp
      exact hK' _ _ (hK _ _ (Below.refl _ _) rfl)
    | 1, ho =>
      simp only [List.getElem?_cons_succ, List.getElem?_cons_zero, Option.some.injEq] at ho
      subst ho
      simp only [Act.put, List.setIfInBounds_toArray, List.set_cons_zero, List.set_cons_succ] at hK
      have h0 : uu 0 = .pointer (some ⟨w.heap.size, 1, none⟩) := hd ⟨0, .data⟩ (by simp) rfl
      simp only [h0] at hK
      refine wpOp_step rfl fun K' hK' => ?_
      go_simp
      exact hK' _ _ (hK _ _ (Below.refl _ _) rfl)
    | 2, ho =>
      simp only [List.getElem?_cons_succ, List.getElem?_cons_zero, Option.some.injEq] at ho
      subst ho
      simp only [Act.put, List.setIfInBounds_toArray, List.set_cons_zero, List.set_cons_succ] at hK
      refine wpOp_step rfl fun K' hK' => ?_
      go_simp
      exact hK' _ _ (hK _ _ (Below.refl _ _) rfl)
    | 3, ho =>
      simp only [List.getElem?_cons_succ, List.getElem?_cons_zero, Option.some.injEq] at ho
      subst ho
      simp only [Act.put, List.setIfInBounds_toArray, List.set_cons_zero, List.set_cons_succ] at hK
      have h2 : uu 2 = .pointer (some ⟨w.heap.size, 2, none⟩) := hd ⟨2, .data⟩ (by simp) rfl
      simp only [h2] at hK
      refine wpOp_step rfl fun K' hK' => ?_
      go_simp
      exact hK' _ _ (hK _ _ (Below.refl _ _) rfl)
    | 4, ho =>
      simp only [List.getElem?_cons_succ, List.getElem?_cons_zero, Option.some.injEq] at ho
      subst ho
      simp only [Act.put, List.setIfInBounds_toArray, List.set_cons_zero, List.set_cons_succ] at hK
      have h3 : uu 3 = .slice D a.da.length cd := hd ⟨3, .data⟩ (by simp) rfl
      simp only [h3] at hK
      refine wpOp_step rfl fun K' hK' => ?_
      go_simp
      exact hK' _ _ (hK _ _ (Below.refl _ _) rfl)
    | 5, ho =>
      simp only [List.getElem?_cons_succ, List.getElem?_cons_zero, Option.some.injEq] at ho
      subst ho
      simp only [Act.put, List.setIfInBounds_toArray, List.set_cons_zero, List.set_cons_succ] at hK
      refine wpOp_step rfl fun K' hK' => ?_
      go_simp
      exact hK' _ _ (hK _ _ (Below.refl _ _) rfl)
    | 6, ho =>
      simp only [List.getElem?_cons_succ, List.getElem?_cons_zero, Option.some.injEq] at ho
      subst ho
      simp only [Act.put, List.setIfInBounds_toArray, List.set_cons_zero, List.set_cons_succ] at hK
      refine wpOp_step rfl fun K' hK' => ?_
      go_simp
      exact hK' _ _ (hK _ _ (Below.refl _ _) rfl)
    | 7, ho =>
      simp only [List.getElem?_cons_succ, List.getElem?_cons_zero, Option.some.injEq] at ho
      subst ho
      simp only [Act.put, List.setIfInBounds_toArray, List.set_cons_zero, List.set_cons_succ] at hK
      have h5 : uu 5 = .func (.func 242) #[] #[] := hd ⟨5, .data⟩ (by simp) rfl
      have h6 : uu 6 = .agg #[.bool fa, .slice A a.sh.length ca, .slice D a.da.length cd] := hd ⟨6, .data⟩ (by simp) rfl
      simp only [h5, h6] at hK
      refine wpOp_step rfl fun K' hK' => ?_
      go_simp
      refine (plain_fn _).mono ?_
      rintro e w1 ⟨rfl, rfl⟩
      exact hK' _ _ (hK _ _ (below_one _ _) ⟨_, rfl, Box.new _ _ _⟩)
    | 8, ho =>
      simp only [List.getElem?_cons_succ, List.getElem?_cons_zero, Option.some.injEq] at ho
      subst ho
      simp only [Act.put, List.setIfInBounds_toArray, List.set_cons_zero, List.set_cons_succ] at hK
      refine wpOp_step rfl fun K' hK' => ?_
      go_simp
      exact hK' _ _ (hK _ _ (Below.refl _ _) rfl)
    | 9, ho =>
      simp only [List.getElem?_cons_succ, List.getElem?_cons_zero, Option.some.injEq] at ho
      subst ho
      simp only [Act.put, List.setIfInBounds_toArray, List.set_cons_zero, List.set_cons_succ] at hK
      refine wpOp_step rfl fun K' hK' => ?_
      go_simp
      exact hK' _ _ (hK _ _ (Below.refl _ _) rfl)
    | 10, ho =>
      simp only [List.getElem?_cons_succ, List.getElem?_cons_zero, Option.some.injEq] at ho
      subst ho
      simp only [Act.put, List.setIfInBounds_toArray, List.set_cons_zero, List.set_cons_succ] at hK
      have h8 : uu 8 = .func (.func 242) #[] #[] := hd ⟨8, .data⟩ (by simp) rfl
      have h9 : uu 9 = .agg #[.bool fb, .slice A' b.sh.length ca', .slice D' b.da.length cd'] := hd ⟨9, .data⟩ (by simp) rfl
      simp only [h8, h9] at hK
      refine wpOp_step rfl fun K' hK' => ?_
      go_simp
      refine (plain_fn _).mono ?_
      rintro e w1 ⟨rfl, rfl⟩
      exact hK' _ _ (hK _ _ (below_one _ _) ⟨_, rfl, Box.new _ _ _⟩)
    | 11, ho =>
      simp only [List.getElem?_cons_succ, List.getElem?_cons_zero, Option.some.injEq] at ho
      subst ho
      simp only [Act.put, List.setIfInBounds_toArray, List.set_cons_zero, List.set_cons_succ] at hK
      have h1 : uu 1 = .slice A a.sh.length ca := hd ⟨1, .data⟩ (by simp) rfl
      simp only [h1] at hK
      refine wpOp_step rfl fun K' hK' => ?_
      go_simp
      exact hK' _ _ (hK _ _ (Below.refl _ _) rfl)
    | 12, ho =>
      simp only [List.getElem?_cons_succ, List.getElem?_cons_zero, Option.some.injEq] at ho
      subst ho
      simp only [Act.put, List.setIfInBounds_toArray, List.set_cons_zero, List.set_cons_succ] at hK
      have h4 : uu 4 = .int .i64 a.da.length := hd ⟨4, .data⟩ (by simp) rfl
      simp only [h4] at hK
      refine wpOp_step rfl fun K' hK' => ?_
      go_simp
      exact hK' _ _ (hK _ _ (Below.refl _ _) rfl)
    | 13, ho =>
      simp only [List.getElem?_cons_succ, List.getElem?_cons_zero, Option.some.injEq] at ho
      subst ho
      simp only [Act.put, List.setIfInBounds_toArray, List.set_cons_zero, List.set_cons_succ] at hK
      obtain ⟨bx, e7, hx7⟩ := hd ⟨7, .data⟩ (by simp) rfl
      simp only [e7] at hK
      refine wpOp_step rfl fun K' hK' => ?_
      go_simp
      exact hK' _ _ (hK _ _ (Below.refl _ _) ⟨bx, rfl, hx7⟩)
    | 14, ho =>
      simp only [List.getElem?_cons_succ, List.getElem?_cons_zero, Option.some.injEq] at ho
      subst ho
      simp only [Act.put, List.setIfInBounds_toArray, List.set_cons_zero, List.set_cons_succ] at hK
      obtain ⟨bx, e10, hx10⟩ := hd ⟨10, .data⟩ (by simp) rfl
      simp only [e10] at hK
      refine wpOp_step rfl fun K' hK' => ?_
      go_simp
      exact hK' _ _ (hK _ _ (Below.refl _ _) ⟨bx, rfl, hx10⟩)
    | i + 15, ho => simp at hi; omega
  case last =>
    simp only [putAll, Act.put, List.setIfInBounds_toArray, List.set_cons_zero, List.set_cons_succ, Nat.reduceAdd, Nat.zero_add]
    intro uu wr lo up hbr hv hj
    have v1 : uu 11 = .slice A a.sh.length ca := hv 11 (by simp)
    have v2 : uu 12 = .int .i64 a.da.length := hv 12 (by simp)
    obtain ⟨b1, v3, x1⟩ := hv 13 (by simp)
    obtain ⟨b2, v4, x2⟩ := hv 14 (by simp)
    simp only [v1, v2, v3, v4]
    clear hv hj v1 v2 v3 v4
    refine wpOp_step rfl fun K' hK' => ?_
    go_simp
    refine hK' _ _ ?_
    clear hK'
    go_wp2_with fail
    have hbw9 := hbw.trans (hbr.mono hbw.size)
    refine bodyPost_ret (v := .tuple #[.slice A a.sh.length ca, .int .i64 a.da.length, .func (.func 243) #[] #[.pointer (some ⟨b1, 0, none⟩)], .func (.func 243) #[] #[.pointer (some ⟨b2, 0, none⟩)], .nilIface]) (by simp [results, Tryz.results229, go_sem]; first | done | rfl | exact ⟨rfl, rfl, rfl⟩) rfl ?_
    exact ⟨b1, b2, rfl, x1, x2, hbw9⟩

set_option maxRecDepth 100000 in
set_option maxHeartbeats 4000000 in
theorem fit_rank {a b : Arr} {fa fb : Bool} {w : World} {A A' D D' : Option Addr} {ca ca' cd cd' : Nat} (h0 : a.sh.length ≠ 0) (h1 : b.sh.length ≠ 0) (hs : a.sh.length ≠ b.sh.length) :
    Calls Tryz.prog 229 #[.agg #[.bool fa, .slice A a.sh.length ca, .slice D a.da.length cd], .agg #[.bool fb, .slice A' b.sh.length ca', .slice D' b.da.length cd']] w (FitsNot 3 w) := by
  have bA0 := (Box.new w 25 #[.bool fa, .slice A a.sh.length ca, .slice D a.da.length cd]).alloc (.cells #[.bool fb, .slice A' b.sh.length ca', .slice D' b.da.length cd'] 25)
  have bB0 := Box.new (w.alloc (.cells #[.bool fa, .slice A a.sh.length ca, .slice D a.da.length cd] 25)) 25 #[.bool fb, .slice A' b.sh.length ca', .slice D' b.da.length cd']
  rw [World.size_alloc] at bB0
  have hb0 := below_two w (.cells #[.bool fa, .slice A a.sh.length ca, .slice D a.da.length cd] 25) (.cells #[.bool fb, .slice A' b.sh.length ca', .slice D' b.da.length cd'] 25)
  obtain ⟨t0, t1, t2⟩ := bA0.three
  obtain ⟨u0, u1, u2⟩ := bB0.three
  have e0 : ((a.sh.length : Int) == 0) = false := beq_eq_false_iff_ne.2 (by omega)
  have e1 : ((b.sh.length : Int) == 0) = false := beq_eq_false_iff_ne.2 (by omega)
  have e2 : ((a.sh.length : Int) != (b.sh.length : Int)) = true := by simp; omega
  clear hs h0 h1
  go_enter Tryz.func229, Tryz.ntmps229
  go_wp2_with fail
  refine bodyPost_ret (v := .tuple #[.slice none 0 0, .int .i64 0, .nilFunc, .nilFunc, .iface 54 (.int .i64 3)]) (by simp [results, Tryz.results229, go_sem]; first | done | rfl | exact ⟨rfl, rfl, rfl⟩) rfl ?_
  exact ⟨rfl, by have := hb0.size; go_grown⟩

set_option maxRecDepth 100000 in
set_option maxHeartbeats 4000000 in
theorem fit_unlike {a b : Arr} {fa fb : Bool} {w : World} {A A' D D' : Option Addr} {ca ca' cd cd' : Nat} (ha : IsArr w (.agg #[.bool fa, .slice A a.sh.length ca, .slice D a.da.length cd]) a) (hb : IsArr w (.agg #[.bool fb, .slice A' b.sh.length ca', .slice D' b.da.length cd']) b) (h0 : a.sh.length ≠ 0) (h1 : b.sh.length ≠ 0) (hl : a.sh.length = b.sh.length) (hs : a.sh ≠ b.sh) :
    Calls Tryz.prog 229 #[.agg #[.bool fa, .slice A a.sh.length ca, .slice D a.da.length cd], .agg #[.bool fb, .slice A' b.sh.length ca', .slice D' b.da.length cd']] w (FitsNot 4 w) := by
  have bA0 := (Box.new w 25 #[.bool fa, .slice A a.sh.length ca, .slice D a.da.length cd]).alloc (.cells #[.bool fb, .slice A' b.sh.length ca', .slice D' b.da.length cd'] 25)
  have bB0 := Box.new (w.alloc (.cells #[.bool fa, .slice A a.sh.length ca, .slice D a.da.length cd] 25)) 25 #[.bool fb, .slice A' b.sh.length ca', .slice D' b.da.length cd']
  rw [World.size_alloc] at bB0
  have hb0 := below_two w (.cells #[.bool fa, .slice A a.sh.length ca, .slice D a.da.length cd] 25) (.cells #[.bool fb, .slice A' b.sh.length ca', .slice D' b.da.length cd'] 25)
  obtain ⟨t0, t1, t2⟩ := bA0.three
  obtain ⟨u0, u1, u2⟩ := bB0.three
  have HEQ := Lib.hid hs
  have HL := Lib.hid hl
  have e0 : ((a.sh.length : Int) == 0) = false := beq_eq_false_iff_ne.2 (by omega)
  have e1 : ((b.sh.length : Int) == 0) = false := beq_eq_false_iff_ne.2 (by omega)
  have e2 : ((a.sh.length : Int) != (b.sh.length : Int)) = false := by rw [hl]; simp
  clear hs h0 h1 hl
  go_enter Tryz.func229, Tryz.ntmps229
  go_wp2_with fail
  refine (equal_two _ _ a.sh b.sh _ ((IsArr.shapeOf ha).mono hb0) ((IsArr.shapeOf hb).mono hb0) HL.out).mono ?_
  rintro e w1 ⟨r, rfl, hr, hb1⟩
  have er : r = false := by
    cases r with
    | false => rfl
    | true => exact absurd (hr.1 rfl) HEQ.out
  subst er
  have bA := bA0.below hb1
  have bB := bB0.below hb1
  have hbw := hb0.trans (hb1.mono hb0.size)
  clear bA0 bB0 hb1 t0 t1 t2 u0 u1 u2 hr
  obtain ⟨t0, t1, t2⟩ := bA.three
  obtain ⟨u0, u1, u2⟩ := bB.three
  have hzA := bA.lt
  have hzB := bB.lt
  go_wp2_with fail
  refine bodyPost_ret (v := .tuple #[.slice none 0 0, .int .i64 0, .nilFunc, .nilFunc, .iface 54 (.int .i64 4)]) (by simp [results, Tryz.results229, go_sem]; first | done | rfl | exact ⟨rfl, rfl, rfl⟩) rfl ?_
  exact ⟨rfl, by have := hbw.size; go_grown⟩

end Go.Proofs.YtihndbkaoejnnaaGreatDoor
