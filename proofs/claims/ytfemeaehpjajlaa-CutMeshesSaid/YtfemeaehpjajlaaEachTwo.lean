/- The walk of each.Two at Add, of two arrays of numbers of one shape. Conditions: none but these. -/
import Derived.Test.YtfemeaehpjajlaaFilledWalk
import Derived.Test.YtfemeaehpjajlaaCount
import Derived.Test.YtfemeaehpjajlaaMoved
import Derived.Test.YtfemeaehpjajlaaMore
import Derived.Test.YtfemeaehpjajlaaHelp
import Derived.Test.YtfemeaehpjajlaaArrOf
import Derived.BigQuiet
import Derived.Laws.EntriesVeiled
namespace Go.Proofs.Ytfemeaehpjajlaa
open Go Go.RowKit Go.Proofs.Ytfemeaehpjajlaa.P

set_option maxRecDepth 100000 in
set_option maxHeartbeats 400000 in
theorem cell_add (x y : Int) (w : World) : Calls Try.prog 78 #[.int .i64 1, .int .i64 x, .int .i64 y] w fun e w' => e = .returned (.tuple #[.int .i64 (Go.RowKit.wrap64 (x + y)), .nilIface]) ∧ w = w' := by
  go_enter Try.func78, Try.ntmps78
  go_wp2_with fail
  go_ret2
  exact ⟨rfl, rfl⟩

set_option maxRecDepth 100000 in
set_option maxHeartbeats 400000 in
theorem equal_same (va vb : Value) (xs : List Int) (w : World) (ha : IsInts w va xs) (hb : IsInts w vb xs) : Calls Try.prog 72 #[va, vb] w fun e w' => e = .returned (.bool true) ∧ Below w.heap.size w w' := by
  obtain ⟨A, ca, rfl, a1, a2, a3, EA0, -⟩ := ha.open_
  obtain ⟨B, cb, rfl, b1, b2, b3, EB0, -⟩ := hb.open_
  have EA := Lib.hid EA0
  have EB := Lib.hid EB0
  clear EA0 EB0 ha hb
  go_enter Try.func72, Try.ntmps72
  go_wp2_with fail
  go_loopw [13] (fun s13 wr => ∃ k : Nat, k ≤ xs.length ∧ s13 = .int .i64 k ∧ Below w.heap.size w wr) (fun s13 _ => xs.length - (intOf s13).toNat)
  case atStart => exact ⟨0, Nat.zero_le _, rfl, Below.refl _ _⟩
  case round =>
    obtain ⟨k, hk, rfl, hbl⟩ := hrel
    rcases Nat.lt_or_ge k xs.length with hlt | hge
    · obtain ⟨ad, x, rfl, hx, hal, hcx⟩ := Elems.later EA.out hbl hlt
      obtain ⟨ae, y, rfl, hy, hae, hcy⟩ := Elems.later EB.out hbl hlt
      obtain rfl : x = y := by rw [hx] at hy; injection hy
      clear hx hy
      go_wp2_with fail
      go_quiet (fail)
      all_goals go_wp2_with fail
      go_roundw
      case rel => exact ⟨k + 1, by omega, by go_num, hbl.trans (below_draws _ _ _)⟩
      case measure => simp [intOf]; omega
    · go_wp2_with fail
      go_ret
      exact ⟨rfl, hbl⟩

set_option maxRecDepth 100000 in
set_option maxHeartbeats 400000 in
theorem plain_any {w : World} (cs : Array Value) : Calls Try.prog 85 #[.agg cs] w fun e w' => e = .returned (.func (.func 86) #[] #[.pointer (some ⟨w.heap.size, 0, none⟩)]) ∧ w' = w.alloc (.cells cs 24) := by
  go_enter Try.func85, Try.ntmps85
  go_wp2_with fail
  go_ret
  exact ⟨rfl, rfl⟩

set_option maxRecDepth 100000 in
set_option maxHeartbeats 400000 in
theorem plain1_any (i : Nat) (x : Int) (b : Nat) (d : List Int) (c0 s : Value) (D : Option Addr) (cd : Nat) (W : World) (hb : Box W b 24 #[c0, s, .slice D d.length cd]) (he : Elems W D d) (hi : d[i]? = some x) :
    Calls Try.prog 86 (#[.int .i64 i] ++ #[.pointer (some ⟨b, 0, none⟩)]) W fun e W' => e = .returned (.int .i64 x) ∧ W = W' := by
  obtain ⟨c1, c2, c3⟩ := hb.three
  have hil := (List.getElem?_eq_some_iff.1 hi).1
  obtain ⟨ad, e, hl, hc⟩ := he i x hi
  subst e
  clear hi he
  simp only [List.append_toArray, List.cons_append, List.nil_append]
  go_enter Try.func86, Try.ntmps86
  go_wp2_with fail
  go_ret
  exact ⟨rfl, rfl⟩

/-- What fit tells of two arrays of one shape. -/
def Fits (a b : Arr) (A : Option Addr) (ca : Nat) (ba bb : Array Value) (w : World) (e : Ending) (w' : World) : Prop :=
  ∃ b1 b2, e = .returned (.tuple #[.slice A a.sh.length ca, .int .i64 a.da.length, .func (.func 86) #[] #[.pointer (some ⟨b1, 0, none⟩)], .func (.func 86) #[] #[.pointer (some ⟨b2, 0, none⟩)], .nilIface]) ∧
    Box w' b1 24 ba ∧ Box w' b2 24 bb ∧ Below w.heap.size w w'

set_option maxRecDepth 100000 in
set_option maxHeartbeats 4000000 in
theorem fit_same {a b : Arr} {fa fb : Bool} {w : World} {A A' D D' : Option Addr} {ca ca' cd cd' : Nat} (ha : IsArr w (.agg #[.bool fa, .slice A a.sh.length ca, .slice D a.da.length cd]) a) (hb : IsArr w (.agg #[.bool fb, .slice A' b.sh.length ca', .slice D' b.da.length cd']) b) (hs : a.sh = b.sh) (h0 : a.sh.length ≠ 0) :
    Calls Try.prog 79 #[.agg #[.bool fa, .slice A a.sh.length ca, .slice D a.da.length cd], .agg #[.bool fb, .slice A' b.sh.length ca', .slice D' b.da.length cd']] w (Fits a b A ca #[.bool fa, .slice A a.sh.length ca, .slice D a.da.length cd] #[.bool fb, .slice A' b.sh.length ca', .slice D' b.da.length cd'] w) := by
  have bA0 := (Box.new w 24 #[.bool fa, .slice A a.sh.length ca, .slice D a.da.length cd]).alloc (.cells #[.bool fb, .slice A' b.sh.length ca', .slice D' b.da.length cd'] 24)
  have bB0 := Box.new (w.alloc (.cells #[.bool fa, .slice A a.sh.length ca, .slice D a.da.length cd] 24)) 24 #[.bool fb, .slice A' b.sh.length ca', .slice D' b.da.length cd']
  rw [World.size_alloc] at bB0
  have hb0 := below_two w (.cells #[.bool fa, .slice A a.sh.length ca, .slice D a.da.length cd] 24) (.cells #[.bool fb, .slice A' b.sh.length ca', .slice D' b.da.length cd'] 24)
  obtain ⟨t0, t1, t2⟩ := bA0.three
  obtain ⟨u0, u1, u2⟩ := bB0.three
  have HEQ := Lib.hid hs
  have e0 : ((a.sh.length : Int) == 0) = false := beq_eq_false_iff_ne.2 (by omega)
  have e1 : ((b.sh.length : Int) == 0) = false := by rw [← hs]; exact beq_eq_false_iff_ne.2 (by omega)
  have e2 : ((a.sh.length : Int) != (b.sh.length : Int)) = false := by rw [hs]; simp
  clear hs h0
  go_enter Try.func79, Try.ntmps79
  go_wp2_with fail
  refine (equal_same _ _ a.sh _ ((IsArr.shapeOf ha).mono hb0) ((show IsInts w (.slice A' b.sh.length ca') a.sh by rw [HEQ.out]; exact IsArr.shapeOf hb).mono hb0)).mono ?_
  rintro e w1 ⟨rfl, hb1⟩
  have bA := bA0.below hb1
  have bB := bB0.below hb1
  have hbw := hb0.trans (hb1.mono hb0.size)
  clear bA0 bB0 hb1 t0 t1 t2 u0 u1 u2
  obtain ⟨t0, t1, t2⟩ := bA.three
  obtain ⟨u0, u1, u2⟩ := bB.three
  have hzA := bA.lt
  have hzB := bB.lt
  go_wp2_with fail
  refine wp_region_open (fun i v lo hi w' => match i with
    | 0 => v = .pointer (some ⟨w.heap.size, 1, none⟩)
    | 1 => v = .slice A a.sh.length ca
    | 2 => v = .pointer (some ⟨w.heap.size, 2, none⟩)
    | 3 => v = .slice D a.da.length cd
    | 4 => v = .int .i64 a.da.length
    | 5 => v = .func (.func 85) #[] #[]
    | 6 => v = .agg #[.bool fa, .slice A a.sh.length ca, .slice D a.da.length cd]
    | 7 => ∃ q, v = .func (.func 86) #[] #[.pointer (some ⟨q, 0, none⟩)] ∧ Box w' q 24 #[.bool fa, .slice A a.sh.length ca, .slice D a.da.length cd]
    | 8 => v = .func (.func 85) #[] #[]
    | 9 => v = .agg #[.bool fb, .slice A' b.sh.length ca', .slice D' b.da.length cd']
    | 10 => ∃ q, v = .func (.func 86) #[] #[.pointer (some ⟨q, 0, none⟩)] ∧ Box w' q 24 #[.bool fb, .slice A' b.sh.length ca', .slice D' b.da.length cd']
    | 11 => v = .slice A a.sh.length ca
    | 12 => v = .int .i64 a.da.length
    | 13 => ∃ q, v = .func (.func 86) #[] #[.pointer (some ⟨q, 0, none⟩)] ∧ Box w' q 24 #[.bool fa, .slice A a.sh.length ca, .slice D a.da.length cd]
    | 14 => ∃ q, v = .func (.func 86) #[] #[.pointer (some ⟨q, 0, none⟩)] ∧ Box w' q 24 #[.bool fb, .slice A' b.sh.length ca', .slice D' b.da.length cd']
    | _ => True) (by kernel_rfl) (by kernel_rfl) (by kernel_rfl) ?hV ?step ?last
  case hV =>
    intro i v lo hi w1 w2 h hb
    match i, h with
    | 0, h => exact h
    | 1, h => exact h
    | 2, h => exact h
    | 3, h => exact h
    | 4, h => exact h
    | 5, h => exact h
    | 6, h => exact h
    | 7, ⟨q, e, h⟩ => exact ⟨q, e, h.below hb⟩
    | 8, h => exact h
    | 9, h => exact h
    | 10, ⟨q, e, h⟩ => exact ⟨q, e, h.below hb⟩
    | 11, h => exact h
    | 12, h => exact h
    | 13, ⟨q, e, h⟩ => exact ⟨q, e, h.below hb⟩
    | 14, ⟨q, e, h⟩ => exact ⟨q, e, h.below hb⟩
    | i + 15, _ => trivial
  case step =>
    simp only [putAll, Act.put, List.setIfInBounds_toArray, List.set_cons_zero, List.set_cons_succ, Nat.reduceAdd, Nat.zero_add]
    intro i o ho hi uu lo up wr hbr hd hj K hK
    obtain ⟨hcw, hfw⟩ := bcell hbr
    match i, ho with
    | 0, ho =>
      simp only [List.getElem?_cons_zero, Option.some.injEq] at ho
      subst ho
      simp only [Act.put, List.setIfInBounds_toArray, List.set_cons_zero, List.set_cons_succ] at hK
      refine wpOp_step rfl fun K' hK' => ?_
      go_simp
      exact hK' _ _ (hK _ _ (Below.refl _ _) rfl)
    | 1, ho =>
      simp only [List.getElem?_cons_succ, List.getElem?_cons_zero, Option.some.injEq] at ho
      subst ho
      simp only [Act.put, List.setIfInBounds_toArray, List.set_cons_zero, List.set_cons_succ] at hK
      have h0 : uu 0 = .pointer (some ⟨w.heap.size, 1, none⟩) := hd ⟨0, .data⟩ (by simp) rfl
      simp only [h0] at hK
      refine wpOp_step rfl fun K' hK' => ?_
      go_simp
      exact hK' _ _ (hK _ _ (Below.refl _ _) rfl)
    | 2, ho =>
      simp only [List.getElem?_cons_succ, List.getElem?_cons_zero, Option.some.injEq] at ho
      subst ho
      simp only [Act.put, List.setIfInBounds_toArray, List.set_cons_zero, List.set_cons_succ] at hK
      refine wpOp_step rfl fun K' hK' => ?_
      go_simp
      exact hK' _ _ (hK _ _ (Below.refl _ _) rfl)
    | 3, ho =>
      simp only [List.getElem?_cons_succ, List.getElem?_cons_zero, Option.some.injEq] at ho
      subst ho
      simp only [Act.put, List.setIfInBounds_toArray, List.set_cons_zero, List.set_cons_succ] at hK
      have h2 : uu 2 = .pointer (some ⟨w.heap.size, 2, none⟩) := hd ⟨2, .data⟩ (by simp) rfl
      simp only [h2] at hK
      refine wpOp_step rfl fun K' hK' => ?_
      go_simp
      exact hK' _ _ (hK _ _ (Below.refl _ _) rfl)
    | 4, ho =>
      simp only [List.getElem?_cons_succ, List.getElem?_cons_zero, Option.some.injEq] at ho
      subst ho
      simp only [Act.put, List.setIfInBounds_toArray, List.set_cons_zero, List.set_cons_succ] at hK
      have h3 : uu 3 = .slice D a.da.length cd := hd ⟨3, .data⟩ (by simp) rfl
      simp only [h3] at hK
      refine wpOp_step rfl fun K' hK' => ?_
      go_simp
      exact hK' _ _ (hK _ _ (Below.refl _ _) rfl)
    | 5, ho =>
      simp only [List.getElem?_cons_succ, List.getElem?_cons_zero, Option.some.injEq] at ho
      subst ho
      simp only [Act.put, List.setIfInBounds_toArray, List.set_cons_zero, List.set_cons_succ] at hK
      refine wpOp_step rfl fun K' hK' => ?_
      go_simp
      exact hK' _ _ (hK _ _ (Below.refl _ _) rfl)
    | 6, ho =>
      simp only [List.getElem?_cons_succ, List.getElem?_cons_zero, Option.some.injEq] at ho
      subst ho
      simp only [Act.put, List.setIfInBounds_toArray, List.set_cons_zero, List.set_cons_succ] at hK
      refine wpOp_step rfl fun K' hK' => ?_
      go_simp
      exact hK' _ _ (hK _ _ (Below.refl _ _) rfl)
    | 7, ho =>
      simp only [List.getElem?_cons_succ, List.getElem?_cons_zero, Option.some.injEq] at ho
      subst ho
      simp only [Act.put, List.setIfInBounds_toArray, List.set_cons_zero, List.set_cons_succ] at hK
      have h5 : uu 5 = .func (.func 85) #[] #[] := hd ⟨5, .data⟩ (by simp) rfl
      have h6 : uu 6 = .agg #[.bool fa, .slice A a.sh.length ca, .slice D a.da.length cd] := hd ⟨6, .data⟩ (by simp) rfl
      simp only [h5, h6] at hK
      refine wpOp_step rfl fun K' hK' => ?_
      go_simp
      refine (plain_any _).mono ?_
      rintro e w1 ⟨rfl, rfl⟩
      exact hK' _ _ (hK _ _ (below_one _ _) ⟨_, rfl, Box.new _ _ _⟩)
    | 8, ho =>
      simp only [List.getElem?_cons_succ, List.getElem?_cons_zero, Option.some.injEq] at ho
      subst ho
      simp only [Act.put, List.setIfInBounds_toArray, List.set_cons_zero, List.set_cons_succ] at hK
      refine wpOp_step rfl fun K' hK' => ?_
      go_simp
      exact hK' _ _ (hK _ _ (Below.refl _ _) rfl)
    | 9, ho =>
      simp only [List.getElem?_cons_succ, List.getElem?_cons_zero, Option.some.injEq] at ho
      subst ho
      simp only [Act.put, List.setIfInBounds_toArray, List.set_cons_zero, List.set_cons_succ] at hK
      refine wpOp_step rfl fun K' hK' => ?_
      go_simp
      exact hK' _ _ (hK _ _ (Below.refl _ _) rfl)
    | 10, ho =>
      simp only [List.getElem?_cons_succ, List.getElem?_cons_zero, Option.some.injEq] at ho
      subst ho
      simp only [Act.put, List.setIfInBounds_toArray, List.set_cons_zero, List.set_cons_succ] at hK
      have h8 : uu 8 = .func (.func 85) #[] #[] := hd ⟨8, .data⟩ (by simp) rfl
      have h9 : uu 9 = .agg #[.bool fb, .slice A' b.sh.length ca', .slice D' b.da.length cd'] := hd ⟨9, .data⟩ (by simp) rfl
      simp only [h8, h9] at hK
      refine wpOp_step rfl fun K' hK' => ?_
      go_simp
      refine (plain_any _).mono ?_
      rintro e w1 ⟨rfl, rfl⟩
      exact hK' _ _ (hK _ _ (below_one _ _) ⟨_, rfl, Box.new _ _ _⟩)
    | 11, ho =>
      simp only [List.getElem?_cons_succ, List.getElem?_cons_zero, Option.some.injEq] at ho
      subst ho
      simp only [Act.put, List.setIfInBounds_toArray, List.set_cons_zero, List.set_cons_succ] at hK
      have h1 : uu 1 = .slice A a.sh.length ca := hd ⟨1, .data⟩ (by simp) rfl
      simp only [h1] at hK
      refine wpOp_step rfl fun K' hK' => ?_
      go_simp
      exact hK' _ _ (hK _ _ (Below.refl _ _) rfl)
    | 12, ho =>
      simp only [List.getElem?_cons_succ, List.getElem?_cons_zero, Option.some.injEq] at ho
      subst ho
      simp only [Act.put, List.setIfInBounds_toArray, List.set_cons_zero, List.set_cons_succ] at hK
      have h4 : uu 4 = .int .i64 a.da.length := hd ⟨4, .data⟩ (by simp) rfl
      simp only [h4] at hK
      refine wpOp_step rfl fun K' hK' => ?_
      go_simp
      exact hK' _ _ (hK _ _ (Below.refl _ _) rfl)
    | 13, ho =>
      simp only [List.getElem?_cons_succ, List.getElem?_cons_zero, Option.some.injEq] at ho
      subst ho
      simp only [Act.put, List.setIfInBounds_toArray, List.set_cons_zero, List.set_cons_succ] at hK
      obtain ⟨bx, e7, hx7⟩ := hd ⟨7, .data⟩ (by simp) rfl
      simp only [e7] at hK
      refine wpOp_step rfl fun K' hK' => ?_
      go_simp
      exact hK' _ _ (hK _ _ (Below.refl _ _) ⟨bx, rfl, hx7⟩)
    | 14, ho =>
      simp only [List.getElem?_cons_succ, List.getElem?_cons_zero, Option.some.injEq] at ho
      subst ho
      simp only [Act.put, List.setIfInBounds_toArray, List.set_cons_zero, List.set_cons_succ] at hK
      obtain ⟨bx, e10, hx10⟩ := hd ⟨10, .data⟩ (by simp) rfl
      simp only [e10] at hK
      refine wpOp_step rfl fun K' hK' => ?_
      go_simp
      exact hK' _ _ (hK _ _ (Below.refl _ _) ⟨bx, rfl, hx10⟩)
    | i + 15, ho => simp at hi; omega
  case last =>
    simp only [putAll, Act.put, List.setIfInBounds_toArray, List.set_cons_zero, List.set_cons_succ, Nat.reduceAdd, Nat.zero_add]
    intro uu wr lo up hbr hv hj
    have v1 : uu 11 = .slice A a.sh.length ca := hv 11 (by simp)
    have v2 : uu 12 = .int .i64 a.da.length := hv 12 (by simp)
    obtain ⟨b1, v3, x1⟩ := hv 13 (by simp)
    obtain ⟨b2, v4, x2⟩ := hv 14 (by simp)
    simp only [v1, v2, v3, v4]
    clear hv hj v1 v2 v3 v4
    refine wpOp_step rfl fun K' hK' => ?_
    go_simp
    refine hK' _ _ ?_
    clear hK'
    go_wp2_with fail
    have hbw9 := hbw.trans (hbr.mono hbw.size)
    refine bodyPost_ret (v := .tuple #[.slice A a.sh.length ca, .int .i64 a.da.length, .func (.func 86) #[] #[.pointer (some ⟨b1, 0, none⟩)], .func (.func 86) #[] #[.pointer (some ⟨b2, 0, none⟩)], .nilIface]) (by simp [results, Try.results79, go_sem]; first | done | rfl | exact ⟨rfl, rfl, rfl⟩) rfl ?_
    exact ⟨b1, b2, rfl, x1, x2, hbw9⟩

end Go.Proofs.Ytfemeaehpjajlaa
