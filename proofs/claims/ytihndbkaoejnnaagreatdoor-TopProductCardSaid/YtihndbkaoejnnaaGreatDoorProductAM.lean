/- What the card TopProduct leans on: FoldAlong. Conditions: none but those of its theorems. -/
import Derived.Test.YtihndbkaoejnnaaGreatDoorProductAG
import Derived.Test.YtihndbkaoejnnaaGreatDoorProductG
import Derived.Test.YtihndbkaoejnnaaGreatDoorProductA
set_option linter.unusedSimpArgs false
set_option linter.unusedVariables false
namespace Go.Proofs.YtihndbkaoejnnaaGreatDoor.P
/-- Has another axis no place? -/
def NoneElse (t : List Nat) (k : Nat) : Prop := ∃ j, j < t.length ∧ j ≠ k ∧ t.getD j 0 = 0
noncomputable instance (t : List Nat) (k : Nat) : Decidable (NoneElse t k) := Classical.propDecidable _
/-- The lines of an array along an axis. -/
noncomputable def lineF (t : List Nat) (k : Nat) : Nat × Nat × Nat := if NoneElse t k then (0, t.getD k 0, 0) else (outerOf t k, t.getD k 0, innerOf t k)
theorem prod_top : ∀ {s : List Nat}, (∀ n ∈ s, n ≤ 4096) → prod s ≤ 4096 ^ s.length
  | [], _ => Nat.le_refl _
  | n :: s, h => by
    have h1 := prod_top fun x hx => h x (List.mem_cons_of_mem _ hx)
    have h2 := h n List.mem_cons_self
    show n * prod s ≤ 4096 ^ (s.length + 1)
    rw [Nat.pow_succ, Nat.mul_comm]
    exact Nat.mul_le_mul h1 h2
theorem prod_five {s : List Nat} (h : ∀ n ∈ s, n ≤ 4096) (hl : s.length ≤ 5) : prod s ≤ 1152921504606846976 :=
  Nat.le_trans (prod_top h) (Nat.le_trans (Nat.pow_le_pow_right (by omega) hl) (by decide))
/-- The products so far. -/
def OutTo (t : List Nat) (k j : Nat) : Nat := prod (t.take (min j k))
def InTo (t : List Nat) (k j : Nat) : Nat := prod ((t.drop (k + 1)).take (j - (k + 1)))
theorem out_low {t : List Nat} {k j : Nat} (hj : j < k) (hk : k < t.length) : OutTo t k (j + 1) = OutTo t k j * t.getD j 0 := by
  unfold OutTo
  rw [show min (j + 1) k = j + 1 by omega, show min j k = j by omega, List.take_add_one, prod_append, List.getElem?_eq_getElem (show j < t.length by omega), List.getD_eq_getElem?_getD, List.getElem?_eq_getElem (show j < t.length by omega)]
  simp [prod]
theorem out_high {t : List Nat} {k j : Nat} (hj : k ≤ j) : OutTo t k (j + 1) = OutTo t k j := by
  unfold OutTo
  rw [show min (j + 1) k = k by omega, show min j k = k by omega]
theorem in_low {t : List Nat} {k j : Nat} (hj : j ≤ k) : InTo t k (j + 1) = InTo t k j := by
  unfold InTo
  rw [show j + 1 - (k + 1) = 0 by omega, show j - (k + 1) = 0 by omega]
theorem in_high {t : List Nat} {k j : Nat} (hj : k < j) (hl : j < t.length) : InTo t k (j + 1) = InTo t k j * t.getD j 0 := by
  unfold InTo
  rw [show j + 1 - (k + 1) = (j - (k + 1)) + 1 by omega, List.take_add_one, prod_append, List.getElem?_drop, show k + 1 + (j - (k + 1)) = j by omega, List.getElem?_eq_getElem hl, List.getD_eq_getElem?_getD, List.getElem?_eq_getElem hl]
  simp [prod]
theorem out_zero (t : List Nat) (k : Nat) : OutTo t k 0 = 1 := by simp [OutTo, prod]
theorem in_zero (t : List Nat) (k : Nat) : InTo t k 0 = 1 := by simp [InTo, prod]
theorem out_all {t : List Nat} {k : Nat} (hk : k < t.length) : OutTo t k t.length = outerOf t k := by unfold OutTo outerOf; rw [show min t.length k = k by omega]
theorem in_all {t : List Nat} {k : Nat} : InTo t k t.length = innerOf t k := by unfold InTo innerOf; rw [List.take_of_length_le (by rw [List.length_drop]; omega)]
theorem out_top {t : List Nat} {k j : Nat} (h : ∀ n ∈ t, n ≤ 4096) (hl : t.length ≤ 6) (hk : k < t.length) : OutTo t k j ≤ 1152921504606846976 :=
  prod_five (fun n hn => h n (List.mem_of_mem_take hn)) (by rw [List.length_take]; omega)
theorem in_top {t : List Nat} {k j : Nat} (h : ∀ n ∈ t, n ≤ 4096) (hl : t.length ≤ 6) (hk : k < t.length) : InTo t k j ≤ 1152921504606846976 :=
  prod_five (fun n hn => h n (List.mem_of_mem_drop (List.mem_of_mem_take hn))) (by rw [List.length_take, List.length_drop]; omega)
end Go.Proofs.YtihndbkaoejnnaaGreatDoor.P
namespace Go.Proofs.YtihndbkaoejnnaaGreatDoor
open Go Go.RowKit Go.Proofs.YtihndbkaoejnnaaGreatDoor.P

set_option maxRecDepth 100000 in
set_option maxHeartbeats 4000000 in
theorem falong_ok {v : Value} {a : Arr} {t : List Nat} {w : World} {f : Int} {k : Nat} (ha : IsArr w v a) (h : Ok a t) (hk : k < t.length) (hf : twoE f 0 1 = 0) (hc : a.ch = false) :
    Calls Tryz.prog 21 #[.int .i64 f, .int .i64 k, v] w (GivesLine (lineF t k) w) := by
  obtain ⟨A, ca, D, cd, rfl, hs, hd⟩ := ha.open_
  obtain ⟨A', ca', eA, a1, a2, a3, a0, a4⟩ := id hs
  cases eA
  have hl : a.sh.length = t.length := by rw [h.sh, length_ints]
  have hl6 := h.good.1
  have HA := Lib.hid ha
  have H := Lib.hid h
  have HS := Lib.hid (show Elems w A a.sh from a4)
  have HL := Lib.hid hl
  have hka : k < a.sh.length := by omega
  have hal6 : a.sh.length ≤ 6 := by omega
  have htw := fun W => two_any f 0 1 W (fun _ => by omega)
  rw [hf, show errV 0 = .nilIface from rfl] at htw
  have HTW := Lib.hid htw
  have HZ := Lib.hid (show ∀ j y, a.sh[j]? = some y → y = ((t.getD j 0 : Nat) : Int) from fun j y hy => by
    rw [h.sh] at hy
    exact (ints_getD hy).1)
  rw [hc] at HA ⊢
  clear ha h hs hd a0 a4 hl hf htw hc
  go_enter Tryz.func21, Tryz.ntmps21
  have bA0 := (Box.new w 25 #[.bool false, .slice A a.sh.length ca, .slice D a.da.length cd]).alloc (.cells #[.int .i64 0, .int .i64 0, .int .i64 0] 47)
  have bR0 := Box.new (w.alloc (.cells #[.bool false, .slice A a.sh.length ca, .slice D a.da.length cd] 25)) 47 #[.int .i64 0, .int .i64 0, .int .i64 0]
  rw [World.size_alloc] at bR0
  have hb0 := below_two w (.cells #[.bool false, .slice A a.sh.length ca, .slice D a.da.length cd] 25) (.cells #[.int .i64 0, .int .i64 0, .int .i64 0] 47)
  obtain ⟨t0, t1, t2⟩ := bA0.three
  go_wp2_with fail
  refine (HTW.out _).mono ?_
  rintro e w1 ⟨rfl, hb1⟩
  have bA1 := bA0.below hb1
  have bR1 := bR0.below hb1
  have hbw1 := hb0.trans (hb1.mono hb0.size)
  clear bA0 bR0 hb0 hb1 t0 t1 t2
  obtain ⟨t0, t1, t2⟩ := bA1.three
  have lA := bA1.lt
  go_wp2_with fail
  refine (check_ok (HA.out.mono hbw1) H.out).mono ?_
  rintro e w2 ⟨rfl, hb2⟩
  have bA2 := bA1.below hb2
  have bR2 := bR1.below hb2
  have hbw2 := hbw1.trans (hb2.mono hbw1.size)
  clear bA1 bR1 hbw1 hb2 t0 t1 t2 lA
  obtain ⟨t0, t1, t2⟩ := bA2.three
  have lA := bA2.lt
  obtain ⟨ad, n, rfl, hn, hal, hcn⟩ := Elems.later HS.out hbw2 hka
  obtain ⟨N, hN⟩ : ∃ N, N = t.getD k 0 := ⟨_, rfl⟩
  have hnN : n = (N : Int) := by rw [hN]; exact HZ.out k n hn
  subst hnN
  have HN := Lib.hid hN
  clear hn hN
  go_wp2_with fail
  clear t0 t1 t2 lA
  obtain ⟨g, hg⟩ : ∃ g, g = w2.heap.size := ⟨_, rfl⟩
  obtain ⟨w3, hw3⟩ : ∃ W, W = w2.alloc (.cells #[.int .i64 1, .int .i64 N, .int .i64 1] 47) := ⟨_, rfl⟩
  have bL3 : Box w3 g 47 #[.int .i64 1, .int .i64 N, .int .i64 1] := by rw [hw3, hg]; exact Box.new _ _ _
  have bA3 : Box w3 w.heap.size 25 #[.bool false, .slice (some ad) a.sh.length ca, .slice D a.da.length cd] := by rw [hw3]; exact bA2.alloc _
  have bR3 : Box w3 (w.heap.size + 1) 47 #[.int .i64 0, .int .i64 0, .int .i64 0] := by rw [hw3]; exact bR2.alloc _
  have hbw3 : Below w.heap.size w w3 := by rw [hw3]; exact hbw2.alloc hbw2.size _
  have hgl : w.heap.size + 2 ≤ g := by have := bR2.lt; omega
  have hz3 : g < w3.heap.size := by rw [hw3, hg]; simp
  rw [← hw3, ← hg]
  clear hw3 hg bA2 bR2 hbw2 hcn
  obtain ⟨t0, t1, t2⟩ := bA3.three
  obtain ⟨l0, l1, l2⟩ := bL3.three
  have lA := bA3.lt
  have lR := bR3.lt
  obtain ⟨q0, q1, q2⟩ := bR3.three
  have qf := bR3.frozen
  go_wp2_with fail
  go_loop [55] (fun si => ∃ j : Nat, j ≤ a.sh.length ∧ si = .int .i64 j ∧ ∀ i, i < j → i ≠ k → t.getD i 0 ≠ 0) (fun si => a.sh.length - (intOf si).toNat)
  case atStart => exact ⟨0, Nat.zero_le _, rfl, fun i h => by omega⟩
  case round =>
    obtain ⟨j, hj, rfl, hnz⟩ := hrel
    have HNZ := Lib.hid hnz
    clear hnz
    rcases Nat.lt_or_ge j a.sh.length with hlt | hge
    · obtain ⟨ad2, y, e2, hy, hay, hcy⟩ := Elems.later HS.out hbw3 hlt
      injection e2 with e2
      subst e2
      have hyY := HZ.out j y hy
      obtain ⟨Y, hY⟩ : ∃ Y, Y = t.getD j 0 := ⟨_, rfl⟩
      rw [← hY] at hyY
      subst hyY
      have HY := Lib.hid hY
      clear hy hY
      by_cases hjk : j = k
      · have e1 : ((j : Int) != (k : Int)) = false := by simp [hjk]
        have e1' : ¬ ((j : Int) ≠ (k : Int)) := by omega
        have HJ := Lib.hid (show ∀ i, i < j + 1 → i ≠ k → t.getD i 0 ≠ 0 from fun i hi hik => HNZ.out i (by omega) hik)
        clear hjk
        go_wp2_with fail
        go_round
        case rel => exact ⟨j + 1, by omega, by go_num, HJ.out⟩
        case measure => simp [intOf]; omega
      · have e1 : ((j : Int) != (k : Int)) = true := by simp; omega
        by_cases hY0 : Y = 0
        · have hNE := Lib.hid (show lineF t k = (0, N, 0) by
            unfold lineF
            rw [if_pos ⟨j, by rw [← HL.out]; exact hlt, hjk, by rw [← HY.out, hY0]⟩, HN.out])
          have e2 : ((Y : Int) == 0) = true := by simp [hY0]
          have hbe := hbw3.grown (grownBy_three w3 (w.heap.size + 1) (.int .i64 0) (.int .i64 N) (.int .i64 0)) hbw3.size (fun j e => by cases e; omega)
          have z := ((bR3.store 0 (.int .i64 0)).store 1 (.int .i64 N)).store 2 (.int .i64 0)
          simp only [List.setIfInBounds_toArray, List.set_cons_zero, List.set_cons_succ] at z
          obtain ⟨z0, z1, z2⟩ := z.three
          have zl := z.lt
          subst hY0
          clear hjk
          go_wp2_with fail
          refine bodyPost_ret (v := .tuple #[.agg #[.int .i64 0, .int .i64 N, .int .i64 0], .nilIface]) (by simp [results, Tryz.results21, go_sem, z0, z1, z2, zl]) rfl ?_
          exact ⟨by rw [hNE.out]; rfl, hbe⟩
        · have e2 : ((Y : Int) == 0) = false := by rw [beq_eq_false_iff_ne]; omega
          have HJ := Lib.hid (show ∀ i, i < j + 1 → i ≠ k → t.getD i 0 ≠ 0 from fun i hi hik => by
            rcases Nat.lt_or_ge i j with h | h
            · exact HNZ.out i h hik
            · obtain rfl : i = j := by omega
              rw [← HY.out]; exact hY0)
          clear hjk hY0
          go_wp2_with fail
          go_round
          case rel => exact ⟨j + 1, by omega, by go_num, HJ.out⟩
          case measure => simp [intOf]; omega
    · obtain rfl : j = a.sh.length := by omega
      have HNE := Lib.hid (show lineF t k = (OutTo t k a.sh.length, N, InTo t k a.sh.length) by
        unfold lineF
        rw [if_neg (by rintro ⟨i, h1, h2, h3⟩; exact HNZ.out i (by rw [HL.out]; exact h1) h2 h3), HL.out, out_all (by rw [← HL.out]; exact hka), in_all, HN.out])
      have HB3 := Lib.hid hbw3
      have BL3 := Lib.hid bL3
      clear HNZ l0 l1 l2 q0 q1 q2 qf
      go_wp2_with fail
      go_loopw [74] (fun si wr => ∃ j : Nat, j ≤ a.sh.length ∧ si = .int .i64 j ∧ Box wr g 47 #[.int .i64 (OutTo t k j : Nat), .int .i64 N, .int .i64 (InTo t k j : Nat)] ∧ Box wr w.heap.size 25 #[.bool false, .slice (some ad) a.sh.length ca, .slice D a.da.length cd] ∧ Box wr (w.heap.size + 1) 47 #[.int .i64 0, .int .i64 0, .int .i64 0] ∧ Below w.heap.size w wr ∧ g < wr.heap.size) (fun si _ => a.sh.length - (intOf si).toNat)
      case atStart => exact ⟨0, Nat.zero_le _, rfl, by rw [out_zero, in_zero]; exact BL3.out, bA3, bR3, HB3.out, hz3⟩
      case round =>
        obtain ⟨j, hj, rfl, h1, h2, h3, hbl, hgz⟩ := hrel
        obtain ⟨l0, l1, l2⟩ := h1.three
        have lf := h1.frozen
        rcases Nat.lt_or_ge j a.sh.length with hlt | hge
        · obtain ⟨ad2, y, e2, hy, hay, hcy⟩ := Elems.later HS.out hbl hlt
          injection e2 with e2
          subst e2
          have hyY := HZ.out j y hy
          obtain ⟨Y, hY⟩ : ∃ Y, Y = t.getD j 0 := ⟨_, rfl⟩
          rw [← hY] at hyY
          subst hyY
          have HY := Lib.hid hY
          have hkt : k < t.length := by rw [← HL.out]; exact hka
          have hjt : j < t.length := by rw [← HL.out]; exact hlt
          have hotop := out_top (j := j + 1) H.out.good.2.1 H.out.good.1 hkt
          have hitop := in_top (j := j + 1) H.out.good.2.1 H.out.good.1 hkt
          have HOL := Lib.hid (fun h => out_low (t := t) (k := k) (j := j) h hkt)
          have HOH := Lib.hid (fun h => out_high (t := t) (k := k) (j := j) h)
          have HIL := Lib.hid (fun h => in_low (t := t) (k := k) (j := j) h)
          have HIH := Lib.hid (fun h => in_high (t := t) (k := k) (j := j) h hjt)
          rw [← hY] at HOL HIH
          obtain ⟨O, hO⟩ : ∃ O, O = OutTo t k j := ⟨_, rfl⟩
          obtain ⟨O2, hO2⟩ : ∃ O, O = OutTo t k (j + 1) := ⟨_, rfl⟩
          obtain ⟨I, hI⟩ : ∃ I, I = InTo t k j := ⟨_, rfl⟩
          obtain ⟨I2, hI2⟩ : ∃ I, I = InTo t k (j + 1) := ⟨_, rfl⟩
          rw [← hO2] at hotop HOL HOH
          rw [← hI2] at hitop HIL HIH
          rw [← hO] at HOL HOH l0 h1
          rw [← hI] at HIL HIH l2 h1
          have HO2 := Lib.hid hO2
          have HI2 := Lib.hid hI2
          clear hy hY hO hO2 hI hI2
          rcases Nat.lt_trichotomy j k with hjk | hjk | hjk
          · have e1 : decide ((j : Int) < (k : Int)) = true := by simpa using hjk
            have hm := HOL.out hjk
            have hm2 : IntKind.i64.wrap ((O : Int) * (Y : Int)) = (O2 : Int) := by rw [show (O : Int) * (Y : Int) = ((O2 : Nat) : Int) by rw [hm]; simp]; exact IntWalk.i64_in _ (by omega)
            have hm3 : wrap64 ((O : Int) * (Y : Int)) = (O2 : Int) := by rw [← IntWalk.i64_left]; exact hm2
            have HIE := Lib.hid (HIL.out (by omega))
            have hb := h1.store 0 (.int .i64 (O2 : Nat))
            simp only [List.setIfInBounds_toArray, List.set_cons_zero] at hb
            have HB := Lib.hid hb
            clear hm hb
            go_wp2_with fail
            go_roundw
            case rel => exact ⟨j + 1, by omega, by go_num, by rw [← HO2.out, ← HI2.out, HIE.out]; exact HB.out, h2.far (p := ⟨g, 0, none⟩) (by simp; omega) _, h3.far (p := ⟨g, 0, none⟩) (by simp; omega) _, hbl.setCell (p := ⟨g, 0, none⟩) (by simp; omega) _, by simpa using hgz⟩
            case measure => simp [intOf]; omega
          · have HOE := Lib.hid (HOH.out (by omega))
            have HIE := Lib.hid (HIL.out (by omega))
            have e1 : decide ((j : Int) < (k : Int)) = false := by simp; omega
            have e2 : decide ((k : Int) < (j : Int)) = false := by simp; omega
            have e3 : ¬ j < k := by omega
            have e4 : ¬ k < j := by omega
            clear hjk
            go_wp2_with fail
            go_roundw
            case rel => exact ⟨j + 1, by omega, by go_num, by rw [← HO2.out, ← HI2.out, HOE.out, HIE.out]; exact h1, h2, h3, hbl, hgz⟩
            case measure => simp [intOf]; omega
          · have e1 : decide ((j : Int) < (k : Int)) = false := by simp; omega
            have e2 : decide ((k : Int) < (j : Int)) = true := by simpa using hjk
            have e3 : ¬ j < k := by omega
            have hm := HIH.out hjk
            have hm2 : IntKind.i64.wrap ((I : Int) * (Y : Int)) = (I2 : Int) := by rw [show (I : Int) * (Y : Int) = ((I2 : Nat) : Int) by rw [hm]; simp]; exact IntWalk.i64_in _ (by omega)
            have hm3 : wrap64 ((I : Int) * (Y : Int)) = (I2 : Int) := by rw [← IntWalk.i64_left]; exact hm2
            have HOE := Lib.hid (HOH.out (by omega))
            have hb := h1.store 2 (.int .i64 (I2 : Nat))
            simp only [List.setIfInBounds_toArray, List.set_cons_zero, List.set_cons_succ] at hb
            have HB := Lib.hid hb
            clear hm hb
            go_wp2_with fail
            go_roundw
            case rel => exact ⟨j + 1, by omega, by go_num, by rw [← HO2.out, ← HI2.out, HOE.out]; exact HB.out, h2.far (p := ⟨g, 2, none⟩) (by simp; omega) _, h3.far (p := ⟨g, 2, none⟩) (by simp; omega) _, hbl.setCell (p := ⟨g, 2, none⟩) (by simp; omega) _, by simpa using hgz⟩
            case measure => simp [intOf]; omega
        · obtain rfl : j = a.sh.length := by omega
          obtain ⟨O, hO⟩ : ∃ O, O = OutTo t k a.sh.length := ⟨_, rfl⟩
          obtain ⟨I, hI⟩ : ∃ I, I = InTo t k a.sh.length := ⟨_, rfl⟩
          rw [← hO, ← hI] at HNE
          rw [← hO] at l0
          rw [← hI] at l2
          obtain ⟨q0, q1, q2⟩ := h3.three
          have qf := h3.frozen
          have lR3 := h3.lt
          have hbe := hbl.grown (grownBy_three wr (w.heap.size + 1) (.int .i64 O) (.int .i64 N) (.int .i64 I)) hbl.size (fun j e => by cases e; omega)
          have z := ((h3.store 0 (.int .i64 O)).store 1 (.int .i64 N)).store 2 (.int .i64 I)
          simp only [List.setIfInBounds_toArray, List.set_cons_zero, List.set_cons_succ] at z
          obtain ⟨z0, z1, z2⟩ := z.three
          have zl := z.lt
          clear hO hI h1
          go_wp2_with fail
          refine bodyPost_ret (v := .tuple #[.agg #[.int .i64 O, .int .i64 N, .int .i64 I], .nilIface]) (by simp [results, Tryz.results21, go_sem, z0, z1, z2, zl]) rfl ?_
          exact ⟨by rw [HNE.out]; rfl, hbe⟩

end Go.Proofs.YtihndbkaoejnnaaGreatDoor
