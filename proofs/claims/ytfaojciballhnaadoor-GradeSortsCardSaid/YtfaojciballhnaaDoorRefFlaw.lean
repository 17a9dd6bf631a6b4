/- The walks of the references' Flaw, Flaws, Axis, Fill; what a reference tells. Conditions: none but these. -/
import Derived.Test.YtfaojciballhnaaDoorRefLow
import Derived.Test.YtfaojciballhnaaDoorPair
import Derived.Test.YtfaojciballhnaaDoorRev
set_option linter.unusedSimpArgs false
set_option linter.unusedVariables false
namespace Go.Proofs.YtfaojciballhnaaDoor.P
/-- What stands beside an error: nothing. -/
def ans (a : Arr) (k : Int) : Arr := if k = 0 then a else Arr.nil
theorem rune_parts {c : Int} : badRune c = false ↔ (0 ≤ c ∧ c < 55296) ∨ (57343 < c ∧ c ≤ 1114111) := by
  unfold badRune
  simp only [Bool.or_eq_false_iff, Bool.and_eq_false_iff, decide_eq_false_iff_not]
  omega
end Go.Proofs.YtfaojciballhnaaDoor.P
namespace Go.Proofs.YtfaojciballhnaaDoor
open Go Go.RowKit Go.Proofs.YtfaojciballhnaaDoor.P

theorem IsInts.eq' {w : World} {v : Value} {xs ys : List Int} (h : IsInts w v xs) (e : xs = ys) : IsInts w v ys := e ▸ h

/-- A reference tells an array and a number. -/
def RTold (a : Arr) (k : Int) (w : World) (e : Ending) (w' : World) : Prop := ∃ r, e = .returned (.tuple #[r, .int .i64 k]) ∧ IsArr w' r (ans a k) ∧ Below w.heap.size w w'
/-- The program tells an array and an error. -/
def PTold (a : Arr) (k : Int) (w : World) (e : Ending) (w' : World) : Prop := ∃ r, e = .returned (.tuple #[r, errV k]) ∧ IsArr w' r (ans a k) ∧ Below w.heap.size w w'
theorem Told.p {a : Arr} {k : Int} {w w' : World} {e : Ending} (h : Told a k w e w') : PTold a k w e w' := by
  rcases h with ⟨rfl, r, he, hr, hb⟩ | ⟨hk, he, hb⟩
  · exact ⟨r, he, by unfold ans; rw [if_pos rfl]; exact hr, hb⟩
  · exact ⟨_, by rw [he, errV_ne hk], by unfold ans; rw [if_neg hk]; exact isArr_zero w', hb⟩
theorem RTold.bad {a : Arr} {k : Int} {w w' : World} (hk : k ≠ 0) (hb : Below w.heap.size w w') : RTold a k w (.returned (.tuple #[zeroArr, .int .i64 k])) w' :=
  ⟨_, rfl, by unfold ans; rw [if_neg hk]; exact isArr_zero w', hb⟩
theorem RTold.ok {a : Arr} {k : Int} {w w' : World} {r : Value} (hk : k = 0) (hr : IsArr w' r a) (hb : Below w.heap.size w w') : RTold a k w (.returned (.tuple #[r, .int .i64 0])) w' := by
  subst hk
  exact ⟨_, rfl, by unfold ans; rw [if_pos rfl]; exact hr, hb⟩

set_option maxHeartbeats 1000000 in
theorem flaw_any {v : Value} {a : Arr} {w : World} (ha : IsArr w v a) :
    Calls Tryd.prog 13 #[v] w fun e w' => e = .returned (.int .i64 (arrErr a)) ∧ Below w.heap.size w w' := by
  obtain ⟨A, ca, D, cd, rfl, hs, hd⟩ := ha.open_
  obtain ⟨D0, cd0, eD, d1, d2, d3, d4, d5⟩ := id hd
  cases eD
  have HS := Lib.hid hs
  have HD := Lib.hid (show Elems w D a.da from d5)
  clear hs hd ha d4 d5
  go_enter Tryd.func13, Tryd.ntmps13
  have z1 := Box.new w 24 #[.bool a.ch, .slice A a.sh.length ca, .slice D a.da.length cd]
  obtain ⟨t0, t1, t2⟩ := z1.three
  go_wp2_with fail
  refine (fault_any _ a.sh _ (HS.out.mono (below_one _ _))).mono ?_
  rintro e w1 ⟨rfl, rfl⟩
  by_cases c1 : cntErr a.sh = 0
  case neg =>
    have HE := Lib.hid (show arrErr a = cntErr a.sh by unfold arrErr; rw [if_pos c1])
    have e1 : (cntErr a.sh != 0) = true := by simp [c1]
    clear c1
    go_wp2_with fail
    go_ret
    exact ⟨ret_int HE.out.symm, below_one _ _⟩
  obtain ⟨t, ht, hg⟩ := cntErr_zero c1
  have HT := Lib.hid ht
  have HG := Lib.hid hg
  have HC := Lib.hid c1
  rw [c1]
  clear c1 ht hg
  have HCL := Lib.hid (show ∀ W : World, Below w.heap.size w W → Calls Tryd.prog 24 #[.slice A a.sh.length ca] W fun e w' => e = .returned (.int .i64 (prod t)) ∧ W = w' from
    fun W hW => cells_ok _ t _ ((HS.out.mono hW).eq' HT.out) HG.out)
  have HV := Lib.hid (show cntVal a.sh = (prod t : Int) by rw [HT.out, cntVal_ints HG.out])
  by_cases c2 : a.da.length = prod t
  case neg =>
    have HE := Lib.hid (show arrErr a = 4 by unfold arrErr; rw [if_neg (by rw [HC.out]; simp), if_pos (by rw [HV.out]; omega)])
    have e1 : ((a.da.length : Int) != (prod t : Int)) = true := by simp; omega
    clear c2
    go_wp2_with fail
    go_quiet ((exact Calls.quiet_of_same (quiet_call (HCL.out _ ((below_one _ _).trans (below_draws _ _ _))))))
    all_goals go_wp2_with fail
    go_ret
    exact ⟨ret_int HE.out.symm, (below_one _ _).trans (below_draws _ _ _)⟩
  have e2 : ((a.da.length : Int) != (prod t : Int)) = false := by simp; omega
  have HE0 := Lib.hid (show arrErr a = if a.ch && a.da.any badRune then 6 else 0 by unfold arrErr; rw [if_neg (by rw [HC.out]; simp), if_neg (by rw [HV.out]; omega)])
  have h4 : prod t ≤ 4096 := HG.out.2.2
  have hd4 : a.da.length ≤ 4096 := by omega
  clear c2
  rcases hch : a.ch with _ | _
  · rw [hch] at z1 t0 HE0
    have HE := Lib.hid (show arrErr a = 0 by rw [HE0.out]; rfl)
    have HCH := Lib.hid hch
    clear hch
    go_wp2_with fail
    go_quiet ((exact Calls.quiet_of_same (quiet_call (HCL.out _ ((below_one _ _).trans (below_draws _ _ _))))))
    all_goals go_wp2_with fail
    go_ret
    exact ⟨ret_int HE.out.symm, (below_one _ _).trans (below_draws _ _ _)⟩
  · rw [hch] at z1 t0 HE0
    have HCH := Lib.hid hch
    have HZ := Lib.hid z1
    clear hch t0 t1 t2 z1
    obtain ⟨t0, t1, t2⟩ := HZ.out.three
    go_wp2_with fail
    go_quiet ((exact Calls.quiet_of_same (quiet_call (HCL.out _ ((below_one _ _).trans (below_draws _ _ _))))))
    all_goals go_wp2_with fail
    go_loopw [4] (fun s wr => ∃ k : Nat, k ≤ a.da.length ∧ s = .int .i64 k ∧ RuneTo k a.da ∧ Box wr w.heap.size 24 #[.bool true, .slice A a.sh.length ca, .slice D a.da.length cd] ∧ Below w.heap.size w wr) (fun s _ => a.da.length - (intOf s).toNat)
    case atStart => exact ⟨0, Nat.zero_le _, rfl, RuneTo.zero _, HZ.out.drewN _, (below_one _ _).trans (below_draws _ _ _)⟩
    case round =>
      clear t0 t1 t2
      obtain ⟨k, hk, rfl, hr, hb, hbl⟩ := hrel
      obtain ⟨t0, t1, t2⟩ := hb.three
      have HB := Lib.hid hb
      clear hb
      rcases Nat.lt_or_ge k a.da.length with hlt | hge
      · obtain ⟨ad, x, rfl, hx, hal, hcx⟩ := Elems.later HD.out hbl hlt
        have HR := Lib.hid hr
        have HX := Lib.hid hx
        clear hr hx
        rcases Int.lt_or_le x 0 with q0 | q0
        · have b0 : decide (0 ≤ x) = false := by simp; omega
          have b1 : decide (57343 < x) = false := by simp; omega
          have HBD := Lib.hid (show a.da.any badRune = true from HR.out.hit HX.out (by rw [← Bool.not_eq_false]; intro h; have := rune_parts.1 h; omega))
          have HE := Lib.hid (show arrErr a = 6 by rw [HE0.out, HBD.out]; rfl)
          go_wp2_with fail
          go_ret
          exact ⟨ret_int HE.out.symm, hbl⟩
        · have b0 : decide (0 ≤ x) = true := by simpa using q0
          rcases Int.lt_or_le x 55296 with q1 | q1
          · have b1 : decide (x < 55296) = true := by simpa using q1
            have b2 : decide (57343 < x) = false := by simp; omega
            have HRS := Lib.hid (HR.out.succ HX.out (rune_parts.2 (by omega)))
            go_wp2_with fail
            go_roundw
            case rel => exact ⟨k + 1, by omega, by go_num, HRS.out, HB.out, hbl⟩
            case measure => simp [intOf]; omega
          · have b1 : decide (x < 55296) = false := by simp; omega
            rcases Int.lt_or_le 57343 x with q2 | q2
            · have b2 : decide (57343 < x) = true := by simpa using q2
              rcases Int.lt_or_le 1114111 x with q3 | q3
              · have b3 : decide (x ≤ 1114111) = false := by simp; omega
                have HBD := Lib.hid (show a.da.any badRune = true from HR.out.hit HX.out (by rw [← Bool.not_eq_false]; intro h; have := rune_parts.1 h; omega))
                have HE := Lib.hid (show arrErr a = 6 by rw [HE0.out, HBD.out]; rfl)
                go_wp2_with fail
                go_ret
                exact ⟨ret_int HE.out.symm, hbl⟩
              · have b3 : decide (x ≤ 1114111) = true := by simpa using q3
                have HRS := Lib.hid (HR.out.succ HX.out (rune_parts.2 (by omega)))
                go_wp2_with fail
                go_roundw
                case rel => exact ⟨k + 1, by omega, by go_num, HRS.out, HB.out, hbl⟩
                case measure => simp [intOf]; omega
            · have b2 : decide (57343 < x) = false := by simp; omega
              have HBD := Lib.hid (show a.da.any badRune = true from HR.out.hit HX.out (by rw [← Bool.not_eq_false]; intro h; have := rune_parts.1 h; omega))
              have HE := Lib.hid (show arrErr a = 6 by rw [HE0.out, HBD.out]; rfl)
              go_wp2_with fail
              go_ret
              exact ⟨ret_int HE.out.symm, hbl⟩
      · have HE := Lib.hid (show arrErr a = 0 by rw [HE0.out, hr.all hge]; rfl)
        clear hr
        go_wp2_with fail
        go_ret
        exact ⟨ret_int HE.out.symm, hbl⟩

end Go.Proofs.YtfaojciballhnaaDoor
