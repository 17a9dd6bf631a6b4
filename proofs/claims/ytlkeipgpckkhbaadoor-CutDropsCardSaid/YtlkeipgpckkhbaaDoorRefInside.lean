/- The walk of the reference's Inside: is there a cell with these indices? Conditions: none. -/
import Derived.Test.YtlkeipgpckkhbaaDoorRefAt
import Derived.Test.YtlkeipgpckkhbaaDoorWinPlain
import Derived.BigQuiet
import Derived.Deep.QuietTactic
namespace Go.Proofs.YtlkeipgpckkhbaaDoor
open Go Go.RowKit Go.Proofs.YtlkeipgpckkhbaaDoor.P

set_option maxHeartbeats 1000000 in
theorem inside_any (vs va : Value) (t : List Nat) (js : List Int) (w : World) (hs : IsInts w vs (ints t)) (ha : IsInts w va js) (hl : js.length = t.length) :
    Calls Tryd.prog 41 #[vs, va] w fun e w' => e = .returned (.bool (decide (WinIn t js t.length))) ∧ Below w.heap.size w w' := by
  obtain ⟨A, ca, rfl, a1, a2, a3, _, a4⟩ := hs
  obtain ⟨B, cb, rfl, b1, b2, b3, _, b4⟩ := ha
  have hA := Lib.hid (show Elems w A (ints t) from a4)
  have hB := Lib.hid (show Elems w B js from b4)
  have HL := Lib.hid hl
  simp only [length_ints] at a1 a2 a3 ⊢
  clear a4 b4 hl
  go_enter Tryd.func41, Tryd.ntmps41
  go_wp2_with fail
  go_loopw [5] (fun sk wr => ∃ k : Nat, k ≤ t.length ∧ sk = .int .i64 k ∧ WinIn t js k ∧ Below w.heap.size w wr) (fun sk _ => t.length - (intOf sk).toNat)
  case atStart => exact ⟨0, Nat.zero_le _, rfl, WinIn.zero _ _, Below.refl _ _⟩
  case round =>
    obtain ⟨k, hk, rfl, hw, hbl⟩ := hrel
    have HW := Lib.hid hw
    clear hw
    rcases Nat.lt_or_ge k t.length with hlt | hge
    · obtain ⟨ax, x, rfl, hx, hax, hcx⟩ := Elems.later hB.out hbl (k := k) (by rw [HL.out]; exact hlt)
      obtain ⟨ay, y, rfl, hy, hay, hcy⟩ := Elems.later hA.out hbl (k := k) (by rw [length_ints]; exact hlt)
      obtain ⟨rfl, -⟩ := ints_getD hy
      have hlb : k < js.length := by rw [HL.out]; exact hlt
      have HXE := Lib.hid (show js.getD k 0 = x by rw [List.getD_eq_getElem?_getD, hx]; rfl)
      clear hx hy
      obtain ⟨M, hM⟩ : ∃ M, M = t.getD k 0 := ⟨_, rfl⟩
      rw [← hM] at hcy
      have HM := Lib.hid hM
      clear hM
      rcases Int.lt_or_le x 0 with h0 | h0
      · have HE := Lib.hid (show decide (WinIn t js t.length) = false by
          rw [decide_eq_false_iff_not]; intro h; have := (h k hlt).1; rw [HXE.out] at this; omega)
        have c1 : decide (x < 0) = true := by simpa using h0
        go_wp2_with fail
        first | go_quiet (fail) | go_region
        go_wp2_with fail
        go_ret
        first | exact ⟨by rw [HE.out]; rfl, hbl⟩ | exact ⟨by rw [HE.out]; rfl, hbl.trans (below_draws _ _ _)⟩
      · have c1 : decide (x < 0) = false := by simpa using h0
        rcases Int.lt_or_le x M with h1 | h1
        · have c2 : decide ((M : Int) ≤ x) = false := by simpa using h1
          go_wp2_with fail
          first | go_quiet (fail) | go_region
          go_wp2_with fail
          go_roundw
          case rel => exact ⟨k + 1, by omega, by go_num, (winIn_succ t js k).2 ⟨HW.out, by rw [HXE.out]; exact h0, by rw [HXE.out, ← HM.out]; exact h1⟩, by first | exact hbl | exact hbl.trans (below_draws _ _ _)⟩
          case measure => simp [intOf]; omega
        · have HE := Lib.hid (show decide (WinIn t js t.length) = false by
            rw [decide_eq_false_iff_not]; intro h; have := (h k hlt).2; rw [HXE.out, ← HM.out] at this; omega)
          have c2 : decide ((M : Int) ≤ x) = true := by simpa using h1
          go_wp2_with fail
          first | go_quiet (fail) | go_region
          go_wp2_with fail
          go_ret
          first | exact ⟨by rw [HE.out]; rfl, hbl⟩ | exact ⟨by rw [HE.out]; rfl, hbl.trans (below_draws _ _ _)⟩
    · obtain rfl : k = t.length := by omega
      have HE := Lib.hid (show decide (WinIn t js t.length) = true by rw [decide_eq_true_iff]; exact HW.out)
      go_wp2_with fail
      go_ret
      exact ⟨by rw [HE.out]; rfl, hbl⟩

end Go.Proofs.YtlkeipgpckkhbaaDoor
