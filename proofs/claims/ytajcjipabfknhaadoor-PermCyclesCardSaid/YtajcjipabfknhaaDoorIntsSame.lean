/- Two lists that are the same: the comparison only reads. Conditions: none. -/
import Derived.Test.YtajcjipabfknhaaDoorBase
set_option linter.unusedSimpArgs false
set_option linter.unusedVariables false
namespace Go.Proofs.YtajcjipabfknhaaDoor
open Go Go.RowKit Go.Proofs.YtajcjipabfknhaaDoor.P

set_option maxHeartbeats 1000000 in
theorem ints_same (va vb : Value) (xs : List Int) (w : World) (ha : IsInts w va xs) (hb : IsInts w vb xs) :
    Calls Tryd.prog 22 #[va, vb] w fun e w' => e = .returned (.bool true) ∧ ∃ m, w' = w.drewN m := by
  obtain ⟨A, ca, rfl, a1, a2, a3, -, a4⟩ := ha
  obtain ⟨B, cb, rfl, b1, b2, b3, -, b4⟩ := hb
  have hA := Lib.hid a4
  have hB := Lib.hid b4
  clear a4 b4
  go_enter Tryd.func22, Tryd.ntmps22
  go_wp2
  go_loopw [5] (fun i wr => ∃ k : Nat, k ≤ xs.length ∧ i = .int .i64 k ∧ ∃ m, wr = w.drewN m) (fun i _ => xs.length - (intOf i).toNat)
  case atStart => exact ⟨0, Nat.zero_le _, rfl, 0, rfl⟩
  case round =>
    obtain ⟨k, hk, rfl, m, hm⟩ := hrel
    have hbl : Below w.heap.size w wr := by rw [hm]; exact below_draws _ _ _
    have HM := Lib.hid hm
    clear hm
    rcases Nat.lt_or_ge k xs.length with hlt | hge
    · obtain ⟨ad, x, rfl, hx, -, hcx⟩ := (Elems.mono hA.out hbl).at_ hlt
      obtain ⟨bd, y, rfl, hy, -, hcy⟩ := (Elems.mono hB.out hbl).at_ hlt
      have exy : x = y := by
        have hy2 := hy
        rw [hx] at hy2
        injection hy2
      try clear hx hy
      subst exy
      go_wp2
      go_quiet (fail)
      all_goals go_wp2
      go_roundw
      case rel => exact ⟨k + 1, by omega, by go_num, _, (congrArg (fun W => World.drewN W _) HM.out).trans (World.drewN_drewN _ _ _)⟩
      case measure => simp [intOf]; omega
    · go_wp2
      go_ret
      exact ⟨rfl, m, HM.out⟩

end Go.Proofs.YtajcjipabfknhaaDoor
