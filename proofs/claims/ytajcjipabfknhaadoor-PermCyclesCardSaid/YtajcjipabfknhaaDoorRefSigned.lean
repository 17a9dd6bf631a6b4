/- The walk of the reference's Signed. Conditions: none. -/
import Derived.Test.YtajcjipabfknhaaDoorSignedPlain
import Derived.Test.YtajcjipabfknhaaDoorRefTurned
set_option linter.unusedSimpArgs false
set_option linter.unusedVariables false
namespace Go.Proofs.YtajcjipabfknhaaDoor
open Go Go.RowKit Go.Proofs.YtajcjipabfknhaaDoor.P

theorem pmo_neg (n : Nat) : wrap64 (-pmo n) = pmo (n + 1) := by
  unfold pmo
  by_cases h : n % 2 = 0
  · rw [if_pos h, if_neg (by omega)]; unfold wrap64; omega
  · rw [if_neg h, if_pos (by omega)]; unfold wrap64; omega

set_option maxRecDepth 100000 in
set_option maxHeartbeats 4000000 in
theorem signed_ok (v : Value) (s : List Nat) (w : World) (h1 : IsInts w v (ints s)) (hs : Perm s) (hn : s.length ≤ 4096) :
    Calls Tryd.prog 20 #[v] w fun e w' => e = .returned (.int .i64 (sgn s)) ∧ Below w.heap.size w w' := by
  obtain ⟨A, ca, rfl, a1, a2, a3, EA, H0⟩ := h1.open_
  simp only [length_ints] at a1 a2 a3 EA H0 ⊢
  have HE := Lib.hid EA
  have HS := Lib.hid hs
  clear h1 hs EA H0
  go_enter Tryd.func20, Tryd.ntmps20
  go_wp2_with fail
  go_loopw [3, 4] (fun ss si wr => ∃ i : Nat, i ≤ s.length ∧ si = .int .i64 i ∧ ss = .int .i64 (pmo (wrongTo s i)) ∧ Below w.heap.size w wr) (fun _ si _ => s.length - (intOf si).toNat)
  case atStart => exact ⟨0, Nat.zero_le _, rfl, rfl, Below.refl _ _⟩
  case round =>
    obtain ⟨i, hi, rfl, rfl, hbl⟩ := hrel
    rcases Nat.lt_or_ge i s.length with hlt | hge
    · obtain ⟨ad, x, rfl, hx, hal, hcx⟩ := Elems.later HE.out hbl (k := i) (by rw [length_ints]; exact hlt)
      obtain ⟨rfl, -⟩ := ints_getD hx
      obtain ⟨X, hX⟩ : ∃ X, X = s.getD i 0 := ⟨_, rfl⟩
      rw [← hX] at hcx
      have hcx0 : w.cell? (ad.add i) = some (.int .i64 X) := ((hbl.cell (p := ad.add i) (by rw [addr_block_add]; exact hal)).symm.trans hcx)
      have HCX := Lib.hid hcx0
      clear hcx0
      have HX := Lib.hid hX
      clear hX hx
      have HB0 := Lib.hid hbl
      go_wp2_with fail
      clear hbl hcx
      go_loopw [3, 5] (fun ss sj wr => ∃ j : Nat, j ≤ i ∧ sj = .int .i64 j ∧ ss = .int .i64 (pmo (wrongTo s i + rowTo s i j)) ∧ Below w.heap.size w wr) (fun _ sj _ => i - (intOf sj).toNat)
      case atStart => exact ⟨0, Nat.zero_le _, rfl, by rw [rowTo_zero]; rfl, HB0.out⟩
      case round =>
        obtain ⟨j, hj, rfl, rfl, hbl⟩ := hrel
        rcases Nat.lt_or_ge j i with hjl | hjg
        · obtain ⟨ad', y, e, hy, hal', hcy⟩ := Elems.later HE.out hbl (k := j) (by rw [length_ints]; omega)
          cases e
          obtain ⟨rfl, -⟩ := ints_getD hy
          have hcx := (hbl.cell (p := ad.add i) (by rw [addr_block_add]; exact hal)).trans (HCX.out)
          obtain ⟨Y, hY⟩ : ∃ Y, Y = s.getD j 0 := ⟨_, rfl⟩
          rw [← hY] at hcy
          have HY := Lib.hid hY
          clear hY hy
          have hjs : j < s.length := by omega
          by_cases hxy : X < Y
          · have HR := Lib.hid (show rowTo s i (j + 1) = rowTo s i j + 1 by rw [rowTo_succ, ← HX.out, ← HY.out, if_pos hxy])
            have e1 : decide ((X : Int) < (Y : Int)) = true := decide_eq_true (by omega)
            go_wp2_with fail
            go_quiet (fail)
            go_wp2_with fail
            go_roundw
            case rel => exact ⟨j + 1, by omega, by go_num, by rw [HR.out, pmo_neg, Nat.add_assoc], hbl.trans (below_draws _ _ _)⟩
            case measure => simp [intOf]; omega
          · have HR := Lib.hid (show rowTo s i (j + 1) = rowTo s i j by rw [rowTo_succ, ← HX.out, ← HY.out, if_neg hxy]; rfl)
            have e1 : decide ((X : Int) < (Y : Int)) = false := decide_eq_false (by omega)
            go_wp2_with fail
            go_quiet (fail)
            go_wp2_with fail
            go_roundw
            case rel => exact ⟨j + 1, by omega, by go_num, by rw [HR.out], hbl.trans (below_draws _ _ _)⟩
            case measure => simp [intOf]; omega
        · obtain rfl : j = i := by omega
          go_wp2_with fail
          go_roundw
          case rel => exact ⟨j + 1, by omega, by go_num, by rw [wrongTo_succ], hbl⟩
          case measure => simp [intOf]; omega
    · obtain rfl : i = s.length := by omega
      rw [sgn_to HS.out]
      go_wp2_with fail
      go_ret
      exact ⟨rfl, hbl⟩

end Go.Proofs.YtajcjipabfknhaaDoor
