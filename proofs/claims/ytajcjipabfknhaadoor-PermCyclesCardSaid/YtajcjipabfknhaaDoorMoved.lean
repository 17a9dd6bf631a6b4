/- The walks of package turn, second part: moved, Reverse, Rotate. Conditions: none. -/
import Derived.Test.YtajcjipabfknhaaDoorTurn
import Derived.Deep.DeepCutAuto
import Derived.Test.YtajcjipabfknhaaDoorFunnel
import Derived.Test.YtajcjipabfknhaaDoorArrOf
set_option linter.unusedSimpArgs false
set_option linter.unusedVariables false
namespace Go.Proofs.YtajcjipabfknhaaDoor
open Go Go.RowKit Go.Proofs.YtajcjipabfknhaaDoor.P

/-- make([]int, 0, n), made known ahead of the walk. -/
theorem run_make_ints (n : Nat) (hn : n ≤ 35184372088832) (w : World) :
    (Instr.makeSlice 22 (.int .i64 0) (.int .i64 n)).run Tryd.prog w = .ok (.slice (some ⟨w.heap.size, 0, none⟩) 0 n) (w.alloc (.cells (madeCells #[.int .i64 0] n) 3)) := by
  obtain ⟨i0, hi, hz0, hz1, hz2⟩ := info_parts int_info
  have hr := run_make (P := Tryd.prog) w 22 3 i0 (.int .i64 0) Tryd.underlying22 hi hz0 .i64 .i64 0 n (by omega) (by omega) (by rw [hz2]; omega) (by omega)
  rw [hz1] at hr
  simp only [Int.toNat_natCast, Int.toNat_zero, Nat.mul_one] at hr
  exact hr

theorem quiet_call {P : Program} {f : FuncId} {args : Array Value} {w : World} {v : Value} (h : Calls P f args w fun e w' => e = .returned v ∧ w = w') : Calls P f args w fun e w' => e = .returned v ∧ w' = w := h.mono fun _ _ ⟨he, hw⟩ => ⟨he, hw.symm⟩

theorem piece_bound {o l n x i N : Nat} (hN : N = o * l * n) (hx : x < o) (hi : i < l) : (x * l + i) * n + n ≤ N := by
  have h1 : (x + 1) * l ≤ o * l := Nat.mul_le_mul_right _ hx
  have h2 : x * l + i + 1 ≤ o * l := by rw [Nat.add_mul] at h1; omega
  have h3 := Nat.mul_le_mul_right n h2
  rw [hN]
  rw [Nat.add_mul (x * l + i) 1 n] at h3
  omega

end Go.Proofs.YtajcjipabfknhaaDoor
