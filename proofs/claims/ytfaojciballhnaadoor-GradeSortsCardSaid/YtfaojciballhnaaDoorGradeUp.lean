/- The walks of grade.Up and grade.Down. Conditions: none but these. -/
import Derived.Test.YtfaojciballhnaaDoorGradeCut
set_option linter.unusedSimpArgs false
set_option linter.unusedVariables false
namespace Go.Proofs.YtfaojciballhnaaDoor.P
open Go Go.RowKit
open Go.Sort (SWO)
/-- How many rows, and how long each. -/
def Arr.rows (a : Arr) : Nat := a.nsh.headD 0
def Arr.long (a : Arr) : Nat := prod a.nsh.tail
def gradeErr (a : Arr) : Int := if arrErr a ≠ 0 then arrErr a else if a.sh.length = 0 then 3 else 0
def cOf (down : Bool) : List Int → List Int → Int := if down then fun x y => cmpL y x else cmpL
/-- The order of an array's rows. -/
def gradeOf (down : Bool) (r : Nat → List Int) (n : Nat) : List Nat := ordOf (fun x y : Nat => decide (cOf down (r x) (r y) < 0)) n
theorem cOf_swo (down : Bool) (r : Nat → List Int) : SWO (fun x y : Nat => decide (cOf down (r x) (r y) < 0)) := by
  cases down
  · exact ltBy_swo r
  · exact gtBy_swo r
end Go.Proofs.YtfaojciballhnaaDoor.P
namespace Go.Proofs.YtfaojciballhnaaDoor
open Go Go.RowKit Go.Proofs.YtfaojciballhnaaDoor.P
open Go.Sort (SWO)
set_option maxHeartbeats 1000000 in
theorem cut_none {v : Value} {a : Arr} {w : World} {t : List Nat} (ha : IsArr w v a) (ht : Ok a (0 :: t)) :
    Calls Tryd.prog 15 #[v] w fun e w' => ∃ g, e = .returned (.tuple #[.slice (some ⟨g, 0, none⟩) 0 0, .nilIface]) ∧ Below w.heap.size w w' := by
  obtain ⟨A, ca, D, cd, rfl, hs, hd⟩ := ha.open_
  obtain ⟨as_, x, hax, hx, hasl, hcx⟩ := Elems.at_ (xs := a.sh) (k := 0) (by obtain ⟨_, _, e, _, _, _, _, h9⟩ := hs; injection e with e1 _ _; subst e1; exact h9) (by rw [ht.sh]; simp [ints])
  subst hax
  obtain rfl : x = 0 := by rw [ht.sh] at hx; simpa [ints] using hx.symm
  rw [addr_add_zero] at hcx
  have HA := Lib.hid (check_ok (ha.mono (below_one w (.cells #[.bool a.ch, .slice (some as_) a.sh.length ca, .slice D a.da.length cd] 24))) ht)
  have hsl : a.sh.length = t.length + 1 := by rw [ht.sh]; simp [ints]
  have hmk : ∀ w, (Instr.makeSlice 43 (.int .i64 0) (.int .i64 0)).run Tryd.prog w = _ := run_make_rows 0 (by omega)
  have hsl1 : 1 ≤ a.sh.length := by rw [hsl]; omega
  have hsz2 : ((a.sh.length : Int) == 0) = false := by rw [beq_eq_false_iff_ne]; omega
  clear ha hs hd ht hx hsl
  go_enter Tryd.func15, Tryd.ntmps15
  have b0 := Box.new w 24 #[.bool a.ch, .slice (some as_) a.sh.length ca, .slice D a.da.length cd]
  have hb0 := below_one w (.cells #[.bool a.ch, .slice (some as_) a.sh.length ca, .slice D a.da.length cd] 24)
  obtain ⟨t0, t1, t2⟩ := b0.three
  go_wp2_with fail
  refine HA.out.mono ?_
  rintro e w1 ⟨rfl, hb1⟩
  have hbw := hb0.trans (hb1.mono hb0.size)
  have b1 := b0.below hb1
  have hc1 : w1.cell? as_ = some (.int .i64 0) := (hbw.cell hasl).trans hcx
  clear hb1 hb0 t0 t1 t2 b0 hcx
  obtain ⟨t0, t1, t2⟩ := b1.three
  have hbw2 := hbw.alloc hbw.size (.cells (madeCells #[.slice none 0 0] 0) 22)
  go_wp2_with fail
  refine bodyPost_ret (v := .tuple #[.slice (some ⟨w1.heap.size, 0, none⟩) 0 0, .nilIface]) (by simp [results, Tryd.results15, go_sem]) rfl ?_
  exact ⟨_, rfl, hbw2⟩
theorem insert_none {v cv : Value} (w : World) : Calls Tryd.prog 34 #[v, .int .i64 0, .int .i64 0, cv] w fun e w' => e = .returned (.tuple #[]) ∧ w' = w := by
  go_enter Tryd.func34, Tryd.ntmps34
  go_wp2_with fail
  go_loopw [8] (fun s8 wr => s8 = .int .i64 1 ∧ wr = w) (fun _ _ => 0)
  case atStart => exact ⟨rfl, rfl⟩
  case round =>
    obtain ⟨rfl, rfl⟩ := hrel
    go_wp2_with fail
    go_end0
    exact ⟨rfl, rfl⟩
theorem stable_none {v cv : Value} (w : World) : Calls Tryd.prog 31 #[v, .int .i64 0, cv] w fun e w' => e = .returned (.tuple #[]) ∧ w' = w := by
  go_enter Tryd.func31, Tryd.ntmps31
  go_wp2_with fail
  go_loopw [7, 8] (fun s7 s8 wr => s7 = .int .i64 0 ∧ s8 = .int .i64 20 ∧ wr = w) (fun _ _ _ => 0)
  case atStart => exact ⟨rfl, rfl, rfl⟩
  case round =>
    obtain ⟨rfl, rfl, rfl⟩ := hrel
    go_wp2_with fail
    refine (insert_none _).mono ?_
    rintro e w1 ⟨rfl, rfl⟩
    go_wp2_with fail
    go_loopw [6] (fun s6 wr => s6 = .int .i64 20 ∧ wr = w1) (fun _ _ => 0)
    case atStart => exact ⟨rfl, rfl⟩
    case round =>
      obtain ⟨rfl, rfl⟩ := hrel
      go_wp2_with fail
      go_end0
      exact ⟨rfl, rfl⟩
end Go.Proofs.YtfaojciballhnaaDoor
