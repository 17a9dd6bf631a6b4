/- The walks of the small functions that all others call: lists compared, arrays compared. Conditions: none. -/
import Derived.Test.YtajcjipabfknhaaDoorProg
import Derived.Test.YtajcjipabfknhaaDoorMem
import Derived.Deep.QuietTactic
import Derived.BigQuiet
set_option linter.unusedSimpArgs false
set_option linter.unusedVariables false
namespace Go.Proofs.YtajcjipabfknhaaDoor
open Go Go.RowKit Go.Proofs.YtajcjipabfknhaaDoor.P

set_option maxHeartbeats 400000 in
theorem ints_any (va vb : Value) (xs ys : List Int) (w : World) (ha : IsInts w va xs) (hb : IsInts w vb ys) :
    Calls Tryd.prog 22 #[va, vb] w (TellsB (xs = ys) w) := by
  obtain ⟨A, ca, rfl, a1, a2, a3, _, a4⟩ := ha
  obtain ⟨B, cb, rfl, b1, b2, b3, _, b4⟩ := hb
  have hA := Lib.hid a4
  have hB := Lib.hid b4
  clear a4 b4
  by_cases hl : xs.length = ys.length
  · go_enter Tryd.func22, Tryd.ntmps22
    have hlb : ((xs.length : Int) != (ys.length : Int)) = false := by simp [hl]
    have hll := Lib.hid hl
    clear hl
    go_wp2
    go_loopw [5] (fun i wr => ∃ k : Nat, k ≤ xs.length ∧ i = .int .i64 k ∧ SameTo k xs ys ∧ Below w.heap.size w wr) (fun i _ => xs.length - (intOf i).toNat)
    case atStart => exact ⟨0, Nat.zero_le _, rfl, SameTo.zero _ _, Below.refl _ _⟩
    case round =>
      obtain ⟨k, hk, rfl, hs, hbl⟩ := hrel
      rcases Nat.lt_or_ge k xs.length with hlt | hge
      · have hlt2 : k < ys.length := by have := hll.out; omega
        obtain ⟨ad, x, rfl, hx, _, hcx⟩ := (Elems.mono hA.out hbl).at_ hlt
        obtain ⟨bd, y, rfl, hy, _, hcy⟩ := (Elems.mono hB.out hbl).at_ hlt2
        have hx' := Lib.hid hx
        have hy' := Lib.hid hy
        clear hx hy
        by_cases hxy : x = y
        · subst hxy
          go_wp2
          go_quiet (fail)
          all_goals go_wp2
          go_roundw
          case rel => exact ⟨k + 1, by omega, by go_num, hs.succ hx'.out hy'.out, hbl.trans (below_draws _ _ _)⟩
          case measure => simp [intOf]; omega
        · have hne : ((x : Int) != y) = true := by simp [hxy]
          have hfin := Lib.hid (show xs ≠ ys from fun e => by have h1 := hx'.out; rw [e, hy'.out] at h1; exact hxy (by injection h1 with h1; exact h1.symm))
          clear hxy
          go_wp2
          go_quiet (fail)
          all_goals go_wp2
          go_ret
          exact tells_no rfl hfin.out (hbl.trans (below_draws _ _ _))
      · go_wp2
        go_ret
        exact tells_yes rfl (hs.all (by omega) (by have := hll.out; omega)) hbl
  · go_enter Tryd.func22, Tryd.ntmps22
    go_wp2
    go_ret
    have : ¬ xs = ys := fun e => hl (by rw [e])
    exact tells_no rfl this (Below.refl _ _)

theorem arr_eq_iff {a b : Arr} : a = b ↔ a.ch = b.ch ∧ a.sh = b.sh ∧ a.da = b.da := by
  obtain ⟨c, s, d⟩ := a
  obtain ⟨c', s', d'⟩ := b
  simp

end Go.Proofs.YtajcjipabfknhaaDoor
