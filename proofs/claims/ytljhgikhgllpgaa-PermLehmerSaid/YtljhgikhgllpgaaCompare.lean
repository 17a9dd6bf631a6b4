/- The walk of the statements' Compare. Conditions: none. -/
import Derived.Test.YtljhgikhgllpgaaOwn
import Derived.Test.YtljhgikhgllpgaaList
import Derived.Test.YtljhgikhgllpgaaProper
namespace Go.Proofs.Ytljhgikhgllpgaa
open Go Go.RowKit Go.Proofs.Ytljhgikhgllpgaa.P

set_option maxHeartbeats 800000 in
theorem compare_ok (v1 v2 : Value) (xs ys : List Int) (w : World) (hx : IsInts w v1 xs) (hy : IsInts w v2 ys) (hl : ys.length = xs.length) :
    Calls Try.prog 30 #[v1, v2] w fun e w' => e = .returned (.int .i64 (cmp xs ys)) ∧ Below w.heap.size w w' := by
  obtain ⟨A, c, rfl, c1, c2, c3, EX, -⟩ := hx.open_
  obtain ⟨B, d, rfl, d1, d2, d3, EY, -⟩ := hy.open_
  clear hx hy
  rw [hl] at d1 d3 ⊢
  have HL := Lib.hid hl
  clear hl
  go_enter Try.func30, Try.ntmps30
  go_wp2_with fail
  go_loopw [5] (fun i wr => ∃ k : Nat, k ≤ xs.length ∧ i = .int .i64 k ∧ cmp xs ys = cmp (xs.drop k) (ys.drop k) ∧ Below w.heap.size w wr) (fun i _ => xs.length - (intOf i).toNat)
  case atStart => exact ⟨0, Nat.zero_le _, rfl, by simp, by go_grown⟩
  case round =>
    obtain ⟨k, hk, rfl, he, hbl⟩ := hrel
    rcases Nat.lt_or_ge k xs.length with hlt | hge
    · obtain ⟨ad, x, rfl, hxk, hal, hcx⟩ := Elems.later EX hbl hlt
      obtain ⟨ae, y, rfl, hyk, hae, hcy⟩ := Elems.later EY hbl (k := k) (by rw [HL.out]; exact hlt)
      rw [cmp_drop hxk hyk] at he
      clear hxk hyk
      rcases Int.lt_or_le x y with h1 | h1
      · rw [if_pos h1] at he
        have He := Lib.hid he
        clear he
        go_wp2_with fail
        go_quiet (fail)
        all_goals go_wp2_with fail
        go_ret
        exact ⟨by simp [He.out], hbl.trans (below_draws _ _ _)⟩
      · rw [if_neg (by omega)] at he
        rcases Int.lt_or_le y x with h2 | h2
        · rw [if_pos h2] at he
          have He := Lib.hid he
          clear he
          go_wp2_with fail
          go_quiet (fail)
          all_goals go_wp2_with fail
          go_quiet (fail)
          all_goals go_wp2_with fail
          go_ret
          exact ⟨by simp [He.out], hbl.trans (by first | exact below_draws _ _ _ | exact (below_draws _ _ _).trans (below_draws _ _ _))⟩
        · rw [if_neg (by omega)] at he
          have He := Lib.hid he
          clear he
          go_wp2_with fail
          go_quiet (fail)
          all_goals go_wp2_with fail
          go_quiet (fail)
          all_goals go_wp2_with fail
          go_roundw
          case rel => exact ⟨k + 1, by omega, by go_num, He.out, hbl.trans (by first | exact below_draws _ _ _ | exact (below_draws _ _ _).trans (below_draws _ _ _))⟩
          case measure => simp [intOf]; omega
    · have hkk : k = xs.length := by omega
      subst hkk
      rw [List.drop_length, cmp_nil_left] at he
      have He := Lib.hid he
      clear he
      go_wp2_with fail
      go_ret
      exact ⟨by simp [He.out], by go_grown⟩

end Go.Proofs.Ytljhgikhgllpgaa
