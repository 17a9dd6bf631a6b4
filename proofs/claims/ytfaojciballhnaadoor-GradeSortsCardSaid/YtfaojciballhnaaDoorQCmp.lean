/- The reference's comparison of two rows, and its rows. Conditions: rows of one length. -/
import Derived.Test.YtfaojciballhnaaDoorGradeUp
set_option linter.unusedSimpArgs false
set_option linter.unusedVariables false
namespace Go.Proofs.YtfaojciballhnaaDoor
open Go Go.RowKit Go.Proofs.YtfaojciballhnaaDoor.P
theorem drew2 {w wr : World} (h : ∃ q, wr = w.drewN q) (n m : Nat) : ∃ q, (wr.drewN n).drewN m = w.drewN q := by
  obtain ⟨q, rfl⟩ := h
  exact ⟨_, by rw [World.drewN_drewN, World.drewN_drewN]⟩
theorem drew1 {w wr : World} (h : ∃ q, wr = w.drewN q) (n : Nat) : ∃ q, wr.drewN n = w.drewN q := by
  obtain ⟨q, rfl⟩ := h
  exact ⟨_, by rw [World.drewN_drewN]⟩
set_option maxHeartbeats 800000 in
theorem qcmp_any {v1 v2 : Value} {xs ys : List Int} {w : World} (hx : IsInts w v1 xs) (hy : IsInts w v2 ys) (hl : ys.length = xs.length) :
    Calls Tryd.prog 14 #[v1, v2] w fun e w' => e = .returned (.int .i64 (cmpL xs ys)) ∧ ∃ q, w' = w.drewN q := by
  obtain ⟨A, c, rfl, c1, c2, c3, EX, -⟩ := hx.open_
  obtain ⟨B, d, rfl, d1, d2, d3, EY, -⟩ := hy.open_
  clear hx hy
  rw [hl] at d1 d3 ⊢
  have HL := Lib.hid hl
  clear hl
  go_enter Tryd.func14, Tryd.ntmps14
  go_wp2_with fail
  go_loopw [5] (fun i wr => ∃ k : Nat, k ≤ xs.length ∧ i = .int .i64 k ∧ Hid (cmpL xs ys = cmpL (xs.drop k) (ys.drop k)) ∧ Hid (∃ q, wr = w.drewN q)) (fun i _ => xs.length - (intOf i).toNat)
  case atStart => exact ⟨0, Nat.zero_le _, rfl, Lib.hid (by simp), Lib.hid ⟨0, rfl⟩⟩
  case round =>
    obtain ⟨k, hk, rfl, he, hq⟩ := hrel
    rcases Nat.lt_or_ge k xs.length with hlt | hge
    · have hbl : Below w.heap.size w wr := by obtain ⟨q, h⟩ := hq.out; rw [h]; exact below_draws _ _ _
      obtain ⟨ad, x, rfl, hxk, hal, hcx⟩ := Elems.later EX hbl hlt
      obtain ⟨ae, y, rfl, hyk, hae, hcy⟩ := Elems.later EY hbl (k := k) (by rw [HL.out]; exact hlt)
      have HC := Lib.hid (he.out.trans (cmpL_drop hxk hyk))
      clear hxk hyk hbl
      rcases Int.lt_or_le x y with h1 | h1
      · have He := Lib.hid (show cmpL xs ys = -1 by rw [HC.out, if_pos h1])
        go_wp2_with fail
        go_quiet (fail)
        all_goals go_wp2_with fail
        go_ret
        exact ⟨by simp [He.out], drew1 hq.out _⟩
      · rcases Int.lt_or_le y x with h2 | h2
        · have He := Lib.hid (show cmpL xs ys = 1 by rw [HC.out, if_neg (by omega), if_pos h2])
          go_wp2_with fail
          go_quiet (fail)
          all_goals go_wp2_with fail
          go_quiet (fail)
          all_goals go_wp2_with fail
          go_ret
          exact ⟨by simp [He.out], drew2 hq.out _ _⟩
        · have He := Lib.hid (show cmpL xs ys = cmpL (xs.drop (k + 1)) (ys.drop (k + 1)) by rw [HC.out, if_neg (by omega), if_neg (by omega)])
          go_wp2_with fail
          go_quiet (fail)
          all_goals go_wp2_with fail
          go_quiet (fail)
          all_goals go_wp2_with fail
          go_roundw
          case rel => exact ⟨k + 1, by omega, by go_num, He, by first | exact drew2 hq.out _ _ | exact drew1 hq.out _ | exact hq⟩
          case measure => simp [intOf]; omega
    · obtain rfl : k = xs.length := by omega
      have He := Lib.hid (show cmpL xs ys = 0 by rw [he.out, List.drop_length, List.drop_of_length_le (by rw [HL.out]; exact Nat.le_refl _)]; rfl)
      go_wp2_with fail
      go_ret
      exact ⟨by simp [He.out], hq.out⟩
set_option maxHeartbeats 1000000 in
theorem rows_any {v : Value} {a : Arr} {w : World} {n : Nat} {t : List Nat} (ha : IsArr w v a) (ht : Ok a (n :: t)) :
    Calls Tryd.prog 10 #[v] w fun e w' => e = .returned (.tuple #[.int .i64 n, .int .i64 ((if n = 0 then 0 else prod t : Nat) : Int)]) ∧ Below w.heap.size w w' := by
  obtain ⟨A, ca, D, cd, rfl, hs, hd⟩ := ha.open_
  have hdl : a.da.length = n * prod t := by rw [ht.len]; rfl
  have hn4 : n ≤ 4096 := ht.good.2.1 n (by simp)
  have hp4 : n * prod t ≤ 4096 := ht.good.2.2
  obtain ⟨as_, x, hax, hx, hasl, hcx⟩ := Elems.at_ (xs := a.sh) (k := 0) (by obtain ⟨_, _, e, _, _, _, _, h9⟩ := hs; injection e with e1 _ _; subst e1; exact h9) (by rw [ht.sh]; simp [ints])
  subst hax
  obtain rfl : x = (n : Int) := by rw [ht.sh] at hx; simpa [ints] using hx.symm
  rw [addr_add_zero] at hcx
  have hsl : a.sh.length = t.length + 1 := by rw [ht.sh]; simp [ints]
  obtain ⟨L, hL⟩ : ∃ L, L = prod t := ⟨_, rfl⟩
  rw [← hL] at hdl hp4 ⊢
  have hsl1 : 1 ≤ a.sh.length := by rw [hsl]; omega
  have hb0 := below_one w (.cells #[.bool a.ch, .slice (some as_) a.sh.length ca, .slice D a.da.length cd] 24)
  have b0 := Box.new w 24 #[.bool a.ch, .slice (some as_) a.sh.length ca, .slice D a.da.length cd]
  have hc1 := (hb0.cell hasl).trans hcx
  obtain ⟨t0, t1, t2⟩ := b0.three
  rcases Nat.eq_zero_or_pos n with hz | hz
  · subst hz
    clear ha hs hd ht hx hL hdl hsl hp4 b0 hcx hasl
    go_enter Tryd.func10, Tryd.ntmps10
    go_wp2_with fail
    refine bodyPost_ret (v := .tuple #[.int .i64 0, .int .i64 0]) (by simp [results, Tryd.results10, go_sem]) rfl ?_
    exact ⟨by simp, hb0⟩
  · have hnz : ((n : Int) == 0) = false := by rw [beq_eq_false_iff_ne]; omega
    have hnz2 : ¬ (n : Int) = 0 := by omega
    have hq : Int.tdiv (a.da.length : Int) (n : Int) = (L : Int) := by
      rw [hdl, show ((n * L : Nat) : Int) = (n : Int) * (L : Int) by push_cast; rfl, Int.mul_tdiv_cancel_left _ (by omega)]
    have hwL : IntKind.i64.wrap (L : Int) = (L : Int) := IntWalk.i64_in _ (by
      have : L ≤ 4096 := Nat.le_trans (Nat.le_mul_of_pos_left L hz) hp4
      omega)
    have HN := Lib.hid (show (if n = 0 then 0 else L) = L from if_neg (by omega))
    clear ha hs hd ht hx hL hdl hsl hp4 b0 hcx hasl
    go_enter Tryd.func10, Tryd.ntmps10
    go_wp2_with fail
    go_quiet (fail)
    all_goals
      go_wp2_with fail
      refine bodyPost_ret (v := .tuple #[.int .i64 n, .int .i64 (L : Nat)]) (by simp [results, Tryd.results10, go_sem]) rfl ?_
      exact ⟨by first | rfl | rw [HN.out], hb0.trans (below_draws _ _ _)⟩
end Go.Proofs.YtfaojciballhnaaDoor
