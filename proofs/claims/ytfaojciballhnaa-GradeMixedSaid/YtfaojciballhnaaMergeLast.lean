/- The library's symmetric merge where the second stretch has one element. Conditions: none but these. -/
import Derived.Shelf.SlSortCmp.Kit1
import Derived.Sort.WalkB2
import Derived.Sort.WalkB12
import Derived.Deep.LoopGhost
import Derived.BigRegion
import Derived.Test.YtfaojciballhnaaSortSwap
set_option linter.unusedSimpArgs false
set_option linter.unusedVariables false
namespace Go.Proofs.Ytfaojciballhnaa
open Go Go.RowKit Go.Lib Go.Shelf Go.Sort Go.Proofs.Ytfaojciballhnaa.P
set_option maxRecDepth 1000000 in
set_option maxHeartbeats 8000000 in
theorem merge_last {N : Nat} (cf : Fin (N + 1) → Fin (N + 1) → Int) (hS : SWO (ltOf cf)) (g : Nat) (cb : Array Value) (eg : ∀ args w, (callFunc g args).run Try.prog w = .ok (.enter g args) w) (blk off cap : Nat) (d0 : Array (Fin (N + 1))) (w0 : World) (R : Row1 encF w0 blk off d0) (hcmp : CmpLays1 Try.prog g cb encF cf blk off d0.size w0)
    (a m : Nat) (d : Array (Fin (N + 1))) (w : World) (hs : d0.size = d.size) (S : SW encF w0 blk off d w) (h2 : a + 1 < m) (h3 : m + 1 ≤ d.size) (hsz : d.size ≤ 4096) (hM : Mer (ltOf cf) Fin.val a m (m + 1) d) :
    Calls Try.prog 52 #[.slice (some ⟨blk, off, none⟩) d.size cap, .int .i64 a, .int .i64 m, .int .i64 ((m + 1 : Nat) : Int), .func (.func g) #[] cb] w fun e w' => e = .returned (.tuple #[]) ∧ ∃ d', PermIn a (m + 1) d d' ∧ SortedIn (stb (ltOf cf) Fin.val) a (m + 1) d' ∧ SW encF w0 blk off d' w' := by
  have mixed : Try.prog.follows .mixedOrders = true := by kernel_rfl
  have HC : Aside _ := hcmp
  have S0 : Aside (SW encF w0 blk off d w) := S
  have HM := Lib.hid hM
  have HSW := Lib.hid hS
  obtain ⟨b, hb⟩ : ∃ b, b = m + 1 := ⟨_, rfl⟩
  rw [← hb] at h3 ⊢
  have HEB := Lib.hid hb
  have e1 : (b : Int) - (m : Int) = 1 := by omega
  have w1 : IntKind.i64.wrap ((b : Int) - (m : Int)) = 1 := by rw [e1]; rfl
  have w2 : IntKind.i64.wrap ((m : Int) - (a : Int)) = (m : Int) - (a : Int) := IntWalk.i64_in _ (by omega)
  have n1 : ((m : Int) - (a : Int) == 1) = false := by rw [beq_eq_false_iff_ne]; omega
  have hm2 : m < b := by omega
  clear S hcmp hM hS hb
  go_enter Try.func52, Try.ntmps52
  go_wp2_with fail
  clear w1 w2 n1
  go_loopw [14, 15] (fun s14 s15 wr => ∃ (i j : Nat), s14 = .int .i64 i ∧ s15 = .int .i64 j ∧ a ≤ i ∧ i ≤ j ∧ j ≤ m ∧ Aside (SW encF w0 blk off d wr) ∧ Hid (∀ p, a ≤ p → p < i → stb (ltOf cf) Fin.val d[m]! d[p]! = false) ∧ Hid (∀ p, j ≤ p → p < m → stb (ltOf cf) Fin.val d[m]! d[p]! = true)) (fun s14 s15 _ => (intOf s15).toNat - (intOf s14).toNat)
  case atStart => exact ⟨a, m, rfl, rfl, Nat.le_refl _, by omega, Nat.le_refl _, S0, fun q h1 h2 => by omega, fun q h1 h2 => by omega⟩
  case round =>
    clear S0
    obtain ⟨i, j, rfl, rfl, hai, hij, hjm, S1, HI, HJ⟩ := hrel
    rcases Nat.lt_or_ge i j with hlt | hge
    · have hltz : (i : Int) < (j : Int) := by omega
      obtain ⟨H, hH⟩ : ∃ q : Nat, q = (i + j) / 2 := ⟨_, rfl⟩
      have waH : IntKind.i64.wrap ((i : Int) + (j : Int)) = (i : Int) + (j : Int) := IntWalk.i64_in _ (by omega)
      have wbH : IntKind.u64.wrap ((i : Int) + (j : Int)) = (i : Int) + (j : Int) := by rw [IntKind.wrap_u64]; omega
      have wcH : ((i : Int) + (j : Int)) / 2 = (H : Int) := by omega
      have wdH : IntKind.i64.wrap (H : Int) = (H : Int) := IntWalk.i64_in _ (by omega)
      have Hl : i ≤ H := by omega
      have Hr : H < j := by omega
      have HT := Lib.hid (show ltOf cf d[m]! d[H]! = stb (ltOf cf) Fin.val d[m]! d[H]! from HM.out.test (by omega) (by omega) (Nat.le_refl _) (Nat.lt_succ_self _))
      clear hH
      cases hlv : ltOf cf d[m]! d[H]! with
      | false =>
        have hwk : IntKind.i64.wrap ((H : Int) + 1) = (H : Int) + 1 := IntWalk.i64_in _ (by omega)
        have HQ := Lib.hid (show ∀ p, a ≤ p → p < H + 1 → stb (ltOf cf) Fin.val d[m]! d[p]! = false from fun p h4 h5 =>
          HM.out.last_false HSW.out (H := H) (by omega) (by rw [← HT.out]; exact hlv) p h4 (by omega))
        obtain ⟨iN5, hiN5⟩ : ∃ q, q = m := ⟨_, rfl⟩
        obtain ⟨jN5, hjN5⟩ : ∃ q, q = H := ⟨_, rfl⟩
        have ea5 : ((m : Int)).toNat = iN5 := by omega
        have pa5 : (0 : Int) ≤ (m : Int) := by omega
        have ba5 : (m : Int) < (d.size : Int) := by omega
        have ra5 : IntKind.i64.wrap ((m : Int)) = (m : Int) := IntWalk.i64_in _ (by omega)
        have ec5 : ((H : Int)).toNat = jN5 := by omega
        have pc5 : (0 : Int) ≤ (H : Int) := by omega
        have bc5 : (H : Int) < (d.size : Int) := by omega
        have rc5 : IntKind.i64.wrap ((H : Int)) = (H : Int) := IntWalk.i64_in _ (by omega)
        obtain ⟨x5, hx5⟩ : ∃ x, x = d[m]! := ⟨_, rfl⟩
        obtain ⟨y5, hy5⟩ : ∃ x, x = d[H]! := ⟨_, rfl⟩
        obtain ⟨X5, hX5⟩ : ∃ X : Int, X = (x5.val : Int) := ⟨_, rfl⟩
        obtain ⟨Y5, hY5⟩ : ∃ X : Int, X = (y5.val : Int) := ⟨_, rfl⟩
        obtain ⟨C5, hC5⟩ : ∃ C : Int, C = cf x5 y5 := ⟨_, rfl⟩
        have l5a : ∀ n os, (Sort.grow (wr.drewN n) os).cell? ⟨blk, off + iN5, none⟩ = some (.int .i64 X5) := by rw [hX5, hx5, hiN5]; exact S1.out.cl R (by omega) (m) (by omega)
        have l5b : ∀ n os, (Sort.grow (wr.drewN n) os).cell? ⟨blk, off + jN5, none⟩ = some (.int .i64 Y5) := by rw [hY5, hy5, hjN5]; exact S1.out.cl R (by omega) (H) (by omega)
        have hc5 : ∀ n os, Calls Try.prog g (#[.int .i64 X5, .int .i64 Y5] ++ cb) (Sort.grow (wr.drewN n) os) fun e w' => e = .returned (.int .i64 C5) ∧ ∃ q os', w' = Sort.grow ((Sort.grow (wr.drewN n) os).drewN q) os' := by rw [hX5, hY5, hC5]; exact S1.out.cmp HC.out (by omega) x5 y5
        have hv5 : ¬ C5 < 0 := by rw [hC5, hx5, hy5]; exact of_decide_eq_false hlv
        have hd5 : decide (C5 < 0) = false := decide_eq_false hv5
        clear hx5 hy5 hiN5 hjN5 hX5 hY5 hC5
        go_wp2_with fail
        go_quiet_grown (first | (go_at_fn g; refine Calls.grown_of (hc5 _ _)))
        have S2 : Aside (SW encF w0 blk off d (Sort.grow (wr.drewN nq) osq)) := S1.out.grown nq osq
        clear l5a l5b hc5 S1
        generalize Sort.grow (wr.drewN nq) osq = w2 at S2 ⊢
        clear nq osq
        clear ea5 ec5
        go_wp2_with fail
        go_roundw
        case rel => exact ⟨H + 1, j, by go_num, rfl, by omega, by omega, hjm, S2, HQ, HJ⟩
        case measure => simp [intOf]; omega
      | true =>
        have HQ := Lib.hid (show ∀ p, H ≤ p → p < m → stb (ltOf cf) Fin.val d[m]! d[p]! = true from fun p h4 h5 =>
          HM.out.last_true HSW.out (H := H) (by omega) (by rw [← HT.out]; exact hlv) p h4 h5)
        obtain ⟨iN6, hiN6⟩ : ∃ q, q = m := ⟨_, rfl⟩
        obtain ⟨jN6, hjN6⟩ : ∃ q, q = H := ⟨_, rfl⟩
        have ea6 : ((m : Int)).toNat = iN6 := by omega
        have pa6 : (0 : Int) ≤ (m : Int) := by omega
        have ba6 : (m : Int) < (d.size : Int) := by omega
        have ra6 : IntKind.i64.wrap ((m : Int)) = (m : Int) := IntWalk.i64_in _ (by omega)
        have ec6 : ((H : Int)).toNat = jN6 := by omega
        have pc6 : (0 : Int) ≤ (H : Int) := by omega
        have bc6 : (H : Int) < (d.size : Int) := by omega
        have rc6 : IntKind.i64.wrap ((H : Int)) = (H : Int) := IntWalk.i64_in _ (by omega)
        obtain ⟨x6, hx6⟩ : ∃ x, x = d[m]! := ⟨_, rfl⟩
        obtain ⟨y6, hy6⟩ : ∃ x, x = d[H]! := ⟨_, rfl⟩
        obtain ⟨X6, hX6⟩ : ∃ X : Int, X = (x6.val : Int) := ⟨_, rfl⟩
        obtain ⟨Y6, hY6⟩ : ∃ X : Int, X = (y6.val : Int) := ⟨_, rfl⟩
        obtain ⟨C6, hC6⟩ : ∃ C : Int, C = cf x6 y6 := ⟨_, rfl⟩
        have l6a : ∀ n os, (Sort.grow (wr.drewN n) os).cell? ⟨blk, off + iN6, none⟩ = some (.int .i64 X6) := by rw [hX6, hx6, hiN6]; exact S1.out.cl R (by omega) (m) (by omega)
        have l6b : ∀ n os, (Sort.grow (wr.drewN n) os).cell? ⟨blk, off + jN6, none⟩ = some (.int .i64 Y6) := by rw [hY6, hy6, hjN6]; exact S1.out.cl R (by omega) (H) (by omega)
        have hc6 : ∀ n os, Calls Try.prog g (#[.int .i64 X6, .int .i64 Y6] ++ cb) (Sort.grow (wr.drewN n) os) fun e w' => e = .returned (.int .i64 C6) ∧ ∃ q os', w' = Sort.grow ((Sort.grow (wr.drewN n) os).drewN q) os' := by rw [hX6, hY6, hC6]; exact S1.out.cmp HC.out (by omega) x6 y6
        have hv6 : C6 < 0 := by rw [hC6, hx6, hy6]; exact of_decide_eq_true hlv
        have hd6 : decide (C6 < 0) = true := decide_eq_true hv6
        clear hx6 hy6 hiN6 hjN6 hX6 hY6 hC6
        go_wp2_with fail
        go_quiet_grown (first | (go_at_fn g; refine Calls.grown_of (hc6 _ _)))
        have S2 : Aside (SW encF w0 blk off d (Sort.grow (wr.drewN nq) osq)) := S1.out.grown nq osq
        clear l6a l6b hc6 S1
        generalize Sort.grow (wr.drewN nq) osq = w2 at S2 ⊢
        clear nq osq
        clear ea6 ec6
        go_wp2_with fail
        go_roundw
        case rel => exact ⟨i, H, rfl, rfl, hai, by omega, by omega, S2, HI, HQ⟩
        case measure => simp [intOf]; omega
    · obtain rfl : i = j := by omega
      go_wp2_with fail
      go_loopw [17] (fun s17 wr2 => ∃ (k : Nat) (dk : Array (Fin (N + 1))), s17 = .int .i64 k ∧ i ≤ k ∧ k ≤ m ∧ dk.size = d.size ∧ Aside (SW encF w0 blk off dk wr2) ∧ Hid (Rot k m (m + 1) d dk)) (fun s17 _ => (intOf s17).toNat)
      case atStart => exact ⟨m, d, rfl, by omega, Nat.le_refl _, rfl, S1, Rot.left m (m + 1) d⟩
      case round =>
        clear S1
        obtain ⟨k, dk, rfl, hik, hkm, hds, S1, HR⟩ := hrel
        rcases Nat.lt_or_ge i k with hlt | hge
        · have hltz : (i : Int) < (k : Int) := by omega
          have hgt : decide ((k : Int) > (i : Int)) = true := decide_eq_true (by omega)
          have hwk : IntKind.i64.wrap ((k : Int) - 1) = (k : Int) - 1 := IntWalk.i64_in _ (by omega)
          obtain ⟨iN7, hiN7⟩ : ∃ q, q = k := ⟨_, rfl⟩
          obtain ⟨jN7, hjN7⟩ : ∃ q, q = k - 1 := ⟨_, rfl⟩
          have ea7 : ((k : Int)).toNat = iN7 := by omega
          have pa7 : (0 : Int) ≤ (k : Int) := by omega
          have ba7 : (k : Int) < (d.size : Int) := by omega
          have ra7 : IntKind.i64.wrap ((k : Int)) = (k : Int) := IntWalk.i64_in _ (by omega)
          have ec7 : ((k : Int) - 1).toNat = jN7 := by omega
          have pc7 : (0 : Int) ≤ (k : Int) - 1 := by omega
          have bc7 : (k : Int) - 1 < (d.size : Int) := by omega
          have rc7 : IntKind.i64.wrap ((k : Int) - 1) = (k : Int) - 1 := IntWalk.i64_in _ (by omega)
          obtain ⟨x7, hx7⟩ : ∃ x : Int, x = ((dk[k]!).val : Int) := ⟨_, rfl⟩
          obtain ⟨y7, hy7⟩ : ∃ x : Int, x = ((dk[k - 1]!).val : Int) := ⟨_, rfl⟩
          have S2 : Aside (SW encF w0 blk off (swp dk (k) (k - 1)) ((wr.setCell ⟨blk, off + iN7, none⟩ (.int .i64 y7)).setCell ⟨blk, off + jN7, none⟩ (.int .i64 x7)).drew) := by rw [hiN7, hjN7, hx7, hy7]; exact S1.out.swapped R (k) (k - 1) (by omega) (by omega)
          have c7a : wr.cell? ⟨blk, off + iN7, none⟩ = some (.int .i64 x7) := by rw [hiN7, hx7]; exact S1.out.c1 R (by omega) (k) (by omega)
          have c7b : wr.cell? ⟨blk, off + jN7, none⟩ = some (.int .i64 y7) := by rw [hjN7, hy7]; exact S1.out.c1 R (by omega) (k - 1) (by omega)
          have f7a : wr.frozen? ⟨blk, off + iN7, none⟩ = false := by rw [hiN7]; exact S1.out.f1 R (by omega) (k) (by omega)
          have f7b : wr.frozen? ⟨blk, off + jN7, none⟩ = false := by rw [hjN7]; exact S1.out.f1 R (by omega) (k - 1) (by omega)
          obtain ⟨u7, c7c⟩ : ∃ u, (wr.setCell ⟨blk, off + iN7, none⟩ (.int .i64 y7)).cell? ⟨blk, off + jN7, none⟩ = some u := by rw [hiN7, hjN7]; exact S1.out.c2 R (by omega) (k) (k - 1) (by omega) (by omega) _
          clear S1 hx7 hy7 hiN7 hjN7
          go_wp2_with fail
          go_big_region_o
          clear c7a c7b c7c f7a f7b
          generalize ((wr.setCell ⟨blk, off + iN7, none⟩ (.int .i64 y7)).setCell ⟨blk, off + jN7, none⟩ (.int .i64 x7)).drew = w2 at S2 ⊢
          clear ea7 ec7
          go_wp2_with fail
          go_roundw
          case rel => exact ⟨k - 1, swp dk k (k - 1), by congr 1; omega, by omega, by omega, by rw [size_swp]; exact hds, S2, Rot.down (by omega) hkm (by omega) HR.out⟩
          case measure => simp [intOf]; omega
        · have hltz : ¬ (i : Int) < (k : Int) := by omega
          have hgt : decide ((k : Int) > (i : Int)) = false := decide_eq_false (by omega)
          go_wp2_with fail
          refine bodyPost_ret (results_none rfl _ _ _) rfl ?_
          refine ⟨rfl, dk, ?_⟩
          have hke : k = i := by omega
          have h7 := HR.out
          rw [hke] at h7
          have h8 := HEB.out
          subst h8
          have h9 := HM.out.last HSW.out (i := i) hai (by omega) h3 h7 HI.out HJ.out
          exact ⟨h9.1, h9.2, S1.out⟩
end Go.Proofs.Ytfaojciballhnaa
