/- The library's symmetric merge where one stretch has one element. Conditions: none but these. -/
import Derived.Shelf.SlSortCmp.Kit1
import Derived.Sort.WalkB2
import Derived.Sort.WalkB12
import Derived.Deep.LoopGhost
import Derived.BigRegion
import Derived.Test.YtfaojciballhnaaSortSwap
set_option linter.unusedSimpArgs false
set_option linter.unusedVariables false
namespace Go.Proofs.Ytfaojciballhnaa
open Go Go.RowKit Go.Lib Go.Shelf Go.Sort Go.Proofs.Ytfaojciballhnaa.P
set_option maxRecDepth 1000000 in
set_option maxHeartbeats 8000000 in
theorem merge_one {N : Nat} (cf : Fin (N + 1) → Fin (N + 1) → Int) (hS : SWO (ltOf cf)) (g : Nat) (cb : Array Value) (eg : ∀ args w, (callFunc g args).run Try.prog w = .ok (.enter g args) w) (blk off cap : Nat) (d0 : Array (Fin (N + 1))) (w0 : World) (R : Row1 encF w0 blk off d0) (hcmp : CmpLays1 Try.prog g cb encF cf blk off d0.size w0)
    (a b : Nat) (d : Array (Fin (N + 1))) (w : World) (hs : d0.size = d.size) (S : SW encF w0 blk off d w) (h2 : a + 1 < b) (h3 : b ≤ d.size) (hsz : d.size ≤ 4096) (hM : Mer (ltOf cf) Fin.val a (a + 1) b d) :
    Calls Try.prog 52 #[.slice (some ⟨blk, off, none⟩) d.size cap, .int .i64 a, .int .i64 ((a + 1 : Nat) : Int), .int .i64 b, .func (.func g) #[] cb] w fun e w' => e = .returned (.tuple #[]) ∧ ∃ d', PermIn a b d d' ∧ SortedIn (stb (ltOf cf) Fin.val) a b d' ∧ SW encF w0 blk off d' w' := by
  have mixed : Try.prog.follows .mixedOrders = true := by kernel_rfl
  have HC : Aside _ := hcmp
  have S0 : Aside (SW encF w0 blk off d w) := S
  have HM := Lib.hid hM
  have HSW := Lib.hid hS
  obtain ⟨m, hm⟩ : ∃ m, m = a + 1 := ⟨_, rfl⟩
  rw [← hm]
  have HEM := Lib.hid hm
  have e1 : (m : Int) - (a : Int) = 1 := by omega
  have w1 : IntKind.i64.wrap ((m : Int) - (a : Int)) = 1 := by rw [e1]; rfl
  have hm1 : a < m := by omega
  have hm2 : m < b := by omega
  clear S hcmp hM hS hm h2
  go_enter Try.func52, Try.ntmps52
  go_wp2_with fail
  clear w1
  go_loopw [10, 11] (fun s10 s11 wr => ∃ (i j : Nat), s10 = .int .i64 i ∧ s11 = .int .i64 j ∧ m ≤ i ∧ i ≤ j ∧ j ≤ b ∧ Aside (SW encF w0 blk off d wr) ∧ Hid (∀ q, m ≤ q → q < i → stb (ltOf cf) Fin.val d[q]! d[a]! = true) ∧ Hid (∀ q, j ≤ q → q < b → stb (ltOf cf) Fin.val d[q]! d[a]! = false)) (fun s10 s11 _ => (intOf s11).toNat - (intOf s10).toNat)
  case atStart => exact ⟨m, b, rfl, rfl, Nat.le_refl _, by omega, Nat.le_refl _, S0, fun q h1 h2 => by omega, fun q h1 h2 => by omega⟩
  case round =>
    clear S0
    obtain ⟨i, j, rfl, rfl, him, hij, hjb, S1, HI, HJ⟩ := hrel
    rcases Nat.lt_or_ge i j with hlt | hge
    · have hltz : (i : Int) < (j : Int) := by omega
      obtain ⟨H, hH⟩ : ∃ q : Nat, q = (i + j) / 2 := ⟨_, rfl⟩
      have waH : IntKind.i64.wrap ((i : Int) + (j : Int)) = (i : Int) + (j : Int) := IntWalk.i64_in _ (by omega)
      have wbH : IntKind.u64.wrap ((i : Int) + (j : Int)) = (i : Int) + (j : Int) := by rw [IntKind.wrap_u64]; omega
      have wcH : ((i : Int) + (j : Int)) / 2 = (H : Int) := by omega
      have wdH : IntKind.i64.wrap (H : Int) = (H : Int) := IntWalk.i64_in _ (by omega)
      have Hl : i ≤ H := by omega
      have Hr : H < j := by omega
      have HT := Lib.hid (show ltOf cf d[H]! d[a]! = stb (ltOf cf) Fin.val d[H]! d[a]! by
        have := HEM.out; subst this; exact HM.out.test (Nat.le_refl _) (Nat.lt_succ_self _) (by omega) (by omega))
      clear hH
      cases hlv : ltOf cf d[H]! d[a]! with
      | true =>
        have hwk : IntKind.i64.wrap ((H : Int) + 1) = (H : Int) + 1 := IntWalk.i64_in _ (by omega)
        have HQ := Lib.hid (show ∀ q, m ≤ q → q < H + 1 → stb (ltOf cf) Fin.val d[q]! d[a]! = true from fun q h4 h5 => by
          have h6 := HEM.out
          subst h6
          exact HM.out.one_true HSW.out (H := H) (by omega) (by rw [← HT.out]; exact hlv) q h4 (by omega))
        obtain ⟨iN2, hiN2⟩ : ∃ q, q = H := ⟨_, rfl⟩
        obtain ⟨jN2, hjN2⟩ : ∃ q, q = a := ⟨_, rfl⟩
        have ea2 : ((H : Int)).toNat = iN2 := by omega
        have pa2 : (0 : Int) ≤ (H : Int) := by omega
        have ba2 : (H : Int) < (d.size : Int) := by omega
        have ra2 : IntKind.i64.wrap ((H : Int)) = (H : Int) := IntWalk.i64_in _ (by omega)
        have ec2 : ((a : Int)).toNat = jN2 := by omega
        have pc2 : (0 : Int) ≤ (a : Int) := by omega
        have bc2 : (a : Int) < (d.size : Int) := by omega
        have rc2 : IntKind.i64.wrap ((a : Int)) = (a : Int) := IntWalk.i64_in _ (by omega)
        obtain ⟨x2, hx2⟩ : ∃ x, x = d[H]! := ⟨_, rfl⟩
        obtain ⟨y2, hy2⟩ : ∃ x, x = d[a]! := ⟨_, rfl⟩
        obtain ⟨X2, hX2⟩ : ∃ X : Int, X = (x2.val : Int) := ⟨_, rfl⟩
        obtain ⟨Y2, hY2⟩ : ∃ X : Int, X = (y2.val : Int) := ⟨_, rfl⟩
        obtain ⟨C2, hC2⟩ : ∃ C : Int, C = cf x2 y2 := ⟨_, rfl⟩
        have l2a : ∀ n os, (Sort.grow (wr.drewN n) os).cell? ⟨blk, off + iN2, none⟩ = some (.int .i64 X2) := by rw [hX2, hx2, hiN2]; exact S1.out.cl R (by omega) (H) (by omega)
        have l2b : ∀ n os, (Sort.grow (wr.drewN n) os).cell? ⟨blk, off + jN2, none⟩ = some (.int .i64 Y2) := by rw [hY2, hy2, hjN2]; exact S1.out.cl R (by omega) (a) (by omega)
        have hc2 : ∀ n os, Calls Try.prog g (#[.int .i64 X2, .int .i64 Y2] ++ cb) (Sort.grow (wr.drewN n) os) fun e w' => e = .returned (.int .i64 C2) ∧ ∃ q os', w' = Sort.grow ((Sort.grow (wr.drewN n) os).drewN q) os' := by rw [hX2, hY2, hC2]; exact S1.out.cmp HC.out (by omega) x2 y2
        have hv2 : C2 < 0 := by rw [hC2, hx2, hy2]; exact of_decide_eq_true hlv
        have hd2 : decide (C2 < 0) = true := decide_eq_true hv2
        clear hx2 hy2 hiN2 hjN2 hX2 hY2 hC2
        go_wp2_with fail
        go_quiet_grown (first | (go_at_fn g; refine Calls.grown_of (hc2 _ _)))
        have S2 : Aside (SW encF w0 blk off d (Sort.grow (wr.drewN nq) osq)) := S1.out.grown nq osq
        clear l2a l2b hc2 S1
        generalize Sort.grow (wr.drewN nq) osq = w2 at S2 ⊢
        clear nq osq
        clear ea2 ec2
        go_wp2_with fail
        go_roundw
        case rel => exact ⟨H + 1, j, by go_num, rfl, by omega, by omega, hjb, S2, HQ, HJ⟩
        case measure => simp [intOf]; omega
      | false =>
        have HQ := Lib.hid (show ∀ q, H ≤ q → q < b → stb (ltOf cf) Fin.val d[q]! d[a]! = false from fun q h4 h5 => by
          have h6 := HEM.out
          subst h6
          exact HM.out.one_false HSW.out (H := H) (by omega) (by rw [← HT.out]; exact hlv) q h4 h5)
        obtain ⟨iN3, hiN3⟩ : ∃ q, q = H := ⟨_, rfl⟩
        obtain ⟨jN3, hjN3⟩ : ∃ q, q = a := ⟨_, rfl⟩
        have ea3 : ((H : Int)).toNat = iN3 := by omega
        have pa3 : (0 : Int) ≤ (H : Int) := by omega
        have ba3 : (H : Int) < (d.size : Int) := by omega
        have ra3 : IntKind.i64.wrap ((H : Int)) = (H : Int) := IntWalk.i64_in _ (by omega)
        have ec3 : ((a : Int)).toNat = jN3 := by omega
        have pc3 : (0 : Int) ≤ (a : Int) := by omega
        have bc3 : (a : Int) < (d.size : Int) := by omega
        have rc3 : IntKind.i64.wrap ((a : Int)) = (a : Int) := IntWalk.i64_in _ (by omega)
        obtain ⟨x3, hx3⟩ : ∃ x, x = d[H]! := ⟨_, rfl⟩
        obtain ⟨y3, hy3⟩ : ∃ x, x = d[a]! := ⟨_, rfl⟩
        obtain ⟨X3, hX3⟩ : ∃ X : Int, X = (x3.val : Int) := ⟨_, rfl⟩
        obtain ⟨Y3, hY3⟩ : ∃ X : Int, X = (y3.val : Int) := ⟨_, rfl⟩
        obtain ⟨C3, hC3⟩ : ∃ C : Int, C = cf x3 y3 := ⟨_, rfl⟩
        have l3a : ∀ n os, (Sort.grow (wr.drewN n) os).cell? ⟨blk, off + iN3, none⟩ = some (.int .i64 X3) := by rw [hX3, hx3, hiN3]; exact S1.out.cl R (by omega) (H) (by omega)
        have l3b : ∀ n os, (Sort.grow (wr.drewN n) os).cell? ⟨blk, off + jN3, none⟩ = some (.int .i64 Y3) := by rw [hY3, hy3, hjN3]; exact S1.out.cl R (by omega) (a) (by omega)
        have hc3 : ∀ n os, Calls Try.prog g (#[.int .i64 X3, .int .i64 Y3] ++ cb) (Sort.grow (wr.drewN n) os) fun e w' => e = .returned (.int .i64 C3) ∧ ∃ q os', w' = Sort.grow ((Sort.grow (wr.drewN n) os).drewN q) os' := by rw [hX3, hY3, hC3]; exact S1.out.cmp HC.out (by omega) x3 y3
        have hv3 : ¬ C3 < 0 := by rw [hC3, hx3, hy3]; exact of_decide_eq_false hlv
        have hd3 : decide (C3 < 0) = false := decide_eq_false hv3
        clear hx3 hy3 hiN3 hjN3 hX3 hY3 hC3
        go_wp2_with fail
        go_quiet_grown (first | (go_at_fn g; refine Calls.grown_of (hc3 _ _)))
        have S2 : Aside (SW encF w0 blk off d (Sort.grow (wr.drewN nq) osq)) := S1.out.grown nq osq
        clear l3a l3b hc3 S1
        generalize Sort.grow (wr.drewN nq) osq = w2 at S2 ⊢
        clear nq osq
        clear ea3 ec3
        go_wp2_with fail
        go_roundw
        case rel => exact ⟨i, H, rfl, rfl, him, by omega, by omega, S2, HI, HQ⟩
        case measure => simp [intOf]; omega
    · obtain rfl : i = j := by omega
      have w1 : IntKind.i64.wrap ((i : Int) - 1) = (i : Int) - 1 := IntWalk.i64_in _ (by omega)
      go_wp2_with fail
      go_loopw [13] (fun s13 wr2 => ∃ (k : Nat) (dk : Array (Fin (N + 1))), s13 = .int .i64 k ∧ a ≤ k ∧ k + 1 ≤ i ∧ dk.size = d.size ∧ Aside (SW encF w0 blk off dk wr2) ∧ Hid (Rot a (a + 1) (k + 1) d dk)) (fun s13 _ => i - (intOf s13).toNat)
      case atStart => exact ⟨a, d, rfl, Nat.le_refl _, by omega, rfl, S1, Rot.right a (a + 1) d⟩
      case round =>
        clear S1
        obtain ⟨k, dk, rfl, hak, hki, hds, S1, HR⟩ := hrel
        rcases Nat.lt_or_ge (k + 1) i with hlt | hge
        · have hltz : (k : Int) < (i : Int) - 1 := by omega
          have hwk : IntKind.i64.wrap ((k : Int) + 1) = (k : Int) + 1 := IntWalk.i64_in _ (by omega)
          obtain ⟨iN4, hiN4⟩ : ∃ q, q = k := ⟨_, rfl⟩
          obtain ⟨jN4, hjN4⟩ : ∃ q, q = k + 1 := ⟨_, rfl⟩
          have ea4 : ((k : Int)).toNat = iN4 := by omega
          have pa4 : (0 : Int) ≤ (k : Int) := by omega
          have ba4 : (k : Int) < (d.size : Int) := by omega
          have ra4 : IntKind.i64.wrap ((k : Int)) = (k : Int) := IntWalk.i64_in _ (by omega)
          have ec4 : ((k : Int) + 1).toNat = jN4 := by omega
          have pc4 : (0 : Int) ≤ (k : Int) + 1 := by omega
          have bc4 : (k : Int) + 1 < (d.size : Int) := by omega
          have rc4 : IntKind.i64.wrap ((k : Int) + 1) = (k : Int) + 1 := IntWalk.i64_in _ (by omega)
          obtain ⟨x4, hx4⟩ : ∃ x : Int, x = ((dk[k]!).val : Int) := ⟨_, rfl⟩
          obtain ⟨y4, hy4⟩ : ∃ x : Int, x = ((dk[k + 1]!).val : Int) := ⟨_, rfl⟩
          have S2 : Aside (SW encF w0 blk off (swp dk (k) (k + 1)) ((wr.setCell ⟨blk, off + iN4, none⟩ (.int .i64 y4)).setCell ⟨blk, off + jN4, none⟩ (.int .i64 x4)).drew) := by rw [hiN4, hjN4, hx4, hy4]; exact S1.out.swapped R (k) (k + 1) (by omega) (by omega)
          have c4a : wr.cell? ⟨blk, off + iN4, none⟩ = some (.int .i64 x4) := by rw [hiN4, hx4]; exact S1.out.c1 R (by omega) (k) (by omega)
          have c4b : wr.cell? ⟨blk, off + jN4, none⟩ = some (.int .i64 y4) := by rw [hjN4, hy4]; exact S1.out.c1 R (by omega) (k + 1) (by omega)
          have f4a : wr.frozen? ⟨blk, off + iN4, none⟩ = false := by rw [hiN4]; exact S1.out.f1 R (by omega) (k) (by omega)
          have f4b : wr.frozen? ⟨blk, off + jN4, none⟩ = false := by rw [hjN4]; exact S1.out.f1 R (by omega) (k + 1) (by omega)
          obtain ⟨u4, c4c⟩ : ∃ u, (wr.setCell ⟨blk, off + iN4, none⟩ (.int .i64 y4)).cell? ⟨blk, off + jN4, none⟩ = some u := by rw [hiN4, hjN4]; exact S1.out.c2 R (by omega) (k) (k + 1) (by omega) (by omega) _
          clear S1 hx4 hy4 hiN4 hjN4
          go_wp2_with fail
          go_big_region_o
          clear c4a c4b c4c f4a f4b
          generalize ((wr.setCell ⟨blk, off + iN4, none⟩ (.int .i64 y4)).setCell ⟨blk, off + jN4, none⟩ (.int .i64 x4)).drew = w2 at S2 ⊢
          clear ea4 ec4
          go_wp2_with fail
          go_roundw
          case rel => exact ⟨k + 1, swp dk k (k + 1), by go_num, by omega, by omega, by rw [size_swp]; exact hds, S2, Rot.up hak (by omega) HR.out⟩
          case measure => simp [intOf]; omega
        · have hltz : ¬ (k : Int) < (i : Int) - 1 := by omega
          go_wp2_with fail
          refine bodyPost_ret (results_none rfl _ _ _) rfl ?_
          refine ⟨rfl, dk, ?_⟩
          have hke : k + 1 = i := by omega
          have h7 := HR.out
          rw [hke] at h7
          have h8 := HEM.out
          subst h8
          have h9 := HM.out.one HSW.out (i := i) (by omega) hjb h3 h7 HI.out HJ.out
          exact ⟨h9.1, h9.2, S1.out⟩
end Go.Proofs.Ytfaojciballhnaa
