/- What the card TopSorts leans on: SortSwap, MergeOne, MergeLast, MergeMore. Conditions: none but those of its theorems. -/
import Derived.Shelf.SlSortCmp.Kit1
import Derived.Sort.WalkB2
import Derived.Sort.WalkB12
import Derived.Deep.LoopGhost
import Derived.BigRegion
import Derived.Test.YtihndbkaoejnnaaGreatDoorSortsAB
import Derived.Test.YtihndbkaoejnnaaGreatDoorSortsC
set_option linter.unusedSimpArgs false
set_option linter.unusedVariables false
namespace Go.Proofs.YtihndbkaoejnnaaGreatDoor
open Go Go.RowKit Go.Lib Go.Shelf Go.Sort Go.Proofs.YtihndbkaoejnnaaGreatDoor.P
/-- a row's places, the last of which is N. -/
def encF {N : Nat} (x : Fin (N + 1)) : Value := .int .i64 (x.val : Int)
theorem encF_one {N : Nat} : OneCell (encF (N := N)) := fun _ => rfl
variable {N : Nat}
set_option maxRecDepth 1000000 in
set_option maxHeartbeats 8000000 in
theorem swapRange_any (cv : Value) (blk off cap a b n : Nat) (d0 d : Array (Fin (N + 1))) (w0 w : World)
    (R : Row1 encF w0 blk off d0) (hs : d0.size = d.size) (S : SW encF w0 blk off d w) (h1 : a + n ≤ b) (h2 : b + n ≤ d.size) (hsz : d.size ≤ 4096) :
    Calls Tryz.prog 153 #[.slice (some ⟨blk, off, none⟩) d.size cap, .int .i64 a, .int .i64 b, .int .i64 n, cv] w fun e w' => e = .returned (.tuple #[]) ∧ SW encF w0 blk off (swpN d a b n) w' := by
  have mixed : Tryz.prog.follows .mixedOrders = true := by kernel_rfl
  have S0 : Aside (SW encF w0 blk off d w) := S
  clear S
  go_enter Tryz.func153, Tryz.ntmps153
  go_wp2_with fail
  go_loopw [10] (fun s10 wr => ∃ i : Nat, i ≤ n ∧ s10 = .int .i64 i ∧ Aside (SW encF w0 blk off (swpN d a b i) wr)) (fun s10 _ => n - (intOf s10).toNat)
  case atStart => exact ⟨0, Nat.zero_le _, rfl, S0⟩
  case round =>
    clear S0
    obtain ⟨i, hi, rfl, S1⟩ := hrel
    rcases Nat.lt_or_ge i n with hlt | hge
    · obtain ⟨dk, hdk⟩ : ∃ dk, dk = swpN d a b i := ⟨_, rfl⟩
      have hds : dk.size = d.size := by rw [hdk, swpN_size]
      have HD := Lib.hid hdk
      rw [← hdk] at S1
      clear hdk
      have hiw : IntKind.i64.wrap ((i : Int) + 1) = (i : Int) + 1 := IntWalk.i64_in _ (by omega)
      obtain ⟨iN1, hiN1⟩ : ∃ q, q = a + i := ⟨_, rfl⟩
      obtain ⟨jN1, hjN1⟩ : ∃ q, q = b + i := ⟨_, rfl⟩
      have ea1 : ((a : Int) + (i : Int)).toNat = iN1 := by omega
      have pa1 : (0 : Int) ≤ (a : Int) + (i : Int) := by omega
      have ba1 : (a : Int) + (i : Int) < (d.size : Int) := by omega
      have ra1 : IntKind.i64.wrap ((a : Int) + (i : Int)) = (a : Int) + (i : Int) := IntWalk.i64_in _ (by omega)
      have ec1 : ((b : Int) + (i : Int)).toNat = jN1 := by omega
      have pc1 : (0 : Int) ≤ (b : Int) + (i : Int) := by omega
      have bc1 : (b : Int) + (i : Int) < (d.size : Int) := by omega
      have rc1 : IntKind.i64.wrap ((b : Int) + (i : Int)) = (b : Int) + (i : Int) := IntWalk.i64_in _ (by omega)
      obtain ⟨x1, hx1⟩ : ∃ x : Int, x = ((dk[a + i]!).val : Int) := ⟨_, rfl⟩
      obtain ⟨y1, hy1⟩ : ∃ x : Int, x = ((dk[b + i]!).val : Int) := ⟨_, rfl⟩
      have S2 : Aside (SW encF w0 blk off (swp dk (a + i) (b + i)) ((wr.setCell ⟨blk, off + iN1, none⟩ (.int .i64 y1)).setCell ⟨blk, off + jN1, none⟩ (.int .i64 x1)).drew) := by rw [hiN1, hjN1, hx1, hy1]; exact S1.out.swapped R (a + i) (b + i) (by omega) (by omega)
      have c1a : wr.cell? ⟨blk, off + iN1, none⟩ = some (.int .i64 x1) := by rw [hiN1, hx1]; exact S1.out.c1 R (by omega) (a + i) (by omega)
      have c1b : wr.cell? ⟨blk, off + jN1, none⟩ = some (.int .i64 y1) := by rw [hjN1, hy1]; exact S1.out.c1 R (by omega) (b + i) (by omega)
      have f1a : wr.frozen? ⟨blk, off + iN1, none⟩ = false := by rw [hiN1]; exact S1.out.f1 R (by omega) (a + i) (by omega)
      have f1b : wr.frozen? ⟨blk, off + jN1, none⟩ = false := by rw [hjN1]; exact S1.out.f1 R (by omega) (b + i) (by omega)
      obtain ⟨u1, c1c⟩ : ∃ u, (wr.setCell ⟨blk, off + iN1, none⟩ (.int .i64 y1)).cell? ⟨blk, off + jN1, none⟩ = some u := by rw [hiN1, hjN1]; exact S1.out.c2 R (by omega) (a + i) (b + i) (by omega) (by omega) _
      clear S1 hx1 hy1 hiN1 hjN1
      go_wp2_with fail
      go_big_region_o
      clear c1a c1b c1c f1a f1b
      generalize ((wr.setCell ⟨blk, off + iN1, none⟩ (.int .i64 y1)).setCell ⟨blk, off + jN1, none⟩ (.int .i64 x1)).drew = w2 at S2 ⊢
      clear ea1 ec1
      go_wp2_with fail
      go_roundw
      case rel => exact ⟨i + 1, hlt, by go_num, by rw [swpN, ← HD.out]; exact S2⟩
      case measure => simp [intOf]; omega
    · obtain rfl : i = n := by omega
      go_wp2_with fail
      go_end0
      exact ⟨rfl, S1.out⟩
theorem swapRange_at (cv : Value) (blk off cap a b n : Nat) (az bz nz : Int) (ea : az = (a : Int)) (eb : bz = (b : Int)) (en : nz = (n : Int)) (d0 d : Array (Fin (N + 1))) (w0 w : World) (z : Nat) (hz : z = d.size)
    (R : Row1 encF w0 blk off d0) (hs : d0.size = d.size) (S : SW encF w0 blk off d w) (h1 : a + n ≤ b) (h2 : b + n ≤ d.size) (hsz : d.size ≤ 4096) :
    Calls Tryz.prog 153 #[.slice (some ⟨blk, off, none⟩) z cap, .int .i64 az, .int .i64 bz, .int .i64 nz, cv] w fun e w' => e = .returned (.tuple #[]) ∧ SW encF w0 blk off (swpN d a b n) w' := by
  subst ea eb en hz
  exact swapRange_any cv blk off cap a b n d0 d w0 w R hs S h1 h2 hsz
set_option maxRecDepth 1000000 in
set_option maxHeartbeats 8000000 in
theorem rotate_any (cv : Value) (blk off cap a m b : Nat) (d0 d : Array (Fin (N + 1))) (w0 w : World)
    (R : Row1 encF w0 blk off d0) (hs : d0.size = d.size) (S : SW encF w0 blk off d w) (h1 : a < m) (h2 : m < b) (h3 : b ≤ d.size) (hsz : d.size ≤ 4096) :
    Calls Tryz.prog 127 #[.slice (some ⟨blk, off, none⟩) d.size cap, .int .i64 a, .int .i64 m, .int .i64 b, cv] w fun e w' => e = .returned (.tuple #[]) ∧ ∃ d', Rot a m b d d' ∧ SW encF w0 blk off d' w' := by
  have mixed : Tryz.prog.follows .mixedOrders = true := by kernel_rfl
  have S0 : Aside (SW encF w0 blk off d w) := S
  clear S
  have w1 : IntKind.i64.wrap ((m : Int) - (a : Int)) = (m : Int) - (a : Int) := IntWalk.i64_in _ (by omega)
  have w2 : IntKind.i64.wrap ((b : Int) - (m : Int)) = (b : Int) - (m : Int) := IntWalk.i64_in _ (by omega)
  go_enter Tryz.func127, Tryz.ntmps127
  go_wp2_with fail
  clear w1 w2
  go_loopw [10, 11] (fun s10 s11 wr => ∃ (i j : Nat) (dk : Array (Fin (N + 1))), s10 = .int .i64 i ∧ s11 = .int .i64 j ∧ 1 ≤ i ∧ 1 ≤ j ∧ a + i ≤ m ∧ m + j ≤ b ∧ dk.size = d.size ∧ Aside (SW encF w0 blk off dk wr) ∧ Hid (∀ d', Rot (m - i) m (m + j) dk d' → Rot a m b d d')) (fun s10 s11 _ => (intOf s10).toNat + (intOf s11).toNat)
  case atStart => exact ⟨m - a, b - m, d, by congr 1; omega, by congr 1; omega, by omega, by omega, by omega, by omega, rfl, S0, fun d' h => by rwa [show m - (m - a) = a by omega, show m + (b - m) = b by omega] at h⟩
  case round =>
    clear S0
    obtain ⟨i, j, dk, rfl, rfl, hi, hj, him, hjb, hds, S1, HR⟩ := hrel
    have w3 : IntKind.i64.wrap ((m : Int) - (i : Int)) = (m : Int) - (i : Int) := IntWalk.i64_in _ (by omega)
    rcases Nat.lt_trichotomy i j with hlt | heq | hgt
    · have w4 : IntKind.i64.wrap ((m : Int) + (j : Int)) = (m : Int) + (j : Int) := IntWalk.i64_in _ (by omega)
      have w5 : IntKind.i64.wrap ((m : Int) + (j : Int) - (i : Int)) = (m : Int) + (j : Int) - (i : Int) := IntWalk.i64_in _ (by omega)
      have w6 : IntKind.i64.wrap ((j : Int) - (i : Int)) = (j : Int) - (i : Int) := IntWalk.i64_in _ (by omega)
      have n1 : ¬ (i : Int) = (j : Int) := by omega
      have n2 : ¬ (j : Int) < (i : Int) := by omega
      have n3 : decide ((i : Int) > (j : Int)) = false := decide_eq_false (by omega)
      go_wp2_with fail
      refine (swapRange_at _ blk off cap (m - i) (m + j - i) i _ _ _ (by omega) (by omega) rfl d0 dk w0 _ _ hds.symm R (by omega) S1.out (by omega) (by omega) (by omega)).mono ?_
      rintro e w8 ⟨rfl, S2⟩
      have S2 := (show Aside _ from S2)
      have HQ := Lib.hid (fun d' (h : Rot (m - i) m (m + (j - i)) (swpN dk (m - i) (m + j - i) i) d') => HR.out d' (Rot.lt (s := m - i) (m := m) (e := m + j) (by omega) (by omega) (by omega) (by omega) (by rw [show m - (m - i) = i by omega, show m + j - i = m + (j - i) by omega] at *; exact h)))
      clear S1
      go_wp2_with fail
      go_roundw
      case rel => exact ⟨i, j - i, swpN dk (m - i) (m + j - i) i, rfl, by congr 1; omega, hi, by omega, him, by omega, by rw [swpN_size]; exact hds, S2, HQ⟩
      case measure => simp [intOf]; omega
    · subst heq
      go_wp2_with fail
      refine (swapRange_at _ blk off cap (m - i) m i _ _ _ (by omega) rfl rfl d0 dk w0 _ _ hds.symm R (by omega) S1.out (by omega) (by omega) (by omega)).mono ?_
      rintro e w8 ⟨rfl, S2⟩
      have S2 := (show Aside _ from S2)
      go_wp2_with fail
      go_end0
      refine ⟨rfl, _, HR.out _ ?_, S2.out⟩
      have := Rot.same (s := m - i) (m := m) (e := m + i) (d := dk) (by omega) (by omega) (by omega) (by omega)
      rwa [show m - (m - i) = i by omega] at this
    · have w6 : IntKind.i64.wrap ((i : Int) - (j : Int)) = (i : Int) - (j : Int) := IntWalk.i64_in _ (by omega)
      have n1 : ¬ (i : Int) = (j : Int) := by omega
      have n2 : (j : Int) < (i : Int) := by omega
      have n3 : decide ((i : Int) > (j : Int)) = true := decide_eq_true (by omega)
      go_wp2_with fail
      refine (swapRange_at _ blk off cap (m - i) m j _ _ _ (by omega) rfl rfl d0 dk w0 _ _ hds.symm R (by omega) S1.out (by omega) (by omega) (by omega)).mono ?_
      rintro e w8 ⟨rfl, S2⟩
      have S2 := (show Aside _ from S2)
      have HQ := Lib.hid (fun d' (h : Rot (m - (i - j)) m (m + j) (swpN dk (m - i) m j) d') => HR.out d' (Rot.gt (s := m - i) (m := m) (e := m + j) (by omega) (by omega) (by omega) (by omega) (by rw [show m + j - m = j by omega, show m - i + j = m - (i - j) by omega]; exact h)))
      clear S1
      go_wp2_with fail
      go_roundw
      case rel => exact ⟨i - j, j, swpN dk (m - i) m j, by congr 1; omega, rfl, by omega, hj, by omega, hjb, by rw [swpN_size]; exact hds, S2, HQ⟩
      case measure => simp [intOf]; omega
end Go.Proofs.YtihndbkaoejnnaaGreatDoor

namespace Go.Proofs.YtihndbkaoejnnaaGreatDoor
open Go Go.RowKit Go.Lib Go.Shelf Go.Sort Go.Proofs.YtihndbkaoejnnaaGreatDoor.P
set_option maxRecDepth 1000000 in
set_option maxHeartbeats 8000000 in
theorem merge_one {N : Nat} (cf : Fin (N + 1) → Fin (N + 1) → Int) (hS : SWO (ltOf cf)) (g : Nat) (cb : Array Value) (eg : ∀ args w, (callFunc g args).run Tryz.prog w = .ok (.enter g args) w) (blk off cap : Nat) (d0 : Array (Fin (N + 1))) (w0 : World) (R : Row1 encF w0 blk off d0) (hcmp : CmpLays1 Tryz.prog g cb encF cf blk off d0.size w0)
    (a b : Nat) (d : Array (Fin (N + 1))) (w : World) (hs : d0.size = d.size) (S : SW encF w0 blk off d w) (h2 : a + 1 < b) (h3 : b ≤ d.size) (hsz : d.size ≤ 4096) (hM : Mer (ltOf cf) Fin.val a (a + 1) b d) :
    Calls Tryz.prog 104 #[.slice (some ⟨blk, off, none⟩) d.size cap, .int .i64 a, .int .i64 ((a + 1 : Nat) : Int), .int .i64 b, .func (.func g) #[] cb] w fun e w' => e = .returned (.tuple #[]) ∧ ∃ d', PermIn a b d d' ∧ SortedIn (stb (ltOf cf) Fin.val) a b d' ∧ SW encF w0 blk off d' w' := by
  have mixed : Tryz.prog.follows .mixedOrders = true := by kernel_rfl
  have HC : Aside _ := hcmp
  have S0 : Aside (SW encF w0 blk off d w) := S
  have HM := Lib.hid hM
  have HSW := Lib.hid hS
  obtain ⟨m, hm⟩ : ∃ m, m = a + 1 := ⟨_, rfl⟩
  rw [← hm]
  have HEM := Lib.hid hm
  have e1 : (m : Int) - (a : Int) = 1 := by omega
  have w1 : IntKind.i64.wrap ((m : Int) - (a : Int)) = 1 := by rw [e1]; rfl
  have hm1 : a < m := by omega
  have hm2 : m < b := by omega
  clear S hcmp hM hS hm h2
  go_enter Tryz.func104, Tryz.ntmps104
  go_wp2_with fail
  clear w1
  go_loopw [10, 11] (fun s10 s11 wr => ∃ (i j : Nat), s10 = .int .i64 i ∧ s11 = .int .i64 j ∧ m ≤ i ∧ i ≤ j ∧ j ≤ b ∧ Aside (SW encF w0 blk off d wr) ∧ Hid (∀ q, m ≤ q → q < i → stb (ltOf cf) Fin.val d[q]! d[a]! = true) ∧ Hid (∀ q, j ≤ q → q < b → stb (ltOf cf) Fin.val d[q]! d[a]! = false)) (fun s10 s11 _ => (intOf s11).toNat - (intOf s10).toNat)
  case atStart => exact ⟨m, b, rfl, rfl, Nat.le_refl _, by omega, Nat.le_refl _, S0, fun q h1 h2 => by omega, fun q h1 h2 => by omega⟩
  case round =>
    clear S0
    obtain ⟨i, j, rfl, rfl, him, hij, hjb, S1, HI, HJ⟩ := hrel
    rcases Nat.lt_or_ge i j with hlt | hge
    · have hltz : (i : Int) < (j : Int) := by omega
      obtain ⟨H, hH⟩ : ∃ q : Nat, q = (i + j) / 2 := ⟨_, rfl⟩
      have waH : IntKind.i64.wrap ((i : Int) + (j : Int)) = (i : Int) + (j : Int) := IntWalk.i64_in _ (by omega)
      have wbH : IntKind.u64.wrap ((i : Int) + (j : Int)) = (i : Int) + (j : Int) := by rw [IntKind.wrap_u64]; omega
      have wcH : ((i : Int) + (j : Int)) / 2 = (H : Int) := by omega
      have wdH : IntKind.i64.wrap (H : Int) = (H : Int) := IntWalk.i64_in _ (by omega)
      have Hl : i ≤ H := by omega
      have Hr : H < j := by omega
      have HT := Lib.hid (show ltOf cf d[H]! d[a]! = stb (ltOf cf) Fin.val d[H]! d[a]! by
        have := HEM.out; subst this; exact HM.out.test (Nat.le_refl _) (Nat.lt_succ_self _) (by omega) (by omega))
      clear hH
      cases hlv : ltOf cf d[H]! d[a]! with
      | true =>
        have hwk : IntKind.i64.wrap ((H : Int) + 1) = (H : Int) + 1 := IntWalk.i64_in _ (by omega)
        have HQ := Lib.hid (show ∀ q, m ≤ q → q < H + 1 → stb (ltOf cf) Fin.val d[q]! d[a]! = true from fun q h4 h5 => by
          have h6 := HEM.out
          subst h6
          exact HM.out.one_true HSW.out (H := H) (by omega) (by rw [← HT.out]; exact hlv) q h4 (by omega))
        obtain ⟨iN2, hiN2⟩ : ∃ q, q = H := ⟨_, rfl⟩
        obtain ⟨jN2, hjN2⟩ : ∃ q, q = a := ⟨_, rfl⟩
        have ea2 : ((H : Int)).toNat = iN2 := by omega
        have pa2 : (0 : Int) ≤ (H : Int) := by omega
        have ba2 : (H : Int) < (d.size : Int) := by omega
        have ra2 : IntKind.i64.wrap ((H : Int)) = (H : Int) := IntWalk.i64_in _ (by omega)
        have ec2 : ((a : Int)).toNat = jN2 := by omega
        have pc2 : (0 : Int) ≤ (a : Int) := by omega
        have bc2 : (a : Int) < (d.size : Int) := by omega
        have rc2 : IntKind.i64.wrap ((a : Int)) = (a : Int) := IntWalk.i64_in _ (by omega)
        obtain ⟨x2, hx2⟩ : ∃ x, x = d[H]! := ⟨_, rfl⟩
        obtain ⟨y2, hy2⟩ : ∃ x, x = d[a]! := ⟨_, rfl⟩
        obtain ⟨X2, hX2⟩ : ∃ X : Int, X = (x2.val : Int) := ⟨_, rfl⟩
        obtain ⟨Y2, hY2⟩ : ∃ X : Int, X = (y2.val : Int) := ⟨_, rfl⟩
        obtain ⟨C2, hC2⟩ : ∃ C : Int, C = cf x2 y2 := ⟨_, rfl⟩
        have l2a : ∀ n os, (Sort.grow (wr.drewN n) os).cell? ⟨blk, off + iN2, none⟩ = some (.int .i64 X2) := by rw [hX2, hx2, hiN2]; exact S1.out.cl R (by omega) (H) (by omega)
        have l2b : ∀ n os, (Sort.grow (wr.drewN n) os).cell? ⟨blk, off + jN2, none⟩ = some (.int .i64 Y2) := by rw [hY2, hy2, hjN2]; exact S1.out.cl R (by omega) (a) (by omega)
        have hc2 : ∀ n os, Calls Tryz.prog g (#[.int .i64 X2, .int .i64 Y2] ++ cb) (Sort.grow (wr.drewN n) os) fun e w' => e = .returned (.int .i64 C2) ∧ ∃ q os', w' = Sort.grow ((Sort.grow (wr.drewN n) os).drewN q) os' := by rw [hX2, hY2, hC2]; exact S1.out.cmp HC.out (by omega) x2 y2
        have hv2 : C2 < 0 := by rw [hC2, hx2, hy2]; exact of_decide_eq_true hlv
        have hd2 : decide (C2 < 0) = true := decide_eq_true hv2
        clear hx2 hy2 hiN2 hjN2 hX2 hY2 hC2
        go_wp2_with fail
        go_quiet_grown (first | (go_at_fn g; refine Calls.grown_of (hc2 _ _)))
        have S2 : Aside (SW encF w0 blk off d (Sort.grow (wr.drewN nq) osq)) := S1.out.grown nq osq
        clear l2a l2b hc2 S1
        generalize Sort.grow (wr.drewN nq) osq = w2 at S2 ⊢
        clear nq osq
        clear ea2 ec2
        go_wp2_with fail
        go_roundw
        case rel => exact ⟨H + 1, j, by go_num, rfl, by omega, by omega, hjb, S2, HQ, HJ⟩
        case measure => simp [intOf]; omega
      | false =>
        have HQ := Lib.hid (show ∀ q, H ≤ q → q < b → stb (ltOf cf) Fin.val d[q]! d[a]! = false from fun q h4 h5 => by
          have h6 := HEM.out
          subst h6
          exact HM.out.one_false HSW.out (H := H) (by omega) (by rw [← HT.out]; exact hlv) q h4 h5)
        obtain ⟨iN3, hiN3⟩ : ∃ q, q = H := ⟨_, rfl⟩
        obtain ⟨jN3, hjN3⟩ : ∃ q, q = a := ⟨_, rfl⟩
        have ea3 : ((H : Int)).toNat = iN3 := by omega
        have pa3 : (0 : Int) ≤ (H : Int) := by omega
        have ba3 : (H : Int) < (d.size : Int) := by omega
        have ra3 : IntKind.i64.wrap ((H : Int)) = (H : Int) := IntWalk.i64_in _ (by omega)
        have ec3 : ((a : Int)).toNat = jN3 := by omega
        have pc3 : (0 : Int) ≤ (a : Int) := by omega
        have bc3 : (a : Int) < (d.size : Int) := by omega
        have rc3 : IntKind.i64.wrap ((a : Int)) = (a : Int) := IntWalk.i64_in _ (by omega)
        obtain ⟨x3, hx3⟩ : ∃ x, x = d[H]! := ⟨_, rfl⟩
        obtain ⟨y3, hy3⟩ : ∃ x, x = d[a]! := ⟨_, rfl⟩
        obtain ⟨X3, hX3⟩ : ∃ X : Int, X = (x3.val : Int) := ⟨_, rfl⟩
        obtain ⟨Y3, hY3⟩ : ∃ X : Int, X = (y3.val : Int) := ⟨_, rfl⟩
        obtain ⟨C3, hC3⟩ : ∃ C : Int, C = cf x3 y3 := ⟨_, rfl⟩
        have l3a : ∀ n os, (Sort.grow (wr.drewN n) os).cell? ⟨blk, off + iN3, none⟩ = some (.int .i64 X3) := by rw [hX3, hx3, hiN3]; exact S1.out.cl R (by omega) (H) (by omega)
        have l3b : ∀ n os, (Sort.grow (wr.drewN n) os).cell? ⟨blk, off + jN3, none⟩ = some (.int .i64 Y3) := by rw [hY3, hy3, hjN3]; exact S1.out.cl R (by omega) (a) (by omega)
        have hc3 : ∀ n os, Calls Tryz.prog g (#[.int .i64 X3, .int .i64 Y3] ++ cb) (Sort.grow (wr.drewN n) os) fun e w' => e = .returned (.int .i64 C3) ∧ ∃ q os', w' = Sort.grow ((Sort.grow (wr.drewN n) os).drewN q) os' := by rw [hX3, hY3, hC3]; exact S1.out.cmp HC.out (by omega) x3 y3
        have hv3 : ¬ C3 < 0 := by rw [hC3, hx3, hy3]; exact of_decide_eq_false hlv
        have hd3 : decide (C3 < 0) = false := decide_eq_false hv3
        clear hx3 hy3 hiN3 hjN3 hX3 hY3 hC3
        go_wp2_with fail
        go_quiet_grown (first | (go_at_fn g; refine Calls.grown_of (hc3 _ _)))
        have S2 : Aside (SW encF w0 blk off d (Sort.grow (wr.drewN nq) osq)) := S1.out.grown nq osq
        clear l3a l3b hc3 S1
        generalize Sort.grow (wr.drewN nq) osq = w2 at S2 ⊢
        clear nq osq
        clear ea3 ec3
        go_wp2_with fail
        go_roundw
        case rel => exact ⟨i, H, rfl, rfl, him, by omega, by omega, S2, HI, HQ⟩
        case measure => simp [intOf]; omega
    · obtain rfl : i = j := by omega
      have w1 : IntKind.i64.wrap ((i : Int) - 1) = (i : Int) - 1 := IntWalk.i64_in _ (by omega)
      go_wp2_with fail
      go_loopw [13] (fun s13 wr2 => ∃ (k : Nat) (dk : Array (Fin (N + 1))), s13 = .int .i64 k ∧ a ≤ k ∧ k + 1 ≤ i ∧ dk.size = d.size ∧ Aside (SW encF w0 blk off dk wr2) ∧ Hid (Rot a (a + 1) (k + 1) d dk)) (fun s13 _ => i - (intOf s13).toNat)
      case atStart => exact ⟨a, d, rfl, Nat.le_refl _, by omega, rfl, S1, Rot.right a (a + 1) d⟩
      case round =>
        clear S1
        obtain ⟨k, dk, rfl, hak, hki, hds, S1, HR⟩ := hrel
        rcases Nat.lt_or_ge (k + 1) i with hlt | hge
        · have hltz : (k : Int) < (i : Int) - 1 := by omega
          have hwk : IntKind.i64.wrap ((k : Int) + 1) = (k : Int) + 1 := IntWalk.i64_in _ (by omega)
          obtain ⟨iN4, hiN4⟩ : ∃ q, q = k := ⟨_, rfl⟩
          obtain ⟨jN4, hjN4⟩ : ∃ q, q = k + 1 := ⟨_, rfl⟩
          have ea4 : ((k : Int)).toNat = iN4 := by omega
          have pa4 : (0 : Int) ≤ (k : Int) := by omega
          have ba4 : (k : Int) < (d.size : Int) := by omega
          have ra4 : IntKind.i64.wrap ((k : Int)) = (k : Int) := IntWalk.i64_in _ (by omega)
          have ec4 : ((k : Int) + 1).toNat = jN4 := by omega
          have pc4 : (0 : Int) ≤ (k : Int) + 1 := by omega
          have bc4 : (k : Int) + 1 < (d.size : Int) := by omega
          have rc4 : IntKind.i64.wrap ((k : Int) + 1) = (k : Int) + 1 := IntWalk.i64_in _ (by omega)
          obtain ⟨x4, hx4⟩ : ∃ x : Int, x = ((dk[k]!).val : Int) := ⟨_, rfl⟩
          obtain ⟨y4, hy4⟩ : ∃ x : Int, x = ((dk[k + 1]!).val : Int) := ⟨_, rfl⟩
          have S2 : Aside (SW encF w0 blk off (swp dk (k) (k + 1)) ((wr.setCell ⟨blk, off + iN4, none⟩ (.int .i64 y4)).setCell ⟨blk, off + jN4, none⟩ (.int .i64 x4)).drew) := by rw [hiN4, hjN4, hx4, hy4]; exact S1.out.swapped R (k) (k + 1) (by omega) (by omega)
          have c4a : wr.cell? ⟨blk, off + iN4, none⟩ = some (.int .i64 x4) := by rw [hiN4, hx4]; exact S1.out.c1 R (by omega) (k) (by omega)
          have c4b : wr.cell? ⟨blk, off + jN4, none⟩ = some (.int .i64 y4) := by rw [hjN4, hy4]; exact S1.out.c1 R (by omega) (k + 1) (by omega)
          have f4a : wr.frozen? ⟨blk, off + iN4, none⟩ = false := by rw [hiN4]; exact S1.out.f1 R (by omega) (k) (by omega)
          have f4b : wr.frozen? ⟨blk, off + jN4, none⟩ = false := by rw [hjN4]; exact S1.out.f1 R (by omega) (k + 1) (by omega)
          obtain ⟨u4, c4c⟩ : ∃ u, (wr.setCell ⟨blk, off + iN4, none⟩ (.int .i64 y4)).cell? ⟨blk, off + jN4, none⟩ = some u := by rw [hiN4, hjN4]; exact S1.out.c2 R (by omega) (k) (k + 1) (by omega) (by omega) _
          clear S1 hx4 hy4 hiN4 hjN4
          go_wp2_with fail
          go_big_region_o
          clear c4a c4b c4c f4a f4b
          generalize ((wr.setCell ⟨blk, off + iN4, none⟩ (.int .i64 y4)).setCell ⟨blk, off + jN4, none⟩ (.int .i64 x4)).drew = w2 at S2 ⊢
          clear ea4 ec4
          go_wp2_with fail
          go_roundw
          case rel => exact ⟨k + 1, swp dk k (k + 1), by go_num, by omega, by omega, by rw [size_swp]; exact hds, S2, Rot.up hak (by omega) HR.out⟩
          case measure => simp [intOf]; omega
        · have hltz : ¬ (k : Int) < (i : Int) - 1 := by omega
          go_wp2_with fail
          refine bodyPost_ret (results_none rfl _ _ _) rfl ?_
          refine ⟨rfl, dk, ?_⟩
          have hke : k + 1 = i := by omega
          have h7 := HR.out
          rw [hke] at h7
          have h8 := HEM.out
          subst h8
          have h9 := HM.out.one HSW.out (i := i) (by omega) hjb h3 h7 HI.out HJ.out
          exact ⟨h9.1, h9.2, S1.out⟩
end Go.Proofs.YtihndbkaoejnnaaGreatDoor

namespace Go.Proofs.YtihndbkaoejnnaaGreatDoor
open Go Go.RowKit Go.Lib Go.Shelf Go.Sort Go.Proofs.YtihndbkaoejnnaaGreatDoor.P
set_option maxRecDepth 1000000 in
set_option maxHeartbeats 8000000 in
theorem merge_last {N : Nat} (cf : Fin (N + 1) → Fin (N + 1) → Int) (hS : SWO (ltOf cf)) (g : Nat) (cb : Array Value) (eg : ∀ args w, (callFunc g args).run Tryz.prog w = .ok (.enter g args) w) (blk off cap : Nat) (d0 : Array (Fin (N + 1))) (w0 : World) (R : Row1 encF w0 blk off d0) (hcmp : CmpLays1 Tryz.prog g cb encF cf blk off d0.size w0)
    (a m : Nat) (d : Array (Fin (N + 1))) (w : World) (hs : d0.size = d.size) (S : SW encF w0 blk off d w) (h2 : a + 1 < m) (h3 : m + 1 ≤ d.size) (hsz : d.size ≤ 4096) (hM : Mer (ltOf cf) Fin.val a m (m + 1) d) :
    Calls Tryz.prog 104 #[.slice (some ⟨blk, off, none⟩) d.size cap, .int .i64 a, .int .i64 m, .int .i64 ((m + 1 : Nat) : Int), .func (.func g) #[] cb] w fun e w' => e = .returned (.tuple #[]) ∧ ∃ d', PermIn a (m + 1) d d' ∧ SortedIn (stb (ltOf cf) Fin.val) a (m + 1) d' ∧ SW encF w0 blk off d' w' := by
  have mixed : Tryz.prog.follows .mixedOrders = true := by kernel_rfl
  have HC : Aside _ := hcmp
  have S0 : Aside (SW encF w0 blk off d w) := S
  have HM := Lib.hid hM
  have HSW := Lib.hid hS
  obtain ⟨b, hb⟩ : ∃ b, b = m + 1 := ⟨_, rfl⟩
  rw [← hb] at h3 ⊢
  have HEB := Lib.hid hb
  have e1 : (b : Int) - (m : Int) = 1 := by omega
  have w1 : IntKind.i64.wrap ((b : Int) - (m : Int)) = 1 := by rw [e1]; rfl
  have w2 : IntKind.i64.wrap ((m : Int) - (a : Int)) = (m : Int) - (a : Int) := IntWalk.i64_in _ (by omega)
  have n1 : ((m : Int) - (a : Int) == 1) = false := by rw [beq_eq_false_iff_ne]; omega
  have hm2 : m < b := by omega
  clear S hcmp hM hS hb
  go_enter Tryz.func104, Tryz.ntmps104
  go_wp2_with fail
  clear w1 w2 n1
  go_loopw [14, 15] (fun s14 s15 wr => ∃ (i j : Nat), s14 = .int .i64 i ∧ s15 = .int .i64 j ∧ a ≤ i ∧ i ≤ j ∧ j ≤ m ∧ Aside (SW encF w0 blk off d wr) ∧ Hid (∀ p, a ≤ p → p < i → stb (ltOf cf) Fin.val d[m]! d[p]! = false) ∧ Hid (∀ p, j ≤ p → p < m → stb (ltOf cf) Fin.val d[m]! d[p]! = true)) (fun s14 s15 _ => (intOf s15).toNat - (intOf s14).toNat)
  case atStart => exact ⟨a, m, rfl, rfl, Nat.le_refl _, by omega, Nat.le_refl _, S0, fun q h1 h2 => by omega, fun q h1 h2 => by omega⟩
  case round =>
    clear S0
    obtain ⟨i, j, rfl, rfl, hai, hij, hjm, S1, HI, HJ⟩ := hrel
    rcases Nat.lt_or_ge i j with hlt | hge
    · have hltz : (i : Int) < (j : Int) := by omega
      obtain ⟨H, hH⟩ : ∃ q : Nat, q = (i + j) / 2 := ⟨_, rfl⟩
      have waH : IntKind.i64.wrap ((i : Int) + (j : Int)) = (i : Int) + (j : Int) := IntWalk.i64_in _ (by omega)
      have wbH : IntKind.u64.wrap ((i : Int) + (j : Int)) = (i : Int) + (j : Int) := by rw [IntKind.wrap_u64]; omega
      have wcH : ((i : Int) + (j : Int)) / 2 = (H : Int) := by omega
      have wdH : IntKind.i64.wrap (H : Int) = (H : Int) := IntWalk.i64_in _ (by omega)
      have Hl : i ≤ H := by omega
      have Hr : H < j := by omega
      have HT := Lib.hid (show ltOf cf d[m]! d[H]! = stb (ltOf cf) Fin.val d[m]! d[H]! from HM.out.test (by omega) (by omega) (Nat.le_refl _) (Nat.lt_succ_self _))
      clear hH
      cases hlv : ltOf cf d[m]! d[H]! with
      | false =>
        have hwk : IntKind.i64.wrap ((H : Int) + 1) = (H : Int) + 1 := IntWalk.i64_in _ (by omega)
        have HQ := Lib.hid (show ∀ p, a ≤ p → p < H + 1 → stb (ltOf cf) Fin.val d[m]! d[p]! = false from fun p h4 h5 =>
          HM.out.last_false HSW.out (H := H) (by omega) (by rw [← HT.out]; exact hlv) p h4 (by omega))
        obtain ⟨iN5, hiN5⟩ : ∃ q, q = m := ⟨_, rfl⟩
        obtain ⟨jN5, hjN5⟩ : ∃ q, q = H := ⟨_, rfl⟩
        have ea5 : ((m : Int)).toNat = iN5 := by omega
        have pa5 : (0 : Int) ≤ (m : Int) := by omega
        have ba5 : (m : Int) < (d.size : Int) := by omega
        have ra5 : IntKind.i64.wrap ((m : Int)) = (m : Int) := IntWalk.i64_in _ (by omega)
        have ec5 : ((H : Int)).toNat = jN5 := by omega
        have pc5 : (0 : Int) ≤ (H : Int) := by omega
        have bc5 : (H : Int) < (d.size : Int) := by omega
        have rc5 : IntKind.i64.wrap ((H : Int)) = (H : Int) := IntWalk.i64_in _ (by omega)
        obtain ⟨x5, hx5⟩ : ∃ x, x = d[m]! := ⟨_, rfl⟩
        obtain ⟨y5, hy5⟩ : ∃ x, x = d[H]! := ⟨_, rfl⟩
        obtain ⟨X5, hX5⟩ : ∃ X : Int, X = (x5.val : Int) := ⟨_, rfl⟩
        obtain ⟨Y5, hY5⟩ : ∃ X : Int, X = (y5.val : Int) := ⟨_, rfl⟩
        obtain ⟨C5, hC5⟩ : ∃ C : Int, C = cf x5 y5 := ⟨_, rfl⟩
        have l5a : ∀ n os, (Sort.grow (wr.drewN n) os).cell? ⟨blk, off + iN5, none⟩ = some (.int .i64 X5) := by rw [hX5, hx5, hiN5]; exact S1.out.cl R (by omega) (m) (by omega)
        have l5b : ∀ n os, (Sort.grow (wr.drewN n) os).cell? ⟨blk, off + jN5, none⟩ = some (.int .i64 Y5) := by rw [hY5, hy5, hjN5]; exact S1.out.cl R (by omega) (H) (by omega)
        have hc5 : ∀ n os, Calls Tryz.prog g (#[.int .i64 X5, .int .i64 Y5] ++ cb) (Sort.grow (wr.drewN n) os) fun e w' => e = .returned (.int .i64 C5) ∧ ∃ q os', w' = Sort.grow ((Sort.grow (wr.drewN n) os).drewN q) os' := by rw [hX5, hY5, hC5]; exact S1.out.cmp HC.out (by omega) x5 y5
        have hv5 : ¬ C5 < 0 := by rw [hC5, hx5, hy5]; exact of_decide_eq_false hlv
        have hd5 : decide (C5 < 0) = false := decide_eq_false hv5
        clear hx5 hy5 hiN5 hjN5 hX5 hY5 hC5
        go_wp2_with fail
        go_quiet_grown (first | (go_at_fn g; refine Calls.grown_of (hc5 _ _)))
        have S2 : Aside (SW encF w0 blk off d (Sort.grow (wr.drewN nq) osq)) := S1.out.grown nq osq
        clear l5a l5b hc5 S1
        generalize Sort.grow (wr.drewN nq) osq = w2 at S2 ⊢
        clear nq osq
        clear ea5 ec5
        go_wp2_with fail
        go_roundw
        case rel => exact ⟨H + 1, j, by go_num, rfl, by omega, by omega, hjm, S2, HQ, HJ⟩
        case measure => simp [intOf]; omega
      | true =>
        have HQ := Lib.hid (show ∀ p, H ≤ p → p < m → stb (ltOf cf) Fin.val d[m]! d[p]! = true from fun p h4 h5 =>
          HM.out.last_true HSW.out (H := H) (by omega) (by rw [← HT.out]; exact hlv) p h4 h5)
        obtain ⟨iN6, hiN6⟩ : ∃ q, q = m := ⟨_, rfl⟩
        obtain ⟨jN6, hjN6⟩ : ∃ q, q = H := ⟨_, rfl⟩
        have ea6 : ((m : Int)).toNat = iN6 := by omega
        have pa6 : (0 : Int) ≤ (m : Int) := by omega
        have ba6 : (m : Int) < (d.size : Int) := by omega
        have ra6 : IntKind.i64.wrap ((m : Int)) = (m : Int) := IntWalk.i64_in _ (by omega)
        have ec6 : ((H : Int)).toNat = jN6 := by omega
        have pc6 : (0 : Int) ≤ (H : Int) := by omega
        have bc6 : (H : Int) < (d.size : Int) := by omega
        have rc6 : IntKind.i64.wrap ((H : Int)) = (H : Int) := IntWalk.i64_in _ (by omega)
        obtain ⟨x6, hx6⟩ : ∃ x, x = d[m]! := ⟨_, rfl⟩
        obtain ⟨y6, hy6⟩ : ∃ x, x = d[H]! := ⟨_, rfl⟩
        obtain ⟨X6, hX6⟩ : ∃ X : Int, X = (x6.val : Int) := ⟨_, rfl⟩
        obtain ⟨Y6, hY6⟩ : ∃ X : Int, X = (y6.val : Int) := ⟨_, rfl⟩
        obtain ⟨C6, hC6⟩ : ∃ C : Int, C = cf x6 y6 := ⟨_, rfl⟩
        have l6a : ∀ n os, (Sort.grow (wr.drewN n) os).cell? ⟨blk, off + iN6, none⟩ = some (.int .i64 X6) := by rw [hX6, hx6, hiN6]; exact S1.out.cl R (by omega) (m) (by omega)
        have l6b : ∀ n os, (Sort.grow (wr.drewN n) os).cell? ⟨blk, off + jN6, none⟩ = some (.int .i64 Y6) := by rw [hY6, hy6, hjN6]; exact S1.out.cl R (by omega) (H) (by omega)
        have hc6 : ∀ n os, Calls Tryz.prog g (#[.int .i64 X6, .int .i64 Y6] ++ cb) (Sort.grow (wr.drewN n) os) fun e w' => e = .returned (.int .i64 C6) ∧ ∃ q os', w' = Sort.grow ((Sort.grow (wr.drewN n) os).drewN q) os' := by rw [hX6, hY6, hC6]; exact S1.out.cmp HC.out (by omega) x6 y6
        have hv6 : C6 < 0 := by rw [hC6, hx6, hy6]; exact of_decide_eq_true hlv
        have hd6 : decide (C6 < 0) = true := decide_eq_true hv6
        clear hx6 hy6 hiN6 hjN6 hX6 hY6 hC6
        go_wp2_with fail
        go_quiet_grown (first | (go_at_fn g; refine Calls.grown_of (hc6 _ _)))
        have S2 : Aside (SW encF w0 blk off d (Sort.grow (wr.drewN nq) osq)) := S1.out.grown nq osq
        clear l6a l6b hc6 S1
        generalize Sort.grow (wr.drewN nq) osq = w2 at S2 ⊢
        clear nq osq
        clear ea6 ec6
        go_wp2_with fail
        go_roundw
        case rel => exact ⟨i, H, rfl, rfl, hai, by omega, by omega, S2, HI, HQ⟩
        case measure => simp [intOf]; omega
    · obtain rfl : i = j := by omega
      go_wp2_with fail
      go_loopw [17] (fun s17 wr2 => ∃ (k : Nat) (dk : Array (Fin (N + 1))), s17 = .int .i64 k ∧ i ≤ k ∧ k ≤ m ∧ dk.size = d.size ∧ Aside (SW encF w0 blk off dk wr2) ∧ Hid (Rot k m (m + 1) d dk)) (fun s17 _ => (intOf s17).toNat)
      case atStart => exact ⟨m, d, rfl, by omega, Nat.le_refl _, rfl, S1, Rot.left m (m + 1) d⟩
      case round =>
        clear S1
        obtain ⟨k, dk, rfl, hik, hkm, hds, S1, HR⟩ := hrel
        rcases Nat.lt_or_ge i k with hlt | hge
        · have hltz : (i : Int) < (k : Int) := by omega
          have hgt : decide ((k : Int) > (i : Int)) = true := decide_eq_true (by omega)
          have hwk : IntKind.i64.wrap ((k : Int) - 1) = (k : Int) - 1 := IntWalk.i64_in _ (by omega)
          obtain ⟨iN7, hiN7⟩ : ∃ q, q = k := ⟨_, rfl⟩
          obtain ⟨jN7, hjN7⟩ : ∃ q, q = k - 1 := ⟨_, rfl⟩
          have ea7 : ((k : Int)).toNat = iN7 := by omega
          have pa7 : (0 : Int) ≤ (k : Int) := by omega
          have ba7 : (k : Int) < (d.size : Int) := by omega
          have ra7 : IntKind.i64.wrap ((k : Int)) = (k : Int) := IntWalk.i64_in _ (by omega)
          have ec7 : ((k : Int) - 1).toNat = jN7 := by omega
          have pc7 : (0 : Int) ≤ (k : Int) - 1 := by omega
          have bc7 : (k : Int) - 1 < (d.size : Int) := by omega
          have rc7 : IntKind.i64.wrap ((k : Int) - 1) = (k : Int) - 1 := IntWalk.i64_in _ (by omega)
          obtain ⟨x7, hx7⟩ : ∃ x : Int, x = ((dk[k]!).val : Int) := ⟨_, rfl⟩
          obtain ⟨y7, hy7⟩ : ∃ x : Int, x = ((dk[k - 1]!).val : Int) := ⟨_, rfl⟩
          have S2 : Aside (SW encF w0 blk off (swp dk (k) (k - 1)) ((wr.setCell ⟨blk, off + iN7, none⟩ (.int .i64 y7)).setCell ⟨blk, off + jN7, none⟩ (.int .i64 x7)).drew) := by rw [hiN7, hjN7, hx7, hy7]; exact S1.out.swapped R (k) (k - 1) (by omega) (by omega)
          have c7a : wr.cell? ⟨blk, off + iN7, none⟩ = some (.int .i64 x7) := by rw [hiN7, hx7]; exact S1.out.c1 R (by omega) (k) (by omega)
          have c7b : wr.cell? ⟨blk, off + jN7, none⟩ = some (.int .i64 y7) := by rw [hjN7, hy7]; exact S1.out.c1 R (by omega) (k - 1) (by omega)
          have f7a : wr.frozen? ⟨blk, off + iN7, none⟩ = false := by rw [hiN7]; exact S1.out.f1 R (by omega) (k) (by omega)
          have f7b : wr.frozen? ⟨blk, off + jN7, none⟩ = false := by rw [hjN7]; exact S1.out.f1 R (by omega) (k - 1) (by omega)
          obtain ⟨u7, c7c⟩ : ∃ u, (wr.setCell ⟨blk, off + iN7, none⟩ (.int .i64 y7)).cell? ⟨blk, off + jN7, none⟩ = some u := by rw [hiN7, hjN7]; exact S1.out.c2 R (by omega) (k) (k - 1) (by omega) (by omega) _
          clear S1 hx7 hy7 hiN7 hjN7
          go_wp2_with fail
          go_big_region_o
          clear c7a c7b c7c f7a f7b
          generalize ((wr.setCell ⟨blk, off + iN7, none⟩ (.int .i64 y7)).setCell ⟨blk, off + jN7, none⟩ (.int .i64 x7)).drew = w2 at S2 ⊢
          clear ea7 ec7
          go_wp2_with fail
          go_roundw
          case rel => exact ⟨k - 1, swp dk k (k - 1), by congr 1; omega, by omega, by omega, by rw [size_swp]; exact hds, S2, Rot.down (by omega) hkm (by omega) HR.out⟩
          case measure => simp [intOf]; omega
        · have hltz : ¬ (i : Int) < (k : Int) := by omega
          have hgt : decide ((k : Int) > (i : Int)) = false := decide_eq_false (by omega)
          go_wp2_with fail
          refine bodyPost_ret (results_none rfl _ _ _) rfl ?_
          refine ⟨rfl, dk, ?_⟩
          have hke : k = i := by omega
          have h7 := HR.out
          rw [hke] at h7
          have h8 := HEB.out
          subst h8
          have h9 := HM.out.last HSW.out (i := i) hai (by omega) h3 h7 HI.out HJ.out
          exact ⟨h9.1, h9.2, S1.out⟩
end Go.Proofs.YtihndbkaoejnnaaGreatDoor

namespace Go.Proofs.YtihndbkaoejnnaaGreatDoor
open Go Go.RowKit Go.Lib Go.Shelf Go.Sort Go.Proofs.YtihndbkaoejnnaaGreatDoor.P
set_option maxRecDepth 1000000 in
set_option maxHeartbeats 16000000 in
theorem merge_more {N L : Nat} (cf : Fin (N + 1) → Fin (N + 1) → Int) (hS : SWO (ltOf cf)) (g : Nat) (cb : Array Value) (eg : ∀ args w, (callFunc g args).run Tryz.prog w = .ok (.enter g args) w) (blk off cap : Nat) (d0 : Array (Fin (N + 1))) (w0 : World) (R : Row1 encF w0 blk off d0) (hcmp : CmpLays1 Tryz.prog g cb encF cf blk off d0.size w0)
    (IH : ∀ (a m b : Nat) (d : Array (Fin (N + 1))) (w : World) (hL : b - a < L) (z : Nat) (hz : z = d.size) (hs : d0.size = d.size) (S : SW encF w0 blk off d w) (h1 : a < m) (h2 : m < b) (h3 : b ≤ d.size) (hsz : d.size ≤ 4096) (hM : Mer (ltOf cf) Fin.val a m b d), Calls Tryz.prog 104 #[.slice (some ⟨blk, off, none⟩) z cap, .int .i64 a, .int .i64 m, .int .i64 b, .func (.func g) #[] cb] w fun e w' => e = .returned (.tuple #[]) ∧ ∃ d', PermIn a b d d' ∧ SortedIn (stb (ltOf cf) Fin.val) a b d' ∧ SW encF w0 blk off d' w')
    (a m b : Nat) (d : Array (Fin (N + 1))) (w : World) (hL : b - a = L) (hs : d0.size = d.size) (S : SW encF w0 blk off d w) (h1 : a + 1 < m) (h2 : m + 1 < b) (h3 : b ≤ d.size) (hsz : d.size ≤ 4096) (hM : Mer (ltOf cf) Fin.val a m b d) :
    Calls Tryz.prog 104 #[.slice (some ⟨blk, off, none⟩) d.size cap, .int .i64 a, .int .i64 m, .int .i64 b, .func (.func g) #[] cb] w fun e w' => e = .returned (.tuple #[]) ∧ ∃ d', PermIn a b d d' ∧ SortedIn (stb (ltOf cf) Fin.val) a b d' ∧ SW encF w0 blk off d' w' := by
  have mixed : Tryz.prog.follows .mixedOrders = true := by kernel_rfl
  have HC : Aside _ := hcmp
  have S0 : Aside (SW encF w0 blk off d w) := S
  have HM := Lib.hid hM
  have HSW := Lib.hid hS
  have HIH := Lib.hid IH
  have HS := Lib.hid hs
  have n1 : ((m : Int) - (a : Int) == 1) = false := by rw [beq_eq_false_iff_ne]; omega
  have n2 : ((b : Int) - (m : Int) == 1) = false := by rw [beq_eq_false_iff_ne]; omega
  have w1 : IntKind.i64.wrap ((m : Int) - (a : Int)) = (m : Int) - (a : Int) := IntWalk.i64_in _ (by omega)
  have w2 : IntKind.i64.wrap ((b : Int) - (m : Int)) = (b : Int) - (m : Int) := IntWalk.i64_in _ (by omega)
  obtain ⟨mid, hmid⟩ : ∃ q : Nat, q = (a + b) / 2 := ⟨_, rfl⟩
  have wamid : IntKind.i64.wrap ((a : Int) + (b : Int)) = (a : Int) + (b : Int) := IntWalk.i64_in _ (by omega)
  have wbmid : IntKind.u64.wrap ((a : Int) + (b : Int)) = (a : Int) + (b : Int) := by rw [IntKind.wrap_u64]; omega
  have wcmid : ((a : Int) + (b : Int)) / 2 = (mid : Int) := by omega
  have wdmid : IntKind.i64.wrap (mid : Int) = (mid : Int) := IntWalk.i64_in _ (by omega)
  have midl : a ≤ mid := by omega
  have midr : mid < b := by omega
  have g1 : a + b ≤ 2 * mid + 1 ∧ 2 * mid ≤ a + b := ⟨by omega, by omega⟩
  have w3 : IntKind.i64.wrap ((mid : Int) + (m : Int)) = (mid : Int) + (m : Int) := IntWalk.i64_in _ (by omega)
  have w4 : IntKind.i64.wrap ((mid : Int) + (m : Int) - (b : Int)) = (mid : Int) + (m : Int) - (b : Int) := IntWalk.i64_in _ (by omega)
  have w5 : IntKind.i64.wrap ((mid : Int) + (m : Int) - 1) = (mid : Int) + (m : Int) - 1 := IntWalk.i64_in _ (by omega)
  clear S hcmp hM hS IH hmid
  rcases Nat.lt_or_ge mid m with hq | hq
  · go_enter Tryz.func104, Tryz.ntmps104
    obtain ⟨s0, hs0⟩ : ∃ s0 : Nat, s0 = mid + m - b := ⟨_, rfl⟩
    obtain ⟨r0, hr0⟩ : ∃ r0 : Nat, r0 = mid := ⟨_, rfl⟩
    have HS0 := Lib.hid (show s0 = if mid < m then mid + m - b else a by rw [hs0, if_pos (by omega)])
    have HR0 := Lib.hid (show r0 = if mid < m then mid else m by rw [hr0, if_pos (by omega)])
    have k1 : s0 ≤ r0 := by omega
    have k2 : r0 ≤ mid ∧ r0 ≤ m := ⟨by omega, by omega⟩
    have k3 : a ≤ s0 := by omega
    have k4 : mid + m ≤ b + s0 := by omega
    have n0 : (mid : Int) < (m : Int) := by omega
    have e1 : (mid : Int) + (m : Int) - (b : Int) = (s0 : Int) := by omega
    have e2 : (mid : Int) = (r0 : Int) := by omega
    have HE1 := Lib.hid e1
    have HE2 := Lib.hid e2
    clear hs0 hr0 e1 e2
    go_wp2_with fail
    go_loopw [20, 21] (fun s20 s21 wr => ∃ (i j : Nat), s20 = .int .i64 i ∧ s21 = .int .i64 j ∧ s0 ≤ i ∧ i ≤ j ∧ j ≤ r0 ∧ Aside (SW encF w0 blk off d wr) ∧ Hid (∀ c, s0 ≤ c → c < i → stb (ltOf cf) Fin.val d[mid + m - 1 - c]! d[c]! = false) ∧ Hid (∀ c, j ≤ c → c < r0 → stb (ltOf cf) Fin.val d[mid + m - 1 - c]! d[c]! = true)) (fun s20 s21 _ => (intOf s21).toNat - (intOf s20).toNat)
    case atStart => exact ⟨s0, r0, by have := HE1.out; congr 1 <;> omega, by have := HE2.out; congr 1 <;> omega, Nat.le_refl _, by omega, Nat.le_refl _, S0, fun q h1 h2 => by omega, fun q h1 h2 => by omega⟩
    case round =>
      clear S0
      obtain ⟨i, j, rfl, rfl, hai, hij, hjm, S1, HI, HJ⟩ := hrel
      rcases Nat.lt_or_ge i j with hlt | hge
      · have hltz : (i : Int) < (j : Int) := by omega
        obtain ⟨H, hH⟩ : ∃ q : Nat, q = (i + j) / 2 := ⟨_, rfl⟩
        have waH : IntKind.i64.wrap ((i : Int) + (j : Int)) = (i : Int) + (j : Int) := IntWalk.i64_in _ (by omega)
        have wbH : IntKind.u64.wrap ((i : Int) + (j : Int)) = (i : Int) + (j : Int) := by rw [IntKind.wrap_u64]; omega
        have wcH : ((i : Int) + (j : Int)) / 2 = (H : Int) := by omega
        have wdH : IntKind.i64.wrap (H : Int) = (H : Int) := IntWalk.i64_in _ (by omega)
        have Hl : i ≤ H := by omega
        have Hr : H < j := by omega
        obtain ⟨J, hJ⟩ : ∃ J : Nat, J = mid + m - 1 - H := ⟨_, rfl⟩
        have HJJ := Lib.hid hJ
        have eJ : (mid : Int) + (m : Int) - 1 - (H : Int) = (J : Int) := by omega
        have wJ : IntKind.i64.wrap (J : Int) = (J : Int) := IntWalk.i64_in _ (by omega)
        have HT := Lib.hid (show ltOf cf d[J]! d[H]! = stb (ltOf cf) Fin.val d[J]! d[H]! from HM.out.test (by omega) (by omega) (by omega) (by omega))
        have hJl : m ≤ J := by omega
        have hJb : J < b := by omega
        clear hH hJ
        cases hlv : ltOf cf d[J]! d[H]! with
        | false =>
          have hwk : IntKind.i64.wrap ((H : Int) + 1) = (H : Int) + 1 := IntWalk.i64_in _ (by omega)
          have HQ := Lib.hid (show ∀ c, s0 ≤ c → c < H + 1 → stb (ltOf cf) Fin.val d[mid + m - 1 - c]! d[c]! = false from fun c h4 h5 =>
            HM.out.last_false HSW.out (H := H) (by omega) (HM.out.one_false HSW.out (H := J) (by omega) (by rw [← HT.out]; exact hlv) _ (by have := HJJ.out; omega) (by omega)) c (by omega) (by omega))
          obtain ⟨iN8, hiN8⟩ : ∃ q, q = J := ⟨_, rfl⟩
          obtain ⟨jN8, hjN8⟩ : ∃ q, q = H := ⟨_, rfl⟩
          have ea8 : ((J : Int)).toNat = iN8 := by omega
          have pa8 : (0 : Int) ≤ (J : Int) := by omega
          have ba8 : (J : Int) < (d.size : Int) := by omega
          have ra8 : IntKind.i64.wrap ((J : Int)) = (J : Int) := IntWalk.i64_in _ (by omega)
          have ec8 : ((H : Int)).toNat = jN8 := by omega
          have pc8 : (0 : Int) ≤ (H : Int) := by omega
          have bc8 : (H : Int) < (d.size : Int) := by omega
          have rc8 : IntKind.i64.wrap ((H : Int)) = (H : Int) := IntWalk.i64_in _ (by omega)
          obtain ⟨x8, hx8⟩ : ∃ x, x = d[J]! := ⟨_, rfl⟩
          obtain ⟨y8, hy8⟩ : ∃ x, x = d[H]! := ⟨_, rfl⟩
          obtain ⟨X8, hX8⟩ : ∃ X : Int, X = (x8.val : Int) := ⟨_, rfl⟩
          obtain ⟨Y8, hY8⟩ : ∃ X : Int, X = (y8.val : Int) := ⟨_, rfl⟩
          obtain ⟨C8, hC8⟩ : ∃ C : Int, C = cf x8 y8 := ⟨_, rfl⟩
          have l8a : ∀ n os, (Sort.grow (wr.drewN n) os).cell? ⟨blk, off + iN8, none⟩ = some (.int .i64 X8) := by rw [hX8, hx8, hiN8]; exact S1.out.cl R (by omega) (J) (by omega)
          have l8b : ∀ n os, (Sort.grow (wr.drewN n) os).cell? ⟨blk, off + jN8, none⟩ = some (.int .i64 Y8) := by rw [hY8, hy8, hjN8]; exact S1.out.cl R (by omega) (H) (by omega)
          have hc8 : ∀ n os, Calls Tryz.prog g (#[.int .i64 X8, .int .i64 Y8] ++ cb) (Sort.grow (wr.drewN n) os) fun e w' => e = .returned (.int .i64 C8) ∧ ∃ q os', w' = Sort.grow ((Sort.grow (wr.drewN n) os).drewN q) os' := by rw [hX8, hY8, hC8]; exact S1.out.cmp HC.out (by omega) x8 y8
          have hv8 : ¬ C8 < 0 := by rw [hC8, hx8, hy8]; exact of_decide_eq_false hlv
          have hd8 : decide (C8 < 0) = false := decide_eq_false hv8
          clear hx8 hy8 hiN8 hjN8 hX8 hY8 hC8
          go_wp2_with fail
          go_quiet_grown (first | (go_at_fn g; refine Calls.grown_of (hc8 _ _)))
          have S2 : Aside (SW encF w0 blk off d (Sort.grow (wr.drewN nq) osq)) := S1.out.grown nq osq
          clear l8a l8b hc8 S1
          generalize Sort.grow (wr.drewN nq) osq = w2 at S2 ⊢
          clear nq osq
          clear ea8 ec8
          go_wp2_with fail
          go_roundw
          case rel => exact ⟨H + 1, j, by go_num, rfl, by omega, by omega, hjm, S2, HQ, HJ⟩
          case measure => simp [intOf]; omega
        | true =>
          have HQ := Lib.hid (show ∀ c, H ≤ c → c < r0 → stb (ltOf cf) Fin.val d[mid + m - 1 - c]! d[c]! = true from fun c h4 h5 =>
            HM.out.last_true HSW.out (H := H) (by omega) (HM.out.one_true HSW.out (H := J) (by omega) (by rw [← HT.out]; exact hlv) _ (by omega) (by have := HJJ.out; omega)) c h4 (by omega))
          obtain ⟨iN9, hiN9⟩ : ∃ q, q = J := ⟨_, rfl⟩
          obtain ⟨jN9, hjN9⟩ : ∃ q, q = H := ⟨_, rfl⟩
          have ea9 : ((J : Int)).toNat = iN9 := by omega
          have pa9 : (0 : Int) ≤ (J : Int) := by omega
          have ba9 : (J : Int) < (d.size : Int) := by omega
          have ra9 : IntKind.i64.wrap ((J : Int)) = (J : Int) := IntWalk.i64_in _ (by omega)
          have ec9 : ((H : Int)).toNat = jN9 := by omega
          have pc9 : (0 : Int) ≤ (H : Int) := by omega
          have bc9 : (H : Int) < (d.size : Int) := by omega
          have rc9 : IntKind.i64.wrap ((H : Int)) = (H : Int) := IntWalk.i64_in _ (by omega)
          obtain ⟨x9, hx9⟩ : ∃ x, x = d[J]! := ⟨_, rfl⟩
          obtain ⟨y9, hy9⟩ : ∃ x, x = d[H]! := ⟨_, rfl⟩
          obtain ⟨X9, hX9⟩ : ∃ X : Int, X = (x9.val : Int) := ⟨_, rfl⟩
          obtain ⟨Y9, hY9⟩ : ∃ X : Int, X = (y9.val : Int) := ⟨_, rfl⟩
          obtain ⟨C9, hC9⟩ : ∃ C : Int, C = cf x9 y9 := ⟨_, rfl⟩
          have l9a : ∀ n os, (Sort.grow (wr.drewN n) os).cell? ⟨blk, off + iN9, none⟩ = some (.int .i64 X9) := by rw [hX9, hx9, hiN9]; exact S1.out.cl R (by omega) (J) (by omega)
          have l9b : ∀ n os, (Sort.grow (wr.drewN n) os).cell? ⟨blk, off + jN9, none⟩ = some (.int .i64 Y9) := by rw [hY9, hy9, hjN9]; exact S1.out.cl R (by omega) (H) (by omega)
          have hc9 : ∀ n os, Calls Tryz.prog g (#[.int .i64 X9, .int .i64 Y9] ++ cb) (Sort.grow (wr.drewN n) os) fun e w' => e = .returned (.int .i64 C9) ∧ ∃ q os', w' = Sort.grow ((Sort.grow (wr.drewN n) os).drewN q) os' := by rw [hX9, hY9, hC9]; exact S1.out.cmp HC.out (by omega) x9 y9
          have hv9 : C9 < 0 := by rw [hC9, hx9, hy9]; exact of_decide_eq_true hlv
          have hd9 : decide (C9 < 0) = true := decide_eq_true hv9
          clear hx9 hy9 hiN9 hjN9 hX9 hY9 hC9
          go_wp2_with fail
          go_quiet_grown (first | (go_at_fn g; refine Calls.grown_of (hc9 _ _)))
          have S2 : Aside (SW encF w0 blk off d (Sort.grow (wr.drewN nq) osq)) := S1.out.grown nq osq
          clear l9a l9b hc9 S1
          generalize Sort.grow (wr.drewN nq) osq = w2 at S2 ⊢
          clear nq osq
          clear ea9 ec9
          go_wp2_with fail
          go_roundw
          case rel => exact ⟨i, H, rfl, rfl, hai, by omega, by omega, S2, HI, HQ⟩
          case measure => simp [intOf]; omega
      · obtain rfl : i = j := by omega
        obtain ⟨E, hE⟩ : ∃ E : Nat, E + i = mid + m := ⟨mid + m - i, by omega⟩
        have HE := Lib.hid hE
        have eE : (mid : Int) + (m : Int) - (i : Int) = (E : Int) := by omega
        have wE : IntKind.i64.wrap (E : Int) = (E : Int) := IntWalk.i64_in _ (by omega)
        have gE : m ≤ E ∧ mid ≤ E ∧ E ≤ b := ⟨by omega, by omega, by omega⟩
        clear hE
        rcases Nat.lt_or_ge i m with q0 | q0
        · rcases Nat.lt_or_ge i mid with q1 | q1
          · rcases Nat.lt_or_ge a i with q2 | q2
            · rcases Nat.lt_or_ge E b with q3 | q3
              · have a1 : (i : Int) < (m : Int) := by have := HE.out; omega
                have a2 : (m : Int) < (E : Int) := by have := HE.out; omega
                have b1 : (a : Int) < (i : Int) := by have := HE.out; omega
                have b2 : (i : Int) < (mid : Int) := by have := HE.out; omega
                have c1 : (mid : Int) < (E : Int) := by have := HE.out; omega
                have c2 : (E : Int) < (b : Int) := by have := HE.out; omega
                go_wp2_with fail
                refine (rotate_any _ blk off cap i m E d0 d w0 _ R HS.out S1.out (by omega) (by omega) (by have := HE.out; omega) hsz).mono ?_
                rintro e w3 ⟨rfl, d1, hR, hS3⟩
                have HR := Lib.hid hR
                have S3 : Aside (SW encF w0 blk off d1 w3) := hS3
                clear hS3 hR S1
                have HZ1 := Lib.hid (show d1.size = d.size from HR.out.1.1)
                have HX := Lib.hid (HM.out.cut HSW.out (s := i) (d1 := d1) h3 (by omega) (by omega) ⟨by omega, by omega⟩ HS0.out HR0.out (by omega) (by omega) (by omega) (by omega) HI.out HJ.out (by rw [← show E = mid + m - i by have := HE.out; omega]; exact HR.out))
                go_wp2_with fail
                refine (HIH.out a i mid d1 _ (by omega) _ HZ1.out.symm (by rw [HZ1.out]; exact HS.out) S3.out (by omega) (by omega) (by rw [HZ1.out]; omega) (by rw [HZ1.out]; exact hsz) HX.out.1).mono ?_
                rintro e w4 ⟨rfl, d2, hP2, hO2, hS4⟩
                have HP2 := Lib.hid hP2
                have HO2 := Lib.hid hO2
                have S4 : Aside (SW encF w0 blk off d2 w4) := hS4
                clear hP2 hO2 hS4 S3
                have HZ2 := Lib.hid (show d2.size = d.size from HP2.out.1.trans HZ1.out)
                have HM2 := Lib.hid (show Mer (ltOf cf) Fin.val mid E b d2 by have h9 := HX.out.2.1; rw [show mid + m - i = E by have := HE.out; omega] at h9; exact ⟨fun p q x1 x2 x3 => by rw [HP2.out.2.1 p (.inr (by omega)), HP2.out.2.1 q (.inr (by omega))]; exact h9.l p q x1 x2 x3, fun p q x1 x2 x3 => by rw [HP2.out.2.1 p (.inr (by have := HE.out; omega)), HP2.out.2.1 q (.inr (by have := HE.out; omega))]; exact h9.r p q x1 x2 x3, fun p q x1 x2 x3 x4 => by rw [HP2.out.2.1 p (.inr (by omega)), HP2.out.2.1 q (.inr (by have := HE.out; omega))]; exact h9.x p q x1 x2 x3 x4⟩)
                go_wp2_with fail
                refine (HIH.out mid E b d2 _ (by omega) _ HZ2.out.symm (by rw [HZ2.out]; exact HS.out) S4.out (by omega) (by omega) (by rw [HZ2.out]; exact h3) (by rw [HZ2.out]; exact hsz) HM2.out).mono ?_
                rintro e w5 ⟨rfl, d3, hP3, hO3, hS5⟩
                have HP3 := Lib.hid hP3
                have HO3 := Lib.hid hO3
                have S5 : Aside (SW encF w0 blk off d3 w5) := hS5
                clear hP3 hO3 hS5 S4
                go_wp2_with fail
                go_end0
                have hh := halves (show a ≤ mid by omega) (show mid ≤ b by omega) (by rw [HZ1.out]; exact h3) HX.out.2.2 HP2.out HO2.out HP3.out HO3.out
                exact ⟨rfl, d3, permIn_trans _ _ _ _ _ (permIn_mono _ _ _ _ _ _ (by omega) (by have := HE.out; omega) h3 HR.out.1) hh.1, hh.2, S5.out⟩
              · have a1 : (i : Int) < (m : Int) := by have := HE.out; omega
                have a2 : (m : Int) < (E : Int) := by have := HE.out; omega
                have b1 : (a : Int) < (i : Int) := by have := HE.out; omega
                have b2 : (i : Int) < (mid : Int) := by have := HE.out; omega
                have c1 : (mid : Int) < (E : Int) := by have := HE.out; omega
                have c2 : ¬ (E : Int) < (b : Int) := by have := HE.out; omega
                go_wp2_with fail
                refine (rotate_any _ blk off cap i m E d0 d w0 _ R HS.out S1.out (by omega) (by omega) (by have := HE.out; omega) hsz).mono ?_
                rintro e w3 ⟨rfl, d1, hR, hS3⟩
                have HR := Lib.hid hR
                have S3 : Aside (SW encF w0 blk off d1 w3) := hS3
                clear hS3 hR S1
                have HZ1 := Lib.hid (show d1.size = d.size from HR.out.1.1)
                have HX := Lib.hid (HM.out.cut HSW.out (s := i) (d1 := d1) h3 (by omega) (by omega) ⟨by omega, by omega⟩ HS0.out HR0.out (by omega) (by omega) (by omega) (by omega) HI.out HJ.out (by rw [← show E = mid + m - i by have := HE.out; omega]; exact HR.out))
                go_wp2_with fail
                refine (HIH.out a i mid d1 _ (by omega) _ HZ1.out.symm (by rw [HZ1.out]; exact HS.out) S3.out (by omega) (by omega) (by rw [HZ1.out]; omega) (by rw [HZ1.out]; exact hsz) HX.out.1).mono ?_
                rintro e w4 ⟨rfl, d2, hP2, hO2, hS4⟩
                have HP2 := Lib.hid hP2
                have HO2 := Lib.hid hO2
                have S4 : Aside (SW encF w0 blk off d2 w4) := hS4
                clear hP2 hO2 hS4 S3
                have HZ2 := Lib.hid (show d2.size = d.size from HP2.out.1.trans HZ1.out)
                have HM2 := Lib.hid (show Mer (ltOf cf) Fin.val mid E b d2 by have h9 := HX.out.2.1; rw [show mid + m - i = E by have := HE.out; omega] at h9; exact ⟨fun p q x1 x2 x3 => by rw [HP2.out.2.1 p (.inr (by omega)), HP2.out.2.1 q (.inr (by omega))]; exact h9.l p q x1 x2 x3, fun p q x1 x2 x3 => by rw [HP2.out.2.1 p (.inr (by have := HE.out; omega)), HP2.out.2.1 q (.inr (by have := HE.out; omega))]; exact h9.r p q x1 x2 x3, fun p q x1 x2 x3 x4 => by rw [HP2.out.2.1 p (.inr (by omega)), HP2.out.2.1 q (.inr (by have := HE.out; omega))]; exact h9.x p q x1 x2 x3 x4⟩)
                obtain ⟨d3, hd3⟩ : ∃ d3, d3 = d2 := ⟨_, rfl⟩
                have HP3 := Lib.hid (show PermIn mid b d2 d3 by rw [hd3]; exact permIn_refl _ _ _)
                have HO3 := Lib.hid (show SortedIn (stb (ltOf cf) Fin.val) mid b d3 by rw [hd3]; have := HE.out; first | (have h9 := HM2.out.r; rwa [show E = mid by omega] at h9) | (have h9 := HM2.out.l; rwa [show E = b by omega] at h9))
                have S5 : Aside (SW encF w0 blk off d3 w4) := by rw [hd3]; exact S4
                clear S4 hd3
                go_wp2_with fail
                go_end0
                have hh := halves (show a ≤ mid by omega) (show mid ≤ b by omega) (by rw [HZ1.out]; exact h3) HX.out.2.2 HP2.out HO2.out HP3.out HO3.out
                exact ⟨rfl, d3, permIn_trans _ _ _ _ _ (permIn_mono _ _ _ _ _ _ (by omega) (by have := HE.out; omega) h3 HR.out.1) hh.1, hh.2, S5.out⟩
            · rcases Nat.lt_or_ge E b with q3 | q3
              · (exfalso; have := HE.out; have := HE1.out; have := HE2.out; omega)
              · have a1 : (i : Int) < (m : Int) := by have := HE.out; omega
                have a2 : (m : Int) < (E : Int) := by have := HE.out; omega
                have b1 : ¬ (a : Int) < (i : Int) := by have := HE.out; omega
                have b2 : (i : Int) < (mid : Int) := by have := HE.out; omega
                have c1 : (mid : Int) < (E : Int) := by have := HE.out; omega
                have c2 : ¬ (E : Int) < (b : Int) := by have := HE.out; omega
                go_wp2_with fail
                refine (rotate_any _ blk off cap i m E d0 d w0 _ R HS.out S1.out (by omega) (by omega) (by have := HE.out; omega) hsz).mono ?_
                rintro e w3 ⟨rfl, d1, hR, hS3⟩
                have HR := Lib.hid hR
                have S3 : Aside (SW encF w0 blk off d1 w3) := hS3
                clear hS3 hR S1
                have HZ1 := Lib.hid (show d1.size = d.size from HR.out.1.1)
                have HX := Lib.hid (HM.out.cut HSW.out (s := i) (d1 := d1) h3 (by omega) (by omega) ⟨by omega, by omega⟩ HS0.out HR0.out (by omega) (by omega) (by omega) (by omega) HI.out HJ.out (by rw [← show E = mid + m - i by have := HE.out; omega]; exact HR.out))
                obtain ⟨d2, hd2⟩ : ∃ d2, d2 = d1 := ⟨_, rfl⟩
                have HP2 := Lib.hid (show PermIn a mid d1 d2 by rw [hd2]; exact permIn_refl _ _ _)
                have HO2 := Lib.hid (show SortedIn (stb (ltOf cf) Fin.val) a mid d2 by rw [hd2]; first | (have h9 := HX.out.1.r; rwa [show i = a by omega] at h9) | (have h9 := HX.out.1.l; rwa [show i = mid by omega] at h9))
                have S4 : Aside (SW encF w0 blk off d2 w3) := by rw [hd2]; exact S3
                clear S3 hd2
                have HZ2 := Lib.hid (show d2.size = d.size from HP2.out.1.trans HZ1.out)
                have HM2 := Lib.hid (show Mer (ltOf cf) Fin.val mid E b d2 by have h9 := HX.out.2.1; rw [show mid + m - i = E by have := HE.out; omega] at h9; exact ⟨fun p q x1 x2 x3 => by rw [HP2.out.2.1 p (.inr (by omega)), HP2.out.2.1 q (.inr (by omega))]; exact h9.l p q x1 x2 x3, fun p q x1 x2 x3 => by rw [HP2.out.2.1 p (.inr (by have := HE.out; omega)), HP2.out.2.1 q (.inr (by have := HE.out; omega))]; exact h9.r p q x1 x2 x3, fun p q x1 x2 x3 x4 => by rw [HP2.out.2.1 p (.inr (by omega)), HP2.out.2.1 q (.inr (by have := HE.out; omega))]; exact h9.x p q x1 x2 x3 x4⟩)
                obtain ⟨d3, hd3⟩ : ∃ d3, d3 = d2 := ⟨_, rfl⟩
                have HP3 := Lib.hid (show PermIn mid b d2 d3 by rw [hd3]; exact permIn_refl _ _ _)
                have HO3 := Lib.hid (show SortedIn (stb (ltOf cf) Fin.val) mid b d3 by rw [hd3]; have := HE.out; first | (have h9 := HM2.out.r; rwa [show E = mid by omega] at h9) | (have h9 := HM2.out.l; rwa [show E = b by omega] at h9))
                have S5 : Aside (SW encF w0 blk off d3 w3) := by rw [hd3]; exact S4
                clear S4 hd3
                go_wp2_with fail
                go_end0
                have hh := halves (show a ≤ mid by omega) (show mid ≤ b by omega) (by rw [HZ1.out]; exact h3) HX.out.2.2 HP2.out HO2.out HP3.out HO3.out
                exact ⟨rfl, d3, permIn_trans _ _ _ _ _ (permIn_mono _ _ _ _ _ _ (by omega) (by have := HE.out; omega) h3 HR.out.1) hh.1, hh.2, S5.out⟩
          · rcases Nat.lt_or_ge a i with q2 | q2
            · rcases Nat.lt_or_ge E b with q3 | q3
              · have a1 : (i : Int) < (m : Int) := by have := HE.out; omega
                have a2 : ¬ (m : Int) < (E : Int) := by have := HE.out; omega
                have b1 : (a : Int) < (i : Int) := by have := HE.out; omega
                have b2 : ¬ (i : Int) < (mid : Int) := by have := HE.out; omega
                have c1 : (mid : Int) < (E : Int) := by have := HE.out; omega
                have c2 : (E : Int) < (b : Int) := by have := HE.out; omega
                go_wp2_with fail
                obtain ⟨d1, hd1⟩ : ∃ d1, d1 = d := ⟨_, rfl⟩
                have HR := Lib.hid (show Rot i m E d d1 by rw [hd1]; have := HE.out; first | (rw [show i = m by omega]; exact Rot.left _ _ _) | (rw [show E = m by omega]; exact Rot.right _ _ _))
                have S3 : Aside (SW encF w0 blk off d1 wr) := by rw [hd1]; exact S1
                clear S1 hd1
                have HZ1 := Lib.hid (show d1.size = d.size from HR.out.1.1)
                have HX := Lib.hid (HM.out.cut HSW.out (s := i) (d1 := d1) h3 (by omega) (by omega) ⟨by omega, by omega⟩ HS0.out HR0.out (by omega) (by omega) (by omega) (by omega) HI.out HJ.out (by rw [← show E = mid + m - i by have := HE.out; omega]; exact HR.out))
                obtain ⟨d2, hd2⟩ : ∃ d2, d2 = d1 := ⟨_, rfl⟩
                have HP2 := Lib.hid (show PermIn a mid d1 d2 by rw [hd2]; exact permIn_refl _ _ _)
                have HO2 := Lib.hid (show SortedIn (stb (ltOf cf) Fin.val) a mid d2 by rw [hd2]; first | (have h9 := HX.out.1.r; rwa [show i = a by omega] at h9) | (have h9 := HX.out.1.l; rwa [show i = mid by omega] at h9))
                have S4 : Aside (SW encF w0 blk off d2 wr) := by rw [hd2]; exact S3
                clear S3 hd2
                have HZ2 := Lib.hid (show d2.size = d.size from HP2.out.1.trans HZ1.out)
                have HM2 := Lib.hid (show Mer (ltOf cf) Fin.val mid E b d2 by have h9 := HX.out.2.1; rw [show mid + m - i = E by have := HE.out; omega] at h9; exact ⟨fun p q x1 x2 x3 => by rw [HP2.out.2.1 p (.inr (by omega)), HP2.out.2.1 q (.inr (by omega))]; exact h9.l p q x1 x2 x3, fun p q x1 x2 x3 => by rw [HP2.out.2.1 p (.inr (by have := HE.out; omega)), HP2.out.2.1 q (.inr (by have := HE.out; omega))]; exact h9.r p q x1 x2 x3, fun p q x1 x2 x3 x4 => by rw [HP2.out.2.1 p (.inr (by omega)), HP2.out.2.1 q (.inr (by have := HE.out; omega))]; exact h9.x p q x1 x2 x3 x4⟩)
                refine (HIH.out mid E b d2 _ (by omega) _ HZ2.out.symm (by rw [HZ2.out]; exact HS.out) S4.out (by omega) (by omega) (by rw [HZ2.out]; exact h3) (by rw [HZ2.out]; exact hsz) HM2.out).mono ?_
                rintro e w5 ⟨rfl, d3, hP3, hO3, hS5⟩
                have HP3 := Lib.hid hP3
                have HO3 := Lib.hid hO3
                have S5 : Aside (SW encF w0 blk off d3 w5) := hS5
                clear hP3 hO3 hS5 S4
                go_wp2_with fail
                go_end0
                have hh := halves (show a ≤ mid by omega) (show mid ≤ b by omega) (by rw [HZ1.out]; exact h3) HX.out.2.2 HP2.out HO2.out HP3.out HO3.out
                exact ⟨rfl, d3, permIn_trans _ _ _ _ _ (permIn_mono _ _ _ _ _ _ (by omega) (by have := HE.out; omega) h3 HR.out.1) hh.1, hh.2, S5.out⟩
              · (exfalso; have := HE.out; have := HE1.out; have := HE2.out; omega)
            · rcases Nat.lt_or_ge E b with q3 | q3
              · (exfalso; have := HE.out; have := HE1.out; have := HE2.out; omega)
              · (exfalso; have := HE.out; have := HE1.out; have := HE2.out; omega)
        · rcases Nat.lt_or_ge i mid with q1 | q1
          · rcases Nat.lt_or_ge a i with q2 | q2
            · rcases Nat.lt_or_ge E b with q3 | q3
              · (exfalso; have := HE.out; have := HE1.out; have := HE2.out; omega)
              · (exfalso; have := HE.out; have := HE1.out; have := HE2.out; omega)
            · rcases Nat.lt_or_ge E b with q3 | q3
              · (exfalso; have := HE.out; have := HE1.out; have := HE2.out; omega)
              · (exfalso; have := HE.out; have := HE1.out; have := HE2.out; omega)
          · rcases Nat.lt_or_ge a i with q2 | q2
            · rcases Nat.lt_or_ge E b with q3 | q3
              · (exfalso; have := HE.out; have := HE1.out; have := HE2.out; omega)
              · (exfalso; have := HE.out; have := HE1.out; have := HE2.out; omega)
            · rcases Nat.lt_or_ge E b with q3 | q3
              · (exfalso; have := HE.out; have := HE1.out; have := HE2.out; omega)
              · (exfalso; have := HE.out; have := HE1.out; have := HE2.out; omega)
  · go_enter Tryz.func104, Tryz.ntmps104
    obtain ⟨s0, hs0⟩ : ∃ s0 : Nat, s0 = a := ⟨_, rfl⟩
    obtain ⟨r0, hr0⟩ : ∃ r0 : Nat, r0 = m := ⟨_, rfl⟩
    have HS0 := Lib.hid (show s0 = if mid < m then mid + m - b else a by rw [hs0, if_neg (by omega)])
    have HR0 := Lib.hid (show r0 = if mid < m then mid else m by rw [hr0, if_neg (by omega)])
    have k1 : s0 ≤ r0 := by omega
    have k2 : r0 ≤ mid ∧ r0 ≤ m := ⟨by omega, by omega⟩
    have k3 : a ≤ s0 := by omega
    have k4 : mid + m ≤ b + s0 := by omega
    have n0 : ¬ (mid : Int) < (m : Int) := by omega
    have e1 : (a : Int) = (s0 : Int) := by omega
    have e2 : (m : Int) = (r0 : Int) := by omega
    have HE1 := Lib.hid e1
    have HE2 := Lib.hid e2
    clear hs0 hr0 e1 e2
    go_wp2_with fail
    go_loopw [20, 21] (fun s20 s21 wr => ∃ (i j : Nat), s20 = .int .i64 i ∧ s21 = .int .i64 j ∧ s0 ≤ i ∧ i ≤ j ∧ j ≤ r0 ∧ Aside (SW encF w0 blk off d wr) ∧ Hid (∀ c, s0 ≤ c → c < i → stb (ltOf cf) Fin.val d[mid + m - 1 - c]! d[c]! = false) ∧ Hid (∀ c, j ≤ c → c < r0 → stb (ltOf cf) Fin.val d[mid + m - 1 - c]! d[c]! = true)) (fun s20 s21 _ => (intOf s21).toNat - (intOf s20).toNat)
    case atStart => exact ⟨s0, r0, by have := HE1.out; congr 1 <;> omega, by have := HE2.out; congr 1 <;> omega, Nat.le_refl _, by omega, Nat.le_refl _, S0, fun q h1 h2 => by omega, fun q h1 h2 => by omega⟩
    case round =>
      clear S0
      obtain ⟨i, j, rfl, rfl, hai, hij, hjm, S1, HI, HJ⟩ := hrel
      rcases Nat.lt_or_ge i j with hlt | hge
      · have hltz : (i : Int) < (j : Int) := by omega
        obtain ⟨H, hH⟩ : ∃ q : Nat, q = (i + j) / 2 := ⟨_, rfl⟩
        have waH : IntKind.i64.wrap ((i : Int) + (j : Int)) = (i : Int) + (j : Int) := IntWalk.i64_in _ (by omega)
        have wbH : IntKind.u64.wrap ((i : Int) + (j : Int)) = (i : Int) + (j : Int) := by rw [IntKind.wrap_u64]; omega
        have wcH : ((i : Int) + (j : Int)) / 2 = (H : Int) := by omega
        have wdH : IntKind.i64.wrap (H : Int) = (H : Int) := IntWalk.i64_in _ (by omega)
        have Hl : i ≤ H := by omega
        have Hr : H < j := by omega
        obtain ⟨J, hJ⟩ : ∃ J : Nat, J = mid + m - 1 - H := ⟨_, rfl⟩
        have HJJ := Lib.hid hJ
        have eJ : (mid : Int) + (m : Int) - 1 - (H : Int) = (J : Int) := by omega
        have wJ : IntKind.i64.wrap (J : Int) = (J : Int) := IntWalk.i64_in _ (by omega)
        have HT := Lib.hid (show ltOf cf d[J]! d[H]! = stb (ltOf cf) Fin.val d[J]! d[H]! from HM.out.test (by omega) (by omega) (by omega) (by omega))
        have hJl : m ≤ J := by omega
        have hJb : J < b := by omega
        clear hH hJ
        cases hlv : ltOf cf d[J]! d[H]! with
        | false =>
          have hwk : IntKind.i64.wrap ((H : Int) + 1) = (H : Int) + 1 := IntWalk.i64_in _ (by omega)
          have HQ := Lib.hid (show ∀ c, s0 ≤ c → c < H + 1 → stb (ltOf cf) Fin.val d[mid + m - 1 - c]! d[c]! = false from fun c h4 h5 =>
            HM.out.last_false HSW.out (H := H) (by omega) (HM.out.one_false HSW.out (H := J) (by omega) (by rw [← HT.out]; exact hlv) _ (by have := HJJ.out; omega) (by omega)) c (by omega) (by omega))
          obtain ⟨iN10, hiN10⟩ : ∃ q, q = J := ⟨_, rfl⟩
          obtain ⟨jN10, hjN10⟩ : ∃ q, q = H := ⟨_, rfl⟩
          have ea10 : ((J : Int)).toNat = iN10 := by omega
          have pa10 : (0 : Int) ≤ (J : Int) := by omega
          have ba10 : (J : Int) < (d.size : Int) := by omega
          have ra10 : IntKind.i64.wrap ((J : Int)) = (J : Int) := IntWalk.i64_in _ (by omega)
          have ec10 : ((H : Int)).toNat = jN10 := by omega
          have pc10 : (0 : Int) ≤ (H : Int) := by omega
          have bc10 : (H : Int) < (d.size : Int) := by omega
          have rc10 : IntKind.i64.wrap ((H : Int)) = (H : Int) := IntWalk.i64_in _ (by omega)
          obtain ⟨x10, hx10⟩ : ∃ x, x = d[J]! := ⟨_, rfl⟩
          obtain ⟨y10, hy10⟩ : ∃ x, x = d[H]! := ⟨_, rfl⟩
          obtain ⟨X10, hX10⟩ : ∃ X : Int, X = (x10.val : Int) := ⟨_, rfl⟩
          obtain ⟨Y10, hY10⟩ : ∃ X : Int, X = (y10.val : Int) := ⟨_, rfl⟩
          obtain ⟨C10, hC10⟩ : ∃ C : Int, C = cf x10 y10 := ⟨_, rfl⟩
          have l10a : ∀ n os, (Sort.grow (wr.drewN n) os).cell? ⟨blk, off + iN10, none⟩ = some (.int .i64 X10) := by rw [hX10, hx10, hiN10]; exact S1.out.cl R (by omega) (J) (by omega)
          have l10b : ∀ n os, (Sort.grow (wr.drewN n) os).cell? ⟨blk, off + jN10, none⟩ = some (.int .i64 Y10) := by rw [hY10, hy10, hjN10]; exact S1.out.cl R (by omega) (H) (by omega)
          have hc10 : ∀ n os, Calls Tryz.prog g (#[.int .i64 X10, .int .i64 Y10] ++ cb) (Sort.grow (wr.drewN n) os) fun e w' => e = .returned (.int .i64 C10) ∧ ∃ q os', w' = Sort.grow ((Sort.grow (wr.drewN n) os).drewN q) os' := by rw [hX10, hY10, hC10]; exact S1.out.cmp HC.out (by omega) x10 y10
          have hv10 : ¬ C10 < 0 := by rw [hC10, hx10, hy10]; exact of_decide_eq_false hlv
          have hd10 : decide (C10 < 0) = false := decide_eq_false hv10
          clear hx10 hy10 hiN10 hjN10 hX10 hY10 hC10
          go_wp2_with fail
          go_quiet_grown (first | (go_at_fn g; refine Calls.grown_of (hc10 _ _)))
          have S2 : Aside (SW encF w0 blk off d (Sort.grow (wr.drewN nq) osq)) := S1.out.grown nq osq
          clear l10a l10b hc10 S1
          generalize Sort.grow (wr.drewN nq) osq = w2 at S2 ⊢
          clear nq osq
          clear ea10 ec10
          go_wp2_with fail
          go_roundw
          case rel => exact ⟨H + 1, j, by go_num, rfl, by omega, by omega, hjm, S2, HQ, HJ⟩
          case measure => simp [intOf]; omega
        | true =>
          have HQ := Lib.hid (show ∀ c, H ≤ c → c < r0 → stb (ltOf cf) Fin.val d[mid + m - 1 - c]! d[c]! = true from fun c h4 h5 =>
            HM.out.last_true HSW.out (H := H) (by omega) (HM.out.one_true HSW.out (H := J) (by omega) (by rw [← HT.out]; exact hlv) _ (by omega) (by have := HJJ.out; omega)) c h4 (by omega))
          obtain ⟨iN11, hiN11⟩ : ∃ q, q = J := ⟨_, rfl⟩
          obtain ⟨jN11, hjN11⟩ : ∃ q, q = H := ⟨_, rfl⟩
          have ea11 : ((J : Int)).toNat = iN11 := by omega
          have pa11 : (0 : Int) ≤ (J : Int) := by omega
          have ba11 : (J : Int) < (d.size : Int) := by omega
          have ra11 : IntKind.i64.wrap ((J : Int)) = (J : Int) := IntWalk.i64_in _ (by omega)
          have ec11 : ((H : Int)).toNat = jN11 := by omega
          have pc11 : (0 : Int) ≤ (H : Int) := by omega
          have bc11 : (H : Int) < (d.size : Int) := by omega
          have rc11 : IntKind.i64.wrap ((H : Int)) = (H : Int) := IntWalk.i64_in _ (by omega)
          obtain ⟨x11, hx11⟩ : ∃ x, x = d[J]! := ⟨_, rfl⟩
          obtain ⟨y11, hy11⟩ : ∃ x, x = d[H]! := ⟨_, rfl⟩
          obtain ⟨X11, hX11⟩ : ∃ X : Int, X = (x11.val : Int) := ⟨_, rfl⟩
          obtain ⟨Y11, hY11⟩ : ∃ X : Int, X = (y11.val : Int) := ⟨_, rfl⟩
          obtain ⟨C11, hC11⟩ : ∃ C : Int, C = cf x11 y11 := ⟨_, rfl⟩
          have l11a : ∀ n os, (Sort.grow (wr.drewN n) os).cell? ⟨blk, off + iN11, none⟩ = some (.int .i64 X11) := by rw [hX11, hx11, hiN11]; exact S1.out.cl R (by omega) (J) (by omega)
          have l11b : ∀ n os, (Sort.grow (wr.drewN n) os).cell? ⟨blk, off + jN11, none⟩ = some (.int .i64 Y11) := by rw [hY11, hy11, hjN11]; exact S1.out.cl R (by omega) (H) (by omega)
          have hc11 : ∀ n os, Calls Tryz.prog g (#[.int .i64 X11, .int .i64 Y11] ++ cb) (Sort.grow (wr.drewN n) os) fun e w' => e = .returned (.int .i64 C11) ∧ ∃ q os', w' = Sort.grow ((Sort.grow (wr.drewN n) os).drewN q) os' := by rw [hX11, hY11, hC11]; exact S1.out.cmp HC.out (by omega) x11 y11
          have hv11 : C11 < 0 := by rw [hC11, hx11, hy11]; exact of_decide_eq_true hlv
          have hd11 : decide (C11 < 0) = true := decide_eq_true hv11
          clear hx11 hy11 hiN11 hjN11 hX11 hY11 hC11
          go_wp2_with fail
          go_quiet_grown (first | (go_at_fn g; refine Calls.grown_of (hc11 _ _)))
          have S2 : Aside (SW encF w0 blk off d (Sort.grow (wr.drewN nq) osq)) := S1.out.grown nq osq
          clear l11a l11b hc11 S1
          generalize Sort.grow (wr.drewN nq) osq = w2 at S2 ⊢
          clear nq osq
          clear ea11 ec11
          go_wp2_with fail
          go_roundw
          case rel => exact ⟨i, H, rfl, rfl, hai, by omega, by omega, S2, HI, HQ⟩
          case measure => simp [intOf]; omega
      · obtain rfl : i = j := by omega
        obtain ⟨E, hE⟩ : ∃ E : Nat, E + i = mid + m := ⟨mid + m - i, by omega⟩
        have HE := Lib.hid hE
        have eE : (mid : Int) + (m : Int) - (i : Int) = (E : Int) := by omega
        have wE : IntKind.i64.wrap (E : Int) = (E : Int) := IntWalk.i64_in _ (by omega)
        have gE : m ≤ E ∧ mid ≤ E ∧ E ≤ b := ⟨by omega, by omega, by omega⟩
        clear hE
        rcases Nat.lt_or_ge i m with q0 | q0
        · rcases Nat.lt_or_ge i mid with q1 | q1
          · rcases Nat.lt_or_ge a i with q2 | q2
            · rcases Nat.lt_or_ge E b with q3 | q3
              · have a1 : (i : Int) < (m : Int) := by have := HE.out; omega
                have a2 : (m : Int) < (E : Int) := by have := HE.out; omega
                have b1 : (a : Int) < (i : Int) := by have := HE.out; omega
                have b2 : (i : Int) < (mid : Int) := by have := HE.out; omega
                have c1 : (mid : Int) < (E : Int) := by have := HE.out; omega
                have c2 : (E : Int) < (b : Int) := by have := HE.out; omega
                go_wp2_with fail
                refine (rotate_any _ blk off cap i m E d0 d w0 _ R HS.out S1.out (by omega) (by omega) (by have := HE.out; omega) hsz).mono ?_
                rintro e w3 ⟨rfl, d1, hR, hS3⟩
                have HR := Lib.hid hR
                have S3 : Aside (SW encF w0 blk off d1 w3) := hS3
                clear hS3 hR S1
                have HZ1 := Lib.hid (show d1.size = d.size from HR.out.1.1)
                have HX := Lib.hid (HM.out.cut HSW.out (s := i) (d1 := d1) h3 (by omega) (by omega) ⟨by omega, by omega⟩ HS0.out HR0.out (by omega) (by omega) (by omega) (by omega) HI.out HJ.out (by rw [← show E = mid + m - i by have := HE.out; omega]; exact HR.out))
                go_wp2_with fail
                refine (HIH.out a i mid d1 _ (by omega) _ HZ1.out.symm (by rw [HZ1.out]; exact HS.out) S3.out (by omega) (by omega) (by rw [HZ1.out]; omega) (by rw [HZ1.out]; exact hsz) HX.out.1).mono ?_
                rintro e w4 ⟨rfl, d2, hP2, hO2, hS4⟩
                have HP2 := Lib.hid hP2
                have HO2 := Lib.hid hO2
                have S4 : Aside (SW encF w0 blk off d2 w4) := hS4
                clear hP2 hO2 hS4 S3
                have HZ2 := Lib.hid (show d2.size = d.size from HP2.out.1.trans HZ1.out)
                have HM2 := Lib.hid (show Mer (ltOf cf) Fin.val mid E b d2 by have h9 := HX.out.2.1; rw [show mid + m - i = E by have := HE.out; omega] at h9; exact ⟨fun p q x1 x2 x3 => by rw [HP2.out.2.1 p (.inr (by omega)), HP2.out.2.1 q (.inr (by omega))]; exact h9.l p q x1 x2 x3, fun p q x1 x2 x3 => by rw [HP2.out.2.1 p (.inr (by have := HE.out; omega)), HP2.out.2.1 q (.inr (by have := HE.out; omega))]; exact h9.r p q x1 x2 x3, fun p q x1 x2 x3 x4 => by rw [HP2.out.2.1 p (.inr (by omega)), HP2.out.2.1 q (.inr (by have := HE.out; omega))]; exact h9.x p q x1 x2 x3 x4⟩)
                go_wp2_with fail
                refine (HIH.out mid E b d2 _ (by omega) _ HZ2.out.symm (by rw [HZ2.out]; exact HS.out) S4.out (by omega) (by omega) (by rw [HZ2.out]; exact h3) (by rw [HZ2.out]; exact hsz) HM2.out).mono ?_
                rintro e w5 ⟨rfl, d3, hP3, hO3, hS5⟩
                have HP3 := Lib.hid hP3
                have HO3 := Lib.hid hO3
                have S5 : Aside (SW encF w0 blk off d3 w5) := hS5
                clear hP3 hO3 hS5 S4
                go_wp2_with fail
                go_end0
                have hh := halves (show a ≤ mid by omega) (show mid ≤ b by omega) (by rw [HZ1.out]; exact h3) HX.out.2.2 HP2.out HO2.out HP3.out HO3.out
                exact ⟨rfl, d3, permIn_trans _ _ _ _ _ (permIn_mono _ _ _ _ _ _ (by omega) (by have := HE.out; omega) h3 HR.out.1) hh.1, hh.2, S5.out⟩
              · (exfalso; have := HE.out; have := HE1.out; have := HE2.out; omega)
            · rcases Nat.lt_or_ge E b with q3 | q3
              · have a1 : (i : Int) < (m : Int) := by have := HE.out; omega
                have a2 : (m : Int) < (E : Int) := by have := HE.out; omega
                have b1 : ¬ (a : Int) < (i : Int) := by have := HE.out; omega
                have b2 : (i : Int) < (mid : Int) := by have := HE.out; omega
                have c1 : (mid : Int) < (E : Int) := by have := HE.out; omega
                have c2 : (E : Int) < (b : Int) := by have := HE.out; omega
                go_wp2_with fail
                refine (rotate_any _ blk off cap i m E d0 d w0 _ R HS.out S1.out (by omega) (by omega) (by have := HE.out; omega) hsz).mono ?_
                rintro e w3 ⟨rfl, d1, hR, hS3⟩
                have HR := Lib.hid hR
                have S3 : Aside (SW encF w0 blk off d1 w3) := hS3
                clear hS3 hR S1
                have HZ1 := Lib.hid (show d1.size = d.size from HR.out.1.1)
                have HX := Lib.hid (HM.out.cut HSW.out (s := i) (d1 := d1) h3 (by omega) (by omega) ⟨by omega, by omega⟩ HS0.out HR0.out (by omega) (by omega) (by omega) (by omega) HI.out HJ.out (by rw [← show E = mid + m - i by have := HE.out; omega]; exact HR.out))
                obtain ⟨d2, hd2⟩ : ∃ d2, d2 = d1 := ⟨_, rfl⟩
                have HP2 := Lib.hid (show PermIn a mid d1 d2 by rw [hd2]; exact permIn_refl _ _ _)
                have HO2 := Lib.hid (show SortedIn (stb (ltOf cf) Fin.val) a mid d2 by rw [hd2]; first | (have h9 := HX.out.1.r; rwa [show i = a by omega] at h9) | (have h9 := HX.out.1.l; rwa [show i = mid by omega] at h9))
                have S4 : Aside (SW encF w0 blk off d2 w3) := by rw [hd2]; exact S3
                clear S3 hd2
                have HZ2 := Lib.hid (show d2.size = d.size from HP2.out.1.trans HZ1.out)
                have HM2 := Lib.hid (show Mer (ltOf cf) Fin.val mid E b d2 by have h9 := HX.out.2.1; rw [show mid + m - i = E by have := HE.out; omega] at h9; exact ⟨fun p q x1 x2 x3 => by rw [HP2.out.2.1 p (.inr (by omega)), HP2.out.2.1 q (.inr (by omega))]; exact h9.l p q x1 x2 x3, fun p q x1 x2 x3 => by rw [HP2.out.2.1 p (.inr (by have := HE.out; omega)), HP2.out.2.1 q (.inr (by have := HE.out; omega))]; exact h9.r p q x1 x2 x3, fun p q x1 x2 x3 x4 => by rw [HP2.out.2.1 p (.inr (by omega)), HP2.out.2.1 q (.inr (by have := HE.out; omega))]; exact h9.x p q x1 x2 x3 x4⟩)
                go_wp2_with fail
                refine (HIH.out mid E b d2 _ (by omega) _ HZ2.out.symm (by rw [HZ2.out]; exact HS.out) S4.out (by omega) (by omega) (by rw [HZ2.out]; exact h3) (by rw [HZ2.out]; exact hsz) HM2.out).mono ?_
                rintro e w5 ⟨rfl, d3, hP3, hO3, hS5⟩
                have HP3 := Lib.hid hP3
                have HO3 := Lib.hid hO3
                have S5 : Aside (SW encF w0 blk off d3 w5) := hS5
                clear hP3 hO3 hS5 S4
                go_wp2_with fail
                go_end0
                have hh := halves (show a ≤ mid by omega) (show mid ≤ b by omega) (by rw [HZ1.out]; exact h3) HX.out.2.2 HP2.out HO2.out HP3.out HO3.out
                exact ⟨rfl, d3, permIn_trans _ _ _ _ _ (permIn_mono _ _ _ _ _ _ (by omega) (by have := HE.out; omega) h3 HR.out.1) hh.1, hh.2, S5.out⟩
              · have a1 : (i : Int) < (m : Int) := by have := HE.out; omega
                have a2 : (m : Int) < (E : Int) := by have := HE.out; omega
                have b1 : ¬ (a : Int) < (i : Int) := by have := HE.out; omega
                have b2 : (i : Int) < (mid : Int) := by have := HE.out; omega
                have c1 : (mid : Int) < (E : Int) := by have := HE.out; omega
                have c2 : ¬ (E : Int) < (b : Int) := by have := HE.out; omega
                go_wp2_with fail
                refine (rotate_any _ blk off cap i m E d0 d w0 _ R HS.out S1.out (by omega) (by omega) (by have := HE.out; omega) hsz).mono ?_
                rintro e w3 ⟨rfl, d1, hR, hS3⟩
                have HR := Lib.hid hR
                have S3 : Aside (SW encF w0 blk off d1 w3) := hS3
                clear hS3 hR S1
                have HZ1 := Lib.hid (show d1.size = d.size from HR.out.1.1)
                have HX := Lib.hid (HM.out.cut HSW.out (s := i) (d1 := d1) h3 (by omega) (by omega) ⟨by omega, by omega⟩ HS0.out HR0.out (by omega) (by omega) (by omega) (by omega) HI.out HJ.out (by rw [← show E = mid + m - i by have := HE.out; omega]; exact HR.out))
                obtain ⟨d2, hd2⟩ : ∃ d2, d2 = d1 := ⟨_, rfl⟩
                have HP2 := Lib.hid (show PermIn a mid d1 d2 by rw [hd2]; exact permIn_refl _ _ _)
                have HO2 := Lib.hid (show SortedIn (stb (ltOf cf) Fin.val) a mid d2 by rw [hd2]; first | (have h9 := HX.out.1.r; rwa [show i = a by omega] at h9) | (have h9 := HX.out.1.l; rwa [show i = mid by omega] at h9))
                have S4 : Aside (SW encF w0 blk off d2 w3) := by rw [hd2]; exact S3
                clear S3 hd2
                have HZ2 := Lib.hid (show d2.size = d.size from HP2.out.1.trans HZ1.out)
                have HM2 := Lib.hid (show Mer (ltOf cf) Fin.val mid E b d2 by have h9 := HX.out.2.1; rw [show mid + m - i = E by have := HE.out; omega] at h9; exact ⟨fun p q x1 x2 x3 => by rw [HP2.out.2.1 p (.inr (by omega)), HP2.out.2.1 q (.inr (by omega))]; exact h9.l p q x1 x2 x3, fun p q x1 x2 x3 => by rw [HP2.out.2.1 p (.inr (by have := HE.out; omega)), HP2.out.2.1 q (.inr (by have := HE.out; omega))]; exact h9.r p q x1 x2 x3, fun p q x1 x2 x3 x4 => by rw [HP2.out.2.1 p (.inr (by omega)), HP2.out.2.1 q (.inr (by have := HE.out; omega))]; exact h9.x p q x1 x2 x3 x4⟩)
                obtain ⟨d3, hd3⟩ : ∃ d3, d3 = d2 := ⟨_, rfl⟩
                have HP3 := Lib.hid (show PermIn mid b d2 d3 by rw [hd3]; exact permIn_refl _ _ _)
                have HO3 := Lib.hid (show SortedIn (stb (ltOf cf) Fin.val) mid b d3 by rw [hd3]; have := HE.out; first | (have h9 := HM2.out.r; rwa [show E = mid by omega] at h9) | (have h9 := HM2.out.l; rwa [show E = b by omega] at h9))
                have S5 : Aside (SW encF w0 blk off d3 w3) := by rw [hd3]; exact S4
                clear S4 hd3
                go_wp2_with fail
                go_end0
                have hh := halves (show a ≤ mid by omega) (show mid ≤ b by omega) (by rw [HZ1.out]; exact h3) HX.out.2.2 HP2.out HO2.out HP3.out HO3.out
                exact ⟨rfl, d3, permIn_trans _ _ _ _ _ (permIn_mono _ _ _ _ _ _ (by omega) (by have := HE.out; omega) h3 HR.out.1) hh.1, hh.2, S5.out⟩
          · rcases Nat.lt_or_ge a i with q2 | q2
            · rcases Nat.lt_or_ge E b with q3 | q3
              · (exfalso; have := HE.out; have := HE1.out; have := HE2.out; omega)
              · (exfalso; have := HE.out; have := HE1.out; have := HE2.out; omega)
            · rcases Nat.lt_or_ge E b with q3 | q3
              · (exfalso; have := HE.out; have := HE1.out; have := HE2.out; omega)
              · (exfalso; have := HE.out; have := HE1.out; have := HE2.out; omega)
        · rcases Nat.lt_or_ge i mid with q1 | q1
          · rcases Nat.lt_or_ge a i with q2 | q2
            · rcases Nat.lt_or_ge E b with q3 | q3
              · have a1 : ¬ (i : Int) < (m : Int) := by have := HE.out; omega
                have a2 : (m : Int) < (E : Int) := by have := HE.out; omega
                have b1 : (a : Int) < (i : Int) := by have := HE.out; omega
                have b2 : (i : Int) < (mid : Int) := by have := HE.out; omega
                have c1 : ¬ (mid : Int) < (E : Int) := by have := HE.out; omega
                have c2 : (E : Int) < (b : Int) := by have := HE.out; omega
                go_wp2_with fail
                obtain ⟨d1, hd1⟩ : ∃ d1, d1 = d := ⟨_, rfl⟩
                have HR := Lib.hid (show Rot i m E d d1 by rw [hd1]; have := HE.out; first | (rw [show i = m by omega]; exact Rot.left _ _ _) | (rw [show E = m by omega]; exact Rot.right _ _ _))
                have S3 : Aside (SW encF w0 blk off d1 wr) := by rw [hd1]; exact S1
                clear S1 hd1
                have HZ1 := Lib.hid (show d1.size = d.size from HR.out.1.1)
                have HX := Lib.hid (HM.out.cut HSW.out (s := i) (d1 := d1) h3 (by omega) (by omega) ⟨by omega, by omega⟩ HS0.out HR0.out (by omega) (by omega) (by omega) (by omega) HI.out HJ.out (by rw [← show E = mid + m - i by have := HE.out; omega]; exact HR.out))
                refine (HIH.out a i mid d1 _ (by omega) _ HZ1.out.symm (by rw [HZ1.out]; exact HS.out) S3.out (by omega) (by omega) (by rw [HZ1.out]; omega) (by rw [HZ1.out]; exact hsz) HX.out.1).mono ?_
                rintro e w4 ⟨rfl, d2, hP2, hO2, hS4⟩
                have HP2 := Lib.hid hP2
                have HO2 := Lib.hid hO2
                have S4 : Aside (SW encF w0 blk off d2 w4) := hS4
                clear hP2 hO2 hS4 S3
                have HZ2 := Lib.hid (show d2.size = d.size from HP2.out.1.trans HZ1.out)
                have HM2 := Lib.hid (show Mer (ltOf cf) Fin.val mid E b d2 by have h9 := HX.out.2.1; rw [show mid + m - i = E by have := HE.out; omega] at h9; exact ⟨fun p q x1 x2 x3 => by rw [HP2.out.2.1 p (.inr (by omega)), HP2.out.2.1 q (.inr (by omega))]; exact h9.l p q x1 x2 x3, fun p q x1 x2 x3 => by rw [HP2.out.2.1 p (.inr (by have := HE.out; omega)), HP2.out.2.1 q (.inr (by have := HE.out; omega))]; exact h9.r p q x1 x2 x3, fun p q x1 x2 x3 x4 => by rw [HP2.out.2.1 p (.inr (by omega)), HP2.out.2.1 q (.inr (by have := HE.out; omega))]; exact h9.x p q x1 x2 x3 x4⟩)
                obtain ⟨d3, hd3⟩ : ∃ d3, d3 = d2 := ⟨_, rfl⟩
                have HP3 := Lib.hid (show PermIn mid b d2 d3 by rw [hd3]; exact permIn_refl _ _ _)
                have HO3 := Lib.hid (show SortedIn (stb (ltOf cf) Fin.val) mid b d3 by rw [hd3]; have := HE.out; first | (have h9 := HM2.out.r; rwa [show E = mid by omega] at h9) | (have h9 := HM2.out.l; rwa [show E = b by omega] at h9))
                have S5 : Aside (SW encF w0 blk off d3 w4) := by rw [hd3]; exact S4
                clear S4 hd3
                go_wp2_with fail
                go_end0
                have hh := halves (show a ≤ mid by omega) (show mid ≤ b by omega) (by rw [HZ1.out]; exact h3) HX.out.2.2 HP2.out HO2.out HP3.out HO3.out
                exact ⟨rfl, d3, permIn_trans _ _ _ _ _ (permIn_mono _ _ _ _ _ _ (by omega) (by have := HE.out; omega) h3 HR.out.1) hh.1, hh.2, S5.out⟩
              · (exfalso; have := HE.out; have := HE1.out; have := HE2.out; omega)
            · rcases Nat.lt_or_ge E b with q3 | q3
              · (exfalso; have := HE.out; have := HE1.out; have := HE2.out; omega)
              · (exfalso; have := HE.out; have := HE1.out; have := HE2.out; omega)
          · rcases Nat.lt_or_ge a i with q2 | q2
            · rcases Nat.lt_or_ge E b with q3 | q3
              · have a1 : ¬ (i : Int) < (m : Int) := by have := HE.out; omega
                have a2 : ¬ (m : Int) < (E : Int) := by have := HE.out; omega
                have b1 : (a : Int) < (i : Int) := by have := HE.out; omega
                have b2 : ¬ (i : Int) < (mid : Int) := by have := HE.out; omega
                have c1 : ¬ (mid : Int) < (E : Int) := by have := HE.out; omega
                have c2 : (E : Int) < (b : Int) := by have := HE.out; omega
                go_wp2_with fail
                obtain ⟨d1, hd1⟩ : ∃ d1, d1 = d := ⟨_, rfl⟩
                have HR := Lib.hid (show Rot i m E d d1 by rw [hd1]; have := HE.out; first | (rw [show i = m by omega]; exact Rot.left _ _ _) | (rw [show E = m by omega]; exact Rot.right _ _ _))
                have S3 : Aside (SW encF w0 blk off d1 wr) := by rw [hd1]; exact S1
                clear S1 hd1
                have HZ1 := Lib.hid (show d1.size = d.size from HR.out.1.1)
                have HX := Lib.hid (HM.out.cut HSW.out (s := i) (d1 := d1) h3 (by omega) (by omega) ⟨by omega, by omega⟩ HS0.out HR0.out (by omega) (by omega) (by omega) (by omega) HI.out HJ.out (by rw [← show E = mid + m - i by have := HE.out; omega]; exact HR.out))
                obtain ⟨d2, hd2⟩ : ∃ d2, d2 = d1 := ⟨_, rfl⟩
                have HP2 := Lib.hid (show PermIn a mid d1 d2 by rw [hd2]; exact permIn_refl _ _ _)
                have HO2 := Lib.hid (show SortedIn (stb (ltOf cf) Fin.val) a mid d2 by rw [hd2]; first | (have h9 := HX.out.1.r; rwa [show i = a by omega] at h9) | (have h9 := HX.out.1.l; rwa [show i = mid by omega] at h9))
                have S4 : Aside (SW encF w0 blk off d2 wr) := by rw [hd2]; exact S3
                clear S3 hd2
                have HZ2 := Lib.hid (show d2.size = d.size from HP2.out.1.trans HZ1.out)
                have HM2 := Lib.hid (show Mer (ltOf cf) Fin.val mid E b d2 by have h9 := HX.out.2.1; rw [show mid + m - i = E by have := HE.out; omega] at h9; exact ⟨fun p q x1 x2 x3 => by rw [HP2.out.2.1 p (.inr (by omega)), HP2.out.2.1 q (.inr (by omega))]; exact h9.l p q x1 x2 x3, fun p q x1 x2 x3 => by rw [HP2.out.2.1 p (.inr (by have := HE.out; omega)), HP2.out.2.1 q (.inr (by have := HE.out; omega))]; exact h9.r p q x1 x2 x3, fun p q x1 x2 x3 x4 => by rw [HP2.out.2.1 p (.inr (by omega)), HP2.out.2.1 q (.inr (by have := HE.out; omega))]; exact h9.x p q x1 x2 x3 x4⟩)
                obtain ⟨d3, hd3⟩ : ∃ d3, d3 = d2 := ⟨_, rfl⟩
                have HP3 := Lib.hid (show PermIn mid b d2 d3 by rw [hd3]; exact permIn_refl _ _ _)
                have HO3 := Lib.hid (show SortedIn (stb (ltOf cf) Fin.val) mid b d3 by rw [hd3]; have := HE.out; first | (have h9 := HM2.out.r; rwa [show E = mid by omega] at h9) | (have h9 := HM2.out.l; rwa [show E = b by omega] at h9))
                have S5 : Aside (SW encF w0 blk off d3 wr) := by rw [hd3]; exact S4
                clear S4 hd3
                go_end0
                have hh := halves (show a ≤ mid by omega) (show mid ≤ b by omega) (by rw [HZ1.out]; exact h3) HX.out.2.2 HP2.out HO2.out HP3.out HO3.out
                exact ⟨rfl, d3, permIn_trans _ _ _ _ _ (permIn_mono _ _ _ _ _ _ (by omega) (by have := HE.out; omega) h3 HR.out.1) hh.1, hh.2, S5.out⟩
              · (exfalso; have := HE.out; have := HE1.out; have := HE2.out; omega)
            · rcases Nat.lt_or_ge E b with q3 | q3
              · (exfalso; have := HE.out; have := HE1.out; have := HE2.out; omega)
              · (exfalso; have := HE.out; have := HE1.out; have := HE2.out; omega)
end Go.Proofs.YtihndbkaoejnnaaGreatDoor
