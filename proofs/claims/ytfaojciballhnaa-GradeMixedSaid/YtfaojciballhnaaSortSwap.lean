/- The library's exchange of two stretches, and its rotation, from a world of the sort's to a world of the sort's. Conditions: none but these. -/
import Derived.Shelf.SlSortCmp.Kit1
import Derived.Sort.WalkB2
import Derived.Sort.WalkB12
import Derived.Deep.LoopGhost
import Derived.BigRegion
import Derived.Test.YtfaojciballhnaaStabPlain
import Derived.Test.YtfaojciballhnaaOwn
set_option linter.unusedSimpArgs false
set_option linter.unusedVariables false
namespace Go.Proofs.Ytfaojciballhnaa
open Go Go.RowKit Go.Lib Go.Shelf Go.Sort Go.Proofs.Ytfaojciballhnaa.P
/-- a row's places, the last of which is N. -/
def encF {N : Nat} (x : Fin (N + 1)) : Value := .int .i64 (x.val : Int)
theorem encF_one {N : Nat} : OneCell (encF (N := N)) := fun _ => rfl
variable {N : Nat}
set_option maxRecDepth 1000000 in
set_option maxHeartbeats 8000000 in
theorem swapRange_any (cv : Value) (blk off cap a b n : Nat) (d0 d : Array (Fin (N + 1))) (w0 w : World)
    (R : Row1 encF w0 blk off d0) (hs : d0.size = d.size) (S : SW encF w0 blk off d w) (h1 : a + n ≤ b) (h2 : b + n ≤ d.size) (hsz : d.size ≤ 4096) :
    Calls Try.prog 54 #[.slice (some ⟨blk, off, none⟩) d.size cap, .int .i64 a, .int .i64 b, .int .i64 n, cv] w fun e w' => e = .returned (.tuple #[]) ∧ SW encF w0 blk off (swpN d a b n) w' := by
  have mixed : Try.prog.follows .mixedOrders = true := by kernel_rfl
  have S0 : Aside (SW encF w0 blk off d w) := S
  clear S
  go_enter Try.func54, Try.ntmps54
  go_wp2_with fail
  go_loopw [10] (fun s10 wr => ∃ i : Nat, i ≤ n ∧ s10 = .int .i64 i ∧ Aside (SW encF w0 blk off (swpN d a b i) wr)) (fun s10 _ => n - (intOf s10).toNat)
  case atStart => exact ⟨0, Nat.zero_le _, rfl, S0⟩
  case round =>
    clear S0
    obtain ⟨i, hi, rfl, S1⟩ := hrel
    rcases Nat.lt_or_ge i n with hlt | hge
    · obtain ⟨dk, hdk⟩ : ∃ dk, dk = swpN d a b i := ⟨_, rfl⟩
      have hds : dk.size = d.size := by rw [hdk, swpN_size]
      have HD := Lib.hid hdk
      rw [← hdk] at S1
      clear hdk
      have hiw : IntKind.i64.wrap ((i : Int) + 1) = (i : Int) + 1 := IntWalk.i64_in _ (by omega)
      obtain ⟨iN1, hiN1⟩ : ∃ q, q = a + i := ⟨_, rfl⟩
      obtain ⟨jN1, hjN1⟩ : ∃ q, q = b + i := ⟨_, rfl⟩
      have ea1 : ((a : Int) + (i : Int)).toNat = iN1 := by omega
      have pa1 : (0 : Int) ≤ (a : Int) + (i : Int) := by omega
      have ba1 : (a : Int) + (i : Int) < (d.size : Int) := by omega
      have ra1 : IntKind.i64.wrap ((a : Int) + (i : Int)) = (a : Int) + (i : Int) := IntWalk.i64_in _ (by omega)
      have ec1 : ((b : Int) + (i : Int)).toNat = jN1 := by omega
      have pc1 : (0 : Int) ≤ (b : Int) + (i : Int) := by omega
      have bc1 : (b : Int) + (i : Int) < (d.size : Int) := by omega
      have rc1 : IntKind.i64.wrap ((b : Int) + (i : Int)) = (b : Int) + (i : Int) := IntWalk.i64_in _ (by omega)
      obtain ⟨x1, hx1⟩ : ∃ x : Int, x = ((dk[a + i]!).val : Int) := ⟨_, rfl⟩
      obtain ⟨y1, hy1⟩ : ∃ x : Int, x = ((dk[b + i]!).val : Int) := ⟨_, rfl⟩
      have S2 : Aside (SW encF w0 blk off (swp dk (a + i) (b + i)) ((wr.setCell ⟨blk, off + iN1, none⟩ (.int .i64 y1)).setCell ⟨blk, off + jN1, none⟩ (.int .i64 x1)).drew) := by rw [hiN1, hjN1, hx1, hy1]; exact S1.out.swapped R (a + i) (b + i) (by omega) (by omega)
      have c1a : wr.cell? ⟨blk, off + iN1, none⟩ = some (.int .i64 x1) := by rw [hiN1, hx1]; exact S1.out.c1 R (by omega) (a + i) (by omega)
      have c1b : wr.cell? ⟨blk, off + jN1, none⟩ = some (.int .i64 y1) := by rw [hjN1, hy1]; exact S1.out.c1 R (by omega) (b + i) (by omega)
      have f1a : wr.frozen? ⟨blk, off + iN1, none⟩ = false := by rw [hiN1]; exact S1.out.f1 R (by omega) (a + i) (by omega)
      have f1b : wr.frozen? ⟨blk, off + jN1, none⟩ = false := by rw [hjN1]; exact S1.out.f1 R (by omega) (b + i) (by omega)
      obtain ⟨u1, c1c⟩ : ∃ u, (wr.setCell ⟨blk, off + iN1, none⟩ (.int .i64 y1)).cell? ⟨blk, off + jN1, none⟩ = some u := by rw [hiN1, hjN1]; exact S1.out.c2 R (by omega) (a + i) (b + i) (by omega) (by omega) _
      clear S1 hx1 hy1 hiN1 hjN1
      go_wp2_with fail
      go_big_region_o
      clear c1a c1b c1c f1a f1b
      generalize ((wr.setCell ⟨blk, off + iN1, none⟩ (.int .i64 y1)).setCell ⟨blk, off + jN1, none⟩ (.int .i64 x1)).drew = w2 at S2 ⊢
      clear ea1 ec1
      go_wp2_with fail
      go_roundw
      case rel => exact ⟨i + 1, hlt, by go_num, by rw [swpN, ← HD.out]; exact S2⟩
      case measure => simp [intOf]; omega
    · obtain rfl : i = n := by omega
      go_wp2_with fail
      go_end0
      exact ⟨rfl, S1.out⟩
theorem swapRange_at (cv : Value) (blk off cap a b n : Nat) (az bz nz : Int) (ea : az = (a : Int)) (eb : bz = (b : Int)) (en : nz = (n : Int)) (d0 d : Array (Fin (N + 1))) (w0 w : World) (z : Nat) (hz : z = d.size)
    (R : Row1 encF w0 blk off d0) (hs : d0.size = d.size) (S : SW encF w0 blk off d w) (h1 : a + n ≤ b) (h2 : b + n ≤ d.size) (hsz : d.size ≤ 4096) :
    Calls Try.prog 54 #[.slice (some ⟨blk, off, none⟩) z cap, .int .i64 az, .int .i64 bz, .int .i64 nz, cv] w fun e w' => e = .returned (.tuple #[]) ∧ SW encF w0 blk off (swpN d a b n) w' := by
  subst ea eb en hz
  exact swapRange_any cv blk off cap a b n d0 d w0 w R hs S h1 h2 hsz
set_option maxRecDepth 1000000 in
set_option maxHeartbeats 8000000 in
theorem rotate_any (cv : Value) (blk off cap a m b : Nat) (d0 d : Array (Fin (N + 1))) (w0 w : World)
    (R : Row1 encF w0 blk off d0) (hs : d0.size = d.size) (S : SW encF w0 blk off d w) (h1 : a < m) (h2 : m < b) (h3 : b ≤ d.size) (hsz : d.size ≤ 4096) :
    Calls Try.prog 53 #[.slice (some ⟨blk, off, none⟩) d.size cap, .int .i64 a, .int .i64 m, .int .i64 b, cv] w fun e w' => e = .returned (.tuple #[]) ∧ ∃ d', Rot a m b d d' ∧ SW encF w0 blk off d' w' := by
  have mixed : Try.prog.follows .mixedOrders = true := by kernel_rfl
  have S0 : Aside (SW encF w0 blk off d w) := S
  clear S
  have w1 : IntKind.i64.wrap ((m : Int) - (a : Int)) = (m : Int) - (a : Int) := IntWalk.i64_in _ (by omega)
  have w2 : IntKind.i64.wrap ((b : Int) - (m : Int)) = (b : Int) - (m : Int) := IntWalk.i64_in _ (by omega)
  go_enter Try.func53, Try.ntmps53
  go_wp2_with fail
  clear w1 w2
  go_loopw [10, 11] (fun s10 s11 wr => ∃ (i j : Nat) (dk : Array (Fin (N + 1))), s10 = .int .i64 i ∧ s11 = .int .i64 j ∧ 1 ≤ i ∧ 1 ≤ j ∧ a + i ≤ m ∧ m + j ≤ b ∧ dk.size = d.size ∧ Aside (SW encF w0 blk off dk wr) ∧ Hid (∀ d', Rot (m - i) m (m + j) dk d' → Rot a m b d d')) (fun s10 s11 _ => (intOf s10).toNat + (intOf s11).toNat)
  case atStart => exact ⟨m - a, b - m, d, by congr 1; omega, by congr 1; omega, by omega, by omega, by omega, by omega, rfl, S0, fun d' h => by rwa [show m - (m - a) = a by omega, show m + (b - m) = b by omega] at h⟩
  case round =>
    clear S0
    obtain ⟨i, j, dk, rfl, rfl, hi, hj, him, hjb, hds, S1, HR⟩ := hrel
    have w3 : IntKind.i64.wrap ((m : Int) - (i : Int)) = (m : Int) - (i : Int) := IntWalk.i64_in _ (by omega)
    rcases Nat.lt_trichotomy i j with hlt | heq | hgt
    · have w4 : IntKind.i64.wrap ((m : Int) + (j : Int)) = (m : Int) + (j : Int) := IntWalk.i64_in _ (by omega)
      have w5 : IntKind.i64.wrap ((m : Int) + (j : Int) - (i : Int)) = (m : Int) + (j : Int) - (i : Int) := IntWalk.i64_in _ (by omega)
      have w6 : IntKind.i64.wrap ((j : Int) - (i : Int)) = (j : Int) - (i : Int) := IntWalk.i64_in _ (by omega)
      have n1 : ¬ (i : Int) = (j : Int) := by omega
      have n2 : ¬ (j : Int) < (i : Int) := by omega
      have n3 : decide ((i : Int) > (j : Int)) = false := decide_eq_false (by omega)
      go_wp2_with fail
      refine (swapRange_at _ blk off cap (m - i) (m + j - i) i _ _ _ (by omega) (by omega) rfl d0 dk w0 _ _ hds.symm R (by omega) S1.out (by omega) (by omega) (by omega)).mono ?_
      rintro e w8 ⟨rfl, S2⟩
      have S2 := (show Aside _ from S2)
      have HQ := Lib.hid (fun d' (h : Rot (m - i) m (m + (j - i)) (swpN dk (m - i) (m + j - i) i) d') => HR.out d' (Rot.lt (s := m - i) (m := m) (e := m + j) (by omega) (by omega) (by omega) (by omega) (by rw [show m - (m - i) = i by omega, show m + j - i = m + (j - i) by omega] at *; exact h)))
      clear S1
      go_wp2_with fail
      go_roundw
      case rel => exact ⟨i, j - i, swpN dk (m - i) (m + j - i) i, rfl, by congr 1; omega, hi, by omega, him, by omega, by rw [swpN_size]; exact hds, S2, HQ⟩
      case measure => simp [intOf]; omega
    · subst heq
      go_wp2_with fail
      refine (swapRange_at _ blk off cap (m - i) m i _ _ _ (by omega) rfl rfl d0 dk w0 _ _ hds.symm R (by omega) S1.out (by omega) (by omega) (by omega)).mono ?_
      rintro e w8 ⟨rfl, S2⟩
      have S2 := (show Aside _ from S2)
      go_wp2_with fail
      go_end0
      refine ⟨rfl, _, HR.out _ ?_, S2.out⟩
      have := Rot.same (s := m - i) (m := m) (e := m + i) (d := dk) (by omega) (by omega) (by omega) (by omega)
      rwa [show m - (m - i) = i by omega] at this
    · have w6 : IntKind.i64.wrap ((i : Int) - (j : Int)) = (i : Int) - (j : Int) := IntWalk.i64_in _ (by omega)
      have n1 : ¬ (i : Int) = (j : Int) := by omega
      have n2 : (j : Int) < (i : Int) := by omega
      have n3 : decide ((i : Int) > (j : Int)) = true := decide_eq_true (by omega)
      go_wp2_with fail
      refine (swapRange_at _ blk off cap (m - i) m j _ _ _ (by omega) rfl rfl d0 dk w0 _ _ hds.symm R (by omega) S1.out (by omega) (by omega) (by omega)).mono ?_
      rintro e w8 ⟨rfl, S2⟩
      have S2 := (show Aside _ from S2)
      have HQ := Lib.hid (fun d' (h : Rot (m - (i - j)) m (m + j) (swpN dk (m - i) m j) d') => HR.out d' (Rot.gt (s := m - i) (m := m) (e := m + j) (by omega) (by omega) (by omega) (by omega) (by rw [show m + j - m = j by omega, show m - i + j = m - (i - j) by omega]; exact h)))
      clear S1
      go_wp2_with fail
      go_roundw
      case rel => exact ⟨i - j, j, swpN dk (m - i) m j, by congr 1; omega, rfl, by omega, hj, by omega, hjb, by rw [swpN_size]; exact hds, S2, HQ⟩
      case measure => simp [intOf]; omega
end Go.Proofs.Ytfaojciballhnaa
