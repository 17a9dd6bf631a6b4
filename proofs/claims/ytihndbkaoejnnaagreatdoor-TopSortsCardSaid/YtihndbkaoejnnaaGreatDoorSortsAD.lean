/- What the card TopSorts leans on: SortStable. Conditions: none but those of its theorems. -/
import Derived.Shelf.SlSortCmp.Insertion1
import Derived.Test.YtihndbkaoejnnaaGreatDoorSortsAC
import Derived.Test.YtihndbkaoejnnaaGreatDoorSortsAB
set_option linter.unusedSimpArgs false
set_option linter.unusedVariables false
namespace Go.Proofs.YtihndbkaoejnnaaGreatDoor
open Go Go.RowKit Go.Lib Go.Shelf Go.Sort Go.Proofs.YtihndbkaoejnnaaGreatDoor.P

def insRen : Ren := ⟨fun | 20 => 103 | n => n, fun | 0 => 0 | 3 => 3 | 4 => 4 | 22 => 23 | 24 => 3 | 25 => 103 | n => n, fun n => n⟩
theorem insLays : SlLaysF.n20 Tryz.prog insRen := {
  mixed := by kernel_rfl
  f20 := ⟨"slices.insertionSortCmpFunc[int]", by decide, Tryz.func103⟩
  t0 := Tryz.underlying0
  a0 := Tryz.isAgg0
  z0 := Tryz.sizeOf0
  v0 := Tryz.zeroValue0
  t3 := Tryz.underlying3
  a3 := Tryz.isAgg3
  z3 := Tryz.sizeOf3
  v3 := Tryz.zeroValue3
  t4 := Tryz.underlying4
  a4 := Tryz.isAgg4
  z4 := Tryz.sizeOf4
  v4 := Tryz.zeroValue4
  t22 := Tryz.underlying23
  a22 := Tryz.isAgg23
  z22 := Tryz.sizeOf23
  v22 := Tryz.zeroValue23
  a24 := Tryz.isAgg3
  z24 := Tryz.sizeOf3
  t25 := Tryz.underlying103
  a25 := Tryz.isAgg103
  z25 := Tryz.sizeOf103
  v25 := Tryz.zeroValue103
}
variable {N : Nat} (cf : Fin (N + 1) → Fin (N + 1) → Int) (hS : SWO (ltOf cf)) (g : Nat) (cb : Array Value) (eg : ∀ args w, (callFunc g args).run Tryz.prog w = .ok (.enter g args) w) (blk off cap : Nat) (d0 : Array (Fin (N + 1))) (w0 : World) (R : Row1 encF w0 blk off d0) (hcmp : CmpLays1 Tryz.prog g cb encF cf blk off d0.size w0)
include eg R hcmp in
theorem insert_at (a b : Nat) (az bz : Int) (ea : az = (a : Int)) (eb : bz = (b : Int)) (d : Array (Fin (N + 1))) (w : World) (z : Nat) (hz : z = d.size) (hs : d0.size = d.size) (S : SW encF w0 blk off d w) (h1 : a ≤ b) (h2 : b ≤ d.size) (hsz : d.size ≤ 4096) :
    Calls Tryz.prog 103 #[.slice (some ⟨blk, off, none⟩) z cap, .int .i64 az, .int .i64 bz, .func (.func g) #[] cb] w fun e w' => e = .returned (.tuple #[]) ∧ SW encF w0 blk off (insertionSort (ltOf cf) d a b) w' := by
  subst ea eb hz
  exact Any.insertionSortCmpFunc_s insLays encF cf g cb blk off cap a b d0 d w0 w eg hcmp R hs S h1 h2 (by omega)
include hS eg R hcmp in
theorem merge_any : ∀ (L a m b : Nat) (d : Array (Fin (N + 1))) (w : World) (hL : b - a = L) (z : Nat) (hz : z = d.size) (hs : d0.size = d.size) (S : SW encF w0 blk off d w) (h1 : a < m) (h2 : m < b) (h3 : b ≤ d.size) (hsz : d.size ≤ 4096) (hM : Mer (ltOf cf) Fin.val a m b d),
    Calls Tryz.prog 104 #[.slice (some ⟨blk, off, none⟩) z cap, .int .i64 a, .int .i64 m, .int .i64 b, .func (.func g) #[] cb] w fun e w' => e = .returned (.tuple #[]) ∧ ∃ d', PermIn a b d d' ∧ SortedIn (stb (ltOf cf) Fin.val) a b d' ∧ SW encF w0 blk off d' w' := by
  intro L
  induction L using Nat.strongRecOn with
  | _ L IH =>
    intro a m b d w hL z hz hs S h1 h2 h3 hsz hM
    subst hz
    by_cases e1 : m = a + 1
    · subst e1
      exact merge_one cf hS g cb eg blk off cap d0 w0 R hcmp a b d w hs S h2 h3 hsz hM
    · by_cases e2 : b = m + 1
      · subst e2
        exact merge_last cf hS g cb eg blk off cap d0 w0 R hcmp a m d w hs S (by omega) h3 hsz hM
      · exact merge_more cf hS g cb eg blk off cap d0 w0 R hcmp (fun a m b d w hl z hz hs S h1 h2 h3 hsz hM => IH _ hl a m b d w rfl z hz hs S h1 h2 h3 hsz hM) a m b d w hL hs S (by omega) (by omega) h3 hsz hM
include hS eg R hcmp in
theorem merge_at (a m b : Nat) (az mz bz : Int) (ea : az = (a : Int)) (em : mz = (m : Int)) (eb : bz = (b : Int)) (d : Array (Fin (N + 1))) (w : World) (z : Nat) (hz : z = d.size) (hs : d0.size = d.size) (S : SW encF w0 blk off d w) (h1 : a < m) (h2 : m < b) (h3 : b ≤ d.size) (hsz : d.size ≤ 4096) (hM : Mer (ltOf cf) Fin.val a m b d) :
    Calls Tryz.prog 104 #[.slice (some ⟨blk, off, none⟩) z cap, .int .i64 az, .int .i64 mz, .int .i64 bz, .func (.func g) #[] cb] w fun e w' => e = .returned (.tuple #[]) ∧ ∃ d', PermIn a b d d' ∧ SortedIn (stb (ltOf cf) Fin.val) a b d' ∧ SW encF w0 blk off d' w' := by
  subst ea em eb
  exact merge_any cf hS g cb eg blk off cap d0 w0 R hcmp _ a m b d w rfl z hz hs S h1 h2 h3 hsz hM
set_option maxRecDepth 1000000 in
set_option maxHeartbeats 8000000 in
include hS eg R hcmp in
theorem stable_any (w : World) (S : SW encF w0 blk off d0 w) (hsz : d0.size ≤ 4096) (hid : ∀ p, p < d0.size → (d0[p]!).val = p) :
    Calls Tryz.prog 71 #[.slice (some ⟨blk, off, none⟩) d0.size cap, .int .i64 d0.size, .func (.func g) #[] cb] w fun e w' => e = .returned (.tuple #[]) ∧ ∃ d', PermIn 0 d0.size d0 d' ∧ SortedIn (stb (ltOf cf) Fin.val) 0 d0.size d' ∧ SW encF w0 blk off d' w' := by
  have S0 : Aside (SW encF w0 blk off d0 w) := S
  have HSW := Lib.hid hS
  have HC := Lib.hid hcmp
  have HID := Lib.hid hid
  obtain ⟨n, hn⟩ : ∃ n, n = d0.size := ⟨_, rfl⟩
  have HN := Lib.hid hn
  rw [← hn] at hsz ⊢
  clear S hS hcmp hid hn
  go_enter Tryz.func71, Tryz.ntmps71
  go_wp2_with fail
  go_loopw [7, 8] (fun s7 s8 wr => ∃ (t : Nat) (dk : Array (Fin (N + 1))), s7 = .int .i64 t ∧ s8 = .int .i64 ((t : Int) + 20) ∧ t ≤ n ∧ Hid (20 ∣ t) ∧ Aside (SW encF w0 blk off dk wr) ∧ Hid (PermIn 0 n d0 dk) ∧ Hid (dk.size = n) ∧ Hid (Upto (ltOf cf) Fin.val 20 t dk) ∧ Hid (∀ p, t ≤ p → p < dk.size → (dk[p]!).val = p)) (fun s7 _ _ => n - (intOf s7).toNat)
  case atStart => exact ⟨0, d0, rfl, rfl, Nat.zero_le _, Nat.dvd_zero _, S0, permIn_refl _ _ _, HN.out.symm, Upto.none _ _, fun p _ h => HID.out p h⟩
  case round =>
    clear S0
    obtain ⟨t, dk, rfl, rfl, htn, HD, S1, HP, HZ, HU, HI⟩ := hrel
    rcases Nat.lt_or_ge n (t + 20) with hlt | hge
    · have hltz : ¬ (t : Int) + 20 ≤ (n : Int) := by omega
      have HF := Lib.hid (first_step HSW.out HU.out HI.out HD.out (b := n) (by rw [HZ.out]; omega) (by rw [HZ.out]; exact htn))
      go_wp2_with fail
      refine (insert_at cf g cb eg blk off cap d0 w0 R HC.out t n _ _ rfl rfl dk wr _ HZ.out.symm (HN.out.symm.trans HZ.out.symm) S1.out htn (by rw [HZ.out]; exact Nat.le_refl _) (by rw [HZ.out]; exact hsz)).mono ?_
      rintro e w2 ⟨rfl, S2⟩
      have S2 : Aside _ := S2
      obtain ⟨d2, hd2⟩ : ∃ d2, d2 = insertionSort (ltOf cf) dk t n := ⟨_, rfl⟩
      rw [← hd2] at S2
      have HF2 := Lib.hid HF.out
      have HZ2 := Lib.hid (show d2.size = n by rw [hd2]; exact HF.out.1.1.trans HZ.out)
      have HP2 := Lib.hid (show PermIn 0 n d0 d2 by rw [hd2]; exact permIn_trans _ _ _ _ _ HP.out (permIn_mono _ _ _ _ _ _ (Nat.zero_le _) (Nat.le_refl _) (by rw [HZ.out]; exact Nat.le_refl _) HF.out.1))
      have HA2 := Lib.hid (show From (ltOf cf) Fin.val 20 0 d2 from Upto.all (t := t + 20) (by rw [hd2]; exact HF.out.2.1) (by rw [HZ2.out]; omega))
      clear hd2 S1 hltz
      go_wp2_with fail
      go_loopw [6] (fun s6 wr => ∃ (s : Nat) (dk : Array (Fin (N + 1))), s6 = .int .i64 s ∧ 20 ≤ s ∧ s ≤ 8192 ∧ Aside (SW encF w0 blk off dk wr) ∧ Hid (PermIn 0 n d0 dk) ∧ Hid (dk.size = n) ∧ Hid (From (ltOf cf) Fin.val s 0 dk)) (fun s6 _ => n - (intOf s6).toNat)
      case atStart => exact ⟨20, d2, rfl, Nat.le_refl _, by omega, S2, HP2, HZ2, HA2⟩
      case round =>
        clear S2
        obtain ⟨s, dk, rfl, hs20, hs8, S1, HP, HZ, HA⟩ := hrel
        rcases Nat.lt_or_ge s n with hlt | hge
        · have hltz : (s : Int) < (n : Int) := by omega
          have ws : IntKind.i64.wrap (2 * (s : Int)) = 2 * (s : Int) := IntWalk.i64_in _ (by omega)
          have ws' : IntKind.i64.wrap ((s : Int) * 2) = (s : Int) * 2 := IntWalk.i64_in _ (by omega)
          go_wp2_with fail
          go_loopw [7, 8] (fun s7 s8 wr => ∃ (t : Nat) (dk : Array (Fin (N + 1))), s7 = .int .i64 t ∧ s8 = .int .i64 ((t : Int) + 2 * (s : Int)) ∧ t ≤ n ∧ Hid (2 * s ∣ t) ∧ Aside (SW encF w0 blk off dk wr) ∧ Hid (PermIn 0 n d0 dk) ∧ Hid (dk.size = n) ∧ Hid (Upto (ltOf cf) Fin.val (2 * s) t dk) ∧ Hid (From (ltOf cf) Fin.val s t dk)) (fun s7 _ _ => n - (intOf s7).toNat)
          case atStart => exact ⟨0, dk, rfl, by congr 1 <;> omega, Nat.zero_le _, Nat.dvd_zero _, S1, HP, HZ, Upto.none _ _, HA⟩
          case round =>
            clear S1
            obtain ⟨t, dk, rfl, rfl, htn, HD, S1, HP, HZ, HU, HF⟩ := hrel
            have wt : IntKind.i64.wrap ((t : Int) + (s : Int)) = (t : Int) + (s : Int) := IntWalk.i64_in _ (by omega)
            have HST := Lib.hid (show s ∣ t from Nat.dvd_trans ⟨2, by omega⟩ HD.out)
            rcases Nat.lt_or_ge n (t + 2 * s) with hlt2 | hge2
            · have hltz2 : ¬ (t : Int) + 2 * (s : Int) ≤ (n : Int) := by omega
              rcases Nat.lt_or_ge (t + s) n with hlt3 | hge3
              · have hltz3 : (t : Int) + (s : Int) < (n : Int) := by omega
                go_wp2_with fail
                refine (merge_at cf HSW.out g cb eg blk off cap d0 w0 R HC.out t (t + s) n _ _ _ rfl (by omega) rfl dk wr _ HZ.out.symm (HN.out.symm.trans HZ.out.symm) S1.out (by omega) hlt3 (by rw [HZ.out]; exact Nat.le_refl _) (by rw [HZ.out]; exact hsz) (HF.out.two HST.out (b := n) (by rw [HZ.out]; exact hlt3) (by rw [HZ.out]; omega)).1).mono ?_
                rintro e w2 ⟨rfl, d2, hP2, hO2, S2⟩
                have S2 : Aside _ := S2
                have HM := Lib.hid (merge_step (b := n) (by omega) HU.out HF.out HD.out (by rw [HZ.out]; exact hlt3) (by rw [HZ.out]; omega) hP2 hO2)
                have HZ2 := Lib.hid (show d2.size = n from hP2.1.trans HZ.out)
                have HP2 := Lib.hid (show PermIn 0 n d0 d2 from permIn_trans _ _ _ _ _ HP.out (permIn_mono _ _ _ _ _ _ (Nat.zero_le _) (Nat.le_refl _) (by rw [HZ.out]; exact Nat.le_refl _) hP2))
                clear hP2 hO2 S1
                go_wp2_with fail
                go_roundw
                case rel => exact ⟨s * 2, d2, by congr 1, by omega, by omega, S2, HP2, HZ2, by have h9 := HM.out.1.all (by rw [HZ2.out]; omega); rwa [Nat.mul_comm] at h9⟩
                case measure => simp [intOf]; omega
              · have hltz3 : ¬ (t : Int) + (s : Int) < (n : Int) := by omega
                go_wp2_with fail
                go_roundw
                case rel => exact ⟨s * 2, dk, by congr 1, by omega, by omega, S1, HP, HZ, by have h9 := merge_end (by omega) HU.out HF.out HD.out (by rw [HZ.out]; exact hge3); rwa [Nat.mul_comm] at h9⟩
                case measure => simp [intOf]; omega
            · have hltz2 : (t : Int) + 2 * (s : Int) ≤ (n : Int) := by omega
              have wb : IntKind.i64.wrap ((t : Int) + 2 * (s : Int) + 2 * (s : Int)) = (t : Int) + 2 * (s : Int) + 2 * (s : Int) := IntWalk.i64_in _ (by omega)
              go_wp2_with fail
              refine (merge_at cf HSW.out g cb eg blk off cap d0 w0 R HC.out t (t + s) (t + 2 * s) _ _ _ rfl (by omega) (by omega) dk wr _ HZ.out.symm (HN.out.symm.trans HZ.out.symm) S1.out (by omega) (by omega) (by rw [HZ.out]; exact hge2) (by rw [HZ.out]; exact hsz) (HF.out.two HST.out (b := t + 2 * s) (by rw [HZ.out]; omega) (by rw [HZ.out]; omega)).1).mono ?_
              rintro e w2 ⟨rfl, d2, hP2, hO2, S2⟩
              have S2 : Aside _ := S2
              have HM := Lib.hid (merge_step (b := t + 2 * s) (by omega) HU.out HF.out HD.out (by rw [HZ.out]; omega) (by rw [HZ.out]; omega) hP2 hO2)
              have HZ2 := Lib.hid (show d2.size = n from hP2.1.trans HZ.out)
              have HP2 := Lib.hid (show PermIn 0 n d0 d2 from permIn_trans _ _ _ _ _ HP.out (permIn_mono _ _ _ _ _ _ (Nat.zero_le _) (by omega) (by rw [HZ.out]; exact Nat.le_refl _) hP2))
              clear hP2 hO2 S1
              go_wp2_with fail
              go_roundw
              case rel => exact ⟨t + 2 * s, d2, by congr 1, by congr 1 <;> omega, hge2, Nat.dvd_add HD.out (Nat.dvd_refl _), S2, HP2, HZ2, HM.out.1, HM.out.2⟩
              case measure => simp [intOf]; omega
        · have hltz : ¬ (s : Int) < (n : Int) := by omega
          go_wp2_with fail
          go_end0
          have h9 := HA.out.whole (by rw [HZ.out]; exact hge)
          rw [HZ.out] at h9
          exact ⟨rfl, dk, HP.out, h9, S1.out⟩
    · have hltz : (t : Int) + 20 ≤ (n : Int) := by omega
      have wb : IntKind.i64.wrap ((t : Int) + 20 + 20) = (t : Int) + 20 + 20 := IntWalk.i64_in _ (by omega)
      have HF := Lib.hid (first_step HSW.out HU.out HI.out HD.out (b := t + 20) (by rw [HZ.out]; omega) (by rw [HZ.out]; exact htn))
      go_wp2_with fail
      refine (insert_at cf g cb eg blk off cap d0 w0 R HC.out t (t + 20) _ _ rfl (by omega) dk wr _ HZ.out.symm (HN.out.symm.trans HZ.out.symm) S1.out (by omega) (by rw [HZ.out]; exact hge) (by rw [HZ.out]; exact hsz)).mono ?_
      rintro e w2 ⟨rfl, S2⟩
      have S2 : Aside _ := S2
      have HP2 := Lib.hid (permIn_trans _ _ _ _ _ HP.out (permIn_mono _ _ _ _ _ _ (Nat.zero_le _) hge (by rw [HZ.out]; exact Nat.le_refl _) HF.out.1))
      have HZ2 := Lib.hid (HF.out.1.1.trans HZ.out)
      clear S1
      go_wp2_with fail
      go_roundw
      case rel => exact ⟨t + 20, insertionSort (ltOf cf) dk t (t + 20), by congr 1, by congr 1, hge, Nat.dvd_add HD.out (Nat.dvd_refl _), S2, HP2, HZ2, HF.out.2.1, fun p h1 h2 => HF.out.2.2 p h1 (by rw [HZ.out]; rwa [HZ2.out] at h2)⟩
      case measure => simp [intOf]; omega
end Go.Proofs.YtihndbkaoejnnaaGreatDoor
