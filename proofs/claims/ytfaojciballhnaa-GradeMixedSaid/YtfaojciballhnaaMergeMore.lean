/- The library's symmetric merge where both stretches have more than one element: the search, the rotation, the two halves. Conditions: none but these. -/
import Derived.Shelf.SlSortCmp.Kit1
import Derived.Sort.WalkB2
import Derived.Sort.WalkB12
import Derived.Deep.LoopGhost
import Derived.BigRegion
import Derived.Test.YtfaojciballhnaaSortSwap
set_option linter.unusedSimpArgs false
set_option linter.unusedVariables false
namespace Go.Proofs.Ytfaojciballhnaa
open Go Go.RowKit Go.Lib Go.Shelf Go.Sort Go.Proofs.Ytfaojciballhnaa.P
set_option maxRecDepth 1000000 in
set_option maxHeartbeats 16000000 in
theorem merge_more {N L : Nat} (cf : Fin (N + 1) → Fin (N + 1) → Int) (hS : SWO (ltOf cf)) (g : Nat) (cb : Array Value) (eg : ∀ args w, (callFunc g args).run Try.prog w = .ok (.enter g args) w) (blk off cap : Nat) (d0 : Array (Fin (N + 1))) (w0 : World) (R : Row1 encF w0 blk off d0) (hcmp : CmpLays1 Try.prog g cb encF cf blk off d0.size w0)
    (IH : ∀ (a m b : Nat) (d : Array (Fin (N + 1))) (w : World) (hL : b - a < L) (z : Nat) (hz : z = d.size) (hs : d0.size = d.size) (S : SW encF w0 blk off d w) (h1 : a < m) (h2 : m < b) (h3 : b ≤ d.size) (hsz : d.size ≤ 4096) (hM : Mer (ltOf cf) Fin.val a m b d), Calls Try.prog 52 #[.slice (some ⟨blk, off, none⟩) z cap, .int .i64 a, .int .i64 m, .int .i64 b, .func (.func g) #[] cb] w fun e w' => e = .returned (.tuple #[]) ∧ ∃ d', PermIn a b d d' ∧ SortedIn (stb (ltOf cf) Fin.val) a b d' ∧ SW encF w0 blk off d' w')
    (a m b : Nat) (d : Array (Fin (N + 1))) (w : World) (hL : b - a = L) (hs : d0.size = d.size) (S : SW encF w0 blk off d w) (h1 : a + 1 < m) (h2 : m + 1 < b) (h3 : b ≤ d.size) (hsz : d.size ≤ 4096) (hM : Mer (ltOf cf) Fin.val a m b d) :
    Calls Try.prog 52 #[.slice (some ⟨blk, off, none⟩) d.size cap, .int .i64 a, .int .i64 m, .int .i64 b, .func (.func g) #[] cb] w fun e w' => e = .returned (.tuple #[]) ∧ ∃ d', PermIn a b d d' ∧ SortedIn (stb (ltOf cf) Fin.val) a b d' ∧ SW encF w0 blk off d' w' := by
  have mixed : Try.prog.follows .mixedOrders = true := by kernel_rfl
  have HC : Aside _ := hcmp
  have S0 : Aside (SW encF w0 blk off d w) := S
  have HM := Lib.hid hM
  have HSW := Lib.hid hS
  have HIH := Lib.hid IH
  have HS := Lib.hid hs
  have n1 : ((m : Int) - (a : Int) == 1) = false := by rw [beq_eq_false_iff_ne]; omega
  have n2 : ((b : Int) - (m : Int) == 1) = false := by rw [beq_eq_false_iff_ne]; omega
  have w1 : IntKind.i64.wrap ((m : Int) - (a : Int)) = (m : Int) - (a : Int) := IntWalk.i64_in _ (by omega)
  have w2 : IntKind.i64.wrap ((b : Int) - (m : Int)) = (b : Int) - (m : Int) := IntWalk.i64_in _ (by omega)
  obtain ⟨mid, hmid⟩ : ∃ q : Nat, q = (a + b) / 2 := ⟨_, rfl⟩
  have wamid : IntKind.i64.wrap ((a : Int) + (b : Int)) = (a : Int) + (b : Int) := IntWalk.i64_in _ (by omega)
  have wbmid : IntKind.u64.wrap ((a : Int) + (b : Int)) = (a : Int) + (b : Int) := by rw [IntKind.wrap_u64]; omega
  have wcmid : ((a : Int) + (b : Int)) / 2 = (mid : Int) := by omega
  have wdmid : IntKind.i64.wrap (mid : Int) = (mid : Int) := IntWalk.i64_in _ (by omega)
  have midl : a ≤ mid := by omega
  have midr : mid < b := by omega
  have g1 : a + b ≤ 2 * mid + 1 ∧ 2 * mid ≤ a + b := ⟨by omega, by omega⟩
  have w3 : IntKind.i64.wrap ((mid : Int) + (m : Int)) = (mid : Int) + (m : Int) := IntWalk.i64_in _ (by omega)
  have w4 : IntKind.i64.wrap ((mid : Int) + (m : Int) - (b : Int)) = (mid : Int) + (m : Int) - (b : Int) := IntWalk.i64_in _ (by omega)
  have w5 : IntKind.i64.wrap ((mid : Int) + (m : Int) - 1) = (mid : Int) + (m : Int) - 1 := IntWalk.i64_in _ (by omega)
  clear S hcmp hM hS IH hmid
  rcases Nat.lt_or_ge mid m with hq | hq
  · go_enter Try.func52, Try.ntmps52
    obtain ⟨s0, hs0⟩ : ∃ s0 : Nat, s0 = mid + m - b := ⟨_, rfl⟩
    obtain ⟨r0, hr0⟩ : ∃ r0 : Nat, r0 = mid := ⟨_, rfl⟩
    have HS0 := Lib.hid (show s0 = if mid < m then mid + m - b else a by rw [hs0, if_pos (by omega)])
    have HR0 := Lib.hid (show r0 = if mid < m then mid else m by rw [hr0, if_pos (by omega)])
    have k1 : s0 ≤ r0 := by omega
    have k2 : r0 ≤ mid ∧ r0 ≤ m := ⟨by omega, by omega⟩
    have k3 : a ≤ s0 := by omega
    have k4 : mid + m ≤ b + s0 := by omega
    have n0 : (mid : Int) < (m : Int) := by omega
    have e1 : (mid : Int) + (m : Int) - (b : Int) = (s0 : Int) := by omega
    have e2 : (mid : Int) = (r0 : Int) := by omega
    have HE1 := Lib.hid e1
    have HE2 := Lib.hid e2
    clear hs0 hr0 e1 e2
    go_wp2_with fail
    go_loopw [20, 21] (fun s20 s21 wr => ∃ (i j : Nat), s20 = .int .i64 i ∧ s21 = .int .i64 j ∧ s0 ≤ i ∧ i ≤ j ∧ j ≤ r0 ∧ Aside (SW encF w0 blk off d wr) ∧ Hid (∀ c, s0 ≤ c → c < i → stb (ltOf cf) Fin.val d[mid + m - 1 - c]! d[c]! = false) ∧ Hid (∀ c, j ≤ c → c < r0 → stb (ltOf cf) Fin.val d[mid + m - 1 - c]! d[c]! = true)) (fun s20 s21 _ => (intOf s21).toNat - (intOf s20).toNat)
    case atStart => exact ⟨s0, r0, by have := HE1.out; congr 1 <;> omega, by have := HE2.out; congr 1 <;> omega, Nat.le_refl _, by omega, Nat.le_refl _, S0, fun q h1 h2 => by omega, fun q h1 h2 => by omega⟩
    case round =>
      clear S0
      obtain ⟨i, j, rfl, rfl, hai, hij, hjm, S1, HI, HJ⟩ := hrel
      rcases Nat.lt_or_ge i j with hlt | hge
      · have hltz : (i : Int) < (j : Int) := by omega
        obtain ⟨H, hH⟩ : ∃ q : Nat, q = (i + j) / 2 := ⟨_, rfl⟩
        have waH : IntKind.i64.wrap ((i : Int) + (j : Int)) = (i : Int) + (j : Int) := IntWalk.i64_in _ (by omega)
        have wbH : IntKind.u64.wrap ((i : Int) + (j : Int)) = (i : Int) + (j : Int) := by rw [IntKind.wrap_u64]; omega
        have wcH : ((i : Int) + (j : Int)) / 2 = (H : Int) := by omega
        have wdH : IntKind.i64.wrap (H : Int) = (H : Int) := IntWalk.i64_in _ (by omega)
        have Hl : i ≤ H := by omega
        have Hr : H < j := by omega
        obtain ⟨J, hJ⟩ : ∃ J : Nat, J = mid + m - 1 - H := ⟨_, rfl⟩
        have HJJ := Lib.hid hJ
        have eJ : (mid : Int) + (m : Int) - 1 - (H : Int) = (J : Int) := by omega
        have wJ : IntKind.i64.wrap (J : Int) = (J : Int) := IntWalk.i64_in _ (by omega)
        have HT := Lib.hid (show ltOf cf d[J]! d[H]! = stb (ltOf cf) Fin.val d[J]! d[H]! from HM.out.test (by omega) (by omega) (by omega) (by omega))
        have hJl : m ≤ J := by omega
        have hJb : J < b := by omega
        clear hH hJ
        cases hlv : ltOf cf d[J]! d[H]! with
        | false =>
          have hwk : IntKind.i64.wrap ((H : Int) + 1) = (H : Int) + 1 := IntWalk.i64_in _ (by omega)
          have HQ := Lib.hid (show ∀ c, s0 ≤ c → c < H + 1 → stb (ltOf cf) Fin.val d[mid + m - 1 - c]! d[c]! = false from fun c h4 h5 =>
            HM.out.last_false HSW.out (H := H) (by omega) (HM.out.one_false HSW.out (H := J) (by omega) (by rw [← HT.out]; exact hlv) _ (by have := HJJ.out; omega) (by omega)) c (by omega) (by omega))
          obtain ⟨iN8, hiN8⟩ : ∃ q, q = J := ⟨_, rfl⟩
          obtain ⟨jN8, hjN8⟩ : ∃ q, q = H := ⟨_, rfl⟩
          have ea8 : ((J : Int)).toNat = iN8 := by omega
          have pa8 : (0 : Int) ≤ (J : Int) := by omega
          have ba8 : (J : Int) < (d.size : Int) := by omega
          have ra8 : IntKind.i64.wrap ((J : Int)) = (J : Int) := IntWalk.i64_in _ (by omega)
          have ec8 : ((H : Int)).toNat = jN8 := by omega
          have pc8 : (0 : Int) ≤ (H : Int) := by omega
          have bc8 : (H : Int) < (d.size : Int) := by omega
          have rc8 : IntKind.i64.wrap ((H : Int)) = (H : Int) := IntWalk.i64_in _ (by omega)
          obtain ⟨x8, hx8⟩ : ∃ x, x = d[J]! := ⟨_, rfl⟩
          obtain ⟨y8, hy8⟩ : ∃ x, x = d[H]! := ⟨_, rfl⟩
          obtain ⟨X8, hX8⟩ : ∃ X : Int, X = (x8.val : Int) := ⟨_, rfl⟩
          obtain ⟨Y8, hY8⟩ : ∃ X : Int, X = (y8.val : Int) := ⟨_, rfl⟩
          obtain ⟨C8, hC8⟩ : ∃ C : Int, C = cf x8 y8 := ⟨_, rfl⟩
          have l8a : ∀ n os, (Sort.grow (wr.drewN n) os).cell? ⟨blk, off + iN8, none⟩ = some (.int .i64 X8) := by rw [hX8, hx8, hiN8]; exact S1.out.cl R (by omega) (J) (by omega)
          have l8b : ∀ n os, (Sort.grow (wr.drewN n) os).cell? ⟨blk, off + jN8, none⟩ = some (.int .i64 Y8) := by rw [hY8, hy8, hjN8]; exact S1.out.cl R (by omega) (H) (by omega)
          have hc8 : ∀ n os, Calls Try.prog g (#[.int .i64 X8, .int .i64 Y8] ++ cb) (Sort.grow (wr.drewN n) os) fun e w' => e = .returned (.int .i64 C8) ∧ ∃ q os', w' = Sort.grow ((Sort.grow (wr.drewN n) os).drewN q) os' := by rw [hX8, hY8, hC8]; exact S1.out.cmp HC.out (by omega) x8 y8
          have hv8 : ¬ C8 < 0 := by rw [hC8, hx8, hy8]; exact of_decide_eq_false hlv
          have hd8 : decide (C8 < 0) = false := decide_eq_false hv8
          clear hx8 hy8 hiN8 hjN8 hX8 hY8 hC8
          go_wp2_with fail
          go_quiet_grown (first | (go_at_fn g; refine Calls.grown_of (hc8 _ _)))
          have S2 : Aside (SW encF w0 blk off d (Sort.grow (wr.drewN nq) osq)) := S1.out.grown nq osq
          clear l8a l8b hc8 S1
          generalize Sort.grow (wr.drewN nq) osq = w2 at S2 ⊢
          clear nq osq
          clear ea8 ec8
          go_wp2_with fail
          go_roundw
          case rel => exact ⟨H + 1, j, by go_num, rfl, by omega, by omega, hjm, S2, HQ, HJ⟩
          case measure => simp [intOf]; omega
        | true =>
          have HQ := Lib.hid (show ∀ c, H ≤ c → c < r0 → stb (ltOf cf) Fin.val d[mid + m - 1 - c]! d[c]! = true from fun c h4 h5 =>
            HM.out.last_true HSW.out (H := H) (by omega) (HM.out.one_true HSW.out (H := J) (by omega) (by rw [← HT.out]; exact hlv) _ (by omega) (by have := HJJ.out; omega)) c h4 (by omega))
          obtain ⟨iN9, hiN9⟩ : ∃ q, q = J := ⟨_, rfl⟩
          obtain ⟨jN9, hjN9⟩ : ∃ q, q = H := ⟨_, rfl⟩
          have ea9 : ((J : Int)).toNat = iN9 := by omega
          have pa9 : (0 : Int) ≤ (J : Int) := by omega
          have ba9 : (J : Int) < (d.size : Int) := by omega
          have ra9 : IntKind.i64.wrap ((J : Int)) = (J : Int) := IntWalk.i64_in _ (by omega)
          have ec9 : ((H : Int)).toNat = jN9 := by omega
          have pc9 : (0 : Int) ≤ (H : Int) := by omega
          have bc9 : (H : Int) < (d.size : Int) := by omega
          have rc9 : IntKind.i64.wrap ((H : Int)) = (H : Int) := IntWalk.i64_in _ (by omega)
          obtain ⟨x9, hx9⟩ : ∃ x, x = d[J]! := ⟨_, rfl⟩
          obtain ⟨y9, hy9⟩ : ∃ x, x = d[H]! := ⟨_, rfl⟩
          obtain ⟨X9, hX9⟩ : ∃ X : Int, X = (x9.val : Int) := ⟨_, rfl⟩
          obtain ⟨Y9, hY9⟩ : ∃ X : Int, X = (y9.val : Int) := ⟨_, rfl⟩
          obtain ⟨C9, hC9⟩ : ∃ C : Int, C = cf x9 y9 := ⟨_, rfl⟩
          have l9a : ∀ n os, (Sort.grow (wr.drewN n) os).cell? ⟨blk, off + iN9, none⟩ = some (.int .i64 X9) := by rw [hX9, hx9, hiN9]; exact S1.out.cl R (by omega) (J) (by omega)
          have l9b : ∀ n os, (Sort.grow (wr.drewN n) os).cell? ⟨blk, off + jN9, none⟩ = some (.int .i64 Y9) := by rw [hY9, hy9, hjN9]; exact S1.out.cl R (by omega) (H) (by omega)
          have hc9 : ∀ n os, Calls Try.prog g (#[.int .i64 X9, .int .i64 Y9] ++ cb) (Sort.grow (wr.drewN n) os) fun e w' => e = .returned (.int .i64 C9) ∧ ∃ q os', w' = Sort.grow ((Sort.grow (wr.drewN n) os).drewN q) os' := by rw [hX9, hY9, hC9]; exact S1.out.cmp HC.out (by omega) x9 y9
          have hv9 : C9 < 0 := by rw [hC9, hx9, hy9]; exact of_decide_eq_true hlv
          have hd9 : decide (C9 < 0) = true := decide_eq_true hv9
          clear hx9 hy9 hiN9 hjN9 hX9 hY9 hC9
          go_wp2_with fail
          go_quiet_grown (first | (go_at_fn g; refine Calls.grown_of (hc9 _ _)))
          have S2 : Aside (SW encF w0 blk off d (Sort.grow (wr.drewN nq) osq)) := S1.out.grown nq osq
          clear l9a l9b hc9 S1
          generalize Sort.grow (wr.drewN nq) osq = w2 at S2 ⊢
          clear nq osq
          clear ea9 ec9
          go_wp2_with fail
          go_roundw
          case rel => exact ⟨i, H, rfl, rfl, hai, by omega, by omega, S2, HI, HQ⟩
          case measure => simp [intOf]; omega
      · obtain rfl : i = j := by omega
        obtain ⟨E, hE⟩ : ∃ E : Nat, E + i = mid + m := ⟨mid + m - i, by omega⟩
        have HE := Lib.hid hE
        have eE : (mid : Int) + (m : Int) - (i : Int) = (E : Int) := by omega
        have wE : IntKind.i64.wrap (E : Int) = (E : Int) := IntWalk.i64_in _ (by omega)
        have gE : m ≤ E ∧ mid ≤ E ∧ E ≤ b := ⟨by omega, by omega, by omega⟩
        clear hE
        rcases Nat.lt_or_ge i m with q0 | q0
        · rcases Nat.lt_or_ge i mid with q1 | q1
          · rcases Nat.lt_or_ge a i with q2 | q2
            · rcases Nat.lt_or_ge E b with q3 | q3
              · have a1 : (i : Int) < (m : Int) := by have := HE.out; omega
                have a2 : (m : Int) < (E : Int) := by have := HE.out; omega
                have b1 : (a : Int) < (i : Int) := by have := HE.out; omega
                have b2 : (i : Int) < (mid : Int) := by have := HE.out; omega
                have c1 : (mid : Int) < (E : Int) := by have := HE.out; omega
                have c2 : (E : Int) < (b : Int) := by have := HE.out; omega
                go_wp2_with fail
                refine (rotate_any _ blk off cap i m E d0 d w0 _ R HS.out S1.out (by omega) (by omega) (by have := HE.out; omega) hsz).mono ?_
                rintro e w3 ⟨rfl, d1, hR, hS3⟩
                have HR := Lib.hid hR
                have S3 : Aside (SW encF w0 blk off d1 w3) := hS3
                clear hS3 hR S1
                have HZ1 := Lib.hid (show d1.size = d.size from HR.out.1.1)
                have HX := Lib.hid (HM.out.cut HSW.out (s := i) (d1 := d1) h3 (by omega) (by omega) ⟨by omega, by omega⟩ HS0.out HR0.out (by omega) (by omega) (by omega) (by omega) HI.out HJ.out (by rw [← show E = mid + m - i by have := HE.out; omega]; exact HR.out))
                go_wp2_with fail
                refine (HIH.out a i mid d1 _ (by omega) _ HZ1.out.symm (by rw [HZ1.out]; exact HS.out) S3.out (by omega) (by omega) (by rw [HZ1.out]; omega) (by rw [HZ1.out]; exact hsz) HX.out.1).mono ?_
                rintro e w4 ⟨rfl, d2, hP2, hO2, hS4⟩
                have HP2 := Lib.hid hP2
                have HO2 := Lib.hid hO2
                have S4 : Aside (SW encF w0 blk off d2 w4) := hS4
                clear hP2 hO2 hS4 S3
                have HZ2 := Lib.hid (show d2.size = d.size from HP2.out.1.trans HZ1.out)
                have HM2 := Lib.hid (show Mer (ltOf cf) Fin.val mid E b d2 by have h9 := HX.out.2.1; rw [show mid + m - i = E by have := HE.out; omega] at h9; exact ⟨fun p q x1 x2 x3 => by rw [HP2.out.2.1 p (.inr (by omega)), HP2.out.2.1 q (.inr (by omega))]; exact h9.l p q x1 x2 x3, fun p q x1 x2 x3 => by rw [HP2.out.2.1 p (.inr (by have := HE.out; omega)), HP2.out.2.1 q (.inr (by have := HE.out; omega))]; exact h9.r p q x1 x2 x3, fun p q x1 x2 x3 x4 => by rw [HP2.out.2.1 p (.inr (by omega)), HP2.out.2.1 q (.inr (by have := HE.out; omega))]; exact h9.x p q x1 x2 x3 x4⟩)
                go_wp2_with fail
                refine (HIH.out mid E b d2 _ (by omega) _ HZ2.out.symm (by rw [HZ2.out]; exact HS.out) S4.out (by omega) (by omega) (by rw [HZ2.out]; exact h3) (by rw [HZ2.out]; exact hsz) HM2.out).mono ?_
                rintro e w5 ⟨rfl, d3, hP3, hO3, hS5⟩
                have HP3 := Lib.hid hP3
                have HO3 := Lib.hid hO3
                have S5 : Aside (SW encF w0 blk off d3 w5) := hS5
                clear hP3 hO3 hS5 S4
                go_wp2_with fail
                go_end0
                have hh := halves (show a ≤ mid by omega) (show mid ≤ b by omega) (by rw [HZ1.out]; exact h3) HX.out.2.2 HP2.out HO2.out HP3.out HO3.out
                exact ⟨rfl, d3, permIn_trans _ _ _ _ _ (permIn_mono _ _ _ _ _ _ (by omega) (by have := HE.out; omega) h3 HR.out.1) hh.1, hh.2, S5.out⟩
              · have a1 : (i : Int) < (m : Int) := by have := HE.out; omega
                have a2 : (m : Int) < (E : Int) := by have := HE.out; omega
                have b1 : (a : Int) < (i : Int) := by have := HE.out; omega
                have b2 : (i : Int) < (mid : Int) := by have := HE.out; omega
                have c1 : (mid : Int) < (E : Int) := by have := HE.out; omega
                have c2 : ¬ (E : Int) < (b : Int) := by have := HE.out; omega
                go_wp2_with fail
                refine (rotate_any _ blk off cap i m E d0 d w0 _ R HS.out S1.out (by omega) (by omega) (by have := HE.out; omega) hsz).mono ?_
                rintro e w3 ⟨rfl, d1, hR, hS3⟩
                have HR := Lib.hid hR
                have S3 : Aside (SW encF w0 blk off d1 w3) := hS3
                clear hS3 hR S1
                have HZ1 := Lib.hid (show d1.size = d.size from HR.out.1.1)
                have HX := Lib.hid (HM.out.cut HSW.out (s := i) (d1 := d1) h3 (by omega) (by omega) ⟨by omega, by omega⟩ HS0.out HR0.out (by omega) (by omega) (by omega) (by omega) HI.out HJ.out (by rw [← show E = mid + m - i by have := HE.out; omega]; exact HR.out))
                go_wp2_with fail
                refine (HIH.out a i mid d1 _ (by omega) _ HZ1.out.symm (by rw [HZ1.out]; exact HS.out) S3.out (by omega) (by omega) (by rw [HZ1.out]; omega) (by rw [HZ1.out]; exact hsz) HX.out.1).mono ?_
                rintro e w4 ⟨rfl, d2, hP2, hO2, hS4⟩
                have HP2 := Lib.hid hP2
                have HO2 := Lib.hid hO2
                have S4 : Aside (SW encF w0 blk off d2 w4) := hS4
                clear hP2 hO2 hS4 S3
                have HZ2 := Lib.hid (show d2.size = d.size from HP2.out.1.trans HZ1.out)
                have HM2 := Lib.hid (show Mer (ltOf cf) Fin.val mid E b d2 by have h9 := HX.out.2.1; rw [show mid + m - i = E by have := HE.out; omega] at h9; exact ⟨fun p q x1 x2 x3 => by rw [HP2.out.2.1 p (.inr (by omega)), HP2.out.2.1 q (.inr (by omega))]; exact h9.l p q x1 x2 x3, fun p q x1 x2 x3 => by rw [HP2.out.2.1 p (.inr (by have := HE.out; omega)), HP2.out.2.1 q (.inr (by have := HE.out; omega))]; exact h9.r p q x1 x2 x3, fun p q x1 x2 x3 x4 => by rw [HP2.out.2.1 p (.inr (by omega)), HP2.out.2.1 q (.inr (by have := HE.out; omega))]; exact h9.x p q x1 x2 x3 x4⟩)
                obtain ⟨d3, hd3⟩ : ∃ d3, d3 = d2 := ⟨_, rfl⟩
                have HP3 := Lib.hid (show PermIn mid b d2 d3 by rw [hd3]; exact permIn_refl _ _ _)
                have HO3 := Lib.hid (show SortedIn (stb (ltOf cf) Fin.val) mid b d3 by rw [hd3]; have := HE.out; first | (have h9 := HM2.out.r; rwa [show E = mid by omega] at h9) | (have h9 := HM2.out.l; rwa [show E = b by omega] at h9))
                have S5 : Aside (SW encF w0 blk off d3 w4) := by rw [hd3]; exact S4
                clear S4 hd3
                go_wp2_with fail
                go_end0
                have hh := halves (show a ≤ mid by omega) (show mid ≤ b by omega) (by rw [HZ1.out]; exact h3) HX.out.2.2 HP2.out HO2.out HP3.out HO3.out
                exact ⟨rfl, d3, permIn_trans _ _ _ _ _ (permIn_mono _ _ _ _ _ _ (by omega) (by have := HE.out; omega) h3 HR.out.1) hh.1, hh.2, S5.out⟩
            · rcases Nat.lt_or_ge E b with q3 | q3
              · (exfalso; have := HE.out; have := HE1.out; have := HE2.out; omega)
              · have a1 : (i : Int) < (m : Int) := by have := HE.out; omega
                have a2 : (m : Int) < (E : Int) := by have := HE.out; omega
                have b1 : ¬ (a : Int) < (i : Int) := by have := HE.out; omega
                have b2 : (i : Int) < (mid : Int) := by have := HE.out; omega
                have c1 : (mid : Int) < (E : Int) := by have := HE.out; omega
                have c2 : ¬ (E : Int) < (b : Int) := by have := HE.out; omega
                go_wp2_with fail
                refine (rotate_any _ blk off cap i m E d0 d w0 _ R HS.out S1.out (by omega) (by omega) (by have := HE.out; omega) hsz).mono ?_
                rintro e w3 ⟨rfl, d1, hR, hS3⟩
                have HR := Lib.hid hR
                have S3 : Aside (SW encF w0 blk off d1 w3) := hS3
                clear hS3 hR S1
                have HZ1 := Lib.hid (show d1.size = d.size from HR.out.1.1)
                have HX := Lib.hid (HM.out.cut HSW.out (s := i) (d1 := d1) h3 (by omega) (by omega) ⟨by omega, by omega⟩ HS0.out HR0.out (by omega) (by omega) (by omega) (by omega) HI.out HJ.out (by rw [← show E = mid + m - i by have := HE.out; omega]; exact HR.out))
                obtain ⟨d2, hd2⟩ : ∃ d2, d2 = d1 := ⟨_, rfl⟩
                have HP2 := Lib.hid (show PermIn a mid d1 d2 by rw [hd2]; exact permIn_refl _ _ _)
                have HO2 := Lib.hid (show SortedIn (stb (ltOf cf) Fin.val) a mid d2 by rw [hd2]; first | (have h9 := HX.out.1.r; rwa [show i = a by omega] at h9) | (have h9 := HX.out.1.l; rwa [show i = mid by omega] at h9))
                have S4 : Aside (SW encF w0 blk off d2 w3) := by rw [hd2]; exact S3
                clear S3 hd2
                have HZ2 := Lib.hid (show d2.size = d.size from HP2.out.1.trans HZ1.out)
                have HM2 := Lib.hid (show Mer (ltOf cf) Fin.val mid E b d2 by have h9 := HX.out.2.1; rw [show mid + m - i = E by have := HE.out; omega] at h9; exact ⟨fun p q x1 x2 x3 => by rw [HP2.out.2.1 p (.inr (by omega)), HP2.out.2.1 q (.inr (by omega))]; exact h9.l p q x1 x2 x3, fun p q x1 x2 x3 => by rw [HP2.out.2.1 p (.inr (by have := HE.out; omega)), HP2.out.2.1 q (.inr (by have := HE.out; omega))]; exact h9.r p q x1 x2 x3, fun p q x1 x2 x3 x4 => by rw [HP2.out.2.1 p (.inr (by omega)), HP2.out.2.1 q (.inr (by have := HE.out; omega))]; exact h9.x p q x1 x2 x3 x4⟩)
                obtain ⟨d3, hd3⟩ : ∃ d3, d3 = d2 := ⟨_, rfl⟩
                have HP3 := Lib.hid (show PermIn mid b d2 d3 by rw [hd3]; exact permIn_refl _ _ _)
                have HO3 := Lib.hid (show SortedIn (stb (ltOf cf) Fin.val) mid b d3 by rw [hd3]; have := HE.out; first | (have h9 := HM2.out.r; rwa [show E = mid by omega] at h9) | (have h9 := HM2.out.l; rwa [show E = b by omega] at h9))
                have S5 : Aside (SW encF w0 blk off d3 w3) := by rw [hd3]; exact S4
                clear S4 hd3
                go_wp2_with fail
                go_end0
                have hh := halves (show a ≤ mid by omega) (show mid ≤ b by omega) (by rw [HZ1.out]; exact h3) HX.out.2.2 HP2.out HO2.out HP3.out HO3.out
                exact ⟨rfl, d3, permIn_trans _ _ _ _ _ (permIn_mono _ _ _ _ _ _ (by omega) (by have := HE.out; omega) h3 HR.out.1) hh.1, hh.2, S5.out⟩
          · rcases Nat.lt_or_ge a i with q2 | q2
            · rcases Nat.lt_or_ge E b with q3 | q3
              · have a1 : (i : Int) < (m : Int) := by have := HE.out; omega
                have a2 : ¬ (m : Int) < (E : Int) := by have := HE.out; omega
                have b1 : (a : Int) < (i : Int) := by have := HE.out; omega
                have b2 : ¬ (i : Int) < (mid : Int) := by have := HE.out; omega
                have c1 : (mid : Int) < (E : Int) := by have := HE.out; omega
                have c2 : (E : Int) < (b : Int) := by have := HE.out; omega
                go_wp2_with fail
                obtain ⟨d1, hd1⟩ : ∃ d1, d1 = d := ⟨_, rfl⟩
                have HR := Lib.hid (show Rot i m E d d1 by rw [hd1]; have := HE.out; first | (rw [show i = m by omega]; exact Rot.left _ _ _) | (rw [show E = m by omega]; exact Rot.right _ _ _))
                have S3 : Aside (SW encF w0 blk off d1 wr) := by rw [hd1]; exact S1
                clear S1 hd1
                have HZ1 := Lib.hid (show d1.size = d.size from HR.out.1.1)
                have HX := Lib.hid (HM.out.cut HSW.out (s := i) (d1 := d1) h3 (by omega) (by omega) ⟨by omega, by omega⟩ HS0.out HR0.out (by omega) (by omega) (by omega) (by omega) HI.out HJ.out (by rw [← show E = mid + m - i by have := HE.out; omega]; exact HR.out))
                obtain ⟨d2, hd2⟩ : ∃ d2, d2 = d1 := ⟨_, rfl⟩
                have HP2 := Lib.hid (show PermIn a mid d1 d2 by rw [hd2]; exact permIn_refl _ _ _)
                have HO2 := Lib.hid (show SortedIn (stb (ltOf cf) Fin.val) a mid d2 by rw [hd2]; first | (have h9 := HX.out.1.r; rwa [show i = a by omega] at h9) | (have h9 := HX.out.1.l; rwa [show i = mid by omega] at h9))
                have S4 : Aside (SW encF w0 blk off d2 wr) := by rw [hd2]; exact S3
                clear S3 hd2
                have HZ2 := Lib.hid (show d2.size = d.size from HP2.out.1.trans HZ1.out)
                have HM2 := Lib.hid (show Mer (ltOf cf) Fin.val mid E b d2 by have h9 := HX.out.2.1; rw [show mid + m - i = E by have := HE.out; omega] at h9; exact ⟨fun p q x1 x2 x3 => by rw [HP2.out.2.1 p (.inr (by omega)), HP2.out.2.1 q (.inr (by omega))]; exact h9.l p q x1 x2 x3, fun p q x1 x2 x3 => by rw [HP2.out.2.1 p (.inr (by have := HE.out; omega)), HP2.out.2.1 q (.inr (by have := HE.out; omega))]; exact h9.r p q x1 x2 x3, fun p q x1 x2 x3 x4 => by rw [HP2.out.2.1 p (.inr (by omega)), HP2.out.2.1 q (.inr (by have := HE.out; omega))]; exact h9.x p q x1 x2 x3 x4⟩)
                refine (HIH.out mid E b d2 _ (by omega) _ HZ2.out.symm (by rw [HZ2.out]; exact HS.out) S4.out (by omega) (by omega) (by rw [HZ2.out]; exact h3) (by rw [HZ2.out]; exact hsz) HM2.out).mono ?_
                rintro e w5 ⟨rfl, d3, hP3, hO3, hS5⟩
                have HP3 := Lib.hid hP3
                have HO3 := Lib.hid hO3
                have S5 : Aside (SW encF w0 blk off d3 w5) := hS5
                clear hP3 hO3 hS5 S4
                go_wp2_with fail
                go_end0
                have hh := halves (show a ≤ mid by omega) (show mid ≤ b by omega) (by rw [HZ1.out]; exact h3) HX.out.2.2 HP2.out HO2.out HP3.out HO3.out
                exact ⟨rfl, d3, permIn_trans _ _ _ _ _ (permIn_mono _ _ _ _ _ _ (by omega) (by have := HE.out; omega) h3 HR.out.1) hh.1, hh.2, S5.out⟩
              · (exfalso; have := HE.out; have := HE1.out; have := HE2.out; omega)
            · rcases Nat.lt_or_ge E b with q3 | q3
              · (exfalso; have := HE.out; have := HE1.out; have := HE2.out; omega)
              · (exfalso; have := HE.out; have := HE1.out; have := HE2.out; omega)
        · rcases Nat.lt_or_ge i mid with q1 | q1
          · rcases Nat.lt_or_ge a i with q2 | q2
            · rcases Nat.lt_or_ge E b with q3 | q3
              · (exfalso; have := HE.out; have := HE1.out; have := HE2.out; omega)
              · (exfalso; have := HE.out; have := HE1.out; have := HE2.out; omega)
            · rcases Nat.lt_or_ge E b with q3 | q3
              · (exfalso; have := HE.out; have := HE1.out; have := HE2.out; omega)
              · (exfalso; have := HE.out; have := HE1.out; have := HE2.out; omega)
          · rcases Nat.lt_or_ge a i with q2 | q2
            · rcases Nat.lt_or_ge E b with q3 | q3
              · (exfalso; have := HE.out; have := HE1.out; have := HE2.out; omega)
              · (exfalso; have := HE.out; have := HE1.out; have := HE2.out; omega)
            · rcases Nat.lt_or_ge E b with q3 | q3
              · (exfalso; have := HE.out; have := HE1.out; have := HE2.out; omega)
              · (exfalso; have := HE.out; have := HE1.out; have := HE2.out; omega)
  · go_enter Try.func52, Try.ntmps52
    obtain ⟨s0, hs0⟩ : ∃ s0 : Nat, s0 = a := ⟨_, rfl⟩
    obtain ⟨r0, hr0⟩ : ∃ r0 : Nat, r0 = m := ⟨_, rfl⟩
    have HS0 := Lib.hid (show s0 = if mid < m then mid + m - b else a by rw [hs0, if_neg (by omega)])
    have HR0 := Lib.hid (show r0 = if mid < m then mid else m by rw [hr0, if_neg (by omega)])
    have k1 : s0 ≤ r0 := by omega
    have k2 : r0 ≤ mid ∧ r0 ≤ m := ⟨by omega, by omega⟩
    have k3 : a ≤ s0 := by omega
    have k4 : mid + m ≤ b + s0 := by omega
    have n0 : ¬ (mid : Int) < (m : Int) := by omega
    have e1 : (a : Int) = (s0 : Int) := by omega
    have e2 : (m : Int) = (r0 : Int) := by omega
    have HE1 := Lib.hid e1
    have HE2 := Lib.hid e2
    clear hs0 hr0 e1 e2
    go_wp2_with fail
    go_loopw [20, 21] (fun s20 s21 wr => ∃ (i j : Nat), s20 = .int .i64 i ∧ s21 = .int .i64 j ∧ s0 ≤ i ∧ i ≤ j ∧ j ≤ r0 ∧ Aside (SW encF w0 blk off d wr) ∧ Hid (∀ c, s0 ≤ c → c < i → stb (ltOf cf) Fin.val d[mid + m - 1 - c]! d[c]! = false) ∧ Hid (∀ c, j ≤ c → c < r0 → stb (ltOf cf) Fin.val d[mid + m - 1 - c]! d[c]! = true)) (fun s20 s21 _ => (intOf s21).toNat - (intOf s20).toNat)
    case atStart => exact ⟨s0, r0, by have := HE1.out; congr 1 <;> omega, by have := HE2.out; congr 1 <;> omega, Nat.le_refl _, by omega, Nat.le_refl _, S0, fun q h1 h2 => by omega, fun q h1 h2 => by omega⟩
    case round =>
      clear S0
      obtain ⟨i, j, rfl, rfl, hai, hij, hjm, S1, HI, HJ⟩ := hrel
      rcases Nat.lt_or_ge i j with hlt | hge
      · have hltz : (i : Int) < (j : Int) := by omega
        obtain ⟨H, hH⟩ : ∃ q : Nat, q = (i + j) / 2 := ⟨_, rfl⟩
        have waH : IntKind.i64.wrap ((i : Int) + (j : Int)) = (i : Int) + (j : Int) := IntWalk.i64_in _ (by omega)
        have wbH : IntKind.u64.wrap ((i : Int) + (j : Int)) = (i : Int) + (j : Int) := by rw [IntKind.wrap_u64]; omega
        have wcH : ((i : Int) + (j : Int)) / 2 = (H : Int) := by omega
        have wdH : IntKind.i64.wrap (H : Int) = (H : Int) := IntWalk.i64_in _ (by omega)
        have Hl : i ≤ H := by omega
        have Hr : H < j := by omega
        obtain ⟨J, hJ⟩ : ∃ J : Nat, J = mid + m - 1 - H := ⟨_, rfl⟩
        have HJJ := Lib.hid hJ
        have eJ : (mid : Int) + (m : Int) - 1 - (H : Int) = (J : Int) := by omega
        have wJ : IntKind.i64.wrap (J : Int) = (J : Int) := IntWalk.i64_in _ (by omega)
        have HT := Lib.hid (show ltOf cf d[J]! d[H]! = stb (ltOf cf) Fin.val d[J]! d[H]! from HM.out.test (by omega) (by omega) (by omega) (by omega))
        have hJl : m ≤ J := by omega
        have hJb : J < b := by omega
        clear hH hJ
        cases hlv : ltOf cf d[J]! d[H]! with
        | false =>
          have hwk : IntKind.i64.wrap ((H : Int) + 1) = (H : Int) + 1 := IntWalk.i64_in _ (by omega)
          have HQ := Lib.hid (show ∀ c, s0 ≤ c → c < H + 1 → stb (ltOf cf) Fin.val d[mid + m - 1 - c]! d[c]! = false from fun c h4 h5 =>
            HM.out.last_false HSW.out (H := H) (by omega) (HM.out.one_false HSW.out (H := J) (by omega) (by rw [← HT.out]; exact hlv) _ (by have := HJJ.out; omega) (by omega)) c (by omega) (by omega))
          obtain ⟨iN10, hiN10⟩ : ∃ q, q = J := ⟨_, rfl⟩
          obtain ⟨jN10, hjN10⟩ : ∃ q, q = H := ⟨_, rfl⟩
          have ea10 : ((J : Int)).toNat = iN10 := by omega
          have pa10 : (0 : Int) ≤ (J : Int) := by omega
          have ba10 : (J : Int) < (d.size : Int) := by omega
          have ra10 : IntKind.i64.wrap ((J : Int)) = (J : Int) := IntWalk.i64_in _ (by omega)
          have ec10 : ((H : Int)).toNat = jN10 := by omega
          have pc10 : (0 : Int) ≤ (H : Int) := by omega
          have bc10 : (H : Int) < (d.size : Int) := by omega
          have rc10 : IntKind.i64.wrap ((H : Int)) = (H : Int) := IntWalk.i64_in _ (by omega)
          obtain ⟨x10, hx10⟩ : ∃ x, x = d[J]! := ⟨_, rfl⟩
          obtain ⟨y10, hy10⟩ : ∃ x, x = d[H]! := ⟨_, rfl⟩
          obtain ⟨X10, hX10⟩ : ∃ X : Int, X = (x10.val : Int) := ⟨_, rfl⟩
          obtain ⟨Y10, hY10⟩ : ∃ X : Int, X = (y10.val : Int) := ⟨_, rfl⟩
          obtain ⟨C10, hC10⟩ : ∃ C : Int, C = cf x10 y10 := ⟨_, rfl⟩
          have l10a : ∀ n os, (Sort.grow (wr.drewN n) os).cell? ⟨blk, off + iN10, none⟩ = some (.int .i64 X10) := by rw [hX10, hx10, hiN10]; exact S1.out.cl R (by omega) (J) (by omega)
          have l10b : ∀ n os, (Sort.grow (wr.drewN n) os).cell? ⟨blk, off + jN10, none⟩ = some (.int .i64 Y10) := by rw [hY10, hy10, hjN10]; exact S1.out.cl R (by omega) (H) (by omega)
          have hc10 : ∀ n os, Calls Try.prog g (#[.int .i64 X10, .int .i64 Y10] ++ cb) (Sort.grow (wr.drewN n) os) fun e w' => e = .returned (.int .i64 C10) ∧ ∃ q os', w' = Sort.grow ((Sort.grow (wr.drewN n) os).drewN q) os' := by rw [hX10, hY10, hC10]; exact S1.out.cmp HC.out (by omega) x10 y10
          have hv10 : ¬ C10 < 0 := by rw [hC10, hx10, hy10]; exact of_decide_eq_false hlv
          have hd10 : decide (C10 < 0) = false := decide_eq_false hv10
          clear hx10 hy10 hiN10 hjN10 hX10 hY10 hC10
          go_wp2_with fail
          go_quiet_grown (first | (go_at_fn g; refine Calls.grown_of (hc10 _ _)))
          have S2 : Aside (SW encF w0 blk off d (Sort.grow (wr.drewN nq) osq)) := S1.out.grown nq osq
          clear l10a l10b hc10 S1
          generalize Sort.grow (wr.drewN nq) osq = w2 at S2 ⊢
          clear nq osq
          clear ea10 ec10
          go_wp2_with fail
          go_roundw
          case rel => exact ⟨H + 1, j, by go_num, rfl, by omega, by omega, hjm, S2, HQ, HJ⟩
          case measure => simp [intOf]; omega
        | true =>
          have HQ := Lib.hid (show ∀ c, H ≤ c → c < r0 → stb (ltOf cf) Fin.val d[mid + m - 1 - c]! d[c]! = true from fun c h4 h5 =>
            HM.out.last_true HSW.out (H := H) (by omega) (HM.out.one_true HSW.out (H := J) (by omega) (by rw [← HT.out]; exact hlv) _ (by omega) (by have := HJJ.out; omega)) c h4 (by omega))
          obtain ⟨iN11, hiN11⟩ : ∃ q, q = J := ⟨_, rfl⟩
          obtain ⟨jN11, hjN11⟩ : ∃ q, q = H := ⟨_, rfl⟩
          have ea11 : ((J : Int)).toNat = iN11 := by omega
          have pa11 : (0 : Int) ≤ (J : Int) := by omega
          have ba11 : (J : Int) < (d.size : Int) := by omega
          have ra11 : IntKind.i64.wrap ((J : Int)) = (J : Int) := IntWalk.i64_in _ (by omega)
          have ec11 : ((H : Int)).toNat = jN11 := by omega
          have pc11 : (0 : Int) ≤ (H : Int) := by omega
          have bc11 : (H : Int) < (d.size : Int) := by omega
          have rc11 : IntKind.i64.wrap ((H : Int)) = (H : Int) := IntWalk.i64_in _ (by omega)
          obtain ⟨x11, hx11⟩ : ∃ x, x = d[J]! := ⟨_, rfl⟩
          obtain ⟨y11, hy11⟩ : ∃ x, x = d[H]! := ⟨_, rfl⟩
          obtain ⟨X11, hX11⟩ : ∃ X : Int, X = (x11.val : Int) := ⟨_, rfl⟩
          obtain ⟨Y11, hY11⟩ : ∃ X : Int, X = (y11.val : Int) := ⟨_, rfl⟩
          obtain ⟨C11, hC11⟩ : ∃ C : Int, C = cf x11 y11 := ⟨_, rfl⟩
          have l11a : ∀ n os, (Sort.grow (wr.drewN n) os).cell? ⟨blk, off + iN11, none⟩ = some (.int .i64 X11) := by rw [hX11, hx11, hiN11]; exact S1.out.cl R (by omega) (J) (by omega)
          have l11b : ∀ n os, (Sort.grow (wr.drewN n) os).cell? ⟨blk, off + jN11, none⟩ = some (.int .i64 Y11) := by rw [hY11, hy11, hjN11]; exact S1.out.cl R (by omega) (H) (by omega)
          have hc11 : ∀ n os, Calls Try.prog g (#[.int .i64 X11, .int .i64 Y11] ++ cb) (Sort.grow (wr.drewN n) os) fun e w' => e = .returned (.int .i64 C11) ∧ ∃ q os', w' = Sort.grow ((Sort.grow (wr.drewN n) os).drewN q) os' := by rw [hX11, hY11, hC11]; exact S1.out.cmp HC.out (by omega) x11 y11
          have hv11 : C11 < 0 := by rw [hC11, hx11, hy11]; exact of_decide_eq_true hlv
          have hd11 : decide (C11 < 0) = true := decide_eq_true hv11
          clear hx11 hy11 hiN11 hjN11 hX11 hY11 hC11
          go_wp2_with fail
          go_quiet_grown (first | (go_at_fn g; refine Calls.grown_of (hc11 _ _)))
          have S2 : Aside (SW encF w0 blk off d (Sort.grow (wr.drewN nq) osq)) := S1.out.grown nq osq
          clear l11a l11b hc11 S1
          generalize Sort.grow (wr.drewN nq) osq = w2 at S2 ⊢
          clear nq osq
          clear ea11 ec11
          go_wp2_with fail
          go_roundw
          case rel => exact ⟨i, H, rfl, rfl, hai, by omega, by omega, S2, HI, HQ⟩
          case measure => simp [intOf]; omega
      · obtain rfl : i = j := by omega
        obtain ⟨E, hE⟩ : ∃ E : Nat, E + i = mid + m := ⟨mid + m - i, by omega⟩
        have HE := Lib.hid hE
        have eE : (mid : Int) + (m : Int) - (i : Int) = (E : Int) := by omega
        have wE : IntKind.i64.wrap (E : Int) = (E : Int) := IntWalk.i64_in _ (by omega)
        have gE : m ≤ E ∧ mid ≤ E ∧ E ≤ b := ⟨by omega, by omega, by omega⟩
        clear hE
        rcases Nat.lt_or_ge i m with q0 | q0
        · rcases Nat.lt_or_ge i mid with q1 | q1
          · rcases Nat.lt_or_ge a i with q2 | q2
            · rcases Nat.lt_or_ge E b with q3 | q3
              · have a1 : (i : Int) < (m : Int) := by have := HE.out; omega
                have a2 : (m : Int) < (E : Int) := by have := HE.out; omega
                have b1 : (a : Int) < (i : Int) := by have := HE.out; omega
                have b2 : (i : Int) < (mid : Int) := by have := HE.out; omega
                have c1 : (mid : Int) < (E : Int) := by have := HE.out; omega
                have c2 : (E : Int) < (b : Int) := by have := HE.out; omega
                go_wp2_with fail
                refine (rotate_any _ blk off cap i m E d0 d w0 _ R HS.out S1.out (by omega) (by omega) (by have := HE.out; omega) hsz).mono ?_
                rintro e w3 ⟨rfl, d1, hR, hS3⟩
                have HR := Lib.hid hR
                have S3 : Aside (SW encF w0 blk off d1 w3) := hS3
                clear hS3 hR S1
                have HZ1 := Lib.hid (show d1.size = d.size from HR.out.1.1)
                have HX := Lib.hid (HM.out.cut HSW.out (s := i) (d1 := d1) h3 (by omega) (by omega) ⟨by omega, by omega⟩ HS0.out HR0.out (by omega) (by omega) (by omega) (by omega) HI.out HJ.out (by rw [← show E = mid + m - i by have := HE.out; omega]; exact HR.out))
                go_wp2_with fail
                refine (HIH.out a i mid d1 _ (by omega) _ HZ1.out.symm (by rw [HZ1.out]; exact HS.out) S3.out (by omega) (by omega) (by rw [HZ1.out]; omega) (by rw [HZ1.out]; exact hsz) HX.out.1).mono ?_
                rintro e w4 ⟨rfl, d2, hP2, hO2, hS4⟩
                have HP2 := Lib.hid hP2
                have HO2 := Lib.hid hO2
                have S4 : Aside (SW encF w0 blk off d2 w4) := hS4
                clear hP2 hO2 hS4 S3
                have HZ2 := Lib.hid (show d2.size = d.size from HP2.out.1.trans HZ1.out)
                have HM2 := Lib.hid (show Mer (ltOf cf) Fin.val mid E b d2 by have h9 := HX.out.2.1; rw [show mid + m - i = E by have := HE.out; omega] at h9; exact ⟨fun p q x1 x2 x3 => by rw [HP2.out.2.1 p (.inr (by omega)), HP2.out.2.1 q (.inr (by omega))]; exact h9.l p q x1 x2 x3, fun p q x1 x2 x3 => by rw [HP2.out.2.1 p (.inr (by have := HE.out; omega)), HP2.out.2.1 q (.inr (by have := HE.out; omega))]; exact h9.r p q x1 x2 x3, fun p q x1 x2 x3 x4 => by rw [HP2.out.2.1 p (.inr (by omega)), HP2.out.2.1 q (.inr (by have := HE.out; omega))]; exact h9.x p q x1 x2 x3 x4⟩)
                go_wp2_with fail
                refine (HIH.out mid E b d2 _ (by omega) _ HZ2.out.symm (by rw [HZ2.out]; exact HS.out) S4.out (by omega) (by omega) (by rw [HZ2.out]; exact h3) (by rw [HZ2.out]; exact hsz) HM2.out).mono ?_
                rintro e w5 ⟨rfl, d3, hP3, hO3, hS5⟩
                have HP3 := Lib.hid hP3
                have HO3 := Lib.hid hO3
                have S5 : Aside (SW encF w0 blk off d3 w5) := hS5
                clear hP3 hO3 hS5 S4
                go_wp2_with fail
                go_end0
                have hh := halves (show a ≤ mid by omega) (show mid ≤ b by omega) (by rw [HZ1.out]; exact h3) HX.out.2.2 HP2.out HO2.out HP3.out HO3.out
                exact ⟨rfl, d3, permIn_trans _ _ _ _ _ (permIn_mono _ _ _ _ _ _ (by omega) (by have := HE.out; omega) h3 HR.out.1) hh.1, hh.2, S5.out⟩
              · (exfalso; have := HE.out; have := HE1.out; have := HE2.out; omega)
            · rcases Nat.lt_or_ge E b with q3 | q3
              · have a1 : (i : Int) < (m : Int) := by have := HE.out; omega
                have a2 : (m : Int) < (E : Int) := by have := HE.out; omega
                have b1 : ¬ (a : Int) < (i : Int) := by have := HE.out; omega
                have b2 : (i : Int) < (mid : Int) := by have := HE.out; omega
                have c1 : (mid : Int) < (E : Int) := by have := HE.out; omega
                have c2 : (E : Int) < (b : Int) := by have := HE.out; omega
                go_wp2_with fail
                refine (rotate_any _ blk off cap i m E d0 d w0 _ R HS.out S1.out (by omega) (by omega) (by have := HE.out; omega) hsz).mono ?_
                rintro e w3 ⟨rfl, d1, hR, hS3⟩
                have HR := Lib.hid hR
                have S3 : Aside (SW encF w0 blk off d1 w3) := hS3
                clear hS3 hR S1
                have HZ1 := Lib.hid (show d1.size = d.size from HR.out.1.1)
                have HX := Lib.hid (HM.out.cut HSW.out (s := i) (d1 := d1) h3 (by omega) (by omega) ⟨by omega, by omega⟩ HS0.out HR0.out (by omega) (by omega) (by omega) (by omega) HI.out HJ.out (by rw [← show E = mid + m - i by have := HE.out; omega]; exact HR.out))
                obtain ⟨d2, hd2⟩ : ∃ d2, d2 = d1 := ⟨_, rfl⟩
                have HP2 := Lib.hid (show PermIn a mid d1 d2 by rw [hd2]; exact permIn_refl _ _ _)
                have HO2 := Lib.hid (show SortedIn (stb (ltOf cf) Fin.val) a mid d2 by rw [hd2]; first | (have h9 := HX.out.1.r; rwa [show i = a by omega] at h9) | (have h9 := HX.out.1.l; rwa [show i = mid by omega] at h9))
                have S4 : Aside (SW encF w0 blk off d2 w3) := by rw [hd2]; exact S3
                clear S3 hd2
                have HZ2 := Lib.hid (show d2.size = d.size from HP2.out.1.trans HZ1.out)
                have HM2 := Lib.hid (show Mer (ltOf cf) Fin.val mid E b d2 by have h9 := HX.out.2.1; rw [show mid + m - i = E by have := HE.out; omega] at h9; exact ⟨fun p q x1 x2 x3 => by rw [HP2.out.2.1 p (.inr (by omega)), HP2.out.2.1 q (.inr (by omega))]; exact h9.l p q x1 x2 x3, fun p q x1 x2 x3 => by rw [HP2.out.2.1 p (.inr (by have := HE.out; omega)), HP2.out.2.1 q (.inr (by have := HE.out; omega))]; exact h9.r p q x1 x2 x3, fun p q x1 x2 x3 x4 => by rw [HP2.out.2.1 p (.inr (by omega)), HP2.out.2.1 q (.inr (by have := HE.out; omega))]; exact h9.x p q x1 x2 x3 x4⟩)
                go_wp2_with fail
                refine (HIH.out mid E b d2 _ (by omega) _ HZ2.out.symm (by rw [HZ2.out]; exact HS.out) S4.out (by omega) (by omega) (by rw [HZ2.out]; exact h3) (by rw [HZ2.out]; exact hsz) HM2.out).mono ?_
                rintro e w5 ⟨rfl, d3, hP3, hO3, hS5⟩
                have HP3 := Lib.hid hP3
                have HO3 := Lib.hid hO3
                have S5 : Aside (SW encF w0 blk off d3 w5) := hS5
                clear hP3 hO3 hS5 S4
                go_wp2_with fail
                go_end0
                have hh := halves (show a ≤ mid by omega) (show mid ≤ b by omega) (by rw [HZ1.out]; exact h3) HX.out.2.2 HP2.out HO2.out HP3.out HO3.out
                exact ⟨rfl, d3, permIn_trans _ _ _ _ _ (permIn_mono _ _ _ _ _ _ (by omega) (by have := HE.out; omega) h3 HR.out.1) hh.1, hh.2, S5.out⟩
              · have a1 : (i : Int) < (m : Int) := by have := HE.out; omega
                have a2 : (m : Int) < (E : Int) := by have := HE.out; omega
                have b1 : ¬ (a : Int) < (i : Int) := by have := HE.out; omega
                have b2 : (i : Int) < (mid : Int) := by have := HE.out; omega
                have c1 : (mid : Int) < (E : Int) := by have := HE.out; omega
                have c2 : ¬ (E : Int) < (b : Int) := by have := HE.out; omega
                go_wp2_with fail
                refine (rotate_any _ blk off cap i m E d0 d w0 _ R HS.out S1.out (by omega) (by omega) (by have := HE.out; omega) hsz).mono ?_
                rintro e w3 ⟨rfl, d1, hR, hS3⟩
                have HR := Lib.hid hR
                have S3 : Aside (SW encF w0 blk off d1 w3) := hS3
                clear hS3 hR S1
                have HZ1 := Lib.hid (show d1.size = d.size from HR.out.1.1)
                have HX := Lib.hid (HM.out.cut HSW.out (s := i) (d1 := d1) h3 (by omega) (by omega) ⟨by omega, by omega⟩ HS0.out HR0.out (by omega) (by omega) (by omega) (by omega) HI.out HJ.out (by rw [← show E = mid + m - i by have := HE.out; omega]; exact HR.out))
                obtain ⟨d2, hd2⟩ : ∃ d2, d2 = d1 := ⟨_, rfl⟩
                have HP2 := Lib.hid (show PermIn a mid d1 d2 by rw [hd2]; exact permIn_refl _ _ _)
                have HO2 := Lib.hid (show SortedIn (stb (ltOf cf) Fin.val) a mid d2 by rw [hd2]; first | (have h9 := HX.out.1.r; rwa [show i = a by omega] at h9) | (have h9 := HX.out.1.l; rwa [show i = mid by omega] at h9))
                have S4 : Aside (SW encF w0 blk off d2 w3) := by rw [hd2]; exact S3
                clear S3 hd2
                have HZ2 := Lib.hid (show d2.size = d.size from HP2.out.1.trans HZ1.out)
                have HM2 := Lib.hid (show Mer (ltOf cf) Fin.val mid E b d2 by have h9 := HX.out.2.1; rw [show mid + m - i = E by have := HE.out; omega] at h9; exact ⟨fun p q x1 x2 x3 => by rw [HP2.out.2.1 p (.inr (by omega)), HP2.out.2.1 q (.inr (by omega))]; exact h9.l p q x1 x2 x3, fun p q x1 x2 x3 => by rw [HP2.out.2.1 p (.inr (by have := HE.out; omega)), HP2.out.2.1 q (.inr (by have := HE.out; omega))]; exact h9.r p q x1 x2 x3, fun p q x1 x2 x3 x4 => by rw [HP2.out.2.1 p (.inr (by omega)), HP2.out.2.1 q (.inr (by have := HE.out; omega))]; exact h9.x p q x1 x2 x3 x4⟩)
                obtain ⟨d3, hd3⟩ : ∃ d3, d3 = d2 := ⟨_, rfl⟩
                have HP3 := Lib.hid (show PermIn mid b d2 d3 by rw [hd3]; exact permIn_refl _ _ _)
                have HO3 := Lib.hid (show SortedIn (stb (ltOf cf) Fin.val) mid b d3 by rw [hd3]; have := HE.out; first | (have h9 := HM2.out.r; rwa [show E = mid by omega] at h9) | (have h9 := HM2.out.l; rwa [show E = b by omega] at h9))
                have S5 : Aside (SW encF w0 blk off d3 w3) := by rw [hd3]; exact S4
                clear S4 hd3
                go_wp2_with fail
                go_end0
                have hh := halves (show a ≤ mid by omega) (show mid ≤ b by omega) (by rw [HZ1.out]; exact h3) HX.out.2.2 HP2.out HO2.out HP3.out HO3.out
                exact ⟨rfl, d3, permIn_trans _ _ _ _ _ (permIn_mono _ _ _ _ _ _ (by omega) (by have := HE.out; omega) h3 HR.out.1) hh.1, hh.2, S5.out⟩
          · rcases Nat.lt_or_ge a i with q2 | q2
            · rcases Nat.lt_or_ge E b with q3 | q3
              · (exfalso; have := HE.out; have := HE1.out; have := HE2.out; omega)
              · (exfalso; have := HE.out; have := HE1.out; have := HE2.out; omega)
            · rcases Nat.lt_or_ge E b with q3 | q3
              · (exfalso; have := HE.out; have := HE1.out; have := HE2.out; omega)
              · (exfalso; have := HE.out; have := HE1.out; have := HE2.out; omega)
        · rcases Nat.lt_or_ge i mid with q1 | q1
          · rcases Nat.lt_or_ge a i with q2 | q2
            · rcases Nat.lt_or_ge E b with q3 | q3
              · have a1 : ¬ (i : Int) < (m : Int) := by have := HE.out; omega
                have a2 : (m : Int) < (E : Int) := by have := HE.out; omega
                have b1 : (a : Int) < (i : Int) := by have := HE.out; omega
                have b2 : (i : Int) < (mid : Int) := by have := HE.out; omega
                have c1 : ¬ (mid : Int) < (E : Int) := by have := HE.out; omega
                have c2 : (E : Int) < (b : Int) := by have := HE.out; omega
                go_wp2_with fail
                obtain ⟨d1, hd1⟩ : ∃ d1, d1 = d := ⟨_, rfl⟩
                have HR := Lib.hid (show Rot i m E d d1 by rw [hd1]; have := HE.out; first | (rw [show i = m by omega]; exact Rot.left _ _ _) | (rw [show E = m by omega]; exact Rot.right _ _ _))
                have S3 : Aside (SW encF w0 blk off d1 wr) := by rw [hd1]; exact S1
                clear S1 hd1
                have HZ1 := Lib.hid (show d1.size = d.size from HR.out.1.1)
                have HX := Lib.hid (HM.out.cut HSW.out (s := i) (d1 := d1) h3 (by omega) (by omega) ⟨by omega, by omega⟩ HS0.out HR0.out (by omega) (by omega) (by omega) (by omega) HI.out HJ.out (by rw [← show E = mid + m - i by have := HE.out; omega]; exact HR.out))
                refine (HIH.out a i mid d1 _ (by omega) _ HZ1.out.symm (by rw [HZ1.out]; exact HS.out) S3.out (by omega) (by omega) (by rw [HZ1.out]; omega) (by rw [HZ1.out]; exact hsz) HX.out.1).mono ?_
                rintro e w4 ⟨rfl, d2, hP2, hO2, hS4⟩
                have HP2 := Lib.hid hP2
                have HO2 := Lib.hid hO2
                have S4 : Aside (SW encF w0 blk off d2 w4) := hS4
                clear hP2 hO2 hS4 S3
                have HZ2 := Lib.hid (show d2.size = d.size from HP2.out.1.trans HZ1.out)
                have HM2 := Lib.hid (show Mer (ltOf cf) Fin.val mid E b d2 by have h9 := HX.out.2.1; rw [show mid + m - i = E by have := HE.out; omega] at h9; exact ⟨fun p q x1 x2 x3 => by rw [HP2.out.2.1 p (.inr (by omega)), HP2.out.2.1 q (.inr (by omega))]; exact h9.l p q x1 x2 x3, fun p q x1 x2 x3 => by rw [HP2.out.2.1 p (.inr (by have := HE.out; omega)), HP2.out.2.1 q (.inr (by have := HE.out; omega))]; exact h9.r p q x1 x2 x3, fun p q x1 x2 x3 x4 => by rw [HP2.out.2.1 p (.inr (by omega)), HP2.out.2.1 q (.inr (by have := HE.out; omega))]; exact h9.x p q x1 x2 x3 x4⟩)
                obtain ⟨d3, hd3⟩ : ∃ d3, d3 = d2 := ⟨_, rfl⟩
                have HP3 := Lib.hid (show PermIn mid b d2 d3 by rw [hd3]; exact permIn_refl _ _ _)
                have HO3 := Lib.hid (show SortedIn (stb (ltOf cf) Fin.val) mid b d3 by rw [hd3]; have := HE.out; first | (have h9 := HM2.out.r; rwa [show E = mid by omega] at h9) | (have h9 := HM2.out.l; rwa [show E = b by omega] at h9))
                have S5 : Aside (SW encF w0 blk off d3 w4) := by rw [hd3]; exact S4
                clear S4 hd3
                go_wp2_with fail
                go_end0
                have hh := halves (show a ≤ mid by omega) (show mid ≤ b by omega) (by rw [HZ1.out]; exact h3) HX.out.2.2 HP2.out HO2.out HP3.out HO3.out
                exact ⟨rfl, d3, permIn_trans _ _ _ _ _ (permIn_mono _ _ _ _ _ _ (by omega) (by have := HE.out; omega) h3 HR.out.1) hh.1, hh.2, S5.out⟩
              · (exfalso; have := HE.out; have := HE1.out; have := HE2.out; omega)
            · rcases Nat.lt_or_ge E b with q3 | q3
              · (exfalso; have := HE.out; have := HE1.out; have := HE2.out; omega)
              · (exfalso; have := HE.out; have := HE1.out; have := HE2.out; omega)
          · rcases Nat.lt_or_ge a i with q2 | q2
            · rcases Nat.lt_or_ge E b with q3 | q3
              · have a1 : ¬ (i : Int) < (m : Int) := by have := HE.out; omega
                have a2 : ¬ (m : Int) < (E : Int) := by have := HE.out; omega
                have b1 : (a : Int) < (i : Int) := by have := HE.out; omega
                have b2 : ¬ (i : Int) < (mid : Int) := by have := HE.out; omega
                have c1 : ¬ (mid : Int) < (E : Int) := by have := HE.out; omega
                have c2 : (E : Int) < (b : Int) := by have := HE.out; omega
                go_wp2_with fail
                obtain ⟨d1, hd1⟩ : ∃ d1, d1 = d := ⟨_, rfl⟩
                have HR := Lib.hid (show Rot i m E d d1 by rw [hd1]; have := HE.out; first | (rw [show i = m by omega]; exact Rot.left _ _ _) | (rw [show E = m by omega]; exact Rot.right _ _ _))
                have S3 : Aside (SW encF w0 blk off d1 wr) := by rw [hd1]; exact S1
                clear S1 hd1
                have HZ1 := Lib.hid (show d1.size = d.size from HR.out.1.1)
                have HX := Lib.hid (HM.out.cut HSW.out (s := i) (d1 := d1) h3 (by omega) (by omega) ⟨by omega, by omega⟩ HS0.out HR0.out (by omega) (by omega) (by omega) (by omega) HI.out HJ.out (by rw [← show E = mid + m - i by have := HE.out; omega]; exact HR.out))
                obtain ⟨d2, hd2⟩ : ∃ d2, d2 = d1 := ⟨_, rfl⟩
                have HP2 := Lib.hid (show PermIn a mid d1 d2 by rw [hd2]; exact permIn_refl _ _ _)
                have HO2 := Lib.hid (show SortedIn (stb (ltOf cf) Fin.val) a mid d2 by rw [hd2]; first | (have h9 := HX.out.1.r; rwa [show i = a by omega] at h9) | (have h9 := HX.out.1.l; rwa [show i = mid by omega] at h9))
                have S4 : Aside (SW encF w0 blk off d2 wr) := by rw [hd2]; exact S3
                clear S3 hd2
                have HZ2 := Lib.hid (show d2.size = d.size from HP2.out.1.trans HZ1.out)
                have HM2 := Lib.hid (show Mer (ltOf cf) Fin.val mid E b d2 by have h9 := HX.out.2.1; rw [show mid + m - i = E by have := HE.out; omega] at h9; exact ⟨fun p q x1 x2 x3 => by rw [HP2.out.2.1 p (.inr (by omega)), HP2.out.2.1 q (.inr (by omega))]; exact h9.l p q x1 x2 x3, fun p q x1 x2 x3 => by rw [HP2.out.2.1 p (.inr (by have := HE.out; omega)), HP2.out.2.1 q (.inr (by have := HE.out; omega))]; exact h9.r p q x1 x2 x3, fun p q x1 x2 x3 x4 => by rw [HP2.out.2.1 p (.inr (by omega)), HP2.out.2.1 q (.inr (by have := HE.out; omega))]; exact h9.x p q x1 x2 x3 x4⟩)
                obtain ⟨d3, hd3⟩ : ∃ d3, d3 = d2 := ⟨_, rfl⟩
                have HP3 := Lib.hid (show PermIn mid b d2 d3 by rw [hd3]; exact permIn_refl _ _ _)
                have HO3 := Lib.hid (show SortedIn (stb (ltOf cf) Fin.val) mid b d3 by rw [hd3]; have := HE.out; first | (have h9 := HM2.out.r; rwa [show E = mid by omega] at h9) | (have h9 := HM2.out.l; rwa [show E = b by omega] at h9))
                have S5 : Aside (SW encF w0 blk off d3 wr) := by rw [hd3]; exact S4
                clear S4 hd3
                go_end0
                have hh := halves (show a ≤ mid by omega) (show mid ≤ b by omega) (by rw [HZ1.out]; exact h3) HX.out.2.2 HP2.out HO2.out HP3.out HO3.out
                exact ⟨rfl, d3, permIn_trans _ _ _ _ _ (permIn_mono _ _ _ _ _ _ (by omega) (by have := HE.out; omega) h3 HR.out.1) hh.1, hh.2, S5.out⟩
              · (exfalso; have := HE.out; have := HE1.out; have := HE2.out; omega)
            · rcases Nat.lt_or_ge E b with q3 | q3
              · (exfalso; have := HE.out; have := HE1.out; have := HE2.out; omega)
              · (exfalso; have := HE.out; have := HE1.out; have := HE2.out; omega)
end Go.Proofs.Ytfaojciballhnaa
