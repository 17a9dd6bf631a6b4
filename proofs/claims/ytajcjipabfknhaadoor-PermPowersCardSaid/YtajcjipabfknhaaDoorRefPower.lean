/- The walk of the reference Powered: half as often, twice. Conditions: none. -/
import Derived.Test.YtajcjipabfknhaaDoorPermTold
set_option linter.unusedSimpArgs false
set_option linter.unusedVariables false
namespace Go.Proofs.YtajcjipabfknhaaDoor
open Go Go.RowKit Go.Proofs.YtajcjipabfknhaaDoor.P

set_option maxRecDepth 100000 in
set_option maxHeartbeats 4000000 in
theorem powered_zero (v : Value) (p : List Nat) (w : World) (h1 : IsInts w v (ints p)) (hs : Perm p) (hn : p.length ≤ 4096) :
    Calls Tryd.prog 17 #[v, .int .i64 0] w (GivesL (ints (pwr p 0)) w) := by
  rw [pwr_zero hs]
  obtain ⟨A, ca, rfl, a1, a2, a3, EA, H0⟩ := h1.open_
  simp only [length_ints] at a1 a2 a3 EA H0 ⊢
  clear h1 hs EA H0
  go_enter Tryd.func17, Tryd.ntmps17
  go_wp2_with fail
  go_loopw [5, 6] (fun so sk wr => ∃ (k : Nat) (A2 : Option Addr) (c2 : Nat), k ≤ p.length ∧ sk = .int .i64 k ∧ so = .slice A2 k c2 ∧ Owns wr w.heap.size so k (ints (idn k)) ∧ Below w.heap.size w wr) (fun _ sk _ => p.length - (intOf sk).toNat)
  case atStart => exact ⟨0, none, 0, Nat.zero_le _, rfl, rfl, Owns.nil _ _, Below.refl _ _⟩
  case round =>
    obtain ⟨k, A2, c2, hk, rfl, rfl, ho, hbl⟩ := hrel
    rcases Nat.lt_or_ge k p.length with hlt | hge
    · have hsz := hbl.size
      go_wp2_with (at_builtin; refine wpList_append_ints _ rfl rfl _ _ rfl w.heap.size k _ (ints (idn k)) rfl (ho.alloc _) (some ⟨wr.heap.size, 0, none⟩) 1 1 [(k : Int)] rfl (by simp) (elems_new wr k) rfl (by omega) (by simp; omega) ?_; intro A4 c4 w4 hown4 hgrow4 hat4)
      go_roundw
      case rel => exact ⟨k + 1, A4, c4, by omega, by go_num, rfl, by unfold idn at hown4 ⊢; rw [List.range_succ]; simpa [ints] using hown4, (hbl.alloc hbl.size _).grown hgrow4 (by simp; omega) (fun _ e => (ho.lt e).1)⟩
      case measure => simp [intOf]; omega
    · obtain rfl : k = p.length := by omega
      go_wp2_with fail
      go_ret
      exact ⟨_, rfl, ho.isInts, hbl⟩

set_option maxRecDepth 100000 in
set_option maxHeartbeats 4000000 in
theorem powered_nat (n : Nat) : ∀ (K : Int) (v : Value) (p : List Nat) (w : World), K.natAbs ≤ n → -9223372036854775808 ≤ K ∧ K ≤ 9223372036854775807 → IsInts w v (ints p) → Perm p → p.length ≤ 4096 →
    Calls Tryd.prog 17 #[v, .int .i64 K] w (GivesL (ints (pwr p K)) w) := by
  induction n with
  | zero =>
    intro K v p w hK hw h1 hs hn
    obtain rfl : K = 0 := by omega
    exact powered_zero v p w h1 hs hn
  | succ n ih =>
    intro K v p w hK hw h1 hs hn
    by_cases c : K = 0
    · subst c
      exact powered_zero v p w h1 hs hn
    have IH := Lib.hid ih
    have HV := Lib.hid h1
    have HS := Lib.hid hs
    have hq : IntKind.i64.wrap (K.tdiv 2) = K.tdiv 2 := IntWalk.i64_quo' K 2 (by omega)
    have e1 : (K == 0) = false := by simp [c]
    clear ih h1 hs
    go_enter Tryd.func17, Tryd.ntmps17
    go_wp2_with fail
    obtain ⟨H, hH⟩ : ∃ H, H = K.tdiv 2 := ⟨_, rfl⟩
    obtain ⟨M, hM⟩ : ∃ M, M = K.tmod 2 := ⟨_, rfl⟩
    have hdm : K = H + H + M := by have := Int.mul_tdiv_add_tmod K 2; rw [hH, hM]; omega
    have hMr : M = 0 ∨ M = 1 ∨ M = -1 := by
      have h1 := Int.tmod_lt_of_pos K (b := 2) (by omega)
      have h2 := Int.tmod_lt_of_pos (-K) (b := 2) (by omega)
      rw [Int.neg_tmod] at h2
      rw [← hM] at h1 h2
      omega
    have hHa : H.natAbs = K.natAbs / 2 := by rw [hH, Int.natAbs_tdiv]; rfl
    have hHs : H.natAbs ≤ n := by omega
    have hHr : -9223372036854775808 ≤ H ∧ H ≤ 9223372036854775807 := by omega
    have hT := hM.symm
    rw [← hH]
    rw [← hH] at hq
    have HDM := Lib.hid hdm
    clear hH hM hq hdm
    refine (IH.out H v p w hHs hHr HV.out HS.out hn).mono ?_
    rintro e w1 ⟨r1, rfl, hr1, hb1⟩
    have hl1 : (pwr p H).length ≤ 4096 := by rw [pwr_length]; exact hn
    have hlt1 : ∀ k, k < (pwr p H).length → (pwr p H).getD k 0 < (pwr p H).length := fun k hk => (pwr_perm HS.out H).lt hk
    have C1 := behind_ok r1 r1 (pwr p H) (pwr p H) w1 hr1 hr1 hlt1 hl1
    have HV1 := Lib.hid (HV.out.mono hb1)
    have HB1 := Lib.hid hb1
    clear hr1 hlt1 hl1 hb1
    have C1 := Lib.hid C1
    go_wp2_with fail
    refine C1.out.mono ?_
    rintro e w2 ⟨r2, rfl, hr2, hb2⟩
    have HBW2 := Lib.hid (HB1.out.trans (hb2.mono HB1.out.size))
    have HV2 := Lib.hid (HV.out.mono HBW2.out)
    have HR2 := Lib.hid hr2
    clear C1 hr2 hb2
    have hlA : (aft (pwr p H) (pwr p H)).length ≤ 4096 := by rw [aft_length, pwr_length]; exact hn
    have HLT := Lib.hid (show ∀ k, k < (aft (pwr p H) (pwr p H)).length → (aft (pwr p H) (pwr p H)).getD k 0 < p.length from fun k hk => by
      have := (aft_perm (pwr_perm HS.out H) (pwr_perm HS.out H) rfl).lt hk
      rw [aft_length, pwr_length] at this
      exact this)
    rcases hMr with h | h | h
    · subst h
      have HF := Lib.hid (show pwr p K = aft (pwr p H) (pwr p H) by rw [HDM.out, Int.add_zero]; exact (pwr_add HS.out H H).symm)
      go_wp2_with fail
      go_ret
      exact ⟨_, rfl, by rw [HF.out]; exact HR2.out, HBW2.out⟩
    · subst h
      have HF := Lib.hid (show pwr p K = aft p (aft (pwr p H) (pwr p H)) by rw [HDM.out]; exact pwr_odd HS.out H)
      have C2 := Lib.hid (behind_ok v r2 p (aft (pwr p H) (pwr p H)) w2 HV2.out HR2.out HLT.out hlA)
      go_wp2_with fail
      refine C2.out.mono ?_
      rintro e w3 ⟨r3, rfl, hr3, hb3⟩
      have HBW3 := Lib.hid (HBW2.out.trans (hb3.mono HBW2.out.size))
      have HR3 := Lib.hid hr3
      clear hr3 hb3 C2
      go_wp2_with fail
      go_ret
      exact ⟨_, rfl, by rw [HF.out]; exact HR3.out, HBW3.out⟩
    · subst h
      have HF := Lib.hid (show pwr p K = aft (inv p) (aft (pwr p H) (pwr p H)) by rw [HDM.out]; exact pwr_odd' HS.out H)
      have C2 := Lib.hid (turned_ok v p w2 HV2.out HS.out hn)
      go_wp2_with fail
      refine C2.out.mono ?_
      rintro e w3 ⟨r3, rfl, hr3, hb3⟩
      have HBW3 := Lib.hid (HBW2.out.trans (hb3.mono HBW2.out.size))
      have C3 := Lib.hid (behind_ok r3 r2 (inv p) (aft (pwr p H) (pwr p H)) w3 hr3 (HR2.out.mono hb3) (by rw [inv_length]; exact HLT.out) hlA)
      clear hr3 hb3 C2
      go_wp2_with fail
      refine C3.out.mono ?_
      rintro e w4 ⟨r4, rfl, hr4, hb4⟩
      have HBW4 := Lib.hid (HBW3.out.trans (hb4.mono HBW3.out.size))
      have HR4 := Lib.hid hr4
      clear hr4 hb4 C3
      go_wp2_with fail
      go_ret
      exact ⟨_, rfl, by rw [HF.out]; exact HR4.out, HBW4.out⟩

theorem powered_ok (K : Int) (v : Value) (p : List Nat) (w : World) (hK : -9223372036854775808 ≤ K ∧ K ≤ 9223372036854775807) (h1 : IsInts w v (ints p)) (hs : Perm p) (hn : p.length ≤ 4096) :
    Calls Tryd.prog 17 #[v, .int .i64 K] w (GivesL (ints (pwr p K)) w) :=
  powered_nat K.natAbs K v p w (Nat.le_refl _) hK h1 hs hn

end Go.Proofs.YtajcjipabfknhaaDoor
