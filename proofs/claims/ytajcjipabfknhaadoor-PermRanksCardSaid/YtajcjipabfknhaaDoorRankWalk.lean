/- The walk of perm.Rank. Conditions: none. -/
import Derived.Test.YtajcjipabfknhaaDoorLeft
import Derived.Test.YtajcjipabfknhaaDoorOnes
import Derived.Test.YtajcjipabfknhaaDoorPermOps
set_option linter.unusedSimpArgs false
set_option linter.unusedVariables false
namespace Go.Proofs.YtajcjipabfknhaaDoor
open Go Go.RowKit Go.Proofs.YtajcjipabfknhaaDoor.P

theorem mask_low {j : Nat} (hj : j < 64) : IntKind.u64.wrap (IntKind.u64.wrap (2 ^ j) - 1) = ((2 ^ j - 1 : Nat) : Int) := by
  rw [pow_wrap hj]
  have h : 2 ^ j < 2 ^ 64 := Nat.pow_lt_pow_right (by omega) hj
  have h2 := Nat.two_pow_pos j
  simp only [IntKind.wrap, IntKind.bits, IntKind.signed]
  generalize 2 ^ j = z at *
  simp
  omega
theorem and_not {B j : Nat} (hB : B < 4096) (hj : j < 64) : bits BinOp.andNot IntKind.u64 (B : Int) (IntKind.u64.wrap (2 ^ j)) = ((B &&& (18446744073709551615 - 2 ^ j) : Nat) : Int) := by
  have h : 2 ^ j < 2 ^ 64 := Nat.pow_lt_pow_right (by omega) hj
  rw [pow_wrap hj, u64_andNot_nat B (2 ^ j) (by omega) (by omega)]
theorem and_low {B j : Nat} (hB : B < 4096) (hj : j < 64) : bits BinOp.and IntKind.u64 (B : Int) (IntKind.u64.wrap (IntKind.u64.wrap (2 ^ j) - 1)) = ((B &&& (2 ^ j - 1) : Nat) : Int) := by
  have h : 2 ^ j < 2 ^ 64 := Nat.pow_lt_pow_right (by omega) hj
  rw [mask_low hj, u64_and_nat B (2 ^ j - 1) (by omega) (by omega)]
theorem rank_wrap {r a b : Nat} (hr : r ≤ 479001600) (ha : a ≤ 12) (hb : b ≤ 12) : wrap64 (wrap64 ((r : Int) * (a : Int)) + (b : Int)) = ((r * a + b : Nat) : Int) := by
  have h : r * a ≤ 479001600 * 12 := Nat.mul_le_mul hr ha
  rw [← Int.natCast_mul]
  generalize r * a = z at *
  unfold wrap64
  omega

set_option maxRecDepth 100000 in
set_option maxHeartbeats 2000000 in
theorem rank_ok (v : Value) (p : List Nat) (w : World) (h1 : IsInts w v (ints p)) (hp : Perm p) (hl : p.length ≤ 12) :
    Calls Tryd.prog 29 #[v] w fun e w' => e = .returned (.tuple #[.int .i64 (rank p), .nilIface]) ∧ Below w.heap.size w w' := by
  obtain ⟨A, c, rfl, c1, c2, c3, EA, H0⟩ := h1.open_
  have o1 := ordErr_ok hp (by omega)
  simp only [length_ints] at c1 c3 H0 ⊢
  have O1 := Lib.hid o1
  have HP := Lib.hid hp
  clear h1 o1 hp
  have g1' : decide ((12 : Int) < p.length) = false := by simp; omega
  go_enter Tryd.func29, Tryd.ntmps29
  go_wp2_with fail
  refine (pcheck_ok _ _ _ H0 O1.out).mono ?_
  rintro en w1 ⟨rfl, hb1⟩
  clear H0
  go_wp2_with fail
  rw [mask_low (j := p.length) (by omega)]
  go_loopw [24, 5, 6] (fun i L r wr => ∃ (k : Nat) (lf : List Nat) (B q : Nat), k ≤ p.length ∧ i = .int .i64 k ∧ L = .int .u64 B ∧ r = .int .i64 q ∧ RankTo p k lf q ∧ BitsOf B lf ∧ (∀ m ∈ lf, m < 12) ∧ Below w.heap.size w wr)
    (fun i _ _ _ => p.length - (intOf i).toNat)
  case atStart => exact ⟨0, _, _, 0, Nat.zero_le _, rfl, rfl, rfl, RankTo.zero HP.out, bitsOf_all hl, fun m hm => by simp at hm; omega, by go_grown⟩
  case round =>
    obtain ⟨k, lf, B, q, hk, rfl, rfl, rfl, hR, hBt, hlf, hbl⟩ := hrel
    have HR := Lib.hid hR
    have HB := Lib.hid hBt
    have HL := Lib.hid hlf
    clear hR hBt hlf
    rcases Nat.lt_or_ge k p.length with hlt | hge
    · obtain ⟨ad, x, rfl, hx, hal, hcx⟩ := Elems.later EA hbl (k := k) (by rw [length_ints]; exact hlt)
      obtain ⟨rfl, -⟩ := ints_getD hx
      have hmem := HR.out.mem hlt
      have hm12 := HL.out _ hmem
      obtain ⟨m, hm⟩ : ∃ m, m = p.getD k 0 := ⟨_, rfl⟩
      have hn : lf.Nodup := List.nodup_iff_pairwise_ne.2 (HR.out.2.1.imp fun h => Nat.ne_of_lt h)
      have hstep := HR.out.succ hlt
      rw [← hm] at hmem hm12 hcx hstep
      have hBe := HB.out.erase hn m (by omega)
      have hon := ones_idx hBe HR.out.2.1 hmem HL.out
      have hA := and_not (B := B) (j := m) HB.out.1 (by omega)
      obtain ⟨B', hB'⟩ : ∃ B', B' = B &&& (18446744073709551615 - 2 ^ m) := ⟨_, rfl⟩
      rw [← hB'] at hBe hon hA
      have hC := and_low (B := B') (j := m) hBe.1 (by omega)
      have hidx : lf.idxOf m ≤ 12 := by
        have h1 := List.idxOf_lt_length_of_mem hmem
        have h2 := HR.out.1.length_eq
        rw [List.length_drop] at h2
        omega
      have hsm := HR.out.small HP.out hl
      have hrw := rank_wrap (r := q) (a := p.length - k) (b := lf.idxOf m) hsm (by omega) hidx
      rw [Int.natCast_sub (by omega)] at hrw
      have HST := Lib.hid hstep
      have HBE := Lib.hid hBe
      have HON := Lib.hid hon
      have HA := Lib.hid hA
      have HC := Lib.hid hC
      have HRW := Lib.hid hrw
      clear hx hm hmem hn hstep hBe hon hA hB' hC hrw hsm hidx
      go_wp2_with fail
      rw [HA.out, HC.out]
      refine (ones_ok _ _ (Nat.lt_of_le_of_lt Nat.and_le_left HBE.out.1)).mono ?_
      rintro en w2 ⟨rfl, rfl⟩
      unfold ones
      rw [HON.out]
      go_wp2_with fail
      go_roundw
      case rel => exact ⟨k + 1, lf.erase m, B', q * (p.length - k) + lf.idxOf m, by omega, by go_num, rfl, congrArg _ HRW.out, HST.out, HBE.out, fun z hz => HL.out z (List.mem_of_mem_erase hz), by go_grown⟩
      case measure => simp [intOf]; omega
    · have hkk : k = p.length := by omega
      subst hkk
      have hf := HR.out.all
      have HF := Lib.hid hf
      clear hf
      go_wp2_with fail
      refine bodyPost_ret (v := .tuple #[.int .i64 q, .nilIface]) (by simp [results, Tryd.results29, go_sem]) rfl ?_
      exact ⟨by rw [HF.out], by go_grown⟩

def rankErr (p : List Int) : Int := if ordErr p ≠ 0 then ordErr p else if 12 < p.length then 7 else 0
theorem rankErr_zero {p : List Int} (h : rankErr p = 0) : ∃ t, p = ints t ∧ Perm t ∧ t.length ≤ 12 := by
  unfold rankErr at h
  by_cases h1 : ordErr p ≠ 0
  · rw [if_pos h1] at h; exact absurd h h1
  · rw [if_neg h1] at h
    obtain ⟨t, rfl, ht, _⟩ := ordErr_zero (by simpa using h1)
    rw [length_ints] at h
    by_cases h2 : 12 < t.length
    · rw [if_pos h2] at h; omega
    · exact ⟨t, rfl, ht, by omega⟩

set_option maxHeartbeats 1000000 in
theorem rank_bad (v : Value) (p : List Int) (w : World) (h1 : IsInts w v p) (h : rankErr p ≠ 0) :
    Calls Tryd.prog 29 #[v] w fun e w' => e = .returned (.tuple #[.int .i64 0, .iface 23 (.int .i64 (rankErr p))]) ∧ Below w.heap.size w w' := by
  obtain ⟨A, ca, rfl, a1, a2, a3, -, H0⟩ := h1.open_
  clear h1
  by_cases c1 : ordErr p ≠ 0
  · have e : rankErr p = ordErr p := by unfold rankErr; rw [if_pos c1]
    rw [e]
    have C1 := Lib.hid c1
    clear c1 h e
    go_enter Tryd.func29, Tryd.ntmps29
    go_wp2_with fail
    refine (pcheck_bad _ _ _ H0 C1.out).mono ?_
    rintro en w1 ⟨rfl, hb1⟩
    go_wp2_with fail
    refine bodyPost_ret (v := .tuple #[.int .i64 0, .iface 23 (.int .i64 (ordErr p))]) (by simp [results, Tryd.results29, go_sem]) rfl ?_
    exact ⟨rfl, by go_grown⟩
  · have c1' : ordErr p = 0 := by simpa using c1
    have C1 := Lib.hid c1'
    by_cases c2 : 12 < p.length
    · have e : rankErr p = 7 := by unfold rankErr; rw [if_neg c1, if_pos c2]
      rw [e]
      have c2' : decide ((12 : Int) < p.length) = true := by simp; omega
      clear c1 c1' c2 h e
      go_enter Tryd.func29, Tryd.ntmps29
      go_wp2_with fail
      refine (pcheck_ok _ _ _ H0 C1.out).mono ?_
      rintro en w1 ⟨rfl, hb1⟩
      go_wp2_with fail
      refine bodyPost_ret (v := .tuple #[.int .i64 0, .iface 23 (.int .i64 7)]) (by simp [results, Tryd.results29, go_sem]) rfl ?_
      exact ⟨rfl, by go_grown⟩
    · exact absurd (by unfold rankErr; rw [if_neg c1, if_neg c2]) h

end Go.Proofs.YtajcjipabfknhaaDoor
