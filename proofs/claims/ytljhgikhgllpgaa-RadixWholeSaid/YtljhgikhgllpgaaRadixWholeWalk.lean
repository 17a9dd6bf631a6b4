/- The walk of the law RadixWhole. Conditions: none. -/
import Derived.Test.YtljhgikhgllpgaaDigits
import Derived.Test.YtljhgikhgllpgaaDigitsBack
import Derived.Test.YtljhgikhgllpgaaWhole
import Derived.Test.YtljhgikhgllpgaaBounds
import Derived.Test.YtljhgikhgllpgaaBase
import Derived.Test.YtljhgikhgllpgaaAlike
namespace Go.Proofs.Ytljhgikhgllpgaa.P
open Go Go.RowKit

theorem whole_zero {bs : List Int} {n : Int} (hn : wrap64 n = n) (h : wrap64 (prd bs) = 0) : wrap64 (hv bs (digs bs n).1) = n := by
  obtain ⟨q, e⟩ := digs_whole bs n
  obtain ⟨r, er⟩ := wrap_eq (prd bs)
  rw [h] at er
  rw [← hn]
  refine wrap_congr ⟨q + (digs bs n).2 * r, ?_⟩
  have e2 : (digs bs n).2 * prd bs = -((digs bs n).2 * r * 18446744073709551616) := by
    rw [show prd bs = -(r * 18446744073709551616) by omega, Int.mul_neg, Int.mul_assoc]
  rw [e2] at e
  rw [Int.add_mul]
  rw [show wrap64 n = n from hn]
  omega

theorem prd_mem_zero : ∀ {bs : List Int}, (0 : Int) ∈ bs → prd bs = 0
  | [], h => by simp at h
  | b :: bs, h => by
    rw [prd_cons]
    rcases List.mem_cons.1 h with h | h
    · rw [← h, Int.zero_mul]
    · rw [prd_mem_zero h, Int.mul_zero]

theorem whole_small {bs : List Int} {n : Int} (hz : (0 : Int) ∉ bs) (hl : bs.length ≤ 4) (hs : ∀ b ∈ bs, -1000 ≤ b ∧ b ≤ 1000) (h1 : -1099511627776 ≤ n) (h2 : n ≤ 1099511627776) :
    (wrap64 (n - wrap64 (hv bs (digs bs n).1))).tmod (wrap64 (prd bs)) = 0 := by
  have hf : Fit bs := fun b hb => ⟨fun e => hz (e ▸ hb), by have := hs b hb; omega⟩
  obtain ⟨e, h3, h4⟩ := digs_exact bs n hf (by omega)
  have hp := prd_fit hf
  have hpow : 1000 ^ bs.length ≤ 1000 ^ 4 := Nat.pow_le_pow_right (by omega) hl
  have hpow2 : bs.length * 1000 ^ bs.length ≤ 4 * 1000 ^ 4 := Nat.mul_le_mul hl hpow
  rw [wrap_small (n := hv bs _) (by omega), wrap_small (n := prd bs) (by omega), wrap_small (by omega)]
  exact Int.tmod_eq_zero_of_dvd ⟨(digs bs n).2, by rw [Int.mul_comm]; omega⟩

end Go.Proofs.Ytljhgikhgllpgaa.P

namespace Go.Proofs.Ytljhgikhgllpgaa
open Go Go.RowKit Go.Proofs.Ytljhgikhgllpgaa.P

set_option maxRecDepth 100000 in
set_option maxHeartbeats 4000000 in
theorem radixWhole_walk (v : Value) (n : Int) (bs : List Int) (w : World) (hx : IsInts w v bs) (hn : (Lit.int .i64 n).wf = true) :
    Calls Try.prog 8 #[v, .int .i64 n] w (Says w) := by
  obtain ⟨B, cb, rfl, b1, b2, b3, EB, H0⟩ := hx.open_
  clear hx
  have hnw : wrap64 n = n := by
    simp [Lit.wf, IntKind.min, IntKind.max, IntKind.bits, IntKind.signed] at hn
    unfold wrap64
    omega
  have HN := Lib.hid hnw
  clear hnw hn
  go_enter Try.func8, Try.ntmps8
  go_wp2_with fail
  have x1 := Box.new w 3 #[.int .i64 0, .int .i64 10, .int .i64 10]
  refine (digits_ok _ [0, 10, 10] 1234 _ (x1.isInts rfl (by simp)) (by simp)).mono ?_
  rintro en w1 ⟨r1, rfl, i1, hb1⟩
  have hbw := (below_one w _).trans (hb1.mono (below_one w _).size)
  clear hb1 x1
  rw [show (digs [0, 10, 10] 1234).1 = [12, 3, 4] by decide +kernel] at i1
  obtain ⟨R1, cr1, rfl, -, -, -, -, I1⟩ := i1.open_
  clear i1
  go_wp2_with fail
  have x2 := Box.new w1 3 #[.int .i64 12, .int .i64 3, .int .i64 4]
  have hsz := hbw.size
  have hb2 : Below w.heap.size w (w1.alloc (.cells #[.int .i64 12, .int .i64 3, .int .i64 4] 3)) := hbw.alloc hsz _
  refine (ints_any _ _ [12, 3, 4] [12, 3, 4] _ (I1.mono (below_one _ _)) (x2.isInts rfl (by simp))).mono ?_
  rintro en w2 ⟨b, rfl, hb, hb3⟩
  have hbt : b = true := hb.2 rfl
  subst hbt
  have hbw2 := hb2.trans (hb3.mono hb2.size)
  clear hb hb3 hb2 x2 I1 hbw hsz
  rcases Nat.lt_or_ge 4096 bs.length with g1 | g1
  · have g1' : decide ((4096 : Int) < bs.length) = true := by simp; omega
    go_wp2_with fail
    go_ret
    exact ⟨rfl, by have := hbw2.size; go_grown⟩
  have g1' : decide ((4096 : Int) < bs.length) = false := by simp; omega
  go_wp2_with fail
  refine (digits_ok _ bs n _ (H0.mono hbw2) g1).mono ?_
  rintro en w3 ⟨r3, rfl, i3, hb3⟩
  have hbw3 := hbw2.trans (hb3.mono hbw2.size)
  clear hb3 hbw2
  go_wp2_with fail
  refine (value_ok _ _ bs (digs bs n).1 _ (H0.mono hbw3) i3 g1 (digs_length _ _)).mono ?_
  rintro en w4 ⟨rfl, hb4⟩
  have hbw4 := hbw3.trans (hb4.mono hbw3.size)
  clear hb4 hbw3 i3
  obtain ⟨V, hV⟩ : ∃ V, V = wrap64 (hv bs (digs bs n).1) := ⟨_, rfl⟩
  rw [← hV]
  have HV := Lib.hid hV
  clear hV
  go_wp2_with fail
  go_loopw [13, 12] (fun i m wr => ∃ k : Nat, k ≤ bs.length ∧ i = .int .i64 k ∧ m = .int .i64 (wrap64 (prd (bs.take k))) ∧ (0 : Int) ∉ bs.take k ∧ Below w.heap.size w wr)
    (fun i _ _ => bs.length - (intOf i).toNat)
  case atStart => exact ⟨0, Nat.zero_le _, rfl, by simp [prd, wrap64], by simp, by have := hbw4.size; go_grown⟩
  case round =>
    obtain ⟨k, hk, rfl, rfl, hz, hbl⟩ := hrel
    rcases Nat.lt_or_ge k bs.length with hlt | hge
    · obtain ⟨ad, x, rfl, hx, hal, hcx⟩ := Elems.later EB hbl hlt
      by_cases h0 : x = 0
      · subst h0
        have e : V = n := HV.out.trans (whole_zero HN.out (by rw [prd_mem_zero (List.mem_of_getElem? hx)]; simp [wrap64]))
        clear hx hz
        subst e
        go_wp2_with fail
        go_ret
        exact ⟨by simp, by have := hbl.size; go_grown⟩
      · have h0' : ((x == 0) : Bool) = false := by simpa using h0
        have hn2 : wrap64 (wrap64 (prd (bs.take k)) * x) = wrap64 (prd (bs.take (k + 1))) := by
          rw [prd_take hx, wrap_mul_l]
        have hz2 : (0 : Int) ∉ bs.take (k + 1) := by
          rw [List.take_add_one, hx]
          simp only [Option.toList, List.mem_append, List.mem_singleton, not_or]
          exact ⟨hz, fun e => h0 e.symm⟩
        have HN2 := Lib.hid hn2
        have HZ2 := Lib.hid hz2
        clear hx hn2 hz hz2
        go_wp2_with fail
        go_roundw
        case rel => exact ⟨k + 1, by omega, by go_num, congrArg _ HN2.out, HZ2.out, by go_grown⟩
        case measure => simp [intOf]; omega
    · have hkk : k = bs.length := by omega
      subst hkk
      rw [List.take_length] at hz ⊢
      by_cases hp : wrap64 (prd bs) = 0
      · have e : V = n := HV.out.trans (whole_zero HN.out hp)
        rw [hp]
        clear hp hz
        subst e
        go_wp2_with fail
        go_ret
        exact ⟨by simp, by have := hbl.size; go_grown⟩
      · have hp' : ((wrap64 (prd bs) == 0) : Bool) = false := by simpa using hp
        have HZ := Lib.hid hz
        obtain ⟨P, hP⟩ : ∃ P, P = wrap64 (prd bs) := ⟨_, rfl⟩
        rw [← hP] at hp hp' ⊢
        have HP := Lib.hid hP
        clear hz hP
        by_cases h5 : (wrap64 (n - V)).tmod P = 0
        · go_wp2_with fail
          go_ret
          exact ⟨rfl, by have := hbl.size; go_grown⟩
        · have h5' : ((wrap64 (n - V)).tmod P == 0) = false := by simpa using h5
          go_wp2_with fail
          refine (within_any n _ _ _).mono ?_
          rintro en w5 ⟨b, rfl, hb, hb5⟩
          have hbw5 := hbl.trans (hb5.mono hbl.size)
          clear hb5
          cases b
          case false =>
            go_wp2_with fail
            go_ret
            exact ⟨rfl, by have := hbw5.size; go_grown⟩
          case true =>
            have hw := Lib.hid (hb.1 rfl)
            clear hb
            go_wp2_with fail
            refine (small_any _ bs 4 1000 _ (H0.mono hbw5) (by omega)).mono ?_
            rintro en w6 ⟨b, rfl, hb, hb6⟩
            have hbw6 := hbw5.trans (hb6.mono hbw5.size)
            clear hb6
            cases b
            case false =>
              go_wp2_with fail
              go_ret
              exact ⟨rfl, by have := hbw6.size; go_grown⟩
            case true =>
              obtain ⟨s1, s2⟩ := hb.1 rfl
              exact absurd (by rw [HV.out, HP.out]; exact whole_small HZ.out s1 s2 hw.out.1 hw.out.2) h5

end Go.Proofs.Ytljhgikhgllpgaa
