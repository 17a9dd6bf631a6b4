/- The walk of the law FoldSwings. Conditions: none. -/
import Derived.Test.YteohjimliaaggaaSwingPlain
import Derived.Test.YteohjimliaaggaaArrOf
import Derived.Test.YteohjimliaaggaaStore
import Derived.Test.YteohjimliaaggaaMore
import Derived.Test.YteohjimliaaggaaAlike
import Derived.Test.YteohjimliaaggaaMake
import Derived.Test.YteohjimliaaggaaBase
set_option linter.unusedSimpArgs false
set_option linter.unusedVariables false
namespace Go.Proofs.Yteohjimliaaggaa
open Go Go.RowKit Go.Proofs.Yteohjimliaaggaa.P

set_option maxRecDepth 100000 in
set_option maxHeartbeats 4000000 in
theorem foldSwings_walk (va : Value) (a : Arr) (w : World) (ha : IsArr w va a) (wa : Wf a.da) :
    Calls Try.prog 4 #[va] w (Says w) := by
  obtain ⟨A, ca, D, da, rfl, -, -⟩ := ha.open_
  have Wa := Lib.hid wa
  clear wa
  go_enter Try.func4, Try.ntmps4
  go_wp2_with fail
  have x1 := (Box.new (w.alloc (.cells #[.bool a.ch, .slice A a.sh.length ca, .slice D a.da.length da] 24)) 3 #[.int .i64 5, .int .i64 3, .int .i64 1])
  simp only [World.size_alloc, World.size_setCell] at x1
  have i1 : IsInts ((w.alloc (.cells #[.bool a.ch, .slice A a.sh.length ca, .slice D a.da.length da] 24)).alloc (.cells #[.int .i64 5, .int .i64 3, .int .i64 1] 3)) (.slice (some ⟨w.heap.size + 1, 0, none⟩) 3 3) [5, 3, 1] := x1.isInts (xs := [5, 3, 1]) (n := 3) rfl (by omega)
  clear x1
  refine (vec_any _ [5, 3, 1] _ i1).mono ?_
  rintro e w1 ⟨r1, rfl, hr1, hb1⟩
  have hbw1 := ((Below.refl w.heap.size w).trans ((below_two w _ _).mono (Below.refl w.heap.size w).size)).trans (hb1.mono ((Below.refl w.heap.size w).trans ((below_two w _ _).mono (Below.refl w.heap.size w).size)).size)
  have b_a1 := ((Box.new w 24 #[.bool a.ch, .slice A a.sh.length ca, .slice D a.da.length da]).alloc _).below hb1
  clear hb1 i1
  obtain ⟨c_a0, c_a1, c_a2⟩ := b_a1.three
  have l_a := b_a1.lt
  go_wp2_with fail
  refine ((show Calls _ _ _ _ (GivesOk (⟨false, [], [3]⟩ : Arr) _) from (reduce_vec hr1 (ok_vec (xs := [5, 3, 1]) (by simp)) (tame_sub.two 0 1) (by decide +kernel) rfl (by intro x hx; simp at hx; rcases hx with rfl | rfl | rfl <;> decide)).mono fun e w' h => by rw [show (ofR 2 [5, 3, 1]).1 = 3 by decide +kernel] at h; exact h)).mono ?_
  rintro e w2 ⟨r2, rfl, hr2, hb2⟩
  have hbw2 := hbw1.trans (hb2.mono hbw1.size)
  have b_a2 := b_a1.below hb2
  clear hb2 b_a1 hbw1 c_a0 c_a1 c_a2 l_a hr1
  obtain ⟨c_a0, c_a1, c_a2⟩ := b_a2.three
  have l_a := b_a2.lt
  obtain ⟨A2, ca2, D2, cd2, rfl, hs2, hd2⟩ := hr2.open_
  obtain ⟨af, x0, rfl, hx0, haf, hcf⟩ := Elems.later (IsInts.elems hd2) (Below.refl _ _) (k := 0) (by simp)
  simp only [List.getElem?_cons_zero, Option.some.injEq] at hx0
  subst hx0
  have hcf' : w2.cell? af = some (.int .i64 3) := hcf
  clear hs2 hd2 hcf
  by_cases hE : arrErr a = 0
  case neg =>
    have HE := Lib.hid hE
    clear hE
    go_wp2_with fail
    refine (check_bad (ha.mono (hbw2.trans ((below_one w2 _).mono hbw2.size))) HE.out).mono ?_
    rintro e w3 ⟨rfl, hb3⟩
    have hbw3 := (hbw2.trans ((below_one w2 _).mono hbw2.size)).trans (hb3.mono (hbw2.trans ((below_one w2 _).mono hbw2.size)).size)
    have b_a3 := (b_a2.alloc _).below hb3
    clear hb3 b_a2 hbw2 c_a0 c_a1 c_a2 l_a haf hcf' hr2
    obtain ⟨c_a0, c_a1, c_a2⟩ := b_a3.three
    have l_a := b_a3.lt
    go_wp2_with fail
    go_ret
    exact ⟨rfl, by have := hbw3.size; go_grown⟩
  obtain ⟨t, ht⟩ := ok_of_arrErr hE
  have hsl : a.sh.length = t.length := by rw [ht.sh, length_ints]
  have Ht := Lib.hid ht
  have HSL := Lib.hid hsl
  clear hE ht hsl
  by_cases hc : a.ch = true
  case pos =>
    rw [hc] at ha b_a2 c_a0
    clear hc
    go_wp2_with fail
    refine (check_ok (ha.mono (hbw2.trans ((below_one w2 _).mono hbw2.size))) Ht.out).mono ?_
    rintro e w3 ⟨rfl, hb3⟩
    have hbw3 := (hbw2.trans ((below_one w2 _).mono hbw2.size)).trans (hb3.mono (hbw2.trans ((below_one w2 _).mono hbw2.size)).size)
    have b_a3 := (b_a2.alloc _).below hb3
    clear hb3 b_a2 hbw2 c_a0 c_a1 c_a2 l_a haf hcf' hr2
    obtain ⟨c_a0, c_a1, c_a2⟩ := b_a3.three
    have l_a := b_a3.lt
    go_wp2_with fail
    go_ret
    exact ⟨rfl, by have := hbw3.size; go_grown⟩
  rw [Bool.not_eq_true] at hc
  rw [hc] at ha b_a2 c_a0
  have HC := Lib.hid hc
  clear hc
  by_cases hl : a.sh.length = 1
  case neg =>
    have q0 : ((a.sh.length : Int) != 1) = true := by simp; omega
    clear hl
    go_wp2_with fail
    refine (check_ok (ha.mono (hbw2.trans ((below_one w2 _).mono hbw2.size))) Ht.out).mono ?_
    rintro e w3 ⟨rfl, hb3⟩
    have hbw3 := (hbw2.trans ((below_one w2 _).mono hbw2.size)).trans (hb3.mono (hbw2.trans ((below_one w2 _).mono hbw2.size)).size)
    have b_a3 := (b_a2.alloc _).below hb3
    clear hb3 b_a2 hbw2 c_a0 c_a1 c_a2 l_a haf hcf' hr2
    obtain ⟨c_a0, c_a1, c_a2⟩ := b_a3.three
    have l_a := b_a3.lt
    go_wp2_with fail
    go_ret
    exact ⟨rfl, by have := hbw3.size; go_grown⟩
  have q0 : ((a.sh.length : Int) != 1) = false := by simp; omega
  have HL := Lib.hid hl
  clear hl
  obtain ⟨l, hl⟩ : ∃ l, t = [l] := by have h1 := HSL.out; have h2 := HL.out; match t, h1 with | [l], _ => exact ⟨l, rfl⟩ | [], h1 => rw [h2] at h1; simp at h1 | _ :: _ :: _, h1 => rw [h2] at h1; simp at h1
  subst hl
  go_wp2_with fail
  refine (check_ok (ha.mono (hbw2.trans ((below_one w2 _).mono hbw2.size))) Ht.out).mono ?_
  rintro e w3 ⟨rfl, hb3⟩
  have hbw3 := (hbw2.trans ((below_one w2 _).mono hbw2.size)).trans (hb3.mono (hbw2.trans ((below_one w2 _).mono hbw2.size)).size)
  have b_a3 := (b_a2.alloc _).below hb3
  clear hb3 b_a2 hbw2 c_a0 c_a1 c_a2 l_a haf hcf' hr2
  obtain ⟨c_a0, c_a1, c_a2⟩ := b_a3.three
  have l_a := b_a3.lt
  have EA := Lib.hid (IsArr.dataOf ha).elems
  have HDL := Lib.hid (ok_da_le Ht.out)
  have hof : (ofR 2 a.da).2 = 0 := by
    by_cases hn : a.da = []
    · rw [hn]; decide +kernel
    · exact tame_sub.of hn
  have HOF := Lib.hid hof
  clear hof
  go_wp2_with fail
  clear c_a0 c_a1 c_a2 l_a
  go_loopw [6, 5] (fun (s6 : Value) (s5 : Value) wx => ∃ k : Nat, k ≤ a.da.length ∧ s6 = .int .i64 k ∧ s5 = .int .i64 (wrap64 (swing (a.da.take k))) ∧ Below w3.heap.size w3 wx) (fun s6 _ _ => a.da.length - (intOf s6).toNat)
  case atStart => exact ⟨0, Nat.zero_le _, rfl, by simp [swing, wrap64], Below.refl _ _⟩
  case round =>
    obtain ⟨k, hk, rfl, rfl, hbx⟩ := hrel
    have bax := b_a3.below hbx
    obtain ⟨p0, p1, p2⟩ := bax.three
    have lax := bax.lt
    have hbw := hbw3.trans (hbx.mono hbw3.size)
    rcases Nat.lt_or_ge k a.da.length with hlt | hge
    · obtain ⟨ab, y, rfl, hy, hab, hcy⟩ := Elems.later EA.out hbw hlt
      have HLT := Lib.hid hlt
      have hkw : IntKind.i64.wrap ((k : Int) + 1) = (k : Int) + 1 := IntWalk.i64_in _ (by have := HDL.out; omega)
      have hrm : ((k : Int).tmod 2) = ((k % 2 : Nat) : Int) := (Int.ofNat_tmod k 2).symm
      rcases Nat.mod_two_eq_zero_or_one k with h2 | h2
      · have hup := swing_up hy h2
        have hup' := Lib.hid hup
        have h2' : ((k % 2 : Nat) : Int) = 0 := by omega
        rw [h2'] at hrm
        clear hup h2 h2' hy
        obtain ⟨S, hS⟩ : ∃ S, S = wrap64 (swing (a.da.take k)) := ⟨_, rfl⟩
        rw [← hS] at hup' ⊢
        clear hS
        go_wp2_with fail
        go_roundw
        case rel => exact ⟨k + 1, by have := HLT.out; omega, by go_num, by rw [← hup'.out], hbx⟩
        case measure => simp [intOf]; have := HLT.out; omega
      · have hup := swing_down hy h2
        have hup' := Lib.hid hup
        have h2' : ((k % 2 : Nat) : Int) = 1 := by omega
        rw [h2'] at hrm
        clear hup h2 h2' hy
        obtain ⟨S, hS⟩ : ∃ S, S = wrap64 (swing (a.da.take k)) := ⟨_, rfl⟩
        rw [← hS] at hup' ⊢
        clear hS
        go_wp2_with fail
        go_roundw
        case rel => exact ⟨k + 1, by have := HLT.out; omega, by go_num, by rw [← hup'.out], hbx⟩
        case measure => simp [intOf]; have := HLT.out; omega
    · have dk : decide (k < a.da.length) = false := by simp; omega
      have hall := swing_of Wa.out
      rw [List.take_of_length_le (by omega)]
      obtain ⟨S, hS⟩ : ∃ S, S = wrap64 (swing a.da) := ⟨_, rfl⟩
      rw [← hS] at hall ⊢
      have HALL := Lib.hid hall
      clear hall hS hk hge
      go_wp2_with fail
      refine (show Calls _ _ _ _ (GivesOk (⟨false, [], [S]⟩ : Arr) _) from (reduce_vec (ha.mono hbw) Ht.out (tame_sub.two 0 1) HOF.out HC.out Wa.out).mono fun e w' h => by rw [HALL.out] at h; exact h).mono ?_
      rintro e w7 ⟨r7, rfl, hr7, hb7⟩
      have hbw7 := hbw.trans (hb7.mono hbw.size)
      have bax7 := bax.below hb7
      clear hb7 hbx hbw bax p0 p1 p2 lax
      obtain ⟨A7, ca7, D7, cd7, rfl, hs7, hd7⟩ := hr7.open_
      obtain ⟨af, x0, rfl, hx0, haf, hcf⟩ := Elems.later (IsInts.elems hd7) (Below.refl _ _) (k := 0) (by simp)
      simp only [List.getElem?_cons_zero, Option.some.injEq] at hx0
      subst hx0
      have hcf' : w7.cell? af = some (.int .i64 S) := hcf
      clear hs7 hd7 hcf
      go_wp2_with fail
      go_ret
      exact ⟨rfl, by have := hbw7.size; go_grown⟩

end Go.Proofs.Yteohjimliaaggaa
