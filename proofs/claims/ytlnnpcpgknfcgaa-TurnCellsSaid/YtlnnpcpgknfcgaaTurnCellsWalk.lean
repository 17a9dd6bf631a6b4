/- The walk of the law TurnCells. Conditions: none. -/
import Derived.Test.YtlnnpcpgknfcgaaCellsPlain
import Derived.Test.YtlnnpcpgknfcgaaStore
import Derived.Test.YtlnnpcpgknfcgaaMore
import Derived.Test.YtlnnpcpgknfcgaaAlike
import Derived.Test.YtlnnpcpgknfcgaaMake
import Derived.Test.YtlnnpcpgknfcgaaBase
import Derived.Test.YtlnnpcpgknfcgaaRev
import Derived.Test.YtlnnpcpgknfcgaaHelp
import Derived.Test.YtlnnpcpgknfcgaaFlipWalk
set_option linter.unusedSimpArgs false
set_option linter.unusedVariables false
namespace Go.Proofs.Ytlnnpcpgknfcgaa
open Go Go.RowKit Go.Proofs.Ytlnnpcpgknfcgaa.P

set_option maxRecDepth 100000 in
set_option maxHeartbeats 4000000 in
theorem turnCells_walk (f i1 i2 : Int) (vp : Value) (p : List Int) (va vb : Value) (a b : Arr) (w : World) (hp : IsInts w vp p) (ha : IsArr w va a) (hb : IsArr w vb b) (wb : Wf b.da) :
    Calls Try.prog 3 #[.int .i64 f, .int .i64 i1, .int .i64 i2, vp, va, vb] w (Says w) := by
  obtain ⟨A, ca, D, da, rfl, -, -⟩ := ha.open_
  obtain ⟨A', cb, D', db, rfl, -, -⟩ := hb.open_
  have Wb := Lib.hid wb
  clear wb
  go_enter Try.func3, Try.ntmps3
  go_wp2_with fail
  have x1 := (Box.new ((w.alloc (.cells #[.bool a.ch, .slice A a.sh.length ca, .slice D a.da.length da] 25)).alloc (.cells #[.bool b.ch, .slice A' b.sh.length cb, .slice D' b.da.length db] 25)) 3 #[.int .i64 1, .int .i64 2])
  simp only [World.size_alloc, World.size_setCell] at x1
  have i1 : IsInts (((w.alloc (.cells #[.bool a.ch, .slice A a.sh.length ca, .slice D a.da.length da] 25)).alloc (.cells #[.bool b.ch, .slice A' b.sh.length cb, .slice D' b.da.length db] 25)).alloc (.cells #[.int .i64 1, .int .i64 2] 3)) (.slice (some ⟨w.heap.size + 1 + 1, 0, none⟩) 2 2) [1, 2] := x1.isInts (xs := [1, 2]) (n := 2) rfl (by omega)
  clear x1
  refine (vec_any _ [1, 2] _ i1).mono ?_
  rintro e w1 ⟨r1, rfl, hr1, hb1⟩
  have hbw1 := ((Below.refl w.heap.size w).trans ((below_three w _ _ _).mono (Below.refl w.heap.size w).size)).trans (hb1.mono ((Below.refl w.heap.size w).trans ((below_three w _ _ _).mono (Below.refl w.heap.size w).size)).size)
  have b_a1 := (((Box.new w 25 #[.bool a.ch, .slice A a.sh.length ca, .slice D a.da.length da]).alloc _).alloc _).below hb1
  have b_b1 := ((Box.new (w.alloc (.cells #[.bool a.ch, .slice A a.sh.length ca, .slice D a.da.length da] 25)) 25 #[.bool b.ch, .slice A' b.sh.length cb, .slice D' b.da.length db]).alloc _).below hb1
  simp only [World.size_alloc, World.size_setCell] at b_b1
  clear hb1 i1
  obtain ⟨c_a0, c_a1, c_a2⟩ := b_a1.three
  have l_a := b_a1.lt
  obtain ⟨c_b0, c_b1, c_b2⟩ := b_b1.three
  have l_b := b_b1.lt
  go_wp2_with fail
  refine ((show Calls _ _ _ _ (GivesOk (rev 0 ⟨false, [2], [1, 2]⟩) _) from reverse_ok (k := 0) hr1 (ok_vec (xs := [1, 2]) (by simp)) (by simp))).mono ?_
  rintro e w2 ⟨r2, rfl, hr2, hb2⟩
  have hbw2 := hbw1.trans (hb2.mono hbw1.size)
  have b_a2 := b_a1.below hb2
  have b_b2 := b_b1.below hb2
  clear hb2 b_a1 b_b1 hbw1 c_a0 c_a1 c_a2 l_a c_b0 c_b1 c_b2 l_b hr1
  obtain ⟨c_a0, c_a1, c_a2⟩ := b_a2.three
  have l_a := b_a2.lt
  obtain ⟨c_b0, c_b1, c_b2⟩ := b_b2.three
  have l_b := b_b2.lt
  obtain ⟨A2, ca2, D2, cd2, rfl, hs2, hd2⟩ := hr2.open_
  go_wp2_with fail
  have bq := Box.new (w2.alloc (.cells #[.bool ((rev 0 ⟨false, [2], [1, 2]⟩)).ch, .slice A2 ((rev 0 ⟨false, [2], [1, 2]⟩)).sh.length ca2, .slice D2 ((rev 0 ⟨false, [2], [1, 2]⟩)).da.length cd2] 25)) 3 #[.int .i64 2, .int .i64 1]
  rw [World.size_alloc] at bq
  refine (ints_any _ _ _ [2, 1] _ (hd2.mono (below_two _ _ _)) (bq.isInts rfl (by simp))).mono ?_
  rintro e w3 ⟨r3, rfl, hr3, hb3⟩
  have e3 : r3 = true := hr3.2 (by first | decide | decide +kernel)
  subst e3
  clear hr3 hs2 hd2
  clear hr2
  have hbw3 := (hbw2.trans ((below_two w2 _ _).mono hbw2.size)).trans (hb3.mono (hbw2.trans ((below_two w2 _ _).mono hbw2.size)).size)
  have b_a3 := ((b_a2.alloc _).alloc _).below hb3
  have b_b3 := ((b_b2.alloc _).alloc _).below hb3
  clear hb3 b_a2 b_b2 hbw2 c_a0 c_a1 c_a2 l_a c_b0 c_b1 c_b2 l_b bq
  obtain ⟨c_a0, c_a1, c_a2⟩ := b_a3.three
  have l_a := b_a3.lt
  obtain ⟨c_b0, c_b1, c_b2⟩ := b_b3.three
  have l_b := b_b3.lt
  by_cases hsh : a.sh = b.sh
  case neg =>
    have HSH := Lib.hid hsh
    clear hsh
    go_wp2_with fail
    refine (ints_any _ _ _ _ _ (IsArr.shapeOf (ha.mono hbw3)) (IsArr.shapeOf (hb.mono hbw3))).mono ?_
    rintro e w4 ⟨rs, rfl, hrs, hb4⟩
    have ers : rs = false := by cases rs with | false => rfl | true => exact absurd (hrs.1 rfl) HSH.out
    subst ers
    clear hrs
    have hbw4 := hbw3.trans (hb4.mono hbw3.size)
    have b_a4 := b_a3.below hb4
    have b_b4 := b_b3.below hb4
    clear hb4 b_a3 b_b3 hbw3 c_a0 c_a1 c_a2 l_a c_b0 c_b1 c_b2 l_b
    obtain ⟨c_a0, c_a1, c_a2⟩ := b_a4.three
    have l_a := b_a4.lt
    obtain ⟨c_b0, c_b1, c_b2⟩ := b_b4.three
    have l_b := b_b4.lt
    go_wp2_with fail
    refine (each_told (ha.mono hbw4) (hb.mono hbw4) Wb.out).mono ?_
    rintro e w5 h5
    rcases h5 with ⟨-, rfl, hb5⟩ | ⟨hz, h5⟩
    · skip
      have hbw5 := hbw4.trans (hb5.mono hbw4.size)
      have b_a5 := b_a4.below hb5
      have b_b5 := b_b4.below hb5
      clear hb5 b_a4 b_b4 hbw4 c_a0 c_a1 c_a2 l_a c_b0 c_b1 c_b2 l_b
      obtain ⟨c_a0, c_a1, c_a2⟩ := b_a5.three
      have l_a := b_a5.lt
      obtain ⟨c_b0, c_b1, c_b2⟩ := b_b5.three
      have l_b := b_b5.lt
      go_wp2_with fail
      go_ret
      exact ⟨rfl, by have := hbw5.size; go_grown⟩
    · clear hz
      rcases h5 with ⟨-, r5, rfl, hr5, hb5⟩ | ⟨i, -, -, -, rfl, hb5⟩
      · skip
        have hbw5 := hbw4.trans (hb5.mono hbw4.size)
        have b_a5 := b_a4.below hb5
        have b_b5 := b_b4.below hb5
        clear hb5 b_a4 b_b4 hbw4 c_a0 c_a1 c_a2 l_a c_b0 c_b1 c_b2 l_b
        obtain ⟨c_a0, c_a1, c_a2⟩ := b_a5.three
        have l_a := b_a5.lt
        obtain ⟨c_b0, c_b1, c_b2⟩ := b_b5.three
        have l_b := b_b5.lt
        obtain ⟨A5, ca5, D5, cd5, rfl, hs5, hd5⟩ := hr5.open_
        go_wp2_with fail
        go_ret
        exact ⟨rfl, by have := hbw5.size; go_grown⟩
      · skip
        have hbw5 := hbw4.trans (hb5.mono hbw4.size)
        have b_a5 := b_a4.below hb5
        have b_b5 := b_b4.below hb5
        clear hb5 b_a4 b_b4 hbw4 c_a0 c_a1 c_a2 l_a c_b0 c_b1 c_b2 l_b
        obtain ⟨c_a0, c_a1, c_a2⟩ := b_a5.three
        have l_a := b_a5.lt
        obtain ⟨c_b0, c_b1, c_b2⟩ := b_b5.three
        have l_b := b_b5.lt
        go_wp2_with fail
        go_ret
        exact ⟨rfl, by have := hbw5.size; go_grown⟩
  have HSH := Lib.hid hsh
  clear hsh
  go_wp2_with fail
  refine (ints_any _ _ _ _ _ (IsArr.shapeOf (ha.mono hbw3)) (IsArr.shapeOf (hb.mono hbw3))).mono ?_
  rintro e w4 ⟨rs, rfl, hrs, hb4⟩
  have ers : rs = true := hrs.2 HSH.out
  subst ers
  clear hrs
  have hbw4 := hbw3.trans (hb4.mono hbw3.size)
  have b_a4 := b_a3.below hb4
  have b_b4 := b_b3.below hb4
  clear hb4 b_a3 b_b3 hbw3 c_a0 c_a1 c_a2 l_a c_b0 c_b1 c_b2 l_b
  obtain ⟨c_a0, c_a1, c_a2⟩ := b_a4.three
  have l_a := b_a4.lt
  obtain ⟨c_b0, c_b1, c_b2⟩ := b_b4.three
  have l_b := b_b4.lt
  go_wp2_with fail
  refine (each_told (ha.mono hbw4) (hb.mono hbw4) Wb.out).mono ?_
  rintro e w5 h5
  rcases h5 with ⟨-, rfl, hb5⟩ | ⟨hz, h5⟩
  · skip
    have hbw5 := hbw4.trans (hb5.mono hbw4.size)
    have b_a5 := b_a4.below hb5
    have b_b5 := b_b4.below hb5
    clear hb5 b_a4 b_b4 hbw4 c_a0 c_a1 c_a2 l_a c_b0 c_b1 c_b2 l_b
    obtain ⟨c_a0, c_a1, c_a2⟩ := b_a5.three
    have l_a := b_a5.lt
    obtain ⟨c_b0, c_b1, c_b2⟩ := b_b5.three
    have l_b := b_b5.lt
    go_wp2_with fail
    go_ret
    exact ⟨rfl, by have := hbw5.size; go_grown⟩
  · obtain ⟨t, t2, hta, htb⟩ : ∃ t t2, Ok a t ∧ Ok b t2 := by obtain ⟨-, ⟨t, h1⟩, ⟨t2, h2⟩, -⟩ := eachErr_zero hz; exact ⟨t, t2, h1, h2⟩
    have ett : t = t2 := ints_inj (by rw [← hta.sh, ← htb.sh, HSH.out])
    subst ett
    rcases h5.zip hta htb with ⟨hall, r5, rfl, hr5, hb5⟩ | ⟨i, -, -, -, rfl, hb5⟩
    case inr => 
      skip
      have hbw5 := hbw4.trans (hb5.mono hbw4.size)
      have b_a5 := b_a4.below hb5
      have b_b5 := b_b4.below hb5
      clear hb5 b_a4 b_b4 hbw4 c_a0 c_a1 c_a2 l_a c_b0 c_b1 c_b2 l_b
      obtain ⟨c_a0, c_a1, c_a2⟩ := b_a5.three
      have l_a := b_a5.lt
      obtain ⟨c_b0, c_b1, c_b2⟩ := b_b5.three
      have l_b := b_b5.lt
      go_wp2_with fail
      go_ret
      exact ⟨rfl, by have := hbw5.size; go_grown⟩
    have HZ := Lib.hid (show ZipFine f a b from ⟨hz, hall⟩)
    have HA := Lib.hid hta
    have HB := Lib.hid htb
    have HC := Lib.hid (zipA_ok (f := f) (b := b) hta)
    clear hz hall hta htb
    have hr5 : IsArr w5 r5 (zipA f a b) := hr5
    have hbw5 := hbw4.trans (hb5.mono hbw4.size)
    have b_a5 := b_a4.below hb5
    have b_b5 := b_b4.below hb5
    clear hb5 b_a4 b_b4 hbw4 c_a0 c_a1 c_a2 l_a c_b0 c_b1 c_b2 l_b
    obtain ⟨c_a0, c_a1, c_a2⟩ := b_a5.three
    have l_a := b_a5.lt
    obtain ⟨c_b0, c_b1, c_b2⟩ := b_b5.three
    have l_b := b_b5.lt
    obtain ⟨A5, ca5, D5, cd5, rfl, hs5, hd5⟩ := hr5.open_
    have o5 := l_b
    by_cases hx : axErr i2 a = 0
    case neg =>
      have HX := Lib.hid hx
      clear hx
      go_wp2_with fail
      refine (reverse_bad (ha.mono (hbw5.trans ((below_one w5 _).mono hbw5.size))) HX.out).mono ?_
      rintro e w6 ⟨rfl, hb6⟩
      have hbw6 := (hbw5.trans ((below_one w5 _).mono hbw5.size)).trans (hb6.mono (hbw5.trans ((below_one w5 _).mono hbw5.size)).size)
      have b_a6 := (b_a5.alloc _).below hb6
      have b_b6 := (b_b5.alloc _).below hb6
      have b_xc6 := (Box.new w5 25 #[.bool (zipA f a b).ch, .slice A5 (zipA f a b).sh.length ca5, .slice D5 (zipA f a b).da.length cd5]).below hb6
      have a_c6 := (hr5.mono (below_one _ _)).mono hb6
      clear hb6 b_a5 b_b5 hr5 hbw5 c_a0 c_a1 c_a2 l_a c_b0 c_b1 c_b2 l_b
      obtain ⟨c_a0, c_a1, c_a2⟩ := b_a6.three
      have l_a := b_a6.lt
      obtain ⟨c_b0, c_b1, c_b2⟩ := b_b6.three
      have l_b := b_b6.lt
      obtain ⟨c_xc0, c_xc1, c_xc2⟩ := b_xc6.three
      have l_xc := b_xc6.lt
      have o6 := l_xc
      by_cases hf : flipErr p a = 0
      case neg =>
        have HF := Lib.hid hf
        clear hf
        go_wp2_with fail
        refine (flip_bad (hp.mono (hbw6.trans ((below_one w6 _).mono hbw6.size))) (ha.mono (hbw6.trans ((below_one w6 _).mono hbw6.size))) HF.out).mono ?_
        rintro e w7 ⟨rfl, hb7⟩
        have hbw7 := (hbw6.trans ((below_one w6 _).mono hbw6.size)).trans (hb7.mono (hbw6.trans ((below_one w6 _).mono hbw6.size)).size)
        have b_a7 := (b_a6.alloc _).below hb7
        have b_b7 := (b_b6.alloc _).below hb7
        have b_xc7 := (b_xc6.alloc _).below hb7
        have b_xx7 := (Box.new w6 25 #[.bool false, .slice none 0 0, .slice none 0 0]).below hb7
        have a_c7 := (a_c6.mono (below_one _ _)).mono hb7
        clear hb7 b_a6 b_b6 b_xc6 a_c6 hbw6 c_a0 c_a1 c_a2 l_a c_b0 c_b1 c_b2 l_b c_xc0 c_xc1 c_xc2 l_xc
        obtain ⟨c_a0, c_a1, c_a2⟩ := b_a7.three
        have l_a := b_a7.lt
        obtain ⟨c_b0, c_b1, c_b2⟩ := b_b7.three
        have l_b := b_b7.lt
        obtain ⟨c_xc0, c_xc1, c_xc2⟩ := b_xc7.three
        have l_xc := b_xc7.lt
        obtain ⟨c_xx0, c_xx1, c_xx2⟩ := b_xx7.three
        have l_xx := b_xx7.lt
        have fzz := b_xx7.frozen
        go_wp2_with fail
        go_ret
        exact ⟨rfl, by have := hbw7.size; go_grown⟩
      obtain ⟨t3, u, ht3, rfl, hu, hlu⟩ := flipErr_zero hf
      have e3 : t = t3 := by have := ht3.nsh_eq; rw [HA.out.nsh_eq] at this; exact this
      subst e3
      have HU := Lib.hid hu
      have HLU := Lib.hid hlu
      clear hf ht3 hu hlu
      have PL3 := Lib.hid (zip_flip HA.out HB.out HZ.out HU.out HLU.out)
      go_wp2_with fail
      refine ((show Calls _ _ _ _ (GivesOk (flip u a) _) from flip_ok' (hp.mono (hbw6.trans ((below_one w6 _).mono hbw6.size))) (ha.mono (hbw6.trans ((below_one w6 _).mono hbw6.size))) HA.out HU.out HLU.out)).mono ?_
      rintro e w7 ⟨r7, rfl, hr7, hb7⟩
      have hbw7 := (hbw6.trans ((below_one w6 _).mono hbw6.size)).trans (hb7.mono (hbw6.trans ((below_one w6 _).mono hbw6.size)).size)
      have b_a7 := (b_a6.alloc _).below hb7
      have b_b7 := (b_b6.alloc _).below hb7
      have b_xc7 := (b_xc6.alloc _).below hb7
      have b_xx7 := (Box.new w6 25 #[.bool false, .slice none 0 0, .slice none 0 0]).below hb7
      have a_c7 := (a_c6.mono (below_one _ _)).mono hb7
      clear hb7 b_a6 b_b6 b_xc6 a_c6 hbw6 c_a0 c_a1 c_a2 l_a c_b0 c_b1 c_b2 l_b c_xc0 c_xc1 c_xc2 l_xc
      obtain ⟨c_a0, c_a1, c_a2⟩ := b_a7.three
      have l_a := b_a7.lt
      obtain ⟨c_b0, c_b1, c_b2⟩ := b_b7.three
      have l_b := b_b7.lt
      obtain ⟨c_xc0, c_xc1, c_xc2⟩ := b_xc7.three
      have l_xc := b_xc7.lt
      obtain ⟨c_xx0, c_xx1, c_xx2⟩ := b_xx7.three
      have l_xx := b_xx7.lt
      obtain ⟨A7, ca7, D7, cd7, rfl, hs7, hd7⟩ := hr7.open_
      have fz7 := b_xx7.frozen
      have sc_a0_7 := cellS (q := ⟨w6.heap.size, 0, none⟩) (u := (.bool (flip u a).ch)) c_a0 (by simp <;> omega)
      have sc_a1_7 := cellS (q := ⟨w6.heap.size, 1, none⟩) (u := (.slice A7 (flip u a).sh.length ca7)) c_a1 (by simp <;> omega)
      have sc_a2_7 := cellS (q := ⟨w6.heap.size, 2, none⟩) (u := (.slice D7 (flip u a).da.length cd7)) c_a2 (by simp <;> omega)
      have sc_b0_7 := cellS (q := ⟨w6.heap.size, 0, none⟩) (u := (.bool (flip u a).ch)) c_b0 (by simp <;> omega)
      have sc_b1_7 := cellS (q := ⟨w6.heap.size, 1, none⟩) (u := (.slice A7 (flip u a).sh.length ca7)) c_b1 (by simp <;> omega)
      have sc_b2_7 := cellS (q := ⟨w6.heap.size, 2, none⟩) (u := (.slice D7 (flip u a).da.length cd7)) c_b2 (by simp <;> omega)
      have sc_xc0_7 := cellS (q := ⟨w6.heap.size, 0, none⟩) (u := (.bool (flip u a).ch)) c_xc0 (by simp <;> omega)
      have sc_xc1_7 := cellS (q := ⟨w6.heap.size, 1, none⟩) (u := (.slice A7 (flip u a).sh.length ca7)) c_xc1 (by simp <;> omega)
      have sc_xc2_7 := cellS (q := ⟨w6.heap.size, 2, none⟩) (u := (.slice D7 (flip u a).da.length cd7)) c_xc2 (by simp <;> omega)
      have gb7 := grownBy_three w7 (w6.heap.size) (.bool (flip u a).ch) (.slice A7 (flip u a).sh.length ca7) (.slice D7 (flip u a).da.length cd7)
      have n_a7 := b_a7.grown gb7 (by simp <;> omega)
      have n_b7 := b_b7.grown gb7 (by simp <;> omega)
      have n_xc7 := b_xc7.grown gb7 (by simp <;> omega)
      have n_xx7 := ((b_xx7.store 0 (.bool (flip u a).ch)).store 1 (.slice A7 (flip u a).sh.length ca7)).store 2 (.slice D7 (flip u a).da.length cd7)
      simp only [List.setIfInBounds_toArray, List.set_cons_zero, List.set_cons_succ] at n_xx7
      have m_c7 := a_c7.laid b_xx7 (.bool (flip u a).ch) (.slice A7 (flip u a).sh.length ca7) (.slice D7 (flip u a).da.length cd7)
      have m_x37 := hr7.laid b_xx7 (.bool (flip u a).ch) (.slice A7 (flip u a).sh.length ca7) (.slice D7 (flip u a).da.length cd7)
      have hbs7 : Below w.heap.size w (((w7.setCell ⟨w6.heap.size, 0, none⟩ (.bool (flip u a).ch)).setCell ⟨w6.heap.size, 1, none⟩ (.slice A7 (flip u a).sh.length ca7)).setCell ⟨w6.heap.size, 2, none⟩ (.slice D7 (flip u a).da.length cd7)) := by have := hbw7.size; go_grown
      go_wp2_with fail
      refine ((show Calls _ _ _ _ (GivesOk (flip u b) _) from flip_ok' (hp.mono hbs7) (hb.mono hbs7) HB.out HU.out HLU.out)).mono ?_
      rintro e w8 ⟨r8, rfl, hr8, hb8⟩
      have hbw8 := hbs7.trans (hb8.mono hbs7.size)
      have b_a8 := n_a7.below hb8
      have b_b8 := n_b7.below hb8
      have b_xc8 := n_xc7.below hb8
      have b_xx8 := n_xx7.below hb8
      have a_c8 := m_c7.mono hb8
      have a_x38 := m_x37.mono hb8
      clear hb8 n_a7 n_b7 n_xc7 n_xx7 m_c7 m_x37 hbs7 c_a0 c_a1 c_a2 l_a c_b0 c_b1 c_b2 l_b c_xc0 c_xc1 c_xc2 l_xc c_xx0 c_xx1 c_xx2 l_xx sc_a0_7 sc_a1_7 sc_a2_7 sc_b0_7 sc_b1_7 sc_b2_7 sc_xc0_7 sc_xc1_7 sc_xc2_7 fz7
      obtain ⟨c_a0, c_a1, c_a2⟩ := b_a8.three
      have l_a := b_a8.lt
      obtain ⟨c_b0, c_b1, c_b2⟩ := b_b8.three
      have l_b := b_b8.lt
      obtain ⟨c_xc0, c_xc1, c_xc2⟩ := b_xc8.three
      have l_xc := b_xc8.lt
      obtain ⟨c_xx0, c_xx1, c_xx2⟩ := b_xx8.three
      have l_xx := b_xx8.lt
      obtain ⟨A8, ca8, D8, cd8, rfl, hs8, hd8⟩ := hr8.open_
      have o8 := l_xx
      go_wp2_with fail
      refine ((show Calls _ _ _ _ (GivesOk (flip u (zipA f a b)) _) from flip_ok' (hp.mono (hbw8.trans ((below_one w8 _).mono hbw8.size))) (a_c8.mono (below_one _ _)) HC.out HU.out HLU.out)).mono ?_
      rintro e w9 ⟨r9, rfl, hr9, hb9⟩
      have hbw9 := (hbw8.trans ((below_one w8 _).mono hbw8.size)).trans (hb9.mono (hbw8.trans ((below_one w8 _).mono hbw8.size)).size)
      have b_a9 := (b_a8.alloc _).below hb9
      have b_b9 := (b_b8.alloc _).below hb9
      have b_xc9 := (b_xc8.alloc _).below hb9
      have b_xx9 := (b_xx8.alloc _).below hb9
      have b_xy29 := (Box.new w8 25 #[.bool (flip u b).ch, .slice A8 (flip u b).sh.length ca8, .slice D8 (flip u b).da.length cd8]).below hb9
      have a_c9 := (a_c8.mono (below_one _ _)).mono hb9
      have a_x39 := (a_x38.mono (below_one _ _)).mono hb9
      have a_y29 := (hr8.mono (below_one _ _)).mono hb9
      clear hb9 b_a8 b_b8 b_xc8 b_xx8 a_c8 a_x38 hr8 hbw8 c_a0 c_a1 c_a2 l_a c_b0 c_b1 c_b2 l_b c_xc0 c_xc1 c_xc2 l_xc c_xx0 c_xx1 c_xx2 l_xx
      obtain ⟨c_a0, c_a1, c_a2⟩ := b_a9.three
      have l_a := b_a9.lt
      obtain ⟨c_b0, c_b1, c_b2⟩ := b_b9.three
      have l_b := b_b9.lt
      obtain ⟨c_xc0, c_xc1, c_xc2⟩ := b_xc9.three
      have l_xc := b_xc9.lt
      obtain ⟨c_xx0, c_xx1, c_xx2⟩ := b_xx9.three
      have l_xx := b_xx9.lt
      obtain ⟨c_xy20, c_xy21, c_xy22⟩ := b_xy29.three
      have l_xy2 := b_xy29.lt
      obtain ⟨A9, ca9, D9, cd9, rfl, hs9, hd9⟩ := hr9.open_
      have o9 := l_xy2
      go_wp2_with fail
      refine ((show Calls _ _ _ _ (GivesOk (zipA f (flip u a) (flip u b)) _) from each_zip (a_x39.mono (below_one _ _)) (a_y29.mono (below_one _ _)) (wf_flip Wb.out) (flip_ok HA.out HU.out HLU.out) (flip_ok HB.out HU.out HLU.out) PL3.out.1)).mono ?_
      rintro e w10 ⟨r10, rfl, hr10, hb10⟩
      have hbw10 := (hbw9.trans ((below_one w9 _).mono hbw9.size)).trans (hb10.mono (hbw9.trans ((below_one w9 _).mono hbw9.size)).size)
      have b_a10 := (b_a9.alloc _).below hb10
      have b_b10 := (b_b9.alloc _).below hb10
      have b_xc10 := (b_xc9.alloc _).below hb10
      have b_xx10 := (b_xx9.alloc _).below hb10
      have b_xy210 := (b_xy29.alloc _).below hb10
      have b_xz210 := (Box.new w9 25 #[.bool (flip u (zipA f a b)).ch, .slice A9 (flip u (zipA f a b)).sh.length ca9, .slice D9 (flip u (zipA f a b)).da.length cd9]).below hb10
      have a_c10 := (a_c9.mono (below_one _ _)).mono hb10
      have a_x310 := (a_x39.mono (below_one _ _)).mono hb10
      have a_y210 := (a_y29.mono (below_one _ _)).mono hb10
      have a_z210 := (hr9.mono (below_one _ _)).mono hb10
      clear hb10 b_a9 b_b9 b_xc9 b_xx9 b_xy29 a_c9 a_x39 a_y29 hr9 hbw9 c_a0 c_a1 c_a2 l_a c_b0 c_b1 c_b2 l_b c_xc0 c_xc1 c_xc2 l_xc c_xx0 c_xx1 c_xx2 l_xx c_xy20 c_xy21 c_xy22 l_xy2
      obtain ⟨c_a0, c_a1, c_a2⟩ := b_a10.three
      have l_a := b_a10.lt
      obtain ⟨c_b0, c_b1, c_b2⟩ := b_b10.three
      have l_b := b_b10.lt
      obtain ⟨c_xc0, c_xc1, c_xc2⟩ := b_xc10.three
      have l_xc := b_xc10.lt
      obtain ⟨c_xx0, c_xx1, c_xx2⟩ := b_xx10.three
      have l_xx := b_xx10.lt
      obtain ⟨c_xy20, c_xy21, c_xy22⟩ := b_xy210.three
      have l_xy2 := b_xy210.lt
      obtain ⟨c_xz20, c_xz21, c_xz22⟩ := b_xz210.three
      have l_xz2 := b_xz210.lt
      obtain ⟨A10, ca10, D10, cd10, rfl, hs10, hd10⟩ := hr10.open_
      have o10 := l_xz2
      go_wp2_with fail
      refine (alike_nil _ _ _ _ _ (hr10.mono (below_one _ _)) (a_z210.mono (below_one _ _))).mono ?_
      rintro e w11 ⟨r11, rfl, hr11, hb11⟩
      have e11 : r11 = true := hr11.2 (PL3.out.2)
      subst e11
      clear hr11
      have hbw11 := (hbw10.trans ((below_one w10 _).mono hbw10.size)).trans (hb11.mono (hbw10.trans ((below_one w10 _).mono hbw10.size)).size)
      have b_a11 := (b_a10.alloc _).below hb11
      have b_b11 := (b_b10.alloc _).below hb11
      have b_xc11 := (b_xc10.alloc _).below hb11
      have b_xx11 := (b_xx10.alloc _).below hb11
      have b_xy211 := (b_xy210.alloc _).below hb11
      have b_xz211 := (b_xz210.alloc _).below hb11
      have b_xu211 := (Box.new w10 25 #[.bool (zipA f (flip u a) (flip u b)).ch, .slice A10 (zipA f (flip u a) (flip u b)).sh.length ca10, .slice D10 (zipA f (flip u a) (flip u b)).da.length cd10]).below hb11
      have a_c11 := (a_c10.mono (below_one _ _)).mono hb11
      have a_x311 := (a_x310.mono (below_one _ _)).mono hb11
      have a_y211 := (a_y210.mono (below_one _ _)).mono hb11
      have a_z211 := (a_z210.mono (below_one _ _)).mono hb11
      have a_u211 := (hr10.mono (below_one _ _)).mono hb11
      clear hb11 b_a10 b_b10 b_xc10 b_xx10 b_xy210 b_xz210 a_c10 a_x310 a_y210 a_z210 hr10 hbw10 c_a0 c_a1 c_a2 l_a c_b0 c_b1 c_b2 l_b c_xc0 c_xc1 c_xc2 l_xc c_xx0 c_xx1 c_xx2 l_xx c_xy20 c_xy21 c_xy22 l_xy2 c_xz20 c_xz21 c_xz22 l_xz2
      obtain ⟨c_a0, c_a1, c_a2⟩ := b_a11.three
      have l_a := b_a11.lt
      obtain ⟨c_b0, c_b1, c_b2⟩ := b_b11.three
      have l_b := b_b11.lt
      obtain ⟨c_xc0, c_xc1, c_xc2⟩ := b_xc11.three
      have l_xc := b_xc11.lt
      obtain ⟨c_xx0, c_xx1, c_xx2⟩ := b_xx11.three
      have l_xx := b_xx11.lt
      obtain ⟨c_xy20, c_xy21, c_xy22⟩ := b_xy211.three
      have l_xy2 := b_xy211.lt
      obtain ⟨c_xz20, c_xz21, c_xz22⟩ := b_xz211.three
      have l_xz2 := b_xz211.lt
      obtain ⟨c_xu20, c_xu21, c_xu22⟩ := b_xu211.three
      have l_xu2 := b_xu211.lt
      go_wp2_with fail
      go_ret
      exact ⟨rfl, by have := hbw11.size; go_grown⟩
    obtain ⟨t3, k, ht3, rfl, hk⟩ := axErr_zero hx
    have e3 : t = t3 := by have := ht3.nsh_eq; rw [HA.out.nsh_eq] at this; exact this
    subst e3
    have HK := Lib.hid hk
    clear hx ht3 hk
    have PL1 := Lib.hid (zip_rev HA.out HB.out HZ.out HK.out)
    have PL2 := Lib.hid (zip_rot (n := i1) HA.out HB.out HZ.out HK.out)
    go_wp2_with fail
    refine ((show Calls _ _ _ _ (GivesOk (rev k a) _) from reverse_ok (ha.mono (hbw5.trans ((below_one w5 _).mono hbw5.size))) HA.out HK.out)).mono ?_
    rintro e w6 ⟨r6, rfl, hr6, hb6⟩
    have hbw6 := (hbw5.trans ((below_one w5 _).mono hbw5.size)).trans (hb6.mono (hbw5.trans ((below_one w5 _).mono hbw5.size)).size)
    have b_a6 := (b_a5.alloc _).below hb6
    have b_b6 := (b_b5.alloc _).below hb6
    have b_xc6 := (Box.new w5 25 #[.bool (zipA f a b).ch, .slice A5 (zipA f a b).sh.length ca5, .slice D5 (zipA f a b).da.length cd5]).below hb6
    have a_c6 := (hr5.mono (below_one _ _)).mono hb6
    clear hb6 b_a5 b_b5 hr5 hbw5 c_a0 c_a1 c_a2 l_a c_b0 c_b1 c_b2 l_b
    obtain ⟨c_a0, c_a1, c_a2⟩ := b_a6.three
    have l_a := b_a6.lt
    obtain ⟨c_b0, c_b1, c_b2⟩ := b_b6.three
    have l_b := b_b6.lt
    obtain ⟨c_xc0, c_xc1, c_xc2⟩ := b_xc6.three
    have l_xc := b_xc6.lt
    obtain ⟨A6, ca6, D6, cd6, rfl, hs6, hd6⟩ := hr6.open_
    have o6 := l_xc
    go_wp2_with fail
    refine ((show Calls _ _ _ _ (GivesOk (rev k b) _) from reverse_ok (hb.mono (hbw6.trans ((below_one w6 _).mono hbw6.size))) HB.out HK.out)).mono ?_
    rintro e w7 ⟨r7, rfl, hr7, hb7⟩
    have hbw7 := (hbw6.trans ((below_one w6 _).mono hbw6.size)).trans (hb7.mono (hbw6.trans ((below_one w6 _).mono hbw6.size)).size)
    have b_a7 := (b_a6.alloc _).below hb7
    have b_b7 := (b_b6.alloc _).below hb7
    have b_xc7 := (b_xc6.alloc _).below hb7
    have b_xx7 := (Box.new w6 25 #[.bool (rev k a).ch, .slice A6 (rev k a).sh.length ca6, .slice D6 (rev k a).da.length cd6]).below hb7
    have a_c7 := (a_c6.mono (below_one _ _)).mono hb7
    have a_x7 := (hr6.mono (below_one _ _)).mono hb7
    clear hb7 b_a6 b_b6 b_xc6 a_c6 hr6 hbw6 c_a0 c_a1 c_a2 l_a c_b0 c_b1 c_b2 l_b c_xc0 c_xc1 c_xc2 l_xc
    obtain ⟨c_a0, c_a1, c_a2⟩ := b_a7.three
    have l_a := b_a7.lt
    obtain ⟨c_b0, c_b1, c_b2⟩ := b_b7.three
    have l_b := b_b7.lt
    obtain ⟨c_xc0, c_xc1, c_xc2⟩ := b_xc7.three
    have l_xc := b_xc7.lt
    obtain ⟨c_xx0, c_xx1, c_xx2⟩ := b_xx7.three
    have l_xx := b_xx7.lt
    obtain ⟨A7, ca7, D7, cd7, rfl, hs7, hd7⟩ := hr7.open_
    have o7 := l_xx
    go_wp2_with fail
    refine ((show Calls _ _ _ _ (GivesOk (rev k (zipA f a b)) _) from reverse_ok (a_c7.mono (below_one _ _)) HC.out HK.out)).mono ?_
    rintro e w8 ⟨r8, rfl, hr8, hb8⟩
    have hbw8 := (hbw7.trans ((below_one w7 _).mono hbw7.size)).trans (hb8.mono (hbw7.trans ((below_one w7 _).mono hbw7.size)).size)
    have b_a8 := (b_a7.alloc _).below hb8
    have b_b8 := (b_b7.alloc _).below hb8
    have b_xc8 := (b_xc7.alloc _).below hb8
    have b_xx8 := (b_xx7.alloc _).below hb8
    have b_xy8 := (Box.new w7 25 #[.bool (rev k b).ch, .slice A7 (rev k b).sh.length ca7, .slice D7 (rev k b).da.length cd7]).below hb8
    have a_c8 := (a_c7.mono (below_one _ _)).mono hb8
    have a_x8 := (a_x7.mono (below_one _ _)).mono hb8
    have a_y8 := (hr7.mono (below_one _ _)).mono hb8
    clear hb8 b_a7 b_b7 b_xc7 b_xx7 a_c7 a_x7 hr7 hbw7 c_a0 c_a1 c_a2 l_a c_b0 c_b1 c_b2 l_b c_xc0 c_xc1 c_xc2 l_xc c_xx0 c_xx1 c_xx2 l_xx
    obtain ⟨c_a0, c_a1, c_a2⟩ := b_a8.three
    have l_a := b_a8.lt
    obtain ⟨c_b0, c_b1, c_b2⟩ := b_b8.three
    have l_b := b_b8.lt
    obtain ⟨c_xc0, c_xc1, c_xc2⟩ := b_xc8.three
    have l_xc := b_xc8.lt
    obtain ⟨c_xx0, c_xx1, c_xx2⟩ := b_xx8.three
    have l_xx := b_xx8.lt
    obtain ⟨c_xy0, c_xy1, c_xy2⟩ := b_xy8.three
    have l_xy := b_xy8.lt
    obtain ⟨A8, ca8, D8, cd8, rfl, hs8, hd8⟩ := hr8.open_
    have o8 := l_xy
    go_wp2_with fail
    refine ((show Calls _ _ _ _ (GivesOk (zipA f (rev k a) (rev k b)) _) from each_zip (a_x8.mono (below_one _ _)) (a_y8.mono (below_one _ _)) (wf_rev Wb.out) (rev_ok HA.out) (rev_ok HB.out) PL1.out.1)).mono ?_
    rintro e w9 ⟨r9, rfl, hr9, hb9⟩
    have hbw9 := (hbw8.trans ((below_one w8 _).mono hbw8.size)).trans (hb9.mono (hbw8.trans ((below_one w8 _).mono hbw8.size)).size)
    have b_a9 := (b_a8.alloc _).below hb9
    have b_b9 := (b_b8.alloc _).below hb9
    have b_xc9 := (b_xc8.alloc _).below hb9
    have b_xx9 := (b_xx8.alloc _).below hb9
    have b_xy9 := (b_xy8.alloc _).below hb9
    have b_xz9 := (Box.new w8 25 #[.bool (rev k (zipA f a b)).ch, .slice A8 (rev k (zipA f a b)).sh.length ca8, .slice D8 (rev k (zipA f a b)).da.length cd8]).below hb9
    have a_c9 := (a_c8.mono (below_one _ _)).mono hb9
    have a_x9 := (a_x8.mono (below_one _ _)).mono hb9
    have a_y9 := (a_y8.mono (below_one _ _)).mono hb9
    have a_z9 := (hr8.mono (below_one _ _)).mono hb9
    clear hb9 b_a8 b_b8 b_xc8 b_xx8 b_xy8 a_c8 a_x8 a_y8 hr8 hbw8 c_a0 c_a1 c_a2 l_a c_b0 c_b1 c_b2 l_b c_xc0 c_xc1 c_xc2 l_xc c_xx0 c_xx1 c_xx2 l_xx c_xy0 c_xy1 c_xy2 l_xy
    obtain ⟨c_a0, c_a1, c_a2⟩ := b_a9.three
    have l_a := b_a9.lt
    obtain ⟨c_b0, c_b1, c_b2⟩ := b_b9.three
    have l_b := b_b9.lt
    obtain ⟨c_xc0, c_xc1, c_xc2⟩ := b_xc9.three
    have l_xc := b_xc9.lt
    obtain ⟨c_xx0, c_xx1, c_xx2⟩ := b_xx9.three
    have l_xx := b_xx9.lt
    obtain ⟨c_xy0, c_xy1, c_xy2⟩ := b_xy9.three
    have l_xy := b_xy9.lt
    obtain ⟨c_xz0, c_xz1, c_xz2⟩ := b_xz9.three
    have l_xz := b_xz9.lt
    obtain ⟨A9, ca9, D9, cd9, rfl, hs9, hd9⟩ := hr9.open_
    have o9 := l_xz
    go_wp2_with fail
    refine (alike_nil _ _ _ _ _ (hr9.mono (below_one _ _)) (a_z9.mono (below_one _ _))).mono ?_
    rintro e w10 ⟨r10, rfl, hr10, hb10⟩
    have e10 : r10 = true := hr10.2 (PL1.out.2)
    subst e10
    clear hr10
    have hbw10 := (hbw9.trans ((below_one w9 _).mono hbw9.size)).trans (hb10.mono (hbw9.trans ((below_one w9 _).mono hbw9.size)).size)
    have b_a10 := (b_a9.alloc _).below hb10
    have b_b10 := (b_b9.alloc _).below hb10
    have b_xc10 := (b_xc9.alloc _).below hb10
    have b_xx10 := (b_xx9.alloc _).below hb10
    have b_xy10 := (b_xy9.alloc _).below hb10
    have b_xz10 := (b_xz9.alloc _).below hb10
    have b_xu10 := (Box.new w9 25 #[.bool (zipA f (rev k a) (rev k b)).ch, .slice A9 (zipA f (rev k a) (rev k b)).sh.length ca9, .slice D9 (zipA f (rev k a) (rev k b)).da.length cd9]).below hb10
    have a_c10 := (a_c9.mono (below_one _ _)).mono hb10
    have a_x10 := (a_x9.mono (below_one _ _)).mono hb10
    have a_y10 := (a_y9.mono (below_one _ _)).mono hb10
    have a_z10 := (a_z9.mono (below_one _ _)).mono hb10
    have a_u10 := (hr9.mono (below_one _ _)).mono hb10
    clear hb10 b_a9 b_b9 b_xc9 b_xx9 b_xy9 b_xz9 a_c9 a_x9 a_y9 a_z9 hr9 hbw9 c_a0 c_a1 c_a2 l_a c_b0 c_b1 c_b2 l_b c_xc0 c_xc1 c_xc2 l_xc c_xx0 c_xx1 c_xx2 l_xx c_xy0 c_xy1 c_xy2 l_xy c_xz0 c_xz1 c_xz2 l_xz
    obtain ⟨c_a0, c_a1, c_a2⟩ := b_a10.three
    have l_a := b_a10.lt
    obtain ⟨c_b0, c_b1, c_b2⟩ := b_b10.three
    have l_b := b_b10.lt
    obtain ⟨c_xc0, c_xc1, c_xc2⟩ := b_xc10.three
    have l_xc := b_xc10.lt
    obtain ⟨c_xx0, c_xx1, c_xx2⟩ := b_xx10.three
    have l_xx := b_xx10.lt
    obtain ⟨c_xy0, c_xy1, c_xy2⟩ := b_xy10.three
    have l_xy := b_xy10.lt
    obtain ⟨c_xz0, c_xz1, c_xz2⟩ := b_xz10.three
    have l_xz := b_xz10.lt
    obtain ⟨c_xu0, c_xu1, c_xu2⟩ := b_xu10.three
    have l_xu := b_xu10.lt
    go_wp2_with fail
    refine ((show Calls _ _ _ _ (GivesOk (rot i1 k b) _) from rotate_ok (hb.mono hbw10) HB.out HK.out)).mono ?_
    rintro e w11 ⟨r11, rfl, hr11, hb11⟩
    have hbw11 := hbw10.trans (hb11.mono hbw10.size)
    have b_a11 := b_a10.below hb11
    have b_b11 := b_b10.below hb11
    have b_xc11 := b_xc10.below hb11
    have b_xx11 := b_xx10.below hb11
    have b_xy11 := b_xy10.below hb11
    have b_xz11 := b_xz10.below hb11
    have b_xu11 := b_xu10.below hb11
    have a_c11 := a_c10.mono hb11
    clear hb11 b_a10 b_b10 b_xc10 b_xx10 b_xy10 b_xz10 b_xu10 a_c10 hbw10 c_a0 c_a1 c_a2 l_a c_b0 c_b1 c_b2 l_b c_xc0 c_xc1 c_xc2 l_xc c_xx0 c_xx1 c_xx2 l_xx c_xy0 c_xy1 c_xy2 l_xy c_xz0 c_xz1 c_xz2 l_xz c_xu0 c_xu1 c_xu2 l_xu a_x10 a_y10 a_z10 a_u10
    obtain ⟨c_a0, c_a1, c_a2⟩ := b_a11.three
    have l_a := b_a11.lt
    obtain ⟨c_b0, c_b1, c_b2⟩ := b_b11.three
    have l_b := b_b11.lt
    obtain ⟨c_xc0, c_xc1, c_xc2⟩ := b_xc11.three
    have l_xc := b_xc11.lt
    obtain ⟨c_xx0, c_xx1, c_xx2⟩ := b_xx11.three
    have l_xx := b_xx11.lt
    obtain ⟨c_xy0, c_xy1, c_xy2⟩ := b_xy11.three
    have l_xy := b_xy11.lt
    obtain ⟨c_xz0, c_xz1, c_xz2⟩ := b_xz11.three
    have l_xz := b_xz11.lt
    obtain ⟨c_xu0, c_xu1, c_xu2⟩ := b_xu11.three
    have l_xu := b_xu11.lt
    obtain ⟨A11, ca11, D11, cd11, rfl, hs11, hd11⟩ := hr11.open_
    have fz11 := b_xy11.frozen
    have sc_a0_11 := cellS (q := ⟨w7.heap.size, 0, none⟩) (u := (.bool (rot i1 k b).ch)) c_a0 (by simp <;> omega)
    have sc_a1_11 := cellS (q := ⟨w7.heap.size, 1, none⟩) (u := (.slice A11 (rot i1 k b).sh.length ca11)) c_a1 (by simp <;> omega)
    have sc_a2_11 := cellS (q := ⟨w7.heap.size, 2, none⟩) (u := (.slice D11 (rot i1 k b).da.length cd11)) c_a2 (by simp <;> omega)
    have sc_b0_11 := cellS (q := ⟨w7.heap.size, 0, none⟩) (u := (.bool (rot i1 k b).ch)) c_b0 (by simp <;> omega)
    have sc_b1_11 := cellS (q := ⟨w7.heap.size, 1, none⟩) (u := (.slice A11 (rot i1 k b).sh.length ca11)) c_b1 (by simp <;> omega)
    have sc_b2_11 := cellS (q := ⟨w7.heap.size, 2, none⟩) (u := (.slice D11 (rot i1 k b).da.length cd11)) c_b2 (by simp <;> omega)
    have sc_xc0_11 := cellS (q := ⟨w7.heap.size, 0, none⟩) (u := (.bool (rot i1 k b).ch)) c_xc0 (by simp <;> omega)
    have sc_xc1_11 := cellS (q := ⟨w7.heap.size, 1, none⟩) (u := (.slice A11 (rot i1 k b).sh.length ca11)) c_xc1 (by simp <;> omega)
    have sc_xc2_11 := cellS (q := ⟨w7.heap.size, 2, none⟩) (u := (.slice D11 (rot i1 k b).da.length cd11)) c_xc2 (by simp <;> omega)
    have sc_xx0_11 := cellS (q := ⟨w7.heap.size, 0, none⟩) (u := (.bool (rot i1 k b).ch)) c_xx0 (by simp <;> omega)
    have sc_xx1_11 := cellS (q := ⟨w7.heap.size, 1, none⟩) (u := (.slice A11 (rot i1 k b).sh.length ca11)) c_xx1 (by simp <;> omega)
    have sc_xx2_11 := cellS (q := ⟨w7.heap.size, 2, none⟩) (u := (.slice D11 (rot i1 k b).da.length cd11)) c_xx2 (by simp <;> omega)
    have sc_xz0_11 := cellS (q := ⟨w7.heap.size, 0, none⟩) (u := (.bool (rot i1 k b).ch)) c_xz0 (by simp <;> omega)
    have sc_xz1_11 := cellS (q := ⟨w7.heap.size, 1, none⟩) (u := (.slice A11 (rot i1 k b).sh.length ca11)) c_xz1 (by simp <;> omega)
    have sc_xz2_11 := cellS (q := ⟨w7.heap.size, 2, none⟩) (u := (.slice D11 (rot i1 k b).da.length cd11)) c_xz2 (by simp <;> omega)
    have sc_xu0_11 := cellS (q := ⟨w7.heap.size, 0, none⟩) (u := (.bool (rot i1 k b).ch)) c_xu0 (by simp <;> omega)
    have sc_xu1_11 := cellS (q := ⟨w7.heap.size, 1, none⟩) (u := (.slice A11 (rot i1 k b).sh.length ca11)) c_xu1 (by simp <;> omega)
    have sc_xu2_11 := cellS (q := ⟨w7.heap.size, 2, none⟩) (u := (.slice D11 (rot i1 k b).da.length cd11)) c_xu2 (by simp <;> omega)
    have gb11 := grownBy_three w11 (w7.heap.size) (.bool (rot i1 k b).ch) (.slice A11 (rot i1 k b).sh.length ca11) (.slice D11 (rot i1 k b).da.length cd11)
    have n_a11 := b_a11.grown gb11 (by simp <;> omega)
    have n_b11 := b_b11.grown gb11 (by simp <;> omega)
    have n_xc11 := b_xc11.grown gb11 (by simp <;> omega)
    have n_xx11 := b_xx11.grown gb11 (by simp <;> omega)
    have n_xy11 := ((b_xy11.store 0 (.bool (rot i1 k b).ch)).store 1 (.slice A11 (rot i1 k b).sh.length ca11)).store 2 (.slice D11 (rot i1 k b).da.length cd11)
    simp only [List.setIfInBounds_toArray, List.set_cons_zero, List.set_cons_succ] at n_xy11
    have n_xz11 := b_xz11.grown gb11 (by simp <;> omega)
    have n_xu11 := b_xu11.grown gb11 (by simp <;> omega)
    have m_c11 := a_c11.laid b_xy11 (.bool (rot i1 k b).ch) (.slice A11 (rot i1 k b).sh.length ca11) (.slice D11 (rot i1 k b).da.length cd11)
    have m_yr11 := hr11.laid b_xy11 (.bool (rot i1 k b).ch) (.slice A11 (rot i1 k b).sh.length ca11) (.slice D11 (rot i1 k b).da.length cd11)
    have hbs11 : Below w.heap.size w (((w11.setCell ⟨w7.heap.size, 0, none⟩ (.bool (rot i1 k b).ch)).setCell ⟨w7.heap.size, 1, none⟩ (.slice A11 (rot i1 k b).sh.length ca11)).setCell ⟨w7.heap.size, 2, none⟩ (.slice D11 (rot i1 k b).da.length cd11)) := by have := hbw11.size; go_grown
    go_wp2_with fail
    refine ((show Calls _ _ _ _ (GivesOk (rot i1 k a) _) from rotate_ok (ha.mono hbs11) HA.out HK.out)).mono ?_
    rintro e w12 ⟨r12, rfl, hr12, hb12⟩
    have hbw12 := hbs11.trans (hb12.mono hbs11.size)
    have b_a12 := n_a11.below hb12
    have b_b12 := n_b11.below hb12
    have b_xc12 := n_xc11.below hb12
    have b_xx12 := n_xx11.below hb12
    have b_xy12 := n_xy11.below hb12
    have b_xz12 := n_xz11.below hb12
    have b_xu12 := n_xu11.below hb12
    have a_c12 := m_c11.mono hb12
    have a_yr12 := m_yr11.mono hb12
    clear hb12 n_a11 n_b11 n_xc11 n_xx11 n_xy11 n_xz11 n_xu11 m_c11 m_yr11 hbs11 c_a0 c_a1 c_a2 l_a c_b0 c_b1 c_b2 l_b c_xc0 c_xc1 c_xc2 l_xc c_xx0 c_xx1 c_xx2 l_xx c_xy0 c_xy1 c_xy2 l_xy c_xz0 c_xz1 c_xz2 l_xz c_xu0 c_xu1 c_xu2 l_xu sc_a0_11 sc_a1_11 sc_a2_11 sc_b0_11 sc_b1_11 sc_b2_11 sc_xc0_11 sc_xc1_11 sc_xc2_11 sc_xx0_11 sc_xx1_11 sc_xx2_11 sc_xz0_11 sc_xz1_11 sc_xz2_11 sc_xu0_11 sc_xu1_11 sc_xu2_11 fz11
    obtain ⟨c_a0, c_a1, c_a2⟩ := b_a12.three
    have l_a := b_a12.lt
    obtain ⟨c_b0, c_b1, c_b2⟩ := b_b12.three
    have l_b := b_b12.lt
    obtain ⟨c_xc0, c_xc1, c_xc2⟩ := b_xc12.three
    have l_xc := b_xc12.lt
    obtain ⟨c_xx0, c_xx1, c_xx2⟩ := b_xx12.three
    have l_xx := b_xx12.lt
    obtain ⟨c_xy0, c_xy1, c_xy2⟩ := b_xy12.three
    have l_xy := b_xy12.lt
    obtain ⟨c_xz0, c_xz1, c_xz2⟩ := b_xz12.three
    have l_xz := b_xz12.lt
    obtain ⟨c_xu0, c_xu1, c_xu2⟩ := b_xu12.three
    have l_xu := b_xu12.lt
    obtain ⟨A12, ca12, D12, cd12, rfl, hs12, hd12⟩ := hr12.open_
    have o12 := l_xu
    go_wp2_with fail
    refine ((show Calls _ _ _ _ (GivesOk (rot i1 k (zipA f a b)) _) from rotate_ok (a_c12.mono (below_one _ _)) HC.out HK.out)).mono ?_
    rintro e w13 ⟨r13, rfl, hr13, hb13⟩
    have hbw13 := (hbw12.trans ((below_one w12 _).mono hbw12.size)).trans (hb13.mono (hbw12.trans ((below_one w12 _).mono hbw12.size)).size)
    have b_a13 := (b_a12.alloc _).below hb13
    have b_b13 := (b_b12.alloc _).below hb13
    have b_xc13 := (b_xc12.alloc _).below hb13
    have b_xx13 := (b_xx12.alloc _).below hb13
    have b_xy13 := (b_xy12.alloc _).below hb13
    have b_xz13 := (b_xz12.alloc _).below hb13
    have b_xu13 := (b_xu12.alloc _).below hb13
    have b_xxr13 := (Box.new w12 25 #[.bool (rot i1 k a).ch, .slice A12 (rot i1 k a).sh.length ca12, .slice D12 (rot i1 k a).da.length cd12]).below hb13
    have a_c13 := (a_c12.mono (below_one _ _)).mono hb13
    have a_yr13 := (a_yr12.mono (below_one _ _)).mono hb13
    have a_xr13 := (hr12.mono (below_one _ _)).mono hb13
    clear hb13 b_a12 b_b12 b_xc12 b_xx12 b_xy12 b_xz12 b_xu12 a_c12 a_yr12 hr12 hbw12 c_a0 c_a1 c_a2 l_a c_b0 c_b1 c_b2 l_b c_xc0 c_xc1 c_xc2 l_xc c_xx0 c_xx1 c_xx2 l_xx c_xy0 c_xy1 c_xy2 l_xy c_xz0 c_xz1 c_xz2 l_xz c_xu0 c_xu1 c_xu2 l_xu
    obtain ⟨c_a0, c_a1, c_a2⟩ := b_a13.three
    have l_a := b_a13.lt
    obtain ⟨c_b0, c_b1, c_b2⟩ := b_b13.three
    have l_b := b_b13.lt
    obtain ⟨c_xc0, c_xc1, c_xc2⟩ := b_xc13.three
    have l_xc := b_xc13.lt
    obtain ⟨c_xx0, c_xx1, c_xx2⟩ := b_xx13.three
    have l_xx := b_xx13.lt
    obtain ⟨c_xy0, c_xy1, c_xy2⟩ := b_xy13.three
    have l_xy := b_xy13.lt
    obtain ⟨c_xz0, c_xz1, c_xz2⟩ := b_xz13.three
    have l_xz := b_xz13.lt
    obtain ⟨c_xu0, c_xu1, c_xu2⟩ := b_xu13.three
    have l_xu := b_xu13.lt
    obtain ⟨c_xxr0, c_xxr1, c_xxr2⟩ := b_xxr13.three
    have l_xxr := b_xxr13.lt
    obtain ⟨A13, ca13, D13, cd13, rfl, hs13, hd13⟩ := hr13.open_
    have fz13 := b_xz13.frozen
    have sc_a0_13 := cellS (q := ⟨w8.heap.size, 0, none⟩) (u := (.bool (rot i1 k (zipA f a b)).ch)) c_a0 (by simp <;> omega)
    have sc_a1_13 := cellS (q := ⟨w8.heap.size, 1, none⟩) (u := (.slice A13 (rot i1 k (zipA f a b)).sh.length ca13)) c_a1 (by simp <;> omega)
    have sc_a2_13 := cellS (q := ⟨w8.heap.size, 2, none⟩) (u := (.slice D13 (rot i1 k (zipA f a b)).da.length cd13)) c_a2 (by simp <;> omega)
    have sc_b0_13 := cellS (q := ⟨w8.heap.size, 0, none⟩) (u := (.bool (rot i1 k (zipA f a b)).ch)) c_b0 (by simp <;> omega)
    have sc_b1_13 := cellS (q := ⟨w8.heap.size, 1, none⟩) (u := (.slice A13 (rot i1 k (zipA f a b)).sh.length ca13)) c_b1 (by simp <;> omega)
    have sc_b2_13 := cellS (q := ⟨w8.heap.size, 2, none⟩) (u := (.slice D13 (rot i1 k (zipA f a b)).da.length cd13)) c_b2 (by simp <;> omega)
    have sc_xc0_13 := cellS (q := ⟨w8.heap.size, 0, none⟩) (u := (.bool (rot i1 k (zipA f a b)).ch)) c_xc0 (by simp <;> omega)
    have sc_xc1_13 := cellS (q := ⟨w8.heap.size, 1, none⟩) (u := (.slice A13 (rot i1 k (zipA f a b)).sh.length ca13)) c_xc1 (by simp <;> omega)
    have sc_xc2_13 := cellS (q := ⟨w8.heap.size, 2, none⟩) (u := (.slice D13 (rot i1 k (zipA f a b)).da.length cd13)) c_xc2 (by simp <;> omega)
    have sc_xx0_13 := cellS (q := ⟨w8.heap.size, 0, none⟩) (u := (.bool (rot i1 k (zipA f a b)).ch)) c_xx0 (by simp <;> omega)
    have sc_xx1_13 := cellS (q := ⟨w8.heap.size, 1, none⟩) (u := (.slice A13 (rot i1 k (zipA f a b)).sh.length ca13)) c_xx1 (by simp <;> omega)
    have sc_xx2_13 := cellS (q := ⟨w8.heap.size, 2, none⟩) (u := (.slice D13 (rot i1 k (zipA f a b)).da.length cd13)) c_xx2 (by simp <;> omega)
    have sc_xy0_13 := cellS (q := ⟨w8.heap.size, 0, none⟩) (u := (.bool (rot i1 k (zipA f a b)).ch)) c_xy0 (by simp <;> omega)
    have sc_xy1_13 := cellS (q := ⟨w8.heap.size, 1, none⟩) (u := (.slice A13 (rot i1 k (zipA f a b)).sh.length ca13)) c_xy1 (by simp <;> omega)
    have sc_xy2_13 := cellS (q := ⟨w8.heap.size, 2, none⟩) (u := (.slice D13 (rot i1 k (zipA f a b)).da.length cd13)) c_xy2 (by simp <;> omega)
    have sc_xu0_13 := cellS (q := ⟨w8.heap.size, 0, none⟩) (u := (.bool (rot i1 k (zipA f a b)).ch)) c_xu0 (by simp <;> omega)
    have sc_xu1_13 := cellS (q := ⟨w8.heap.size, 1, none⟩) (u := (.slice A13 (rot i1 k (zipA f a b)).sh.length ca13)) c_xu1 (by simp <;> omega)
    have sc_xu2_13 := cellS (q := ⟨w8.heap.size, 2, none⟩) (u := (.slice D13 (rot i1 k (zipA f a b)).da.length cd13)) c_xu2 (by simp <;> omega)
    have sc_xxr0_13 := cellS (q := ⟨w8.heap.size, 0, none⟩) (u := (.bool (rot i1 k (zipA f a b)).ch)) c_xxr0 (by simp <;> omega)
    have sc_xxr1_13 := cellS (q := ⟨w8.heap.size, 1, none⟩) (u := (.slice A13 (rot i1 k (zipA f a b)).sh.length ca13)) c_xxr1 (by simp <;> omega)
    have sc_xxr2_13 := cellS (q := ⟨w8.heap.size, 2, none⟩) (u := (.slice D13 (rot i1 k (zipA f a b)).da.length cd13)) c_xxr2 (by simp <;> omega)
    have gb13 := grownBy_three w13 (w8.heap.size) (.bool (rot i1 k (zipA f a b)).ch) (.slice A13 (rot i1 k (zipA f a b)).sh.length ca13) (.slice D13 (rot i1 k (zipA f a b)).da.length cd13)
    have n_a13 := b_a13.grown gb13 (by simp <;> omega)
    have n_b13 := b_b13.grown gb13 (by simp <;> omega)
    have n_xc13 := b_xc13.grown gb13 (by simp <;> omega)
    have n_xx13 := b_xx13.grown gb13 (by simp <;> omega)
    have n_xy13 := b_xy13.grown gb13 (by simp <;> omega)
    have n_xz13 := ((b_xz13.store 0 (.bool (rot i1 k (zipA f a b)).ch)).store 1 (.slice A13 (rot i1 k (zipA f a b)).sh.length ca13)).store 2 (.slice D13 (rot i1 k (zipA f a b)).da.length cd13)
    simp only [List.setIfInBounds_toArray, List.set_cons_zero, List.set_cons_succ] at n_xz13
    have n_xu13 := b_xu13.grown gb13 (by simp <;> omega)
    have n_xxr13 := b_xxr13.grown gb13 (by simp <;> omega)
    have m_c13 := a_c13.laid b_xz13 (.bool (rot i1 k (zipA f a b)).ch) (.slice A13 (rot i1 k (zipA f a b)).sh.length ca13) (.slice D13 (rot i1 k (zipA f a b)).da.length cd13)
    have m_yr13 := a_yr13.laid b_xz13 (.bool (rot i1 k (zipA f a b)).ch) (.slice A13 (rot i1 k (zipA f a b)).sh.length ca13) (.slice D13 (rot i1 k (zipA f a b)).da.length cd13)
    have m_xr13 := a_xr13.laid b_xz13 (.bool (rot i1 k (zipA f a b)).ch) (.slice A13 (rot i1 k (zipA f a b)).sh.length ca13) (.slice D13 (rot i1 k (zipA f a b)).da.length cd13)
    have m_zr13 := hr13.laid b_xz13 (.bool (rot i1 k (zipA f a b)).ch) (.slice A13 (rot i1 k (zipA f a b)).sh.length ca13) (.slice D13 (rot i1 k (zipA f a b)).da.length cd13)
    have hbs13 : Below w.heap.size w (((w13.setCell ⟨w8.heap.size, 0, none⟩ (.bool (rot i1 k (zipA f a b)).ch)).setCell ⟨w8.heap.size, 1, none⟩ (.slice A13 (rot i1 k (zipA f a b)).sh.length ca13)).setCell ⟨w8.heap.size, 2, none⟩ (.slice D13 (rot i1 k (zipA f a b)).da.length cd13)) := by have := hbw13.size; go_grown
    go_wp2_with fail
    refine ((show Calls _ _ _ _ (GivesOk (zipA f (rot i1 k a) (rot i1 k b)) _) from each_zip m_xr13 m_yr13 (wf_rot Wb.out) (rot_ok HA.out) (rot_ok HB.out) PL2.out.1)).mono ?_
    rintro e w14 ⟨r14, rfl, hr14, hb14⟩
    have hbw14 := hbs13.trans (hb14.mono hbs13.size)
    have b_a14 := n_a13.below hb14
    have b_b14 := n_b13.below hb14
    have b_xc14 := n_xc13.below hb14
    have b_xx14 := n_xx13.below hb14
    have b_xy14 := n_xy13.below hb14
    have b_xz14 := n_xz13.below hb14
    have b_xu14 := n_xu13.below hb14
    have b_xxr14 := n_xxr13.below hb14
    have a_c14 := m_c13.mono hb14
    have a_yr14 := m_yr13.mono hb14
    have a_xr14 := m_xr13.mono hb14
    have a_zr14 := m_zr13.mono hb14
    clear hb14 n_a13 n_b13 n_xc13 n_xx13 n_xy13 n_xz13 n_xu13 n_xxr13 m_c13 m_yr13 m_xr13 m_zr13 hbs13 c_a0 c_a1 c_a2 l_a c_b0 c_b1 c_b2 l_b c_xc0 c_xc1 c_xc2 l_xc c_xx0 c_xx1 c_xx2 l_xx c_xy0 c_xy1 c_xy2 l_xy c_xz0 c_xz1 c_xz2 l_xz c_xu0 c_xu1 c_xu2 l_xu c_xxr0 c_xxr1 c_xxr2 l_xxr sc_a0_13 sc_a1_13 sc_a2_13 sc_b0_13 sc_b1_13 sc_b2_13 sc_xc0_13 sc_xc1_13 sc_xc2_13 sc_xx0_13 sc_xx1_13 sc_xx2_13 sc_xy0_13 sc_xy1_13 sc_xy2_13 sc_xu0_13 sc_xu1_13 sc_xu2_13 sc_xxr0_13 sc_xxr1_13 sc_xxr2_13 fz13
    obtain ⟨c_a0, c_a1, c_a2⟩ := b_a14.three
    have l_a := b_a14.lt
    obtain ⟨c_b0, c_b1, c_b2⟩ := b_b14.three
    have l_b := b_b14.lt
    obtain ⟨c_xc0, c_xc1, c_xc2⟩ := b_xc14.three
    have l_xc := b_xc14.lt
    obtain ⟨c_xx0, c_xx1, c_xx2⟩ := b_xx14.three
    have l_xx := b_xx14.lt
    obtain ⟨c_xy0, c_xy1, c_xy2⟩ := b_xy14.three
    have l_xy := b_xy14.lt
    obtain ⟨c_xz0, c_xz1, c_xz2⟩ := b_xz14.three
    have l_xz := b_xz14.lt
    obtain ⟨c_xu0, c_xu1, c_xu2⟩ := b_xu14.three
    have l_xu := b_xu14.lt
    obtain ⟨c_xxr0, c_xxr1, c_xxr2⟩ := b_xxr14.three
    have l_xxr := b_xxr14.lt
    obtain ⟨A14, ca14, D14, cd14, rfl, hs14, hd14⟩ := hr14.open_
    have fz14 := b_xu14.frozen
    have sc_a0_14 := cellS (q := ⟨w9.heap.size, 0, none⟩) (u := (.bool (zipA f (rot i1 k a) (rot i1 k b)).ch)) c_a0 (by simp <;> omega)
    have sc_a1_14 := cellS (q := ⟨w9.heap.size, 1, none⟩) (u := (.slice A14 (zipA f (rot i1 k a) (rot i1 k b)).sh.length ca14)) c_a1 (by simp <;> omega)
    have sc_a2_14 := cellS (q := ⟨w9.heap.size, 2, none⟩) (u := (.slice D14 (zipA f (rot i1 k a) (rot i1 k b)).da.length cd14)) c_a2 (by simp <;> omega)
    have sc_b0_14 := cellS (q := ⟨w9.heap.size, 0, none⟩) (u := (.bool (zipA f (rot i1 k a) (rot i1 k b)).ch)) c_b0 (by simp <;> omega)
    have sc_b1_14 := cellS (q := ⟨w9.heap.size, 1, none⟩) (u := (.slice A14 (zipA f (rot i1 k a) (rot i1 k b)).sh.length ca14)) c_b1 (by simp <;> omega)
    have sc_b2_14 := cellS (q := ⟨w9.heap.size, 2, none⟩) (u := (.slice D14 (zipA f (rot i1 k a) (rot i1 k b)).da.length cd14)) c_b2 (by simp <;> omega)
    have sc_xc0_14 := cellS (q := ⟨w9.heap.size, 0, none⟩) (u := (.bool (zipA f (rot i1 k a) (rot i1 k b)).ch)) c_xc0 (by simp <;> omega)
    have sc_xc1_14 := cellS (q := ⟨w9.heap.size, 1, none⟩) (u := (.slice A14 (zipA f (rot i1 k a) (rot i1 k b)).sh.length ca14)) c_xc1 (by simp <;> omega)
    have sc_xc2_14 := cellS (q := ⟨w9.heap.size, 2, none⟩) (u := (.slice D14 (zipA f (rot i1 k a) (rot i1 k b)).da.length cd14)) c_xc2 (by simp <;> omega)
    have sc_xx0_14 := cellS (q := ⟨w9.heap.size, 0, none⟩) (u := (.bool (zipA f (rot i1 k a) (rot i1 k b)).ch)) c_xx0 (by simp <;> omega)
    have sc_xx1_14 := cellS (q := ⟨w9.heap.size, 1, none⟩) (u := (.slice A14 (zipA f (rot i1 k a) (rot i1 k b)).sh.length ca14)) c_xx1 (by simp <;> omega)
    have sc_xx2_14 := cellS (q := ⟨w9.heap.size, 2, none⟩) (u := (.slice D14 (zipA f (rot i1 k a) (rot i1 k b)).da.length cd14)) c_xx2 (by simp <;> omega)
    have sc_xy0_14 := cellS (q := ⟨w9.heap.size, 0, none⟩) (u := (.bool (zipA f (rot i1 k a) (rot i1 k b)).ch)) c_xy0 (by simp <;> omega)
    have sc_xy1_14 := cellS (q := ⟨w9.heap.size, 1, none⟩) (u := (.slice A14 (zipA f (rot i1 k a) (rot i1 k b)).sh.length ca14)) c_xy1 (by simp <;> omega)
    have sc_xy2_14 := cellS (q := ⟨w9.heap.size, 2, none⟩) (u := (.slice D14 (zipA f (rot i1 k a) (rot i1 k b)).da.length cd14)) c_xy2 (by simp <;> omega)
    have sc_xz0_14 := cellS (q := ⟨w9.heap.size, 0, none⟩) (u := (.bool (zipA f (rot i1 k a) (rot i1 k b)).ch)) c_xz0 (by simp <;> omega)
    have sc_xz1_14 := cellS (q := ⟨w9.heap.size, 1, none⟩) (u := (.slice A14 (zipA f (rot i1 k a) (rot i1 k b)).sh.length ca14)) c_xz1 (by simp <;> omega)
    have sc_xz2_14 := cellS (q := ⟨w9.heap.size, 2, none⟩) (u := (.slice D14 (zipA f (rot i1 k a) (rot i1 k b)).da.length cd14)) c_xz2 (by simp <;> omega)
    have sc_xxr0_14 := cellS (q := ⟨w9.heap.size, 0, none⟩) (u := (.bool (zipA f (rot i1 k a) (rot i1 k b)).ch)) c_xxr0 (by simp <;> omega)
    have sc_xxr1_14 := cellS (q := ⟨w9.heap.size, 1, none⟩) (u := (.slice A14 (zipA f (rot i1 k a) (rot i1 k b)).sh.length ca14)) c_xxr1 (by simp <;> omega)
    have sc_xxr2_14 := cellS (q := ⟨w9.heap.size, 2, none⟩) (u := (.slice D14 (zipA f (rot i1 k a) (rot i1 k b)).da.length cd14)) c_xxr2 (by simp <;> omega)
    have gb14 := grownBy_three w14 (w9.heap.size) (.bool (zipA f (rot i1 k a) (rot i1 k b)).ch) (.slice A14 (zipA f (rot i1 k a) (rot i1 k b)).sh.length ca14) (.slice D14 (zipA f (rot i1 k a) (rot i1 k b)).da.length cd14)
    have n_a14 := b_a14.grown gb14 (by simp <;> omega)
    have n_b14 := b_b14.grown gb14 (by simp <;> omega)
    have n_xc14 := b_xc14.grown gb14 (by simp <;> omega)
    have n_xx14 := b_xx14.grown gb14 (by simp <;> omega)
    have n_xy14 := b_xy14.grown gb14 (by simp <;> omega)
    have n_xz14 := b_xz14.grown gb14 (by simp <;> omega)
    have n_xu14 := ((b_xu14.store 0 (.bool (zipA f (rot i1 k a) (rot i1 k b)).ch)).store 1 (.slice A14 (zipA f (rot i1 k a) (rot i1 k b)).sh.length ca14)).store 2 (.slice D14 (zipA f (rot i1 k a) (rot i1 k b)).da.length cd14)
    simp only [List.setIfInBounds_toArray, List.set_cons_zero, List.set_cons_succ] at n_xu14
    have n_xxr14 := b_xxr14.grown gb14 (by simp <;> omega)
    have m_c14 := a_c14.laid b_xu14 (.bool (zipA f (rot i1 k a) (rot i1 k b)).ch) (.slice A14 (zipA f (rot i1 k a) (rot i1 k b)).sh.length ca14) (.slice D14 (zipA f (rot i1 k a) (rot i1 k b)).da.length cd14)
    have m_yr14 := a_yr14.laid b_xu14 (.bool (zipA f (rot i1 k a) (rot i1 k b)).ch) (.slice A14 (zipA f (rot i1 k a) (rot i1 k b)).sh.length ca14) (.slice D14 (zipA f (rot i1 k a) (rot i1 k b)).da.length cd14)
    have m_xr14 := a_xr14.laid b_xu14 (.bool (zipA f (rot i1 k a) (rot i1 k b)).ch) (.slice A14 (zipA f (rot i1 k a) (rot i1 k b)).sh.length ca14) (.slice D14 (zipA f (rot i1 k a) (rot i1 k b)).da.length cd14)
    have m_zr14 := a_zr14.laid b_xu14 (.bool (zipA f (rot i1 k a) (rot i1 k b)).ch) (.slice A14 (zipA f (rot i1 k a) (rot i1 k b)).sh.length ca14) (.slice D14 (zipA f (rot i1 k a) (rot i1 k b)).da.length cd14)
    have m_ur14 := hr14.laid b_xu14 (.bool (zipA f (rot i1 k a) (rot i1 k b)).ch) (.slice A14 (zipA f (rot i1 k a) (rot i1 k b)).sh.length ca14) (.slice D14 (zipA f (rot i1 k a) (rot i1 k b)).da.length cd14)
    have hbs14 : Below w.heap.size w (((w14.setCell ⟨w9.heap.size, 0, none⟩ (.bool (zipA f (rot i1 k a) (rot i1 k b)).ch)).setCell ⟨w9.heap.size, 1, none⟩ (.slice A14 (zipA f (rot i1 k a) (rot i1 k b)).sh.length ca14)).setCell ⟨w9.heap.size, 2, none⟩ (.slice D14 (zipA f (rot i1 k a) (rot i1 k b)).da.length cd14)) := by have := hbw14.size; go_grown
    go_wp2_with fail
    refine (alike_nil _ _ _ _ _ m_ur14 m_zr14).mono ?_
    rintro e w15 ⟨r15, rfl, hr15, hb15⟩
    have e15 : r15 = true := hr15.2 (PL2.out.2)
    subst e15
    clear hr15
    have hbw15 := hbs14.trans (hb15.mono hbs14.size)
    have b_a15 := n_a14.below hb15
    have b_b15 := n_b14.below hb15
    have b_xc15 := n_xc14.below hb15
    have b_xx15 := n_xx14.below hb15
    have b_xy15 := n_xy14.below hb15
    have b_xz15 := n_xz14.below hb15
    have b_xu15 := n_xu14.below hb15
    have b_xxr15 := n_xxr14.below hb15
    have a_c15 := m_c14.mono hb15
    have a_yr15 := m_yr14.mono hb15
    have a_xr15 := m_xr14.mono hb15
    have a_zr15 := m_zr14.mono hb15
    have a_ur15 := m_ur14.mono hb15
    clear hb15 n_a14 n_b14 n_xc14 n_xx14 n_xy14 n_xz14 n_xu14 n_xxr14 m_c14 m_yr14 m_xr14 m_zr14 m_ur14 hbs14 c_a0 c_a1 c_a2 l_a c_b0 c_b1 c_b2 l_b c_xc0 c_xc1 c_xc2 l_xc c_xx0 c_xx1 c_xx2 l_xx c_xy0 c_xy1 c_xy2 l_xy c_xz0 c_xz1 c_xz2 l_xz c_xu0 c_xu1 c_xu2 l_xu c_xxr0 c_xxr1 c_xxr2 l_xxr sc_a0_14 sc_a1_14 sc_a2_14 sc_b0_14 sc_b1_14 sc_b2_14 sc_xc0_14 sc_xc1_14 sc_xc2_14 sc_xx0_14 sc_xx1_14 sc_xx2_14 sc_xy0_14 sc_xy1_14 sc_xy2_14 sc_xz0_14 sc_xz1_14 sc_xz2_14 sc_xxr0_14 sc_xxr1_14 sc_xxr2_14 fz14
    obtain ⟨c_a0, c_a1, c_a2⟩ := b_a15.three
    have l_a := b_a15.lt
    obtain ⟨c_b0, c_b1, c_b2⟩ := b_b15.three
    have l_b := b_b15.lt
    obtain ⟨c_xc0, c_xc1, c_xc2⟩ := b_xc15.three
    have l_xc := b_xc15.lt
    obtain ⟨c_xx0, c_xx1, c_xx2⟩ := b_xx15.three
    have l_xx := b_xx15.lt
    obtain ⟨c_xy0, c_xy1, c_xy2⟩ := b_xy15.three
    have l_xy := b_xy15.lt
    obtain ⟨c_xz0, c_xz1, c_xz2⟩ := b_xz15.three
    have l_xz := b_xz15.lt
    obtain ⟨c_xu0, c_xu1, c_xu2⟩ := b_xu15.three
    have l_xu := b_xu15.lt
    obtain ⟨c_xxr0, c_xxr1, c_xxr2⟩ := b_xxr15.three
    have l_xxr := b_xxr15.lt
    by_cases hf : flipErr p a = 0
    case neg =>
      have HF := Lib.hid hf
      clear hf
      go_wp2_with fail
      refine (flip_bad (hp.mono hbw15) (ha.mono hbw15) HF.out).mono ?_
      rintro e w16 ⟨rfl, hb16⟩
      have hbw16 := hbw15.trans (hb16.mono hbw15.size)
      have b_a16 := b_a15.below hb16
      have b_b16 := b_b15.below hb16
      have b_xc16 := b_xc15.below hb16
      have b_xx16 := b_xx15.below hb16
      have a_c16 := a_c15.mono hb16
      clear hb16 b_a15 b_b15 b_xc15 b_xx15 a_c15 hbw15 c_a0 c_a1 c_a2 l_a c_b0 c_b1 c_b2 l_b c_xc0 c_xc1 c_xc2 l_xc c_xx0 c_xx1 c_xx2 l_xx c_xy0 c_xy1 c_xy2 l_xy c_xz0 c_xz1 c_xz2 l_xz c_xu0 c_xu1 c_xu2 l_xu c_xxr0 c_xxr1 c_xxr2 l_xxr a_xr15 a_yr15 a_zr15 a_ur15 b_xy15 b_xz15 b_xu15 b_xxr15
      obtain ⟨c_a0, c_a1, c_a2⟩ := b_a16.three
      have l_a := b_a16.lt
      obtain ⟨c_b0, c_b1, c_b2⟩ := b_b16.three
      have l_b := b_b16.lt
      obtain ⟨c_xc0, c_xc1, c_xc2⟩ := b_xc16.three
      have l_xc := b_xc16.lt
      obtain ⟨c_xx0, c_xx1, c_xx2⟩ := b_xx16.three
      have l_xx := b_xx16.lt
      have fzz := b_xx16.frozen
      go_wp2_with fail
      go_ret
      exact ⟨rfl, by have := hbw16.size; go_grown⟩
    obtain ⟨t3, u, ht3, rfl, hu, hlu⟩ := flipErr_zero hf
    have e3 : t = t3 := by have := ht3.nsh_eq; rw [HA.out.nsh_eq] at this; exact this
    subst e3
    have HU := Lib.hid hu
    have HLU := Lib.hid hlu
    clear hf ht3 hu hlu
    have PL3 := Lib.hid (zip_flip HA.out HB.out HZ.out HU.out HLU.out)
    go_wp2_with fail
    refine ((show Calls _ _ _ _ (GivesOk (flip u a) _) from flip_ok' (hp.mono hbw15) (ha.mono hbw15) HA.out HU.out HLU.out)).mono ?_
    rintro e w16 ⟨r16, rfl, hr16, hb16⟩
    have hbw16 := hbw15.trans (hb16.mono hbw15.size)
    have b_a16 := b_a15.below hb16
    have b_b16 := b_b15.below hb16
    have b_xc16 := b_xc15.below hb16
    have b_xx16 := b_xx15.below hb16
    have a_c16 := a_c15.mono hb16
    clear hb16 b_a15 b_b15 b_xc15 b_xx15 a_c15 hbw15 c_a0 c_a1 c_a2 l_a c_b0 c_b1 c_b2 l_b c_xc0 c_xc1 c_xc2 l_xc c_xx0 c_xx1 c_xx2 l_xx c_xy0 c_xy1 c_xy2 l_xy c_xz0 c_xz1 c_xz2 l_xz c_xu0 c_xu1 c_xu2 l_xu c_xxr0 c_xxr1 c_xxr2 l_xxr a_xr15 a_yr15 a_zr15 a_ur15 b_xy15 b_xz15 b_xu15 b_xxr15
    obtain ⟨c_a0, c_a1, c_a2⟩ := b_a16.three
    have l_a := b_a16.lt
    obtain ⟨c_b0, c_b1, c_b2⟩ := b_b16.three
    have l_b := b_b16.lt
    obtain ⟨c_xc0, c_xc1, c_xc2⟩ := b_xc16.three
    have l_xc := b_xc16.lt
    obtain ⟨c_xx0, c_xx1, c_xx2⟩ := b_xx16.three
    have l_xx := b_xx16.lt
    obtain ⟨A16, ca16, D16, cd16, rfl, hs16, hd16⟩ := hr16.open_
    have fz16 := b_xx16.frozen
    have sc_a0_16 := cellS (q := ⟨w6.heap.size, 0, none⟩) (u := (.bool (flip u a).ch)) c_a0 (by simp <;> omega)
    have sc_a1_16 := cellS (q := ⟨w6.heap.size, 1, none⟩) (u := (.slice A16 (flip u a).sh.length ca16)) c_a1 (by simp <;> omega)
    have sc_a2_16 := cellS (q := ⟨w6.heap.size, 2, none⟩) (u := (.slice D16 (flip u a).da.length cd16)) c_a2 (by simp <;> omega)
    have sc_b0_16 := cellS (q := ⟨w6.heap.size, 0, none⟩) (u := (.bool (flip u a).ch)) c_b0 (by simp <;> omega)
    have sc_b1_16 := cellS (q := ⟨w6.heap.size, 1, none⟩) (u := (.slice A16 (flip u a).sh.length ca16)) c_b1 (by simp <;> omega)
    have sc_b2_16 := cellS (q := ⟨w6.heap.size, 2, none⟩) (u := (.slice D16 (flip u a).da.length cd16)) c_b2 (by simp <;> omega)
    have sc_xc0_16 := cellS (q := ⟨w6.heap.size, 0, none⟩) (u := (.bool (flip u a).ch)) c_xc0 (by simp <;> omega)
    have sc_xc1_16 := cellS (q := ⟨w6.heap.size, 1, none⟩) (u := (.slice A16 (flip u a).sh.length ca16)) c_xc1 (by simp <;> omega)
    have sc_xc2_16 := cellS (q := ⟨w6.heap.size, 2, none⟩) (u := (.slice D16 (flip u a).da.length cd16)) c_xc2 (by simp <;> omega)
    have gb16 := grownBy_three w16 (w6.heap.size) (.bool (flip u a).ch) (.slice A16 (flip u a).sh.length ca16) (.slice D16 (flip u a).da.length cd16)
    have n_a16 := b_a16.grown gb16 (by simp <;> omega)
    have n_b16 := b_b16.grown gb16 (by simp <;> omega)
    have n_xc16 := b_xc16.grown gb16 (by simp <;> omega)
    have n_xx16 := ((b_xx16.store 0 (.bool (flip u a).ch)).store 1 (.slice A16 (flip u a).sh.length ca16)).store 2 (.slice D16 (flip u a).da.length cd16)
    simp only [List.setIfInBounds_toArray, List.set_cons_zero, List.set_cons_succ] at n_xx16
    have m_c16 := a_c16.laid b_xx16 (.bool (flip u a).ch) (.slice A16 (flip u a).sh.length ca16) (.slice D16 (flip u a).da.length cd16)
    have m_x316 := hr16.laid b_xx16 (.bool (flip u a).ch) (.slice A16 (flip u a).sh.length ca16) (.slice D16 (flip u a).da.length cd16)
    have hbs16 : Below w.heap.size w (((w16.setCell ⟨w6.heap.size, 0, none⟩ (.bool (flip u a).ch)).setCell ⟨w6.heap.size, 1, none⟩ (.slice A16 (flip u a).sh.length ca16)).setCell ⟨w6.heap.size, 2, none⟩ (.slice D16 (flip u a).da.length cd16)) := by have := hbw16.size; go_grown
    go_wp2_with fail
    refine ((show Calls _ _ _ _ (GivesOk (flip u b) _) from flip_ok' (hp.mono hbs16) (hb.mono hbs16) HB.out HU.out HLU.out)).mono ?_
    rintro e w17 ⟨r17, rfl, hr17, hb17⟩
    have hbw17 := hbs16.trans (hb17.mono hbs16.size)
    have b_a17 := n_a16.below hb17
    have b_b17 := n_b16.below hb17
    have b_xc17 := n_xc16.below hb17
    have b_xx17 := n_xx16.below hb17
    have a_c17 := m_c16.mono hb17
    have a_x317 := m_x316.mono hb17
    clear hb17 n_a16 n_b16 n_xc16 n_xx16 m_c16 m_x316 hbs16 c_a0 c_a1 c_a2 l_a c_b0 c_b1 c_b2 l_b c_xc0 c_xc1 c_xc2 l_xc c_xx0 c_xx1 c_xx2 l_xx sc_a0_16 sc_a1_16 sc_a2_16 sc_b0_16 sc_b1_16 sc_b2_16 sc_xc0_16 sc_xc1_16 sc_xc2_16 fz16
    obtain ⟨c_a0, c_a1, c_a2⟩ := b_a17.three
    have l_a := b_a17.lt
    obtain ⟨c_b0, c_b1, c_b2⟩ := b_b17.three
    have l_b := b_b17.lt
    obtain ⟨c_xc0, c_xc1, c_xc2⟩ := b_xc17.three
    have l_xc := b_xc17.lt
    obtain ⟨c_xx0, c_xx1, c_xx2⟩ := b_xx17.three
    have l_xx := b_xx17.lt
    obtain ⟨A17, ca17, D17, cd17, rfl, hs17, hd17⟩ := hr17.open_
    go_wp2_with fail
    refine ((show Calls _ _ _ _ (GivesOk (flip u (zipA f a b)) _) from flip_ok' (hp.mono (hbw17.trans ((below_one w17 _).mono hbw17.size))) (a_c17.mono (below_one _ _)) HC.out HU.out HLU.out)).mono ?_
    rintro e w18 ⟨r18, rfl, hr18, hb18⟩
    have hbw18 := (hbw17.trans ((below_one w17 _).mono hbw17.size)).trans (hb18.mono (hbw17.trans ((below_one w17 _).mono hbw17.size)).size)
    have b_a18 := (b_a17.alloc _).below hb18
    have b_b18 := (b_b17.alloc _).below hb18
    have b_xc18 := (b_xc17.alloc _).below hb18
    have b_xx18 := (b_xx17.alloc _).below hb18
    have b_xy218 := (Box.new w17 25 #[.bool (flip u b).ch, .slice A17 (flip u b).sh.length ca17, .slice D17 (flip u b).da.length cd17]).below hb18
    have a_c18 := (a_c17.mono (below_one _ _)).mono hb18
    have a_x318 := (a_x317.mono (below_one _ _)).mono hb18
    have a_y218 := (hr17.mono (below_one _ _)).mono hb18
    clear hb18 b_a17 b_b17 b_xc17 b_xx17 a_c17 a_x317 hr17 hbw17 c_a0 c_a1 c_a2 l_a c_b0 c_b1 c_b2 l_b c_xc0 c_xc1 c_xc2 l_xc c_xx0 c_xx1 c_xx2 l_xx
    obtain ⟨c_a0, c_a1, c_a2⟩ := b_a18.three
    have l_a := b_a18.lt
    obtain ⟨c_b0, c_b1, c_b2⟩ := b_b18.three
    have l_b := b_b18.lt
    obtain ⟨c_xc0, c_xc1, c_xc2⟩ := b_xc18.three
    have l_xc := b_xc18.lt
    obtain ⟨c_xx0, c_xx1, c_xx2⟩ := b_xx18.three
    have l_xx := b_xx18.lt
    obtain ⟨c_xy20, c_xy21, c_xy22⟩ := b_xy218.three
    have l_xy2 := b_xy218.lt
    obtain ⟨A18, ca18, D18, cd18, rfl, hs18, hd18⟩ := hr18.open_
    have o18 := l_xy2
    go_wp2_with fail
    refine ((show Calls _ _ _ _ (GivesOk (zipA f (flip u a) (flip u b)) _) from each_zip (a_x318.mono (below_one _ _)) (a_y218.mono (below_one _ _)) (wf_flip Wb.out) (flip_ok HA.out HU.out HLU.out) (flip_ok HB.out HU.out HLU.out) PL3.out.1)).mono ?_
    rintro e w19 ⟨r19, rfl, hr19, hb19⟩
    have hbw19 := (hbw18.trans ((below_one w18 _).mono hbw18.size)).trans (hb19.mono (hbw18.trans ((below_one w18 _).mono hbw18.size)).size)
    have b_a19 := (b_a18.alloc _).below hb19
    have b_b19 := (b_b18.alloc _).below hb19
    have b_xc19 := (b_xc18.alloc _).below hb19
    have b_xx19 := (b_xx18.alloc _).below hb19
    have b_xy219 := (b_xy218.alloc _).below hb19
    have b_xz219 := (Box.new w18 25 #[.bool (flip u (zipA f a b)).ch, .slice A18 (flip u (zipA f a b)).sh.length ca18, .slice D18 (flip u (zipA f a b)).da.length cd18]).below hb19
    have a_c19 := (a_c18.mono (below_one _ _)).mono hb19
    have a_x319 := (a_x318.mono (below_one _ _)).mono hb19
    have a_y219 := (a_y218.mono (below_one _ _)).mono hb19
    have a_z219 := (hr18.mono (below_one _ _)).mono hb19
    clear hb19 b_a18 b_b18 b_xc18 b_xx18 b_xy218 a_c18 a_x318 a_y218 hr18 hbw18 c_a0 c_a1 c_a2 l_a c_b0 c_b1 c_b2 l_b c_xc0 c_xc1 c_xc2 l_xc c_xx0 c_xx1 c_xx2 l_xx c_xy20 c_xy21 c_xy22 l_xy2
    obtain ⟨c_a0, c_a1, c_a2⟩ := b_a19.three
    have l_a := b_a19.lt
    obtain ⟨c_b0, c_b1, c_b2⟩ := b_b19.three
    have l_b := b_b19.lt
    obtain ⟨c_xc0, c_xc1, c_xc2⟩ := b_xc19.three
    have l_xc := b_xc19.lt
    obtain ⟨c_xx0, c_xx1, c_xx2⟩ := b_xx19.three
    have l_xx := b_xx19.lt
    obtain ⟨c_xy20, c_xy21, c_xy22⟩ := b_xy219.three
    have l_xy2 := b_xy219.lt
    obtain ⟨c_xz20, c_xz21, c_xz22⟩ := b_xz219.three
    have l_xz2 := b_xz219.lt
    obtain ⟨A19, ca19, D19, cd19, rfl, hs19, hd19⟩ := hr19.open_
    have o19 := l_xz2
    go_wp2_with fail
    refine (alike_nil _ _ _ _ _ (hr19.mono (below_one _ _)) (a_z219.mono (below_one _ _))).mono ?_
    rintro e w20 ⟨r20, rfl, hr20, hb20⟩
    have e20 : r20 = true := hr20.2 (PL3.out.2)
    subst e20
    clear hr20
    have hbw20 := (hbw19.trans ((below_one w19 _).mono hbw19.size)).trans (hb20.mono (hbw19.trans ((below_one w19 _).mono hbw19.size)).size)
    have b_a20 := (b_a19.alloc _).below hb20
    have b_b20 := (b_b19.alloc _).below hb20
    have b_xc20 := (b_xc19.alloc _).below hb20
    have b_xx20 := (b_xx19.alloc _).below hb20
    have b_xy220 := (b_xy219.alloc _).below hb20
    have b_xz220 := (b_xz219.alloc _).below hb20
    have b_xu220 := (Box.new w19 25 #[.bool (zipA f (flip u a) (flip u b)).ch, .slice A19 (zipA f (flip u a) (flip u b)).sh.length ca19, .slice D19 (zipA f (flip u a) (flip u b)).da.length cd19]).below hb20
    have a_c20 := (a_c19.mono (below_one _ _)).mono hb20
    have a_x320 := (a_x319.mono (below_one _ _)).mono hb20
    have a_y220 := (a_y219.mono (below_one _ _)).mono hb20
    have a_z220 := (a_z219.mono (below_one _ _)).mono hb20
    have a_u220 := (hr19.mono (below_one _ _)).mono hb20
    clear hb20 b_a19 b_b19 b_xc19 b_xx19 b_xy219 b_xz219 a_c19 a_x319 a_y219 a_z219 hr19 hbw19 c_a0 c_a1 c_a2 l_a c_b0 c_b1 c_b2 l_b c_xc0 c_xc1 c_xc2 l_xc c_xx0 c_xx1 c_xx2 l_xx c_xy20 c_xy21 c_xy22 l_xy2 c_xz20 c_xz21 c_xz22 l_xz2
    obtain ⟨c_a0, c_a1, c_a2⟩ := b_a20.three
    have l_a := b_a20.lt
    obtain ⟨c_b0, c_b1, c_b2⟩ := b_b20.three
    have l_b := b_b20.lt
    obtain ⟨c_xc0, c_xc1, c_xc2⟩ := b_xc20.three
    have l_xc := b_xc20.lt
    obtain ⟨c_xx0, c_xx1, c_xx2⟩ := b_xx20.three
    have l_xx := b_xx20.lt
    obtain ⟨c_xy20, c_xy21, c_xy22⟩ := b_xy220.three
    have l_xy2 := b_xy220.lt
    obtain ⟨c_xz20, c_xz21, c_xz22⟩ := b_xz220.three
    have l_xz2 := b_xz220.lt
    obtain ⟨c_xu20, c_xu21, c_xu22⟩ := b_xu220.three
    have l_xu2 := b_xu220.lt
    go_wp2_with fail
    go_ret
    exact ⟨rfl, by have := hbw20.size; go_grown⟩

end Go.Proofs.Ytlnnpcpgknfcgaa
