/- The walk of the law TurnCorners. Conditions: none. -/
import Derived.Test.YtfemeaehpjajlaaFlipWalk
import Derived.Test.YtfemeaehpjajlaaCorner
import Derived.Test.YtfemeaehpjajlaaStore
import Derived.Test.YtfemeaehpjajlaaMore
import Derived.Test.YtfemeaehpjajlaaAlike
import Derived.Test.YtfemeaehpjajlaaRev
namespace Go.Proofs.Ytfemeaehpjajlaa
open Go Go.RowKit Go.Proofs.Ytfemeaehpjajlaa.P

set_option maxRecDepth 100000 in
set_option maxHeartbeats 4000000 in
theorem turnCorners_walk (v : Value) (a : Arr) (w : World) (ha : IsArr w v a) :
    Calls Try.prog 12 #[v] w (Says w) := by
  obtain ⟨A, ca, D, cd, rfl, hs, hd⟩ := ha.open_
  go_enter Try.func12, Try.ntmps12
  go_wp2_with fail
  have x1 := (Box.new (w.alloc (.cells #[.bool a.ch, .slice A a.sh.length ca, .slice D a.da.length cd] 24)) 3 #[.int .i64 1, .int .i64 0])
  simp only [World.size_alloc, World.size_setCell] at x1
  have i1 : IsInts ((((w.alloc (.cells #[.bool a.ch, .slice A a.sh.length ca, .slice D a.da.length cd] 24)).alloc (.cells #[.int .i64 1, .int .i64 0] 3)).alloc (.cells #[.int .i64 1, .int .i64 2] 3)).alloc (.cells #[.int .i64 1, .int .i64 2] 3)) (.slice (some ⟨w.heap.size + 1, 0, none⟩) 2 2) [1, 0] := ((x1.alloc _).alloc _).isInts (xs := [1, 0]) (n := 2) rfl (by omega)
  have x2 := (Box.new ((w.alloc (.cells #[.bool a.ch, .slice A a.sh.length ca, .slice D a.da.length cd] 24)).alloc (.cells #[.int .i64 1, .int .i64 0] 3)) 3 #[.int .i64 1, .int .i64 2])
  simp only [World.size_alloc, World.size_setCell] at x2
  have i2 : IsInts ((((w.alloc (.cells #[.bool a.ch, .slice A a.sh.length ca, .slice D a.da.length cd] 24)).alloc (.cells #[.int .i64 1, .int .i64 0] 3)).alloc (.cells #[.int .i64 1, .int .i64 2] 3)).alloc (.cells #[.int .i64 1, .int .i64 2] 3)) (.slice (some ⟨w.heap.size + 1 + 1, 0, none⟩) 2 2) [1, 2] := (x2.alloc _).isInts (xs := [1, 2]) (n := 2) rfl (by omega)
  have x3 := (Box.new (((w.alloc (.cells #[.bool a.ch, .slice A a.sh.length ca, .slice D a.da.length cd] 24)).alloc (.cells #[.int .i64 1, .int .i64 0] 3)).alloc (.cells #[.int .i64 1, .int .i64 2] 3)) 3 #[.int .i64 1, .int .i64 2])
  simp only [World.size_alloc, World.size_setCell] at x3
  have i3 : IsInts ((((w.alloc (.cells #[.bool a.ch, .slice A a.sh.length ca, .slice D a.da.length cd] 24)).alloc (.cells #[.int .i64 1, .int .i64 0] 3)).alloc (.cells #[.int .i64 1, .int .i64 2] 3)).alloc (.cells #[.int .i64 1, .int .i64 2] 3)) (.slice (some ⟨w.heap.size + 1 + 1 + 1, 0, none⟩) 2 2) [1, 2] := x3.isInts (xs := [1, 2]) (n := 2) rfl (by omega)
  clear x1 x2 x3
  refine (flip_ok' (t := [1, 2]) (u := [1, 0]) (a := ⟨false, [1, 2], [1, 2]⟩) i1 ⟨_, _, rfl, i2, i3⟩ ⟨rfl, ⟨by decide, by decide, by decide⟩, rfl, by simp⟩ ⟨by decide, by decide⟩ rfl).mono ?_
  rintro e w1 ⟨r1, rfl, hr1, hb1⟩
  have hbw1 := ((Below.refl w.heap.size w).trans ((below_four w _ _ _ _).mono (Below.refl w.heap.size w).size)).trans (hb1.mono ((Below.refl w.heap.size w).trans ((below_four w _ _ _ _).mono (Below.refl w.heap.size w).size)).size)
  have b_a1 := ((((Box.new w 24 #[.bool a.ch, .slice A a.sh.length ca, .slice D a.da.length cd]).alloc _).alloc _).alloc _).below hb1
  clear hb1 i1 i2 i3
  obtain ⟨c_a0, c_a1, c_a2⟩ := b_a1.three
  have l_a := b_a1.lt
  obtain ⟨A1, ca1, D1, cd1, rfl, hs1, hd1⟩ := hr1.open_
  go_wp2_with fail
  have bq := Box.new (w1.alloc (.cells #[.bool ((flip [1, 0] ⟨false, [1, 2], [1, 2]⟩)).ch, .slice A1 ((flip [1, 0] ⟨false, [1, 2], [1, 2]⟩)).sh.length ca1, .slice D1 ((flip [1, 0] ⟨false, [1, 2], [1, 2]⟩)).da.length cd1] 24)) 3 #[.int .i64 2, .int .i64 1]
  rw [World.size_alloc] at bq
  refine (ints_any _ _ _ [2, 1] _ (hs1.mono (below_two _ _ _)) (bq.isInts rfl (by simp))).mono ?_
  rintro e w2 ⟨r2, rfl, hr2, hb2⟩
  have e2 : r2 = true := hr2.2 (by decide)
  subst e2
  clear hr2 hs1 hd1
  clear hr1
  have hbw2 := (hbw1.trans ((below_two w1 _ _).mono hbw1.size)).trans (hb2.mono (hbw1.trans ((below_two w1 _ _).mono hbw1.size)).size)
  have b_a2 := ((b_a1.alloc _).alloc _).below hb2
  clear hb2 b_a1 hbw1 c_a0 c_a1 c_a2 l_a bq
  obtain ⟨c_a0, c_a1, c_a2⟩ := b_a2.three
  have l_a := b_a2.lt
  by_cases hE : arrErr a = 0
  case neg =>
    have HE := Lib.hid hE
    clear hE
    go_wp2_with fail
    refine (check_bad (ha.mono hbw2) HE.out).mono ?_
    rintro e w3 ⟨rfl, hb3⟩
    have hbw3 := hbw2.trans (hb3.mono hbw2.size)
    have b_a3 := b_a2.below hb3
    clear hb3 b_a2 hbw2 c_a0 c_a1 c_a2 l_a
    obtain ⟨c_a0, c_a1, c_a2⟩ := b_a3.three
    have l_a := b_a3.lt
    go_wp2_with fail
    go_ret
    exact ⟨rfl, by have := hbw3.size; go_grown⟩
  obtain ⟨t, ht⟩ := ok_of_arrErr hE
  have hsl : a.sh.length = t.length := by rw [ht.sh, length_ints]
  have Ht := Lib.hid ht
  have HSL := Lib.hid hsl
  clear hE ht hsl
  by_cases hl : a.sh.length = 2
  case neg =>
    have hlb : ((a.sh.length : Int) != 2) = true := by simp; omega
    clear hl
    go_wp2_with fail
    refine (check_ok (ha.mono hbw2) Ht.out).mono ?_
    rintro e w3 ⟨rfl, hb3⟩
    have hbw3 := hbw2.trans (hb3.mono hbw2.size)
    have b_a3 := b_a2.below hb3
    clear hb3 b_a2 hbw2 c_a0 c_a1 c_a2 l_a
    obtain ⟨c_a0, c_a1, c_a2⟩ := b_a3.three
    have l_a := b_a3.lt
    go_wp2_with fail
    go_ret
    exact ⟨rfl, by have := hbw3.size; go_grown⟩
  have hlb : ((a.sh.length : Int) != 2) = false := by simp; omega
  have h2 : t.length = 2 := by have := HSL.out; omega
  have H2 := Lib.hid h2
  clear hl h2
  go_wp2_with fail
  refine (check_ok (ha.mono hbw2) Ht.out).mono ?_
  rintro e w3 ⟨rfl, hb3⟩
  have hbw3 := hbw2.trans (hb3.mono hbw2.size)
  have b_a3 := b_a2.below hb3
  clear hb3 b_a2 hbw2 c_a0 c_a1 c_a2 l_a
  obtain ⟨c_a0, c_a1, c_a2⟩ := b_a3.three
  have l_a := b_a3.lt
  have hbz := hbw3
  obtain ⟨bx, hbx⟩ : ∃ bx, bx = w3.heap.size := ⟨_, rfl⟩
  have bX := Box.new w3 24 #[.bool a.ch, .slice A a.sh.length ca, .slice D a.da.length cd]
  rw [← hbx] at bX
  have bA := b_a3.alloc (.cells #[.bool a.ch, .slice A a.sh.length ca, .slice D a.da.length cd] 24)
  have hbx0 : w.heap.size < bx := by rw [hbx]; exact l_a
  have hbw_0 := hbw3.trans ((below_one w3 (.cells #[.bool a.ch, .slice A a.sh.length ca, .slice D a.da.length cd] 24)).mono hbw3.size)
  have aX := ha.mono hbw_0
  go_wp2_with fail
  rw [← hbx]
  clear hbx hbz c_a0 c_a1 c_a2 l_a
  clear b_a3
  go_loopw [7] (fun s wr => ∃ (i : Nat) (A' D' : Option Addr) (c' d' : Nat), i ≤ 4 ∧ s = .int .i64 i ∧ Box wr bx 24 #[.bool (corner i a).ch, .slice A' (corner i a).sh.length c', .slice D' (corner i a).da.length d'] ∧ IsArr wr (.agg #[.bool (corner i a).ch, .slice A' (corner i a).sh.length c', .slice D' (corner i a).da.length d']) (corner i a) ∧ Box wr w.heap.size 24 #[.bool a.ch, .slice A a.sh.length ca, .slice D a.da.length cd] ∧ Below w.heap.size w wr) (fun s _ => 4 - (intOf s).toNat)
  case atStart => exact ⟨0, A, D, ca, cd, by omega, rfl, bX, aX, bA, hbw_0⟩
  case round =>
    clear bX aX bA hbw_0
    obtain ⟨i, A', D', c', d', hi, rfl, bX, aX, bA, hbw_⟩ := hrel
    obtain ⟨u, hu2, hu⟩ := corner_ok Ht.out H2.out i
    have HU2 := Lib.hid hu2
    have HU := Lib.hid hu
    clear hu2 hu
    obtain ⟨c_x0, c_x1, c_x2⟩ := bX.three
    have f_x := bX.frozen
    have l_x := bX.lt
    obtain ⟨c_a0, c_a1, c_a2⟩ := bA.three
    have l_a := bA.lt
    rcases Nat.lt_or_ge i 4 with hi4 | hi4
    · have hok2 := flip_ok HU.out perm_two (by rw [HU2.out]; rfl)
      have HOK := Lib.hid hok2
      have hl2 : 1 < (flipSh [1, 0] u).length := by rw [flipSh_length]; decide
      have HL2 := Lib.hid hl2
      clear hok2 hl2
      go_wp2_with fail
      have x1 := (Box.new wr 3 #[.int .i64 1, .int .i64 0])
      have i1 : IsInts (wr.alloc (.cells #[.int .i64 1, .int .i64 0] 3)) (.slice (some ⟨wr.heap.size, 0, none⟩) 2 2) [1, 0] := x1.isInts (xs := [1, 0]) (n := 2) rfl (by omega)
      clear x1
      refine (flip_ok' (u := [1, 0]) i1 (aX.mono (below_one _ _)) HU.out perm_two (by rw [HU2.out]; rfl)).mono ?_
      rintro e w4 ⟨r4, rfl, hr4, hb4⟩
      have hbw4 := (hbw_.trans ((below_one wr _).mono hbw_.size)).trans (hb4.mono (hbw_.trans ((below_one wr _).mono hbw_.size)).size)
      have b_a4 := (bA.alloc _).below hb4
      have b_x4 := (bX.alloc _).below hb4
      have a_x4 := (aX.mono (below_one _ _)).mono hb4
      clear hb4 bA bX aX hbw_ c_x0 c_x1 c_x2 l_x f_x c_a0 c_a1 c_a2 l_a i1
      obtain ⟨c_a0, c_a1, c_a2⟩ := b_a4.three
      have l_a := b_a4.lt
      obtain ⟨c_x0, c_x1, c_x2⟩ := b_x4.three
      have l_x := b_x4.lt
      obtain ⟨A4, ca4, D4, cd4, rfl, hs4, hd4⟩ := hr4.open_
      go_wp2_with fail
      refine (reverse_ok (k := 1) (hr4.mono (below_one _ _)) HOK.out HL2.out).mono ?_
      rintro e w5 ⟨r5, rfl, hr5, hb5⟩
      have hbw5 := (hbw4.trans ((below_one w4 _).mono hbw4.size)).trans (hb5.mono (hbw4.trans ((below_one w4 _).mono hbw4.size)).size)
      have b_a5 := (b_a4.alloc _).below hb5
      have b_x5 := (b_x4.alloc _).below hb5
      have b_xy5 := (Box.new w4 24 #[.bool (flip [1, 0] (corner i a)).ch, .slice A4 (flip [1, 0] (corner i a)).sh.length ca4, .slice D4 (flip [1, 0] (corner i a)).da.length cd4]).below hb5
      have a_x5 := (a_x4.mono (below_one _ _)).mono hb5
      have a_y5 := (hr4.mono (below_one _ _)).mono hb5
      clear hb5 b_a4 b_x4 a_x4 hr4 hbw4 c_a0 c_a1 c_a2 l_a c_x0 c_x1 c_x2 l_x
      obtain ⟨c_a0, c_a1, c_a2⟩ := b_a5.three
      have l_a := b_a5.lt
      obtain ⟨c_x0, c_x1, c_x2⟩ := b_x5.three
      have l_x := b_x5.lt
      obtain ⟨c_xy0, c_xy1, c_xy2⟩ := b_xy5.three
      have l_xy := b_xy5.lt
      obtain ⟨A5, ca5, D5, cd5, rfl, hs5, hd5⟩ := hr5.open_
      have bX2 := b_x5
      have fX2 := bX2.frozen
      have bA2 := b_a5
      have aZ := hr5
      have hbw2 := hbw5
      go_wp2_with fail
      go_roundw
      case rel =>
        have hlz := hbw2.size
        refine ⟨i + 1, A5, D5, ca5, cd5, by omega, by go_num, Box.alloc ?_ _, (aZ.laid bX2 _ _ _).mono (below_one _ _), (bA2.grown (grownBy_three _ _ _ _ _) (by simp; omega)).alloc _, by go_grown⟩
        simpa [corner] using ((bX2.store 0 (.bool (rev 1 (flip [1, 0] (corner i a))).ch)).store 1 (.slice A5 (rev 1 (flip [1, 0] (corner i a))).sh.length ca5)).store 2 (.slice D5 (rev 1 (flip [1, 0] (corner i a))).da.length cd5)
      case measure => simp [intOf]; omega
    · have hi5 : i = 4 := by omega
      subst hi5
      go_wp2_with fail
      refine (array_any _ _ _ _ _ aX (ha.mono hbw_)).mono ?_
      rintro e w4 ⟨r4, rfl, hr4, hb4⟩
      have e4 : r4 = true := hr4.2 (corner_four Ht.out H2.out)
      subst e4
      clear hr4
      have hbw4 := hbw_.trans (hb4.mono hbw_.size)
      have b_a4 := bA.below hb4
      have b_x4 := bX.below hb4
      have a_x4 := aX.mono hb4
      clear hb4 bA bX aX hbw_ c_x0 c_x1 c_x2 l_x f_x c_a0 c_a1 c_a2 l_a
      obtain ⟨c_a0, c_a1, c_a2⟩ := b_a4.three
      have l_a := b_a4.lt
      obtain ⟨c_x0, c_x1, c_x2⟩ := b_x4.three
      have l_x := b_x4.lt
      have h0t : 0 < t.length := by rw [H2.out]; decide
      have H0T := Lib.hid h0t
      have hp2 : ([1, 0] : List Nat).length = t.length := by rw [H2.out]; rfl
      have HP2 := Lib.hid hp2
      have hfo := flip_ok Ht.out perm_two hp2
      have HFO := Lib.hid hfo
      have hl2 : 1 < (flipSh [1, 0] t).length := by rw [flipSh_length]; decide
      have HL2 := Lib.hid hl2
      clear h0t hp2 hfo hl2
      go_wp2_with fail
      refine (reverse_ok (k := 0) (ha.mono hbw4) Ht.out H0T.out).mono ?_
      rintro e w5 ⟨r5, rfl, hr5, hb5⟩
      have hbw5 := hbw4.trans (hb5.mono hbw4.size)
      have b_a5 := b_a4.below hb5
      clear hb5 b_a4 hbw4 c_a0 c_a1 c_a2 l_a c_x0 c_x1 c_x2 l_x
      obtain ⟨c_a0, c_a1, c_a2⟩ := b_a5.three
      have l_a := b_a5.lt
      obtain ⟨A5, ca5, D5, cd5, rfl, hs5, hd5⟩ := hr5.open_
      have o_au := l_a
      go_wp2_with fail
      have x1 := (Box.new (w5.alloc (.cells #[.bool (rev 0 a).ch, .slice A5 (rev 0 a).sh.length ca5, .slice D5 (rev 0 a).da.length cd5] 24)) 3 #[.int .i64 1, .int .i64 0])
      simp only [World.size_alloc, World.size_setCell] at x1
      have i1 : IsInts ((w5.alloc (.cells #[.bool (rev 0 a).ch, .slice A5 (rev 0 a).sh.length ca5, .slice D5 (rev 0 a).da.length cd5] 24)).alloc (.cells #[.int .i64 1, .int .i64 0] 3)) (.slice (some ⟨w5.heap.size + 1, 0, none⟩) 2 2) [1, 0] := x1.isInts (xs := [1, 0]) (n := 2) rfl (by omega)
      clear x1
      refine (flip_ok' (u := [1, 0]) i1 (hr5.mono (below_two _ _ _)) (rev_ok Ht.out) perm_two HP2.out).mono ?_
      rintro e w6 ⟨r6, rfl, hr6, hb6⟩
      have hbw6 := (hbw5.trans ((below_two w5 _ _).mono hbw5.size)).trans (hb6.mono (hbw5.trans ((below_two w5 _ _).mono hbw5.size)).size)
      have b_a6 := ((b_a5.alloc _).alloc _).below hb6
      have b_xu6 := ((Box.new w5 24 #[.bool (rev 0 a).ch, .slice A5 (rev 0 a).sh.length ca5, .slice D5 (rev 0 a).da.length cd5]).alloc _).below hb6
      have a_u6 := (hr5.mono (below_two _ _ _)).mono hb6
      clear hb6 b_a5 hr5 hbw5 c_a0 c_a1 c_a2 l_a i1
      obtain ⟨c_a0, c_a1, c_a2⟩ := b_a6.three
      have l_a := b_a6.lt
      obtain ⟨c_xu0, c_xu1, c_xu2⟩ := b_xu6.three
      have l_xu := b_xu6.lt
      obtain ⟨A6, ca6, D6, cd6, rfl, hs6, hd6⟩ := hr6.open_
      have fz6 := b_xu6.frozen
      have sc_a0_6 := cellS (q := ⟨w5.heap.size, 0, none⟩) (u := (.bool (flip [1, 0] (rev 0 a)).ch)) c_a0 (by simp; omega)
      have sc_a1_6 := cellS (q := ⟨w5.heap.size, 1, none⟩) (u := (.slice A6 (flip [1, 0] (rev 0 a)).sh.length ca6)) c_a1 (by simp; omega)
      have sc_a2_6 := cellS (q := ⟨w5.heap.size, 2, none⟩) (u := (.slice D6 (flip [1, 0] (rev 0 a)).da.length cd6)) c_a2 (by simp; omega)
      have gb6 := grownBy_three w6 (w5.heap.size) (.bool (flip [1, 0] (rev 0 a)).ch) (.slice A6 (flip [1, 0] (rev 0 a)).sh.length ca6) (.slice D6 (flip [1, 0] (rev 0 a)).da.length cd6)
      have n_a6 := b_a6.grown gb6 (by simp; omega)
      have n_xu6 := ((b_xu6.store 0 (.bool (flip [1, 0] (rev 0 a)).ch)).store 1 (.slice A6 (flip [1, 0] (rev 0 a)).sh.length ca6)).store 2 (.slice D6 (flip [1, 0] (rev 0 a)).da.length cd6)
      simp only [List.setIfInBounds_toArray, List.set_cons_zero, List.set_cons_succ] at n_xu6
      have m_u26 := hr6.laid b_xu6 (.bool (flip [1, 0] (rev 0 a)).ch) (.slice A6 (flip [1, 0] (rev 0 a)).sh.length ca6) (.slice D6 (flip [1, 0] (rev 0 a)).da.length cd6)
      have hbs6 : Below w.heap.size w (((w6.setCell ⟨w5.heap.size, 0, none⟩ (.bool (flip [1, 0] (rev 0 a)).ch)).setCell ⟨w5.heap.size, 1, none⟩ (.slice A6 (flip [1, 0] (rev 0 a)).sh.length ca6)).setCell ⟨w5.heap.size, 2, none⟩ (.slice D6 (flip [1, 0] (rev 0 a)).da.length cd6)) := by have := hbw6.size; go_grown
      go_wp2_with fail
      have x1 := (Box.new (((w6.setCell ⟨w5.heap.size, 0, none⟩ (.bool (flip [1, 0] (rev 0 a)).ch)).setCell ⟨w5.heap.size, 1, none⟩ (.slice A6 (flip [1, 0] (rev 0 a)).sh.length ca6)).setCell ⟨w5.heap.size, 2, none⟩ (.slice D6 (flip [1, 0] (rev 0 a)).da.length cd6)) 3 #[.int .i64 1, .int .i64 0])
      simp only [World.size_alloc, World.size_setCell] at x1
      have i1 : IsInts ((((w6.setCell ⟨w5.heap.size, 0, none⟩ (.bool (flip [1, 0] (rev 0 a)).ch)).setCell ⟨w5.heap.size, 1, none⟩ (.slice A6 (flip [1, 0] (rev 0 a)).sh.length ca6)).setCell ⟨w5.heap.size, 2, none⟩ (.slice D6 (flip [1, 0] (rev 0 a)).da.length cd6)).alloc (.cells #[.int .i64 1, .int .i64 0] 3)) (.slice (some ⟨w6.heap.size, 0, none⟩) 2 2) [1, 0] := x1.isInts (xs := [1, 0]) (n := 2) rfl (by omega)
      clear x1
      refine (flip_ok' (u := [1, 0]) i1 (ha.mono (hbs6.trans ((below_one (((w6.setCell ⟨w5.heap.size, 0, none⟩ (.bool (flip [1, 0] (rev 0 a)).ch)).setCell ⟨w5.heap.size, 1, none⟩ (.slice A6 (flip [1, 0] (rev 0 a)).sh.length ca6)).setCell ⟨w5.heap.size, 2, none⟩ (.slice D6 (flip [1, 0] (rev 0 a)).da.length cd6)) _).mono hbs6.size))) Ht.out perm_two HP2.out).mono ?_
      rintro e w7 ⟨r7, rfl, hr7, hb7⟩
      have hbw7 := (hbs6.trans ((below_one (((w6.setCell ⟨w5.heap.size, 0, none⟩ (.bool (flip [1, 0] (rev 0 a)).ch)).setCell ⟨w5.heap.size, 1, none⟩ (.slice A6 (flip [1, 0] (rev 0 a)).sh.length ca6)).setCell ⟨w5.heap.size, 2, none⟩ (.slice D6 (flip [1, 0] (rev 0 a)).da.length cd6)) _).mono hbs6.size)).trans (hb7.mono (hbs6.trans ((below_one (((w6.setCell ⟨w5.heap.size, 0, none⟩ (.bool (flip [1, 0] (rev 0 a)).ch)).setCell ⟨w5.heap.size, 1, none⟩ (.slice A6 (flip [1, 0] (rev 0 a)).sh.length ca6)).setCell ⟨w5.heap.size, 2, none⟩ (.slice D6 (flip [1, 0] (rev 0 a)).da.length cd6)) _).mono hbs6.size)).size)
      have b_a7 := (n_a6.alloc _).below hb7
      have b_xu7 := (n_xu6.alloc _).below hb7
      have a_u27 := (m_u26.mono (below_one _ _)).mono hb7
      clear hb7 n_a6 n_xu6 m_u26 c_a0 c_a1 c_a2 l_a c_xu0 c_xu1 c_xu2 l_xu sc_a0_6 sc_a1_6 sc_a2_6 fz6 i1
      obtain ⟨c_a0, c_a1, c_a2⟩ := b_a7.three
      have l_a := b_a7.lt
      obtain ⟨c_xu0, c_xu1, c_xu2⟩ := b_xu7.three
      have l_xu := b_xu7.lt
      obtain ⟨A7, ca7, D7, cd7, rfl, hs7, hd7⟩ := hr7.open_
      have o_av := l_a
      have o_uv := l_xu
      go_wp2_with fail
      refine (reverse_ok (k := 1) (hr7.mono (below_one _ _)) HFO.out HL2.out).mono ?_
      rintro e w8 ⟨r8, rfl, hr8, hb8⟩
      have hbw8 := (hbw7.trans ((below_one w7 _).mono hbw7.size)).trans (hb8.mono (hbw7.trans ((below_one w7 _).mono hbw7.size)).size)
      have b_a8 := (b_a7.alloc _).below hb8
      have b_xu8 := (b_xu7.alloc _).below hb8
      have b_xv8 := (Box.new w7 24 #[.bool (flip [1, 0] a).ch, .slice A7 (flip [1, 0] a).sh.length ca7, .slice D7 (flip [1, 0] a).da.length cd7]).below hb8
      have a_u28 := (a_u27.mono (below_one _ _)).mono hb8
      have a_v8 := (hr7.mono (below_one _ _)).mono hb8
      clear hb8 b_a7 b_xu7 a_u27 hr7 hbw7 c_a0 c_a1 c_a2 l_a c_xu0 c_xu1 c_xu2 l_xu
      obtain ⟨c_a0, c_a1, c_a2⟩ := b_a8.three
      have l_a := b_a8.lt
      obtain ⟨c_xu0, c_xu1, c_xu2⟩ := b_xu8.three
      have l_xu := b_xu8.lt
      obtain ⟨c_xv0, c_xv1, c_xv2⟩ := b_xv8.three
      have l_xv := b_xv8.lt
      obtain ⟨A8, ca8, D8, cd8, rfl, hs8, hd8⟩ := hr8.open_
      have fz8 := b_xv8.frozen
      have sc_a0_8 := cellS (q := ⟨w7.heap.size, 0, none⟩) (u := (.bool (rev 1 (flip [1, 0] a)).ch)) c_a0 (by simp; omega)
      have sc_a1_8 := cellS (q := ⟨w7.heap.size, 1, none⟩) (u := (.slice A8 (rev 1 (flip [1, 0] a)).sh.length ca8)) c_a1 (by simp; omega)
      have sc_a2_8 := cellS (q := ⟨w7.heap.size, 2, none⟩) (u := (.slice D8 (rev 1 (flip [1, 0] a)).da.length cd8)) c_a2 (by simp; omega)
      have sc_xu0_8 := cellS (q := ⟨w7.heap.size, 0, none⟩) (u := (.bool (rev 1 (flip [1, 0] a)).ch)) c_xu0 (by simp; omega)
      have sc_xu1_8 := cellS (q := ⟨w7.heap.size, 1, none⟩) (u := (.slice A8 (rev 1 (flip [1, 0] a)).sh.length ca8)) c_xu1 (by simp; omega)
      have sc_xu2_8 := cellS (q := ⟨w7.heap.size, 2, none⟩) (u := (.slice D8 (rev 1 (flip [1, 0] a)).da.length cd8)) c_xu2 (by simp; omega)
      have gb8 := grownBy_three w8 (w7.heap.size) (.bool (rev 1 (flip [1, 0] a)).ch) (.slice A8 (rev 1 (flip [1, 0] a)).sh.length ca8) (.slice D8 (rev 1 (flip [1, 0] a)).da.length cd8)
      have n_a8 := b_a8.grown gb8 (by simp; omega)
      have n_xu8 := b_xu8.grown gb8 (by simp; omega)
      have n_xv8 := ((b_xv8.store 0 (.bool (rev 1 (flip [1, 0] a)).ch)).store 1 (.slice A8 (rev 1 (flip [1, 0] a)).sh.length ca8)).store 2 (.slice D8 (rev 1 (flip [1, 0] a)).da.length cd8)
      simp only [List.setIfInBounds_toArray, List.set_cons_zero, List.set_cons_succ] at n_xv8
      have m_u28 := a_u28.laid b_xv8 (.bool (rev 1 (flip [1, 0] a)).ch) (.slice A8 (rev 1 (flip [1, 0] a)).sh.length ca8) (.slice D8 (rev 1 (flip [1, 0] a)).da.length cd8)
      have m_v28 := hr8.laid b_xv8 (.bool (rev 1 (flip [1, 0] a)).ch) (.slice A8 (rev 1 (flip [1, 0] a)).sh.length ca8) (.slice D8 (rev 1 (flip [1, 0] a)).da.length cd8)
      have hbs8 : Below w.heap.size w (((w8.setCell ⟨w7.heap.size, 0, none⟩ (.bool (rev 1 (flip [1, 0] a)).ch)).setCell ⟨w7.heap.size, 1, none⟩ (.slice A8 (rev 1 (flip [1, 0] a)).sh.length ca8)).setCell ⟨w7.heap.size, 2, none⟩ (.slice D8 (rev 1 (flip [1, 0] a)).da.length cd8)) := by have := hbw8.size; go_grown
      go_wp2_with fail
      refine (alike_nil _ _ _ _ _ m_u28 m_v28).mono ?_
      rintro e w9 ⟨r9, rfl, hr9, hb9⟩
      have e9 : r9 = true := hr9.2 (corner_turn Ht.out H2.out)
      subst e9
      clear hr9
      have hbw9 := hbs8.trans (hb9.mono hbs8.size)
      have b_a9 := n_a8.below hb9
      have b_xu9 := n_xu8.below hb9
      have b_xv9 := n_xv8.below hb9
      have a_u29 := m_u28.mono hb9
      have a_v29 := m_v28.mono hb9
      clear hb9 n_a8 n_xu8 n_xv8 m_u28 m_v28 c_a0 c_a1 c_a2 l_a c_xu0 c_xu1 c_xu2 l_xu c_xv0 c_xv1 c_xv2 l_xv sc_a0_8 sc_a1_8 sc_a2_8 sc_xu0_8 sc_xu1_8 sc_xu2_8 fz8
      obtain ⟨c_a0, c_a1, c_a2⟩ := b_a9.three
      have l_a := b_a9.lt
      obtain ⟨c_xu0, c_xu1, c_xu2⟩ := b_xu9.three
      have l_xu := b_xu9.lt
      obtain ⟨c_xv0, c_xv1, c_xv2⟩ := b_xv9.three
      have l_xv := b_xv9.lt
      go_wp2_with fail
      go_ret
      exact ⟨rfl, by have := hbw9.size; go_grown⟩

end Go.Proofs.Ytfemeaehpjajlaa
