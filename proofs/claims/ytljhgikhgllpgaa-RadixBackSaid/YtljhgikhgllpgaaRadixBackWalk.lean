/- The walk of the law RadixBack. Conditions: none. -/
import Derived.Test.YtljhgikhgllpgaaDigits
import Derived.Test.YtljhgikhgllpgaaDigitsBack
import Derived.Test.YtljhgikhgllpgaaCompare
import Derived.Test.YtljhgikhgllpgaaProperWalk
import Derived.Test.YtljhgikhgllpgaaSame
namespace Go.Proofs.Ytljhgikhgllpgaa
open Go Go.RowKit Go.Proofs.Ytljhgikhgllpgaa.P

set_option maxRecDepth 100000 in
set_option maxHeartbeats 4000000 in
theorem radixBack_walk (v0 v1 v2 : Value) (bs d e : List Int) (w : World) (h0 : IsInts w v0 bs) (h1 : IsInts w v1 d) (h2 : IsInts w v2 e) :
    Calls Try.prog 7 #[v0, v1, v2] w (Says w) := by
  obtain ⟨B, cb, rfl, b1, b2, b3, -, H0⟩ := h0.open_
  obtain ⟨D, cd, rfl, d1, d2, d3, -, H1⟩ := h1.open_
  obtain ⟨E, ce, rfl, e1, e2, e3, -, H2⟩ := h2.open_
  clear h0 h1 h2
  go_enter Try.func7, Try.ntmps7
  go_wp2_with fail
  have x1 := Box.new w 3 #[.int .i64 24, .int .i64 60, .int .i64 60]
  have x2 := Box.new (w.alloc (.cells #[.int .i64 24, .int .i64 60, .int .i64 60] 3)) 3 #[.int .i64 1, .int .i64 2, .int .i64 3]
  simp only [World.size_alloc] at x2
  have i1 := (x1.alloc (.cells #[.int .i64 1, .int .i64 2, .int .i64 3] 3)).isInts (xs := [24, 60, 60]) (n := 3) rfl (by omega)
  have i2 := x2.isInts (xs := [1, 2, 3]) (n := 3) rfl (by omega)
  refine (value_ok _ _ [24, 60, 60] [1, 2, 3] _ i1 i2 (by simp) rfl).mono ?_
  rintro en w1 ⟨rfl, hb1⟩
  have hbw := (below_two w _ _).trans (hb1.mono (below_two w _ _).size)
  clear hb1 x1 x2 i1 i2
  rw [show wrap64 (hv [24, 60, 60] [1, 2, 3]) = 3723 by simp [hv, wrap64]]
  go_wp2_with fail
  refine (proper_ok _ _ bs d _ (H0.mono hbw) (H1.mono hbw)).mono ?_
  rintro en w2 ⟨r, rfl, hr, hb2⟩
  have hbw2 := hbw.trans (hb2.mono hbw.size)
  clear hb2 hbw
  cases r
  case false =>
    clear hr
    go_wp2_with fail
    go_ret
    exact ⟨rfl, by have := hbw2.size; go_grown⟩
  have hp := hr rfl
  clear hr
  have hl1 : d.length = bs.length := hp.1.1
  have hl2 : bs.length ≤ 4096 := by have := hp.2.1; omega
  obtain ⟨p1, p2, p3⟩ := radix_back hp
  have HP := Lib.hid hp
  have HL := Lib.hid hl1
  have P1 := Lib.hid p1
  have P2 := Lib.hid p2
  have P3 := Lib.hid p3
  clear hp hl1 p1 p2 p3
  go_wp2_with fail
  refine (value_ok _ _ bs d _ (H0.mono hbw2) (H1.mono hbw2) hl2 HL.out).mono ?_
  rintro en w3 ⟨rfl, hb3⟩
  have hbw3 := hbw2.trans (hb3.mono hbw2.size)
  clear hb3 hbw2
  rw [P1.out]
  obtain ⟨V, hV⟩ : ∃ V, V = hv bs d := ⟨_, rfl⟩
  rw [← hV]
  have HV := Lib.hid hV
  clear hV
  have hv0 : ¬ V < 0 := by rw [HV.out]; exact Int.not_lt.2 P2.out
  go_wp2_with fail
  refine (digits_ok _ bs V _ (H0.mono hbw3) hl2).mono ?_
  rintro en w4 ⟨r4, rfl, i4, hb4⟩
  have hbw4 := hbw3.trans (hb4.mono hbw3.size)
  clear hb4 hbw3
  rw [HV.out, P3.out] at i4
  obtain ⟨R4, c4, rfl, -, -, -, -, I4⟩ := i4.open_
  clear i4
  go_wp2_with fail
  refine (list_nil _ _ d d _ I4 (H1.mono hbw4)).mono ?_
  rintro en w5 ⟨b, rfl, hb, hb5⟩
  have hbt : b = true := hb.2 rfl
  subst hbt
  have hbw5 := hbw4.trans (hb5.mono hbw4.size)
  clear hb hb5 hbw4 I4
  go_wp2_with fail
  refine (proper_ok _ _ bs e _ (H0.mono hbw5) (H2.mono hbw5)).mono ?_
  rintro en w6 ⟨r, rfl, hr, hb6⟩
  have hbw6 := hbw5.trans (hb6.mono hbw5.size)
  clear hb6 hbw5
  cases r
  case false =>
    clear hr
    go_wp2_with fail
    go_ret
    exact ⟨rfl, by have := hbw6.size; go_grown⟩
  have hp := hr rfl
  clear hr
  have hl3 : e.length = bs.length := hp.1.1
  have hl4 : e.length = d.length := hl3.trans HL.out.symm
  obtain ⟨q1, -, -⟩ := radix_back hp
  have ho := hv_order HP.out.1 hp.1
  have HL2 := Lib.hid hl3
  have HL4 := Lib.hid hl4
  have Q1 := Lib.hid q1
  have HO := Lib.hid ho
  clear hp hl3 hl4 q1 ho
  go_wp2_with fail
  refine (value_ok _ _ bs e _ (H0.mono hbw6) (H2.mono hbw6) hl2 HL2.out).mono ?_
  rintro en w7 ⟨rfl, hb7⟩
  have hbw7 := hbw6.trans (hb7.mono hbw6.size)
  clear hb7 hbw6
  rw [Q1.out]
  go_wp2_with fail
  refine (compare_ok _ _ d e _ (H1.mono hbw7) (H2.mono hbw7) HL4.out).mono ?_
  rintro en w8 ⟨rfl, hb8⟩
  have hbw8 := hbw7.trans (hb8.mono hbw7.size)
  clear hb8 hbw7
  have hfin : decide (V < hv bs e) = decide (cmp d e < 0) := by rw [HV.out]; exact decide_eq_decide.2 HO.out
  go_wp2_with fail
  go_ret
  exact ⟨by simp [hfin], by have := hbw8.size; go_grown⟩

end Go.Proofs.Ytljhgikhgllpgaa
