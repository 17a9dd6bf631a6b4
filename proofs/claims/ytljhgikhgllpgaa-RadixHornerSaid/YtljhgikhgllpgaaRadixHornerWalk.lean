/- The walk of the law RadixHorner. Conditions: none. -/
import Derived.Test.YtljhgikhgllpgaaDigits
import Derived.Test.YtljhgikhgllpgaaList
import Derived.Test.YtljhgikhgllpgaaAlike
namespace Go.Proofs.Ytljhgikhgllpgaa
open Go Go.RowKit Go.Proofs.Ytljhgikhgllpgaa.P

set_option maxRecDepth 100000 in
set_option maxHeartbeats 4000000 in
theorem radixHorner_walk (v0 v1 v2 v3 v4 : Value) (b c d e f : List Int) (w : World) (h0 : IsInts w v0 b) (h1 : IsInts w v1 c) (h2 : IsInts w v2 d) (h3 : IsInts w v3 e) (h4 : IsInts w v4 f) :
    Calls Try.prog 3 #[v0, v1, v2, v3, v4] w (Says w) := by
  obtain ⟨B, cb, rfl, b1, b2, b3, -, H0⟩ := h0.open_
  obtain ⟨C, cc, rfl, c1, c2, c3, EC, H1⟩ := h1.open_
  obtain ⟨D, cd, rfl, d1, d2, d3, -, H2⟩ := h2.open_
  obtain ⟨E, ce, rfl, e1, e2, e3, EE, H3⟩ := h3.open_
  obtain ⟨F, cf, rfl, f1, f2, f3, EF, H4⟩ := h4.open_
  clear h0 h1 h2 h3 h4
  go_enter Try.func3, Try.ntmps3
  go_wp2_with fail
  have x1 := Box.new w 3 #[.int .i64 10, .int .i64 10]
  have x2 := Box.new (w.alloc (.cells #[.int .i64 10, .int .i64 10] 3)) 3 #[.int .i64 4, .int .i64 2]
  simp only [World.size_alloc] at x2
  refine (value_ok _ _ [10, 10] [4, 2] _ ((x1.alloc _).isInts rfl (by simp)) (x2.isInts rfl (by simp)) (by simp) (by simp)).mono ?_
  rintro en w1 ⟨rfl, hb1⟩
  have hbw := (below_two w _ _).trans (hb1.mono (below_two w _ _).size)
  clear hb1 x1 x2
  rw [show wrap64 (hv [10, 10] [4, 2]) = 42 by simp [hv, wrap64]]
  rcases Nat.lt_or_ge 2000 b.length with g1 | g1
  · have g1' : decide ((2000 : Int) < b.length) = true := by simp; omega
    go_wp2_with fail
    go_ret
    exact ⟨rfl, by have := hbw.size; go_grown⟩
  have g1' : decide ((2000 : Int) < b.length) = false := by simp; omega
  rcases Nat.lt_or_ge 2000 c.length with g2 | g2
  · have g2' : decide ((2000 : Int) < c.length) = true := by simp; omega
    go_wp2_with fail
    go_ret
    exact ⟨rfl, by have := hbw.size; go_grown⟩
  have g2' : decide ((2000 : Int) < c.length) = false := by simp; omega
  by_cases g3 : d.length = b.length
  case neg =>
    have g3' : ((d.length : Int) != (b.length : Int)) = true := by simp; omega
    go_wp2_with fail
    go_ret
    exact ⟨rfl, by have := hbw.size; go_grown⟩
  have g3' : ((d.length : Int) != (b.length : Int)) = false := by simp; omega
  by_cases g4 : e.length = c.length
  case neg =>
    have g4' : ((e.length : Int) != (c.length : Int)) = true := by simp; omega
    go_wp2_with fail
    go_ret
    exact ⟨rfl, by have := hbw.size; go_grown⟩
  have g4' : ((e.length : Int) != (c.length : Int)) = false := by simp; omega
  have L1 : b.length ≤ 4096 := by omega
  have L2 : c.length ≤ 4096 := by omega
  have L3 : b.length + c.length ≤ 4096 := by omega
  have L4 : d.length + e.length = b.length + c.length := by omega
  have M1 : b.length + c.length ≤ 1000000 := by omega
  have M2 : d.length + e.length ≤ 1000000 := by omega
  have M3 : (b ++ c).length ≤ 4096 := by simp; omega
  have M4 : (d ++ e).length = (b ++ c).length := by simp; omega
  clear L3 L4
  rw [g3] at H2
  rw [g4] at H3
  go_wp2_with fail
  refine (value_ok _ _ b d _ (H0.mono hbw) (H2.mono hbw) L1 g3).mono ?_
  rintro en w2 ⟨rfl, hb2⟩
  have hbw2 := hbw.trans (hb2.mono hbw.size)
  clear hb2 hbw
  go_wp2_with fail
  refine (value_ok _ _ c e _ (H1.mono hbw2) (H3.mono hbw2) L2 g4).mono ?_
  rintro en w3 ⟨rfl, hb3⟩
  have hbw3 := hbw2.trans (hb3.mono hbw2.size)
  clear hb3 hbw2
  go_wp2_with fail
  refine (joined_any _ _ b c _ (H0.mono hbw3) (H1.mono hbw3) M1).mono ?_
  rintro en w4 ⟨A4, c4, rfl, o4, hb4⟩
  have hbw4 := hbw3.trans (hb4.mono hbw3.size)
  clear hb4 hbw3
  go_wp2_with fail
  refine (joined_any _ _ d e _ (H2.mono hbw4) (H3.mono hbw4) M2).mono ?_
  rintro en w5 ⟨A5, c5, rfl, o5, hb5⟩
  have hbw5 := hbw4.trans (hb5.mono hbw4.size)
  have i4 := (o4.below hb5).isInts
  have i5 := o5.isInts
  simp only [List.length_append, g3, g4] at i4 i5
  clear hb5 hbw4 o4 o5
  go_wp2_with fail
  refine (value_ok _ _ (b ++ c) (d ++ e) _ i4 i5 M3 M4).mono ?_
  rintro en w6 ⟨rfl, hb6⟩
  have hbw6 := hbw5.trans (hb6.mono hbw5.size)
  clear hb6 hbw5 i4 i5
  rw [horner g3 g4]
  obtain ⟨X, hX⟩ : ∃ X, X = wrap64 (hv b d) := ⟨_, rfl⟩
  obtain ⟨Y, hY⟩ : ∃ Y, Y = wrap64 (hv c e) := ⟨_, rfl⟩
  obtain ⟨P, hP⟩ : ∃ P, P = wrap64 (prd c) := ⟨_, rfl⟩
  rw [← hX, ← hY, ← hP]
  go_wp2_with fail
  go_loopw [20, 19] (fun i n wr => ∃ k : Nat, k ≤ c.length ∧ i = .int .i64 k ∧ n = .int .i64 (wrap64 (prd (c.take k))) ∧ Below w.heap.size w wr)
    (fun i _ _ => c.length - (intOf i).toNat)
  case atStart => exact ⟨0, Nat.zero_le _, rfl, by simp [prd, wrap64], by have := hbw6.size; go_grown⟩
  case round =>
    obtain ⟨k, hk, rfl, rfl, hbl⟩ := hrel
    rcases Nat.lt_or_ge k c.length with hlt | hge
    · obtain ⟨ad, x, rfl, hx, hal, hcx⟩ := Elems.later EC hbl hlt
      have hn : wrap64 (wrap64 (prd (c.take k)) * x) = wrap64 (prd (c.take (k + 1))) := by
        rw [prd_take hx, wrap_mul_l]
      have hn' := Lib.hid hn
      clear hx hn
      go_wp2_with fail
      go_roundw
      case rel => exact ⟨k + 1, by omega, by go_num, congrArg _ hn'.out, by go_grown⟩
      case measure => simp [intOf]; omega
    · have hkk : k = c.length := by omega
      subst hkk
      rw [List.take_length, ← hP]
      by_cases g5 : f.length = c.length
      case neg =>
        have g5' : ((f.length : Int) != (c.length : Int)) = true := by simp; omega
        go_wp2_with fail
        go_ret
        exact ⟨rfl, by have := hbl.size; go_grown⟩
      have g5' : ((f.length : Int) != (c.length : Int)) = false := by simp; omega
      have hmk := run_make_list c.length (by omega)
      have hro := Row.made wr c.length
      obtain ⟨g, hg⟩ : ∃ g, g = wr.heap.size := ⟨_, rfl⟩
      have hgl : w.heap.size ≤ g := by have := hbl.size; omega
      have hbg := hbl.alloc hbl.size (.cells (madeCells #[.int .i64 0] c.length) 3)
      rw [g5] at H4
      rw [← hg] at hro
      go_wp2_with fail
      rw [← hg]
      clear hg
      have hz : SumsTo 0 e f (List.replicate c.length 0) := SumsTo.zero _ _ _
      have hl0 : (List.replicate c.length (0 : Int)).length = c.length := by simp
      go_loopw [22] (fun i wr => ∃ (k : Nat) (S : List Int), k ≤ c.length ∧ i = .int .i64 k ∧ S.length = c.length ∧ SumsTo k e f S ∧ Row wr g S ∧ Below w.heap.size w wr)
        (fun i _ => c.length - (intOf i).toNat)
      case atStart => exact ⟨0, _, Nat.zero_le _, rfl, hl0, hz, hro, hbg⟩
      case round =>
        clear hro hbg hz hl0
        obtain ⟨k, S, hk, rfl, hl, hS, hro, hbl⟩ := hrel
        rcases Nat.lt_or_ge k c.length with hlt | hge
        · obtain ⟨ad, x, rfl, hx, hal, hcx⟩ := Elems.later EE hbl (k := k) (by omega)
          obtain ⟨af, y, rfl, hy, haf, hcy⟩ := Elems.later EF hbl (k := k) (by omega)
          have hgc := hro.at_ (List.getElem?_eq_getElem (show k < S.length by omega))
          have hgf := Box.frozen hro k
          have hglt := Box.lt hro
          have hx' := Lib.hid hx
          have hy' := Lib.hid hy
          have hS' := Lib.hid hS
          clear hx hy hS
          go_wp2_with fail
          go_region
          go_wp2_with fail
          go_roundw
          case rel => exact ⟨k + 1, S.set k (wrap64 (x + y)), by omega, by go_num, by simp [hl], hS'.out.succ hx'.out hy'.out (by omega), hro.store k _, by have := hbl.size; go_grown⟩
          case measure => simp [intOf]; omega
        · have hkk : k = c.length := by omega
          subst hkk
          have i5 := hro.isInts hl.symm (by omega)
          have hsum : wrap64 (hv c S) = wrap64 (wrap64 (hv c e) + wrap64 (hv c f)) := horner_sum g4 g5 hl fun k x y hx hy => hS k x y (by have := (List.getElem?_eq_some_iff.1 hy).1; omega) hx hy
          have hs' := Lib.hid hsum
          have hl' := Lib.hid hl
          clear hS hsum hro hl
          go_wp2_with fail
          refine (value_ok _ _ c f _ (H1.mono hbl) (H4.mono hbl) L2 g5).mono ?_
          rintro en w7 ⟨rfl, hb7⟩
          have hbw7 := hbl.trans (hb7.mono hbl.size)
          have i7 := i5.mono hb7
          clear hb7 i5
          go_wp2_with fail
          refine (value_ok _ _ c S _ (H1.mono hbw7) i7 L2 hl'.out).mono ?_
          rintro en w8 ⟨rfl, hb8⟩
          have hbw8 := hbw7.trans (hb8.mono hbw7.size)
          clear hb8 i7
          rw [hs'.out]
          go_wp2_with fail
          go_ret
          exact ⟨rfl, by have := hbw8.size; go_grown⟩

end Go.Proofs.Ytljhgikhgllpgaa
