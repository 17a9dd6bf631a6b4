/- The walk of the law PermGroup. Conditions: none. -/
import Derived.Test.YtljhgikhgllpgaaPermOps
import Derived.Test.YtljhgikhgllpgaaSame
namespace Go.Proofs.Ytljhgikhgllpgaa
open Go Go.RowKit Go.Proofs.Ytljhgikhgllpgaa.P

set_option maxRecDepth 100000 in
set_option maxHeartbeats 4000000 in
theorem permGroup_walk (v0 v1 v2 : Value) (p q r : List Int) (w : World) (h0 : IsInts w v0 p) (h1 : IsInts w v1 q) (h2 : IsInts w v2 r) :
    Calls Try.prog 4 #[v0, v1, v2] w (Says w) := by
  go_enter Try.func4, Try.ntmps4
  go_wp2_with fail
  have x1 := Box.new w 3 #[.int .i64 1, .int .i64 2, .int .i64 0]
  have x2 := Box.new (w.alloc (.cells #[.int .i64 1, .int .i64 2, .int .i64 0] 3)) 3 #[.int .i64 1, .int .i64 0, .int .i64 2]
  simp only [World.size_alloc] at x2
  have i1 : IsInts ((w.alloc (.cells #[.int .i64 1, .int .i64 2, .int .i64 0] 3)).alloc (.cells #[.int .i64 1, .int .i64 0, .int .i64 2] 3)) (.slice (some ⟨w.heap.size, 0, none⟩) 3 3) (ints [1, 2, 0]) := (x1.alloc _).isInts (xs := [1, 2, 0]) (n := 3) rfl (by omega)
  have i2 : IsInts ((w.alloc (.cells #[.int .i64 1, .int .i64 2, .int .i64 0] 3)).alloc (.cells #[.int .i64 1, .int .i64 0, .int .i64 2] 3)) (.slice (some ⟨w.heap.size + 1, 0, none⟩) 3 3) (ints [1, 0, 2]) := x2.isInts (xs := [1, 0, 2]) (n := 3) rfl (by omega)
  clear x1 x2
  refine (after_ok _ _ [1, 2, 0] [1, 0, 2] _ i1 i2 ⟨by decide, by decide⟩ ⟨by decide, by decide⟩ rfl (by decide)).mono ?_
  rintro e w1 ⟨r1, rfl, hr1, hb1⟩
  have hbw1 := ((Below.refl w.heap.size w).trans ((below_two w _ _).mono (Below.refl w.heap.size w).size)).trans (hb1.mono ((Below.refl w.heap.size w).trans ((below_two w _ _).mono (Below.refl w.heap.size w).size)).size)
  clear hb1 i1 i2
  rw [show ints (aft [1, 2, 0] [1, 0, 2]) = [2, 1, 0] by decide] at hr1
  go_wp2_with fail
  have bq := Box.new w1 3 #[.int .i64 2, .int .i64 1, .int .i64 0]
  refine (ints_any _ _ [2, 1, 0] [2, 1, 0] _ (hr1.mono (below_one _ _)) (bq.isInts (xs := [2, 1, 0]) (n := 3) rfl (by omega))).mono ?_
  rintro e w2 ⟨r2, rfl, hr2, hb2⟩
  have e2 : r2 = true := hr2.2 rfl
  subst e2
  clear hr2
  have hbw2 := (hbw1.trans ((below_one w1 _).mono hbw1.size)).trans (hb2.mono (hbw1.trans ((below_one w1 _).mono hbw1.size)).size)
  clear hb2 hbw1 bq hr1
  by_cases hE : aftErr p q = 0
  case neg =>
    go_wp2_with fail
    refine (after_bad _ _ p q _ (h0.mono hbw2) (h1.mono hbw2) hE).mono ?_
    rintro e w3 ⟨rfl, hb3⟩
    have hbw3 := hbw2.trans (hb3.mono hbw2.size)
    clear hb3 hbw2
    go_wp2_with fail
    refine (after_some _ _ [] r _ ((Owns.nil _ 0).isInts) (h2.mono hbw3)).mono ?_
    rintro e w4 ⟨r4, ev, rfl, hev, hb4⟩
    have hbw4 := hbw3.trans (hb4.mono hbw3.size)
    clear hb4 hbw3
    rcases hev with rfl | ⟨k, rfl⟩
    all_goals
      go_wp2_with fail
      go_ret
      exact ⟨rfl, by have := hbw4.size; go_grown⟩
  obtain ⟨S, T, rfl, rfl, hS, hT, hl, hn⟩ := aftErr_zero hE
  have hX := aft_perm hS hT hl
  have hn2 : T.length ≤ 4096 := by omega
  have HS := Lib.hid hS
  have HT := Lib.hid hT
  have HL := Lib.hid hl
  have HX := Lib.hid hX
  have HN := Lib.hid hn
  have HN2 := Lib.hid hn2
  clear hE hS hT hl hX hn hn2
  go_wp2_with fail
  refine (after_ok _ _ S T _ (h0.mono hbw2) (h1.mono hbw2) HS.out HT.out HL.out.symm HN.out).mono ?_
  rintro e w3 ⟨r3, rfl, hr3, hb3⟩
  have hbw3 := hbw2.trans (hb3.mono hbw2.size)
  clear hb3 hbw2
  by_cases hE2 : aftErr (ints (aft S T)) r = 0
  case neg =>
    go_wp2_with fail
    refine (after_bad _ _ (ints (aft S T)) r _ hr3 (h2.mono hbw3) hE2).mono ?_
    rintro e w4 ⟨rfl, hb4⟩
    have hbw4 := hbw3.trans (hb4.mono hbw3.size)
    have a_x4 := hr3.mono hb4
    clear hb4 hr3 hbw3
    clear hE2
    go_wp2_with fail
    go_ret
    exact ⟨rfl, by have := hbw4.size; go_grown⟩
  obtain ⟨X, U, hXX, rfl, -, hU, hl2, -⟩ := aftErr_zero hE2
  have hXX := ints_inj hXX
  subst hXX
  rw [aft_length] at hl2
  have hY := aft_perm HT.out hU hl2
  have hTU : ∀ k, k < U.length → U.getD k 0 < T.length := fun k hk => by rw [hl2]; exact hU.lt hk
  have g1 := congrArg ints (aft_assoc (p := S) hTU)
  have g2 := congrArg ints (aft_inv_left HS.out (q := T) fun k hk => by rw [HL.out]; exact HT.out.lt hk)
  have g3 := congrArg ints (inv_aft HS.out HT.out HL.out)
  have HU := Lib.hid hU
  have HL2 := Lib.hid hl2
  have HY := Lib.hid hY
  have G1 := Lib.hid g1
  have G2 := Lib.hid g2
  have G3 := Lib.hid g3
  clear hE2 hU hl2 hY hTU g1 g2 g3
  go_wp2_with fail
  refine (after_ok _ _ (aft S T) U _ hr3 (h2.mono hbw3) HX.out HU.out (by (try simp only [aft_length, inv_length]); have := HL.out; have := HL2.out; omega) (by (try simp only [aft_length, inv_length]); have := HL.out; have := HN.out; omega)).mono ?_
  rintro e w4 ⟨r4, rfl, hr4, hb4⟩
  have hbw4 := hbw3.trans (hb4.mono hbw3.size)
  have a_x4 := hr3.mono hb4
  clear hb4 hr3 hbw3
  go_wp2_with fail
  refine (after_ok _ _ T U _ (h1.mono hbw4) (h2.mono hbw4) HT.out HU.out (by (try simp only [aft_length, inv_length]); have := HL.out; have := HL2.out; omega) (by (try simp only [aft_length, inv_length]); have := HL.out; have := HN.out; omega)).mono ?_
  rintro e w5 ⟨r5, rfl, hr5, hb5⟩
  have hbw5 := hbw4.trans (hb5.mono hbw4.size)
  have a_x5 := a_x4.mono hb5
  have a_y5 := hr4.mono hb5
  clear hb5 a_x4 hr4 hbw4
  go_wp2_with fail
  refine (after_ok _ _ S (aft T U) _ (h0.mono hbw5) hr5 HS.out HY.out (by (try simp only [aft_length, inv_length]); have := HL.out; have := HL2.out; omega) (by (try simp only [aft_length, inv_length]); have := HL.out; have := HN.out; omega)).mono ?_
  rintro e w6 ⟨r6, rfl, hr6, hb6⟩
  have hbw6 := hbw5.trans (hb6.mono hbw5.size)
  have a_x6 := a_x5.mono hb6
  have a_y6 := a_y5.mono hb6
  have a_u6 := hr5.mono hb6
  clear hb6 a_x5 a_y5 hr5 hbw5
  go_wp2_with fail
  refine (list_nil _ _ _ _ _ a_y6 hr6).mono ?_
  rintro e w7 ⟨r7, rfl, hr7, hb7⟩
  have e7 : r7 = true := hr7.2 (G1.out)
  subst e7
  clear hr7
  have hbw7 := hbw6.trans (hb7.mono hbw6.size)
  have a_x7 := a_x6.mono hb7
  have a_y7 := a_y6.mono hb7
  have a_u7 := a_u6.mono hb7
  have a_v7 := hr6.mono hb7
  clear hb7 a_x6 a_y6 a_u6 hr6 hbw6
  go_wp2_with fail
  refine (inverse_ok _ S _ (h0.mono hbw7) HS.out (by (try simp only [aft_length, inv_length]); have := HL.out; have := HN.out; omega)).mono ?_
  rintro e w8 ⟨r8, rfl, hr8, hb8⟩
  have hbw8 := hbw7.trans (hb8.mono hbw7.size)
  have a_x8 := a_x7.mono hb8
  clear hb8 a_x7 hbw7
  go_wp2_with fail
  refine (after_ok _ _ (inv S) (aft S T) _ hr8 a_x8 (inv_perm HS.out) HX.out (by (try simp only [aft_length, inv_length]); have := HL.out; have := HL2.out; omega) (by (try simp only [aft_length, inv_length]); have := HL.out; have := HN.out; omega)).mono ?_
  rintro e w9 ⟨r9, rfl, hr9, hb9⟩
  have hbw9 := hbw8.trans (hb9.mono hbw8.size)
  have a_x9 := a_x8.mono hb9
  have a_i9 := hr8.mono hb9
  clear hb9 a_x8 hr8 hbw8
  go_wp2_with fail
  refine (list_nil _ _ _ _ _ hr9 (h1.mono hbw9)).mono ?_
  rintro e w10 ⟨r10, rfl, hr10, hb10⟩
  have e10 : r10 = true := hr10.2 (G2.out)
  subst e10
  clear hr10
  have hbw10 := hbw9.trans (hb10.mono hbw9.size)
  have a_x10 := a_x9.mono hb10
  have a_i10 := a_i9.mono hb10
  have a_z10 := hr9.mono hb10
  clear hb10 a_x9 a_i9 hr9 hbw9
  go_wp2_with fail
  refine (inverse_ok _ T _ (h1.mono hbw10) HT.out (by (try simp only [aft_length, inv_length]); have := HL.out; have := HN.out; omega)).mono ?_
  rintro e w11 ⟨r11, rfl, hr11, hb11⟩
  have hbw11 := hbw10.trans (hb11.mono hbw10.size)
  have a_x11 := a_x10.mono hb11
  have a_i11 := a_i10.mono hb11
  clear hb11 a_x10 a_i10 hbw10
  go_wp2_with fail
  refine (inverse_ok _ (aft S T) _ a_x11 HX.out (by (try simp only [aft_length, inv_length]); have := HL.out; have := HN.out; omega)).mono ?_
  rintro e w12 ⟨r12, rfl, hr12, hb12⟩
  have hbw12 := hbw11.trans (hb12.mono hbw11.size)
  have a_x12 := a_x11.mono hb12
  have a_i12 := a_i11.mono hb12
  have a_j12 := hr11.mono hb12
  clear hb12 a_x11 a_i11 hr11 hbw11
  go_wp2_with fail
  refine (after_ok _ _ (inv T) (inv S) _ a_j12 a_i12 (inv_perm HT.out) (inv_perm HS.out) (by (try simp only [aft_length, inv_length]); have := HL.out; have := HL2.out; omega) (by (try simp only [aft_length, inv_length]); have := HL.out; have := HN.out; omega)).mono ?_
  rintro e w13 ⟨r13, rfl, hr13, hb13⟩
  have hbw13 := hbw12.trans (hb13.mono hbw12.size)
  have a_x13 := a_x12.mono hb13
  have a_i13 := a_i12.mono hb13
  have a_j13 := a_j12.mono hb13
  have a_w13 := hr12.mono hb13
  clear hb13 a_x12 a_i12 a_j12 hr12 hbw12
  go_wp2_with fail
  refine (list_nil _ _ _ _ _ a_w13 hr13).mono ?_
  rintro e w14 ⟨r14, rfl, hr14, hb14⟩
  have e14 : r14 = true := hr14.2 (G3.out)
  subst e14
  clear hr14
  have hbw14 := hbw13.trans (hb14.mono hbw13.size)
  have a_x14 := a_x13.mono hb14
  have a_i14 := a_i13.mono hb14
  have a_j14 := a_j13.mono hb14
  have a_w14 := a_w13.mono hb14
  have a_o14 := hr13.mono hb14
  clear hb14 a_x13 a_i13 a_j13 a_w13 hr13 hbw13
  go_wp2_with fail
  go_ret
  exact ⟨rfl, by have := hbw14.size; go_grown⟩

end Go.Proofs.Ytljhgikhgllpgaa
