/- The walk of the law CutBack. Conditions: none. -/
import Derived.Test.YtfemeaehpjajlaaBackPlain
import Derived.Test.YtfemeaehpjajlaaArrOf
import Derived.Test.YtfemeaehpjajlaaStore
import Derived.Test.YtfemeaehpjajlaaMore
import Derived.Test.YtfemeaehpjajlaaAlike
import Derived.Test.YtfemeaehpjajlaaMake
import Derived.Test.YtfemeaehpjajlaaBase
import Derived.Test.YtfemeaehpjajlaaHelp
import Derived.Test.YtfemeaehpjajlaaPair
namespace Go.Proofs.Ytfemeaehpjajlaa
open Go Go.RowKit Go.Proofs.Ytfemeaehpjajlaa.P

set_option maxRecDepth 100000 in
set_option maxHeartbeats 4000000 in
theorem cutBack_walk (axis : Int) (vm va : Value) (m : List Int) (a : Arr) (w : World) (hm : IsInts w vm m) (ha : IsArr w va a) :
    Calls Try.prog 14 #[vm, .int .i64 axis, va] w (Says w) := by
  obtain ⟨A, ca, D, da, rfl, -, -⟩ := ha.open_
  obtain ⟨B, cb, rfl, b1, b2, b3, EM0, hm⟩ := hm.open_
  have EM := Lib.hid EM0
  clear EM0
  go_enter Try.func14, Try.ntmps14
  go_wp2_with fail
  have x1 := (Box.new (w.alloc (.cells #[.bool a.ch, .slice A a.sh.length ca, .slice D a.da.length da] 24)) 3 #[.int .i64 1, .int .i64 0, .int .i64 1])
  simp only [World.size_alloc, World.size_setCell] at x1
  have i1 : IsInts (((w.alloc (.cells #[.bool a.ch, .slice A a.sh.length ca, .slice D a.da.length da] 24)).alloc (.cells #[.int .i64 1, .int .i64 0, .int .i64 1] 3)).alloc (.cells #[.int .i64 5, .int .i64 6] 3)) (.slice (some ⟨w.heap.size + 1, 0, none⟩) 3 3) [1, 0, 1] := (x1.alloc _).isInts (xs := [1, 0, 1]) (n := 3) rfl (by omega)
  have x2 := (Box.new ((w.alloc (.cells #[.bool a.ch, .slice A a.sh.length ca, .slice D a.da.length da] 24)).alloc (.cells #[.int .i64 1, .int .i64 0, .int .i64 1] 3)) 3 #[.int .i64 5, .int .i64 6])
  simp only [World.size_alloc, World.size_setCell] at x2
  have i2 : IsInts (((w.alloc (.cells #[.bool a.ch, .slice A a.sh.length ca, .slice D a.da.length da] 24)).alloc (.cells #[.int .i64 1, .int .i64 0, .int .i64 1] 3)).alloc (.cells #[.int .i64 5, .int .i64 6] 3)) (.slice (some ⟨w.heap.size + 1 + 1, 0, none⟩) 2 2) [5, 6] := x2.isInts (xs := [5, 6]) (n := 2) rfl (by omega)
  clear x1 x2
  refine (vec_any _ [5, 6] _ i2).mono ?_
  rintro e w1 ⟨r1, rfl, hr1, hb1⟩
  have l1 := i1.mono hb1
  clear i1
  have hbw1 := ((Below.refl w.heap.size w).trans ((below_three w _ _ _).mono (Below.refl w.heap.size w).size)).trans (hb1.mono ((Below.refl w.heap.size w).trans ((below_three w _ _ _).mono (Below.refl w.heap.size w).size)).size)
  have b_a1 := (((Box.new w 24 #[.bool a.ch, .slice A a.sh.length ca, .slice D a.da.length da]).alloc _).alloc _).below hb1
  clear hb1 i2
  obtain ⟨c_a0, c_a1, c_a2⟩ := b_a1.three
  have l_a := b_a1.lt
  go_wp2_with fail
  refine ((show Calls _ _ _ _ (GivesOk (spread [1, 0, 1] (0 : Int).toNat ⟨false, [2], [5, 6]⟩) _) from (spread_told (axis := 0) l1 hr1).mono fun e w' h => h.ok (by decide +kernel))).mono ?_
  rintro e w2 ⟨r2, rfl, hr2, hb2⟩
  have hbw2 := hbw1.trans (hb2.mono hbw1.size)
  have b_a2 := b_a1.below hb2
  clear hb2 b_a1 hbw1 c_a0 c_a1 c_a2 l_a hr1 l1
  obtain ⟨c_a0, c_a1, c_a2⟩ := b_a2.three
  have l_a := b_a2.lt
  obtain ⟨A2, ca2, D2, cd2, rfl, hs2, hd2⟩ := hr2.open_
  go_wp2_with fail
  have bq := Box.new (w2.alloc (.cells #[.bool ((spread [1, 0, 1] (0 : Int).toNat ⟨false, [2], [5, 6]⟩)).ch, .slice A2 ((spread [1, 0, 1] (0 : Int).toNat ⟨false, [2], [5, 6]⟩)).sh.length ca2, .slice D2 ((spread [1, 0, 1] (0 : Int).toNat ⟨false, [2], [5, 6]⟩)).da.length cd2] 24)) 3 #[.int .i64 5, .int .i64 0, .int .i64 6]
  rw [World.size_alloc] at bq
  refine (ints_any _ _ _ [5, 0, 6] _ (hd2.mono (below_two _ _ _)) (bq.isInts rfl (by simp))).mono ?_
  rintro e w3 ⟨r3, rfl, hr3, hb3⟩
  have e3 : r3 = true := hr3.2 (by first | decide | decide +kernel)
  subst e3
  clear hr3 hs2 hd2
  clear hr2
  have hbw3 := (hbw2.trans ((below_two w2 _ _).mono hbw2.size)).trans (hb3.mono (hbw2.trans ((below_two w2 _ _).mono hbw2.size)).size)
  have b_a3 := ((b_a2.alloc _).alloc _).below hb3
  clear hb3 b_a2 hbw2 c_a0 c_a1 c_a2 l_a bq
  obtain ⟨c_a0, c_a1, c_a2⟩ := b_a3.three
  have l_a := b_a3.lt
  by_cases hE : spreadErr m axis a = 0
  case neg =>
    have HE := Lib.hid hE
    clear hE
    go_wp2_with fail
    refine ((spread_told (hm.mono hbw3) (ha.mono hbw3)).mono fun e w' h => h.bad HE.out).mono ?_
    rintro e w4 ⟨rfl, hb4⟩
    have hbw4 := hbw3.trans (hb4.mono hbw3.size)
    have b_a4 := b_a3.below hb4
    clear hb4 b_a3 hbw3 c_a0 c_a1 c_a2 l_a
    obtain ⟨c_a0, c_a1, c_a2⟩ := b_a4.three
    have l_a := b_a4.lt
    go_wp2_with fail
    go_ret
    exact ⟨rfl, by have := hbw4.size; go_grown⟩
  obtain ⟨t, k, ho, rfl, hk, hM, hc, hg⟩ := spreadErr_zero hE
  have PL := Lib.hid (back_plain ho hk hM hc hg)
  have PM := Lib.hid hM
  have hm4 := PL.out.2.2.2.2.2.2
  have HE := Lib.hid hE
  clear hE ho hk hM hc hg
  go_wp2_with fail
  refine ((show Calls _ _ _ _ (GivesOk (spread m k a) _) from (spread_toldN (hm.mono hbw3) (ha.mono hbw3)).mono fun e w' h => h.ok HE.out)).mono ?_
  rintro e w4 ⟨r4, rfl, hr4, hb4⟩
  have hbw4 := hbw3.trans (hb4.mono hbw3.size)
  have b_a4 := b_a3.below hb4
  clear hb4 b_a3 hbw3 c_a0 c_a1 c_a2 l_a
  obtain ⟨c_a0, c_a1, c_a2⟩ := b_a4.three
  have l_a := b_a4.lt
  obtain ⟨A4, ca4, D4, cd4, rfl, hs4, hd4⟩ := hr4.open_
  go_wp2_with fail
  refine ((show Calls _ _ _ _ (GivesOk (keep m k (spread m k a)) _) from (keep_toldN (hm.mono (hbw4.trans ((below_one w4 _).mono hbw4.size))) (hr4.mono (below_one _ _))).mono fun e w' h => h.ok PL.out.1)).mono ?_
  rintro e w5 ⟨r5, rfl, hr5, hb5⟩
  have hbw5 := (hbw4.trans ((below_one w4 _).mono hbw4.size)).trans (hb5.mono (hbw4.trans ((below_one w4 _).mono hbw4.size)).size)
  have b_a5 := (b_a4.alloc _).below hb5
  have b_xx5 := (Box.new w4 24 #[.bool (spread m k a).ch, .slice A4 (spread m k a).sh.length ca4, .slice D4 (spread m k a).da.length cd4]).below hb5
  have a_x5 := (hr4.mono (below_one _ _)).mono hb5
  clear hb5 b_a4 hr4 hbw4 c_a0 c_a1 c_a2 l_a
  obtain ⟨c_a0, c_a1, c_a2⟩ := b_a5.three
  have l_a := b_a5.lt
  obtain ⟨c_xx0, c_xx1, c_xx2⟩ := b_xx5.three
  have l_xx := b_xx5.lt
  obtain ⟨A5, ca5, D5, cd5, rfl, hs5, hd5⟩ := hr5.open_
  go_wp2_with fail
  refine (alike_nil _ _ _ _ _ (hr5.mono (below_one _ _)) (ha.mono (hbw5.trans ((below_one w5 _).mono hbw5.size)))).mono ?_
  rintro e w6 ⟨r6, rfl, hr6, hb6⟩
  have e6 : r6 = true := hr6.2 (PL.out.2.2.1)
  subst e6
  clear hr6
  have hbw6 := (hbw5.trans ((below_one w5 _).mono hbw5.size)).trans (hb6.mono (hbw5.trans ((below_one w5 _).mono hbw5.size)).size)
  have b_a6 := (b_a5.alloc _).below hb6
  have b_xx6 := (b_xx5.alloc _).below hb6
  have b_xy6 := (Box.new w5 24 #[.bool (keep m k (spread m k a)).ch, .slice A5 (keep m k (spread m k a)).sh.length ca5, .slice D5 (keep m k (spread m k a)).da.length cd5]).below hb6
  have a_x6 := (a_x5.mono (below_one _ _)).mono hb6
  have a_y6 := (hr5.mono (below_one _ _)).mono hb6
  clear hb6 b_a5 b_xx5 a_x5 hr5 hbw5 c_a0 c_a1 c_a2 l_a c_xx0 c_xx1 c_xx2 l_xx
  obtain ⟨c_a0, c_a1, c_a2⟩ := b_a6.three
  have l_a := b_a6.lt
  obtain ⟨c_xx0, c_xx1, c_xx2⟩ := b_xx6.three
  have l_xx := b_xx6.lt
  obtain ⟨c_xy0, c_xy1, c_xy2⟩ := b_xy6.three
  have l_xy := b_xy6.lt
  have hmk := run_make_list m.length (by omega)
  have hrow := Row.made w6 m.length
  have hbg := below_one w6 (.cells (madeCells #[.int .i64 0] m.length) 3)
  obtain ⟨g, hgw⟩ : ∃ g, g = w6.heap.size := ⟨_, rfl⟩
  go_wp2_with fail
  rw [← hgw] at hrow ⊢
  have hgW : w6.heap.size ≤ g := by omega
  have hOL := Lib.hid (others_length m)
  obtain ⟨X, eX⟩ : ∃ X, X = others m := ⟨_, rfl⟩
  have HX := Lib.hid (show X.length = m.length by rw [eX]; exact hOL.out)
  have HEX := Lib.hid eX
  have hrow2 := hrow
  rw [show List.replicate m.length (0 : Int) = FillTo X 0 by rw [fillTo_zero, HX.out]] at hrow2
  clear hrow eX hgw hmk c_a0 c_a1 c_a2 l_a c_xx0 c_xx1 c_xx2 l_xx c_xy0 c_xy1 c_xy2 l_xy
  go_loopw [16] (fun s16 wr => ∃ i : Nat, i ≤ m.length ∧ s16 = .int .i64 i ∧ Row wr g (FillTo X i) ∧ Below w6.heap.size w6 wr) (fun s16 _ => m.length - (intOf s16).toNat)
  case atStart => exact ⟨0, Nat.zero_le _, rfl, hrow2, hbg⟩
  case round =>
    clear hrow2 hbg
    obtain ⟨i, hi, rfl, hr, hbl⟩ := hrel
    rcases Nat.lt_or_ge i m.length with hlt | hge
    · obtain ⟨am, x, rfl, hx, ham, hcx⟩ := Elems.later EM.out (hbw6.trans (hbl.mono hbw6.size)) hlt
      have hXi : X[i]? = some (1 - x) := by rw [HEX.out, others_at, hx]; rfl
      have gk := hr.at_ (fillTo_at (X := X) (k := i) (by rw [HX.out]; exact hlt))
      have gf := Box.frozen hr i
      have gl := Box.lt hr
      have hs1 := hr.store i (1 - x)
      rw [fillTo_set hXi] at hs1
      have hx01 := mask_at PM.out hx
      have HS1 := Lib.hid hs1
      clear hXi hs1 hx
      rcases hx01 with rfl | rfl
      · go_wp2_with fail
        go_roundw
        case rel => exact ⟨i + 1, by omega, by go_num, HS1.out, hbl.setCell (p := ⟨g, i, none⟩) (by simp; omega) _⟩
        case measure => simp [intOf]; omega
      · go_wp2_with fail
        go_roundw
        case rel => exact ⟨i + 1, by omega, by go_num, HS1.out, hbl.setCell (p := ⟨g, i, none⟩) (by simp; omega) _⟩
        case measure => simp [intOf]; omega
    · have hie : i = m.length := by omega
      subst hie
      rw [show FillTo X m.length = X by rw [← HX.out]; exact fillTo_all _, HEX.out] at hr
      have iO := hr.isInts (n := m.length) hOL.out.symm (by omega)
      clear hr hge
      have hbw7 := hbw6.trans (hbl.mono hbw6.size)
      have b_a7 := b_a6.below hbl
      have b_xx7 := b_xx6.below hbl
      have b_xy7 := b_xy6.below hbl
      have a_x7 := a_x6.mono hbl
      have a_y7 := a_y6.mono hbl
      clear hbl b_a6 b_xx6 b_xy6 a_x6 a_y6 hbw6
      obtain ⟨c_a0, c_a1, c_a2⟩ := b_a7.three
      have l_a := b_a7.lt
      obtain ⟨c_xx0, c_xx1, c_xx2⟩ := b_xx7.three
      have l_xx := b_xx7.lt
      obtain ⟨c_xy0, c_xy1, c_xy2⟩ := b_xy7.three
      have l_xy := b_xy7.lt
      go_wp2_with fail
      refine ((show Calls _ _ _ _ (GivesOk (keep (others m) k (spread m k a)) _) from (keep_toldN iO a_x7).mono fun e w' h => h.ok PL.out.2.1)).mono ?_
      rintro e w8 ⟨r8, rfl, hr8, hb8⟩
      have hbw8 := hbw7.trans (hb8.mono hbw7.size)
      have b_a8 := b_a7.below hb8
      have b_xx8 := b_xx7.below hb8
      have b_xy8 := b_xy7.below hb8
      have a_x8 := a_x7.mono hb8
      have a_y8 := a_y7.mono hb8
      clear hb8 b_a7 b_xx7 b_xy7 a_x7 a_y7 hbw7 c_a0 c_a1 c_a2 l_a c_xx0 c_xx1 c_xx2 l_xx c_xy0 c_xy1 c_xy2 l_xy
      obtain ⟨c_a0, c_a1, c_a2⟩ := b_a8.three
      have l_a := b_a8.lt
      obtain ⟨c_xx0, c_xx1, c_xx2⟩ := b_xx8.three
      have l_xx := b_xx8.lt
      obtain ⟨c_xy0, c_xy1, c_xy2⟩ := b_xy8.three
      have l_xy := b_xy8.lt
      obtain ⟨A8, ca8, D8, cd8, rfl, hs8, hd8⟩ := hr8.open_
      have hs := PL.out.2.2.2.2.1
      have hs4 := PL.out.2.2.2.2.2.1
      have eS : (((keep (others m) k (spread m k a)).da.length : Int) + ((keep m k (spread m k a)).da.length : Int) == ((spread m k a).da.length : Int)) = true := by simp; omega
      have eW : IntKind.i64.wrap (((keep (others m) k (spread m k a)).da.length : Int) + ((keep m k (spread m k a)).da.length : Int)) = ((keep (others m) k (spread m k a)).da.length : Int) + ((keep m k (spread m k a)).da.length : Int) := IntWalk.i64_in _ (by omega)
      have hz4 : (keep (others m) k (spread m k a)).da.length ≤ 4096 := by omega
      have hy4 : (keep m k (spread m k a)).da.length ≤ 4096 := by omega
      clear hs
      have Ba := (b_a8.alloc (.cells #[.bool (keep (others m) k (spread m k a)).ch, .slice A8 (keep (others m) k (spread m k a)).sh.length ca8, .slice D8 (keep (others m) k (spread m k a)).da.length cd8] 24))
      obtain ⟨ka0, ka1, ka2⟩ := Ba.three
      have Bxx := (b_xx8.alloc (.cells #[.bool (keep (others m) k (spread m k a)).ch, .slice A8 (keep (others m) k (spread m k a)).sh.length ca8, .slice D8 (keep (others m) k (spread m k a)).da.length cd8] 24))
      obtain ⟨kxx0, kxx1, kxx2⟩ := Bxx.three
      have Bxy := (b_xy8.alloc (.cells #[.bool (keep (others m) k (spread m k a)).ch, .slice A8 (keep (others m) k (spread m k a)).sh.length ca8, .slice D8 (keep (others m) k (spread m k a)).da.length cd8] 24))
      obtain ⟨kxy0, kxy1, kxy2⟩ := Bxy.three
      have Bxz := (Box.new w8 24 #[.bool (keep (others m) k (spread m k a)).ch, .slice A8 (keep (others m) k (spread m k a)).sh.length ca8, .slice D8 (keep (others m) k (spread m k a)).da.length cd8])
      obtain ⟨kxz0, kxz1, kxz2⟩ := Bxz.three
      have EZ0 := (IsArr.dataOf (hr8.mono (below_one _ (.cells #[.bool (keep (others m) k (spread m k a)).ch, .slice A8 (keep (others m) k (spread m k a)).sh.length ca8, .slice D8 (keep (others m) k (spread m k a)).da.length cd8] 24)))).elems
      have EZ := Lib.hid EZ0
      clear EZ0
      have HB9 := (hbw8.trans ((below_one w8 (.cells #[.bool (keep (others m) k (spread m k a)).ch, .slice A8 (keep (others m) k (spread m k a)).sh.length ca8, .slice D8 (keep (others m) k (spread m k a)).da.length cd8] 24)).mono hbw8.size))
      clear b_a8 b_xx8 b_xy8 a_x8 a_y8 hr8 hbw8 c_a0 c_a1 c_a2 l_a c_xx0 c_xx1 c_xx2 l_xx c_xy0 c_xy1 c_xy2 l_xy
      rcases hch : a.ch with _ | _
      · have HF := Lib.hid (show fillOf a.ch = 0 by rw [hch]; rfl)
        have hcc : a.ch = false := hch
        clear hch
        go_wp2_with fail
        obtain ⟨W9, hW9⟩ : ∃ W, W = (w8.alloc (.cells #[.bool (keep (others m) k (spread m k a)).ch, .slice A8 (keep (others m) k (spread m k a)).sh.length ca8, .slice D8 (keep (others m) k (spread m k a)).da.length cd8] 24)) := ⟨_, rfl⟩
        rw [← hW9] at EZ HB9 Ba Bxx Bxy Bxz ⊢
        clear hW9 ka0 ka1 ka2 kxx0 kxx1 kxx2 kxy0 kxy1 kxy2 kxz0 kxz1 kxz2
        go_loopw [20] (fun s20 wr => ∃ i : Nat, i ≤ (keep (others m) k (spread m k a)).da.length ∧ s20 = .int .i64 i ∧ Below W9.heap.size W9 wr) (fun s20 _ => (keep (others m) k (spread m k a)).da.length - (intOf s20).toNat)
        case atStart => exact ⟨0, Nat.zero_le _, rfl, Below.refl _ _⟩
        case round =>
          obtain ⟨i, hi, rfl, hbx⟩ := hrel
          obtain ⟨ka0, ka1, ka2⟩ := (Ba.below hbx).three
          obtain ⟨kxx0, kxx1, kxx2⟩ := (Bxx.below hbx).three
          obtain ⟨kxy0, kxy1, kxy2⟩ := (Bxy.below hbx).three
          obtain ⟨kxz0, kxz1, kxz2⟩ := (Bxz.below hbx).three
          rcases Nat.lt_or_ge i (keep (others m) k (spread m k a)).da.length with hlt | hge
          · obtain ⟨az, x, rfl, hx, haz, hcx⟩ := Elems.later EZ.out hbx hlt
            have hxe := PL.out.2.2.2.1 x (List.mem_of_getElem? hx)
            rw [HF.out] at hxe
            subst hxe
            clear hx
            go_wp2_with fail
            go_roundw
            case rel => exact ⟨i + 1, by omega, by go_num, hbx⟩
            case measure => simp [intOf]; omega
          · go_wp2_with fail
            go_ret
            exact ⟨rfl, HB9.trans (hbx.mono HB9.size)⟩
      · have HF := Lib.hid (show fillOf a.ch = 32 by rw [hch]; rfl)
        have hcc : a.ch = true := hch
        clear hch
        go_wp2_with fail
        obtain ⟨W9, hW9⟩ : ∃ W, W = (w8.alloc (.cells #[.bool (keep (others m) k (spread m k a)).ch, .slice A8 (keep (others m) k (spread m k a)).sh.length ca8, .slice D8 (keep (others m) k (spread m k a)).da.length cd8] 24)) := ⟨_, rfl⟩
        rw [← hW9] at EZ HB9 Ba Bxx Bxy Bxz ⊢
        clear hW9 ka0 ka1 ka2 kxx0 kxx1 kxx2 kxy0 kxy1 kxy2 kxz0 kxz1 kxz2
        go_loopw [20] (fun s20 wr => ∃ i : Nat, i ≤ (keep (others m) k (spread m k a)).da.length ∧ s20 = .int .i64 i ∧ Below W9.heap.size W9 wr) (fun s20 _ => (keep (others m) k (spread m k a)).da.length - (intOf s20).toNat)
        case atStart => exact ⟨0, Nat.zero_le _, rfl, Below.refl _ _⟩
        case round =>
          obtain ⟨i, hi, rfl, hbx⟩ := hrel
          obtain ⟨ka0, ka1, ka2⟩ := (Ba.below hbx).three
          obtain ⟨kxx0, kxx1, kxx2⟩ := (Bxx.below hbx).three
          obtain ⟨kxy0, kxy1, kxy2⟩ := (Bxy.below hbx).three
          obtain ⟨kxz0, kxz1, kxz2⟩ := (Bxz.below hbx).three
          rcases Nat.lt_or_ge i (keep (others m) k (spread m k a)).da.length with hlt | hge
          · obtain ⟨az, x, rfl, hx, haz, hcx⟩ := Elems.later EZ.out hbx hlt
            have hxe := PL.out.2.2.2.1 x (List.mem_of_getElem? hx)
            rw [HF.out] at hxe
            subst hxe
            clear hx
            go_wp2_with fail
            go_roundw
            case rel => exact ⟨i + 1, by omega, by go_num, hbx⟩
            case measure => simp [intOf]; omega
          · go_wp2_with fail
            go_ret
            exact ⟨rfl, HB9.trans (hbx.mono HB9.size)⟩

end Go.Proofs.Ytfemeaehpjajlaa
