/- The walk of the law CutMeshes. Conditions: none. -/
import Derived.Test.YtfemeaehpjajlaaMeshPlain
import Derived.Test.YtfemeaehpjajlaaArrOf
import Derived.Test.YtfemeaehpjajlaaStore
import Derived.Test.YtfemeaehpjajlaaMore
import Derived.Test.YtfemeaehpjajlaaAlike
import Derived.Test.YtfemeaehpjajlaaMake
import Derived.Test.YtfemeaehpjajlaaBase
import Derived.Test.YtfemeaehpjajlaaHelp
import Derived.Test.YtfemeaehpjajlaaPair
namespace Go.Proofs.Ytfemeaehpjajlaa
open Go Go.RowKit Go.Proofs.Ytfemeaehpjajlaa.P

set_option maxRecDepth 100000 in
set_option maxHeartbeats 4000000 in
theorem cutMeshes_walk (axis : Int) (vm va : Value) (m : List Int) (a : Arr) (w : World) (hm : IsInts w vm m) (ha : IsArr w va a) (wa : Wf a.da) :
    Calls Try.prog 22 #[vm, .int .i64 axis, va] w (Says w) := by
  obtain ⟨A, ca, D, da, rfl, -, -⟩ := ha.open_
  obtain ⟨B, cb, rfl, b1, b2, b3, EM0, hm⟩ := hm.open_
  have EM := Lib.hid EM0
  have Wa := Lib.hid wa
  clear EM0 wa
  go_enter Try.func22, Try.ntmps22
  go_wp2_with fail
  have x1 := (Box.new (w.alloc (.cells #[.bool a.ch, .slice A a.sh.length ca, .slice D a.da.length da] 24)) 3 #[.int .i64 1, .int .i64 0, .int .i64 1])
  simp only [World.size_alloc, World.size_setCell] at x1
  have i1 : IsInts (((w.alloc (.cells #[.bool a.ch, .slice A a.sh.length ca, .slice D a.da.length da] 24)).alloc (.cells #[.int .i64 1, .int .i64 0, .int .i64 1] 3)).alloc (.cells #[.int .i64 5, .int .i64 6, .int .i64 7] 3)) (.slice (some ⟨w.heap.size + 1, 0, none⟩) 3 3) [1, 0, 1] := (x1.alloc _).isInts (xs := [1, 0, 1]) (n := 3) rfl (by omega)
  have x2 := (Box.new ((w.alloc (.cells #[.bool a.ch, .slice A a.sh.length ca, .slice D a.da.length da] 24)).alloc (.cells #[.int .i64 1, .int .i64 0, .int .i64 1] 3)) 3 #[.int .i64 5, .int .i64 6, .int .i64 7])
  simp only [World.size_alloc, World.size_setCell] at x2
  have i2 : IsInts (((w.alloc (.cells #[.bool a.ch, .slice A a.sh.length ca, .slice D a.da.length da] 24)).alloc (.cells #[.int .i64 1, .int .i64 0, .int .i64 1] 3)).alloc (.cells #[.int .i64 5, .int .i64 6, .int .i64 7] 3)) (.slice (some ⟨w.heap.size + 1 + 1, 0, none⟩) 3 3) [5, 6, 7] := x2.isInts (xs := [5, 6, 7]) (n := 3) rfl (by omega)
  clear x1 x2
  refine (vec_any _ [5, 6, 7] _ i2).mono ?_
  rintro e w1 ⟨r1, rfl, hr1, hb1⟩
  have l1 := i1.mono hb1
  clear i1
  have hbw1 := ((Below.refl w.heap.size w).trans ((below_three w _ _ _).mono (Below.refl w.heap.size w).size)).trans (hb1.mono ((Below.refl w.heap.size w).trans ((below_three w _ _ _).mono (Below.refl w.heap.size w).size)).size)
  have b_a1 := (((Box.new w 24 #[.bool a.ch, .slice A a.sh.length ca, .slice D a.da.length da]).alloc _).alloc _).below hb1
  clear hb1 i2
  obtain ⟨c_a0, c_a1, c_a2⟩ := b_a1.three
  have l_a := b_a1.lt
  go_wp2_with fail
  refine ((show Calls _ _ _ _ (GivesOk (keep [1, 0, 1] (0 : Int).toNat ⟨false, [3], [5, 6, 7]⟩) _) from (keep_told (axis := 0) l1 hr1).mono fun e w' h => h.ok (by decide +kernel))).mono ?_
  rintro e w2 ⟨r2, rfl, hr2, hb2⟩
  have hbw2 := hbw1.trans (hb2.mono hbw1.size)
  have b_a2 := b_a1.below hb2
  clear hb2 b_a1 hbw1 c_a0 c_a1 c_a2 l_a hr1 l1
  obtain ⟨c_a0, c_a1, c_a2⟩ := b_a2.three
  have l_a := b_a2.lt
  obtain ⟨A2, ca2, D2, cd2, rfl, hs2, hd2⟩ := hr2.open_
  go_wp2_with fail
  have bq := Box.new (w2.alloc (.cells #[.bool ((keep [1, 0, 1] (0 : Int).toNat ⟨false, [3], [5, 6, 7]⟩)).ch, .slice A2 ((keep [1, 0, 1] (0 : Int).toNat ⟨false, [3], [5, 6, 7]⟩)).sh.length ca2, .slice D2 ((keep [1, 0, 1] (0 : Int).toNat ⟨false, [3], [5, 6, 7]⟩)).da.length cd2] 24)) 3 #[.int .i64 5, .int .i64 7]
  rw [World.size_alloc] at bq
  refine (ints_any _ _ _ [5, 7] _ (hd2.mono (below_two _ _ _)) (bq.isInts rfl (by simp))).mono ?_
  rintro e w3 ⟨r3, rfl, hr3, hb3⟩
  have e3 : r3 = true := hr3.2 (by first | decide | decide +kernel)
  subst e3
  clear hr3 hs2 hd2
  clear hr2
  have hbw3 := (hbw2.trans ((below_two w2 _ _).mono hbw2.size)).trans (hb3.mono (hbw2.trans ((below_two w2 _ _).mono hbw2.size)).size)
  have b_a3 := ((b_a2.alloc _).alloc _).below hb3
  clear hb3 b_a2 hbw2 c_a0 c_a1 c_a2 l_a bq
  obtain ⟨c_a0, c_a1, c_a2⟩ := b_a3.three
  have l_a := b_a3.lt
  by_cases hE : keepErr m axis a = 0
  case neg =>
    have HE := Lib.hid hE
    clear hE
    go_wp2_with fail
    refine ((keep_told (hm.mono hbw3) (ha.mono hbw3)).mono fun e w' h => h.bad HE.out).mono ?_
    rintro e w4 ⟨rfl, hb4⟩
    have hbw4 := hbw3.trans (hb4.mono hbw3.size)
    have b_a4 := b_a3.below hb4
    clear hb4 b_a3 hbw3 c_a0 c_a1 c_a2 l_a
    obtain ⟨c_a0, c_a1, c_a2⟩ := b_a4.three
    have l_a := b_a4.lt
    go_wp2_with fail
    go_ret
    exact ⟨rfl, by have := hbw4.size; go_grown⟩
  obtain ⟨t, k, ho, rfl, hk, hml, hM⟩ := keepErr_zero hE
  have HE := Lib.hid hE
  have HO := Lib.hid ho
  have HK := Lib.hid hk
  have HML := Lib.hid hml
  have PM := Lib.hid hM
  clear hE hk hml hM
  by_cases hch : a.ch = true
  · skip
    clear ho
    clear c_a0 c_a1 c_a2
    rw [hch] at ha b_a3 ⊢
    clear hch
    obtain ⟨c_a0, c_a1, c_a2⟩ := b_a3.three
    go_wp2_with fail
    refine ((show Calls _ _ _ _ (GivesOk (keep m k a) _) from (keep_toldN (hm.mono hbw3) (ha.mono hbw3)).mono fun e w' h => h.ok HE.out)).mono ?_
    rintro e w4 ⟨r4, rfl, hr4, hb4⟩
    have hbw4 := hbw3.trans (hb4.mono hbw3.size)
    have b_a4 := b_a3.below hb4
    clear hb4 b_a3 hbw3 c_a0 c_a1 c_a2 l_a
    obtain ⟨c_a0, c_a1, c_a2⟩ := b_a4.three
    have l_a := b_a4.lt
    obtain ⟨A4, ca4, D4, cd4, rfl, hs4, hd4⟩ := hr4.open_
    go_wp2_with fail
    go_ret
    exact ⟨rfl, by have := hbw4.size; go_grown⟩
  have hcf : a.ch = false := by simpa using hch
  have PL := Lib.hid (mesh_plain ho HK.out HML.out PM.out hcf Wa.out)
  have hm4 := PL.out.2.2.2.2.2.2
  have h0 := Lib.hid (show 0 < t.length by have := HK.out; omega)
  have HCF := Lib.hid hcf
  clear hch ho
  clear c_a0 c_a1 c_a2
  rw [hcf] at ha b_a3 ⊢
  clear hcf
  obtain ⟨c_a0, c_a1, c_a2⟩ := b_a3.three
  go_wp2_with fail
  refine ((show Calls _ _ _ _ (GivesOk (keep m k a) _) from (keep_toldN (hm.mono hbw3) (ha.mono hbw3)).mono fun e w' h => h.ok HE.out)).mono ?_
  rintro e w4 ⟨r4, rfl, hr4, hb4⟩
  have hbw4 := hbw3.trans (hb4.mono hbw3.size)
  have b_a4 := b_a3.below hb4
  clear hb4 b_a3 hbw3 c_a0 c_a1 c_a2 l_a
  obtain ⟨c_a0, c_a1, c_a2⟩ := b_a4.three
  have l_a := b_a4.lt
  obtain ⟨A4, ca4, D4, cd4, rfl, hs4, hd4⟩ := hr4.open_
  have hmk := run_make_list m.length (by omega)
  obtain ⟨W9, hW9⟩ : ∃ W, W = (w4.alloc (.cells #[.bool (keep m k a).ch, .slice A4 (keep m k a).sh.length ca4, .slice D4 (keep m k a).da.length cd4] 24)) := ⟨_, rfl⟩
  have hbq : Below ((w4.alloc (.cells #[.bool (keep m k a).ch, .slice A4 (keep m k a).sh.length ca4, .slice D4 (keep m k a).da.length cd4] 24))).heap.size ((w4.alloc (.cells #[.bool (keep m k a).ch, .slice A4 (keep m k a).sh.length ca4, .slice D4 (keep m k a).da.length cd4] 24))) W9 := by rw [hW9]; exact Below.refl _ _
  go_wp2_with fail
  have hsz9 : W9.heap.size = w4.heap.size + 1 := by rw [hW9]; simp
  rw [← hW9]
  clear hW9
  have hbw5 := (hbw4.trans ((below_one w4 _).mono hbw4.size)).trans (hbq.mono (hbw4.trans ((below_one w4 _).mono hbw4.size)).size)
  have b_a5 := (b_a4.alloc _).below hbq
  have b_xx5 := (Box.new w4 24 #[.bool (keep m k a).ch, .slice A4 (keep m k a).sh.length ca4, .slice D4 (keep m k a).da.length cd4]).below hbq
  have a_x5 := (hr4.mono (below_one _ _)).mono hbq
  clear hbq b_a4 hr4 hbw4 c_a0 c_a1 c_a2 l_a
  obtain ⟨c_a0, c_a1, c_a2⟩ := b_a5.three
  have l_a := b_a5.lt
  obtain ⟨c_xx0, c_xx1, c_xx2⟩ := b_xx5.three
  have l_xx := b_xx5.lt
  have hrow := Row.made W9 m.length
  have hbg := below_one W9 (.cells (madeCells #[.int .i64 0] m.length) 3)
  obtain ⟨g, hgw⟩ : ∃ g, g = W9.heap.size := ⟨_, rfl⟩
  have hgW : W9.heap.size ≤ g := by omega
  have hOL := Lib.hid (others_length m)
  obtain ⟨X, eX⟩ : ∃ X, X = others m := ⟨_, rfl⟩
  have HX := Lib.hid (show X.length = m.length by rw [eX]; exact hOL.out)
  have HEX := Lib.hid eX
  have hrow2 := hrow
  rw [show List.replicate m.length (0 : Int) = FillTo X 0 by rw [fillTo_zero, HX.out]] at hrow2
  rw [← hgw] at hrow2
  have hg4 : g = w4.heap.size + 1 := by omega
  rw [← hg4]
  clear hg4 hsz9
  clear hrow eX hgw hmk c_a0 c_a1 c_a2 l_a c_xx0 c_xx1 c_xx2 l_xx
  go_loopw [13] (fun s16 wr => ∃ i : Nat, i ≤ m.length ∧ s16 = .int .i64 i ∧ Row wr g (FillTo X i) ∧ Below W9.heap.size W9 wr) (fun s16 _ => m.length - (intOf s16).toNat)
  case atStart => exact ⟨0, Nat.zero_le _, rfl, hrow2, hbg⟩
  case round =>
    clear hrow2 hbg
    obtain ⟨i, hi, rfl, hr, hbl⟩ := hrel
    rcases Nat.lt_or_ge i m.length with hlt | hge
    · obtain ⟨am, x, rfl, hx, ham, hcx⟩ := Elems.later EM.out (hbw5.trans (hbl.mono hbw5.size)) hlt
      have hXi : X[i]? = some (1 - x) := by rw [HEX.out, others_at, hx]; rfl
      have gk := hr.at_ (fillTo_at (X := X) (k := i) (by rw [HX.out]; exact hlt))
      have gf := Box.frozen hr i
      have gl := Box.lt hr
      have hs1 := hr.store i (1 - x)
      rw [fillTo_set hXi] at hs1
      have hx01 := mask_at PM.out hx
      have HS1 := Lib.hid hs1
      clear hXi hs1 hx
      rcases hx01 with rfl | rfl
      · go_wp2_with fail
        go_roundw
        case rel => exact ⟨i + 1, by omega, by go_num, HS1.out, hbl.setCell (p := ⟨g, i, none⟩) (by simp; omega) _⟩
        case measure => simp [intOf]; omega
      · go_wp2_with fail
        go_roundw
        case rel => exact ⟨i + 1, by omega, by go_num, HS1.out, hbl.setCell (p := ⟨g, i, none⟩) (by simp; omega) _⟩
        case measure => simp [intOf]; omega
    · have hie : i = m.length := by omega
      subst hie
      rw [show FillTo X m.length = X by rw [← HX.out]; exact fillTo_all _, HEX.out] at hr
      have iO := hr.isInts (n := m.length) hOL.out.symm (by omega)
      clear hr hge
      have hbw6 := hbw5.trans (hbl.mono hbw5.size)
      have b_a6 := b_a5.below hbl
      have b_xx6 := b_xx5.below hbl
      have a_x6 := a_x5.mono hbl
      clear hbl b_a5 b_xx5 a_x5 hbw5
      obtain ⟨c_a0, c_a1, c_a2⟩ := b_a6.three
      have l_a := b_a6.lt
      obtain ⟨c_xx0, c_xx1, c_xx2⟩ := b_xx6.three
      have l_xx := b_xx6.lt
      go_wp2_with fail
      refine ((show Calls _ _ _ _ (GivesOk (keep (others m) k a) _) from (keep_toldN iO (ha.mono hbw6)).mono fun e w' h => h.ok PL.out.1)).mono ?_
      rintro e w7 ⟨r7, rfl, hr7, hb7⟩
      have hbw7 := hbw6.trans (hb7.mono hbw6.size)
      have b_a7 := b_a6.below hb7
      have b_xx7 := b_xx6.below hb7
      have a_x7 := a_x6.mono hb7
      have a_oth7 := iO.mono hb7
      clear hb7 b_a6 b_xx6 a_x6 iO hbw6 c_a0 c_a1 c_a2 l_a c_xx0 c_xx1 c_xx2 l_xx
      obtain ⟨c_a0, c_a1, c_a2⟩ := b_a7.three
      have l_a := b_a7.lt
      obtain ⟨c_xx0, c_xx1, c_xx2⟩ := b_xx7.three
      have l_xx := b_xx7.lt
      obtain ⟨A7, ca7, D7, cd7, rfl, hs7, hd7⟩ := hr7.open_
      go_wp2_with fail
      refine ((show Calls _ _ _ _ (GivesOk (spread m k (keep m k a)) _) from (spread_toldN (hm.mono (hbw7.trans ((below_one w7 _).mono hbw7.size))) (a_x7.mono (below_one _ _))).mono fun e w' h => h.ok PL.out.2.1)).mono ?_
      rintro e w8 ⟨r8, rfl, hr8, hb8⟩
      have hbw8 := (hbw7.trans ((below_one w7 _).mono hbw7.size)).trans (hb8.mono (hbw7.trans ((below_one w7 _).mono hbw7.size)).size)
      have b_a8 := (b_a7.alloc _).below hb8
      have b_xx8 := (b_xx7.alloc _).below hb8
      have b_xy8 := (Box.new w7 24 #[.bool (keep (others m) k a).ch, .slice A7 (keep (others m) k a).sh.length ca7, .slice D7 (keep (others m) k a).da.length cd7]).below hb8
      have a_x8 := (a_x7.mono (below_one _ _)).mono hb8
      have a_oth8 := (a_oth7.mono (below_one _ _)).mono hb8
      have a_y8 := (hr7.mono (below_one _ _)).mono hb8
      clear hb8 b_a7 b_xx7 a_x7 a_oth7 hr7 hbw7 c_a0 c_a1 c_a2 l_a c_xx0 c_xx1 c_xx2 l_xx
      obtain ⟨c_a0, c_a1, c_a2⟩ := b_a8.three
      have l_a := b_a8.lt
      obtain ⟨c_xx0, c_xx1, c_xx2⟩ := b_xx8.three
      have l_xx := b_xx8.lt
      obtain ⟨c_xy0, c_xy1, c_xy2⟩ := b_xy8.three
      have l_xy := b_xy8.lt
      obtain ⟨A8, ca8, D8, cd8, rfl, hs8, hd8⟩ := hr8.open_
      go_wp2_with fail
      refine ((show Calls _ _ _ _ (GivesOk (spread (others m) k (keep (others m) k a)) _) from (spread_toldN (a_oth8.mono (below_one _ _)) (a_y8.mono (below_one _ _))).mono fun e w' h => h.ok PL.out.2.2.1)).mono ?_
      rintro e w9 ⟨r9, rfl, hr9, hb9⟩
      have hbw9 := (hbw8.trans ((below_one w8 _).mono hbw8.size)).trans (hb9.mono (hbw8.trans ((below_one w8 _).mono hbw8.size)).size)
      have b_a9 := (b_a8.alloc _).below hb9
      have b_xx9 := (b_xx8.alloc _).below hb9
      have b_xy9 := (b_xy8.alloc _).below hb9
      have b_xu9 := (Box.new w8 24 #[.bool (spread m k (keep m k a)).ch, .slice A8 (spread m k (keep m k a)).sh.length ca8, .slice D8 (spread m k (keep m k a)).da.length cd8]).below hb9
      have a_x9 := (a_x8.mono (below_one _ _)).mono hb9
      have a_oth9 := (a_oth8.mono (below_one _ _)).mono hb9
      have a_y9 := (a_y8.mono (below_one _ _)).mono hb9
      have a_u9 := (hr8.mono (below_one _ _)).mono hb9
      clear hb9 b_a8 b_xx8 b_xy8 a_x8 a_oth8 a_y8 hr8 hbw8 c_a0 c_a1 c_a2 l_a c_xx0 c_xx1 c_xx2 l_xx c_xy0 c_xy1 c_xy2 l_xy
      obtain ⟨c_a0, c_a1, c_a2⟩ := b_a9.three
      have l_a := b_a9.lt
      obtain ⟨c_xx0, c_xx1, c_xx2⟩ := b_xx9.three
      have l_xx := b_xx9.lt
      obtain ⟨c_xy0, c_xy1, c_xy2⟩ := b_xy9.three
      have l_xy := b_xy9.lt
      obtain ⟨c_xu0, c_xu1, c_xu2⟩ := b_xu9.three
      have l_xu := b_xu9.lt
      obtain ⟨A9, ca9, D9, cd9, rfl, hs9, hd9⟩ := hr9.open_
      go_wp2_with fail
      refine ((show Calls _ _ _ _ (GivesOk (⟨false, (spread m k (keep m k a)).sh, addD (spread m k (keep m k a)).da (spread (others m) k (keep (others m) k a)).da⟩ : Arr) _) from each_add (a_u9.mono (below_one _ _)) (hr9.mono (below_one _ _)) PL.out.2.2.2.1 PL.out.2.2.2.2.1 h0.out HCF.out HCF.out)).mono ?_
      rintro e w10 ⟨r10, rfl, hr10, hb10⟩
      have hbw10 := (hbw9.trans ((below_one w9 _).mono hbw9.size)).trans (hb10.mono (hbw9.trans ((below_one w9 _).mono hbw9.size)).size)
      have b_a10 := (b_a9.alloc _).below hb10
      have b_xx10 := (b_xx9.alloc _).below hb10
      have b_xy10 := (b_xy9.alloc _).below hb10
      have b_xu10 := (b_xu9.alloc _).below hb10
      have b_xvv10 := (Box.new w9 24 #[.bool (spread (others m) k (keep (others m) k a)).ch, .slice A9 (spread (others m) k (keep (others m) k a)).sh.length ca9, .slice D9 (spread (others m) k (keep (others m) k a)).da.length cd9]).below hb10
      have a_x10 := (a_x9.mono (below_one _ _)).mono hb10
      have a_oth10 := (a_oth9.mono (below_one _ _)).mono hb10
      have a_y10 := (a_y9.mono (below_one _ _)).mono hb10
      have a_u10 := (a_u9.mono (below_one _ _)).mono hb10
      have a_vv10 := (hr9.mono (below_one _ _)).mono hb10
      clear hb10 b_a9 b_xx9 b_xy9 b_xu9 a_x9 a_oth9 a_y9 a_u9 hr9 hbw9 c_a0 c_a1 c_a2 l_a c_xx0 c_xx1 c_xx2 l_xx c_xy0 c_xy1 c_xy2 l_xy c_xu0 c_xu1 c_xu2 l_xu
      obtain ⟨c_a0, c_a1, c_a2⟩ := b_a10.three
      have l_a := b_a10.lt
      obtain ⟨c_xx0, c_xx1, c_xx2⟩ := b_xx10.three
      have l_xx := b_xx10.lt
      obtain ⟨c_xy0, c_xy1, c_xy2⟩ := b_xy10.three
      have l_xy := b_xy10.lt
      obtain ⟨c_xu0, c_xu1, c_xu2⟩ := b_xu10.three
      have l_xu := b_xu10.lt
      obtain ⟨c_xvv0, c_xvv1, c_xvv2⟩ := b_xvv10.three
      have l_xvv := b_xvv10.lt
      obtain ⟨A10, ca10, D10, cd10, rfl, hs10, hd10⟩ := hr10.open_
      go_wp2_with fail
      refine (alike_nil _ _ _ _ _ (hr10.mono (below_one _ _)) (ha.mono (hbw10.trans ((below_one w10 _).mono hbw10.size)))).mono ?_
      rintro e w11 ⟨r11, rfl, hr11, hb11⟩
      have e11 : r11 = true := hr11.2 (PL.out.2.2.2.2.2.1)
      subst e11
      clear hr11
      have hbw11 := (hbw10.trans ((below_one w10 _).mono hbw10.size)).trans (hb11.mono (hbw10.trans ((below_one w10 _).mono hbw10.size)).size)
      have b_a11 := (b_a10.alloc _).below hb11
      have b_xx11 := (b_xx10.alloc _).below hb11
      have b_xy11 := (b_xy10.alloc _).below hb11
      have b_xu11 := (b_xu10.alloc _).below hb11
      have b_xvv11 := (b_xvv10.alloc _).below hb11
      have b_xww11 := (Box.new w10 24 #[.bool ((⟨false, (spread m k (keep m k a)).sh, addD (spread m k (keep m k a)).da (spread (others m) k (keep (others m) k a)).da⟩ : Arr)).ch, .slice A10 ((⟨false, (spread m k (keep m k a)).sh, addD (spread m k (keep m k a)).da (spread (others m) k (keep (others m) k a)).da⟩ : Arr)).sh.length ca10, .slice D10 ((⟨false, (spread m k (keep m k a)).sh, addD (spread m k (keep m k a)).da (spread (others m) k (keep (others m) k a)).da⟩ : Arr)).da.length cd10]).below hb11
      have a_x11 := (a_x10.mono (below_one _ _)).mono hb11
      have a_oth11 := (a_oth10.mono (below_one _ _)).mono hb11
      have a_y11 := (a_y10.mono (below_one _ _)).mono hb11
      have a_u11 := (a_u10.mono (below_one _ _)).mono hb11
      have a_vv11 := (a_vv10.mono (below_one _ _)).mono hb11
      have a_ww11 := (hr10.mono (below_one _ _)).mono hb11
      clear hb11 b_a10 b_xx10 b_xy10 b_xu10 b_xvv10 a_x10 a_oth10 a_y10 a_u10 a_vv10 hr10 hbw10 c_a0 c_a1 c_a2 l_a c_xx0 c_xx1 c_xx2 l_xx c_xy0 c_xy1 c_xy2 l_xy c_xu0 c_xu1 c_xu2 l_xu c_xvv0 c_xvv1 c_xvv2 l_xvv
      obtain ⟨c_a0, c_a1, c_a2⟩ := b_a11.three
      have l_a := b_a11.lt
      obtain ⟨c_xx0, c_xx1, c_xx2⟩ := b_xx11.three
      have l_xx := b_xx11.lt
      obtain ⟨c_xy0, c_xy1, c_xy2⟩ := b_xy11.three
      have l_xy := b_xy11.lt
      obtain ⟨c_xu0, c_xu1, c_xu2⟩ := b_xu11.three
      have l_xu := b_xu11.lt
      obtain ⟨c_xvv0, c_xvv1, c_xvv2⟩ := b_xvv11.three
      have l_xvv := b_xvv11.lt
      obtain ⟨c_xww0, c_xww1, c_xww2⟩ := b_xww11.three
      have l_xww := b_xww11.lt
      go_wp2_with fail
      go_ret
      exact ⟨rfl, by have := hbw11.size; go_grown⟩

end Go.Proofs.Ytfemeaehpjajlaa
