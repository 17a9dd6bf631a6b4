/- The walk of the law GradeMixed. Conditions: none. -/
import Derived.Test.YtfaojciballhnaaMixPlain
import Derived.Test.YtfaojciballhnaaByArrs
import Derived.Test.YtfaojciballhnaaVecOwn
import Derived.Test.YtfaojciballhnaaPermS
import Derived.Test.YtfaojciballhnaaGradeRisesWalk
import Derived.Test.YtfaojciballhnaaStore
import Derived.Test.YtfaojciballhnaaAlike
set_option linter.unusedSimpArgs false
set_option linter.unusedVariables false
namespace Go.Proofs.Ytfaojciballhnaa
open Go Go.RowKit Go.Proofs.Ytfaojciballhnaa.P

theorem sort_534 {v : Value} {w : World} (ha : IsArr w v ⟨false, [(([5, 3, 4] : List Int).length : Int)], [5, 3, 4]⟩) : Calls Try.prog 16 #[v] w (GivesOk ⟨false, [3], [3, 4, 5]⟩ w) := by
  have ho : Ok (⟨false, [(([5, 3, 4] : List Int).length : Int)], [5, 3, 4]⟩ : Arr) [3] := ⟨rfl, ⟨by simp, fun m hm => by simp at hm; omega, by simp [prod]⟩, rfl, fun h => by cases h⟩
  have h := sort_any ha ho
  have e : sortOf ⟨false, [(([5, 3, 4] : List Int).length : Int)], [5, 3, 4]⟩ = ⟨false, [3], [3, 4, 5]⟩ := by
    rw [sortOf_mix ho, show gradeOf false (rowOf [5, 3, 4] (prod [])) 3 = [1, 2, 0] from ord_small (cOf_swo false _) (by decide) (by decide)]
    rfl
  rw [e] at h
  exact h

set_option maxRecDepth 100000 in
set_option maxHeartbeats 4000000 in
theorem gradeMixed_walk (va vp : Value) (a : Arr) (p : List Int) (w : World) (ha : IsArr w va a) (hp : IsInts w vp p) :
    Calls Try.prog 5 #[va, vp] w (Says w) := by
  obtain ⟨A, ca, D, da, rfl, -, -⟩ := ha.open_
  have HA := Lib.hid ha
  obtain ⟨PP, cpp, rfl, -, -, -, -, hp2⟩ := hp.open_
  have HP := Lib.hid hp2
  clear ha hp hp2
  go_enter Try.func5, Try.ntmps5
  go_wp2_with fail
  have bv := Box.new (w.alloc (.cells #[.bool a.ch, .slice A a.sh.length ca, .slice D a.da.length da] 24)) 3 #[.int .i64 5, .int .i64 3, .int .i64 4]
  simp only [World.size_alloc] at bv
  refine (vec_any _ [5, 3, 4] _ (bv.isInts rfl (by simp))).mono ?_
  rintro e w1 ⟨r1, rfl, hr1, hb1⟩
  have hbw1 := ((Below.refl w.heap.size w).trans ((below_two w _ _).mono (Below.refl w.heap.size w).size)).trans (hb1.mono ((Below.refl w.heap.size w).trans ((below_two w _ _).mono (Below.refl w.heap.size w).size)).size)
  have b_a1 := ((Box.new w 24 #[.bool a.ch, .slice A a.sh.length ca, .slice D a.da.length da]).alloc _).below hb1
  have b_v1 := (Box.new (w.alloc (.cells #[.bool a.ch, .slice A a.sh.length ca, .slice D a.da.length da] 24)) 3 #[.int .i64 5, .int .i64 3, .int .i64 4]).below hb1
  simp only [World.size_alloc, World.size_setCell] at b_v1
  clear hb1 bv
  obtain ⟨c_a0, c_a1, c_a2⟩ := b_a1.three
  have l_a := b_a1.lt
  have l_v := b_v1.lt
  go_wp2_with fail
  refine (show Calls _ _ _ _ (GivesOk ⟨false, [3], [3, 4, 5]⟩ _) from sort_534 hr1).mono ?_
  rintro e w2 ⟨r2, rfl, hr2, hb2⟩
  have hbw2 := hbw1.trans (hb2.mono hbw1.size)
  have b_a2 := b_a1.below hb2
  have a_v2 := hr1.mono hb2
  clear hb2 b_a1 hr1 hbw1 c_a0 c_a1 c_a2 l_a l_v
  obtain ⟨c_a0, c_a1, c_a2⟩ := b_a2.three
  have l_a := b_a2.lt
  obtain ⟨A2, ca2, D2, cd2, rfl, hs2, hd2⟩ := hr2.open_
  go_wp2_with fail
  have bq := Box.new (w2.alloc (.cells #[.bool ((⟨false, [3], [3, 4, 5]⟩ : Arr)).ch, .slice A2 ((⟨false, [3], [3, 4, 5]⟩ : Arr)).sh.length ca2, .slice D2 ((⟨false, [3], [3, 4, 5]⟩ : Arr)).da.length cd2] 24)) 3 #[.int .i64 3, .int .i64 4, .int .i64 5]
  rw [World.size_alloc] at bq
  refine (ints_any _ _ _ [3, 4, 5] _ (hd2.mono (below_two _ _ _)) (bq.isInts rfl (by simp))).mono ?_
  rintro e w3 ⟨r3, rfl, hr3, hb3⟩
  have e3 : r3 = true := hr3.2 rfl
  subst e3
  clear hr3 hs2 hd2
  clear hr2
  have hbw3 := (hbw2.trans ((below_two w2 _ _).mono hbw2.size)).trans (hb3.mono (hbw2.trans ((below_two w2 _ _).mono hbw2.size)).size)
  have b_a3 := ((b_a2.alloc _).alloc _).below hb3
  clear hb3 b_a2 hbw2 c_a0 c_a1 c_a2 l_a bq
  obtain ⟨c_a0, c_a1, c_a2⟩ := b_a3.three
  have l_a := b_a3.lt
  by_cases hE : gradeErr a = 0
  case neg =>
    have HE := Lib.hid hE
    clear hE
    go_wp2_with fail
    refine (sort_bad (HA.out.mono hbw3) HE.out).mono ?_
    rintro e w4 ⟨rfl, hb4⟩
    have hbw4 := hbw3.trans (hb4.mono hbw3.size)
    have b_a4 := b_a3.below hb4
    clear hb4 b_a3 hbw3 c_a0 c_a1 c_a2 l_a
    obtain ⟨c_a0, c_a1, c_a2⟩ := b_a4.three
    have l_a := b_a4.lt
    go_wp2_with fail
    go_ret
    exact ⟨rfl, by have := hbw4.size; go_grown⟩
  obtain ⟨n, t0, ht⟩ := gradeErr_zero hE
  have hn4 : n ≤ 4096 := ht.good.2.1 n (List.mem_cons_self ..)
  have HT := Lib.hid ht
  obtain ⟨X, hX⟩ : ∃ X, X = gradeOf false (rowOf a.da (prod t0)) n := ⟨_, rfl⟩
  have HXP := Lib.hid (show X.Perm (List.range n) by rw [hX]; exact grade_range _ _ _)
  have HXS := Lib.hid (show sortOf a = mixOf a t0 X by rw [hX]; exact sortOf_mix ht)
  have HOS := Lib.hid (show Ok (sortOf a) (n :: t0) by rw [HXS.out]; exact mixOf_ok ht (by rw [HXP.out.length_eq, List.length_range]) (fun x hx => by simpa using HXP.out.mem_iff.1 hx))
  have HSS := Lib.hid (show sortOf (sortOf a) = sortOf a by have h := mix_sort ht HXP.out; rwa [← HXS.out] at h)
  have hr : a.rows = n := by unfold Arr.rows; rw [ht.nsh_eq]; rfl
  have hl : a.long = prod t0 := by unfold Arr.long; rw [ht.nsh_eq]; rfl
  have HUP := Lib.hid (fun (W : World) (u : Value) (h : IsArr W u a) => show Calls Try.prog 7 #[u] W (fun e w' => ∃ r, e = .returned (.tuple #[r, .nilIface]) ∧ IsInts w' r (ints X) ∧ Below W.heap.size W w') from by have h9 := up_told h; rw [hE, hr, hl, ← hX] at h9; exact h9)
  have HSL := Lib.hid (show a.sh.length = (n :: t0).length by rw [ht.sh, length_ints])
  clear hE ht hX hr hl
  go_wp2_with fail
  refine (sort_any (HA.out.mono hbw3) HT.out).mono ?_
  rintro e w4 ⟨r4, rfl, hr4, hb4⟩
  have hbw4 := hbw3.trans (hb4.mono hbw3.size)
  have b_a4 := b_a3.below hb4
  clear hb4 b_a3 hbw3 c_a0 c_a1 c_a2 l_a
  obtain ⟨c_a0, c_a1, c_a2⟩ := b_a4.three
  have l_a := b_a4.lt
  obtain ⟨A4, ca4, D4, cd4, rfl, hs4, hd4⟩ := hr4.open_
  go_wp2_with fail
  refine (show Calls _ _ _ _ (GivesOk (sortOf a) _) from (sort_any (hr4.mono (below_one _ _)) HOS.out).mono fun e w' h => by rw [HSS.out] at h; exact h).mono ?_
  rintro e w5 ⟨r5, rfl, hr5, hb5⟩
  have hbw5 := (hbw4.trans ((below_one w4 _).mono hbw4.size)).trans (hb5.mono (hbw4.trans ((below_one w4 _).mono hbw4.size)).size)
  have b_a5 := (b_a4.alloc _).below hb5
  have b_xx5 := (Box.new w4 24 #[.bool (sortOf a).ch, .slice A4 (sortOf a).sh.length ca4, .slice D4 (sortOf a).da.length cd4]).below hb5
  have a_x5 := (hr4.mono (below_one _ _)).mono hb5
  clear hb5 b_a4 hr4 hbw4 c_a0 c_a1 c_a2 l_a
  obtain ⟨c_a0, c_a1, c_a2⟩ := b_a5.three
  have l_a := b_a5.lt
  obtain ⟨c_xx0, c_xx1, c_xx2⟩ := b_xx5.three
  have l_xx := b_xx5.lt
  obtain ⟨A5, ca5, D5, cd5, rfl, hs5, hd5⟩ := hr5.open_
  go_wp2_with fail
  refine (alike_nil _ _ _ _ _ (hr5.mono (below_one _ _)) (a_x5.mono (below_one _ _))).mono ?_
  rintro e w6 ⟨r6, rfl, hr6, hb6⟩
  have e6 : r6 = true := hr6.2 (rfl)
  subst e6
  clear hr6
  have hbw6 := (hbw5.trans ((below_one w5 _).mono hbw5.size)).trans (hb6.mono (hbw5.trans ((below_one w5 _).mono hbw5.size)).size)
  have b_a6 := (b_a5.alloc _).below hb6
  have b_xx6 := (b_xx5.alloc _).below hb6
  have b_xy6 := (Box.new w5 24 #[.bool (sortOf a).ch, .slice A5 (sortOf a).sh.length ca5, .slice D5 (sortOf a).da.length cd5]).below hb6
  have a_x6 := (a_x5.mono (below_one _ _)).mono hb6
  have a_y6 := (hr5.mono (below_one _ _)).mono hb6
  clear hb6 b_a5 b_xx5 a_x5 hr5 hbw5 c_a0 c_a1 c_a2 l_a c_xx0 c_xx1 c_xx2 l_xx
  obtain ⟨c_a0, c_a1, c_a2⟩ := b_a6.three
  have l_a := b_a6.lt
  obtain ⟨c_xx0, c_xx1, c_xx2⟩ := b_xx6.three
  have l_xx := b_xx6.lt
  obtain ⟨c_xy0, c_xy1, c_xy2⟩ := b_xy6.three
  have l_xy := b_xy6.lt
  have HY6 := Lib.hid trivial
  go_wp2_with fail
  refine (HUP.out _ _ (HA.out.mono hbw6)).mono ?_
  rintro e w7 ⟨r7, rfl, hr7, hb7⟩
  have hbw7 := hbw6.trans (hb7.mono hbw6.size)
  have b_a7 := b_a6.below hb7
  have b_xx7 := b_xx6.below hb7
  have b_xy7 := b_xy6.below hb7
  have a_x7 := a_x6.mono hb7
  have a_y7 := a_y6.mono hb7
  clear hb7 b_a6 b_xx6 b_xy6 a_x6 a_y6 hbw6 c_a0 c_a1 c_a2 l_a c_xx0 c_xx1 c_xx2 l_xx c_xy0 c_xy1 c_xy2 l_xy
  obtain ⟨c_a0, c_a1, c_a2⟩ := b_a7.three
  have l_a := b_a7.lt
  obtain ⟨c_xx0, c_xx1, c_xx2⟩ := b_xx7.three
  have l_xx := b_xx7.lt
  obtain ⟨c_xy0, c_xy1, c_xy2⟩ := b_xy7.three
  have l_xy := b_xy7.lt
  obtain ⟨PU, cu, rfl, -, -, -, -, hu7⟩ := hr7.open_
  clear hr7
  simp only [length_ints] at hu7 ⊢
  go_wp2_with fail
  refine (permutation_any (HP.out.mono hbw7)).mono ?_
  rintro e w8 ⟨o, rfl, ho, hb8⟩
  have HOB := Lib.hid ho
  clear ho
  have hbw8 := hbw7.trans (hb8.mono hbw7.size)
  have b_a8 := b_a7.below hb8
  have b_xx8 := b_xx7.below hb8
  have b_xy8 := b_xy7.below hb8
  have a_x8 := a_x7.mono hb8
  have a_y8 := a_y7.mono hb8
  have a_u8 := hu7.mono hb8
  clear hb8 b_a7 b_xx7 b_xy7 a_x7 a_y7 hu7 hbw7 c_a0 c_a1 c_a2 l_a c_xx0 c_xx1 c_xx2 l_xx c_xy0 c_xy1 c_xy2 l_xy
  obtain ⟨c_a0, c_a1, c_a2⟩ := b_a8.three
  have l_a := b_a8.lt
  obtain ⟨c_xx0, c_xx1, c_xx2⟩ := b_xx8.three
  have l_xx := b_xx8.lt
  obtain ⟨c_xy0, c_xy1, c_xy2⟩ := b_xy8.three
  have l_xy := b_xy8.lt
  obtain ⟨t, htt⟩ : ∃ t, t = n :: t0 := ⟨_, rfl⟩
  have HTT := Lib.hid htt
  rw [← htt] at HT HSL HOS
  clear htt
  have hl0 : ((a.sh.length : Int) == 0) = false := by rw [HSL.out, HTT.out]; simp <;> omega
  have hl1 : ¬ a.sh.length = 0 := by rw [HSL.out, HTT.out]; simp
  have HX := Lib.hid a_x8
  have HU := Lib.hid a_u8
  have HBA := Lib.hid b_a8
  have HBX := Lib.hid b_xx8
  have HBW := Lib.hid hbw8
  have EA := Lib.hid (show Elems w8 A (ints t) from (by have h := (IsArr.shapeOf (HA.out.mono hbw8)); rw [HT.out.sh] at h; exact h.elems))
  have HG := Lib.hid HT.out.good
  have hla5 := b_a8.lt
  have ht6 := HG.out.1
  go_wp2_with fail
  go_loopw [16, 17] (fun s6 s7 wr => ∃ (k : Nat) (R : Option Addr) (c : Nat) (us : List Value), k ≤ t.length ∧ s6 = .slice R k c ∧ s7 = .int .i64 k ∧ OwnsA wr w8.heap.size (.slice R k c) k us ∧ AllOwn wr w8.heap.size us (t.take k) ∧ Below w8.heap.size w8 wr) (fun _ s7 _ => t.length - (intOf s7).toNat)
  case atStart => exact ⟨0, none, 0, [], Nat.zero_le _, rfl, rfl, World.ownsRow_nil _ _ _ _, AllOwn.nil _ _, Below.refl _ _⟩
  case round =>
    clear c_a0 c_a1 c_a2 l_a c_xx0 c_xx1 c_xx2 l_xx c_xy0 c_xy1 c_xy2 l_xy
    obtain ⟨k, R, c, us, hk, rfl, rfl, ho, hall, hbl⟩ := hrel
    obtain ⟨ka0, ka1, ka2⟩ := (b_a8.below hbl).three
    have hka := (b_a8.below hbl).lt
    rcases Nat.lt_or_ge k t.length with hlt | hge
    · obtain ⟨ax, x, hax, hx, hlx, hcx⟩ := Elems.later EA.out hbl (k := k) (by rw [length_ints]; exact hlt)
      subst hax
      obtain ⟨rfl, -⟩ := ints_getD hx
      have hn4 : t.getD k 0 ≤ 4096 := by rw [List.getD_eq_getElem?_getD, List.getElem?_eq_getElem hlt]; exact HG.out.2.1 _ (List.getElem_mem _)
      have HTK := Lib.hid (show t.take (k + 1) = t.take k ++ [t.getD k 0] by rw [List.take_add_one, List.getElem?_eq_getElem hlt, List.getD_eq_getElem?_getD, List.getElem?_eq_getElem hlt]; rfl)
      obtain ⟨n, hn⟩ : ∃ n, n = t.getD k 0 := ⟨_, rfl⟩
      rw [← hn] at hcx hn4 HTK
      clear hx hn
      have HO := Lib.hid ho
      have HALL := Lib.hid hall
      clear ho hall
      have hkl : k < a.sh.length := by rw [HSL.out]; exact hlt
      go_wp2_with fail
      refine (iota_own n _ hn4).mono ?_
      rintro e w2 ⟨S, cs, Dn, cn, rfl, oS, oD, hb2⟩
      have hz := hbl.size
      have hbl2 := hbl.trans (hb2.mono hz)
      have ho2 := World.ownsRow.kept (row := none) HO.out ⟨hb2.os, hb2.tape, hb2.output, hb2.size, fun k hk _ => hb2.block k hk⟩ (by cases (Value.slice R k c).ownBlock <;> simp)
      have hall2 := HALL.out.below hb2
      have bN := (Box.new w2 24 #[.bool false, .slice S 1 cs, .slice Dn n cn]).alloc (.cells #[.bool false, .slice S 1 cs, .slice Dn n cn] 24)
      have bL := Box.new (w2.alloc (.cells #[.bool false, .slice S 1 cs, .slice Dn n cn] 24)) 24 #[.bool false, .slice S 1 cs, .slice Dn n cn]
      rw [World.size_alloc] at bL
      obtain ⟨n0, n1, n2⟩ := (Box.new w2 24 #[.bool false, .slice S 1 cs, .slice Dn n cn]).three
      have HO2 := Lib.hid ((World.ownsRow.alloc ho2 (.cells #[.bool false, .slice S 1 cs, .slice Dn n cn] 24)).alloc (.cells #[.bool false, .slice S 1 cs, .slice Dn n cn] 24))
      have hall3 := hall2.snoc ((oS.base hz)) ((oD.base hz))
      rw [← HTK.out] at hall3
      have HALL3 := Lib.hid ((hall3.below (below_one w2 (.cells #[.bool false, .slice S 1 cs, .slice Dn n cn] 24))).below (below_one _ (.cells #[.bool false, .slice S 1 cs, .slice Dn n cn] 24)))
      have hbl3 := hbl2.alloc hbl2.size (.cells #[.bool false, .slice S 1 cs, .slice Dn n cn] 24)
      have hbl4 := hbl3.alloc hbl3.size (.cells #[.bool false, .slice S 1 cs, .slice Dn n cn] 24)
      have CL := Lib.hid (show CellsAt ((w2.alloc (.cells #[.bool false, .slice S 1 cs, .slice Dn n cn] 24)).alloc (.cells #[.bool false, .slice S 1 cs, .slice Dn n cn] 24)) (some ⟨w2.heap.size + 1, 0, none⟩) [.bool false, .slice S 1 cs, .slice Dn n cn] from fun j u hj => ⟨_, rfl, bL.lt, by
        rw [show (⟨w2.heap.size + 1, 0, none⟩ : Addr).add j = ⟨w2.heap.size + 1, j, none⟩ from addr_zero_add _ j, bL.cell j]; simpa using hj⟩)
      have hz2 := hbl2.size
      clear ho2 hall2 hall3 bN bL oS oD ka0 ka1 ka2 hcx
      go_wp2_with (at_builtin; refine wpList_append_arrs _ rfl rfl _ _ rfl w8.heap.size k _ _ rfl HO2.out (some ⟨w2.heap.size + 1, 0, none⟩) 1 1 [.bool false, .slice S 1 cs, .slice Dn n cn] rfl (fun e => by cases e) (Nat.le_refl _) CL.out (by simp [Value.oneCell']) rfl (by omega) (by simp; omega) ?_; intro A4 c4 w4 own4 grow4 at4)
      have HALL4 := Lib.hid (HALL3.out.kept HO2.out grow4)
      go_roundw
      case rel => exact ⟨k + 1, A4, c4, _, by omega, by simp, by go_num, own4, HALL4.out, hbl4.grown grow4 hbl4.size (fun j e => (World.ownsRow.lt HO2.out j e).1)⟩
      case measure => simp [intOf]; omega
    · have hgl : a.sh.length ≤ k := by rw [HSL.out]; exact hge
      have hke : k = t.length := by omega
      subst hke
      rw [List.take_length] at hall
      have HBL := Lib.hid hbl
      have htt := HTT.out
      subst htt
      obtain ⟨g, rfl, hC, hBy, hc1, hc2⟩ := OwnsA.by_ ho hall
      have hsl1 : a.sh.length = t0.length + 1 := by rw [HSL.out]; rfl
      have hgz : ¬ ((t0.length : Int) + 1 < (a.sh.length : Int)) := by omega
      have hgN : ¬ t0.length + 1 < a.sh.length := by omega
      clear hsl1 hgl
      have HBy := Lib.hid hBy
      have HHC := Lib.hid hC
      have HN6 := Lib.hid ht6
      clear hge ho hall hBy hbl hC hla5
      go_wp2_with fail
      refine (vector_own false _ _ _ (HU.out.mono HBL.out)).mono ?_
      rintro e w10 ⟨S1, cs1, D1, cd1, rfl, oS1, oD1, hb10⟩
      have hbl10 := (HBL.out).trans (hb10.mono (HBL.out).size)
      have hBy10 := (HBy.out).below hb10
      have glw1 := (HBy.out).cells.2.2
      obtain ⟨gc1, gf1, gl1⟩ := hBy10.cells
      obtain ⟨e01, he01⟩ := gc1 0 (by omega)
      obtain ⟨e11, he11⟩ := gc1 1 (by omega)
      obtain ⟨e21, he21⟩ := gc1 2 (by omega)
      have gb1 := grownBy_three w10 g (.bool false) (.slice S1 1 cs1) (.slice D1 (ints X).length cd1)
      have iV1 : IsArr (((w10.setCell ⟨g, 0, none⟩ (.bool false)).setCell ⟨g, 1, none⟩ (.slice S1 1 cs1)).setCell ⟨g, 2, none⟩ (.slice D1 (ints X).length cd1)) (.agg #[.bool false, .slice S1 1 cs1, .slice D1 (ints X).length cd1]) (⟨false, [((ints X).length : Int)], ints X⟩ : Arr) := ⟨_, _, rfl, (oS1.kept gb1 (.inr (oS1.ne_low glw1))).isInts, (oD1.kept gb1 (.inr (oD1.ne_low glw1))).isInts⟩
      have hput1 : IsArrs (((w10.setCell ⟨g, 0, none⟩ (.bool false)).setCell ⟨g, 1, none⟩ (.slice S1 1 cs1)).setCell ⟨g, 2, none⟩ (.slice D1 (ints X).length cd1)) (.slice (some ⟨g, 0, none⟩) (t0.length + 1) c) ((⟨false, [((ints X).length : Int)], ints X⟩ : Arr) :: allIdx t0) ∧ ByAt (((w10.setCell ⟨g, 0, none⟩ (.bool false)).setCell ⟨g, 1, none⟩ (.slice S1 1 cs1)).setCell ⟨g, 2, none⟩ (.slice D1 (ints X).length cd1)) w8.heap.size g us (n :: t0) := ByAt.put (bb := (⟨false, [((ints X).length : Int)], ints X⟩ : Arr)) hBy10 hc1 hc2 (by simpa using ht6) iV1
      have hbl11 : Below w8.heap.size w8 (((w10.setCell ⟨g, 0, none⟩ (.bool false)).setCell ⟨g, 1, none⟩ (.slice S1 1 cs1)).setCell ⟨g, 2, none⟩ (.slice D1 (ints X).length cd1)) := hbl10.grown gb1 hbl10.size (fun j e => by cases e; exact HHC.out)
      obtain ⟨t01, t11, t21⟩ := (HBA.out.below hbl11).three
      obtain ⟨v01, v11, v21⟩ := (HBA.out.below hbl10).three
      have HPUT1 := Lib.hid hput1
      have HBL1 := Lib.hid hbl11
      have nga : ¬ g = w.heap.size := by have := HHC.out; have := HBA.out.lt; omega
      have ngb : ¬ w.heap.size = g := fun e => nga e.symm
      clear hput1 hbl11 iV1 gb1 oS1 oD1 hBy10 hb10 glw1 hbl10
      go_wp2_with fail
      clear e01 he01 he11 he21 t01 t11 t21 v01 v11 v21 gc1 gf1 gl1 nga ngb
      generalize (((w10.setCell ⟨g, 0, none⟩ (.bool false)).setCell ⟨g, 1, none⟩ (.slice S1 1 cs1)).setCell ⟨g, 2, none⟩ (.slice D1 (ints X).length cd1)) = w11 at HPUT1 HBL1 ⊢
      have hXl : X.length = n := by rw [HXP.out.length_eq, List.length_range]
      have HXM := Lib.hid (mixed_at HT.out hXl (fun x hx => by simpa using HXP.out.mem_iff.1 hx))
      have hw11 := HBW.out.trans (HBL1.out.mono HBW.out.size)
      have HAT := Lib.hid (show Calls Try.prog 19 #[_, _] w11 (GivesOk (sortOf a) w11) from (at_ok (HA.out.mono hw11) HPUT1.out.1 (by have h := HXM.out.1; unfold mixIdx at h; rwa [length_ints]; )).mono fun e w' h => by rw [HXS.out, ← HXM.out.2]; unfold mixIdx; rw [length_ints] at h; exact h)
      refine HAT.out.mono ?_
      rintro e w12 ⟨r12, rfl, hr12, hb12⟩
      obtain ⟨A12, ca12, D12, cd12, rfl, -, -⟩ := hr12.open_
      have HR12 := Lib.hid hr12
      have hbl12 := HBL1.out.trans (hb12.mono HBL1.out.size)
      have HB12 := Lib.hid (HPUT1.out.2.below hb12)
      have b12 := Box.new w12 24 #[.bool (sortOf a).ch, .slice A12 (sortOf a).sh.length ca12, .slice D12 (sortOf a).da.length cd12]
      have h13 := below_one w12 (.cells #[.bool (sortOf a).ch, .slice A12 (sortOf a).sh.length ca12, .slice D12 (sortOf a).da.length cd12] 24)
      have hbl13 := hbl12.trans (h13.mono hbl12.size)
      obtain ⟨x0, x1, x2⟩ := (HBX.out.below hbl13).three
      obtain ⟨y0, y1, y2⟩ := (HBX.out.below hbl12).three
      obtain ⟨s0, s1, s2⟩ := b12.three
      have lx := (HBX.out.below hbl12).lt
      have HAL := Lib.hid (alike_nil _ _ _ _ _ (HR12.out.mono h13) (HX.out.mono hbl13))
      have HB13 := Lib.hid (HB12.out.below h13)
      have HBL13 := Lib.hid hbl13
      clear hr12 hb12 hbl12 h13 hbl13 b12 hw11
      go_wp2_with fail
      refine HAL.out.mono ?_
      rintro e w14 ⟨r14, rfl, hr14, hb14⟩
      obtain rfl : r14 = true := by first | exact hr14.2 rfl | exact hr14.2 trivial | simpa using hr14
      have HBL14 := Lib.hid (HBL13.out.trans (hb14.mono HBL13.out.size))
      have HB14 := Lib.hid (HB13.out.below hb14)
      have HW14 := Lib.hid (HBW.out.trans (HBL14.out.mono HBW.out.size))
      clear x0 x1 x2 y0 y1 y2 s0 s1 s2 lx hr14 hb14
      cases o with
      | false =>
        go_wp2_with fail
        go_ret
        exact ⟨rfl, HW14.out⟩
      | true =>
        obtain ⟨Q, rfl, hQ⟩ := order_open (HOB.out.1 rfl)
        obtain ⟨as_, x, hax, hx, hasl, hcx⟩ := EA.out.at_ (k := 0) (by simp [ints])
        subst hax
        obtain rfl : x = (n : Int) := by simpa [ints] using hx.symm
        rw [addr_add_zero] at hcx
        have hcA : w14.cell? as_ = some (.int .i64 (n : Int)) := (HBL14.out.cell hasl).trans hcx
        obtain ⟨t0a, t1a, t2a⟩ := (HBA.out.below HBL14.out).three
        have las := (HBA.out.below HBL14.out).lt
        have hs1 : 1 ≤ a.sh.length := by rw [HSL.out]; simp
        clear hx hcx
        by_cases hql : Q.length = n
        · have HQL := Lib.hid hql
          have HQP := Lib.hid hQ
          have d1 : (((ints Q).length : Int) != (n : Int)) = false := by rw [length_ints, hql]; simp
          have d2 : ((Q.length : Int) != (n : Int)) = false := by rw [hql]; simp
          clear hql hQ
          go_wp2_with fail
          refine (vector_own false _ _ _ (HP.out.mono HW14.out)).mono ?_
          rintro e w20 ⟨S2, cs2, D2, cd2, rfl, oS2, oD2, hb20⟩
          have hbl20 := (HBL14.out).trans (hb20.mono (HBL14.out).size)
          have hBy20 := (HB14.out).below hb20
          have glw2 := (HB14.out).cells.2.2
          obtain ⟨gc2, gf2, gl2⟩ := hBy20.cells
          obtain ⟨e02, he02⟩ := gc2 0 (by omega)
          obtain ⟨e12, he12⟩ := gc2 1 (by omega)
          obtain ⟨e22, he22⟩ := gc2 2 (by omega)
          have gb2 := grownBy_three w20 g (.bool false) (.slice S2 1 cs2) (.slice D2 (ints Q).length cd2)
          have iV2 : IsArr (((w20.setCell ⟨g, 0, none⟩ (.bool false)).setCell ⟨g, 1, none⟩ (.slice S2 1 cs2)).setCell ⟨g, 2, none⟩ (.slice D2 (ints Q).length cd2)) (.agg #[.bool false, .slice S2 1 cs2, .slice D2 (ints Q).length cd2]) (⟨false, [((ints Q).length : Int)], ints Q⟩ : Arr) := ⟨_, _, rfl, (oS2.kept gb2 (.inr (oS2.ne_low glw2))).isInts, (oD2.kept gb2 (.inr (oD2.ne_low glw2))).isInts⟩
          have hput2 : IsArrs (((w20.setCell ⟨g, 0, none⟩ (.bool false)).setCell ⟨g, 1, none⟩ (.slice S2 1 cs2)).setCell ⟨g, 2, none⟩ (.slice D2 (ints Q).length cd2)) (.slice (some ⟨g, 0, none⟩) (t0.length + 1) c) ((⟨false, [((ints Q).length : Int)], ints Q⟩ : Arr) :: allIdx t0) ∧ ByAt (((w20.setCell ⟨g, 0, none⟩ (.bool false)).setCell ⟨g, 1, none⟩ (.slice S2 1 cs2)).setCell ⟨g, 2, none⟩ (.slice D2 (ints Q).length cd2)) w8.heap.size g us (n :: t0) := ByAt.put (bb := (⟨false, [((ints Q).length : Int)], ints Q⟩ : Arr)) hBy20 hc1 hc2 (by simpa using ht6) iV2
          have hbl21 : Below w8.heap.size w8 (((w20.setCell ⟨g, 0, none⟩ (.bool false)).setCell ⟨g, 1, none⟩ (.slice S2 1 cs2)).setCell ⟨g, 2, none⟩ (.slice D2 (ints Q).length cd2)) := hbl20.grown gb2 hbl20.size (fun j e => by cases e; exact HHC.out)
          obtain ⟨t02, t12, t22⟩ := (HBA.out.below hbl21).three
          obtain ⟨v02, v12, v22⟩ := (HBA.out.below hbl20).three
          have HPUT2 := Lib.hid hput2
          have HBL2 := Lib.hid hbl21
          have nga : ¬ g = w.heap.size := by have := HHC.out; have := HBA.out.lt; omega
          have ngb : ¬ w.heap.size = g := fun e => nga e.symm
          clear hput2 hbl21 iV2 gb2 oS2 oD2 hBy20 hb20 glw2 hbl20
          go_wp2_with fail
          clear e02 he02 he12 he22 t02 t12 t22 v02 v12 v22 gc2 gf2 gl2 nga ngb
          generalize (((w20.setCell ⟨g, 0, none⟩ (.bool false)).setCell ⟨g, 1, none⟩ (.slice S2 1 cs2)).setCell ⟨g, 2, none⟩ (.slice D2 (ints Q).length cd2)) = w21 at HPUT2 HBL2 ⊢
          have HXM2 := Lib.hid (mixed_at HT.out HQL.out (fun x hx => by have := HQP.out.2 x hx; have := HQL.out; omega))
          have HOM := Lib.hid (mixOf_ok HT.out HQL.out (fun x hx => by have := HQP.out.2 x hx; have := HQL.out; omega))
          have HSM := Lib.hid (mix_sort HT.out (p := Q) (by
            have h := perm_range HQP.out
            rwa [HQL.out] at h))
          have hw21 := HBW.out.trans (HBL2.out.mono HBW.out.size)
          have HAT2 := Lib.hid (show Calls Try.prog 19 #[_, _] w21 (GivesOk (mixOf a t0 Q) w21) from (at_ok (HA.out.mono hw21) HPUT2.out.1 (by have h := HXM2.out.1; unfold mixIdx at h; rwa [length_ints])).mono fun e w' h => by rw [← HXM2.out.2]; unfold mixIdx; rw [length_ints] at h; exact h)
          refine HAT2.out.mono ?_
          rintro e w22 ⟨r22, rfl, hr22, hb22⟩
          obtain ⟨A22, ca22, D22, cd22, rfl, -, -⟩ := hr22.open_
          have HR22 := Lib.hid hr22
          have hbl22 := HBL2.out.trans (hb22.mono HBL2.out.size)
          have b22 := Box.new w22 24 #[.bool (mixOf a t0 Q).ch, .slice A22 (mixOf a t0 Q).sh.length ca22, .slice D22 (mixOf a t0 Q).da.length cd22]
          have h23 := below_one w22 (.cells #[.bool (mixOf a t0 Q).ch, .slice A22 (mixOf a t0 Q).sh.length ca22, .slice D22 (mixOf a t0 Q).da.length cd22] 24)
          have hbl23 := hbl22.trans (h23.mono hbl22.size)
          obtain ⟨s0, s1, s2⟩ := b22.three
          have HS2 := Lib.hid (sort_any (HR22.out.mono h23) HOM.out)
          rw [HSM.out] at HS2
          have hg22 : w8.heap.size ≤ w22.heap.size := hbl22.size
          clear hr22 hb22 hbl22 h23 hw21
          go_wp2_with fail
          refine HS2.out.mono ?_
          rintro e w24 ⟨r24, rfl, hr24, hb24⟩
          obtain ⟨A24, ca24, D24, cd24, rfl, -, -⟩ := hr24.open_
          have b24 := b22.below hb24
          obtain ⟨z0, z1, z2⟩ := b24.three
          have zf := b24.frozen
          have zl := b24.lt
          have hbl24 := hbl23.trans (hb24.mono hbl23.size)
          have gb3 := grownBy_three w24 w22.heap.size (.bool (sortOf a).ch) (.slice A24 (sortOf a).sh.length ca24) (.slice D24 (sortOf a).da.length cd24)
          have b3 := ((b24.store 0 (.bool (sortOf a).ch)).store 1 (.slice A24 (sortOf a).sh.length ca24)).store 2 (.slice D24 (sortOf a).da.length cd24)
          simp only [List.setIfInBounds_toArray, List.set_cons_zero, List.set_cons_succ] at b3
          have hr3 := hr24.laid b24 (.bool (sortOf a).ch) (.slice A24 (sortOf a).sh.length ca24) (.slice D24 (sortOf a).da.length cd24)
          have hbl3 := hbl24.grown gb3 hbl24.size (fun j e => by cases e; exact hg22)
          obtain ⟨q0, q1, q2⟩ := b3.three
          obtain ⟨x0, x1, x2⟩ := (HBX.out.below hbl3).three
          obtain ⟨y0, y1, y2⟩ := (HBX.out.below hbl24).three
          have lx := (HBX.out.below hbl24).lt
          have HAL2 := Lib.hid (alike_nil _ _ _ _ _ hr3 (HX.out.mono hbl3))
          have HBL3 := Lib.hid (HBW.out.trans (hbl3.mono HBW.out.size))
          have nxg : ¬ w4.heap.size = w22.heap.size := by have := HBX.out.lt; omega
          have ngx : ¬ w22.heap.size = w4.heap.size := fun e => nxg e.symm
          clear s0 s1 s2 b22 b24 b3 hr3 hr24 hb24 hbl24 hbl23 hbl3 gb3
          go_wp2_with fail
          refine HAL2.out.mono ?_
          rintro e w25 ⟨r25, rfl, hr25, hb25⟩
          obtain rfl : r25 = true := by first | exact hr25.2 rfl | exact hr25.2 trivial | simpa using hr25
          have HB25 := Lib.hid (HBL3.out.trans (hb25.mono HBL3.out.size))
          clear hr25 hb25 q0 q1 q2 x0 x1 x2 y0 y1 y2 z0 z1 z2 zf
          go_wp2_with fail
          go_ret
          exact ⟨rfl, HB25.out⟩
        · have d1 : (((ints Q).length : Int) != (n : Int)) = true := by rw [length_ints]; simp; omega
          have d2 : ((Q.length : Int) != (n : Int)) = true := by simp; omega
          clear hql hQ
          go_wp2_with fail
          go_ret
          exact ⟨rfl, HW14.out⟩

end Go.Proofs.Ytfaojciballhnaa
