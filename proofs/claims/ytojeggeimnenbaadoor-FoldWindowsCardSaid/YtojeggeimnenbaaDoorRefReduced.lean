/- The walk of the reference's Reduced. Conditions: none but these. -/
import Derived.Test.YtojeggeimnenbaaDoorRedPlain
set_option linter.unusedSimpArgs false
set_option linter.unusedVariables false
namespace Go.Proofs.YtojeggeimnenbaaDoor
open Go Go.RowKit Go.Proofs.YtojeggeimnenbaaDoor.P
theorem Elems.take {w : World} {A : Option Addr} {xs : List Int} (h : Elems w A xs) (k : Nat) : Elems w A (xs.take k) := fun j x hj => by
  rw [List.getElem?_take] at hj
  split at hj
  · exact h j x hj
  · cases hj
theorem Elems.drop {w : World} {g : Nat} {xs : List Int} (h : Elems w (some ⟨g, 0, none⟩) xs) (k : Nat) : Elems w (some ⟨g, k, none⟩) (xs.drop k) := fun j x hj => by
  rw [List.getElem?_drop] at hj
  obtain ⟨ad, e, h1, h2⟩ := h _ _ hj
  injection e with e
  subst e
  refine ⟨_, rfl, h1, ?_⟩
  rw [← h2, addr_zero_add]
  congr 1
  unfold Addr.add
  split
  · rename_i e; subst e; rfl
  · rfl
theorem line_zero {v vat : Value} {a : Arr} {t ix : List Nat} {w : World} {kk L : Nat} (ha : IsArr w v a) (ht : Ok a t) (hat : IsInts w vat (ints ix)) (hl : ix.length = t.length) (hk : kk < t.length) (hin : ∀ j, j < t.length → j ≠ kk → ix.getD j 0 < t.getD j 0) (hFL : L ≤ t.getD kk 0) :
    Calls Tryd.prog 30 #[v, .int .i64 kk, vat, .int .i64 0, .int .i64 L] w fun e w' => ∃ r, e = .returned r ∧ IsInts w' r (rline a t ix kk 0 L) ∧ Below w.heap.size w w' :=
  line_any (F := 0) ha ht hat hl hk hin (by omega)
set_option maxRecDepth 100000 in
set_option maxHeartbeats 8000000 in
theorem reduced_rtold {v : Value} {a : Arr} {w : World} {f axis : Int} (ha : IsArr w v a) (hw : Wf a.da) :
    Calls Tryd.prog 9 #[.int .i64 f, .int .i64 axis, v] w (RTold (redOf f a a.nsh axis.toNat) (redFault f axis a) w) := by
  obtain ⟨A, ca, D, cd, rfl, hs, hd⟩ := ha.open_
  have HA := Lib.hid ha
  have HS := Lib.hid hs
  have HW := Lib.hid hw
  have HTE0 := Lib.hid (show redFault f axis a = redFault f axis a from rfl)
  obtain ⟨RA, hRA⟩ : ∃ RA, RA = redOf f a a.nsh axis.toNat := ⟨_, rfl⟩
  obtain ⟨RE, hRE⟩ : ∃ RE, RE = redFault f axis a := ⟨_, rfl⟩
  have HRA := Lib.hid hRA
  have HRE := Lib.hid hRE
  rw [← hRA, ← hRE]
  have HTE := Lib.hid (show ∀ e w', RTold RA RE w e w' ↔ RTold RA RE w e w' from fun _ _ => Iff.rfl)
  clear ha hs hd hw hRA hRE
  go_enter Tryd.func9, Tryd.ntmps9
  have z1 := (Box.new w 25 #[.bool a.ch, .slice A a.sh.length ca, .slice D a.da.length cd]).alloc (.cells #[.bool false, .slice none 0 0, .slice none 0 0] 25)
  have z3 := Box.new (w.alloc (.cells #[.bool a.ch, .slice A a.sh.length ca, .slice D a.da.length cd] 25)) 25 #[.bool false, .slice none 0 0, .slice none 0 0]
  simp only [World.size_alloc] at z3
  have hb0 := below_two w (.cells #[.bool a.ch, .slice A a.sh.length ca, .slice D a.da.length cd] 25) (.cells #[.bool false, .slice none 0 0, .slice none 0 0] 25)
  obtain ⟨t0, t1, t2⟩ := z1.three
  go_wp2_with fail
  refine (linefault_any (HA.out.mono hb0)).mono ?_
  rintro e w1 ⟨rfl, hb1⟩
  have bA := z1.below hb1
  have bR := z3.below hb1
  have hbw := hb0.trans (hb1.mono hb0.size)
  clear z1 z3 hb0 hb1 t0 t1 t2
  obtain ⟨q0, q1, q2⟩ := bR.three
  have qf := bR.frozen
  have hzR := bR.lt
  by_cases c1 : foldErr f axis a = 0
  case neg =>
    obtain ⟨E, hE⟩ : ∃ E, E = foldErr f axis a := ⟨_, rfl⟩
    have HE := Lib.hid (show RE = E by rw [HRE.out, hE]; unfold redFault; rw [if_pos c1])
    rw [← hE] at c1 ⊢
    have HNZ := Lib.hid c1
    have e1 : (E != 0) = true := by simpa using c1
    clear c1 hE
    go_wp2_with fail
    refine bodyPost_ret (v := .tuple #[zeroArr, .int .i64 E]) (by simp [results, Tryd.results9, go_sem, q0, q1, q2, hzR]) rfl ?_
    rw [HE.out]
    have hbX := hbw
    exact RTold.bad HNZ.out (by have := hbX.size; go_grown)
  obtain ⟨t, kk, ht, rfl, hkk, hca, hfz⟩ := foldErr_zero c1
  rw [c1]
  have HT := Lib.hid ht
  have HKK := Lib.hid hkk
  have HCA := Lib.hid hca
  obtain ⟨u, hu⟩ : ∃ u, u = t.eraseIdx kk := ⟨_, rfl⟩
  have HU := Lib.hid hu
  obtain ⟨L, hL⟩ : ∃ L, L = t.getD kk 0 := ⟨_, rfl⟩
  have HLL := Lib.hid hL
  have hL4 : L ≤ 4096 := by rw [hL, List.getD_eq_getElem?_getD, List.getElem?_eq_getElem hkk]; exact ht.good.2.1 _ (List.getElem_mem _)
  have hal : a.sh.length = t.length := by rw [ht.sh, length_ints]
  have HAL := Lib.hid hal
  have hul : u.length + 1 = t.length := by rw [hu, List.length_eraseIdx, if_pos hkk]; omega
  have HUL := Lib.hid hul
  have ht6 := ht.good.1
  have HU6 := Lib.hid (show u.length ≤ 6 by omega)
  have HU4 := Lib.hid (show ∀ n ∈ u, n ≤ 4096 from fun n hn => ht.good.2.1 n (List.mem_of_mem_eraseIdx (by rw [← hu]; exact hn)))
  have HUS := Lib.hid (show a.sh.eraseIdx kk = ints u by rw [ht.sh, ints_eraseIdx, hu])
  have hka : kk < a.sh.length := by omega
  have HXK := Lib.hid (show a.sh[kk]? = some (L : Int) by rw [ht.sh, hL]; exact ints_get hkk)
  obtain ⟨as_, x, hax, hx, has, hcx⟩ := Elems.later (IsInts.elems HS.out) hbw hka
  rw [HXK.out] at hx
  injection hx with hx
  subst hx
  have HF0 := Lib.hid (show RE = if redErr f t kk ≠ 0 then redErr f t kk else firstErr (fun q => (ofR f (lnR a t kk q)).2) ((lineF t kk).1 * (lineF t kk).2.2) by
    rw [HRE.out]; unfold redFault; rw [if_neg (fun h => h c1), ht.nsh_eq, Int.toNat_natCast])
  have HRA2 := Lib.hid (show RA = redOf f a t kk by rw [HRA.out, ht.nsh_eq, Int.toNat_natCast])
  subst hax
  clear c1 ht hkk hca hfz hu hL hal hul q0 q1 q2 qf
  obtain ⟨t0, t1, t2⟩ := bA.three
  have hlA := bA.lt
  have HNU := Lib.hid (fun W => rneutral_any f W)
  obtain ⟨NV, hNV⟩ : ∃ z, z = neutV f := ⟨_, rfl⟩
  obtain ⟨NE, hNE⟩ : ∃ z, z = neutE f := ⟨_, rfl⟩
  have HNE := Lib.hid hNE
  rw [← hNV, ← hNE] at HNU
  clear hNV hNE
  have hcase : (L = 0 ∧ NE ≠ 0) ∨ (((L : Int) == 0) = true ∧ (NE != 0) = false) ∨ (((L : Int) == 0) = false) := by
    by_cases h0 : L = 0
    · by_cases h1 : NE = 0
      · exact .inr (.inl ⟨by simp [h0], by simp [h1]⟩)
      · exact .inl ⟨h0, h1⟩
    · exact .inr (.inr (by simpa using h0))
  rcases hcase with ⟨h0, h1⟩ | hcase
  · have d1 : ((L : Int) == 0) = true := by simp [h0]
    have d2 : (NE != 0) = true := by simpa using h1
    have HE := Lib.hid (show RE = NE by
      have h3 : redErr f t kk = neutE f := by unfold redErr; rw [if_pos (by rw [← HLL.out]; exact h0), if_pos (by rw [← HNE.out]; exact h1)]
      rw [HF0.out, h3, ← HNE.out, if_pos h1])
    have HNZ := Lib.hid h1
    clear h0 h1
    go_wp2_with fail
    refine (HNU.out _).mono ?_
    rintro e w2 ⟨rfl, rfl⟩
    obtain ⟨q0, q1, q2⟩ := bR.three
    have qf := bR.frozen
    go_wp2_with fail
    refine bodyPost_ret (v := .tuple #[zeroArr, .int .i64 NE]) (by simp [results, Tryd.results9, go_sem, q0, q1, q2, hzR]) rfl ?_
    rw [HE.out]
    have hbX := hbw
    exact RTold.bad HNZ.out (by have := hbX.size; go_grown)
  have HNN := Lib.hid (show L = 0 → neutE f = 0 from fun h0 => by
    rcases hcase with ⟨-, h2⟩ | h2
    · rw [← HNE.out]; simpa using h2
    · simp [h0] at h2)
  have HRE2 := Lib.hid (show redErr f t kk = if 4096 < prod u then 7 else 0 by rw [HU.out]; exact redErr_small HKK.out HT.out.good (by rw [← HLL.out]; exact HNN.out))
  rcases hcase with ⟨d1, d2⟩ | d1
  all_goals
    go_wp2_with fail
    refine (HNU.out _).mono ?_
    rintro e w2 ⟨rfl, rfl⟩
    go_wp2_with fail
    clear t0 t1 t2 hlA hcx has d1
    go_loopw [11, 10] (fun s11 s10 wr => ∃ (k n4 : Nat) (A4 : Option Addr) (c4 : Nat), k ≤ t.length ∧ n4 = kept1 kk k ∧ s11 = .int .i64 k ∧ s10 = .slice A4 n4 c4 ∧ Owns wr w1.heap.size (.slice A4 n4 c4) n4 ((ints u).take n4) ∧ Below w1.heap.size w1 wr) (fun s11 _ _ => t.length - (intOf s11).toNat)
    case atStart => exact ⟨0, 0, none, 0, Nat.zero_le _, by unfold kept1; rw [if_pos (Nat.zero_le _)], rfl, rfl, Owns.nil _ _, Below.refl _ _⟩
    case round =>
      obtain ⟨k, n4, A4, c4, hk, hn4, rfl, rfl, ho, hbl⟩ := hrel
      have HN4 := Lib.hid hn4
      have n46 : n4 ≤ 6 := by have := HT.out.good.1; rw [hn4]; unfold kept1; split <;> omega
      clear hn4
      obtain ⟨t0, t1, t2⟩ := (bA.below hbl).three
      have hlA := (bA.below hbl).lt
      have hbwr := hbw.trans (hbl.mono hbw.size)
      rcases Nat.lt_or_ge k t.length with hlt | hge
      · have hkal : k < a.sh.length := by rw [HAL.out]; exact hlt
        have hk6 : k < 6 := by have := HT.out.good.1; omega
        obtain ⟨ay, y, hay, hy, hly, hcy⟩ := Elems.later (IsInts.elems HS.out) hbwr hkal
        injection hay with hay
        subst hay
        have HY := Lib.hid hy
        have HK := Lib.hid hlt
        have hkw : IntKind.i64.wrap ((k : Int) + 1) = (k : Int) + 1 := IntWalk.i64_in _ (by omega)
        by_cases hek : k = kk
        · subst hek
          have d3 : ((k : Int) != (k : Int)) = false := by simp
          clear hy hlt
          go_wp2_with fail
          go_roundw
          case rel => exact ⟨k + 1, n4, A4, c4, by have := HK.out; omega, by rw [HN4.out, kept1_miss], by go_num, rfl, ho, hbl⟩
          case measure => simp [intOf]; have := HK.out; omega
        · have d3 : ((k : Int) != (kk : Int)) = true := by simp; omega
          have HH := Lib.hid (kept1_hit HY.out hek)
          clear hek hy hlt
          go_wp2_with (at_builtin; refine wpList_append_ints _ rfl rfl _ _ rfl w1.heap.size n4 _ ((ints u).take n4) rfl (ho.alloc _) (some ⟨wr.heap.size, 0, none⟩) 1 1 [y] rfl (by simp) (elems_new wr y) rfl (by omega) (by have := hbl.size; simp; omega) ?_; intro A5 c5 w5 hown5 hgrow5 hat5)
          have hbl5 := (hbl.trans ((below_one wr _).mono hbl.size)).grown hgrow5 (by have := hbl.size; simp; omega) (fun j e => (ho.lt e).1)
          clear hgrow5 hat5
          go_roundw
          case rel => exact ⟨k + 1, n4 + 1, A5, c5, by have := HK.out; omega, by rw [HN4.out, HH.out.2], by go_num, rfl, by rw [← take_at (by rw [← HUS.out, HN4.out]; exact HH.out.1)]; exact hown5, hbl5⟩
          case measure => simp [intOf]; have := HK.out; omega
      · have hke : t.length = k := by omega
        have hn5 : n4 = u.length := by rw [HN4.out, ← hke, kept1_all HKK.out]; have := HUL.out; omega
        subst hn5
        rw [List.take_of_length_le (by rw [length_ints]; exact Nat.le_refl _)] at ho
        have dk : decide (k < a.sh.length) = false := by rw [HAL.out]; simp; omega
        have HO := Lib.hid ho
        have HBL := Lib.hid hbl
        have HBW := Lib.hid hbwr
        have bAr := bA.below hbl
        have bRr := bR.below hbl
        obtain ⟨q0, q1, q2⟩ := bRr.three
        have qf := bRr.frozen
        have hzRr := bRr.lt
        clear ho hbl hbwr hge hk hke n46 bA bR hzR hbw HN4
        go_wp2_with fail
        refine (fault_any _ (ints u) _ HO.out.isInts).mono ?_
        rintro e w3 ⟨rfl, rfl⟩
        rw [cntErr_big HU6.out HU4.out]
        by_cases hp : 4096 < prod u
        · rw [if_pos hp] at HRE2 ⊢
          have HE := Lib.hid (show RE = 7 by rw [HF0.out, HRE2.out, if_pos (by decide)])
          have HNZ := Lib.hid (show (7 : Int) ≠ 0 by decide)
          clear hp
          go_wp2_with fail
          refine bodyPost_ret (v := .tuple #[zeroArr, .int .i64 7]) (by simp [results, Tryd.results9, go_sem, q0, q1, q2, hzRr]) rfl ?_
          rw [HE.out]
          have hbX := HBW.out
          exact RTold.bad HNZ.out (by have := hbX.size; go_grown)
        · rw [if_neg hp] at HRE2 ⊢
          have hg : GoodSh u := ⟨HU6.out, HU4.out, by omega⟩
          have HG := Lib.hid hg
          have HPU := Lib.hid (show (lineF t kk).1 * (lineF t kk).2.2 = prod u by rw [HU.out]; exact but_prod HKK.out)
          have HF1 := Lib.hid (show RE = firstErr (fun q => (ofR f (lnR a t kk q)).2) (prod u) by rw [HF0.out, HRE2.out, if_neg (fun h => h rfl), HPU.out])
          obtain ⟨N, hN⟩ : ∃ N, N = prod u := ⟨_, rfl⟩
          have HN := Lib.hid hN
          have hN4 : N ≤ 4096 := by rw [hN]; omega
          obtain ⟨X, hX⟩ : ∃ X, X = (List.range N).map fun q => (ofR f (lnR a t kk q)).1 := ⟨_, rfl⟩
          have HX := Lib.hid hX
          have HXL := Lib.hid (show X.length = N by rw [hX, List.length_map, List.length_range])
          clear hp hg hN hX q0 q1 q2 qf hzRr
          have HSI := Lib.hid HO.out.isInts
          have bO0 := Box.new wr 25 #[.bool false, .slice A4 u.length c4, .slice none 0 0]
          have hb30 := below_one wr (.cells #[.bool false, .slice A4 u.length c4, .slice none 0 0] 25)
          obtain ⟨w3, hw3⟩ : ∃ w3, w3 = wr := ⟨_, rfl⟩
          obtain ⟨g, hgg⟩ : ∃ g, g = wr.heap.size := ⟨_, rfl⟩
          subst hw3
          have HGG := Lib.hid hgg
          rw [← hgg] at bO0
          go_wp2_with fail
          refine (cells_ok _ u _ (HSI.out.mono hb30) HG.out).mono ?_
          rintro e w4 ⟨rfl, rfl⟩
          rw [← HN.out]
          obtain ⟨t0, t1, t2⟩ := (bAr.below hb30).three
          go_wp2_with fail
          rw [← hgg]
          clear t0 t1 t2 hgg
          have HSZ := Lib.hid (show g + 1 = (w3.alloc (.cells #[.bool false, .slice A4 u.length c4, .slice none 0 0] 25)).heap.size by rw [HGG.out]; simp)
          go_loopw [14] (fun s14 wx => ∃ (i : Nat) (A5 : Option Addr) (c5 : Nat), i ≤ N ∧ s14 = .int .i64 i ∧ (∀ q, q < i → (ofR f (lnR a t kk q)).2 = 0) ∧ Box wx g 25 #[.bool false, .slice A4 u.length c4, .slice A5 i c5] ∧ Owns wx (g + 1) (.slice A5 i c5) i (X.take i) ∧ Below w3.heap.size w3 wx ∧ g + 1 ≤ wx.heap.size) (fun s14 _ => N - (intOf s14).toNat)
          case atStart => exact ⟨0, none, 0, Nat.zero_le _, rfl, fun q h => absurd h (Nat.not_lt_zero _), bO0, Owns.nil _ _, hb30, by rw [HSZ.out]; exact Nat.le_refl _⟩
          case round =>
            clear bO0 hb30
            obtain ⟨i, A5, c5, hi, rfl, her, bO, ho, hbl, hsz⟩ := hrel
            have HER := Lib.hid her
            clear her
            have hbwr := HBW.out.trans (hbl.mono HBW.out.size)
            rcases Nat.lt_or_ge i N with hlt | hge
            · have HI := Lib.hid hlt
              have HPI := Lib.hid (show i < prod u by rw [← HN.out]; exact hlt)
              have HBO := Lib.hid bO
              have HOW := Lib.hid ho
              have HBL := Lib.hid hbl
              have hiw : IntKind.i64.wrap ((i : Int) + 1) = (i : Int) + 1 := IntWalk.i64_in _ (by omega)
              clear bO ho hlt
              go_wp2_with fail
              refine (coords_ok _ u i _ (HSI.out.mono hbl) HU6.out HU4.out HPI.out (by omega)).mono ?_
              rintro e w5 ⟨g5, rfl, hg5, hr5, hb5⟩
              obtain ⟨c, hc⟩ : ∃ c, c = coords u i := ⟨_, rfl⟩
              rw [← hc] at hr5
              have HCC := Lib.hid hc
              have hcl : c.length = u.length := by rw [hc, length_coords]
              have HCL := Lib.hid hcl
              have HEL := Lib.hid (IsInts.elems (hr5.isInts (n := u.length) (by rw [length_ints]; exact hcl.symm) (by have := HU6.out; omega)))
              have hku : kk ≤ u.length := by have := HUL.out; have := HKK.out; omega
              have hu6 : u.length ≤ 6 := HU6.out
              have HY1 := Lib.hid (show (ints (c.take kk)).length = kk by rw [length_ints, List.length_take]; omega)
              have HY3 := Lib.hid (show (ints (c.drop kk)).length = u.length - kk by rw [length_ints, List.length_drop]; omega)
              have HE1 := Lib.hid (show Elems w5 (some ⟨g5, 0, none⟩) (ints (c.take kk)) by have := Elems.take HEL.out kk; rwa [show (ints c).take kk = ints (c.take kk) by unfold ints; rw [List.map_take]] at this)
              have HE3 := Lib.hid (show Elems w5 (some ⟨g5, kk, none⟩) (ints (c.drop kk)) by have := Elems.drop HEL.out kk; rwa [show (ints c).drop kk = ints (c.drop kk) by unfold ints; rw [List.map_drop]] at this)
              have HE30 := Lib.hid (show u.length = kk → ∀ W A, Elems W A (ints (c.drop kk)) from fun e W A j x h => by rw [List.drop_of_length_le (by omega)] at h; simp [ints] at h)
              clear hc hcl hr5 hg5
              have hbw5 := hbwr.trans (hb5.mono hbwr.size)
              have HB5 := Lib.hid hb5
              have HBW5 := Lib.hid hbw5
              have hs5 := hb5.size
              clear hb5 hbw5
              go_wp2_with (at_builtin; first
                | (refine wpList_append_ints _ rfl rfl _ _ rfl w5.heap.size 0 _ [] rfl (Owns.nil _ _) (some ⟨g5, 0, none⟩) kk u.length (ints (c.take kk)) rfl (fun e => by cases e) HE1.out HY1.out (by omega) (Nat.le_refl _) ?_; intro A6 c6 w6 hown6 hgrow6 hat6; simp only [Nat.zero_add, List.nil_append] at hown6 ⊢; have hb6 := (Below.refl w5.heap.size w5).grown hgrow6 (Nat.le_refl _) (fun j e => by cases e); have hs6 := hgrow6.size; clear hgrow6 hat6)
                | (refine wpList_append_ints _ rfl rfl _ _ rfl w5.heap.size kk _ (ints (c.take kk)) rfl (hown6.alloc _) (some ⟨w6.heap.size, 0, none⟩) 1 1 [0] rfl (by simp) (elems_new w6 0) rfl (by omega) (by simp; omega) ?_; intro A7 c7 w7 hown7 hgrow7 hat7; have hb7 := (hb6.trans ((below_one w6 _).mono hb6.size)).grown hgrow7 (by simp; omega) (fun j e => (hown6.lt e).1); have hs7 := hb7.size; have HE37 := Lib.hid (HE3.out.mono hb7); clear hgrow7 hat7 hown6 hb6 hs6)
                | (generalize hPP : (if u.length = kk then some (⟨g5, 0, none⟩ : Addr) else some ⟨g5, kk, none⟩) = PP; have hPN : PP = none → False := (fun e => by rw [← hPP] at e; split at e <;> cases e); have hPE : Elems w7 PP (ints (c.drop kk)) := (by rw [← hPP]; split <;> first | exact HE37.out | exact HE30.out (by assumption) _ _); clear hPP; refine wpList_append_ints _ rfl rfl _ _ rfl w5.heap.size (kk + 1) _ (ints (c.take kk) ++ [0]) rfl hown7 PP (u.length - kk) (u.length - kk) (ints (c.drop kk)) rfl (fun e => absurd (hPN e) id) hPE HY3.out (by omega) hs7 ?_; intro A8 c8 w8 hown8 hgrow8 hat8; clear hPN hPE; have hb8 := hb7.grown hgrow8 hb7.size (fun j e => (hown7.lt e).1); have hbw8 := HBW5.out.trans (hb8.mono HBW5.out.size); have hbl8 := HBL.out.trans ((HB5.out.trans (hb8.mono HB5.out.size)).mono HBL.out.size); have bA8 := bAr.below hbl8; obtain ⟨t0, t1, t2⟩ := bA8.three; have hlA := bA8.lt))
              have hat := hown8.isInts
              have HAT := Lib.hid (show IsInts w8 (.slice A8 (kk + 1 + (u.length - kk)) c8) (ints (through c kk)) by
                have e9 : ints (c.take kk) ++ [0] ++ ints (c.drop kk) = ints (through c kk) := by unfold through ints; simp
                rw [← e9]; exact hat)
              have HIC := Lib.hid (show Inside (t.eraseIdx kk) c by rw [← HU.out, HCC.out]; exact coords_inside HPI.out)
              have HB8 := Lib.hid (HB5.out.trans (hb8.mono HB5.out.size))
              have HBW8 := Lib.hid hbw8
              clear hat hown8 hgrow8 hat8 hb8 hbw8 hbl8 bA8 hown7 hb7 hs7
              refine (line_zero (HA.out.mono HBW8.out) HT.out HAT.out (by rw [through_length (by rw [HCL.out]; exact hku), HCL.out]; exact HUL.out) HKK.out (through_in HKK.out HIC.out) (by rw [HLL.out]; exact Nat.le_refl _)).mono ?_
              rintro e w9 ⟨r9, rfl, hr9, hb9⟩
              have hln : rline a t (through c kk) kk 0 L = lnR a t kk i := by rw [HLL.out]; exact through_line HKK.out (by rw [← HU.out]; exact HPI.out) (by rw [← HU.out]; exact HCC.out)
              have HWD := Lib.hid (show ∀ z ∈ rline a t (through c kk) kk 0 L, Word z from fun z hz => by
                unfold rline at hz
                obtain ⟨j, -, rfl⟩ := List.mem_map.1 hz
                exact word_getD HW.out _)
              have HLN := Lib.hid (show (rline a t (through c kk) kk 0 L).length ≤ 4096 by unfold rline; rw [List.length_map, List.length_range]; exact hL4)
              rw [hln] at hr9 HWD HLN
              have HFD := Lib.hid (rfolded_any f (lnR a t kk i) r9 w9 hr9 HLN.out HWD.out)
              have HB9 := Lib.hid (HB8.out.trans (hb9.mono HB8.out.size))
              obtain ⟨V, hV⟩ : ∃ V, V = (ofR f (lnR a t kk i)).1 := ⟨_, rfl⟩
              obtain ⟨E, hE⟩ : ∃ E, E = (ofR f (lnR a t kk i)).2 := ⟨_, rfl⟩
              rw [← hV, ← hE] at HFD
              have HVV := Lib.hid hV
              have HEE := Lib.hid hE
              clear hV hE hr9 hb9 hln t0 t1 t2 hlA
              have bO9 := HBO.out.below HB9.out
              have ho9 := HOW.out.below HB9.out
              have hbl9 := HBL.out.trans (HB9.out.mono HBL.out.size)
              have hbw9 := hbwr.trans (HB9.out.mono hbwr.size)
              have hs9 := HB9.out.size
              by_cases hz : E = 0
              · have HZ := Lib.hid hz
                subst hz
                go_wp2_with fail
                refine HFD.out.mono ?_
                rintro e w10 ⟨rfl, rfl⟩
                obtain ⟨g0, g1, g2⟩ := bO9.three
                have hlg := bO9.lt
                go_wp2_with (at_builtin; refine wpList_append_ints _ rfl rfl _ _ rfl (g + 1) i _ (X.take i) rfl (ho9.alloc _) (some ⟨w9.heap.size, 0, none⟩) 1 1 [V] rfl (by simp) (elems_new w9 V) rfl (by omega) (by simp; omega) ?_; intro A10 c10 w10 hown10 hgrow10 hat10; have b10 := Box.grown (w := w9.alloc _) (bO9.alloc _) hgrow10 (ho9.ne_box bO9 (by decide)); have hc10 := b10.three.2.2; have hf10 := b10.frozen 2; have hl10 := b10.lt)
                have HXK := Lib.hid (show X[i]? = some V by rw [HX.out, List.getElem?_map, List.getElem?_range HI.out, HVV.out]; rfl)
                go_roundw
                case rel => exact ⟨i + 1, A10, c10, by have := HI.out; omega, by go_num, (fun q hq => by
                  rcases Nat.lt_or_ge q i with h | h
                  · exact HER.out q h
                  · obtain rfl : q = i := by omega
                    exact HEE.out.symm), b10.store 2 _, by rw [← take_at HXK.out]; exact hown10.setCell (p := ⟨g, 2, none⟩) (hown10.ne_box b10 (by decide)) _, ((hbl9.alloc hbl9.size _).grown hgrow10 (by have := hbl9.size; simp; omega) (fun j e => by have := (ho9.lt e).1; have := HGG.out; omega)).setCell (p := ⟨g, 2, none⟩) (by rw [HGG.out]; exact Nat.le_refl _) _, by have := hgrow10.size; simp at this ⊢; omega⟩
                case measure => simp [intOf]; have := HI.out; omega
              · have ez : (E != 0) = true := by simpa using hz
                have HNZ := Lib.hid hz
                have HE := Lib.hid (show RE = E by
                  rw [HF1.out, HEE.out]
                  exact firstErr_at (p := fun q => (ofR f (lnR a t kk q)).2) HER.out (by rw [← HEE.out]; exact hz) HPI.out)
                clear hz
                go_wp2_with fail
                refine HFD.out.mono ?_
                rintro e w10 ⟨rfl, rfl⟩
                have bR9 := bRr.below hbl9
                obtain ⟨q0, q1, q2⟩ := bR9.three
                have qf := bR9.frozen
                have hzR9 := bR9.lt
                go_wp2_with fail
                refine bodyPost_ret (v := .tuple #[zeroArr, .int .i64 E]) (by simp [results, Tryd.results9, go_sem, q0, q1, q2, hzR9]) rfl ?_
                rw [HE.out]
                have hbX := hbw9
                exact RTold.bad HNZ.out (by have := hbX.size; go_grown)
            · have hke : i = N := by omega
              subst hke
              rw [List.take_of_length_le (by rw [HXL.out]; exact Nat.le_refl _)] at ho
              obtain ⟨g0, g1, g2⟩ := bO.three
              have b3 := bRr.below hbl
              have rf := b3.frozen
              obtain ⟨e0, e1, e2⟩ := b3.three
              have rl := b3.lt
              have hlg := bO.lt
              have HBO := Lib.hid bO
              have HOW := Lib.hid ho
              have HBL := Lib.hid hbl
              clear bO ho
              go_wp2_with fail
              have hg3 := grownBy_three wr (w.heap.size + 1) (.bool false) (.slice A4 u.length c4) (.slice A5 i c5)
              have z := ((b3.store 0 (.bool false)).store 1 (.slice A4 u.length c4)).store 2 (.slice A5 i c5)
              simp only [List.setIfInBounds_toArray, List.set_cons_zero, List.set_cons_succ] at z
              obtain ⟨z0, z1, z2⟩ := z.three
              have zl := z.lt
              refine bodyPost_ret (v := .tuple #[.agg #[.bool false, .slice A4 u.length c4, .slice A5 i c5], .int .i64 0]) (by simp [results, Tryd.results9, go_sem, z0, z1, z2, zl]) rfl ?_
              have hE0 : RE = 0 := by rw [HF1.out, ← HN.out]; exact firstErr_zero HER.out
              refine RTold.ok hE0 ?_ (hbwr.grown hg3 hbwr.size (fun j e => by cases e; omega))
              rw [HRA2.out]
              have hra : redOf f a t kk = ⟨false, ints u, X⟩ := by unfold redOf; rw [HUS.out, HPU.out, ← HN.out, HX.out]
              have hul : (ints u).length = u.length := length_ints u
              have hia : IsArr wr (.agg #[.bool false, .slice A4 u.length c4, .slice A5 i c5]) (⟨false, ints u, X⟩ : Arr) := ⟨_, _, rfl, HSI.out.mono HBL.out, HOW.out.isInts⟩
              rw [hra]
              exact hia.stored b3 _ _ _
end Go.Proofs.YtojeggeimnenbaaDoor
