/- The walk of the reference's lined, windows. Conditions: none but these. -/
import Derived.Test.YtojeggeimnenbaaDoorAlongPlain
import Derived.Test.YtojeggeimnenbaaDoorRefReduced
import Derived.Test.YtojeggeimnenbaaDoorGround
set_option linter.unusedSimpArgs false
set_option linter.unusedVariables false
namespace Go.Proofs.YtojeggeimnenbaaDoor
open Go Go.RowKit Go.Proofs.YtojeggeimnenbaaDoor.P
set_option maxRecDepth 100000 in
set_option maxHeartbeats 40000000 in
theorem lined_win {v : Value} {a : Arr} {t : List Nat} {w : World} {f : Int} {kk m : Nat} (ha : IsArr w v a) (ht : Ok a t) (hkk : kk < t.length) (hw : Wf a.da) (hm : 1 ≤ m) (hmt : m ≤ t.getD kk 0) :
    Calls Tryd.prog 39 #[.int .i64 f, .int .i64 kk, v, .int .i64 ((t.getD kk 0 - m + 1) : Nat), .int .i64 (m : Nat)] w (RTold (alongOf f a t kk (t.getD kk 0 - m + 1) (fun j => j) (fun _ => m)) (alongErr f a t kk (t.getD kk 0 - m + 1) (fun j => j) (fun _ => m)) w) := by
  obtain ⟨A, ca, D, cd, rfl, hs, hd⟩ := ha.open_
  have HA := Lib.hid ha
  have HS := Lib.hid hs
  have HW := Lib.hid hw
  have HT := Lib.hid ht
  have HKK := Lib.hid hkk
  obtain ⟨RA, hRA⟩ : ∃ RA, RA = alongOf f a t kk (t.getD kk 0 - m + 1) (fun j => j) (fun _ => m) := ⟨_, rfl⟩
  obtain ⟨RE, hRE⟩ : ∃ RE, RE = alongErr f a t kk (t.getD kk 0 - m + 1) (fun j => j) (fun _ => m) := ⟨_, rfl⟩
  rw [← hRA, ← hRE]
  have HRA := Lib.hid hRA
  have HRE := Lib.hid hRE
  have HTE := Lib.hid (show ∀ e w', RTold RA RE w e w' ↔ RTold RA RE w e w' from fun _ _ => Iff.rfl)
  obtain ⟨M, hM⟩ : ∃ M, M = (t.getD kk 0 - m + 1) := ⟨_, rfl⟩
  rw [← hM]
  obtain ⟨us, hu⟩ : ∃ us, us = t.set kk M := ⟨_, rfl⟩
  have hL4 : t.getD kk 0 ≤ 4096 := by rw [List.getD_eq_getElem?_getD, List.getElem?_eq_getElem hkk]; exact ht.good.2.1 _ (List.getElem_mem _)
  have hMt : M ≤ t.getD kk 0 := by rw [hM]; omega
  have HMM := Lib.hid hM
  have HMT := Lib.hid hMt
  have hg : GoodSh us := by rw [hu]; exact good_less ht.good hkk hMt
  have HG := Lib.hid hg
  have HU := Lib.hid hu
  have hul : us.length = t.length := by rw [hu, List.length_set]
  have HUL := Lib.hid hul
  have hal : a.sh.length = t.length := by rw [ht.sh, length_ints]
  have HAL := Lib.hid hal
  have HSH := Lib.hid ht.sh
  have HSU := Lib.hid (show (ints t).set kk (M : Int) = ints us by rw [hu, ints_set])
  have HSA := Lib.hid (show a.sh.set kk (M : Int) = ints us by rw [ht.sh, hu, ints_set])
  have ht6 : t.length ≤ 6 := ht.good.1
  obtain ⟨N, hN⟩ : ∃ N, N = prod us := ⟨_, rfl⟩
  have hN4 : N ≤ 4096 := by rw [hN]; exact hg.2.2
  have HN := Lib.hid hN
  obtain ⟨X, hX⟩ : ∃ X, X = (List.range N).map fun q => (ofR f (lnG a t kk (t.getD kk 0 - m + 1) (fun j => j) (fun _ => m) q)).1 := ⟨_, rfl⟩
  have HX := Lib.hid hX
  have HXL := Lib.hid (show X.length = N by rw [hX, List.length_map, List.length_range])
  have hM4 : M ≤ 4096 := by omega
  have HL4 := Lib.hid hL4
  obtain ⟨as_, x, hax, -, has, -⟩ := Elems.later (k := kk) (IsInts.elems hs) (Below.refl w.heap.size w) (by omega)
  subst hax
  clear ha hs hd hw ht hRA hRE hM hu hg hul hal hN hX hMt hL4
  have HA6 := Lib.hid has
  go_enter Tryd.func39, Tryd.ntmps39
  have z1 := ((Box.new w 25 #[.bool a.ch, .slice (some as_) a.sh.length ca, .slice D a.da.length cd]).alloc (.cells #[.bool false, .slice none 0 0, .slice none 0 0] 25)).alloc (.cells #[.bool false, .slice none 0 0, .slice none 0 0] 25)
  have z3 := (Box.new (w.alloc (.cells #[.bool a.ch, .slice (some as_) a.sh.length ca, .slice D a.da.length cd] 25)) 25 #[.bool false, .slice none 0 0, .slice none 0 0]).alloc (.cells #[.bool false, .slice none 0 0, .slice none 0 0] 25)
  have z5 := Box.new ((w.alloc (.cells #[.bool a.ch, .slice (some as_) a.sh.length ca, .slice D a.da.length cd] 25)).alloc (.cells #[.bool false, .slice none 0 0, .slice none 0 0] 25)) 25 #[.bool false, .slice none 0 0, .slice none 0 0]
  simp only [World.size_alloc] at z3 z5
  have hb0 := below_three w (.cells #[.bool a.ch, .slice (some as_) a.sh.length ca, .slice D a.da.length cd] 25) (.cells #[.bool false, .slice none 0 0, .slice none 0 0] 25) (.cells #[.bool false, .slice none 0 0, .slice none 0 0] 25)
  have y7 : w.heap.size + 1 + 1 + 1 ≤ (((w.alloc (.cells #[.bool a.ch, .slice (some as_) a.sh.length ca, .slice D a.da.length cd] 25)).alloc (.cells #[.bool false, .slice none 0 0, .slice none 0 0] 25)).alloc (.cells #[.bool false, .slice none 0 0, .slice none 0 0] 25)).heap.size := by simp
  go_wp2_with fail
  clear has
  go_loopw [13] (fun s13 wx => ∃ (k : Nat) (A4 : Option Addr) (c4 : Nat), k ≤ t.length ∧ s13 = .int .i64 k ∧ Box wx w.heap.size 25 #[.bool a.ch, .slice (some as_) a.sh.length ca, .slice D a.da.length cd] ∧ Box wx (w.heap.size + 1) 25 #[.bool false, .slice none 0 0, .slice none 0 0] ∧ Box wx (w.heap.size + 1 + 1) 25 #[.bool false, .slice A4 k c4, .slice none 0 0] ∧ Owns wx (w.heap.size + 1 + 1 + 1) (.slice A4 k c4) k ((ints t).take k) ∧ Below w.heap.size w wx ∧ w.heap.size + 1 + 1 + 1 ≤ wx.heap.size) (fun s13 _ => t.length - (intOf s13).toNat)
  case atStart => exact ⟨0, none, 0, Nat.zero_le _, rfl, z1, z3, z5, Owns.nil _ _, hb0, y7⟩
  case round =>
    clear z1 z3 z5 hb0 y7
    obtain ⟨k, A4, c4, hk, rfl, bA, bR, bO, ho, hbw, hsz⟩ := hrel
    rcases Nat.lt_or_ge k t.length with hlt | hge
    · obtain ⟨ay, y, hay, hy, hly, hcy⟩ := Elems.later (IsInts.elems HS.out) hbw (k := k) (by rw [HAL.out]; exact hlt)
      injection hay with hay
      subst hay
      have HY := Lib.hid (show (ints t)[k]? = some y by rw [← HSH.out]; exact hy)
      have HLT := Lib.hid hlt
      have hka : k < a.sh.length := by rw [HAL.out]; exact hlt
      have hkw : IntKind.i64.wrap ((k : Int) + 1) = (k : Int) + 1 := IntWalk.i64_in _ (by omega)
      obtain ⟨t0, t1, t2⟩ := bA.three
      obtain ⟨g0, g1, g2⟩ := bO.three
      have hlA := bA.lt
      have hlg := bO.lt
      have gf := bO.frozen
      clear hy hlt
      go_wp2_with fail
      go_region_law
        ((refine step_append_ints _ rfl rfl _ _ (by rfl) (w.heap.size + 1 + 1 + 1) k (.slice A4 k c4) ((ints t).take k) (by rfl) ((ho.alloc _).drewN _) (some ⟨wr.heap.size, 0, none⟩) 1 1 [y] (by rfl) (by simp) (elems_new wr y) rfl (by omega) (by simp; omega) ?_; intro A5 c5 w5 hown5 hgrow5 hat5; have b5 := Box.grown (w := (wr.alloc _).drewN _) ((bO.alloc _).drewN _) hgrow5 (ho.ne_box bO (by decide)); have hc5 := b5.three.2.1; have hf5 := b5.frozen 1; have hl5 := b5.lt))
      all_goals
        go_wp2_with fail
        go_roundw
        case rel => exact ⟨k + 1, A5, c5, HLT.out, by go_num, (Box.grown (w := (wr.alloc _).drewN _) ((bA.alloc _).drewN _) hgrow5 (ho.ne_low (by omega))).far (p := ⟨w.heap.size + 1 + 1, 1, none⟩) (by simp; omega) _, (Box.grown (w := (wr.alloc _).drewN _) ((bR.alloc _).drewN _) hgrow5 (ho.ne_low (by omega))).far (p := ⟨w.heap.size + 1 + 1, 1, none⟩) (by simp) _, b5.store 1 _, by rw [← take_at HY.out]; exact hown5.setCell (p := ⟨w.heap.size + 1 + 1, 1, none⟩) (hown5.ne_box b5 (by decide)) _, ((hbw.alloc hbw.size _).trans (below_draws _ _ _)).grown hgrow5 (by simp; omega) (fun j e => by have := (ho.lt e).1; omega) |>.setCell (p := ⟨w.heap.size + 1 + 1, 1, none⟩) (by simp; omega) _, by have := hgrow5.size; simp at this ⊢; omega⟩
        case measure => simp [intOf]; have := HLT.out; omega
    · obtain rfl : k = t.length := by omega
      rw [List.take_of_length_le (by rw [length_ints]; exact Nat.le_refl _)] at ho
      obtain ⟨gs, rfl, hgs, hm⟩ := ho.mine (by have := HKK.out; omega)
      have dk : decide (t.length < a.sh.length) = false := by rw [HAL.out]; simp
      obtain ⟨t0, t1, t2⟩ := bA.three
      obtain ⟨g0, g1, g2⟩ := bO.three
      have hlA := bA.lt
      have hlg := bO.lt
      have hcK := hm.cell (ints_get HKK.out)
      have hfK := hm.frozen kk
      have hlK := hm.lt
      have hkl : kk < t.length := HKK.out
      have bA3 := bA.far (p := ⟨gs, kk, none⟩) (by simp; omega) (.int .i64 (M : Nat))
      have bR3 := bR.far (p := ⟨gs, kk, none⟩) (by simp; omega) (.int .i64 (M : Nat))
      have bO3 := bO.far (p := ⟨gs, kk, none⟩) (by simp; omega) (.int .i64 (M : Nat))
      have hm3 := hm.store kk (M : Int)
      rw [HSU.out] at hm3
      have hbw3 := hbw.setCell (p := ⟨gs, kk, none⟩) (by simp; omega) (.int .i64 (M : Nat))
      have s3 : (wr.setCell ⟨gs, kk, none⟩ (.int .i64 (M : Nat))).heap.size = wr.heap.size := World.size_setCell _ _ _
      have HGZ := Lib.hid (show w.heap.size + 1 + 1 < wr.heap.size ∧ gs < wr.heap.size ∧ w.heap.size + 1 + 1 + 1 ≤ gs from ⟨hlg, hlK, hgs⟩)
      obtain ⟨p0, p1, p2⟩ := bO3.three
      have hm3h := Lib.hid hm3
      have bA3h := Lib.hid bA3
      have bR3h := Lib.hid bR3
      have bO3h := Lib.hid bO3
      have hbw3h := Lib.hid hbw3
      clear bA bR bO ho hm bA3 bR3 bO3 hm3 hbw3 hge hgs hbw hk
      go_wp2_with fail
      refine (cells_ok _ us _ (hm3h.out.isInts) HG.out).mono ?_
      rintro e w4 ⟨rfl, rfl⟩
      rw [← HN.out]
      go_wp2_with fail
      clear t0 t1 t2 g0 g1 g2 hlA hlg hcK hfK hlK p0 p1 p2 dk
      obtain ⟨w3, hw3⟩ : ∃ w3, w3 = wr.setCell ⟨gs, kk, none⟩ (.int .i64 (M : Nat)) := ⟨_, rfl⟩
      obtain ⟨S3, hS3⟩ : ∃ S, S = wr.heap.size := ⟨_, rfl⟩
      rw [← hw3] at hm3h bA3h bR3h bO3h hbw3h s3 ⊢
      rw [← hS3] at HGZ s3 hsz
      have HGS := HGZ
      clear hw3 hS3 HGZ
      go_loopw [15] (fun s15 wr => ∃ (i : Nat) (A5 : Option Addr) (c5 : Nat), i ≤ N ∧ s15 = .int .i64 i ∧ (∀ q, q < i → (ofR f (lnG a t kk (t.getD kk 0 - m + 1) (fun j => j) (fun _ => m) q)).2 = 0) ∧ Box wr w.heap.size 25 #[.bool a.ch, .slice (some as_) a.sh.length ca, .slice D a.da.length cd] ∧ Box wr (w.heap.size + 1) 25 #[.bool false, .slice none 0 0, .slice none 0 0] ∧ Box wr (w.heap.size + 1 + 1) 25 #[.bool false, .slice (some ⟨gs, 0, none⟩) t.length c4, .slice A5 i c5] ∧ Mine wr gs t.length c4 (ints us) ∧ Owns wr S3 (.slice A5 i c5) i (X.take i) ∧ Below w.heap.size w wr ∧ S3 ≤ wr.heap.size) (fun s15 _ => N - (intOf s15).toNat)
      case atStart => exact ⟨0, none, 0, Nat.zero_le _, rfl, fun q h => absurd h (Nat.not_lt_zero _), bA3h.out, bR3h.out, bO3h.out, hm3h.out, Owns.nil _ _, hbw3h.out, by rw [s3]; exact Nat.le_refl _⟩
      case round =>
        clear bA3h bR3h bO3h hm3h hbw3h s3 hsz
        obtain ⟨i, A5, c5', hi, rfl, her, bA, bR, bO, hm, ho, hbw0, hsz⟩ := hrel
        have HER := Lib.hid her
        have HBA := Lib.hid bA
        have HBR := Lib.hid bR
        have HBO := Lib.hid bO
        have HM := Lib.hid hm
        have HOW := Lib.hid ho
        clear her
        rcases Nat.lt_or_ge i N with hlt | hge
        · have HI := Lib.hid hlt
          have HPI := Lib.hid (show i < prod us by rw [← HN.out]; exact hlt)
          have HPI0 := Lib.hid (show i < prod (t.set kk (t.getD kk 0 - m + 1)) by rw [← HMM.out, ← HU.out]; exact HPI.out)
          have hiw : IntKind.i64.wrap ((i : Int) + 1) = (i : Int) + 1 := IntWalk.i64_in _ (by omega)
          obtain ⟨g0, g1, g2⟩ := bO.three
          have hlg := bO.lt
          clear bA bR bO hm ho hlt
          go_wp2_with fail
          refine (coords_ok _ us i _ HM.out.isInts HG.out.1 HG.out.2.1 HPI.out (by omega)).mono ?_
          rintro e w5 ⟨g5, rfl, hg5, hr5, hb5⟩
          obtain ⟨c, hc⟩ : ∃ c, c = coords us i := ⟨_, rfl⟩
          rw [← hc] at hr5
          have hc0 : c = coords (t.set kk (t.getD kk 0 - m + 1)) i := by rw [← HMM.out, ← HU.out]; exact hc
          obtain ⟨hcl, hcm, hcn⟩ := along_at HKK.out HPI0.out hc0
          have HCL := Lib.hid hcl
          have HIN := Lib.hid hcn
          obtain ⟨J, hJ⟩ : ∃ J, J = c.getD kk 0 := ⟨_, rfl⟩
          have HRL := Lib.hid (show (rline a t c kk J m) = lnG a t kk (t.getD kk 0 - m + 1) (fun j => j) (fun _ => m) i by rw [hJ]; exact along_line (F := fun j => j) (G := fun _ => m) HKK.out HPI0.out hc0)
          rw [← hJ, ← HMM.out] at hcm
          have hJ4 : J < 4096 := by have := HMT.out; have := HL4.out; omega
          have HJM := Lib.hid (show J + m ≤ t.getD kk 0 by have h7 := HMM.out; have h8 := hmt; omega)
          have HJ1 := Lib.hid (show J + 1 ≤ t.getD kk 0 by have := HMT.out; omega)
          have dm2 : decide (0 < m) = true := decide_eq_true (by omega)
          have dm : decide ((0 : Int) < (m : Int)) = true := by simp; omega
          have HMT2 := Lib.hid hmt
          have HEI := Lib.hid (hr5.isInts (n := us.length) (by rw [length_ints, hcl, HUL.out]) (by have := HUL.out; omega))
          have c5 : w5.cell? ⟨g5, kk, none⟩ = some (.int .i64 (J : Nat)) := Row.at_ hr5 (by rw [hJ]; exact ints_get (by rw [hcl]; exact HKK.out))
          have l5 : g5 < w5.heap.size := Box.lt hr5
          have HB5 := Lib.hid hb5
          have hbw5 := hbw0.trans (hb5.mono hbw0.size)
          have bA5 := HBA.out.below hb5
          obtain ⟨t0, t1, t2⟩ := bA5.three
          have hlA := bA5.lt
          have hwJ : IntKind.i64.wrap ((J : Int) + 1) = ((J + 1 : Nat) : Int) := by rw [IntWalk.i64_in _ (by omega)]; rfl
          have hkku : kk < us.length := by rw [HUL.out]; exact HKK.out
          clear hb5 hr5 hcl hcn hc hc0 hJ hcm g0 g1 g2 hlg hg5 bA5
          go_wp2_with fail
          refine wp_region_gate 9 0 (fun i v lo hi w' => match i with
              | 0 => v = .agg #[.bool a.ch, .slice (some as_) a.sh.length ca, .slice D a.da.length cd]
              | 1 => v = .int .i64 (kk : Nat)
              | 2 => v = .slice (some ⟨g5, 0, none⟩) us.length us.length
              | 3 => v = .slice (some ⟨g5, 0, none⟩) us.length us.length
              | 4 => v = .int .i64 (kk : Nat)
              | 5 => v = .pointer (some ⟨g5, kk, none⟩)
              | 6 => v = .int .i64 (J : Nat)
              | 7 => v = .int .i64 ((J + 1 : Nat) : Int)
              | 8 => IsInts w' v (rline a t c kk 0 (J + 1))
              | _ => True) (by kernel_rfl) (by kernel_rfl) (by kernel_rfl) ?hV ?step ?last
          case hV =>
            intro i v lo hi w1 w2 h hb
            match i, h with
            | 0, h => exact h
            | 1, h => exact h
            | 2, h => exact h
            | 3, h => exact h
            | 4, h => exact h
            | 5, h => exact h
            | 6, h => exact h
            | 7, h => exact h
            | 8, h => exact h.mono hb
            | i + 9, _ => trivial
          case step =>
            simp only [List.take_succ_cons, List.take_zero, putAll, Act.put, List.setIfInBounds_toArray, List.set_cons_zero, List.set_cons_succ, Nat.reduceAdd, Nat.zero_add]
            intro i o ho hi u lo up wr hbr hd hj K hK
            obtain ⟨hcw, hfw⟩ := bcell hbr
            match i, ho with
            | 0, ho =>
              simp only [List.getElem?_cons_zero, Option.some.injEq] at ho
              subst ho
              simp only [Act.put, List.setIfInBounds_toArray, List.set_cons_zero, List.set_cons_succ] at hK
              refine wpOp_step rfl fun K' hK' => ?_
              go_simp
              exact hK' _ _ (hK _ _ (Below.refl _ _) rfl)
            | 1, ho =>
              simp only [List.getElem?_cons_succ, List.getElem?_cons_zero, Option.some.injEq] at ho
              subst ho
              simp only [Act.put, List.setIfInBounds_toArray, List.set_cons_zero, List.set_cons_succ] at hK
              refine wpOp_step rfl fun K' hK' => ?_
              go_simp
              exact hK' _ _ (hK _ _ (Below.refl _ _) rfl)
            | 2, ho =>
              simp only [List.getElem?_cons_succ, List.getElem?_cons_zero, Option.some.injEq] at ho
              subst ho
              simp only [Act.put, List.setIfInBounds_toArray, List.set_cons_zero, List.set_cons_succ] at hK
              refine wpOp_step rfl fun K' hK' => ?_
              go_simp
              exact hK' _ _ (hK _ _ (Below.refl _ _) rfl)
            | 3, ho =>
              simp only [List.getElem?_cons_succ, List.getElem?_cons_zero, Option.some.injEq] at ho
              subst ho
              simp only [Act.put, List.setIfInBounds_toArray, List.set_cons_zero, List.set_cons_succ] at hK
              refine wpOp_step rfl fun K' hK' => ?_
              go_simp
              exact hK' _ _ (hK _ _ (Below.refl _ _) rfl)
            | 4, ho =>
              simp only [List.getElem?_cons_succ, List.getElem?_cons_zero, Option.some.injEq] at ho
              subst ho
              simp only [Act.put, List.setIfInBounds_toArray, List.set_cons_zero, List.set_cons_succ] at hK
              refine wpOp_step rfl fun K' hK' => ?_
              go_simp
              exact hK' _ _ (hK _ _ (Below.refl _ _) rfl)
            | 5, ho =>
              simp only [List.getElem?_cons_succ, List.getElem?_cons_zero, Option.some.injEq] at ho
              subst ho
              simp only [Act.put, List.setIfInBounds_toArray, List.set_cons_zero, List.set_cons_succ] at hK
              have h3 : u 3 = .slice (some ⟨g5, 0, none⟩) us.length us.length := hd ⟨3, .data⟩ (by simp) rfl
              have h4 : u 4 = .int .i64 (kk : Nat) := hd ⟨4, .data⟩ (by simp) rfl
              simp only [h3, h4] at hK
              refine wpOp_step rfl fun K' hK' => ?_
              go_simp
              exact hK' _ _ (hK _ _ (Below.refl _ _) rfl)
            | 6, ho =>
              simp only [List.getElem?_cons_succ, List.getElem?_cons_zero, Option.some.injEq] at ho
              subst ho
              simp only [Act.put, List.setIfInBounds_toArray, List.set_cons_zero, List.set_cons_succ] at hK
              have h5 : u 5 = .pointer (some ⟨g5, kk, none⟩) := hd ⟨5, .data⟩ (by simp) rfl
              simp only [h5] at hK
              refine wpOp_step rfl fun K' hK' => ?_
              go_simp
              exact hK' _ _ (hK _ _ (Below.refl _ _) rfl)
            | 7, ho =>
              simp only [List.getElem?_cons_succ, List.getElem?_cons_zero, Option.some.injEq] at ho
              subst ho
              simp only [Act.put, List.setIfInBounds_toArray, List.set_cons_zero, List.set_cons_succ] at hK
              have h6 : u 6 = .int .i64 (J : Nat) := hd ⟨6, .data⟩ (by simp) rfl
              simp only [h6] at hK
              refine wpOp_step rfl fun K' hK' => ?_
              go_simp
              exact hK' _ _ (hK _ _ (Below.refl _ _) rfl)
            | 8, ho =>
              simp only [List.getElem?_cons_succ, List.getElem?_cons_zero, Option.some.injEq] at ho
              subst ho
              simp only [Act.put, List.setIfInBounds_toArray, List.set_cons_zero, List.set_cons_succ] at hK
              have h0 : u 0 = .agg #[.bool a.ch, .slice (some as_) a.sh.length ca, .slice D a.da.length cd] := hd ⟨0, .data⟩ (by simp) rfl
              have h1 : u 1 = .int .i64 (kk : Nat) := hd ⟨1, .data⟩ (by simp) rfl
              have h2 : u 2 = .slice (some ⟨g5, 0, none⟩) us.length us.length := hd ⟨2, .data⟩ (by simp) rfl
              have h7 : u 7 = .int .i64 ((J + 1 : Nat) : Int) := hd ⟨7, .data⟩ (by simp) rfl
              simp only [h0, h1, h2, h7] at hK
              refine wpOp_step rfl fun K' hK' => ?_
              go_simp
              refine (line_zero (L := J + 1) (HA.out.mono (hbw5.trans (hbr.mono hbw5.size))) HT.out (HEI.out.mono hbr) HCL.out HKK.out HIN.out HJ1.out).mono ?_
              rintro e w1 ⟨r, rfl, hr, hb1⟩
              exact hK' _ _ (hK _ _ hb1 hr)
            | i + 9, ho => omega
          case last =>
            simp only [List.take_succ_cons, List.take_zero, putAll, Act.put, List.setIfInBounds_toArray, List.set_cons_zero, List.set_cons_succ, Nat.reduceAdd, Nat.zero_add]
            intro u wr lo up hbr hv hj
            have e8 : IsInts wr (u 8) (rline a t c kk 0 (J + 1)) := hv 8 (by omega)
            clear hv hj
            generalize u 8 = v8 at e8 ⊢
            unfold tailWp
            refine wpOp_step rfl fun K' hK' => ?_
            go_simp
            refine hK' _ _ ?_
            clear hK'
            have hbr5 := hbr
            obtain ⟨w6, hw6⟩ : ∃ w6, w6 = wr := ⟨_, rfl⟩
            subst hw6
            have HB6 := Lib.hid (HB5.out.trans (hbr5.mono HB5.out.size))
            have hbw6 := hbw0.trans (HB6.out.mono hbw0.size)
            have hc6 : w6.cell? ⟨g5, kk, none⟩ = some (.int .i64 (J : Nat)) := (hbr5.cell (p := ⟨g5, kk, none⟩) l5).trans c5
            have l6 : g5 < w6.heap.size := Nat.lt_of_lt_of_le l5 hbr5.size
            have HEI := Lib.hid (HEI.out.mono hbr5)
            clear t0 t1 t2 hlA c5 l5 hbr hbr5 e8
            have c5 := hc6
            have l5 := l6
            clear hc6 l6
            have bA6 := HBA.out.below HB6.out
            obtain ⟨t0, t1, t2⟩ := bA6.three
            have hlA := bA6.lt
            go_wp2_with fail
            
            refine wp_region_gate 9 0 (fun i v lo hi w' => match i with
                | 0 => v = .agg #[.bool a.ch, .slice (some as_) a.sh.length ca, .slice D a.da.length cd]
                | 1 => v = .int .i64 (kk : Nat)
                | 2 => v = .slice (some ⟨g5, 0, none⟩) us.length us.length
                | 3 => v = .slice (some ⟨g5, 0, none⟩) us.length us.length
                | 4 => v = .int .i64 (kk : Nat)
                | 5 => v = .pointer (some ⟨g5, kk, none⟩)
                | 6 => v = .int .i64 (J : Nat)
                | 7 => v = .int .i64 (m : Nat)
                | 8 => IsInts w' v (rline a t c kk J m)
                | _ => True) (by kernel_rfl) (by kernel_rfl) (by kernel_rfl) ?hV ?step ?last
            case hV =>
              intro i v lo hi w1 w2 h hb
              match i, h with
              | 0, h => exact h
              | 1, h => exact h
              | 2, h => exact h
              | 3, h => exact h
              | 4, h => exact h
              | 5, h => exact h
              | 6, h => exact h
              | 7, h => exact h
              | 8, h => exact h.mono hb
              | i + 9, _ => trivial
            case step =>
              simp only [List.take_succ_cons, List.take_zero, putAll, Act.put, List.setIfInBounds_toArray, List.set_cons_zero, List.set_cons_succ, Nat.reduceAdd, Nat.zero_add]
              intro i o ho hi u lo up wr hbr hd hj K hK
              obtain ⟨hcw, hfw⟩ := bcell hbr
              match i, ho with
              | 0, ho =>
                simp only [List.getElem?_cons_zero, Option.some.injEq] at ho
                subst ho
                simp only [Act.put, List.setIfInBounds_toArray, List.set_cons_zero, List.set_cons_succ] at hK
                refine wpOp_step rfl fun K' hK' => ?_
                go_simp
                exact hK' _ _ (hK _ _ (Below.refl _ _) rfl)
              | 1, ho =>
                simp only [List.getElem?_cons_succ, List.getElem?_cons_zero, Option.some.injEq] at ho
                subst ho
                simp only [Act.put, List.setIfInBounds_toArray, List.set_cons_zero, List.set_cons_succ] at hK
                refine wpOp_step rfl fun K' hK' => ?_
                go_simp
                exact hK' _ _ (hK _ _ (Below.refl _ _) rfl)
              | 2, ho =>
                simp only [List.getElem?_cons_succ, List.getElem?_cons_zero, Option.some.injEq] at ho
                subst ho
                simp only [Act.put, List.setIfInBounds_toArray, List.set_cons_zero, List.set_cons_succ] at hK
                refine wpOp_step rfl fun K' hK' => ?_
                go_simp
                exact hK' _ _ (hK _ _ (Below.refl _ _) rfl)
              | 3, ho =>
                simp only [List.getElem?_cons_succ, List.getElem?_cons_zero, Option.some.injEq] at ho
                subst ho
                simp only [Act.put, List.setIfInBounds_toArray, List.set_cons_zero, List.set_cons_succ] at hK
                refine wpOp_step rfl fun K' hK' => ?_
                go_simp
                exact hK' _ _ (hK _ _ (Below.refl _ _) rfl)
              | 4, ho =>
                simp only [List.getElem?_cons_succ, List.getElem?_cons_zero, Option.some.injEq] at ho
                subst ho
                simp only [Act.put, List.setIfInBounds_toArray, List.set_cons_zero, List.set_cons_succ] at hK
                refine wpOp_step rfl fun K' hK' => ?_
                go_simp
                exact hK' _ _ (hK _ _ (Below.refl _ _) rfl)
              | 5, ho =>
                simp only [List.getElem?_cons_succ, List.getElem?_cons_zero, Option.some.injEq] at ho
                subst ho
                simp only [Act.put, List.setIfInBounds_toArray, List.set_cons_zero, List.set_cons_succ] at hK
                have h3 : u 3 = .slice (some ⟨g5, 0, none⟩) us.length us.length := hd ⟨3, .data⟩ (by simp) rfl
                have h4 : u 4 = .int .i64 (kk : Nat) := hd ⟨4, .data⟩ (by simp) rfl
                simp only [h3, h4] at hK
                refine wpOp_step rfl fun K' hK' => ?_
                go_simp
                exact hK' _ _ (hK _ _ (Below.refl _ _) rfl)
              | 6, ho =>
                simp only [List.getElem?_cons_succ, List.getElem?_cons_zero, Option.some.injEq] at ho
                subst ho
                simp only [Act.put, List.setIfInBounds_toArray, List.set_cons_zero, List.set_cons_succ] at hK
                have h5 : u 5 = .pointer (some ⟨g5, kk, none⟩) := hd ⟨5, .data⟩ (by simp) rfl
                simp only [h5] at hK
                refine wpOp_step rfl fun K' hK' => ?_
                go_simp
                exact hK' _ _ (hK _ _ (Below.refl _ _) rfl)
              | 7, ho =>
                simp only [List.getElem?_cons_succ, List.getElem?_cons_zero, Option.some.injEq] at ho
                subst ho
                simp only [Act.put, List.setIfInBounds_toArray, List.set_cons_zero, List.set_cons_succ] at hK
                refine wpOp_step rfl fun K' hK' => ?_
                go_simp
                exact hK' _ _ (hK _ _ (Below.refl _ _) rfl)
              | 8, ho =>
                simp only [List.getElem?_cons_succ, List.getElem?_cons_zero, Option.some.injEq] at ho
                subst ho
                simp only [Act.put, List.setIfInBounds_toArray, List.set_cons_zero, List.set_cons_succ] at hK
                have h0 : u 0 = .agg #[.bool a.ch, .slice (some as_) a.sh.length ca, .slice D a.da.length cd] := hd ⟨0, .data⟩ (by simp) rfl
                have h1 : u 1 = .int .i64 (kk : Nat) := hd ⟨1, .data⟩ (by simp) rfl
                have h2 : u 2 = .slice (some ⟨g5, 0, none⟩) us.length us.length := hd ⟨2, .data⟩ (by simp) rfl
                have h6 : u 6 = .int .i64 (J : Nat) := hd ⟨6, .data⟩ (by simp) rfl
                have h7 : u 7 = .int .i64 (m : Nat) := hd ⟨7, .data⟩ (by simp) rfl
                simp only [h0, h1, h2, h6, h7] at hK
                refine wpOp_step rfl fun K' hK' => ?_
                go_simp
                refine (line_any (F := J) (L := m) (HA.out.mono (hbw6.trans (hbr.mono hbw6.size))) HT.out (HEI.out.mono hbr) HCL.out HKK.out HIN.out HJM.out).mono ?_
                rintro e w1 ⟨r, rfl, hr, hb1⟩
                exact hK' _ _ (hK _ _ hb1 hr)
              | i + 9, ho => omega
            case last =>
              simp only [List.take_succ_cons, List.take_zero, putAll, Act.put, List.setIfInBounds_toArray, List.set_cons_zero, List.set_cons_succ, Nat.reduceAdd, Nat.zero_add]
              intro u wr lo up hbr hv hj
              have e8 : IsInts wr (u 8) (rline a t c kk J m) := hv 8 (by omega)
              clear hv hj
              generalize u 8 = v8 at e8 ⊢
              unfold tailWp
              refine wpOp_step rfl fun K' hK' => ?_
              go_simp
              refine hK' _ _ ?_
              clear hK'
              have hbr6 := hbr
              obtain ⟨w8, hw8⟩ : ∃ w8, w8 = wr := ⟨_, rfl⟩
              subst hw8
              have HB8 := Lib.hid (HB6.out.trans (hbr6.mono HB6.out.size))
              have hbw8 := hbw0.trans (HB8.out.mono hbw0.size)
              have HLN := Lib.hid (show ((rline a t c kk J m)).length ≤ 4096 by unfold rline; rw [List.length_map, List.length_range]; have := HMT2.out; have := HL4.out; omega)
              have HWD := Lib.hid (show ∀ z ∈ (rline a t c kk J m), Word z from fun z hz => by
                unfold rline at hz
                obtain ⟨j, -, rfl⟩ := List.mem_map.1 hz
                exact word_getD HW.out _)
              rw [HRL.out] at HLN HWD e8
              have HFD := Lib.hid (rfolded_any f (lnG a t kk (t.getD kk 0 - m + 1) (fun j => j) (fun _ => m) i) _ w8 e8 HLN.out HWD.out)
              obtain ⟨V, hV⟩ : ∃ V, V = (ofR f (lnG a t kk (t.getD kk 0 - m + 1) (fun j => j) (fun _ => m) i)).1 := ⟨_, rfl⟩
              obtain ⟨E, hE⟩ : ∃ E, E = (ofR f (lnG a t kk (t.getD kk 0 - m + 1) (fun j => j) (fun _ => m) i)).2 := ⟨_, rfl⟩
              rw [← hV, ← hE] at HFD
              have HVV := Lib.hid hV
              have HEE := Lib.hid hE
              clear hV hE e8 c5 l5 t0 t1 t2 hlA hbr6
              have bO8 := HBO.out.below HB8.out
              have bA8 := HBA.out.below HB8.out
              have bR8 := HBR.out.below HB8.out
              have hm8 := HM.out.mono HB8.out
              have ho8 := HOW.out.below HB8.out
              have hs8 := HB8.out.size
              by_cases hz : E = 0
              · have HZ := Lib.hid hz
                subst hz
                go_wp2_with fail
                refine HFD.out.mono ?_
                rintro e w10 ⟨rfl, rfl⟩
                obtain ⟨g0, g1, g2⟩ := bO8.three
                have hlg := bO8.lt
                go_wp2_with (at_builtin; refine wpList_append_ints _ rfl rfl _ _ rfl S3 i _ (X.take i) rfl (ho8.alloc _) (some ⟨w8.heap.size, 0, none⟩) 1 1 [V] rfl (by simp) (elems_new w8 V) rfl (by omega) (by simp; omega) ?_; intro A10 c10 w10 hown10 hgrow10 hat10; have b10 := Box.grown (w := w8.alloc _) (bO8.alloc _) hgrow10 (ho8.ne_low HGS.out.1); have hc10 := b10.three.2.2; have hf10 := b10.frozen 2; have hl10 := b10.lt)
                have HXK := Lib.hid (show X[i]? = some V by rw [HX.out, List.getElem?_map, List.getElem?_range HI.out, HVV.out]; rfl)
                have bA10 := (Box.grown (w := w8.alloc _) (bA8.alloc _) hgrow10 (ho8.ne_low (by have := HGS.out.1; omega))).far (p := ⟨w.heap.size + 1 + 1, 2, none⟩) (by simp; omega) (.slice A10 (i + 1) c10)
                have bR10 := (Box.grown (w := w8.alloc _) (bR8.alloc _) hgrow10 (ho8.ne_low (by have := HGS.out.1; omega))).far (p := ⟨w.heap.size + 1 + 1, 2, none⟩) (by simp) (.slice A10 (i + 1) c10)
                have hm10 : Mine (w10.setCell ⟨w.heap.size + 1 + 1, 2, none⟩ (.slice A10 (i + 1) c10)) gs t.length c4 (ints us) := by
                  obtain ⟨cs, x0, x1⟩ := hm8
                  exact ⟨cs, (Box.grown (w := w8.alloc _) (x0.alloc _) hgrow10 (ho8.ne_low HGS.out.2.1)).far (p := ⟨w.heap.size + 1 + 1, 2, none⟩) (by have := HGS.out.2.2; simp; omega) _, x1⟩
                go_roundw
                case rel => exact ⟨i + 1, A10, c10, by have := HI.out; omega, by go_num, (fun q hq => by
                  rcases Nat.lt_or_ge q i with h | h
                  · exact HER.out q h
                  · obtain rfl : q = i := by omega
                    exact HEE.out.symm), bA10, bR10, b10.store 2 _, hm10, by rw [← take_at HXK.out]; exact hown10.setCell (p := ⟨w.heap.size + 1 + 1, 2, none⟩) (hown10.ne_box b10 (by decide)) _, ((hbw8.alloc hbw8.size _).grown hgrow10 (by have := hbw8.size; simp; omega) (fun j e => by have := (ho8.lt e).1; have := HGS.out.1; omega)).setCell (p := ⟨w.heap.size + 1 + 1, 2, none⟩) (by simp; omega) _, by have := hgrow10.size; simp at this ⊢; omega⟩
                case measure => simp [intOf]; have := HI.out; omega
              · have ez : (E != 0) = true := by simpa using hz
                have HNZ := Lib.hid hz
                have HE := Lib.hid (show RE = E by
                  rw [HRE.out, HEE.out]
                  unfold alongErr
                  exact firstErr_at (p := fun q => (ofR f (lnG a t kk (t.getD kk 0 - m + 1) (fun j => j) (fun _ => m) q)).2) HER.out (by show (ofR f (lnG a t kk (t.getD kk 0 - m + 1) (fun j => j) (fun _ => m) i)).2 ≠ 0; rw [← HEE.out]; exact hz) HPI0.out)
                clear hz
                go_wp2_with fail
                refine HFD.out.mono ?_
                rintro e w10 ⟨rfl, rfl⟩
                obtain ⟨q0, q1, q2⟩ := bR8.three
                have qf := bR8.frozen
                have hzR9 := bR8.lt
                go_wp2_with fail
                refine bodyPost_ret (v := .tuple #[zeroArr, .int .i64 E]) (by simp [results, Tryd.results39, go_sem, q0, q1, q2, hzR9]) rfl ?_
                rw [HE.out]
                exact RTold.bad HNZ.out (by have := hbw8.size; go_grown)
        · have hke : i = N := by omega
          subst hke
          rw [List.take_of_length_le (by rw [HXL.out]; exact Nat.le_refl _)] at ho
          obtain ⟨g0, g1, g2⟩ := bO.three
          have rf := bR.frozen
          obtain ⟨e0, e1, e2⟩ := bR.three
          have rl := bR.lt
          have hlg := bO.lt
          have HO2 := Lib.hid ho
          clear bA bO ho hm
          go_wp2_with fail
          have hg3 := grownBy_three wr (w.heap.size + 1) (.bool false) (.slice (some ⟨gs, 0, none⟩) t.length c4) (.slice A5 i c5')
          have z := ((bR.store 0 (.bool false)).store 1 (.slice (some ⟨gs, 0, none⟩) t.length c4)).store 2 (.slice A5 i c5')
          simp only [List.setIfInBounds_toArray, List.set_cons_zero, List.set_cons_succ] at z
          obtain ⟨z0, z1, z2⟩ := z.three
          have zl := z.lt
          refine bodyPost_ret (v := .tuple #[.agg #[.bool false, .slice (some ⟨gs, 0, none⟩) t.length c4, .slice A5 i c5'], .int .i64 0]) (by simp [results, Tryd.results39, go_sem, z0, z1, z2, zl]) rfl ?_
          have hE0 : RE = 0 := by rw [HRE.out]; unfold alongErr; rw [← HMM.out, ← HU.out, ← HN.out]; rw [HMM.out]; exact firstErr_zero HER.out
          refine RTold.ok hE0 ?_ (hbw0.grown hg3 hbw0.size (fun j e => by cases e; omega))
          have hra : RA = ⟨false, ints us, X⟩ := by have e9 := HSA.out; rw [HU.out, HMM.out] at e9; rw [HRA.out]; unfold alongOf; rw [HX.out, HN.out, HU.out, HMM.out, e9]
          have hia : IsArr wr (.agg #[.bool false, .slice (some ⟨gs, 0, none⟩) t.length c4, .slice A5 i c5']) (⟨false, ints us, X⟩ : Arr) := ⟨_, _, rfl, HM.out.isInts, HO2.out.isInts⟩
          rw [hra]
          exact hia.stored bR _ _ _
end Go.Proofs.YtojeggeimnenbaaDoor
