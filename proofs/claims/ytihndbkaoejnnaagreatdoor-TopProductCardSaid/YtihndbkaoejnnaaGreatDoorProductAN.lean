/- What the card TopProduct leans on: Folded. Conditions: none but those of its theorems. -/
import Derived.Deep.RegionHeld3
import Derived.Deep.RegionLaw
import Derived.Test.YtihndbkaoejnnaaGreatDoorProductAL
import Derived.Test.YtihndbkaoejnnaaGreatDoorProductAM
import Derived.Test.YtihndbkaoejnnaaGreatDoorProductR
import Derived.Test.YtihndbkaoejnnaaGreatDoorProductC
import Derived.Test.YtihndbkaoejnnaaGreatDoorProductH
set_option linter.unusedSimpArgs false
set_option linter.unusedVariables false
namespace Go.Proofs.YtihndbkaoejnnaaGreatDoor
open Go Go.RowKit Go.Proofs.YtihndbkaoejnnaaGreatDoor.P

theorem idx_lt3 {O n I o k i : Nat} (ho : o < O) (hk : k < n) (hi : i < I) : (o * n + k) * I + i < O * n * I := by
  have h1 : o * n + k + 1 ≤ O * n := by
    have : (o + 1) * n ≤ O * n := Nat.mul_le_mul_right _ ho
    rw [Nat.add_mul, Nat.one_mul] at this
    omega
  have h2 : (o * n + k + 1) * I ≤ O * n * I := Nat.mul_le_mul_right _ h1
  rw [Nat.add_mul, Nat.one_mul] at h2
  omega

/-- A line of an array. -/
def fline (d : List Int) (L I : Nat) (fr lg : Nat → Nat) (o k i : Nat) : List Int := (List.range (lg k)).map fun j => d.getD ((o * L + fr k + j) * I + i) 0
/-- What folded tells: the first error, or all that the lines fold to. -/
def FoldTells (f : Int) (ln : Nat → List Int) (N : Nat) (s : List Int) (w : World) (e : Ending) (w' : World) : Prop :=
  ((∀ q, q < N → (ofR f (ln q)).2 = 0) ∧ GivesOk ⟨false, s, (List.range N).map fun q => (ofR f (ln q)).1⟩ w e w') ∨
  (∃ q, q < N ∧ (∀ q', q' < q → (ofR f (ln q')).2 = 0) ∧ (ofR f (ln q)).2 ≠ 0 ∧ Fails zeroArr (ofR f (ln q)).2 w e w')

/-- The same; all lies in new blocks. -/
def FoldTellsM (f : Int) (ln : Nat → List Int) (N : Nat) (s : List Int) (w : World) (e : Ending) (w' : World) : Prop :=
  ((∀ q, q < N → (ofR f (ln q)).2 = 0) ∧ GivesOkN ⟨false, s, (List.range N).map fun q => (ofR f (ln q)).1⟩ w e w') ∨
  (∃ q, q < N ∧ (∀ q', q' < q → (ofR f (ln q')).2 = 0) ∧ (ofR f (ln q)).2 ≠ 0 ∧ Fails zeroArr (ofR f (ln q)).2 w e w')
theorem FoldTellsM.old {f : Int} {ln : Nat → List Int} {N : Nat} {s : List Int} {w : World} {e : Ending} {w' : World} (h : FoldTellsM f ln N s w e w') : FoldTells f ln N s w e w' := h.elim (fun h => .inl ⟨h.1, h.2.old⟩) .inr
/-- The same; the cells lie in a new block, the shape is the one that came. -/
def FoldTellsN (f : Int) (ln : Nat → List Int) (N : Nat) (s : List Int) (vs : Value) (w : World) (e : Ending) (w' : World) : Prop :=
  ((∀ q, q < N → (ofR f (ln q)).2 = 0) ∧ ∃ D d, e = .returned (.tuple #[.agg #[.bool false, vs, .slice D N d], .nilIface]) ∧ IsArr w' (.agg #[.bool false, vs, .slice D N d]) ⟨false, s, (List.range N).map fun q => (ofR f (ln q)).1⟩ ∧ Below w.heap.size w w' ∧ (∀ k, (Value.slice D N d).ownBlock = some k → w.heap.size ≤ k)) ∨
  (∃ q, q < N ∧ (∀ q', q' < q → (ofR f (ln q')).2 = 0) ∧ (ofR f (ln q)).2 ≠ 0 ∧ Fails zeroArr (ofR f (ln q)).2 w e w')
theorem FoldTellsN.old {f : Int} {ln : Nat → List Int} {N : Nat} {s : List Int} {vs : Value} {w : World} {e : Ending} {w' : World} (h : FoldTellsN f ln N s vs w e w') : FoldTells f ln N s w e w' := by
  rcases h with ⟨h1, D, d, h2, h3, h4, -⟩ | h
  · exact .inl ⟨h1, _, h2, h3, h4⟩
  · exact .inr h

set_option maxRecDepth 100000 in
set_option maxHeartbeats 8000000 in
theorem folded_new {va vs : Value} {a : Arr} {s : List Int} {f : Int} {O L I n FR LG : Nat} {cf cl : Array Value} {fr lg : Nat → Nat} {ln : Nat → List Int} {w : World} (ha : IsArr w va a) (hs : IsInts w vs s) (hw : Wf a.da) (hdl : a.da.length ≤ 4096) (hO : O ≤ 1152921504606846976) (hI : I ≤ 1152921504606846976) (hn4 : n ≤ 4096) (hL4 : L ≤ 4096) (hN4 : O * n * I ≤ 1000000000000)
    (hlg : ∀ k, k < n → lg k ≤ 4096)
    (hP : ∀ o k i j, o < O → k < n → i < I → j < lg k → (o * L + fr k + j) * I + i < a.da.length)
    (hln : ∀ o k i, o < O → k < n → i < I → ln ((o * n + k) * I + i) = fline a.da L I fr lg o k i)
    (hFR : ∀ k W, k < n → Below w.heap.size w W → Calls Tryz.prog FR (#[.int .i64 k] ++ cf) W fun e W' => e = .returned (.int .i64 (fr k : Nat)) ∧ W = W')
    (hLG : ∀ k W, k < n → Below w.heap.size w W → Calls Tryz.prog LG (#[.int .i64 k] ++ cl) W fun e W' => e = .returned (.int .i64 (lg k : Nat)) ∧ W = W')
    (hcf : ∀ args W, (callFunc FR args).run Tryz.prog W = .ok (.enter FR args) W) (hcl : ∀ args W, (callFunc LG args).run Tryz.prog W = .ok (.enter LG args) W) :
    Calls Tryz.prog 25 #[.agg #[.int .i64 O, .int .i64 L, .int .i64 I], .int .i64 f, va, vs, .int .i64 n, .func (.func FR) #[] cf, .func (.func LG) #[] cl] w (FoldTellsN f ln (O * n * I) s vs w) := by
  obtain ⟨A, ca, D, cd, rfl, has, hd⟩ := ha.open_
  obtain ⟨D0, cd0, eD, d1, d2, d3, d0, d4⟩ := id hd
  cases eD
  have HD := Lib.hid (show Elems w D a.da from d4)
  have HSI := Lib.hid hs
  obtain ⟨S, cs, rfl, s1, s2, s3, -, -⟩ := hs.open_
  have HW := Lib.hid hw
  have HLG4 := Lib.hid hlg
  have HP := Lib.hid hP
  have HLN := Lib.hid hln
  have HFR := Lib.hid hFR
  have HLG := Lib.hid hLG
  obtain ⟨X, hX⟩ : ∃ X, X = (List.range (O * n * I)).map fun q => (ofR f (ln q)).1 := ⟨_, rfl⟩
  have HX := Lib.hid hX
  have HXL := Lib.hid (show X.length = O * n * I by rw [hX]; simp)
  clear ha hs has hd d0 d4 hw hlg hP hln hFR hLG hX
  go_enter Tryz.func25, Tryz.ntmps25
  obtain ⟨wB, hwB⟩ : ∃ W, W = ((w.alloc (.cells #[.int .i64 O, .int .i64 L, .int .i64 I] 47)).alloc (.cells #[.bool a.ch, .slice A a.sh.length ca, .slice D a.da.length cd] 25)).alloc (.cells #[.bool false, .slice none 0 0, .slice none 0 0] 25) := ⟨_, rfl⟩
  have bL : Box wB w.heap.size 47 #[.int .i64 O, .int .i64 L, .int .i64 I] := by rw [hwB]; exact ((Box.new _ _ _).alloc _).alloc _
  have bA : Box wB (w.heap.size + 1) 25 #[.bool a.ch, .slice A a.sh.length ca, .slice D a.da.length cd] := by rw [hwB]; have := (Box.new (w.alloc (.cells #[.int .i64 O, .int .i64 L, .int .i64 I] 47)) 25 #[.bool a.ch, .slice A a.sh.length ca, .slice D a.da.length cd]).alloc (.cells #[.bool false, .slice none 0 0, .slice none 0 0] 25); simpa using this
  have bR : Box wB (w.heap.size + 1 + 1) 25 #[.bool false, .slice none 0 0, .slice none 0 0] := by rw [hwB]; have := Box.new ((w.alloc (.cells #[.int .i64 O, .int .i64 L, .int .i64 I] 47)).alloc (.cells #[.bool a.ch, .slice A a.sh.length ca, .slice D a.da.length cd] 25)) 25 #[.bool false, .slice none 0 0, .slice none 0 0]; simpa using this
  have hbB : Below w.heap.size w wB := by rw [hwB]; exact below_three _ _ _ _
  have hzB : wB.heap.size = w.heap.size + 3 := by rw [hwB]; simp
  go_wp2_with fail
  rw [← hwB]
  clear hwB
  obtain ⟨wC, hwC⟩ : ∃ W, W = wB.alloc (.cells #[.bool false, .slice S s.length cs, .slice none 0 0] 25) := ⟨_, rfl⟩
  obtain ⟨g, hg⟩ : ∃ g, g = wB.heap.size := ⟨_, rfl⟩
  have BO := Lib.hid (show Box wC g 25 #[.bool false, .slice S s.length cs, .slice none 0 0] by rw [hwC, hg]; exact Box.new _ _ _)
  have HBC := Lib.hid (show Below g wB wC by rw [hwC, hg]; exact below_one _ _)
  have hzC : wC.heap.size = g + 1 := by rw [hwC, hg]; simp
  have HBB := Lib.hid hbB
  have hbBg : wB.heap.size ≤ g := by omega
  have hgB : g ≤ wB.heap.size := by omega
  have hgw : g = w.heap.size + 3 := by omega
  have HGB := Lib.hid hg
  try rw [← hwC]
  try rw [← hg]
  rw [show w.heap.size + 1 + 1 + 1 = g by omega]
  clear hwC hg hzB hbB
  have hzC1 : g + 1 ≤ wC.heap.size := by omega
  have hgw1 : w.heap.size + 3 ≤ g := by omega
  have hgw2 : g ≤ w.heap.size + 3 := by omega
  clear hzC hgw
  go_loopw [28] (fun so wr => ∃ (oq q : Nat) (A4 : Option Addr) (c4 : Nat), oq ≤ O ∧ so = .int .i64 oq ∧ q = oq * n * I ∧ Box wr g 25 #[.bool false, .slice S s.length cs, .slice A4 q c4] ∧ Owns wr (g + 1) (.slice A4 q c4) q (X.take q) ∧ (∀ q', q' < q → (ofR f (ln q')).2 = 0) ∧ Below g wB wr ∧ g + 1 ≤ wr.heap.size) (fun so _ => O - (intOf so).toNat)
  case atStart => exact ⟨0, 0, none, 0, Nat.zero_le _, rfl, by simp, BO.out, Owns.nil _ _, (fun q h => by omega), HBC.out, hzC1⟩
  case round =>
    obtain ⟨oq, q, A4, c4, ho, rfl, hq, h1, h2, herr, hbl, hwz⟩ := hrel
    have HQ := Lib.hid hq
    have H1 := Lib.hid h1
    have H2 := Lib.hid h2
    have HER := Lib.hid herr
    have HBL := Lib.hid hbl
    clear hq h1 h2 herr hbl
    rcases Nat.lt_or_ge oq O with hoO | hoO
    · go_wp2_with fail
      obtain ⟨wi, hwi⟩ : ∃ wi : World, wi = wr := ⟨_, rfl⟩
      rw [← hwi] at H1 H2 HBL hwz ⊢
      clear hwi
      go_loopw [32] (fun sk wr => ∃ (k q : Nat) (A4 : Option Addr) (c4 : Nat), k ≤ n ∧ sk = .int .i64 k ∧ q = (oq * n + k) * I ∧ Box wr g 25 #[.bool false, .slice S s.length cs, .slice A4 q c4] ∧ Owns wr (g + 1) (.slice A4 q c4) q (X.take q) ∧ (∀ q', q' < q → (ofR f (ln q')).2 = 0) ∧ Below g wB wr ∧ g + 1 ≤ wr.heap.size) (fun sk _ => n - (intOf sk).toNat)
      case atStart => exact ⟨0, q, A4, c4, Nat.zero_le _, rfl, by rw [HQ.out]; simp, H1.out, H2.out, HER.out, HBL.out, hwz⟩
      case round =>
        clear hwz H1 H2 HER HBL
        obtain ⟨k, q1, A4, c4, hk, rfl, hq, h1, h2, herr, hbl, hwz⟩ := hrel
        have HQ1 := Lib.hid hq
        have H1 := Lib.hid h1
        have H2 := Lib.hid h2
        have HER := Lib.hid herr
        have HBL := Lib.hid hbl
        have bLk := bL.below (show Below wB.heap.size wB wr by rw [← HGB.out]; exact hbl)
        obtain ⟨m0, m1, m2⟩ := bLk.three
        have ml := bLk.lt
        clear hq h1 h2 herr hbl
        rcases Nat.lt_or_ge k n with hkn | hkn
        · go_wp2_with fail
          obtain ⟨wj, hwj⟩ : ∃ wi : World, wi = wr := ⟨_, rfl⟩
          rw [← hwj] at H1 H2 HBL hwz ⊢
          clear hwj bLk m0 m1 m2 ml
          go_loopw [37] (fun si wr => ∃ (iq q : Nat) (A4 : Option Addr) (c4 : Nat), iq ≤ I ∧ si = .int .i64 iq ∧ q = (oq * n + k) * I + iq ∧ Box wr g 25 #[.bool false, .slice S s.length cs, .slice A4 q c4] ∧ Owns wr (g + 1) (.slice A4 q c4) q (X.take q) ∧ (∀ q', q' < q → (ofR f (ln q')).2 = 0) ∧ Below g wB wr ∧ g + 1 ≤ wr.heap.size) (fun si _ => I - (intOf si).toNat)
          case atStart => exact ⟨0, q1, A4, c4, Nat.zero_le _, rfl, by rw [HQ1.out]; rfl, H1.out, H2.out, HER.out, HBL.out, hwz⟩
          case round =>
            clear hwz H1 H2 HER HBL
            obtain ⟨iq, q2, A4, c4, hi, rfl, hq, h1, h2, herr, hbl, hwz⟩ := hrel
            have HQ2 := Lib.hid hq
            have H1 := Lib.hid h1
            have H2 := Lib.hid h2
            have HER := Lib.hid herr
            have HBL := Lib.hid hbl
            clear hq h1 h2 herr hbl
            rcases Nat.lt_or_ge iq I with hiI | hiI
            · have HBWW := Lib.hid (HBB.out.trans ((show Below wB.heap.size wB wr by rw [← HGB.out]; exact HBL.out).mono HBB.out.size))
              have HCL := Lib.hid (HLG.out k wr hkn HBWW.out)
              have hlgk := HLG4.out k hkn
              obtain ⟨G, hG⟩ : ∃ G, G = lg k := ⟨_, rfl⟩
              have HGK := Lib.hid hG
              rw [← hG] at HCL hlgk
              have hq2N := idx_lt3 hoO hkn hiI
              have HLQ := Lib.hid (show ln q2 = fline a.da L I fr lg oq k iq by rw [HQ2.out]; exact HLN.out oq k iq hoO hkn hiI)
              have HQN := Lib.hid (show q2 < O * n * I by rw [HQ2.out]; exact hq2N)
              have hq2b : q2 ≤ 1000000000000 := by have := HQN.out; omega
              clear hG hq2N
              go_wp2_with fail
              refine HCL.out.mono ?_
              rintro e w4 ⟨rfl, rfl⟩
              obtain ⟨wI, hwI⟩ : ∃ W, W = wr := ⟨_, rfl⟩
              rw [← hwI] at H1 H2 HBL hwz ⊢
              clear hwI HCL HBWW
              go_wp2_with fail
              go_loopw [20, 43] (fun sl sj wr => ∃ (j : Nat) (A5 : Option Addr) (c5 : Nat), j ≤ G ∧ sj = .int .i64 j ∧ sl = .slice A5 j c5 ∧ Owns wr wI.heap.size (.slice A5 j c5) j ((ln q2).take j) ∧ Box wr g 25 #[.bool false, .slice S s.length cs, .slice A4 q2 c4] ∧ Owns wr (g + 1) (.slice A4 q2 c4) q2 (X.take q2) ∧ Below g wB wr ∧ wI.heap.size ≤ wr.heap.size ∧ (∀ m, (Value.slice A4 q2 c4).ownBlock = some m → m < wI.heap.size)) (fun _ sj _ => G - (intOf sj).toNat)
              case atStart => exact ⟨0, none, 0, Nat.zero_le _, rfl, rfl, Owns.nil _ _, H1.out, H2.out, HBL.out, Nat.le_refl _, fun m e => (H2.out.lt e).2⟩
              case round =>
                obtain ⟨j, A5, c5, hj, rfl, rfl, hol, h1, h2, hbl, hwx, hom⟩ := hrel
                have hbB := show Below wB.heap.size wB wr by rw [← HGB.out]; exact hbl
                have hbww := HBB.out.trans (hbB.mono HBB.out.size)
                have bLx := bL.below hbB
                have bAx := bA.below hbB
                obtain ⟨m0, m1, m2⟩ := bLx.three
                obtain ⟨t0, t1, t2⟩ := bAx.three
                have lL := bLx.lt
                have lA := bAx.lt
                have H1 := Lib.hid h1
                have H2 := Lib.hid h2
                have HOM := Lib.hid hom
                have HBL := Lib.hid hbl
                rcases Nat.lt_or_ge j G with hlt | hge
                · have hPj := HP.out oq k iq j hoO hkn hiI (by rw [← HGK.out]; exact hlt)
                  obtain ⟨ad, x, rfl, hx, hax, hcx⟩ := Elems.later HD.out hbww hPj
                  have HXJ := Lib.hid (show (ln q2)[j]? = some x by
                    rw [HLQ.out]
                    unfold fline
                    rw [List.getElem?_map, List.getElem?_range (by rw [← HGK.out]; exact hlt)]
                    simp only [Option.map_some]
                    rw [List.getD_eq_getElem?_getD, hx]; rfl)
                  have HCF := Lib.hid (show ∀ W, Below wr.heap.size wr W → Calls Tryz.prog FR (#[.int .i64 k] ++ cf) W fun e W' => e = .returned (.int .i64 (fr k : Nat)) ∧ W = W' from fun W h => HFR.out k W hkn (hbww.trans (h.mono hbww.size)))
                  obtain ⟨R, hR⟩ : ∃ R, R = fr k := ⟨_, rfl⟩
                  obtain ⟨oL, hoL⟩ : ∃ z, z = oq * L := ⟨_, rfl⟩
                  rw [← hR, ← hoL] at hPj hcx
                  rw [← hR] at HCF
                  obtain ⟨M1, hM1⟩ : ∃ z, z = oL + R := ⟨_, rfl⟩
                  rw [← hM1] at hPj hcx
                  obtain ⟨U, hU⟩ : ∃ z, z = M1 + j := ⟨_, rfl⟩
                  rw [← hU] at hPj hcx
                  obtain ⟨UI, hUI⟩ : ∃ z, z = U * I := ⟨_, rfl⟩
                  have hUle : U ≤ UI := by rw [hUI]; exact Nat.le_mul_of_pos_right _ (by omega)
                  rw [← hUI] at hPj hcx
                  obtain ⟨P, hPP⟩ : ∃ z, z = UI + iq := ⟨_, rfl⟩
                  rw [← hPP] at hPj hcx
                  have W6 := Lib.hid (show IntKind.i64.wrap ((oq : Int) * (L : Int)) = (oL : Int) by rw [show (oq : Int) * (L : Int) = ((oL : Nat) : Int) by rw [hoL]; simp]; exact IntWalk.i64_in _ (by omega))
                  have W10 := Lib.hid (show IntKind.i64.wrap ((oL : Int) + (R : Int)) = (M1 : Int) by rw [show (oL : Int) + (R : Int) = ((M1 : Nat) : Int) by rw [hM1]; simp]; exact IntWalk.i64_in _ (by omega))
                  have W12 := Lib.hid (show IntKind.i64.wrap ((M1 : Int) + (j : Int)) = (U : Int) by rw [show (M1 : Int) + (j : Int) = ((U : Nat) : Int) by rw [hU]; simp]; exact IntWalk.i64_in _ (by omega))
                  have W15 := Lib.hid (show IntKind.i64.wrap ((U : Int) * (I : Int)) = (UI : Int) by rw [show (U : Int) * (I : Int) = ((UI : Nat) : Int) by rw [hUI]; simp]; exact IntWalk.i64_in _ (by omega))
                  have W17 := Lib.hid (show IntKind.i64.wrap ((UI : Int) + (iq : Int)) = (P : Int) by rw [show (UI : Int) + (iq : Int) = ((P : Nat) : Int) by rw [hPP]; simp]; exact IntWalk.i64_in _ (by omega))
                  obtain ⟨wo, rfl⟩ : ∃ W : World, W = wr := ⟨_, rfl⟩
                  have hzo := hbww.size
                  have hjs : j ≤ 4096 := by omega
                  have HCX := Lib.hid (show ∀ wx, Below wo.heap.size wo wx → wx.cell? (ad.add P) = some (.int .i64 x) from fun wx h => (h.cell (p := ad.add P) (by rw [addr_block_add]; omega)).trans hcx)
                  have HMC := Lib.hid (show ∀ wx, Below wo.heap.size wo wx → wx.cell? ⟨w.heap.size, 1, none⟩ = some (.int .i64 L) ∧ wx.cell? ⟨w.heap.size, 2, none⟩ = some (.int .i64 I) ∧ wx.cell? ⟨w.heap.size + 1, 2, none⟩ = some (.slice (some ad) a.da.length cd) from fun wx h => ⟨(h.cell (p := ⟨w.heap.size, 1, none⟩) lL).trans m1, (h.cell (p := ⟨w.heap.size, 2, none⟩) lL).trans m2, (h.cell (p := ⟨w.heap.size + 1, 2, none⟩) lA).trans t2⟩)
                  clear hx hcx hR hoL hM1 hU hUI hPP h1 h2 hom hbB bLx bAx
                  go_wp2_with fail
                  refine wp_region_gate 21 1 (fun i v lo hi w' => match i with
                      | 0 => v = .slice A5 j c5
                      | 1 => v = .pointer (some ⟨w.heap.size + 1, 2, none⟩)
                      | 2 => v = .slice (some ad) a.da.length cd
                      | 3 => v = .int .i64 (oq : Nat)
                      | 4 => v = .pointer (some ⟨w.heap.size, 1, none⟩)
                      | 5 => v = .int .i64 (L : Nat)
                      | 6 => v = .int .i64 (oL : Nat)
                      | 7 => v = .func (.func FR) #[] cf
                      | 8 => v = .int .i64 (k : Nat)
                      | 9 => v = .int .i64 (R : Nat)
                      | 10 => v = .int .i64 (M1 : Nat)
                      | 11 => v = .int .i64 (j : Nat)
                      | 12 => v = .int .i64 (U : Nat)
                      | 13 => v = .pointer (some ⟨w.heap.size, 2, none⟩)
                      | 14 => v = .int .i64 (I : Nat)
                      | 15 => v = .int .i64 (UI : Nat)
                      | 16 => v = .int .i64 (iq : Nat)
                      | 17 => v = .int .i64 (P : Nat)
                      | 18 => v = .pointer (some (ad.add P))
                      | 19 => v = .int .i64 x
                      | 20 => ∃ m, v = .slice (some ⟨m, 0, none⟩) 1 1 ∧ Elems w' (some ⟨m, 0, none⟩) [x]
                      | _ => True) (by kernel_rfl) (by kernel_rfl) (by kernel_rfl) ?hV ?step ?last
                  case hV =>
                    intro i v lo hi w1 w2 h hb
                    match i, h with
                    | 0, h => exact h
                    | 1, h => exact h
                    | 2, h => exact h
                    | 3, h => exact h
                    | 4, h => exact h
                    | 5, h => exact h
                    | 6, h => exact h
                    | 7, h => exact h
                    | 8, h => exact h
                    | 9, h => exact h
                    | 10, h => exact h
                    | 11, h => exact h
                    | 12, h => exact h
                    | 13, h => exact h
                    | 14, h => exact h
                    | 15, h => exact h
                    | 16, h => exact h
                    | 17, h => exact h
                    | 18, h => exact h
                    | 19, h => exact h
                    | 20, ⟨m, e, hel⟩ => exact ⟨m, e, hel.mono hb⟩
                    | i + 21, _ => trivial
                  case step =>
                    simp only [List.take_succ_cons, List.take_zero, putAll, Act.put, List.setIfInBounds_toArray, List.set_cons_zero, List.set_cons_succ, Nat.reduceAdd, Nat.zero_add]
                    intro i o ho hi u lo up wr hbr hd hj K hK
                    obtain ⟨hcw, hfw⟩ := bcell hbr
                    match i, ho with
                    | 0, ho =>
                      simp only [List.getElem?_cons_zero, Option.some.injEq] at ho
                      subst ho
                      simp only [Act.put, List.setIfInBounds_toArray, List.set_cons_zero, List.set_cons_succ] at hK
                      first | (simp [Region.binds] at hd; simp only [hd] at hK) | skip
                      refine wpOp_step rfl fun K' hK' => ?_
                      go_simp
                      exact hK' _ _ (hK _ _ (Below.refl _ _) rfl)
                    | 1, ho =>
                      simp only [List.getElem?_cons_succ, List.getElem?_cons_zero, Option.some.injEq] at ho
                      subst ho
                      simp only [Act.put, List.setIfInBounds_toArray, List.set_cons_zero, List.set_cons_succ] at hK
                      first | (simp [Region.binds] at hd; simp only [hd] at hK) | skip
                      refine wpOp_step rfl fun K' hK' => ?_
                      go_simp
                      exact hK' _ _ (hK _ _ (Below.refl _ _) rfl)
                    | 2, ho =>
                      simp only [List.getElem?_cons_succ, List.getElem?_cons_zero, Option.some.injEq] at ho
                      subst ho
                      simp only [Act.put, List.setIfInBounds_toArray, List.set_cons_zero, List.set_cons_succ] at hK
                      have h8 : u 1 = .pointer (some ⟨w.heap.size + 1, 2, none⟩) := hd ⟨1, .data⟩ (by simp) rfl
                      have hcr := (HMC.out wr hbr).2.2
                      simp only [h8] at hK
                      refine wpOp_step rfl fun K' hK' => ?_
                      go_simp
                      exact hK' _ _ (hK _ _ (Below.refl _ _) rfl)
                    | 3, ho =>
                      simp only [List.getElem?_cons_succ, List.getElem?_cons_zero, Option.some.injEq] at ho
                      subst ho
                      simp only [Act.put, List.setIfInBounds_toArray, List.set_cons_zero, List.set_cons_succ] at hK
                      first | (simp [Region.binds] at hd; simp only [hd] at hK) | skip
                      refine wpOp_step rfl fun K' hK' => ?_
                      go_simp
                      exact hK' _ _ (hK _ _ (Below.refl _ _) rfl)
                    | 4, ho =>
                      simp only [List.getElem?_cons_succ, List.getElem?_cons_zero, Option.some.injEq] at ho
                      subst ho
                      simp only [Act.put, List.setIfInBounds_toArray, List.set_cons_zero, List.set_cons_succ] at hK
                      first | (simp [Region.binds] at hd; simp only [hd] at hK) | skip
                      refine wpOp_step rfl fun K' hK' => ?_
                      go_simp
                      exact hK' _ _ (hK _ _ (Below.refl _ _) rfl)
                    | 5, ho =>
                      simp only [List.getElem?_cons_succ, List.getElem?_cons_zero, Option.some.injEq] at ho
                      subst ho
                      simp only [Act.put, List.setIfInBounds_toArray, List.set_cons_zero, List.set_cons_succ] at hK
                      have h8 : u 4 = .pointer (some ⟨w.heap.size, 1, none⟩) := hd ⟨4, .data⟩ (by simp) rfl
                      have hcr := (HMC.out wr hbr).1
                      simp only [h8] at hK
                      refine wpOp_step rfl fun K' hK' => ?_
                      go_simp
                      exact hK' _ _ (hK _ _ (Below.refl _ _) rfl)
                    | 6, ho =>
                      simp only [List.getElem?_cons_succ, List.getElem?_cons_zero, Option.some.injEq] at ho
                      subst ho
                      simp only [Act.put, List.setIfInBounds_toArray, List.set_cons_zero, List.set_cons_succ] at hK
                      have h8 : u 3 = .int .i64 (oq : Nat) := hd ⟨3, .data⟩ (by simp) rfl
                      have h9 : u 5 = .int .i64 (L : Nat) := hd ⟨5, .data⟩ (by simp) rfl
                      simp only [h8, h9] at hK
                      refine wpOp_step rfl fun K' hK' => ?_
                      go_simp
                      exact hK' _ _ (hK _ _ (Below.refl _ _) (congrArg _ W6.out))
                    | 7, ho =>
                      simp only [List.getElem?_cons_succ, List.getElem?_cons_zero, Option.some.injEq] at ho
                      subst ho
                      simp only [Act.put, List.setIfInBounds_toArray, List.set_cons_zero, List.set_cons_succ] at hK
                      first | (simp [Region.binds] at hd; simp only [hd] at hK) | skip
                      refine wpOp_step rfl fun K' hK' => ?_
                      go_simp
                      exact hK' _ _ (hK _ _ (Below.refl _ _) rfl)
                    | 8, ho =>
                      simp only [List.getElem?_cons_succ, List.getElem?_cons_zero, Option.some.injEq] at ho
                      subst ho
                      simp only [Act.put, List.setIfInBounds_toArray, List.set_cons_zero, List.set_cons_succ] at hK
                      first | (simp [Region.binds] at hd; simp only [hd] at hK) | skip
                      refine wpOp_step rfl fun K' hK' => ?_
                      go_simp
                      exact hK' _ _ (hK _ _ (Below.refl _ _) rfl)
                    | 9, ho =>
                      simp only [List.getElem?_cons_succ, List.getElem?_cons_zero, Option.some.injEq] at ho
                      subst ho
                      simp only [Act.put, List.setIfInBounds_toArray, List.set_cons_zero, List.set_cons_succ] at hK
                      have h7 : u 7 = .func (.func FR) #[] cf := hd ⟨7, .data⟩ (by simp) rfl
                      have h8 : u 8 = .int .i64 (k : Nat) := hd ⟨8, .data⟩ (by simp) rfl
                      simp only [h7, h8] at hK
                      refine wpOp_step rfl fun K' hK' => ?_
                      go_simp
                      refine (HCF.out _ hbr).mono ?_
                      rintro e w6 ⟨rfl, rfl⟩
                      exact hK' _ _ (hK _ _ (Below.refl _ _) rfl)
                    | 10, ho =>
                      simp only [List.getElem?_cons_succ, List.getElem?_cons_zero, Option.some.injEq] at ho
                      subst ho
                      simp only [Act.put, List.setIfInBounds_toArray, List.set_cons_zero, List.set_cons_succ] at hK
                      have h8 : u 6 = .int .i64 (oL : Nat) := hd ⟨6, .data⟩ (by simp) rfl
                      have h9 : u 9 = .int .i64 (R : Nat) := hd ⟨9, .data⟩ (by simp) rfl
                      simp only [h8, h9] at hK
                      refine wpOp_step rfl fun K' hK' => ?_
                      go_simp
                      exact hK' _ _ (hK _ _ (Below.refl _ _) (congrArg _ W10.out))
                    | 11, ho =>
                      simp only [List.getElem?_cons_succ, List.getElem?_cons_zero, Option.some.injEq] at ho
                      subst ho
                      simp only [Act.put, List.setIfInBounds_toArray, List.set_cons_zero, List.set_cons_succ] at hK
                      first | (simp [Region.binds] at hd; simp only [hd] at hK) | skip
                      refine wpOp_step rfl fun K' hK' => ?_
                      go_simp
                      exact hK' _ _ (hK _ _ (Below.refl _ _) rfl)
                    | 12, ho =>
                      simp only [List.getElem?_cons_succ, List.getElem?_cons_zero, Option.some.injEq] at ho
                      subst ho
                      simp only [Act.put, List.setIfInBounds_toArray, List.set_cons_zero, List.set_cons_succ] at hK
                      have h8 : u 10 = .int .i64 (M1 : Nat) := hd ⟨10, .data⟩ (by simp) rfl
                      have h9 : u 11 = .int .i64 (j : Nat) := hd ⟨11, .data⟩ (by simp) rfl
                      simp only [h8, h9] at hK
                      refine wpOp_step rfl fun K' hK' => ?_
                      go_simp
                      exact hK' _ _ (hK _ _ (Below.refl _ _) (congrArg _ W12.out))
                    | 13, ho =>
                      simp only [List.getElem?_cons_succ, List.getElem?_cons_zero, Option.some.injEq] at ho
                      subst ho
                      simp only [Act.put, List.setIfInBounds_toArray, List.set_cons_zero, List.set_cons_succ] at hK
                      first | (simp [Region.binds] at hd; simp only [hd] at hK) | skip
                      refine wpOp_step rfl fun K' hK' => ?_
                      go_simp
                      exact hK' _ _ (hK _ _ (Below.refl _ _) rfl)
                    | 14, ho =>
                      simp only [List.getElem?_cons_succ, List.getElem?_cons_zero, Option.some.injEq] at ho
                      subst ho
                      simp only [Act.put, List.setIfInBounds_toArray, List.set_cons_zero, List.set_cons_succ] at hK
                      have h8 : u 13 = .pointer (some ⟨w.heap.size, 2, none⟩) := hd ⟨13, .data⟩ (by simp) rfl
                      have hcr := (HMC.out wr hbr).2.1
                      simp only [h8] at hK
                      refine wpOp_step rfl fun K' hK' => ?_
                      go_simp
                      exact hK' _ _ (hK _ _ (Below.refl _ _) rfl)
                    | 15, ho =>
                      simp only [List.getElem?_cons_succ, List.getElem?_cons_zero, Option.some.injEq] at ho
                      subst ho
                      simp only [Act.put, List.setIfInBounds_toArray, List.set_cons_zero, List.set_cons_succ] at hK
                      have h8 : u 12 = .int .i64 (U : Nat) := hd ⟨12, .data⟩ (by simp) rfl
                      have h9 : u 14 = .int .i64 (I : Nat) := hd ⟨14, .data⟩ (by simp) rfl
                      simp only [h8, h9] at hK
                      refine wpOp_step rfl fun K' hK' => ?_
                      go_simp
                      exact hK' _ _ (hK _ _ (Below.refl _ _) (congrArg _ W15.out))
                    | 16, ho =>
                      simp only [List.getElem?_cons_succ, List.getElem?_cons_zero, Option.some.injEq] at ho
                      subst ho
                      simp only [Act.put, List.setIfInBounds_toArray, List.set_cons_zero, List.set_cons_succ] at hK
                      first | (simp [Region.binds] at hd; simp only [hd] at hK) | skip
                      refine wpOp_step rfl fun K' hK' => ?_
                      go_simp
                      exact hK' _ _ (hK _ _ (Below.refl _ _) rfl)
                    | 17, ho =>
                      simp only [List.getElem?_cons_succ, List.getElem?_cons_zero, Option.some.injEq] at ho
                      subst ho
                      simp only [Act.put, List.setIfInBounds_toArray, List.set_cons_zero, List.set_cons_succ] at hK
                      have h8 : u 15 = .int .i64 (UI : Nat) := hd ⟨15, .data⟩ (by simp) rfl
                      have h9 : u 16 = .int .i64 (iq : Nat) := hd ⟨16, .data⟩ (by simp) rfl
                      simp only [h8, h9] at hK
                      refine wpOp_step rfl fun K' hK' => ?_
                      go_simp
                      exact hK' _ _ (hK _ _ (Below.refl _ _) (congrArg _ W17.out))
                    | 18, ho =>
                      simp only [List.getElem?_cons_succ, List.getElem?_cons_zero, Option.some.injEq] at ho
                      subst ho
                      simp only [Act.put, List.setIfInBounds_toArray, List.set_cons_zero, List.set_cons_succ] at hK
                      first | (simp [Region.binds] at hd; simp only [hd] at hK) | skip
                      refine wpOp_step rfl fun K' hK' => ?_
                      go_simp
                      exact hK' _ _ (hK _ _ (Below.refl _ _) rfl)
                    | 19, ho =>
                      simp only [List.getElem?_cons_succ, List.getElem?_cons_zero, Option.some.injEq] at ho
                      subst ho
                      simp only [Act.put, List.setIfInBounds_toArray, List.set_cons_zero, List.set_cons_succ] at hK
                      have h8 : u 18 = .pointer (some (ad.add P)) := hd ⟨18, .data⟩ (by simp) rfl
                      have hcr := HCX.out wr hbr
                      simp only [h8] at hK
                      refine wpOp_step rfl fun K' hK' => ?_
                      go_simp
                      exact hK' _ _ (hK _ _ (Below.refl _ _) rfl)
                    | 20, ho =>
                      simp only [List.getElem?_cons_succ, List.getElem?_cons_zero, Option.some.injEq] at ho
                      subst ho
                      simp only [Act.put, List.setIfInBounds_toArray, List.set_cons_zero, List.set_cons_succ] at hK
                      have hX19 : u 19 = .int .i64 x := hd ⟨19, .data⟩ (by simp) rfl
                      simp only [hX19] at hK
                      refine wpOp_step rfl fun K' hK' => ?_
                      go_simp
                      exact hK' _ _ (hK _ _ (below_one _ _) ⟨_, rfl, elems_new _ _⟩)
                    | i + 21, ho => omega
                  case last =>
                    simp only [List.take_succ_cons, List.take_zero, putAll, Act.put, List.setIfInBounds_toArray, List.set_cons_zero, List.set_cons_succ, Nat.reduceAdd, Nat.zero_add]
                    intro u wr lo up hbr hv hj
                    obtain ⟨mm, eb, hel⟩ := hv 20 (by omega)
                    have e1 : u 0 = .slice A5 j c5 := hv 0 (by omega)
                    have hzr := hbr.size
                    simp only [eb, e1]
                    clear hv hj eb e1
                    unfold tailWp
                    refine wpOp_step rfl fun K' hK' => ?_
                    refine step_append_ints _ rfl rfl _ _ (by rfl) (wI.heap.size) j _ ((ln q2).take j) (by rfl) (hol.below hbr) (some ⟨mm, 0, none⟩) 1 1 [x] (by rfl) (fun e => by cases e) hel rfl (by omega) (by omega) ?_
                    intro A6 c6 w5 hown5 hgrow5 hat5
                    refine hK' _ _ ?_
                    clear hK'
                    unfold tailWp
                    refine wpOp_step rfl fun K' hK' => ?_
                    go_simp
                    refine hK' _ _ ?_
                    clear hK'
                    have hol2 := hol.below hbr
                    have HB1 := Lib.hid (Box.grown (H1.out.below hbr) hgrow5 (hol2.ne_low (by omega)))
                    have HB2 := Lib.hid ((H2.out.below hbr).kept hgrow5 (by
                      rcases hcase : (Value.slice A4 q2 c4).ownBlock with _ | m
                      · exact .inl rfl
                      · refine .inr fun e => ?_
                        have h6 := HOM.out m hcase
                        have h7 := (hol2.lt e.symm).1
                        omega))
                    have hbl2 := HBL.out.trans (hbr.mono (by omega))
                    have HB3 := Lib.hid (hbl2.grown hgrow5 (by omega) (fun _ e => by have := (hol2.lt e).1; omega))
                    have HZ5 := Lib.hid (show wI.heap.size ≤ w5.heap.size by have := hgrow5.size; omega)
                    clear hol2 hbl2 hgrow5 hat5 hbr
                    go_wp2_with fail
                    go_roundw
                    case rel => exact ⟨j + 1, A6, c6, by omega, by go_num, rfl, by rw [← take_at HXJ.out]; exact hown5, HB1.out, HB2.out, HB3.out, by have := HZ5.out; omega, HOM.out⟩
                    case measure => simp [intOf]; omega
                · obtain rfl : j = G := by omega
                  have hlnl : (ln q2).length = j := by rw [HLQ.out]; unfold fline; rw [List.length_map, List.length_range, ← HGK.out]
                  rw [List.take_of_length_le (by rw [hlnl]; exact Nat.le_refl _)] at hol
                  have HLI := Lib.hid hol.isInts
                  have HWL := Lib.hid (show ∀ x ∈ ln q2, (Lit.int .i64 x).wf = true from fun x hx => by
                    rw [HLQ.out] at hx
                    unfold fline at hx
                    obtain ⟨jj, hjj, rfl⟩ := List.mem_map.1 hx
                    have hP2 := HP.out oq k iq jj hoO hkn hiI (by simpa using hjj)
                    rw [List.getD_eq_getElem?_getD, List.getElem?_eq_getElem hP2]
                    exact HW.out _ (List.getElem_mem hP2))
                  have hof := fun W (hb : Below wr.heap.size wr W) => of_any f _ (ln q2) W (HLI.out.mono hb) (by omega) HWL.out
                  have bRx := bR.below hbB
                  obtain ⟨V, hV⟩ : ∃ V, V = (ofR f (ln q2)).1 := ⟨_, rfl⟩
                  have HV := Lib.hid hV
                  rw [← hV] at hof
                  clear hV hol h1 h2 hom hbl hlnl hbB bLx bAx m0 m1 m2 t0 t1 t2 lL lA
                  by_cases hz : (ofR f (ln q2)).2 = 0
                  · rw [hz, show errV 0 = .nilIface from rfl] at hof
                    have HOF := Lib.hid hof
                    have HZ := Lib.hid hz
                    have HXK := Lib.hid (show X[q2]? = some V by
                      rw [HX.out, List.getElem?_map, List.getElem?_range HQN.out, HV.out]; rfl)
                    clear hof hz bRx
                    go_wp2_with fail
                    refine (HOF.out _ (Below.refl _ _)).mono ?_
                    rintro e w5 ⟨rfl, hb5⟩
                    have h1 := H1.out.below hb5
                    have h2 := H2.out.below hb5
                    have hbl5 := HBL.out.trans (hb5.mono (by have := HBL.out.size; omega))
                    obtain ⟨g0, g1, g2⟩ := h1.three
                    have gl := h1.lt
                    have hz5 := hb5.size
                    clear hb5
                    go_wp2_with (at_builtin; refine wpList_append_ints _ rfl rfl _ _ rfl (g + 1) q2 _ (X.take q2) rfl (h2.alloc _) (some ⟨w5.heap.size, 0, none⟩) 1 1 [V] rfl (by simp) (elems_new w5 V) rfl (by omega) (by simp; omega) ?_; intro A6 c6 w7 hown7 hgrow7 hat7; have b7 := Box.grown (w := w5.alloc _) (h1.alloc _) hgrow7 (h2.ne_box h1 (by decide)); have hc7 := b7.three.2.2; have hf7 := b7.frozen 2; have hl7 := b7.lt)
                    go_roundw
                    case rel => exact ⟨iq + 1, q2 + 1, A6, c6, by omega, by go_num, by have := HQ2.out; omega, b7.store 2 _, by rw [← take_at HXK.out]; exact hown7.setCell (p := ⟨g, 2, none⟩) (hown7.ne_box b7 (by decide)) _, (fun q' hq' => by
                      rcases Nat.lt_or_ge q' q2 with h | h
                      · exact HER.out q' h
                      · obtain rfl : q' = q2 := by omega
                        exact HZ.out), ((hbl5.alloc (by omega) _).grown hgrow7 (by simp; omega) (fun _ e => by have := (h2.lt e).1; omega)).setCell (p := ⟨g, 2, none⟩) (by simp) _, by have := hgrow7.size; simp at this ⊢; omega⟩
                    case measure => simp [intOf]; omega
                  · rw [errV_ne hz] at hof
                    have HOF := Lib.hid hof
                    have HZ := Lib.hid hz
                    obtain ⟨ee, hee⟩ : ∃ e, e = (ofR f (ln q2)).2 := ⟨_, rfl⟩
                    have HEE := Lib.hid hee
                    rw [← hee] at HOF
                    clear hof hz hee
                    go_wp2_with fail
                    refine (HOF.out _ (Below.refl _ _)).mono ?_
                    rintro e w5 ⟨rfl, hb5⟩
                    have bR5 := bRx.below hb5
                    obtain ⟨q0, q1, q2'⟩ := bR5.three
                    have qf := bR5.frozen
                    have hzR := bR5.lt
                    have hbw5 := hbww.trans (hb5.mono hbww.size)
                    clear hb5
                    go_wp2_with fail
                    refine bodyPost_ret (v := .tuple #[zeroArr, .iface 54 (.int .i64 ee)]) (by simp [results, Tryz.results25, go_sem, q0, q1, q2', hzR]) rfl ?_
                    exact .inr ⟨q2, HQN.out, HER.out, HZ.out, by rw [← HEE.out], by have := hbw5.size; go_grown⟩
            · obtain rfl : iq = I := by omega
              have HQ4 := Lib.hid (show q2 = (oq * n + (k + 1)) * iq by rw [HQ2.out, ← Nat.add_assoc, Nat.add_mul (oq * n + k) 1, Nat.one_mul])
              go_wp2_with fail
              go_roundw
              case rel => exact ⟨k + 1, q2, A4, c4, by omega, by go_num, HQ4.out, H1.out, H2.out, HER.out, HBL.out, hwz⟩
              case measure => simp [intOf]; omega
        · obtain rfl : k = n := by omega
          have HQ3 := Lib.hid (show q1 = (oq + 1) * k * I by rw [HQ1.out, show oq * k + k = (oq + 1) * k by rw [Nat.add_mul, Nat.one_mul]])
          go_wp2_with fail
          go_roundw
          case rel => exact ⟨oq + 1, q1, A4, c4, by omega, by go_num, HQ3.out, H1.out, H2.out, HER.out, HBL.out, hwz⟩
          case measure => simp [intOf]; omega
    · obtain rfl : oq = O := by omega
      have hbB := show Below wB.heap.size wB wr by rw [← HGB.out]; exact HBL.out
      have hbww := HBB.out.trans (hbB.mono HBB.out.size)
      have b3 := bR.below hbB
      have rf := b3.frozen
      obtain ⟨e0, e1, e2⟩ := b3.three
      have rl := b3.lt
      have h1 := H1.out
      have h2 := H2.out
      rw [List.take_of_length_le (by rw [HXL.out, HQ.out]; exact Nat.le_refl _)] at h2
      obtain ⟨g0, g1, g2⟩ := h1.three
      have gl := h1.lt
      clear hbB h1
      go_wp2_with fail
      have hgg := grownBy_three wr (w.heap.size + 1 + 1) (.bool false) (.slice S s.length cs) (.slice A4 q c4)
      have z := ((b3.store 0 (.bool false)).store 1 (.slice S s.length cs)).store 2 (.slice A4 q c4)
      simp only [List.setIfInBounds_toArray, List.set_cons_zero, List.set_cons_succ] at z
      obtain ⟨z0, z1, z2⟩ := z.three
      have zl := z.lt
      refine bodyPost_ret (v := .tuple #[.agg #[.bool false, .slice S s.length cs, .slice A4 q c4], .nilIface]) (by simp [results, Tryz.results25, go_sem, z0, z1, z2, zl]) rfl ?_
      have iS : IsInts _ (.slice S s.length cs) s := (HSI.out.mono hbww).off hgg b3 (noInts_arr _ _ _ _ _ _ _)
      have iD := (h2.kept hgg (.inr (h2.ne_low (by omega)))).isInts
      rw [HX.out] at iD
      refine .inl ⟨by have h9 := HER.out; rw [HQ.out] at h9; exact h9, A4, c4, by rw [HQ.out], ?_, hbww.grown hgg hbww.size (fun j e => by cases e; omega), ?_⟩
      · rw [← HQ.out]
        refine ⟨_, _, rfl, iS, ?_⟩
        have h9 := iD
        rw [← HQ.out] at h9
        exact h9
      · rw [← HQ.out]
        exact h2.from_ (by omega)

end Go.Proofs.YtihndbkaoejnnaaGreatDoor
