/- What the card TopTurned leans on: ProdHead, ProdInner1, ProdInner2, ActInner. Conditions: none but those of its theorems. -/
import Derived.Deep.RegionLaw
import Derived.Test.YtihndbkaoejnnaaGreatDoorTurnedAC
import Derived.Test.YtihndbkaoejnnaaGreatDoorTurnedAF
import Derived.Test.YtihndbkaoejnnaaGreatDoorTurnedC
import Derived.Test.YtihndbkaoejnnaaGreatDoorTurnedAI
import Derived.Test.YtihndbkaoejnnaaGreatDoorTurnedAK
import Derived.Test.YtihndbkaoejnnaaGreatDoorTurnedS
import Derived.Test.YtihndbkaoejnnaaGreatDoorTurnedY
import Derived.Test.YtihndbkaoejnnaaGreatDoorTurnedZ
import Derived.Test.YtihndbkaoejnnaaGreatDoorTurnedAN
import Derived.Test.YtihndbkaoejnnaaGreatDoorTurnedAA
set_option linter.unusedSimpArgs false
set_option linter.unusedVariables false
namespace Go.Proofs.YtihndbkaoejnnaaGreatDoor.P
open Go Go.RowKit
/-- Products of a line's cells and a column's. -/
def dotL (A B : List Int) (L C k : Nat) : List Int := (List.range L).map fun j => twoV 3 (A.getD (k / C * L + j) 0) (B.getD (j * C + k % C) 0)
def innerD (A B : List Int) (L N C : Nat) : List Int := (List.range N).map fun k => (ofR 1 (dotL A B L C k)).1
end Go.Proofs.YtihndbkaoejnnaaGreatDoor.P
namespace Go.Proofs.YtihndbkaoejnnaaGreatDoor
open Go Go.RowKit Go.Proofs.YtihndbkaoejnnaaGreatDoor.P

theorem two_mul3 (a b : Int) : twoV 3 a b = wrap64 (a * b) := by unfold twoV; simp
theorem times_three {w : World} {g : Nat} (hb : Box w g 32 #[.int .i64 3]) (x y : Int) : Calls Tryz.prog 213 #[.int .i64 x, .int .i64 y, .pointer (some ⟨g, 0, none⟩)] w fun e w' => e = .returned (.tuple #[.int .i64 (twoV 3 x y), .nilIface]) ∧ Below w.heap.size w w' := by
  have := times_any hb x y
  simpa only [List.append_toArray, List.cons_append, List.nil_append] using this

end Go.Proofs.YtihndbkaoejnnaaGreatDoor

namespace Go.Proofs.YtihndbkaoejnnaaGreatDoor
open Go Go.RowKit Go.Proofs.YtihndbkaoejnnaaGreatDoor.P

set_option maxRecDepth 100000 in
set_option maxHeartbeats 16000000 in
theorem inner_1 {w : World} {va vb : Value} {a b : Arr} {L : Nat} (ha : IsArr w va a) (hb : IsArr w vb b) (h1 : Ok a [L]) (h2 : Ok b [L]) (hca : a.ch = false) (hcb : b.ch = false) :
    Calls Tryz.prog 141 #[.int .i64 1, .int .i64 3, va, vb] w (GivesOkN ⟨false, [], innerD a.da b.da L 1 1⟩ w) := by
  obtain ⟨A, ca, D, cd, rfl, hsa, hda⟩ := ha.open_
  obtain ⟨A', ca', D', cd', rfl, hsb, hdb⟩ := hb.open_
  have hra : a.sh.length = 1 := by rw [h1.sh]; rfl
  have hrb : b.sh.length = 1 := by rw [h2.sh]; rfl
  obtain ⟨ma, hma⟩ : ∃ m, m = a.da.length := ⟨_, rfl⟩
  obtain ⟨mb, hmb⟩ : ∃ m, m = b.da.length := ⟨_, rfl⟩
  rw [hca, hra, ← hma] at ha ⊢
  rw [hcb, hrb, ← hmb] at hb ⊢
  rw [hra] at hsa
  rw [hrb] at hsb
  rw [← hma] at hda
  rw [← hmb] at hdb
  have hsa' : IsInts w (.slice A 1 ca) [(L : Int)] := by rw [h1.sh] at hsa; exact hsa
  have hsb' : IsInts w (.slice A' 1 ca') [(L : Int)] := by rw [h2.sh] at hsb; exact hsb
  obtain ⟨C, hC⟩ : ∃ c : Nat, c = 1 := ⟨_, rfl⟩
  obtain ⟨N, hN⟩ : ∃ c : Nat, c = 1 := ⟨_, rfl⟩
  have hL4 : L ≤ 4096 := h1.good.2.1 L (by simp)
  have hN4 : N ≤ 4096 := by rw [hN]; omega
  have hC4 : C ≤ 4096 := by rw [hC]; omega
  have hma4 : ma ≤ 4096 := by rw [hma, h1.len]; exact h1.good.2.2
  have hmb4 : mb ≤ 4096 := by rw [hmb, h2.len]; exact h2.good.2.2
  have HIA := Lib.hid (show ∀ k j, k < N → j < L → k / C * L + j < ma from fun k j hk hj => by
    rw [hN] at hk
    rw [hC, hma, h1.len]
    obtain rfl : k = 0 := by omega
    simp [prod, hj])
  have HIB := Lib.hid (show ∀ k j, k < N → j < L → j * C + k % C < mb from fun k j hk hj => by
    rw [hN] at hk
    rw [hC, hmb, h2.len]
    obtain rfl : k = 0 := by omega
    simp [prod, hj])
  have HC0 := Lib.hid (show ∀ k, k < N → 0 < C from fun k hk => by
    rw [hN] at hk
    rw [hC]
    omega)
  have HFT := Lib.hid (fun (W : World) (hb' : Below w.heap.size w W) => fits_1 (w := W) (x := false) (y := false) (D := D) (D' := D') (md := ma) (md' := mb) (cd := cd) (cd' := cd') (hsa'.mono hb') (hsb'.mono hb'))
  have HCT := Lib.hid (fun (W : World) (v : Value) (hv : IsInts W v []) => count_ok v [] W (by simpa [ints] using hv) ⟨by simp, by simp, by simp [prod]⟩)
  have hNp : (prod [] : Nat) = N := by rw [hN]; simp [prod]
  rw [hNp] at HCT
  obtain ⟨X, hX⟩ : ∃ X, X = innerD a.da b.da L N C := ⟨_, rfl⟩
  rw [show innerD a.da b.da L 1 1 = X by rw [hX, hN, hC]]
  have HXL := Lib.hid (show X.length = N by rw [hX]; simp [innerD])
  have HXK := Lib.hid (show ∀ k, k < N → X[k]? = some (ofR 1 (dotL a.da b.da L C k)).1 from fun k hk => by rw [hX]; unfold innerD; rw [List.getElem?_map, List.getElem?_range hk]; rfl)
  have HDA := Lib.hid hda.elems
  have HDB := Lib.hid hdb.elems
  have HMA := Lib.hid hma
  have HMB := Lib.hid hmb
  have HA := Lib.hid ha
  have HB := Lib.hid hb
  have HE1 := Lib.hid (arrErr_ok h1)
  have HE2 := Lib.hid (arrErr_ok h2)
  obtain ⟨A0', c0', eB, q1, q2, q3, q5, q4⟩ := id hsb'
  injection eB with eB1 eB2 eB3
  subst eB1 eB3
  clear eB2
  have EB := Lib.hid (show Elems w A' [(L : Int)] from q4)
  obtain ⟨A2, hp2, hq2, hr2⟩ := part_named (lo := some (.int .i64 1)) (hi := none) (L := 1) (H := 1) EB.out q5 q1 (.inr rfl) (.inl ⟨rfl, rfl⟩) (by omega) (by simp at q1; omega)
  simp only [List.length_cons, List.length_nil, Nat.zero_add, Nat.reduceAdd, Nat.sub_zero, Nat.reduceSub, Nat.sub_self, List.take_succ_cons, List.take_zero, List.drop_succ_cons, List.drop_zero, List.drop_nil] at hp2 hq2 hr2
  
  have HP2 := Lib.hid hp2
  have HLE := Lib.hid (show (L : Nat) ≤ 4096 from hL4)
  clear hp2 hq2 hr2 q1 q2 q3 q5 q4
  have HCC := Lib.hid hC
  have hcf : ∀ args W, (callFunc 213 args).run Tryz.prog W = .ok (.enter 213 args) W := fun args W => rfl
  have hmx := mixedZ
  have hx6 := ((Box.new w 25 #[.bool false, .slice A 1 ca, .slice D ma cd]).alloc (.cells #[.bool false, .slice A' 1 ca', .slice D' mb cd'] 25)).alloc (.cells #[.bool false, .slice none 0 0, .slice none 0 0] 25)
  have hx7 := (Box.new (w.alloc (.cells #[.bool false, .slice A 1 ca, .slice D ma cd] 25)) 25 #[.bool false, .slice A' 1 ca', .slice D' mb cd']).alloc (.cells #[.bool false, .slice none 0 0, .slice none 0 0] 25)
  have hx8 := Box.new ((w.alloc (.cells #[.bool false, .slice A 1 ca, .slice D ma cd] 25)).alloc (.cells #[.bool false, .slice A' 1 ca', .slice D' mb cd'] 25)) 25 #[.bool false, .slice none 0 0, .slice none 0 0]
  have hxf := Box.new (((w.alloc (.cells #[.bool false, .slice A 1 ca, .slice D ma cd] 25)).alloc (.cells #[.bool false, .slice A' 1 ca', .slice D' mb cd'] 25)).alloc (.cells #[.bool false, .slice none 0 0, .slice none 0 0] 25)) 32 #[.int .i64 1, .int .i64 3]
  simp only [World.size_alloc] at hx7 hx8 hxf
  have hbw := (below_three w (.cells #[.bool false, .slice A 1 ca, .slice D ma cd] 25) (.cells #[.bool false, .slice A' 1 ca', .slice D' mb cd'] 25) (.cells #[.bool false, .slice none 0 0, .slice none 0 0] 25)).alloc (by simp; omega) (.cells #[.int .i64 1, .int .i64 3] 32)
  have HX6 := Lib.hid (hx6.alloc (.cells #[.int .i64 1, .int .i64 3] 32))
  have HX7 := Lib.hid (hx7.alloc (.cells #[.int .i64 1, .int .i64 3] 32))
  have HX8 := Lib.hid (hx8.alloc (.cells #[.int .i64 1, .int .i64 3] 32))
  have HXF := Lib.hid hxf
  have HBW := Lib.hid hbw
  clear ha hb h1 h2 hca hcb hra hrb hsa hsb hsa' hsb' hda hdb hma hmb hN hC hX hNp hx6 hx7 hx8 hxf hbw
  go_enter Tryz.func141, Tryz.ntmps141
  go_wp2_with fail
  refine (known_two (by simpa using HXF.out)).mono ?_
  rintro e w1 ⟨rfl, hb1⟩
  have x6 := HX6.out.below hb1
  have x7 := HX7.out.below hb1
  have x8 := HX8.out.below hb1
  have hbw1 := HBW.out.trans (hb1.mono HBW.out.size)
  obtain ⟨a0, a1, a2⟩ := x6.three
  obtain ⟨b0, b1, b2⟩ := x7.three
  have al := x6.lt
  have bl := x7.lt
  clear hb1
  go_wp2_with fail
  refine (checks_two (HA.out.mono hbw1) (HB.out.mono hbw1) HE1.out HE2.out).mono ?_
  rintro e w2 ⟨rfl, hb2⟩
  have y6 := x6.below hb2
  have y7 := x7.below hb2
  have y8 := x8.below hb2
  have hbw2 := hbw1.trans (hb2.mono hbw1.size)
  clear hb2 x6 x7 x8 hbw1 a0 a1 a2 b0 b1 b2 al bl
  obtain ⟨a0, a1, a2⟩ := y6.three
  obtain ⟨b0, b1, b2⟩ := y7.three
  have al := y6.lt
  have bl := y7.lt
  go_wp2_with fail
  refine (HFT.out w2 hbw2).mono ?_
  rintro e w3 ⟨S, cS, rfl, hoS, hb3⟩
  have HOS := Lib.hid (hoS.base hbw2.size)
  have z6 := y6.below hb3
  have z7 := y7.below hb3
  have z8 := y8.below hb3
  have hbw3 := hbw2.trans (hb3.mono hbw2.size)
  clear hb3 y6 y7 y8 hbw2 a0 a1 a2 b0 b1 b2 al bl hoS
  obtain ⟨a0, a1, a2⟩ := z6.three
  obtain ⟨b0, b1, b2⟩ := z7.three
  have al := z6.lt
  have bl := z7.lt
  have HZ := Lib.hid (And.intro z6 (And.intro z7 (And.intro z8 hbw3)))
  clear z6 z7 z8 hbw3
  have HNU := Lib.hid (fun W => (show Calls Tryz.prog 22 #[.int .i64 1] W fun e w' => e = .returned (.tuple #[.int .i64 (neutV 1), .nilIface]) ∧ W = w' from neutral_any 1 W))
  rcases Nat.eq_zero_or_pos L with hL0 | hL0
  focus
    have hz1 : decide ((L : Int) = 0) = true := decide_eq_true (by omega)
    have hz2 : ((L : Int) == 0) = true := by rw [beq_iff_eq]; omega
    clear hL0
    go_wp2_with fail
    refine (HNU.out _).mono ?_
    rintro e w4 ⟨rfl, rfl⟩
    clear hz1 hz2
    go_wp2_with fail
  rotate_left
  focus
    have hz1 : decide ((L : Int) = 0) = false := decide_eq_false (by omega)
    have hz2 : ((L : Int) == 0) = false := by rw [beq_eq_false_iff_ne]; omega
    go_wp2_with fail
    clear hz1 hz2 hL0
  all_goals
    refine (HCT.out _ _ HOS.out.isInts).mono ?_
    rintro e w4 ⟨rfl, rfl⟩
    have hp2 := HP2.out
    go_wp2_with fail
    clear hp2
    go_loopw [19, 90] (fun s19 s90 wr => w3 = wr ∧ s19 = .int .i64 (C : Nat) ∧ s90 = .int .i64 0) (fun _ _ _ => 0)
    case atStart => exact ⟨rfl, by rw [HCC.out]; rfl, rfl⟩
    case round =>
      obtain ⟨rfl, rfl, rfl⟩ := hrel
      have hmk := run_make_ints N (by omega)
      have bO := Box.new (w3.alloc (.cells (madeCells #[.int .i64 0] N) 3)) 25 #[.bool false, .slice S 0 cS, .slice (some ⟨w3.heap.size, 0, none⟩) 0 N]
      simp only [World.size_alloc] at bO
      have oO : Owns ((w3.alloc (.cells (madeCells #[.int .i64 0] N) 3)).alloc (.cells #[.bool false, .slice S 0 cS, .slice (some ⟨w3.heap.size, 0, none⟩) 0 N] 25)) w3.heap.size (.slice (some ⟨w3.heap.size, 0, none⟩) 0 N) 0 [] := Owns.alloc ⟨World.ownsRow_made _ _ _ (Nat.le_refl _) (by unfold maxLen; omega) (by simp [size_madeCells]), by omega⟩ _
      have hbD := below_two w3 (.cells (madeCells #[.int .i64 0] N) 3) (.cells #[.bool false, .slice S 0 cS, .slice (some ⟨w3.heap.size, 0, none⟩) 0 N] 25)
      have HBO := Lib.hid bO
      have HOO := Lib.hid oO
      have HBD := Lib.hid hbD
      clear bO oO hbD
      go_wp2_with fail
      refine between_any.mono ?_
      rintro e wB ⟨gF, rfl, bF, hbB⟩
      have b1' := HBO.out.below hbB
      have o1 := HOO.out.below hbB
      have hb3 := HBD.out.trans (hbB.mono HBD.out.size)
      have hgz : w3.heap.size + 2 ≤ wB.heap.size := by have := b1'.lt; omega
      clear hbB hmk a0 a1 a2 b0 b1 b2 al bl
      go_wp2_with fail
      go_loopw [107] (fun so wr => ∃ (k : Nat) (A4 : Option Addr) (c4 : Nat), k ≤ N ∧ so = .int .i64 k ∧ Box wr (w3.heap.size + 1) 25 #[.bool false, .slice S 0 cS, .slice A4 k c4] ∧ Owns wr w3.heap.size (.slice A4 k c4) k (X.take k) ∧ Box wr gF 32 #[.int .i64 3] ∧ Below w3.heap.size w3 wr ∧ wB.heap.size ≤ wr.heap.size) (fun so _ => N - (intOf so).toNat)
      case atStart => exact ⟨0, _, _, Nat.zero_le _, rfl, b1', by simpa using o1, bF, hb3, Nat.le_refl _⟩
      case round =>
        clear b1' o1 bF hb3
        obtain ⟨k, A4, c4, hk, rfl, h1, h2, h3, hbl, hwz⟩ := hrel
        obtain ⟨wo, rfl⟩ : ∃ W : World, W = wr := ⟨_, rfl⟩
        have H1 := Lib.hid h1
        have H2 := Lib.hid h2
        have H3 := Lib.hid h3
        have HBL := Lib.hid hbl
        clear h1 h2 h3 hbl
        rcases Nat.lt_or_ge k N with hkN | hkN
        · have hC0 := HC0.out k hkN
          obtain ⟨row, hrow⟩ : ∃ z, z = k / C := ⟨_, rfl⟩
          obtain ⟨col, hcol⟩ : ∃ z, z = k % C := ⟨_, rfl⟩
          have hq1 : Int.tdiv (k : Int) (C : Int) = (row : Int) := by rw [hrow]; exact (Int.ofNat_tdiv k C).symm
          have hq2 : Int.tmod (k : Int) (C : Int) = (col : Int) := by rw [hcol]; exact (Int.ofNat_tmod k C).symm
          have hrow4 : row ≤ 4096 := by rw [hrow]; exact Nat.le_trans (Nat.div_le_self _ _) (by omega)
          have hcol4 : col ≤ 4096 := by rw [hcol]; exact Nat.le_trans (Nat.mod_le _ _) (by omega)
          have hw1 : IntKind.i64.wrap (row : Int) = (row : Int) := IntWalk.i64_in _ (by omega)
          have hw2 : IntKind.i64.wrap (col : Int) = (col : Int) := IntWalk.i64_in _ (by omega)
          have hz1 : ((C : Int) == 0) = false := by rw [beq_eq_false_iff_ne]; omega
          have hz2 : ¬ (C : Int) = 0 := by omega
          have hmk := run_make_list L (by have := HLE.out; omega)
          have HROW := Lib.hid hrow
          have HCOL := Lib.hid hcol
          obtain ⟨Y, hY⟩ : ∃ Y, Y = dotL a.da b.da L C k := ⟨_, rfl⟩
          have HY := Lib.hid hY
          have HYL := Lib.hid (show Y.length = L by rw [hY]; simp [dotL])
          clear hrow hcol hY
          go_wp2_with fail
          go_quiet (fail)
          all_goals go_wp2_with fail
          clear hq1 hq2 hw1 hw2 hz1 hz2 hmk
          go_loopw [120] (fun sj wy => ∃ j : Nat, j ≤ L ∧ sj = .int .i64 j ∧ Row wy wo.heap.size (FillTo Y j) ∧ Box wy (w3.heap.size + 1) 25 #[.bool false, .slice S 0 cS, .slice A4 k c4] ∧ Owns wy w3.heap.size (.slice A4 k c4) k (X.take k) ∧ (∀ m, (Value.slice A4 k c4).ownBlock = some m → m < wo.heap.size) ∧ Box wy gF 32 #[.int .i64 3] ∧ Below w3.heap.size w3 wy ∧ wo.heap.size < wy.heap.size) (fun sj _ => L - (intOf sj).toNat)
          case atStart => exact ⟨0, Nat.zero_le _, rfl, by rw [fillTo_zero, HYL.out]; exact Row.made _ _, (H1.out.drewN _).alloc _, (H2.out.drewN _).alloc _, fun m e => (H2.out.lt e).2, (H3.out.drewN _).alloc _, (HBL.out.trans (below_draws _ _ _)).alloc (by simp; omega) _, by simp⟩
          case round =>
            obtain ⟨j, hj, rfl, hr, hbo, how, hom, hf, hbl2, hsz⟩ := hrel
            obtain ⟨wi, rfl⟩ : ∃ W : World, W = wr := ⟨_, rfl⟩
            have q6 := HZ.out.1.below hbl2
            have q7 := HZ.out.2.1.below hbl2
            have hbww := HZ.out.2.2.2.trans (hbl2.mono HZ.out.2.2.2.size)
            have hz3 := HZ.out.1.lt
            have hz4 := HZ.out.2.1.lt
            have hFl := H3.out.lt
            have HBO2 := Lib.hid hbo
            have HOW := Lib.hid how
            have HOM := Lib.hid hom
            have HQF := Lib.hid hf
            have HQ6 := Lib.hid q6
            have HQ7 := Lib.hid q7
            have HBL2 := Lib.hid hbl2
            have HSZ := Lib.hid hsz
            clear hbo how hom hf hbl2 q6 q7
            rcases Nat.lt_or_ge j L with hjL | hjL
            · have hPA := HIA.out k j hkN hjL
              have hPB := HIB.out k j hkN hjL
              rw [← HROW.out] at hPA
              rw [← HCOL.out] at hPB
              obtain ⟨ad, x, rfl, hx, hax, hcx⟩ := Elems.later HDA.out hbww (by rw [← HMA.out]; exact hPA)
              obtain ⟨bd, y, rfl, hy, hay, hcy⟩ := Elems.later HDB.out hbww (by rw [← HMB.out]; exact hPB)
              have HYJ := Lib.hid (show Y[j]? = some (twoV 3 x y) by
                rw [HY.out]
                unfold dotL
                rw [List.getElem?_map, List.getElem?_range hjL]
                simp only [Option.map_some]
                rw [← HROW.out, ← HCOL.out, List.getD_eq_getElem?_getD, List.getD_eq_getElem?_getD, hx, hy]; rfl)
              obtain ⟨RL, hRL⟩ : ∃ z, z = row * L := ⟨_, rfl⟩
              rw [← hRL] at hPA hcx
              obtain ⟨P, hPP⟩ : ∃ z, z = RL + j := ⟨_, rfl⟩
              rw [← hPP] at hPA hcx
              obtain ⟨JC, hJC⟩ : ∃ z, z = j * C := ⟨_, rfl⟩
              rw [← hJC] at hPB hcy
              obtain ⟨Q, hQQ⟩ : ∃ z, z = JC + col := ⟨_, rfl⟩
              rw [← hQQ] at hPB hcy
              have W7 := Lib.hid (show IntKind.i64.wrap ((row : Int) * (L : Int)) = (RL : Int) by rw [show (row : Int) * (L : Int) = ((RL : Nat) : Int) by rw [hRL]; simp]; exact IntWalk.i64_in _ (by omega))
              have W9 := Lib.hid (show IntKind.i64.wrap ((RL : Int) + (j : Int)) = (P : Int) by rw [show (RL : Int) + (j : Int) = ((P : Nat) : Int) by rw [hPP]; simp]; exact IntWalk.i64_in _ (by omega))
              have W16 := Lib.hid (show IntKind.i64.wrap ((j : Int) * (C : Int)) = (JC : Int) by rw [show (j : Int) * (C : Int) = ((JC : Nat) : Int) by rw [hJC]; simp]; exact IntWalk.i64_in _ (by omega))
              have W18 := Lib.hid (show IntKind.i64.wrap ((JC : Int) + (col : Int)) = (Q : Int) by rw [show (JC : Int) + (col : Int) = ((Q : Nat) : Int) by rw [hQQ]; simp]; exact IntWalk.i64_in _ (by omega))
              have hw3 := HZ.out.2.2.2.size
              have HCX := Lib.hid (show ∀ wx, wi.grownBy wx (some wo.heap.size) → wx.cell? (ad.add P) = some (.int .i64 x) from fun wx hg => (World.cell?_of_block (a := ad.add P) (hg.block _ (by rw [addr_block_add]; omega) (by rw [addr_block_add]; intro e; injection e; omega))).trans hcx)
              have HCY := Lib.hid (show ∀ wx, wi.grownBy wx (some wo.heap.size) → wx.cell? (bd.add Q) = some (.int .i64 y) from fun wx hg => (World.cell?_of_block (a := bd.add Q) (hg.block _ (by rw [addr_block_add]; omega) (by rw [addr_block_add]; intro e; injection e; omega))).trans hcy)
              have HNG := Lib.hid (show (some wo.heap.size : Option Nat) ≠ some (w3.heap.size + 1) from fun e => by injection e; omega)
              have HNO := Lib.hid (show (Value.slice A4 k c4).ownBlock ≠ some wo.heap.size from fun e => absurd (HOM.out _ e) (by omega))
              clear hx hy hcx hcy hRL hPP hJC hQQ hax hay hbww
              go_wp2_with fail
              have hRel : Rels (fun u0 u1 => u0.grownBy u1 (some wo.heap.size)) := rels_block wo.heap.size
              obtain ⟨V, hVe⟩ : ∃ V : Nat → Value → World → Prop, V = fun i v w' => match i with
                  | 0 => v = .slice (some ⟨wo.heap.size, 0, none⟩) L L
                  | 1 => v = .int .i64 (j : Nat)
                  | 2 => v = .func (.func 213) #[] #[.pointer (some ⟨gF, 0, none⟩)]
                  | 3 => v = .pointer (some ⟨w.heap.size, 2, none⟩)
                  | 4 => v = .slice (some ad) ma cd
                  | 5 => v = .int .i64 (row : Nat)
                  | 6 => v = .int .i64 (L : Nat)
                  | 7 => v = .int .i64 (RL : Nat)
                  | 8 => v = .int .i64 (j : Nat)
                  | 9 => v = .int .i64 (P : Nat)
                  | 10 => v = .pointer (some (ad.add P))
                  | 11 => v = .int .i64 x
                  | 12 => v = .pointer (some ⟨w.heap.size + 1, 2, none⟩)
                  | 13 => v = .slice (some bd) mb cd'
                  | 14 => v = .int .i64 (j : Nat)
                  | 15 => v = .int .i64 (C : Nat)
                  | 16 => v = .int .i64 (JC : Nat)
                  | 17 => v = .int .i64 (col : Nat)
                  | 18 => v = .int .i64 (Q : Nat)
                  | 19 => v = .pointer (some (bd.add Q))
                  | 20 => v = .int .i64 y
                  | 21 => v = .tuple #[.int .i64 (twoV 3 x y), .nilIface]
                  | 22 => v = .tuple #[.int .i64 (twoV 3 x y), .nilIface]
                  | 23 => v = .int .i64 (twoV 3 x y)
                  | 24 => v = .nilIface
                  | 25 => v = .pointer (some ⟨wo.heap.size, j, none⟩)
                  | 27 => v = .nilIface
                  | _ => True := ⟨_, rfl⟩
              have hVm : ∀ j v w1 w2, V j v w1 → (fun u0 u1 => u0.grownBy u1 (some wo.heap.size)) w1 w2 → V j v w2 := by
                intro j v w1 w2 h hr
                subst hVe
                match j, h with
                | 0, h => exact h
                | 1, h => exact h
                | 2, h => exact h
                | 3, h => exact h
                | 4, h => exact h
                | 5, h => exact h
                | 6, h => exact h
                | 7, h => exact h
                | 8, h => exact h
                | 9, h => exact h
                | 10, h => exact h
                | 11, h => exact h
                | 12, h => exact h
                | 13, h => exact h
                | 14, h => exact h
                | 15, h => exact h
                | 16, h => exact h
                | 17, h => exact h
                | 18, h => exact h
                | 19, h => exact h
                | 20, h => exact h
                | 21, h => exact h
                | 22, h => exact h
                | 23, h => exact h
                | 24, h => exact h
                | 25, h => exact h
                | 26, _ => trivial
                | 27, h => exact h
                | i + 28, _ => trivial
              have hV0 : ∀ v w', V 0 v w' ↔ v = .slice (some ⟨wo.heap.size, 0, none⟩) L L := fun _ _ => by subst hVe; rfl
              have hV1 : ∀ v w', V 1 v w' ↔ v = .int .i64 (j : Nat) := fun _ _ => by subst hVe; rfl
              have hV2 : ∀ v w', V 2 v w' ↔ v = .func (.func 213) #[] #[.pointer (some ⟨gF, 0, none⟩)] := fun _ _ => by subst hVe; rfl
              have hV3 : ∀ v w', V 3 v w' ↔ v = .pointer (some ⟨w.heap.size, 2, none⟩) := fun _ _ => by subst hVe; rfl
              have hV4 : ∀ v w', V 4 v w' ↔ v = .slice (some ad) ma cd := fun _ _ => by subst hVe; rfl
              have hV5 : ∀ v w', V 5 v w' ↔ v = .int .i64 (row : Nat) := fun _ _ => by subst hVe; rfl
              have hV6 : ∀ v w', V 6 v w' ↔ v = .int .i64 (L : Nat) := fun _ _ => by subst hVe; rfl
              have hV7 : ∀ v w', V 7 v w' ↔ v = .int .i64 (RL : Nat) := fun _ _ => by subst hVe; rfl
              have hV8 : ∀ v w', V 8 v w' ↔ v = .int .i64 (j : Nat) := fun _ _ => by subst hVe; rfl
              have hV9 : ∀ v w', V 9 v w' ↔ v = .int .i64 (P : Nat) := fun _ _ => by subst hVe; rfl
              have hV10 : ∀ v w', V 10 v w' ↔ v = .pointer (some (ad.add P)) := fun _ _ => by subst hVe; rfl
              have hV11 : ∀ v w', V 11 v w' ↔ v = .int .i64 x := fun _ _ => by subst hVe; rfl
              have hV12 : ∀ v w', V 12 v w' ↔ v = .pointer (some ⟨w.heap.size + 1, 2, none⟩) := fun _ _ => by subst hVe; rfl
              have hV13 : ∀ v w', V 13 v w' ↔ v = .slice (some bd) mb cd' := fun _ _ => by subst hVe; rfl
              have hV14 : ∀ v w', V 14 v w' ↔ v = .int .i64 (j : Nat) := fun _ _ => by subst hVe; rfl
              have hV15 : ∀ v w', V 15 v w' ↔ v = .int .i64 (C : Nat) := fun _ _ => by subst hVe; rfl
              have hV16 : ∀ v w', V 16 v w' ↔ v = .int .i64 (JC : Nat) := fun _ _ => by subst hVe; rfl
              have hV17 : ∀ v w', V 17 v w' ↔ v = .int .i64 (col : Nat) := fun _ _ => by subst hVe; rfl
              have hV18 : ∀ v w', V 18 v w' ↔ v = .int .i64 (Q : Nat) := fun _ _ => by subst hVe; rfl
              have hV19 : ∀ v w', V 19 v w' ↔ v = .pointer (some (bd.add Q)) := fun _ _ => by subst hVe; rfl
              have hV20 : ∀ v w', V 20 v w' ↔ v = .int .i64 y := fun _ _ => by subst hVe; rfl
              have hV21 : ∀ v w', V 21 v w' ↔ v = .tuple #[.int .i64 (twoV 3 x y), .nilIface] := fun _ _ => by subst hVe; rfl
              have hV22 : ∀ v w', V 22 v w' ↔ v = .tuple #[.int .i64 (twoV 3 x y), .nilIface] := fun _ _ => by subst hVe; rfl
              have hV23 : ∀ v w', V 23 v w' ↔ v = .int .i64 (twoV 3 x y) := fun _ _ => by subst hVe; rfl
              have hV24 : ∀ v w', V 24 v w' ↔ v = .nilIface := fun _ _ => by subst hVe; rfl
              have hV25 : ∀ v w', V 25 v w' ↔ v = .pointer (some ⟨wo.heap.size, j, none⟩) := fun _ _ => by subst hVe; rfl
              have hV27 : ∀ v w', V 27 v w' ↔ v = .nilIface := fun _ _ => by subst hVe; rfl
              have hV26 : ∀ v w', V 26 v w' := fun _ _ => by subst hVe; trivial
              obtain ⟨St, hSe⟩ : ∃ St : Nat → (Nat → Value) → World → Prop, St = fun s u w' => match s with
                  | 0 => Row w' wo.heap.size (FillTo Y j)
                  | 1 => Row w' wo.heap.size (FillTo Y (j + 1))
                  | _ => False := ⟨_, rfl⟩
              have hSm : ∀ s u u' w1 w2, (∀ c ∈ [26], u' c = u c) → St s u w1 → Below w1.heap.size w1 w2 → St s u' w2 := by
                intro s u u' w1 w2 hu h hb
                subst hSe
                match s, h with
                | 0, h => exact Box.below h hb
                | 1, h => exact Box.below h hb
                | s + 2, h => exact h.elim
              have hS0 : ∀ u w', St 0 u w' ↔ (Row w' wo.heap.size (FillTo Y j)) := fun _ _ => by subst hSe; rfl
              have hS1 : ∀ u w', St 1 u w' ↔ (Row w' wo.heap.size (FillTo Y (j + 1))) := fun _ _ => by subst hSe; rfl
              clear hVe hSe
              refine wp_region_inv (ChainInv (fun u0 u1 => u0.grownBy u1 (some wo.heap.size)) V [26] St wi) (by kernel_rfl) (by kernel_rfl) (by kernel_rfl) ?start ?step ?fin
              case start => exact fun u => ChainInv.start hRel (Below.refl _ _).drew ((hS0 _ _).2 (Box.drew hr))
              case step =>
                simp only [putAll, Act.put, List.setIfInBounds_toArray, List.set_cons_zero, List.set_cons_succ, Nat.reduceAdd, Nat.zero_add]
                intro i o ho done u wr hnd hdep hI K hK
                have hgr := hI.1
                have z6 := Box.grown HQ6.out hgr (by intro e; injection e; omega)
                have z7 := Box.grown HQ7.out hgr (by intro e; injection e; omega)
                have zF := Box.grown HQF.out hgr (by intro e; injection e; omega)
                have p2 := z6.three.2.2
                have b2 := z7.three.2.2
                have zl6 := z6.lt
                have zl7 := z7.lt
                clear z6 z7
                match i, ho with
                | 0, ho =>
                  simp only [List.getElem?_cons_zero, Option.some.injEq] at ho
                  subst ho
                  simp only [Act.put, List.setIfInBounds_toArray, List.set_cons_zero, List.set_cons_succ] at hK
                  refine wpOp_step rfl fun K' hK' => ?_
                  go_simp
                  exact hK' _ _ (hK _ _ (hI.quiet hRel hnd (by decide) hVm hSm (Below.refl _ _) ((hV0 _ _).2 rfl)))
                | 1, ho =>
                  simp only [List.getElem?_cons_succ, List.getElem?_cons_zero, Option.some.injEq] at ho
                  subst ho
                  simp only [Act.put, List.setIfInBounds_toArray, List.set_cons_zero, List.set_cons_succ] at hK
                  refine wpOp_step rfl fun K' hK' => ?_
                  go_simp
                  exact hK' _ _ (hK _ _ (hI.quiet hRel hnd (by decide) hVm hSm (Below.refl _ _) ((hV1 _ _).2 rfl)))
                | 2, ho =>
                  simp only [List.getElem?_cons_succ, List.getElem?_cons_zero, Option.some.injEq] at ho
                  subst ho
                  simp only [Act.put, List.setIfInBounds_toArray, List.set_cons_zero, List.set_cons_succ] at hK
                  refine wpOp_step rfl fun K' hK' => ?_
                  go_simp
                  exact hK' _ _ (hK _ _ (hI.quiet hRel hnd (by decide) hVm hSm (Below.refl _ _) ((hV2 _ _).2 rfl)))
                | 3, ho =>
                  simp only [List.getElem?_cons_succ, List.getElem?_cons_zero, Option.some.injEq] at ho
                  subst ho
                  simp only [Act.put, List.setIfInBounds_toArray, List.set_cons_zero, List.set_cons_succ] at hK
                  refine wpOp_step rfl fun K' hK' => ?_
                  go_simp
                  exact hK' _ _ (hK _ _ (hI.quiet hRel hnd (by decide) hVm hSm (Below.refl _ _) ((hV3 _ _).2 rfl)))
                | 4, ho =>
                  simp only [List.getElem?_cons_succ, List.getElem?_cons_zero, Option.some.injEq] at ho
                  subst ho
                  simp only [Act.put, List.setIfInBounds_toArray, List.set_cons_zero, List.set_cons_succ] at hK
                  have e3 := (hV3 _ _).1 (hI.know (hdep ⟨3, .data⟩ (by simp) rfl))
                  simp only [e3] at hK
                  refine wpOp_step rfl fun K' hK' => ?_
                  go_simp
                  exact hK' _ _ (hK _ _ (hI.quiet hRel hnd (by decide) hVm hSm (Below.refl _ _) ((hV4 _ _).2 rfl)))
                | 5, ho =>
                  simp only [List.getElem?_cons_succ, List.getElem?_cons_zero, Option.some.injEq] at ho
                  subst ho
                  simp only [Act.put, List.setIfInBounds_toArray, List.set_cons_zero, List.set_cons_succ] at hK
                  refine wpOp_step rfl fun K' hK' => ?_
                  go_simp
                  exact hK' _ _ (hK _ _ (hI.quiet hRel hnd (by decide) hVm hSm (Below.refl _ _) ((hV5 _ _).2 rfl)))
                | 6, ho =>
                  simp only [List.getElem?_cons_succ, List.getElem?_cons_zero, Option.some.injEq] at ho
                  subst ho
                  simp only [Act.put, List.setIfInBounds_toArray, List.set_cons_zero, List.set_cons_succ] at hK
                  refine wpOp_step rfl fun K' hK' => ?_
                  go_simp
                  exact hK' _ _ (hK _ _ (hI.quiet hRel hnd (by decide) hVm hSm (Below.refl _ _) ((hV6 _ _).2 rfl)))
                | 7, ho =>
                  simp only [List.getElem?_cons_succ, List.getElem?_cons_zero, Option.some.injEq] at ho
                  subst ho
                  simp only [Act.put, List.setIfInBounds_toArray, List.set_cons_zero, List.set_cons_succ] at hK
                  have e5 := (hV5 _ _).1 (hI.know (hdep ⟨5, .data⟩ (by simp) rfl))
                  have e6 := (hV6 _ _).1 (hI.know (hdep ⟨6, .data⟩ (by simp) rfl))
                  simp only [e5, e6] at hK
                  refine wpOp_step rfl fun K' hK' => ?_
                  go_simp
                  exact hK' _ _ (hK _ _ (hI.quiet hRel hnd (by decide) hVm hSm (Below.refl _ _) ((hV7 _ _).2 (congrArg _ W7.out))))
                | 8, ho =>
                  simp only [List.getElem?_cons_succ, List.getElem?_cons_zero, Option.some.injEq] at ho
                  subst ho
                  simp only [Act.put, List.setIfInBounds_toArray, List.set_cons_zero, List.set_cons_succ] at hK
                  refine wpOp_step rfl fun K' hK' => ?_
                  go_simp
                  exact hK' _ _ (hK _ _ (hI.quiet hRel hnd (by decide) hVm hSm (Below.refl _ _) ((hV8 _ _).2 rfl)))
                | 9, ho =>
                  simp only [List.getElem?_cons_succ, List.getElem?_cons_zero, Option.some.injEq] at ho
                  subst ho
                  simp only [Act.put, List.setIfInBounds_toArray, List.set_cons_zero, List.set_cons_succ] at hK
                  have e7 := (hV7 _ _).1 (hI.know (hdep ⟨7, .data⟩ (by simp) rfl))
                  have e8 := (hV8 _ _).1 (hI.know (hdep ⟨8, .data⟩ (by simp) rfl))
                  simp only [e7, e8] at hK
                  refine wpOp_step rfl fun K' hK' => ?_
                  go_simp
                  exact hK' _ _ (hK _ _ (hI.quiet hRel hnd (by decide) hVm hSm (Below.refl _ _) ((hV9 _ _).2 (congrArg _ W9.out))))
                | 10, ho =>
                  simp only [List.getElem?_cons_succ, List.getElem?_cons_zero, Option.some.injEq] at ho
                  subst ho
                  simp only [Act.put, List.setIfInBounds_toArray, List.set_cons_zero, List.set_cons_succ] at hK
                  have e4 := (hV4 _ _).1 (hI.know (hdep ⟨4, .data⟩ (by simp) rfl))
                  have e9 := (hV9 _ _).1 (hI.know (hdep ⟨9, .data⟩ (by simp) rfl))
                  simp only [e4, e9] at hK
                  refine wpOp_step rfl fun K' hK' => ?_
                  go_simp
                  exact hK' _ _ (hK _ _ (hI.quiet hRel hnd (by decide) hVm hSm (Below.refl _ _) ((hV10 _ _).2 rfl)))
                | 11, ho =>
                  simp only [List.getElem?_cons_succ, List.getElem?_cons_zero, Option.some.injEq] at ho
                  subst ho
                  simp only [Act.put, List.setIfInBounds_toArray, List.set_cons_zero, List.set_cons_succ] at hK
                  have hcr := HCX.out wr hgr
                  have e10 := (hV10 _ _).1 (hI.know (hdep ⟨10, .data⟩ (by simp) rfl))
                  simp only [e10] at hK
                  refine wpOp_step rfl fun K' hK' => ?_
                  go_simp
                  exact hK' _ _ (hK _ _ (hI.quiet hRel hnd (by decide) hVm hSm (Below.refl _ _) ((hV11 _ _).2 rfl)))
                | 12, ho =>
                  simp only [List.getElem?_cons_succ, List.getElem?_cons_zero, Option.some.injEq] at ho
                  subst ho
                  simp only [Act.put, List.setIfInBounds_toArray, List.set_cons_zero, List.set_cons_succ] at hK
                  refine wpOp_step rfl fun K' hK' => ?_
                  go_simp
                  exact hK' _ _ (hK _ _ (hI.quiet hRel hnd (by decide) hVm hSm (Below.refl _ _) ((hV12 _ _).2 rfl)))
                | 13, ho =>
                  simp only [List.getElem?_cons_succ, List.getElem?_cons_zero, Option.some.injEq] at ho
                  subst ho
                  simp only [Act.put, List.setIfInBounds_toArray, List.set_cons_zero, List.set_cons_succ] at hK
                  have e12 := (hV12 _ _).1 (hI.know (hdep ⟨12, .data⟩ (by simp) rfl))
                  simp only [e12] at hK
                  refine wpOp_step rfl fun K' hK' => ?_
                  go_simp
                  exact hK' _ _ (hK _ _ (hI.quiet hRel hnd (by decide) hVm hSm (Below.refl _ _) ((hV13 _ _).2 rfl)))
                | 14, ho =>
                  simp only [List.getElem?_cons_succ, List.getElem?_cons_zero, Option.some.injEq] at ho
                  subst ho
                  simp only [Act.put, List.setIfInBounds_toArray, List.set_cons_zero, List.set_cons_succ] at hK
                  refine wpOp_step rfl fun K' hK' => ?_
                  go_simp
                  exact hK' _ _ (hK _ _ (hI.quiet hRel hnd (by decide) hVm hSm (Below.refl _ _) ((hV14 _ _).2 rfl)))
                | 15, ho =>
                  simp only [List.getElem?_cons_succ, List.getElem?_cons_zero, Option.some.injEq] at ho
                  subst ho
                  simp only [Act.put, List.setIfInBounds_toArray, List.set_cons_zero, List.set_cons_succ] at hK
                  refine wpOp_step rfl fun K' hK' => ?_
                  go_simp
                  exact hK' _ _ (hK _ _ (hI.quiet hRel hnd (by decide) hVm hSm (Below.refl _ _) ((hV15 _ _).2 rfl)))
                | 16, ho =>
                  simp only [List.getElem?_cons_succ, List.getElem?_cons_zero, Option.some.injEq] at ho
                  subst ho
                  simp only [Act.put, List.setIfInBounds_toArray, List.set_cons_zero, List.set_cons_succ] at hK
                  have e14 := (hV14 _ _).1 (hI.know (hdep ⟨14, .data⟩ (by simp) rfl))
                  have e15 := (hV15 _ _).1 (hI.know (hdep ⟨15, .data⟩ (by simp) rfl))
                  simp only [e14, e15] at hK
                  refine wpOp_step rfl fun K' hK' => ?_
                  go_simp
                  exact hK' _ _ (hK _ _ (hI.quiet hRel hnd (by decide) hVm hSm (Below.refl _ _) ((hV16 _ _).2 (congrArg _ W16.out))))
                | 17, ho =>
                  simp only [List.getElem?_cons_succ, List.getElem?_cons_zero, Option.some.injEq] at ho
                  subst ho
                  simp only [Act.put, List.setIfInBounds_toArray, List.set_cons_zero, List.set_cons_succ] at hK
                  refine wpOp_step rfl fun K' hK' => ?_
                  go_simp
                  exact hK' _ _ (hK _ _ (hI.quiet hRel hnd (by decide) hVm hSm (Below.refl _ _) ((hV17 _ _).2 rfl)))
                | 18, ho =>
                  simp only [List.getElem?_cons_succ, List.getElem?_cons_zero, Option.some.injEq] at ho
                  subst ho
                  simp only [Act.put, List.setIfInBounds_toArray, List.set_cons_zero, List.set_cons_succ] at hK
                  have e16 := (hV16 _ _).1 (hI.know (hdep ⟨16, .data⟩ (by simp) rfl))
                  have e17 := (hV17 _ _).1 (hI.know (hdep ⟨17, .data⟩ (by simp) rfl))
                  simp only [e16, e17] at hK
                  refine wpOp_step rfl fun K' hK' => ?_
                  go_simp
                  exact hK' _ _ (hK _ _ (hI.quiet hRel hnd (by decide) hVm hSm (Below.refl _ _) ((hV18 _ _).2 (congrArg _ W18.out))))
                | 19, ho =>
                  simp only [List.getElem?_cons_succ, List.getElem?_cons_zero, Option.some.injEq] at ho
                  subst ho
                  simp only [Act.put, List.setIfInBounds_toArray, List.set_cons_zero, List.set_cons_succ] at hK
                  have e13 := (hV13 _ _).1 (hI.know (hdep ⟨13, .data⟩ (by simp) rfl))
                  have e18 := (hV18 _ _).1 (hI.know (hdep ⟨18, .data⟩ (by simp) rfl))
                  simp only [e13, e18] at hK
                  refine wpOp_step rfl fun K' hK' => ?_
                  go_simp
                  exact hK' _ _ (hK _ _ (hI.quiet hRel hnd (by decide) hVm hSm (Below.refl _ _) ((hV19 _ _).2 rfl)))
                | 20, ho =>
                  simp only [List.getElem?_cons_succ, List.getElem?_cons_zero, Option.some.injEq] at ho
                  subst ho
                  simp only [Act.put, List.setIfInBounds_toArray, List.set_cons_zero, List.set_cons_succ] at hK
                  have hcr := HCY.out wr hgr
                  have e19 := (hV19 _ _).1 (hI.know (hdep ⟨19, .data⟩ (by simp) rfl))
                  simp only [e19] at hK
                  refine wpOp_step rfl fun K' hK' => ?_
                  go_simp
                  exact hK' _ _ (hK _ _ (hI.quiet hRel hnd (by decide) hVm hSm (Below.refl _ _) ((hV20 _ _).2 rfl)))
                | 21, ho =>
                  simp only [List.getElem?_cons_succ, List.getElem?_cons_zero, Option.some.injEq] at ho
                  subst ho
                  simp only [Act.put, List.setIfInBounds_toArray, List.set_cons_zero, List.set_cons_succ] at hK
                  have e2 := (hV2 _ _).1 (hI.know (hdep ⟨2, .data⟩ (by simp) rfl))
                  have e11 := (hV11 _ _).1 (hI.know (hdep ⟨11, .data⟩ (by simp) rfl))
                  have e20 := (hV20 _ _).1 (hI.know (hdep ⟨20, .data⟩ (by simp) rfl))
                  simp only [e2, e11, e20] at hK
                  refine wpOp_step rfl fun K' hK' => ?_
                  go_simp
                  refine (times_three zF x y).mono ?_
                  rintro e w5 ⟨rfl, hb5⟩
                  exact hK' _ _ (hK _ _ (hI.quiet hRel hnd (by decide) hVm hSm hb5 ((hV21 _ _).2 rfl)))
                | 22, ho =>
                  simp only [List.getElem?_cons_succ, List.getElem?_cons_zero, Option.some.injEq] at ho
                  subst ho
                  simp only [Act.put, List.setIfInBounds_toArray, List.set_cons_zero, List.set_cons_succ] at hK
                  have e21 := (hV21 _ _).1 (hI.know (hdep ⟨21, .data⟩ (by simp) rfl))
                  simp only [e21] at hK
                  refine wpOp_step rfl fun K' hK' => ?_
                  go_simp
                  exact hK' _ _ (hK _ _ (hI.quiet hRel hnd (by decide) hVm hSm (Below.refl _ _) ((hV22 _ _).2 rfl)))
                | 23, ho =>
                  simp only [List.getElem?_cons_succ, List.getElem?_cons_zero, Option.some.injEq] at ho
                  subst ho
                  simp only [Act.put, List.setIfInBounds_toArray, List.set_cons_zero, List.set_cons_succ] at hK
                  have e22 := (hV22 _ _).1 (hI.know (hdep ⟨22, .data⟩ (by simp) rfl))
                  simp only [e22] at hK
                  refine wpOp_step rfl fun K' hK' => ?_
                  go_simp
                  exact hK' _ _ (hK _ _ (hI.quiet hRel hnd (by decide) hVm hSm (Below.refl _ _) ((hV23 _ _).2 rfl)))
                | 24, ho =>
                  simp only [List.getElem?_cons_succ, List.getElem?_cons_zero, Option.some.injEq] at ho
                  subst ho
                  simp only [Act.put, List.setIfInBounds_toArray, List.set_cons_zero, List.set_cons_succ] at hK
                  have e22 := (hV22 _ _).1 (hI.know (hdep ⟨22, .data⟩ (by simp) rfl))
                  simp only [e22] at hK
                  refine wpOp_step rfl fun K' hK' => ?_
                  go_simp
                  exact hK' _ _ (hK _ _ (hI.quiet hRel hnd (by decide) hVm hSm (Below.refl _ _) ((hV24 _ _).2 rfl)))
                | 25, ho =>
                  simp only [List.getElem?_cons_succ, List.getElem?_cons_zero, Option.some.injEq] at ho
                  subst ho
                  simp only [Act.put, List.setIfInBounds_toArray, List.set_cons_zero, List.set_cons_succ] at hK
                  have e0 := (hV0 _ _).1 (hI.know (hdep ⟨0, .data⟩ (by simp) rfl))
                  have e1 := (hV1 _ _).1 (hI.know (hdep ⟨1, .data⟩ (by simp) rfl))
                  simp only [e0, e1] at hK
                  refine wpOp_step rfl fun K' hK' => ?_
                  go_simp
                  exact hK' _ _ (hK _ _ (hI.quiet hRel hnd (by decide) hVm hSm (Below.refl _ _) ((hV25 _ _).2 rfl)))
                | 26, ho =>
                  simp only [List.getElem?_cons_succ, List.getElem?_cons_zero, Option.some.injEq] at ho
                  subst ho
                  simp only [Act.put, List.setIfInBounds_toArray, List.set_cons_zero, List.set_cons_succ] at hK
                  have e25 := (hV25 _ _).1 (hI.know (hdep ⟨25, .data⟩ (by simp) rfl))
                  have e23 := (hV23 _ _).1 (hI.know (hdep ⟨23, .data⟩ (by simp) rfl))
                  simp only [e25, e23] at hK
                  have hr0 := (hS0 _ _).1 (hI.at_ (k := 0) rfl hnd (.inl rfl))
                  have gk := Row.at_ hr0 (fillTo_at (X := Y) (k := j) (by rw [HYL.out]; exact hjL))
                  have gf := Box.frozen hr0 j
                  have gl := Box.lt hr0
                  have hs1 := Row.store hr0 j (twoV 3 x y)
                  rw [fillTo_set HYJ.out] at hs1
                  refine wpOp_step rfl fun K' hK' => ?_
                  go_simp
                  exact hK' _ _ (hK _ _ (hI.step (v := .nilIface) hRel (k := 0) rfl hnd (.inl rfl) (by decide) hVm (grownBy_setCell _ _ _ _) (hV26 _ _) ((hS1 _ _).2 (hs1))))
                | 27, ho =>
                  simp only [List.getElem?_cons_succ, List.getElem?_cons_zero, Option.some.injEq] at ho
                  subst ho
                  simp only [Act.put, List.setIfInBounds_toArray, List.set_cons_zero, List.set_cons_succ] at hK
                  have e24 := (hV24 _ _).1 (hI.know (hdep ⟨24, .data⟩ (by simp) rfl))
                  simp only [e24] at hK
                  refine wpOp_step rfl fun K' hK' => ?_
                  go_simp
                  exact hK' _ _ (hK _ _ (hI.quiet hRel hnd (by decide) hVm hSm (Below.refl _ _) ((hV27 _ _).2 rfl)))
                | i + 28, ho => simp at ho
              case fin =>
                simp only [putAll, Act.put, List.setIfInBounds_toArray, List.set_cons_zero, List.set_cons_succ, Nat.reduceAdd, Nat.zero_add]
                intro done u wr hd hI
                simp only [List.length_cons, List.length_nil, Nat.reduceAdd, Nat.zero_add] at hd
                have hS := (hS1 _ _).1 (hI.end_ (fun c hc => hd c (by simp at hc; omega)))
                have e27 := (hV27 _ _).1 (hI.know (hd 27 (by omega)))
                simp only [e27]
                have hgI := hI.1
                have HH := Lib.hid (And.intro hS (And.intro (Box.grown HBO2.out hgI HNG.out) (And.intro (HOW.out.kept hgI (.inr HNO.out)) (And.intro (Box.grown HQF.out hgI (by intro e; injection e; omega)) (And.intro (HBL2.out.grown hgI HBL2.out.size (fun _ e => by injection e; omega)) (Nat.lt_of_lt_of_le HSZ.out hgI.size))))))
                clear hI hd hS hgI hV27 e27
                go_wp2_with fail
                go_roundw
                case rel => exact ⟨j + 1, by omega, by go_num, HH.out.1, HH.out.2.1, HH.out.2.2.1, HOM.out, HH.out.2.2.2.1, HH.out.2.2.2.2.1, HH.out.2.2.2.2.2⟩
                case measure => simp [intOf]; omega
            · rw [show j = Y.length by rw [HYL.out]; omega, fillTo_all] at hr
              have HHY := Lib.hid (show Wf Y from fun x hx => by
                rw [HY.out] at hx
                obtain ⟨z, -, rfl⟩ := List.mem_map.1 hx
                rw [two_mul3]
                exact word_wf.2 (word_wrap _))
              have hof := of_any 1 _ Y wi (Row.isInts hr (n := L) HYL.out.symm (by have := HLE.out; omega)) (by rw [HYL.out]; exact HLE.out) HHY.out
              have he0 : (ofR 1 Y).2 = 0 := by
                by_cases hYe : Y = []
                · rw [hYe]; rfl
                · exact Tame.of (by unfold Tame; omega) hYe
              rw [he0, errV_zero] at hof
              have HOF := Lib.hid hof
              obtain ⟨V, hV⟩ : ∃ V, V = (ofR 1 Y).1 := ⟨_, rfl⟩
              have HXV := Lib.hid (show X[k]? = some V by rw [hV, HY.out]; exact HXK.out k hkN)
              rw [← hV] at HOF
              clear hof he0 hr hV hbww
              go_wp2_with fail
              refine HOF.out.mono ?_
              rintro e w5 ⟨rfl, hb5⟩
              have h1 := HBO2.out.below hb5
              have h2 := HOW.out.below hb5
              have h3 := HQF.out.below hb5
              have hbl5 := HBL2.out.trans (hb5.mono HBL2.out.size)
              obtain ⟨g0, g1, g2⟩ := h1.three
              have gl := h1.lt
              have hz5 := hb5.size
              have hzs := HSZ.out
              have hzb := hbl5.size
              clear hb5
              go_wp2_with (at_builtin; refine wpList_append_ints _ rfl rfl _ _ rfl (w3.heap.size) k _ (X.take k) rfl (h2.alloc _) (some ⟨w5.heap.size, 0, none⟩) 1 1 [V] rfl (by simp) (elems_new w5 V) rfl (by omega) (by simp; omega) ?_; intro A6 c6 w7 hown7 hgrow7 hat7; have b7 := Box.grown (w := w5.alloc _) (h1.alloc _) hgrow7 (h2.ne_box h1 (by decide)); have hc7 := b7.three.2.2; have hf7 := b7.frozen 2; have hl7 := b7.lt)
              go_roundw
              case rel =>
                have b8 := Box.grown (w := w5.alloc _) (h3.alloc _) hgrow7 (h2.ne_box h3 (by decide))
                exact ⟨k + 1, A6, c6, by omega, by go_num, b7.store 2 _, by rw [← take_at HXV.out]; exact hown7.setCell (p := ⟨w3.heap.size + 1, 2, none⟩) (hown7.ne_box b7 (by decide)) _, b8.far (p := ⟨w3.heap.size + 1, 2, none⟩) (Box.apart b8 b7 (by decide)) _, ((hbl5.alloc (by omega) _).grown hgrow7 (by simp; omega) (fun _ e => by have := (h2.lt e).1; omega)).setCell (p := ⟨w3.heap.size + 1, 2, none⟩) (by simp) _, by have := hgrow7.size; simp at this ⊢; omega⟩
              case measure => simp [intOf]; omega
        · obtain rfl : k = N := by omega
          have h1 := H1.out
          have h2 := H2.out
          rw [List.take_of_length_le (by rw [HXL.out]; exact Nat.le_refl _)] at h2
          have hbww := HZ.out.2.2.2.trans (HBL.out.mono HZ.out.2.2.2.size)
          have b3 := HZ.out.2.2.1.below HBL.out
          have hz3 := HZ.out.2.2.1.lt
          have rf := b3.frozen
          obtain ⟨e0, e1, e2⟩ := b3.three
          have rl := b3.lt
          obtain ⟨g0, g1, g2⟩ := h1.three
          have gl := h1.lt
          clear h1
          go_wp2_with fail
          have hgg := grownBy_three wo (w.heap.size + 1 + 1) (.bool false) (.slice S 0 cS) (.slice A4 k c4)
          have z := ((b3.store 0 (.bool false)).store 1 (.slice S 0 cS)).store 2 (.slice A4 k c4)
          simp only [List.setIfInBounds_toArray, List.set_cons_zero, List.set_cons_succ] at z
          obtain ⟨z0, z1, z2⟩ := z.three
          have zl := z.lt
          refine bodyPost_ret (v := .tuple #[.agg #[.bool false, .slice S 0 cS, .slice A4 k c4], .nilIface]) (by simp [results, Tryz.results141, go_sem, z0, z1, z2, zl]) rfl ?_
          have iS : IsInts _ (.slice S 0 cS) _ := (HOS.out.isInts.mono HBL.out).off hgg b3 (noInts_arr _ _ _ _ _ _ _)
          have iD := (h2.kept hgg (.inr (h2.ne_low (by omega)))).isInts
          exact ⟨_, rfl, ⟨_, _, rfl, iS, iD⟩, hbww.grown hgg hbww.size (fun j e => by cases e; omega), newV (HOS.out.from_ (Nat.le_refl _)) (h2.from_ (by have := HZ.out.2.2.2.size; omega))⟩

end Go.Proofs.YtihndbkaoejnnaaGreatDoor

namespace Go.Proofs.YtihndbkaoejnnaaGreatDoor
open Go Go.RowKit Go.Proofs.YtihndbkaoejnnaaGreatDoor.P

set_option maxRecDepth 100000 in
set_option maxHeartbeats 16000000 in
theorem inner_2 {w : World} {va vb : Value} {a b : Arr} {p L r : Nat} (ha : IsArr w va a) (hb : IsArr w vb b) (h1 : Ok a [p, L]) (h2 : Ok b [L, r]) (hca : a.ch = false) (hcb : b.ch = false) (hg : GoodSh [p, r]) :
    Calls Tryz.prog 141 #[.int .i64 1, .int .i64 3, va, vb] w (GivesOkN ⟨false, [(p : Int), (r : Int)], innerD a.da b.da L (p * r) r⟩ w) := by
  obtain ⟨A, ca, D, cd, rfl, hsa, hda⟩ := ha.open_
  obtain ⟨A', ca', D', cd', rfl, hsb, hdb⟩ := hb.open_
  have hra : a.sh.length = 2 := by rw [h1.sh]; rfl
  have hrb : b.sh.length = 2 := by rw [h2.sh]; rfl
  obtain ⟨ma, hma⟩ : ∃ m, m = a.da.length := ⟨_, rfl⟩
  obtain ⟨mb, hmb⟩ : ∃ m, m = b.da.length := ⟨_, rfl⟩
  rw [hca, hra, ← hma] at ha ⊢
  rw [hcb, hrb, ← hmb] at hb ⊢
  rw [hra] at hsa
  rw [hrb] at hsb
  rw [← hma] at hda
  rw [← hmb] at hdb
  have hsa' : IsInts w (.slice A 2 ca) [(p : Int), (L : Int)] := by rw [h1.sh] at hsa; exact hsa
  have hsb' : IsInts w (.slice A' 2 ca') [(L : Int), (r : Int)] := by rw [h2.sh] at hsb; exact hsb
  obtain ⟨C, hC⟩ : ∃ c : Nat, c = r := ⟨_, rfl⟩
  obtain ⟨N, hN⟩ : ∃ c : Nat, c = (p * r) := ⟨_, rfl⟩
  have hL4 : L ≤ 4096 := h1.good.2.1 L (by simp)
  have hN4 : N ≤ 4096 := by rw [hN]; have := hg.2.2; simpa [prod] using this
  have hC4 : C ≤ 4096 := by rw [hC]; exact hg.2.1 r (by simp)
  have hma4 : ma ≤ 4096 := by rw [hma, h1.len]; exact h1.good.2.2
  have hmb4 : mb ≤ 4096 := by rw [hmb, h2.len]; exact h2.good.2.2
  have HIA := Lib.hid (show ∀ k j, k < N → j < L → k / C * L + j < ma from fun k j hk hj => by
    rw [hN] at hk
    rw [hC, hma, h1.len]
    have hr0 : 0 < r := by rcases Nat.eq_zero_or_pos r with h | h; subst h; simp at hk; exact h
    have h3 : k / r < p := (Nat.div_lt_iff_lt_mul hr0).2 hk
    have h4 : (k / r + 1) * L ≤ p * L := Nat.mul_le_mul_right _ h3
    simp only [prod, Nat.mul_one]
    rw [Nat.add_mul, Nat.one_mul] at h4
    omega)
  have HIB := Lib.hid (show ∀ k j, k < N → j < L → j * C + k % C < mb from fun k j hk hj => by
    rw [hN] at hk
    rw [hC, hmb, h2.len]
    have hr0 : 0 < r := by rcases Nat.eq_zero_or_pos r with h | h; subst h; simp at hk; exact h
    have h3 : k % r < r := Nat.mod_lt _ hr0
    have h4 : (j + 1) * r ≤ L * r := Nat.mul_le_mul_right _ hj
    simp only [prod, Nat.mul_one]
    rw [Nat.add_mul, Nat.one_mul] at h4
    omega)
  have HC0 := Lib.hid (show ∀ k, k < N → 0 < C from fun k hk => by
    rw [hN] at hk
    rw [hC]
    rcases Nat.eq_zero_or_pos r with h | h; subst h; simp at hk; exact h)
  have HFT := Lib.hid (fun (W : World) (hb' : Below w.heap.size w W) => fits_2 (w := W) (x := false) (y := false) (D := D) (D' := D') (md := ma) (md' := mb) (cd := cd) (cd' := cd') (hsa'.mono hb') (hsb'.mono hb') hg)
  have HCT := Lib.hid (fun (W : World) (v : Value) (hv : IsInts W v [(p : Int), (r : Int)]) => count_ok v [p, r] W (by simpa [ints] using hv) hg)
  have hNp : (prod [p, r] : Nat) = N := by rw [hN]; simp [prod]
  rw [hNp] at HCT
  obtain ⟨X, hX⟩ : ∃ X, X = innerD a.da b.da L N C := ⟨_, rfl⟩
  rw [show innerD a.da b.da L (p * r) r = X by rw [hX, hN, hC]]
  have HXL := Lib.hid (show X.length = N by rw [hX]; simp [innerD])
  have HXK := Lib.hid (show ∀ k, k < N → X[k]? = some (ofR 1 (dotL a.da b.da L C k)).1 from fun k hk => by rw [hX]; unfold innerD; rw [List.getElem?_map, List.getElem?_range hk]; rfl)
  have HDA := Lib.hid hda.elems
  have HDB := Lib.hid hdb.elems
  have HMA := Lib.hid hma
  have HMB := Lib.hid hmb
  have HA := Lib.hid ha
  have HB := Lib.hid hb
  have HE1 := Lib.hid (arrErr_ok h1)
  have HE2 := Lib.hid (arrErr_ok h2)
  obtain ⟨A0', c0', eB, q1, q2, q3, q5, q4⟩ := id hsb'
  injection eB with eB1 eB2 eB3
  subst eB1 eB3
  clear eB2
  have EB := Lib.hid (show Elems w A' [(L : Int), (r : Int)] from q4)
  obtain ⟨A2, hp2, hq2, hr2⟩ := part_named (lo := some (.int .i64 1)) (hi := none) (L := 1) (H := 2) EB.out q5 q1 (.inr rfl) (.inl ⟨rfl, rfl⟩) (by omega) (by simp at q1; omega)
  simp only [List.length_cons, List.length_nil, Nat.zero_add, Nat.reduceAdd, Nat.sub_zero, Nat.reduceSub, Nat.sub_self, List.take_succ_cons, List.take_zero, List.drop_succ_cons, List.drop_zero, List.drop_nil] at hp2 hq2 hr2
  obtain ⟨bd2, rfl, hbl2, hbc2⟩ := hq2 0 (r : Int) rfl
  rw [addr_zero] at hbc2
  have HBL2 := Lib.hid hbl2
  have HBC2 := Lib.hid hbc2
  clear hbl2 hbc2
  have HP2 := Lib.hid hp2
  have HLE := Lib.hid (show (L : Nat) ≤ 4096 from hL4)
  clear hp2 hq2 hr2 q1 q2 q3 q5 q4
  have HCC := Lib.hid hC
  have hcf : ∀ args W, (callFunc 213 args).run Tryz.prog W = .ok (.enter 213 args) W := fun args W => rfl
  have hmx := mixedZ
  have hx6 := ((Box.new w 25 #[.bool false, .slice A 2 ca, .slice D ma cd]).alloc (.cells #[.bool false, .slice A' 2 ca', .slice D' mb cd'] 25)).alloc (.cells #[.bool false, .slice none 0 0, .slice none 0 0] 25)
  have hx7 := (Box.new (w.alloc (.cells #[.bool false, .slice A 2 ca, .slice D ma cd] 25)) 25 #[.bool false, .slice A' 2 ca', .slice D' mb cd']).alloc (.cells #[.bool false, .slice none 0 0, .slice none 0 0] 25)
  have hx8 := Box.new ((w.alloc (.cells #[.bool false, .slice A 2 ca, .slice D ma cd] 25)).alloc (.cells #[.bool false, .slice A' 2 ca', .slice D' mb cd'] 25)) 25 #[.bool false, .slice none 0 0, .slice none 0 0]
  have hxf := Box.new (((w.alloc (.cells #[.bool false, .slice A 2 ca, .slice D ma cd] 25)).alloc (.cells #[.bool false, .slice A' 2 ca', .slice D' mb cd'] 25)).alloc (.cells #[.bool false, .slice none 0 0, .slice none 0 0] 25)) 32 #[.int .i64 1, .int .i64 3]
  simp only [World.size_alloc] at hx7 hx8 hxf
  have hbw := (below_three w (.cells #[.bool false, .slice A 2 ca, .slice D ma cd] 25) (.cells #[.bool false, .slice A' 2 ca', .slice D' mb cd'] 25) (.cells #[.bool false, .slice none 0 0, .slice none 0 0] 25)).alloc (by simp; omega) (.cells #[.int .i64 1, .int .i64 3] 32)
  have HX6 := Lib.hid (hx6.alloc (.cells #[.int .i64 1, .int .i64 3] 32))
  have HX7 := Lib.hid (hx7.alloc (.cells #[.int .i64 1, .int .i64 3] 32))
  have HX8 := Lib.hid (hx8.alloc (.cells #[.int .i64 1, .int .i64 3] 32))
  have HXF := Lib.hid hxf
  have HBW := Lib.hid hbw
  clear ha hb h1 h2 hca hcb hra hrb hsa hsb hsa' hsb' hda hdb hma hmb hN hC hX hNp hx6 hx7 hx8 hxf hbw hg
  go_enter Tryz.func141, Tryz.ntmps141
  go_wp2_with fail
  refine (known_two (by simpa using HXF.out)).mono ?_
  rintro e w1 ⟨rfl, hb1⟩
  have x6 := HX6.out.below hb1
  have x7 := HX7.out.below hb1
  have x8 := HX8.out.below hb1
  have hbw1 := HBW.out.trans (hb1.mono HBW.out.size)
  obtain ⟨a0, a1, a2⟩ := x6.three
  obtain ⟨b0, b1, b2⟩ := x7.three
  have al := x6.lt
  have bl := x7.lt
  clear hb1
  go_wp2_with fail
  refine (checks_two (HA.out.mono hbw1) (HB.out.mono hbw1) HE1.out HE2.out).mono ?_
  rintro e w2 ⟨rfl, hb2⟩
  have y6 := x6.below hb2
  have y7 := x7.below hb2
  have y8 := x8.below hb2
  have hbw2 := hbw1.trans (hb2.mono hbw1.size)
  clear hb2 x6 x7 x8 hbw1 a0 a1 a2 b0 b1 b2 al bl
  obtain ⟨a0, a1, a2⟩ := y6.three
  obtain ⟨b0, b1, b2⟩ := y7.three
  have al := y6.lt
  have bl := y7.lt
  go_wp2_with fail
  refine (HFT.out w2 hbw2).mono ?_
  rintro e w3 ⟨S, cS, rfl, hoS, hb3⟩
  have HOS := Lib.hid (hoS.base hbw2.size)
  have z6 := y6.below hb3
  have z7 := y7.below hb3
  have z8 := y8.below hb3
  have hbw3 := hbw2.trans (hb3.mono hbw2.size)
  clear hb3 y6 y7 y8 hbw2 a0 a1 a2 b0 b1 b2 al bl hoS
  obtain ⟨a0, a1, a2⟩ := z6.three
  obtain ⟨b0, b1, b2⟩ := z7.three
  have al := z6.lt
  have bl := z7.lt
  have HZ := Lib.hid (And.intro z6 (And.intro z7 (And.intro z8 hbw3)))
  clear z6 z7 z8 hbw3
  have HNU := Lib.hid (fun W => (show Calls Tryz.prog 22 #[.int .i64 1] W fun e w' => e = .returned (.tuple #[.int .i64 (neutV 1), .nilIface]) ∧ W = w' from neutral_any 1 W))
  rcases Nat.eq_zero_or_pos L with hL0 | hL0
  focus
    have hz1 : decide ((L : Int) = 0) = true := decide_eq_true (by omega)
    have hz2 : ((L : Int) == 0) = true := by rw [beq_iff_eq]; omega
    clear hL0
    go_wp2_with fail
    refine (HNU.out _).mono ?_
    rintro e w4 ⟨rfl, rfl⟩
    clear hz1 hz2
    go_wp2_with fail
  rotate_left
  focus
    have hz1 : decide ((L : Int) = 0) = false := decide_eq_false (by omega)
    have hz2 : ((L : Int) == 0) = false := by rw [beq_eq_false_iff_ne]; omega
    go_wp2_with fail
    clear hz1 hz2 hL0
  all_goals
    refine (HCT.out _ _ HOS.out.isInts).mono ?_
    rintro e w4 ⟨rfl, rfl⟩
    have hp2 := HP2.out
    have hc2 : w3.cell? bd2 = some (.int .i64 (r : Int)) := (HZ.out.2.2.2.cell HBL2.out).trans HBC2.out
    have hl2 : bd2.block < w3.heap.size := Nat.lt_of_lt_of_le HBL2.out HZ.out.2.2.2.size
    have hwr : IntKind.i64.wrap (r : Int) = (r : Int) := IntWalk.i64_in _ (by have := HCC.out; omega)
    go_wp2_with fail
    clear hp2
    go_loopw [19, 90] (fun s19 s90 wr => w3 = wr ∧ ((s19 = .int .i64 1 ∧ s90 = .int .i64 0) ∨ (s19 = .int .i64 (C : Nat) ∧ s90 = .int .i64 1))) (fun _ s90 _ => (1 - intOf s90).toNat)
    case atStart => exact ⟨rfl, .inl ⟨rfl, rfl⟩⟩
    case round =>
      obtain ⟨rfl, hrel⟩ := hrel
      rcases hrel with ⟨rfl, rfl⟩ | ⟨rfl, rfl⟩
      · go_wp2_with fail
        go_roundw
        case rel => exact ⟨trivial, .inr ⟨by rw [HCC.out], by go_num⟩⟩
        case measure => simp [intOf]
      · clear hc2 hl2 hwr
        have hmk := run_make_ints N (by omega)
        have bO := Box.new (w3.alloc (.cells (madeCells #[.int .i64 0] N) 3)) 25 #[.bool false, .slice S 2 cS, .slice (some ⟨w3.heap.size, 0, none⟩) 0 N]
        simp only [World.size_alloc] at bO
        have oO : Owns ((w3.alloc (.cells (madeCells #[.int .i64 0] N) 3)).alloc (.cells #[.bool false, .slice S 2 cS, .slice (some ⟨w3.heap.size, 0, none⟩) 0 N] 25)) w3.heap.size (.slice (some ⟨w3.heap.size, 0, none⟩) 0 N) 0 [] := Owns.alloc ⟨World.ownsRow_made _ _ _ (Nat.le_refl _) (by unfold maxLen; omega) (by simp [size_madeCells]), by omega⟩ _
        have hbD := below_two w3 (.cells (madeCells #[.int .i64 0] N) 3) (.cells #[.bool false, .slice S 2 cS, .slice (some ⟨w3.heap.size, 0, none⟩) 0 N] 25)
        have HBO := Lib.hid bO
        have HOO := Lib.hid oO
        have HBD := Lib.hid hbD
        clear bO oO hbD
        go_wp2_with fail
        refine between_any.mono ?_
        rintro e wB ⟨gF, rfl, bF, hbB⟩
        have b1' := HBO.out.below hbB
        have o1 := HOO.out.below hbB
        have hb3 := HBD.out.trans (hbB.mono HBD.out.size)
        have hgz : w3.heap.size + 2 ≤ wB.heap.size := by have := b1'.lt; omega
        clear hbB hmk a0 a1 a2 b0 b1 b2 al bl
        go_wp2_with fail
        go_loopw [107] (fun so wr => ∃ (k : Nat) (A4 : Option Addr) (c4 : Nat), k ≤ N ∧ so = .int .i64 k ∧ Box wr (w3.heap.size + 1) 25 #[.bool false, .slice S 2 cS, .slice A4 k c4] ∧ Owns wr w3.heap.size (.slice A4 k c4) k (X.take k) ∧ Box wr gF 32 #[.int .i64 3] ∧ Below w3.heap.size w3 wr ∧ wB.heap.size ≤ wr.heap.size) (fun so _ => N - (intOf so).toNat)
        case atStart => exact ⟨0, _, _, Nat.zero_le _, rfl, b1', by simpa using o1, bF, hb3, Nat.le_refl _⟩
        case round =>
          clear b1' o1 bF hb3
          obtain ⟨k, A4, c4, hk, rfl, h1, h2, h3, hbl, hwz⟩ := hrel
          obtain ⟨wo, rfl⟩ : ∃ W : World, W = wr := ⟨_, rfl⟩
          have H1 := Lib.hid h1
          have H2 := Lib.hid h2
          have H3 := Lib.hid h3
          have HBL := Lib.hid hbl
          clear h1 h2 h3 hbl
          rcases Nat.lt_or_ge k N with hkN | hkN
          · have hC0 := HC0.out k hkN
            obtain ⟨row, hrow⟩ : ∃ z, z = k / C := ⟨_, rfl⟩
            obtain ⟨col, hcol⟩ : ∃ z, z = k % C := ⟨_, rfl⟩
            have hq1 : Int.tdiv (k : Int) (C : Int) = (row : Int) := by rw [hrow]; exact (Int.ofNat_tdiv k C).symm
            have hq2 : Int.tmod (k : Int) (C : Int) = (col : Int) := by rw [hcol]; exact (Int.ofNat_tmod k C).symm
            have hrow4 : row ≤ 4096 := by rw [hrow]; exact Nat.le_trans (Nat.div_le_self _ _) (by omega)
            have hcol4 : col ≤ 4096 := by rw [hcol]; exact Nat.le_trans (Nat.mod_le _ _) (by omega)
            have hw1 : IntKind.i64.wrap (row : Int) = (row : Int) := IntWalk.i64_in _ (by omega)
            have hw2 : IntKind.i64.wrap (col : Int) = (col : Int) := IntWalk.i64_in _ (by omega)
            have hz1 : ((C : Int) == 0) = false := by rw [beq_eq_false_iff_ne]; omega
            have hz2 : ¬ (C : Int) = 0 := by omega
            have hmk := run_make_list L (by have := HLE.out; omega)
            have HROW := Lib.hid hrow
            have HCOL := Lib.hid hcol
            obtain ⟨Y, hY⟩ : ∃ Y, Y = dotL a.da b.da L C k := ⟨_, rfl⟩
            have HY := Lib.hid hY
            have HYL := Lib.hid (show Y.length = L by rw [hY]; simp [dotL])
            clear hrow hcol hY
            go_wp2_with fail
            go_quiet (fail)
            all_goals go_wp2_with fail
            clear hq1 hq2 hw1 hw2 hz1 hz2 hmk
            go_loopw [120] (fun sj wy => ∃ j : Nat, j ≤ L ∧ sj = .int .i64 j ∧ Row wy wo.heap.size (FillTo Y j) ∧ Box wy (w3.heap.size + 1) 25 #[.bool false, .slice S 2 cS, .slice A4 k c4] ∧ Owns wy w3.heap.size (.slice A4 k c4) k (X.take k) ∧ (∀ m, (Value.slice A4 k c4).ownBlock = some m → m < wo.heap.size) ∧ Box wy gF 32 #[.int .i64 3] ∧ Below w3.heap.size w3 wy ∧ wo.heap.size < wy.heap.size) (fun sj _ => L - (intOf sj).toNat)
            case atStart => exact ⟨0, Nat.zero_le _, rfl, by rw [fillTo_zero, HYL.out]; exact Row.made _ _, (H1.out.drewN _).alloc _, (H2.out.drewN _).alloc _, fun m e => (H2.out.lt e).2, (H3.out.drewN _).alloc _, (HBL.out.trans (below_draws _ _ _)).alloc (by simp; omega) _, by simp⟩
            case round =>
              obtain ⟨j, hj, rfl, hr, hbo, how, hom, hf, hbl2, hsz⟩ := hrel
              obtain ⟨wi, rfl⟩ : ∃ W : World, W = wr := ⟨_, rfl⟩
              have q6 := HZ.out.1.below hbl2
              have q7 := HZ.out.2.1.below hbl2
              have hbww := HZ.out.2.2.2.trans (hbl2.mono HZ.out.2.2.2.size)
              have hz3 := HZ.out.1.lt
              have hz4 := HZ.out.2.1.lt
              have hFl := H3.out.lt
              have HBO2 := Lib.hid hbo
              have HOW := Lib.hid how
              have HOM := Lib.hid hom
              have HQF := Lib.hid hf
              have HQ6 := Lib.hid q6
              have HQ7 := Lib.hid q7
              have HBL2 := Lib.hid hbl2
              have HSZ := Lib.hid hsz
              clear hbo how hom hf hbl2 q6 q7
              rcases Nat.lt_or_ge j L with hjL | hjL
              · have hPA := HIA.out k j hkN hjL
                have hPB := HIB.out k j hkN hjL
                rw [← HROW.out] at hPA
                rw [← HCOL.out] at hPB
                obtain ⟨ad, x, rfl, hx, hax, hcx⟩ := Elems.later HDA.out hbww (by rw [← HMA.out]; exact hPA)
                obtain ⟨bd, y, rfl, hy, hay, hcy⟩ := Elems.later HDB.out hbww (by rw [← HMB.out]; exact hPB)
                have HYJ := Lib.hid (show Y[j]? = some (twoV 3 x y) by
                  rw [HY.out]
                  unfold dotL
                  rw [List.getElem?_map, List.getElem?_range hjL]
                  simp only [Option.map_some]
                  rw [← HROW.out, ← HCOL.out, List.getD_eq_getElem?_getD, List.getD_eq_getElem?_getD, hx, hy]; rfl)
                obtain ⟨RL, hRL⟩ : ∃ z, z = row * L := ⟨_, rfl⟩
                rw [← hRL] at hPA hcx
                obtain ⟨P, hPP⟩ : ∃ z, z = RL + j := ⟨_, rfl⟩
                rw [← hPP] at hPA hcx
                obtain ⟨JC, hJC⟩ : ∃ z, z = j * C := ⟨_, rfl⟩
                rw [← hJC] at hPB hcy
                obtain ⟨Q, hQQ⟩ : ∃ z, z = JC + col := ⟨_, rfl⟩
                rw [← hQQ] at hPB hcy
                have W7 := Lib.hid (show IntKind.i64.wrap ((row : Int) * (L : Int)) = (RL : Int) by rw [show (row : Int) * (L : Int) = ((RL : Nat) : Int) by rw [hRL]; simp]; exact IntWalk.i64_in _ (by omega))
                have W9 := Lib.hid (show IntKind.i64.wrap ((RL : Int) + (j : Int)) = (P : Int) by rw [show (RL : Int) + (j : Int) = ((P : Nat) : Int) by rw [hPP]; simp]; exact IntWalk.i64_in _ (by omega))
                have W16 := Lib.hid (show IntKind.i64.wrap ((j : Int) * (C : Int)) = (JC : Int) by rw [show (j : Int) * (C : Int) = ((JC : Nat) : Int) by rw [hJC]; simp]; exact IntWalk.i64_in _ (by omega))
                have W18 := Lib.hid (show IntKind.i64.wrap ((JC : Int) + (col : Int)) = (Q : Int) by rw [show (JC : Int) + (col : Int) = ((Q : Nat) : Int) by rw [hQQ]; simp]; exact IntWalk.i64_in _ (by omega))
                have hw3 := HZ.out.2.2.2.size
                have HCX := Lib.hid (show ∀ wx, wi.grownBy wx (some wo.heap.size) → wx.cell? (ad.add P) = some (.int .i64 x) from fun wx hg => (World.cell?_of_block (a := ad.add P) (hg.block _ (by rw [addr_block_add]; omega) (by rw [addr_block_add]; intro e; injection e; omega))).trans hcx)
                have HCY := Lib.hid (show ∀ wx, wi.grownBy wx (some wo.heap.size) → wx.cell? (bd.add Q) = some (.int .i64 y) from fun wx hg => (World.cell?_of_block (a := bd.add Q) (hg.block _ (by rw [addr_block_add]; omega) (by rw [addr_block_add]; intro e; injection e; omega))).trans hcy)
                have HNG := Lib.hid (show (some wo.heap.size : Option Nat) ≠ some (w3.heap.size + 1) from fun e => by injection e; omega)
                have HNO := Lib.hid (show (Value.slice A4 k c4).ownBlock ≠ some wo.heap.size from fun e => absurd (HOM.out _ e) (by omega))
                clear hx hy hcx hcy hRL hPP hJC hQQ hax hay hbww
                go_wp2_with fail
                have hRel : Rels (fun u0 u1 => u0.grownBy u1 (some wo.heap.size)) := rels_block wo.heap.size
                obtain ⟨V, hVe⟩ : ∃ V : Nat → Value → World → Prop, V = fun i v w' => match i with
                    | 0 => v = .slice (some ⟨wo.heap.size, 0, none⟩) L L
                    | 1 => v = .int .i64 (j : Nat)
                    | 2 => v = .func (.func 213) #[] #[.pointer (some ⟨gF, 0, none⟩)]
                    | 3 => v = .pointer (some ⟨w.heap.size, 2, none⟩)
                    | 4 => v = .slice (some ad) ma cd
                    | 5 => v = .int .i64 (row : Nat)
                    | 6 => v = .int .i64 (L : Nat)
                    | 7 => v = .int .i64 (RL : Nat)
                    | 8 => v = .int .i64 (j : Nat)
                    | 9 => v = .int .i64 (P : Nat)
                    | 10 => v = .pointer (some (ad.add P))
                    | 11 => v = .int .i64 x
                    | 12 => v = .pointer (some ⟨w.heap.size + 1, 2, none⟩)
                    | 13 => v = .slice (some bd) mb cd'
                    | 14 => v = .int .i64 (j : Nat)
                    | 15 => v = .int .i64 (C : Nat)
                    | 16 => v = .int .i64 (JC : Nat)
                    | 17 => v = .int .i64 (col : Nat)
                    | 18 => v = .int .i64 (Q : Nat)
                    | 19 => v = .pointer (some (bd.add Q))
                    | 20 => v = .int .i64 y
                    | 21 => v = .tuple #[.int .i64 (twoV 3 x y), .nilIface]
                    | 22 => v = .tuple #[.int .i64 (twoV 3 x y), .nilIface]
                    | 23 => v = .int .i64 (twoV 3 x y)
                    | 24 => v = .nilIface
                    | 25 => v = .pointer (some ⟨wo.heap.size, j, none⟩)
                    | 27 => v = .nilIface
                    | _ => True := ⟨_, rfl⟩
                have hVm : ∀ j v w1 w2, V j v w1 → (fun u0 u1 => u0.grownBy u1 (some wo.heap.size)) w1 w2 → V j v w2 := by
                  intro j v w1 w2 h hr
                  subst hVe
                  match j, h with
                  | 0, h => exact h
                  | 1, h => exact h
                  | 2, h => exact h
                  | 3, h => exact h
                  | 4, h => exact h
                  | 5, h => exact h
                  | 6, h => exact h
                  | 7, h => exact h
                  | 8, h => exact h
                  | 9, h => exact h
                  | 10, h => exact h
                  | 11, h => exact h
                  | 12, h => exact h
                  | 13, h => exact h
                  | 14, h => exact h
                  | 15, h => exact h
                  | 16, h => exact h
                  | 17, h => exact h
                  | 18, h => exact h
                  | 19, h => exact h
                  | 20, h => exact h
                  | 21, h => exact h
                  | 22, h => exact h
                  | 23, h => exact h
                  | 24, h => exact h
                  | 25, h => exact h
                  | 26, _ => trivial
                  | 27, h => exact h
                  | i + 28, _ => trivial
                have hV0 : ∀ v w', V 0 v w' ↔ v = .slice (some ⟨wo.heap.size, 0, none⟩) L L := fun _ _ => by subst hVe; rfl
                have hV1 : ∀ v w', V 1 v w' ↔ v = .int .i64 (j : Nat) := fun _ _ => by subst hVe; rfl
                have hV2 : ∀ v w', V 2 v w' ↔ v = .func (.func 213) #[] #[.pointer (some ⟨gF, 0, none⟩)] := fun _ _ => by subst hVe; rfl
                have hV3 : ∀ v w', V 3 v w' ↔ v = .pointer (some ⟨w.heap.size, 2, none⟩) := fun _ _ => by subst hVe; rfl
                have hV4 : ∀ v w', V 4 v w' ↔ v = .slice (some ad) ma cd := fun _ _ => by subst hVe; rfl
                have hV5 : ∀ v w', V 5 v w' ↔ v = .int .i64 (row : Nat) := fun _ _ => by subst hVe; rfl
                have hV6 : ∀ v w', V 6 v w' ↔ v = .int .i64 (L : Nat) := fun _ _ => by subst hVe; rfl
                have hV7 : ∀ v w', V 7 v w' ↔ v = .int .i64 (RL : Nat) := fun _ _ => by subst hVe; rfl
                have hV8 : ∀ v w', V 8 v w' ↔ v = .int .i64 (j : Nat) := fun _ _ => by subst hVe; rfl
                have hV9 : ∀ v w', V 9 v w' ↔ v = .int .i64 (P : Nat) := fun _ _ => by subst hVe; rfl
                have hV10 : ∀ v w', V 10 v w' ↔ v = .pointer (some (ad.add P)) := fun _ _ => by subst hVe; rfl
                have hV11 : ∀ v w', V 11 v w' ↔ v = .int .i64 x := fun _ _ => by subst hVe; rfl
                have hV12 : ∀ v w', V 12 v w' ↔ v = .pointer (some ⟨w.heap.size + 1, 2, none⟩) := fun _ _ => by subst hVe; rfl
                have hV13 : ∀ v w', V 13 v w' ↔ v = .slice (some bd) mb cd' := fun _ _ => by subst hVe; rfl
                have hV14 : ∀ v w', V 14 v w' ↔ v = .int .i64 (j : Nat) := fun _ _ => by subst hVe; rfl
                have hV15 : ∀ v w', V 15 v w' ↔ v = .int .i64 (C : Nat) := fun _ _ => by subst hVe; rfl
                have hV16 : ∀ v w', V 16 v w' ↔ v = .int .i64 (JC : Nat) := fun _ _ => by subst hVe; rfl
                have hV17 : ∀ v w', V 17 v w' ↔ v = .int .i64 (col : Nat) := fun _ _ => by subst hVe; rfl
                have hV18 : ∀ v w', V 18 v w' ↔ v = .int .i64 (Q : Nat) := fun _ _ => by subst hVe; rfl
                have hV19 : ∀ v w', V 19 v w' ↔ v = .pointer (some (bd.add Q)) := fun _ _ => by subst hVe; rfl
                have hV20 : ∀ v w', V 20 v w' ↔ v = .int .i64 y := fun _ _ => by subst hVe; rfl
                have hV21 : ∀ v w', V 21 v w' ↔ v = .tuple #[.int .i64 (twoV 3 x y), .nilIface] := fun _ _ => by subst hVe; rfl
                have hV22 : ∀ v w', V 22 v w' ↔ v = .tuple #[.int .i64 (twoV 3 x y), .nilIface] := fun _ _ => by subst hVe; rfl
                have hV23 : ∀ v w', V 23 v w' ↔ v = .int .i64 (twoV 3 x y) := fun _ _ => by subst hVe; rfl
                have hV24 : ∀ v w', V 24 v w' ↔ v = .nilIface := fun _ _ => by subst hVe; rfl
                have hV25 : ∀ v w', V 25 v w' ↔ v = .pointer (some ⟨wo.heap.size, j, none⟩) := fun _ _ => by subst hVe; rfl
                have hV27 : ∀ v w', V 27 v w' ↔ v = .nilIface := fun _ _ => by subst hVe; rfl
                have hV26 : ∀ v w', V 26 v w' := fun _ _ => by subst hVe; trivial
                obtain ⟨St, hSe⟩ : ∃ St : Nat → (Nat → Value) → World → Prop, St = fun s u w' => match s with
                    | 0 => Row w' wo.heap.size (FillTo Y j)
                    | 1 => Row w' wo.heap.size (FillTo Y (j + 1))
                    | _ => False := ⟨_, rfl⟩
                have hSm : ∀ s u u' w1 w2, (∀ c ∈ [26], u' c = u c) → St s u w1 → Below w1.heap.size w1 w2 → St s u' w2 := by
                  intro s u u' w1 w2 hu h hb
                  subst hSe
                  match s, h with
                  | 0, h => exact Box.below h hb
                  | 1, h => exact Box.below h hb
                  | s + 2, h => exact h.elim
                have hS0 : ∀ u w', St 0 u w' ↔ (Row w' wo.heap.size (FillTo Y j)) := fun _ _ => by subst hSe; rfl
                have hS1 : ∀ u w', St 1 u w' ↔ (Row w' wo.heap.size (FillTo Y (j + 1))) := fun _ _ => by subst hSe; rfl
                clear hVe hSe
                refine wp_region_inv (ChainInv (fun u0 u1 => u0.grownBy u1 (some wo.heap.size)) V [26] St wi) (by kernel_rfl) (by kernel_rfl) (by kernel_rfl) ?start ?step ?fin
                case start => exact fun u => ChainInv.start hRel (Below.refl _ _).drew ((hS0 _ _).2 (Box.drew hr))
                case step =>
                  simp only [putAll, Act.put, List.setIfInBounds_toArray, List.set_cons_zero, List.set_cons_succ, Nat.reduceAdd, Nat.zero_add]
                  intro i o ho done u wr hnd hdep hI K hK
                  have hgr := hI.1
                  have z6 := Box.grown HQ6.out hgr (by intro e; injection e; omega)
                  have z7 := Box.grown HQ7.out hgr (by intro e; injection e; omega)
                  have zF := Box.grown HQF.out hgr (by intro e; injection e; omega)
                  have p2 := z6.three.2.2
                  have b2 := z7.three.2.2
                  have zl6 := z6.lt
                  have zl7 := z7.lt
                  clear z6 z7
                  match i, ho with
                  | 0, ho =>
                    simp only [List.getElem?_cons_zero, Option.some.injEq] at ho
                    subst ho
                    simp only [Act.put, List.setIfInBounds_toArray, List.set_cons_zero, List.set_cons_succ] at hK
                    refine wpOp_step rfl fun K' hK' => ?_
                    go_simp
                    exact hK' _ _ (hK _ _ (hI.quiet hRel hnd (by decide) hVm hSm (Below.refl _ _) ((hV0 _ _).2 rfl)))
                  | 1, ho =>
                    simp only [List.getElem?_cons_succ, List.getElem?_cons_zero, Option.some.injEq] at ho
                    subst ho
                    simp only [Act.put, List.setIfInBounds_toArray, List.set_cons_zero, List.set_cons_succ] at hK
                    refine wpOp_step rfl fun K' hK' => ?_
                    go_simp
                    exact hK' _ _ (hK _ _ (hI.quiet hRel hnd (by decide) hVm hSm (Below.refl _ _) ((hV1 _ _).2 rfl)))
                  | 2, ho =>
                    simp only [List.getElem?_cons_succ, List.getElem?_cons_zero, Option.some.injEq] at ho
                    subst ho
                    simp only [Act.put, List.setIfInBounds_toArray, List.set_cons_zero, List.set_cons_succ] at hK
                    refine wpOp_step rfl fun K' hK' => ?_
                    go_simp
                    exact hK' _ _ (hK _ _ (hI.quiet hRel hnd (by decide) hVm hSm (Below.refl _ _) ((hV2 _ _).2 rfl)))
                  | 3, ho =>
                    simp only [List.getElem?_cons_succ, List.getElem?_cons_zero, Option.some.injEq] at ho
                    subst ho
                    simp only [Act.put, List.setIfInBounds_toArray, List.set_cons_zero, List.set_cons_succ] at hK
                    refine wpOp_step rfl fun K' hK' => ?_
                    go_simp
                    exact hK' _ _ (hK _ _ (hI.quiet hRel hnd (by decide) hVm hSm (Below.refl _ _) ((hV3 _ _).2 rfl)))
                  | 4, ho =>
                    simp only [List.getElem?_cons_succ, List.getElem?_cons_zero, Option.some.injEq] at ho
                    subst ho
                    simp only [Act.put, List.setIfInBounds_toArray, List.set_cons_zero, List.set_cons_succ] at hK
                    have e3 := (hV3 _ _).1 (hI.know (hdep ⟨3, .data⟩ (by simp) rfl))
                    simp only [e3] at hK
                    refine wpOp_step rfl fun K' hK' => ?_
                    go_simp
                    exact hK' _ _ (hK _ _ (hI.quiet hRel hnd (by decide) hVm hSm (Below.refl _ _) ((hV4 _ _).2 rfl)))
                  | 5, ho =>
                    simp only [List.getElem?_cons_succ, List.getElem?_cons_zero, Option.some.injEq] at ho
                    subst ho
                    simp only [Act.put, List.setIfInBounds_toArray, List.set_cons_zero, List.set_cons_succ] at hK
                    refine wpOp_step rfl fun K' hK' => ?_
                    go_simp
                    exact hK' _ _ (hK _ _ (hI.quiet hRel hnd (by decide) hVm hSm (Below.refl _ _) ((hV5 _ _).2 rfl)))
                  | 6, ho =>
                    simp only [List.getElem?_cons_succ, List.getElem?_cons_zero, Option.some.injEq] at ho
                    subst ho
                    simp only [Act.put, List.setIfInBounds_toArray, List.set_cons_zero, List.set_cons_succ] at hK
                    refine wpOp_step rfl fun K' hK' => ?_
                    go_simp
                    exact hK' _ _ (hK _ _ (hI.quiet hRel hnd (by decide) hVm hSm (Below.refl _ _) ((hV6 _ _).2 rfl)))
                  | 7, ho =>
                    simp only [List.getElem?_cons_succ, List.getElem?_cons_zero, Option.some.injEq] at ho
                    subst ho
                    simp only [Act.put, List.setIfInBounds_toArray, List.set_cons_zero, List.set_cons_succ] at hK
                    have e5 := (hV5 _ _).1 (hI.know (hdep ⟨5, .data⟩ (by simp) rfl))
                    have e6 := (hV6 _ _).1 (hI.know (hdep ⟨6, .data⟩ (by simp) rfl))
                    simp only [e5, e6] at hK
                    refine wpOp_step rfl fun K' hK' => ?_
                    go_simp
                    exact hK' _ _ (hK _ _ (hI.quiet hRel hnd (by decide) hVm hSm (Below.refl _ _) ((hV7 _ _).2 (congrArg _ W7.out))))
                  | 8, ho =>
                    simp only [List.getElem?_cons_succ, List.getElem?_cons_zero, Option.some.injEq] at ho
                    subst ho
                    simp only [Act.put, List.setIfInBounds_toArray, List.set_cons_zero, List.set_cons_succ] at hK
                    refine wpOp_step rfl fun K' hK' => ?_
                    go_simp
                    exact hK' _ _ (hK _ _ (hI.quiet hRel hnd (by decide) hVm hSm (Below.refl _ _) ((hV8 _ _).2 rfl)))
                  | 9, ho =>
                    simp only [List.getElem?_cons_succ, List.getElem?_cons_zero, Option.some.injEq] at ho
                    subst ho
                    simp only [Act.put, List.setIfInBounds_toArray, List.set_cons_zero, List.set_cons_succ] at hK
                    have e7 := (hV7 _ _).1 (hI.know (hdep ⟨7, .data⟩ (by simp) rfl))
                    have e8 := (hV8 _ _).1 (hI.know (hdep ⟨8, .data⟩ (by simp) rfl))
                    simp only [e7, e8] at hK
                    refine wpOp_step rfl fun K' hK' => ?_
                    go_simp
                    exact hK' _ _ (hK _ _ (hI.quiet hRel hnd (by decide) hVm hSm (Below.refl _ _) ((hV9 _ _).2 (congrArg _ W9.out))))
                  | 10, ho =>
                    simp only [List.getElem?_cons_succ, List.getElem?_cons_zero, Option.some.injEq] at ho
                    subst ho
                    simp only [Act.put, List.setIfInBounds_toArray, List.set_cons_zero, List.set_cons_succ] at hK
                    have e4 := (hV4 _ _).1 (hI.know (hdep ⟨4, .data⟩ (by simp) rfl))
                    have e9 := (hV9 _ _).1 (hI.know (hdep ⟨9, .data⟩ (by simp) rfl))
                    simp only [e4, e9] at hK
                    refine wpOp_step rfl fun K' hK' => ?_
                    go_simp
                    exact hK' _ _ (hK _ _ (hI.quiet hRel hnd (by decide) hVm hSm (Below.refl _ _) ((hV10 _ _).2 rfl)))
                  | 11, ho =>
                    simp only [List.getElem?_cons_succ, List.getElem?_cons_zero, Option.some.injEq] at ho
                    subst ho
                    simp only [Act.put, List.setIfInBounds_toArray, List.set_cons_zero, List.set_cons_succ] at hK
                    have hcr := HCX.out wr hgr
                    have e10 := (hV10 _ _).1 (hI.know (hdep ⟨10, .data⟩ (by simp) rfl))
                    simp only [e10] at hK
                    refine wpOp_step rfl fun K' hK' => ?_
                    go_simp
                    exact hK' _ _ (hK _ _ (hI.quiet hRel hnd (by decide) hVm hSm (Below.refl _ _) ((hV11 _ _).2 rfl)))
                  | 12, ho =>
                    simp only [List.getElem?_cons_succ, List.getElem?_cons_zero, Option.some.injEq] at ho
                    subst ho
                    simp only [Act.put, List.setIfInBounds_toArray, List.set_cons_zero, List.set_cons_succ] at hK
                    refine wpOp_step rfl fun K' hK' => ?_
                    go_simp
                    exact hK' _ _ (hK _ _ (hI.quiet hRel hnd (by decide) hVm hSm (Below.refl _ _) ((hV12 _ _).2 rfl)))
                  | 13, ho =>
                    simp only [List.getElem?_cons_succ, List.getElem?_cons_zero, Option.some.injEq] at ho
                    subst ho
                    simp only [Act.put, List.setIfInBounds_toArray, List.set_cons_zero, List.set_cons_succ] at hK
                    have e12 := (hV12 _ _).1 (hI.know (hdep ⟨12, .data⟩ (by simp) rfl))
                    simp only [e12] at hK
                    refine wpOp_step rfl fun K' hK' => ?_
                    go_simp
                    exact hK' _ _ (hK _ _ (hI.quiet hRel hnd (by decide) hVm hSm (Below.refl _ _) ((hV13 _ _).2 rfl)))
                  | 14, ho =>
                    simp only [List.getElem?_cons_succ, List.getElem?_cons_zero, Option.some.injEq] at ho
                    subst ho
                    simp only [Act.put, List.setIfInBounds_toArray, List.set_cons_zero, List.set_cons_succ] at hK
                    refine wpOp_step rfl fun K' hK' => ?_
                    go_simp
                    exact hK' _ _ (hK _ _ (hI.quiet hRel hnd (by decide) hVm hSm (Below.refl _ _) ((hV14 _ _).2 rfl)))
                  | 15, ho =>
                    simp only [List.getElem?_cons_succ, List.getElem?_cons_zero, Option.some.injEq] at ho
                    subst ho
                    simp only [Act.put, List.setIfInBounds_toArray, List.set_cons_zero, List.set_cons_succ] at hK
                    refine wpOp_step rfl fun K' hK' => ?_
                    go_simp
                    exact hK' _ _ (hK _ _ (hI.quiet hRel hnd (by decide) hVm hSm (Below.refl _ _) ((hV15 _ _).2 rfl)))
                  | 16, ho =>
                    simp only [List.getElem?_cons_succ, List.getElem?_cons_zero, Option.some.injEq] at ho
                    subst ho
                    simp only [Act.put, List.setIfInBounds_toArray, List.set_cons_zero, List.set_cons_succ] at hK
                    have e14 := (hV14 _ _).1 (hI.know (hdep ⟨14, .data⟩ (by simp) rfl))
                    have e15 := (hV15 _ _).1 (hI.know (hdep ⟨15, .data⟩ (by simp) rfl))
                    simp only [e14, e15] at hK
                    refine wpOp_step rfl fun K' hK' => ?_
                    go_simp
                    exact hK' _ _ (hK _ _ (hI.quiet hRel hnd (by decide) hVm hSm (Below.refl _ _) ((hV16 _ _).2 (congrArg _ W16.out))))
                  | 17, ho =>
                    simp only [List.getElem?_cons_succ, List.getElem?_cons_zero, Option.some.injEq] at ho
                    subst ho
                    simp only [Act.put, List.setIfInBounds_toArray, List.set_cons_zero, List.set_cons_succ] at hK
                    refine wpOp_step rfl fun K' hK' => ?_
                    go_simp
                    exact hK' _ _ (hK _ _ (hI.quiet hRel hnd (by decide) hVm hSm (Below.refl _ _) ((hV17 _ _).2 rfl)))
                  | 18, ho =>
                    simp only [List.getElem?_cons_succ, List.getElem?_cons_zero, Option.some.injEq] at ho
                    subst ho
                    simp only [Act.put, List.setIfInBounds_toArray, List.set_cons_zero, List.set_cons_succ] at hK
                    have e16 := (hV16 _ _).1 (hI.know (hdep ⟨16, .data⟩ (by simp) rfl))
                    have e17 := (hV17 _ _).1 (hI.know (hdep ⟨17, .data⟩ (by simp) rfl))
                    simp only [e16, e17] at hK
                    refine wpOp_step rfl fun K' hK' => ?_
                    go_simp
                    exact hK' _ _ (hK _ _ (hI.quiet hRel hnd (by decide) hVm hSm (Below.refl _ _) ((hV18 _ _).2 (congrArg _ W18.out))))
                  | 19, ho =>
                    simp only [List.getElem?_cons_succ, List.getElem?_cons_zero, Option.some.injEq] at ho
                    subst ho
                    simp only [Act.put, List.setIfInBounds_toArray, List.set_cons_zero, List.set_cons_succ] at hK
                    have e13 := (hV13 _ _).1 (hI.know (hdep ⟨13, .data⟩ (by simp) rfl))
                    have e18 := (hV18 _ _).1 (hI.know (hdep ⟨18, .data⟩ (by simp) rfl))
                    simp only [e13, e18] at hK
                    refine wpOp_step rfl fun K' hK' => ?_
                    go_simp
                    exact hK' _ _ (hK _ _ (hI.quiet hRel hnd (by decide) hVm hSm (Below.refl _ _) ((hV19 _ _).2 rfl)))
                  | 20, ho =>
                    simp only [List.getElem?_cons_succ, List.getElem?_cons_zero, Option.some.injEq] at ho
                    subst ho
                    simp only [Act.put, List.setIfInBounds_toArray, List.set_cons_zero, List.set_cons_succ] at hK
                    have hcr := HCY.out wr hgr
                    have e19 := (hV19 _ _).1 (hI.know (hdep ⟨19, .data⟩ (by simp) rfl))
                    simp only [e19] at hK
                    refine wpOp_step rfl fun K' hK' => ?_
                    go_simp
                    exact hK' _ _ (hK _ _ (hI.quiet hRel hnd (by decide) hVm hSm (Below.refl _ _) ((hV20 _ _).2 rfl)))
                  | 21, ho =>
                    simp only [List.getElem?_cons_succ, List.getElem?_cons_zero, Option.some.injEq] at ho
                    subst ho
                    simp only [Act.put, List.setIfInBounds_toArray, List.set_cons_zero, List.set_cons_succ] at hK
                    have e2 := (hV2 _ _).1 (hI.know (hdep ⟨2, .data⟩ (by simp) rfl))
                    have e11 := (hV11 _ _).1 (hI.know (hdep ⟨11, .data⟩ (by simp) rfl))
                    have e20 := (hV20 _ _).1 (hI.know (hdep ⟨20, .data⟩ (by simp) rfl))
                    simp only [e2, e11, e20] at hK
                    refine wpOp_step rfl fun K' hK' => ?_
                    go_simp
                    refine (times_three zF x y).mono ?_
                    rintro e w5 ⟨rfl, hb5⟩
                    exact hK' _ _ (hK _ _ (hI.quiet hRel hnd (by decide) hVm hSm hb5 ((hV21 _ _).2 rfl)))
                  | 22, ho =>
                    simp only [List.getElem?_cons_succ, List.getElem?_cons_zero, Option.some.injEq] at ho
                    subst ho
                    simp only [Act.put, List.setIfInBounds_toArray, List.set_cons_zero, List.set_cons_succ] at hK
                    have e21 := (hV21 _ _).1 (hI.know (hdep ⟨21, .data⟩ (by simp) rfl))
                    simp only [e21] at hK
                    refine wpOp_step rfl fun K' hK' => ?_
                    go_simp
                    exact hK' _ _ (hK _ _ (hI.quiet hRel hnd (by decide) hVm hSm (Below.refl _ _) ((hV22 _ _).2 rfl)))
                  | 23, ho =>
                    simp only [List.getElem?_cons_succ, List.getElem?_cons_zero, Option.some.injEq] at ho
                    subst ho
                    simp only [Act.put, List.setIfInBounds_toArray, List.set_cons_zero, List.set_cons_succ] at hK
                    have e22 := (hV22 _ _).1 (hI.know (hdep ⟨22, .data⟩ (by simp) rfl))
                    simp only [e22] at hK
                    refine wpOp_step rfl fun K' hK' => ?_
                    go_simp
                    exact hK' _ _ (hK _ _ (hI.quiet hRel hnd (by decide) hVm hSm (Below.refl _ _) ((hV23 _ _).2 rfl)))
                  | 24, ho =>
                    simp only [List.getElem?_cons_succ, List.getElem?_cons_zero, Option.some.injEq] at ho
                    subst ho
                    simp only [Act.put, List.setIfInBounds_toArray, List.set_cons_zero, List.set_cons_succ] at hK
                    have e22 := (hV22 _ _).1 (hI.know (hdep ⟨22, .data⟩ (by simp) rfl))
                    simp only [e22] at hK
                    refine wpOp_step rfl fun K' hK' => ?_
                    go_simp
                    exact hK' _ _ (hK _ _ (hI.quiet hRel hnd (by decide) hVm hSm (Below.refl _ _) ((hV24 _ _).2 rfl)))
                  | 25, ho =>
                    simp only [List.getElem?_cons_succ, List.getElem?_cons_zero, Option.some.injEq] at ho
                    subst ho
                    simp only [Act.put, List.setIfInBounds_toArray, List.set_cons_zero, List.set_cons_succ] at hK
                    have e0 := (hV0 _ _).1 (hI.know (hdep ⟨0, .data⟩ (by simp) rfl))
                    have e1 := (hV1 _ _).1 (hI.know (hdep ⟨1, .data⟩ (by simp) rfl))
                    simp only [e0, e1] at hK
                    refine wpOp_step rfl fun K' hK' => ?_
                    go_simp
                    exact hK' _ _ (hK _ _ (hI.quiet hRel hnd (by decide) hVm hSm (Below.refl _ _) ((hV25 _ _).2 rfl)))
                  | 26, ho =>
                    simp only [List.getElem?_cons_succ, List.getElem?_cons_zero, Option.some.injEq] at ho
                    subst ho
                    simp only [Act.put, List.setIfInBounds_toArray, List.set_cons_zero, List.set_cons_succ] at hK
                    have e25 := (hV25 _ _).1 (hI.know (hdep ⟨25, .data⟩ (by simp) rfl))
                    have e23 := (hV23 _ _).1 (hI.know (hdep ⟨23, .data⟩ (by simp) rfl))
                    simp only [e25, e23] at hK
                    have hr0 := (hS0 _ _).1 (hI.at_ (k := 0) rfl hnd (.inl rfl))
                    have gk := Row.at_ hr0 (fillTo_at (X := Y) (k := j) (by rw [HYL.out]; exact hjL))
                    have gf := Box.frozen hr0 j
                    have gl := Box.lt hr0
                    have hs1 := Row.store hr0 j (twoV 3 x y)
                    rw [fillTo_set HYJ.out] at hs1
                    refine wpOp_step rfl fun K' hK' => ?_
                    go_simp
                    exact hK' _ _ (hK _ _ (hI.step (v := .nilIface) hRel (k := 0) rfl hnd (.inl rfl) (by decide) hVm (grownBy_setCell _ _ _ _) (hV26 _ _) ((hS1 _ _).2 (hs1))))
                  | 27, ho =>
                    simp only [List.getElem?_cons_succ, List.getElem?_cons_zero, Option.some.injEq] at ho
                    subst ho
                    simp only [Act.put, List.setIfInBounds_toArray, List.set_cons_zero, List.set_cons_succ] at hK
                    have e24 := (hV24 _ _).1 (hI.know (hdep ⟨24, .data⟩ (by simp) rfl))
                    simp only [e24] at hK
                    refine wpOp_step rfl fun K' hK' => ?_
                    go_simp
                    exact hK' _ _ (hK _ _ (hI.quiet hRel hnd (by decide) hVm hSm (Below.refl _ _) ((hV27 _ _).2 rfl)))
                  | i + 28, ho => simp at ho
                case fin =>
                  simp only [putAll, Act.put, List.setIfInBounds_toArray, List.set_cons_zero, List.set_cons_succ, Nat.reduceAdd, Nat.zero_add]
                  intro done u wr hd hI
                  simp only [List.length_cons, List.length_nil, Nat.reduceAdd, Nat.zero_add] at hd
                  have hS := (hS1 _ _).1 (hI.end_ (fun c hc => hd c (by simp at hc; omega)))
                  have e27 := (hV27 _ _).1 (hI.know (hd 27 (by omega)))
                  simp only [e27]
                  have hgI := hI.1
                  have HH := Lib.hid (And.intro hS (And.intro (Box.grown HBO2.out hgI HNG.out) (And.intro (HOW.out.kept hgI (.inr HNO.out)) (And.intro (Box.grown HQF.out hgI (by intro e; injection e; omega)) (And.intro (HBL2.out.grown hgI HBL2.out.size (fun _ e => by injection e; omega)) (Nat.lt_of_lt_of_le HSZ.out hgI.size))))))
                  clear hI hd hS hgI hV27 e27
                  go_wp2_with fail
                  go_roundw
                  case rel => exact ⟨j + 1, by omega, by go_num, HH.out.1, HH.out.2.1, HH.out.2.2.1, HOM.out, HH.out.2.2.2.1, HH.out.2.2.2.2.1, HH.out.2.2.2.2.2⟩
                  case measure => simp [intOf]; omega
              · rw [show j = Y.length by rw [HYL.out]; omega, fillTo_all] at hr
                have HHY := Lib.hid (show Wf Y from fun x hx => by
                  rw [HY.out] at hx
                  obtain ⟨z, -, rfl⟩ := List.mem_map.1 hx
                  rw [two_mul3]
                  exact word_wf.2 (word_wrap _))
                have hof := of_any 1 _ Y wi (Row.isInts hr (n := L) HYL.out.symm (by have := HLE.out; omega)) (by rw [HYL.out]; exact HLE.out) HHY.out
                have he0 : (ofR 1 Y).2 = 0 := by
                  by_cases hYe : Y = []
                  · rw [hYe]; rfl
                  · exact Tame.of (by unfold Tame; omega) hYe
                rw [he0, errV_zero] at hof
                have HOF := Lib.hid hof
                obtain ⟨V, hV⟩ : ∃ V, V = (ofR 1 Y).1 := ⟨_, rfl⟩
                have HXV := Lib.hid (show X[k]? = some V by rw [hV, HY.out]; exact HXK.out k hkN)
                rw [← hV] at HOF
                clear hof he0 hr hV hbww
                go_wp2_with fail
                refine HOF.out.mono ?_
                rintro e w5 ⟨rfl, hb5⟩
                have h1 := HBO2.out.below hb5
                have h2 := HOW.out.below hb5
                have h3 := HQF.out.below hb5
                have hbl5 := HBL2.out.trans (hb5.mono HBL2.out.size)
                obtain ⟨g0, g1, g2⟩ := h1.three
                have gl := h1.lt
                have hz5 := hb5.size
                have hzs := HSZ.out
                have hzb := hbl5.size
                clear hb5
                go_wp2_with (at_builtin; refine wpList_append_ints _ rfl rfl _ _ rfl (w3.heap.size) k _ (X.take k) rfl (h2.alloc _) (some ⟨w5.heap.size, 0, none⟩) 1 1 [V] rfl (by simp) (elems_new w5 V) rfl (by omega) (by simp; omega) ?_; intro A6 c6 w7 hown7 hgrow7 hat7; have b7 := Box.grown (w := w5.alloc _) (h1.alloc _) hgrow7 (h2.ne_box h1 (by decide)); have hc7 := b7.three.2.2; have hf7 := b7.frozen 2; have hl7 := b7.lt)
                go_roundw
                case rel =>
                  have b8 := Box.grown (w := w5.alloc _) (h3.alloc _) hgrow7 (h2.ne_box h3 (by decide))
                  exact ⟨k + 1, A6, c6, by omega, by go_num, b7.store 2 _, by rw [← take_at HXV.out]; exact hown7.setCell (p := ⟨w3.heap.size + 1, 2, none⟩) (hown7.ne_box b7 (by decide)) _, b8.far (p := ⟨w3.heap.size + 1, 2, none⟩) (Box.apart b8 b7 (by decide)) _, ((hbl5.alloc (by omega) _).grown hgrow7 (by simp; omega) (fun _ e => by have := (h2.lt e).1; omega)).setCell (p := ⟨w3.heap.size + 1, 2, none⟩) (by simp) _, by have := hgrow7.size; simp at this ⊢; omega⟩
                case measure => simp [intOf]; omega
          · obtain rfl : k = N := by omega
            have h1 := H1.out
            have h2 := H2.out
            rw [List.take_of_length_le (by rw [HXL.out]; exact Nat.le_refl _)] at h2
            have hbww := HZ.out.2.2.2.trans (HBL.out.mono HZ.out.2.2.2.size)
            have b3 := HZ.out.2.2.1.below HBL.out
            have hz3 := HZ.out.2.2.1.lt
            have rf := b3.frozen
            obtain ⟨e0, e1, e2⟩ := b3.three
            have rl := b3.lt
            obtain ⟨g0, g1, g2⟩ := h1.three
            have gl := h1.lt
            clear h1
            go_wp2_with fail
            have hgg := grownBy_three wo (w.heap.size + 1 + 1) (.bool false) (.slice S 2 cS) (.slice A4 k c4)
            have z := ((b3.store 0 (.bool false)).store 1 (.slice S 2 cS)).store 2 (.slice A4 k c4)
            simp only [List.setIfInBounds_toArray, List.set_cons_zero, List.set_cons_succ] at z
            obtain ⟨z0, z1, z2⟩ := z.three
            have zl := z.lt
            refine bodyPost_ret (v := .tuple #[.agg #[.bool false, .slice S 2 cS, .slice A4 k c4], .nilIface]) (by simp [results, Tryz.results141, go_sem, z0, z1, z2, zl]) rfl ?_
            have iS : IsInts _ (.slice S 2 cS) _ := (HOS.out.isInts.mono HBL.out).off hgg b3 (noInts_arr _ _ _ _ _ _ _)
            have iD := (h2.kept hgg (.inr (h2.ne_low (by omega)))).isInts
            exact ⟨_, rfl, ⟨_, _, rfl, iS, iD⟩, hbww.grown hgg hbww.size (fun j e => by cases e; omega), newV (HOS.out.from_ (Nat.le_refl _)) (h2.from_ (by have := HZ.out.2.2.2.size; omega))⟩

end Go.Proofs.YtihndbkaoejnnaaGreatDoor

namespace Go.Proofs.YtihndbkaoejnnaaGreatDoor
open Go Go.RowKit Go.Proofs.YtihndbkaoejnnaaGreatDoor.P

theorem act_inner1 {a b : Arr} {L : Nat} (h1 : Ok a [L]) (h2 : Ok b [L]) (hca : a.ch = false) (hcb : b.ch = false) : ActTwo 4 1 3 a b ⟨false, [], innerD a.da b.da L 1 1⟩ :=
  two_inner (arrErr_ok h1) (arrErr_ok h2) (fun _ _ _ g1 g2 => inner_1 g1 g2 h1 h2 hca hcb)
theorem act_inner2 {a b : Arr} {p L r : Nat} (h1 : Ok a [p, L]) (h2 : Ok b [L, r]) (hca : a.ch = false) (hcb : b.ch = false) (hg : GoodSh [p, r]) : ActTwo 4 1 3 a b ⟨false, [(p : Int), (r : Int)], innerD a.da b.da L (p * r) r⟩ :=
  two_inner (arrErr_ok h1) (arrErr_ok h2) (fun _ _ _ g1 g2 => inner_2 g1 g2 h1 h2 hca hcb hg)

end Go.Proofs.YtihndbkaoejnnaaGreatDoor
