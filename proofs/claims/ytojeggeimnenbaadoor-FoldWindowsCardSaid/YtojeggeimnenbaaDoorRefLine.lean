/- The walks of the reference's LineFault and Line. Conditions: none but these. -/
import Derived.Test.YtojeggeimnenbaaDoorRefFolded
import Derived.Test.YtojeggeimnenbaaDoorRefAt
import Derived.Test.YtojeggeimnenbaaDoorGround
import Derived.Deep.RegionLaw
set_option linter.unusedSimpArgs false
set_option linter.unusedVariables false
namespace Go.Proofs.YtojeggeimnenbaaDoor
open Go Go.RowKit Go.Proofs.YtojeggeimnenbaaDoor.P
theorem foldErr_parts (f axis : Int) (a : Arr) : foldErr f axis a = if f < 1 ∨ 16 < f then 1 else if axErr axis a ≠ 0 then axErr axis a else if a.ch = true then 6 else 0 := by
  have h0 : twoE f 0 1 = if f < 1 ∨ 16 < f then 1 else 0 := by
    unfold twoE
    by_cases h : f < 1 ∨ 16 < f
    · rw [if_pos h, if_pos h]
    · rw [if_neg h, if_neg h, if_neg (by omega), if_neg (by omega)]
  unfold foldErr axErr
  rw [h0]
  by_cases h : f < 1 ∨ 16 < f
  · simp [h]
  · rw [if_neg h, if_neg (by simp), if_neg h]
    by_cases h1 : arrErr a ≠ 0
    · simp [h1]
    · rw [if_neg h1, if_neg h1]
      by_cases h2 : axis < 0 ∨ (a.sh.length : Int) ≤ axis
      · rw [if_pos h2, if_pos h2]; simp
      · rw [if_neg h2, if_neg h2]; simp
set_option maxRecDepth 100000 in
set_option maxHeartbeats 4000000 in
theorem linefault_any {v : Value} {a : Arr} {w : World} {f axis : Int} (ha : IsArr w v a) :
    Calls Tryd.prog 24 #[.int .i64 f, .int .i64 axis, v] w fun e w' => e = .returned (.int .i64 (foldErr f axis a)) ∧ Below w.heap.size w w' := by
  obtain ⟨A, ca, D, cd, rfl, hs, hd⟩ := ha.open_
  have HA := Lib.hid ha
  have HP := Lib.hid (foldErr_parts f axis a)
  clear ha hs hd
  have z1 := Box.new w 25 #[.bool a.ch, .slice A a.sh.length ca, .slice D a.da.length cd]
  have hb0 := below_one w (.cells #[.bool a.ch, .slice A a.sh.length ca, .slice D a.da.length cd] 25)
  obtain ⟨t0, t1, t2⟩ := z1.three
  by_cases hr : f < 1 ∨ 16 < f
  · have HE := Lib.hid (show foldErr f axis a = 1 by rw [HP.out, if_pos hr])
    rw [HE.out]
    rcases Int.lt_or_le f 1 with h1 | h1
    · have d1 : decide (f < 1) = true := by simpa using h1
      clear hr h1
      go_enter Tryd.func24, Tryd.ntmps24
      go_wp2_with fail
      go_ret
      exact ⟨rfl, hb0⟩
    · have d1 : decide (f < 1) = false := by simpa using h1
      have d2 : decide (16 < f) = true := by simp; omega
      clear hr h1
      go_enter Tryd.func24, Tryd.ntmps24
      go_wp2_with fail
      go_ret
      exact ⟨rfl, hb0⟩
  rw [if_neg hr] at HP
  have d1 : decide (f < 1) = false := by simp; omega
  have d2 : decide (16 < f) = false := by simp; omega
  clear hr
  have HX := Lib.hid (axis_any (axis := axis) (HA.out.mono hb0))
  by_cases hx : axErr axis a = 0
  case neg =>
    have HE := Lib.hid (show foldErr f axis a = axErr axis a by rw [HP.out, if_pos hx])
    rw [HE.out]
    obtain ⟨E, hE⟩ : ∃ E, E = axErr axis a := ⟨_, rfl⟩
    rw [← hE] at HX hx ⊢
    have e0 : (E == 0) = false := by simpa using hx
    clear hE hx
    go_enter Tryd.func24, Tryd.ntmps24
    go_wp2_with fail
    refine HX.out.mono ?_
    rintro e w1 ⟨rfl, hb1⟩
    have hbw := hb0.trans (hb1.mono hb0.size)
    go_wp2_with fail
    go_ret
    exact ⟨rfl, hbw⟩
  rw [hx] at HX
  rw [if_neg (fun h => h hx)] at HP
  clear hx
  by_cases hc : a.ch = true
  · have HE := Lib.hid (show foldErr f axis a = 6 by rw [HP.out, if_pos hc])
    rw [HE.out]
    rw [hc] at z1 hb0 HX t0 ⊢
    clear hc HA
    go_enter Tryd.func24, Tryd.ntmps24
    go_wp2_with fail
    refine HX.out.mono ?_
    rintro e w1 ⟨rfl, hb1⟩
    have hbw := hb0.trans (hb1.mono hb0.size)
    have z2 := z1.below hb1
    clear t0 t1 t2
    obtain ⟨t0, t1, t2⟩ := z2.three
    go_wp2_with fail
    go_ret
    exact ⟨rfl, hbw⟩
  · have HE := Lib.hid (show foldErr f axis a = 0 by rw [HP.out, if_neg hc])
    rw [HE.out]
    rw [Bool.not_eq_true] at hc
    rw [hc] at z1 hb0 HX t0 ⊢
    clear hc HA
    go_enter Tryd.func24, Tryd.ntmps24
    go_wp2_with fail
    refine HX.out.mono ?_
    rintro e w1 ⟨rfl, hb1⟩
    have hbw := hb0.trans (hb1.mono hb0.size)
    have z2 := z1.below hb1
    clear t0 t1 t2
    obtain ⟨t0, t1, t2⟩ := z2.three
    go_wp2_with fail
    go_ret
    exact ⟨rfl, hbw⟩

theorem ints_set2 (ix : List Nat) (k i : Nat) : (ints (ix.set k i)) = ((ints ix).set k ((i : Nat) : Int)) := (ints_set ix k i).symm

/-- A list of an array's cells along an axis. -/
def rline (a : Arr) (t ix : List Nat) (k F L : Nat) : List Int := (List.range L).map fun j => a.da.getD (place t (ix.set k (F + j))) 0
set_option maxRecDepth 100000 in
set_option maxHeartbeats 8000000 in
theorem line_any {v vat : Value} {a : Arr} {t ix : List Nat} {w : World} {kk F L : Nat} (ha : IsArr w v a) (ht : Ok a t) (hat : IsInts w vat (ints ix)) (hl : ix.length = t.length) (hk : kk < t.length) (hin : ∀ j, j < t.length → j ≠ kk → ix.getD j 0 < t.getD j 0) (hFL : F + L ≤ t.getD kk 0) :
    Calls Tryd.prog 30 #[v, .int .i64 kk, vat, .int .i64 F, .int .i64 L] w fun e w' => ∃ r, e = .returned r ∧ IsInts w' r (rline a t ix kk F L) ∧ Below w.heap.size w w' := by
  obtain ⟨A, ca, D, cd, rfl, hs, hd⟩ := ha.open_
  obtain ⟨B, cb, rfl, b1, b2, b3, -, HB0⟩ := hat.open_
  have HT := Lib.hid ht
  have HS := Lib.hid (hs.eq' ht.sh)
  have HD := Lib.hid hd.elems
  have HAT0 := Lib.hid hat.elems
  have HL := Lib.hid hl
  have HK := Lib.hid hk
  have HIN := Lib.hid hin
  have hL4 : F + L ≤ 4096 := by have : t.getD kk 0 ≤ 4096 := by rw [List.getD_eq_getElem?_getD, List.getElem?_eq_getElem hk]; exact ht.good.2.1 _ (List.getElem_mem _)
                                omega
  have HFL := Lib.hid hFL
  obtain ⟨E, hE⟩ : ∃ E, E = F + L := ⟨_, rfl⟩
  have HEE := Lib.hid hE
  have hEw : IntKind.i64.wrap ((F : Int) + (L : Int)) = (E : Int) := by rw [hE]; exact IntWalk.i64_in _ (by omega)
  obtain ⟨X, hX⟩ : ∃ X, X = rline a t ix kk F L := ⟨_, rfl⟩
  have HX := Lib.hid hX
  have HXL := Lib.hid (show X.length = L by rw [hX]; unfold rline; rw [List.length_map, List.length_range])
  rw [← hX]
  obtain ⟨m, hm⟩ : ∃ m, m = ix.length := ⟨_, rfl⟩
  have hm6 : m ≤ 6 := by rw [hm, hl]; exact ht.good.1
  have HM := Lib.hid hm
  simp only [length_ints, ← hm] at b1 b3 HB0 ⊢
  clear ha ht hat hs hd hl hk hin hFL hX HB0 hE hm
  go_enter Tryd.func30, Tryd.ntmps30
  have z1 := Box.new w 25 #[.bool a.ch, .slice A a.sh.length ca, .slice D a.da.length cd]
  have hb0 := below_one w (.cells #[.bool a.ch, .slice A a.sh.length ca, .slice D a.da.length cd] 25)
  go_wp2_with fail
  go_loopw [13, 12] (fun s13 s12 wr => ∃ (k : Nat) (A4 : Option Addr) (c4 : Nat), k ≤ m ∧ s13 = .int .i64 k ∧ s12 = .slice A4 k c4 ∧ Owns wr (w.heap.size + 1) (.slice A4 k c4) k ((ints ix).take k) ∧ Box wr w.heap.size 25 #[.bool a.ch, .slice A a.sh.length ca, .slice D a.da.length cd] ∧ Below w.heap.size w wr ∧ w.heap.size + 1 ≤ wr.heap.size) (fun s13 _ _ => m - (intOf s13).toNat)
  case atStart => exact ⟨0, none, 0, Nat.zero_le _, rfl, rfl, Owns.nil _ _, z1, hb0, by simp⟩
  case round =>
    clear z1 hb0
    obtain ⟨k, A4, c4, hk, rfl, rfl, ho, bA, hbl, hsz⟩ := hrel
    rcases Nat.lt_or_ge k m with hlt | hge
    · obtain ⟨ab, y, rfl, hy, hab, hcy⟩ := Elems.later HAT0.out hbl (show k < (ints ix).length by rw [length_ints, ← HM.out]; exact hlt)
      have HY := Lib.hid hy
      clear hy
      go_wp2_with (at_builtin; refine wpList_append_ints _ rfl rfl _ _ rfl (w.heap.size + 1) k _ ((ints ix).take k) rfl (ho.alloc _) (some ⟨wr.heap.size, 0, none⟩) 1 1 [y] rfl (by simp) (elems_new wr y) rfl (by omega) (by simp; omega) ?_; intro A5 c5 w5 hown5 hgrow5 hat5)
      have b5 := (bA.alloc _).grown hgrow5 (fun e => by have := (ho.lt e).1; omega)
      have hbl5 := (hbl.trans ((below_one wr _).mono hbl.size)).grown hgrow5 (by simp; omega) (fun j e => by have := (ho.lt e).1; omega)
      have hz5 := hgrow5.size
      simp only [World.size_alloc] at hz5
      clear hgrow5 hat5
      go_roundw
      case rel => exact ⟨k + 1, A5, c5, by omega, by go_num, rfl, by rw [← take_at HY.out]; exact hown5, b5, hbl5, by omega⟩
      case measure => simp [intOf]; omega
    · have hke : m = k := by omega
      subst hke
      rw [List.take_of_length_le (by rw [length_ints, ← HM.out]; exact Nat.le_refl _)] at ho
      obtain ⟨gc, rfl, hgB, mC0⟩ := ho.mine (by have := HK.out; have := HL.out; have := HM.out; omega)
      have HZC := Lib.hid mC0.lt
      have HZA := Lib.hid bA.lt
      have HZ2 := Lib.hid hbl.size
      have hgne : w.heap.size ≠ gc := by omega
      have HGN := Lib.hid hgne
      have HGB := Lib.hid hgB
      obtain ⟨W2, hW2⟩ : ∃ W2 : World, W2 = wr := ⟨_, rfl⟩
      subst hW2
      clear ho hgne hgB hge hk
      go_wp2_with fail
      go_loopw [14, 11] (fun s14 s11 wx => ∃ (k J : Nat) (A5 : Option Addr) (c5 : Nat) (z : Int), k ≤ L ∧ J = F + k ∧ s14 = .int .i64 (J : Nat) ∧ s11 = .slice A5 k c5 ∧ Owns wx W2.heap.size (.slice A5 k c5) k (X.take k) ∧ (∃ cs : List Int, Mine wx gc m c4 cs ∧ (ints ix).set kk z = cs.set kk z) ∧ Box wx w.heap.size 25 #[.bool a.ch, .slice A a.sh.length ca, .slice D a.da.length cd] ∧ Below w.heap.size w wx ∧ W2.heap.size ≤ wx.heap.size) (fun s14 _ _ => E - (intOf s14).toNat)
      case atStart => exact ⟨0, F, none, 0, 0, Nat.zero_le _, rfl, rfl, rfl, Owns.nil _ _, ⟨_, mC0, rfl⟩, bA, hbl, Nat.le_refl _⟩
      case round =>
        clear bA hbl mC0 hsz
        obtain ⟨k, J, A5, c5, z, hkL, hik, rfl, rfl, ho, ⟨cs, mC, hcs⟩, bA, hbl, hsz⟩ := hrel
        have HIK := Lib.hid hik
        rcases Nat.lt_or_ge k L with hlt | hge
        · have HKL := Lib.hid hlt
          have dE : decide (J < E) = true := by have := HEE.out; simp; omega
          have hiT : J < t.getD kk 0 := by have := HFL.out; omega
          have hkm : kk < m := by have := HK.out; have := HL.out; have := HM.out; omega
          have HIX := Lib.hid (show Inside t (ix.set kk J) by
            rw [inside_iff]
            refine ⟨by rw [List.length_set]; exact HL.out, fun j hj => ?_⟩
            by_cases e : kk = j
            · subst e; rw [P.getD_set (by rw [HL.out]; exact hj)]; exact hiT
            · rw [P.getD_set_ne e]; exact HIN.out j hj (fun h => e h.symm))
          obtain ⟨P, hP⟩ : ∃ P, P = place t (ix.set kk J) := ⟨_, rfl⟩
          have HPP := Lib.hid hP
          have hPl : P < a.da.length := by rw [hP, HT.out.len]; exact place_lt HIX.out
          obtain ⟨ad, x, hax, hx, halx, hcx⟩ := Elems.later HD.out hbl hPl
          have HXK := Lib.hid (show X[k]? = some x by
            rw [HX.out]
            unfold rline
            rw [List.getElem?_map, List.getElem?_range hlt, Option.map_some, ← hik, ← hP, List.getD_eq_getElem?_getD, hx]; rfl)
          have hlc : cs.length = m := by obtain ⟨cs2, -, -, h3, -⟩ := mC; exact h3
          obtain ⟨y0, hy0⟩ : ∃ y0, cs[kk]? = some y0 := ⟨_, List.getElem?_eq_getElem (by omega)⟩
          have ck := mC.cell hy0
          have cf := mC.frozen kk
          have lc := mC.lt
          have hst := mC.store kk (J : Int)
          have hcs2 : cs.set kk (J : Int) = ints (ix.set kk J) := by
            have h9 := congrArg (fun l => l.set kk (J : Int)) hcs
            simp only [List.set_set] at h9
            rw [← ints_set]
            exact h9.symm
          rw [hcs2] at hst
          have bAo := bA.far (p := ⟨gc, kk, none⟩) HGN.out (.int .i64 (J : Nat))
          have hoo := ho.setCell (p := ⟨gc, kk, none⟩) (fun e => by have h1 := (ho.lt (k := gc) e).1; have := HZC.out; omega) (.int .i64 (J : Nat))
          have hblo := hbl.setCell (p := ⟨gc, kk, none⟩) (by have := HGB.out; show w.heap.size ≤ gc; omega) (.int .i64 (J : Nat))
          have hszo : W2.heap.size ≤ (wr.setCell ⟨gc, kk, none⟩ (.int .i64 (J : Nat))).heap.size := by simpa using hsz
          have hiw : IntKind.i64.wrap ((J : Int) + 1) = (J : Int) + 1 := IntWalk.i64_in _ (by omega)
          obtain ⟨wo, hwo⟩ : ∃ wo, wo = wr.setCell ⟨gc, kk, none⟩ (.int .i64 (J : Nat)) := ⟨_, rfl⟩
          have hcxo : wo.cell? (ad.add P) = some (.int .i64 x) := by rw [hwo]; exact cellS hcx (by rw [addr_block_add]; have := HGB.out; show ad.block ≠ gc; omega)
          rw [← hwo] at bAo hoo hblo hszo hst
          have HBA := Lib.hid bAo
          have HMC := Lib.hid hst
          have HO := Lib.hid hoo
          have HBL := Lib.hid hblo
          have HSZ := Lib.hid hszo
          have HSW := Lib.hid (HS.out.mono hblo)
          have HAT := Lib.hid hst.isInts
          have HCX := Lib.hid (show ∀ wx, Below wo.heap.size wo wx → wx.cell? (ad.add P) = some (.int .i64 x) from fun wx h => (h.cell (p := ad.add P) (by rw [addr_block_add]; have := hblo.size; omega)).trans hcxo)
          subst hax
          clear hx hcx hP hcxo hy0 hcs hcs2 hlc hst hoo hblo mC ho bA hik hiT hbl
          go_wp2_with fail
          rw [← hwo]
          obtain ⟨p0, p1, p2⟩ := bAo.three
          have lA := bAo.lt
          clear ck cf lc hwo bAo
          refine wp_region_gate 10 1 (fun i v lo hi w' => match i with
              | 0 => v = .slice A5 k c5
              | 1 => v = .pointer (some ⟨w.heap.size, 2, none⟩)
              | 2 => v = .slice (some ad) a.da.length cd
              | 3 => v = .pointer (some ⟨w.heap.size, 1, none⟩)
              | 4 => v = .slice A a.sh.length ca
              | 5 => v = .slice (some ⟨gc, 0, none⟩) m c4
              | 6 => v = .int .i64 (P : Nat)
              | 7 => v = .pointer (some (ad.add P))
              | 8 => v = .int .i64 x
              | 9 => ∃ m0, v = .slice (some ⟨m0, 0, none⟩) 1 1 ∧ Elems w' (some ⟨m0, 0, none⟩) [x]
              | _ => True) (by kernel_rfl) (by kernel_rfl) (by kernel_rfl) ?hV ?step ?last
          case hV =>
            intro i v lo hi w1 w2 h hb
            match i, h with
            | 0, h => exact h
            | 1, h => exact h
            | 2, h => exact h
            | 3, h => exact h
            | 4, h => exact h
            | 5, h => exact h
            | 6, h => exact h
            | 7, h => exact h
            | 8, h => exact h
            | 9, ⟨m0, e, hel⟩ => exact ⟨m0, e, hel.mono hb⟩
            | i + 10, _ => trivial
          case step =>
            simp only [List.take_succ_cons, List.take_zero, putAll, Act.put, List.setIfInBounds_toArray, List.set_cons_zero, List.set_cons_succ, Nat.reduceAdd, Nat.zero_add]
            intro i o ho hi u lo up wr hbr hd hj K hK
            obtain ⟨hcw, hfw⟩ := bcell hbr
            match i, ho with
            | 0, ho =>
              simp only [List.getElem?_cons_zero, Option.some.injEq] at ho
              subst ho
              simp only [Act.put, List.setIfInBounds_toArray, List.set_cons_zero, List.set_cons_succ] at hK
              refine wpOp_step rfl fun K' hK' => ?_
              go_simp
              exact hK' _ _ (hK _ _ (Below.refl _ _) rfl)
            | 1, ho =>
              simp only [List.getElem?_cons_succ, List.getElem?_cons_zero, Option.some.injEq] at ho
              subst ho
              simp only [Act.put, List.setIfInBounds_toArray, List.set_cons_zero, List.set_cons_succ] at hK
              refine wpOp_step rfl fun K' hK' => ?_
              go_simp
              exact hK' _ _ (hK _ _ (Below.refl _ _) rfl)
            | 2, ho =>
              simp only [List.getElem?_cons_succ, List.getElem?_cons_zero, Option.some.injEq] at ho
              subst ho
              simp only [Act.put, List.setIfInBounds_toArray, List.set_cons_zero, List.set_cons_succ] at hK
              have h1 : u 1 = .pointer (some ⟨w.heap.size, 2, none⟩) := hd ⟨1, .data⟩ (by simp) rfl
              simp only [h1] at hK
              refine wpOp_step rfl fun K' hK' => ?_
              go_simp
              exact hK' _ _ (hK _ _ (Below.refl _ _) rfl)
            | 3, ho =>
              simp only [List.getElem?_cons_succ, List.getElem?_cons_zero, Option.some.injEq] at ho
              subst ho
              simp only [Act.put, List.setIfInBounds_toArray, List.set_cons_zero, List.set_cons_succ] at hK
              refine wpOp_step rfl fun K' hK' => ?_
              go_simp
              exact hK' _ _ (hK _ _ (Below.refl _ _) rfl)
            | 4, ho =>
              simp only [List.getElem?_cons_succ, List.getElem?_cons_zero, Option.some.injEq] at ho
              subst ho
              simp only [Act.put, List.setIfInBounds_toArray, List.set_cons_zero, List.set_cons_succ] at hK
              have h3 : u 3 = .pointer (some ⟨w.heap.size, 1, none⟩) := hd ⟨3, .data⟩ (by simp) rfl
              simp only [h3] at hK
              refine wpOp_step rfl fun K' hK' => ?_
              go_simp
              exact hK' _ _ (hK _ _ (Below.refl _ _) rfl)
            | 5, ho =>
              simp only [List.getElem?_cons_succ, List.getElem?_cons_zero, Option.some.injEq] at ho
              subst ho
              simp only [Act.put, List.setIfInBounds_toArray, List.set_cons_zero, List.set_cons_succ] at hK
              refine wpOp_step rfl fun K' hK' => ?_
              go_simp
              exact hK' _ _ (hK _ _ (Below.refl _ _) rfl)
            | 6, ho =>
              simp only [List.getElem?_cons_succ, List.getElem?_cons_zero, Option.some.injEq] at ho
              subst ho
              simp only [Act.put, List.setIfInBounds_toArray, List.set_cons_zero, List.set_cons_succ] at hK
              have h4 : u 4 = .slice A a.sh.length ca := hd ⟨4, .data⟩ (by simp) rfl
              have h5 : u 5 = .slice (some ⟨gc, 0, none⟩) m c4 := hd ⟨5, .data⟩ (by simp) rfl
              simp only [h4, h5] at hK
              refine wpOp_step rfl fun K' hK' => ?_
              go_simp
              refine (where_ok _ _ t (ix.set kk J) _ (HSW.out.mono hbr) (HAT.out.mono hbr) HIX.out HT.out.good.1 HT.out.good.2.2).mono ?_
              rintro e w6 ⟨rfl, rfl⟩
              rw [← HPP.out]
              exact hK' _ _ (hK _ _ (Below.refl _ _) rfl)
            | 7, ho =>
              simp only [List.getElem?_cons_succ, List.getElem?_cons_zero, Option.some.injEq] at ho
              subst ho
              simp only [Act.put, List.setIfInBounds_toArray, List.set_cons_zero, List.set_cons_succ] at hK
              have h2 : u 2 = .slice (some ad) a.da.length cd := hd ⟨2, .data⟩ (by simp) rfl
              have h6 : u 6 = .int .i64 (P : Nat) := hd ⟨6, .data⟩ (by simp) rfl
              simp only [h2, h6] at hK
              refine wpOp_step rfl fun K' hK' => ?_
              go_simp
              exact hK' _ _ (hK _ _ (Below.refl _ _) rfl)
            | 8, ho =>
              simp only [List.getElem?_cons_succ, List.getElem?_cons_zero, Option.some.injEq] at ho
              subst ho
              simp only [Act.put, List.setIfInBounds_toArray, List.set_cons_zero, List.set_cons_succ] at hK
              have h7 : u 7 = .pointer (some (ad.add P)) := hd ⟨7, .data⟩ (by simp) rfl
              have hcr := HCX.out wr hbr
              simp only [h7] at hK
              refine wpOp_step rfl fun K' hK' => ?_
              go_simp
              exact hK' _ _ (hK _ _ (Below.refl _ _) rfl)
            | 9, ho =>
              simp only [List.getElem?_cons_succ, List.getElem?_cons_zero, Option.some.injEq] at ho
              subst ho
              simp only [Act.put, List.setIfInBounds_toArray, List.set_cons_zero, List.set_cons_succ] at hK
              have hX : u 8 = .int .i64 x := hd ⟨8, .data⟩ (by simp) rfl
              simp only [hX] at hK
              refine wpOp_step rfl fun K' hK' => ?_
              go_simp
              exact hK' _ _ (hK _ _ (below_one _ _) ⟨_, rfl, elems_new _ _⟩)
            | i + 10, ho => omega
          case last =>
            simp only [List.take_succ_cons, List.take_zero, putAll, Act.put, List.setIfInBounds_toArray, List.set_cons_zero, List.set_cons_succ, Nat.reduceAdd, Nat.zero_add]
            intro u wr lo up hbr hv hj
            obtain ⟨m0, eb, hel⟩ := hv 9 (by omega)
            have e1 : u 0 = .slice A5 k c5 := hv 0 (by omega)
            simp only [eb, e1]
            clear hv hj eb e1
            have bA6 := HBA.out.below hbr
            have mC6 := HMC.out.mono hbr
            have ho6 := HO.out.below hbr
            have hbl6 := HBL.out.trans (hbr.mono HBL.out.size)
            have hsz6 := hbr.size
            unfold tailWp
            refine wpOp_step rfl fun K' hK' => ?_
            refine step_append_ints _ rfl rfl _ _ (by rfl) (W2.heap.size) k _ (X.take k) (by rfl) ho6 (some ⟨m0, 0, none⟩) 1 1 [x] (by rfl) (fun e => by cases e) hel rfl (by omega) (by omega) ?_
            intro A6 c6 w6 hown6 hgrow6 hat6
            refine hK' _ _ ?_
            clear hK'
            have hnC : ∀ g, (Value.slice A5 k c5).ownBlock = some g → W2.heap.size ≤ g := fun g e => (ho6.lt e).1
            have bA7 := bA6.grown hgrow6 (fun e => by have := hnC _ e; have := HZA.out; omega)
            obtain ⟨cs, hcs1, hcs2⟩ := mC6
            have mC7 : Mine w6 gc m c4 (ints (ix.set kk J)) := ⟨cs, hcs1.grown hgrow6 (fun e => by have := hnC _ e; have := HZC.out; omega), hcs2⟩
            have hbl7 := hbl6.grown hgrow6 hbl6.size (fun j e => by have := hnC _ e; have := HZ2.out; omega)
            have hz7 := hgrow6.size
            unfold tailWp
            refine wpOp_step rfl fun K' hK' => ?_
            go_simp
            refine hK' _ _ ?_
            clear hK' hbr
            go_wp2_with fail
            go_roundw
            case rel => exact ⟨k + 1, J + 1, A6, c6, (J : Int), by have := HKL.out; omega, by have := HIK.out; omega, by go_num, rfl, by rw [← take_at HXK.out]; exact hown6, ⟨_, mC7, by rw [ints_set2, List.set_set]⟩, bA7, hbl7, by omega⟩
            case measure => simp [intOf]; have := HKL.out; have := HIK.out; have := HEE.out; omega
        · have hke : L = k := by omega
          subst hke
          have dE : decide (J < E) = false := by have := HEE.out; simp; omega
          rw [List.take_of_length_le (by rw [HXL.out]; exact Nat.le_refl _)] at ho
          have HO := Lib.hid ho.isInts
          have HBL := Lib.hid hbl
          clear ho hbl mC hcs bA hik
          go_wp2_with fail
          go_ret
          exact ⟨.slice A5 L c5, rfl, HO.out, HBL.out⟩
end Go.Proofs.YtojeggeimnenbaaDoor
