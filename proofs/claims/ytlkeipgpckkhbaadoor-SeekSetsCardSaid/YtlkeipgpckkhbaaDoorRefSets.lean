/- The walks of the references' Lists, Shared, Unlike and United. Conditions: none. -/
import Derived.Test.YtlkeipgpckkhbaaDoorRefAmong
import Derived.Test.YtlkeipgpckkhbaaDoorFirsts
import Derived.Test.YtlkeipgpckkhbaaDoorStore
import Derived.Test.YtlkeipgpckkhbaaDoorHelp
namespace Go.Proofs.YtlkeipgpckkhbaaDoor.P
def shared (a b : Arr) (has : Bool) : Arr := vecOf a.ch (a.da.filter fun x => hasB b a.ch x == has)
theorem shared_yes (a b : Arr) : shared a b true = meet a b := by unfold shared meet; congr 2; funext x; simp
theorem shared_no (a b : Arr) : shared a b false = without a b := by unfold shared without; congr 2; funext x; cases hasB b a.ch x <;> rfl
theorem filter_yes {p : Int → Bool} {d : List Int} {k : Nat} {x : Int} (h : d[k]? = some x) (hp : p x = true) : (d.take (k + 1)).filter p = (d.take k).filter p ++ [x] := by
  rw [List.take_add_one, h, List.filter_append]; simp [hp]
theorem filter_no {p : Int → Bool} {d : List Int} {k : Nat} {x : Int} (h : d[k]? = some x) (hp : p x = false) : (d.take (k + 1)).filter p = (d.take k).filter p := by
  rw [List.take_add_one, h, List.filter_append]; simp [hp]
end Go.Proofs.YtlkeipgpckkhbaaDoor.P
namespace Go.Proofs.YtlkeipgpckkhbaaDoor
open Go Go.RowKit Go.Proofs.YtlkeipgpckkhbaaDoor.P

set_option maxHeartbeats 1000000 in
theorem lists_any {va vb : Value} {a b : Arr} {w : World} (ha : IsArr w va a) (hb : IsArr w vb b) :
    Calls Tryd.prog 34 #[va, vb] w fun e w' => e = .returned (.int .i64 (pairErr a b)) ∧ Below w.heap.size w w' := by
  obtain ⟨A, ca, D, cd, rfl, -, -⟩ := ha.open_
  obtain ⟨A', ca', D', cd', rfl, -, -⟩ := hb.open_
  have HA := Lib.hid ha
  have HB := Lib.hid hb
  clear ha hb
  go_enter Tryd.func34, Tryd.ntmps34
  have z1 := (Box.new w 24 #[.bool a.ch, .slice A a.sh.length ca, .slice D a.da.length cd]).alloc (.cells #[.bool b.ch, .slice A' b.sh.length ca', .slice D' b.da.length cd'] 24)
  have z2 := Box.new (w.alloc (.cells #[.bool a.ch, .slice A a.sh.length ca, .slice D a.da.length cd] 24)) 24 #[.bool b.ch, .slice A' b.sh.length ca', .slice D' b.da.length cd']
  rw [World.size_alloc] at z2
  have hb0 := below_two w (.cells #[.bool a.ch, .slice A a.sh.length ca, .slice D a.da.length cd] 24) (.cells #[.bool b.ch, .slice A' b.sh.length ca', .slice D' b.da.length cd'] 24)
  obtain ⟨t0, t1, t2⟩ := z1.three
  obtain ⟨u0, u1, u2⟩ := z2.three
  go_wp2_with fail
  refine (flaws_any (HA.out.mono hb0) (HB.out.mono hb0)).mono ?_
  rintro e w1 ⟨rfl, hb1⟩
  have b1 := z1.below hb1
  have b2 := z2.below hb1
  have hbw := hb0.trans (hb1.mono hb0.size)
  clear z1 z2 hb0 hb1 t0 t1 t2 u0 u1 u2
  obtain ⟨t0, t1, t2⟩ := b1.three
  obtain ⟨u0, u1, u2⟩ := b2.three
  by_cases c : twoErr a b = 0
  · have HE0 := Lib.hid (show pairErr a b = if a.sh.length ≠ 1 ∨ b.sh.length ≠ 1 then 3 else 0 by unfold pairErr; rw [if_neg (fun h => h c)])
    rw [c]
    clear c
    by_cases c1 : a.sh.length = 1
    · have e1 : ((a.sh.length : Int) != 1) = false := by simp [c1]
      by_cases c2 : b.sh.length = 1
      · have e2 : ((b.sh.length : Int) != 1) = false := by simp [c2]
        have HE := Lib.hid (show pairErr a b = 0 by rw [HE0.out, if_neg (by omega)])
        clear c1 c2
        go_wp2_with fail
        go_ret
        exact ⟨ret_int HE.out.symm, hbw⟩
      · have e2 : ((b.sh.length : Int) != 1) = true := by simp; omega
        have HE := Lib.hid (show pairErr a b = 3 by rw [HE0.out, if_pos (.inr c2)])
        clear c1 c2
        go_wp2_with fail
        go_ret
        exact ⟨ret_int HE.out.symm, hbw⟩
    · have e1 : ((a.sh.length : Int) != 1) = true := by simp; omega
      have HE := Lib.hid (show pairErr a b = 3 by rw [HE0.out, if_pos (.inl c1)])
      clear c1
      go_wp2_with fail
      go_ret
      exact ⟨ret_int HE.out.symm, hbw⟩
  · have HE := Lib.hid (show pairErr a b = twoErr a b by unfold pairErr; rw [if_pos c])
    have e1 : (twoErr a b == 0) = false := by simp [c]
    clear c
    go_wp2_with fail
    go_ret
    exact ⟨ret_int HE.out.symm, hbw⟩

set_option maxRecDepth 100000 in
set_option maxHeartbeats 2000000 in
theorem shared_told {va vb : Value} {a b : Arr} {has : Bool} {w : World} (ha : IsArr w va a) (hb : IsArr w vb b) :
    Calls Tryd.prog 13 #[va, vb, .bool has] w (RTold (shared a b has) (pairErr a b) w) := by
  obtain ⟨A, ca, D, cd, rfl, hs, hd⟩ := ha.open_
  obtain ⟨A', ca', D', cd', rfl, -, -⟩ := hb.open_
  obtain ⟨D0, cd0, eD, d1, d2, d3, d0, d4⟩ := id hd
  cases eD
  have HA := Lib.hid ha
  have HB := Lib.hid hb
  have HD := Lib.hid (show Elems w D a.da from d4)
  clear ha hb hs hd d0 d4
  go_enter Tryd.func13, Tryd.ntmps13
  have z1 := ((Box.new w 24 #[.bool a.ch, .slice A a.sh.length ca, .slice D a.da.length cd]).alloc (.cells #[.bool b.ch, .slice A' b.sh.length ca', .slice D' b.da.length cd'] 24)).alloc (.cells #[.bool false, .slice none 0 0, .slice none 0 0] 24)
  have z2 := (Box.new (w.alloc (.cells #[.bool a.ch, .slice A a.sh.length ca, .slice D a.da.length cd] 24)) 24 #[.bool b.ch, .slice A' b.sh.length ca', .slice D' b.da.length cd']).alloc (.cells #[.bool false, .slice none 0 0, .slice none 0 0] 24)
  have z3 := Box.new ((w.alloc (.cells #[.bool a.ch, .slice A a.sh.length ca, .slice D a.da.length cd] 24)).alloc (.cells #[.bool b.ch, .slice A' b.sh.length ca', .slice D' b.da.length cd'] 24)) 24 #[.bool false, .slice none 0 0, .slice none 0 0]
  simp only [World.size_alloc] at z2 z3
  have hb0 := below_three w (.cells #[.bool a.ch, .slice A a.sh.length ca, .slice D a.da.length cd] 24) (.cells #[.bool b.ch, .slice A' b.sh.length ca', .slice D' b.da.length cd'] 24) (.cells #[.bool false, .slice none 0 0, .slice none 0 0] 24)
  obtain ⟨t0, t1, t2⟩ := z1.three
  obtain ⟨u0, u1, u2⟩ := z2.three
  go_wp2_with fail
  refine (lists_any (HA.out.mono hb0) (HB.out.mono hb0)).mono ?_
  rintro e w1 ⟨rfl, hb1⟩
  have bA := z1.below hb1
  have bB := z2.below hb1
  have bR := z3.below hb1
  have hbw := hb0.trans (hb1.mono hb0.size)
  clear z1 z2 z3 hb0 hb1 t0 t1 t2 u0 u1 u2
  obtain ⟨q0, q1, q2⟩ := bR.three
  have qf := bR.frozen
  have hzR := bR.lt
  by_cases c1 : pairErr a b = 0
  case neg =>
    have HE := Lib.hid c1
    have e1 : (pairErr a b != 0) = true := by simp [c1]
    clear c1
    go_wp2_with fail
    refine bodyPost_ret (v := .tuple #[zeroArr, .int .i64 (pairErr a b)]) (by simp [results, Tryd.results13, go_sem, q0, q1, q2, hzR]) rfl ?_
    exact RTold.bad HE.out (by have := hbw.size; go_grown)
  obtain ⟨s, t, ho, ho', -, -⟩ := pairErr_zero c1
  have HE := Lib.hid c1
  have hdl : a.da.length ≤ 4096 := by rw [ho.len]; exact ho.good.2.2
  rw [c1]
  clear c1 ho ho' q0 q1 q2 qf hzR
  have hlA := bA.lt
  have hlB := bB.lt
  have hlR := bR.lt
  go_wp2_with fail
  go_loopw [9, 10] (fun s9 s10 wr => ∃ (k m : Nat) (A4 : Option Addr) (c4 : Nat), k ≤ a.da.length ∧ m ≤ k ∧ s10 = .int .i64 k ∧ s9 = .slice A4 m c4 ∧ Owns wr w1.heap.size (.slice A4 m c4) m ((a.da.take k).filter fun x => hasB b a.ch x == has) ∧ Below w1.heap.size w1 wr) (fun _ s10 _ => a.da.length - (intOf s10).toNat)
  case atStart => exact ⟨0, 0, none, 0, Nat.zero_le _, Nat.le_refl _, rfl, rfl, by simpa using Owns.nil _ _, Below.refl _ _⟩
  case round =>
    obtain ⟨k, m, A4, c4, hk, hmk, rfl, rfl, h2, hbl⟩ := hrel
    obtain ⟨t0, t1, t2⟩ := (bA.below hbl).three
    obtain ⟨u0, u1, u2⟩ := (bB.below hbl).three
    have lA2 := (bA.below hbl).lt
    have lB2 := (bB.below hbl).lt
    rcases Nat.lt_or_ge k a.da.length with hlt | hge
    · obtain ⟨ad, x, hax, hx, hal, hcx⟩ := Elems.later HD.out (hbw.trans (hbl.mono hbw.size)) hlt
      subst hax
      have HX := Lib.hid hx
      have HCX := Lib.hid (show ∀ wx, Below wr.heap.size wr wx → wx.cell? (ad.add k) = some (.int .i64 x) from fun wx h => (h.cell (p := ad.add k) (by rw [addr_block_add]; have := hbl.size; have := hbw.size; omega)).trans hcx)
      have HBO2 := Lib.hid (HB.out.mono (hbw.trans (hbl.mono hbw.size)))
      have hz := hbl.size
      have H2 := Lib.hid h2
      have HBL := Lib.hid hbl
      clear hx hcx h2 hbl
      go_wp2_with fail
      obtain ⟨wo, rfl⟩ : ∃ wo : World, wo = wr := ⟨_, rfl⟩
      refine wp_region_gate 10 0 (fun i v lo hi w' => match i with
          | 0 => v = .agg #[.bool b.ch, .slice A' b.sh.length ca', .slice D' b.da.length cd']
          | 1 => v = .pointer (some ⟨w.heap.size, 0, none⟩)
          | 2 => v = .bool a.ch
          | 3 => v = .pointer (some ⟨w.heap.size, 2, none⟩)
          | 4 => v = .slice (some ad) a.da.length cd
          | 5 => v = .int .i64 k
          | 6 => v = .pointer (some (ad.add k))
          | 7 => v = .int .i64 x
          | 8 => v = .bool (hasB b a.ch x)
          | 9 => v = .bool has
          | _ => True) (by kernel_rfl) (by kernel_rfl) (by kernel_rfl) ?hV ?step ?last
      case hV =>
        intro i v lo hi w1 w2 h hb
        match i, h with
        | 0, h => exact h
        | 1, h => exact h
        | 2, h => exact h
        | 3, h => exact h
        | 4, h => exact h
        | 5, h => exact h
        | 6, h => exact h
        | 7, h => exact h
        | 8, h => exact h
        | 9, h => exact h
        | i + 10, _ => trivial
      case step =>
        simp only [List.take_succ_cons, List.take_zero, putAll, Act.put, List.setIfInBounds_toArray, List.set_cons_zero, List.set_cons_succ, Nat.reduceAdd, Nat.zero_add]
        intro i o ho hi u lo up wr hbr hd hj K hK
        obtain ⟨hcw, hfw⟩ := bcell hbr
        match i, ho with
        | 0, ho =>
          simp only [List.getElem?_cons_zero, Option.some.injEq] at ho
          subst ho
          simp only [Act.put, List.setIfInBounds_toArray, List.set_cons_zero, List.set_cons_succ] at hK
          first | (simp [Region.binds] at hd; simp only [hd] at hK) | skip
          refine wpOp_step rfl fun K' hK' => ?_
          go_simp
          exact hK' _ _ (hK _ _ (Below.refl _ _) rfl)
        | 1, ho =>
          simp only [List.getElem?_cons_succ, List.getElem?_cons_zero, Option.some.injEq] at ho
          subst ho
          simp only [Act.put, List.setIfInBounds_toArray, List.set_cons_zero, List.set_cons_succ] at hK
          first | (simp [Region.binds] at hd; simp only [hd] at hK) | skip
          refine wpOp_step rfl fun K' hK' => ?_
          go_simp
          exact hK' _ _ (hK _ _ (Below.refl _ _) rfl)
        | 2, ho =>
          simp only [List.getElem?_cons_succ, List.getElem?_cons_zero, Option.some.injEq] at ho
          subst ho
          simp only [Act.put, List.setIfInBounds_toArray, List.set_cons_zero, List.set_cons_succ] at hK
          first | (simp [Region.binds] at hd; simp only [hd] at hK) | skip
          refine wpOp_step rfl fun K' hK' => ?_
          go_simp
          exact hK' _ _ (hK _ _ (Below.refl _ _) rfl)
        | 3, ho =>
          simp only [List.getElem?_cons_succ, List.getElem?_cons_zero, Option.some.injEq] at ho
          subst ho
          simp only [Act.put, List.setIfInBounds_toArray, List.set_cons_zero, List.set_cons_succ] at hK
          first | (simp [Region.binds] at hd; simp only [hd] at hK) | skip
          refine wpOp_step rfl fun K' hK' => ?_
          go_simp
          exact hK' _ _ (hK _ _ (Below.refl _ _) rfl)
        | 4, ho =>
          simp only [List.getElem?_cons_succ, List.getElem?_cons_zero, Option.some.injEq] at ho
          subst ho
          simp only [Act.put, List.setIfInBounds_toArray, List.set_cons_zero, List.set_cons_succ] at hK
          first | (simp [Region.binds] at hd; simp only [hd] at hK) | skip
          refine wpOp_step rfl fun K' hK' => ?_
          go_simp
          exact hK' _ _ (hK _ _ (Below.refl _ _) rfl)
        | 5, ho =>
          simp only [List.getElem?_cons_succ, List.getElem?_cons_zero, Option.some.injEq] at ho
          subst ho
          simp only [Act.put, List.setIfInBounds_toArray, List.set_cons_zero, List.set_cons_succ] at hK
          first | (simp [Region.binds] at hd; simp only [hd] at hK) | skip
          refine wpOp_step rfl fun K' hK' => ?_
          go_simp
          exact hK' _ _ (hK _ _ (Below.refl _ _) rfl)
        | 6, ho =>
          simp only [List.getElem?_cons_succ, List.getElem?_cons_zero, Option.some.injEq] at ho
          subst ho
          simp only [Act.put, List.setIfInBounds_toArray, List.set_cons_zero, List.set_cons_succ] at hK
          first | (simp [Region.binds] at hd; simp only [hd] at hK) | skip
          refine wpOp_step rfl fun K' hK' => ?_
          go_simp
          exact hK' _ _ (hK _ _ (Below.refl _ _) rfl)
        | 7, ho =>
          simp only [List.getElem?_cons_succ, List.getElem?_cons_zero, Option.some.injEq] at ho
          subst ho
          simp only [Act.put, List.setIfInBounds_toArray, List.set_cons_zero, List.set_cons_succ] at hK
          have h6 : u 6 = .pointer (some (ad.add k)) := hd ⟨6, .data⟩ (by simp) rfl
          have hcr := HCX.out wr hbr
          simp only [h6] at hK
          refine wpOp_step rfl fun K' hK' => ?_
          go_simp
          exact hK' _ _ (hK _ _ (Below.refl _ _) rfl)
        | 8, ho =>
          simp only [List.getElem?_cons_succ, List.getElem?_cons_zero, Option.some.injEq] at ho
          subst ho
          simp only [Act.put, List.setIfInBounds_toArray, List.set_cons_zero, List.set_cons_succ] at hK
          have h0 : u 0 = .agg #[.bool b.ch, .slice A' b.sh.length ca', .slice D' b.da.length cd'] := hd ⟨0, .data⟩ (by simp) rfl
          have h2 : u 2 = .bool a.ch := hd ⟨2, .data⟩ (by simp) rfl
          have h7 : u 7 = .int .i64 x := hd ⟨7, .data⟩ (by simp) rfl
          simp only [h0, h2, h7] at hK
          refine wpOp_step rfl fun K' hK' => ?_
          go_simp
          refine (has_any _ (b) a.ch x _ (HBO2.out.mono hbr)).mono ?_
          rintro e w6 ⟨r, rfl, hr, hb6⟩
          refine hK' _ _ (hK _ _ hb6 ?_)
          rw [show r = hasB (b) a.ch x by rw [Bool.eq_iff_iff, hr, hasB_iff]; exact ⟨fun h => ⟨h.2, h.1.symm⟩, fun h => ⟨h.2.symm, h.1⟩⟩]
        | 9, ho =>
          simp only [List.getElem?_cons_succ, List.getElem?_cons_zero, Option.some.injEq] at ho
          subst ho
          simp only [Act.put, List.setIfInBounds_toArray, List.set_cons_zero, List.set_cons_succ] at hK
          first | (simp [Region.binds] at hd; simp only [hd] at hK) | skip
          refine wpOp_step rfl fun K' hK' => ?_
          go_simp
          exact hK' _ _ (hK _ _ (Below.refl _ _) rfl)
        | i + 10, ho => omega
      case last =>
        simp only [List.take_succ_cons, List.take_zero, putAll, Act.put, List.setIfInBounds_toArray, List.set_cons_zero, List.set_cons_succ, Nat.reduceAdd, Nat.zero_add]
        intro u wr lo up hbr hv hj
        have e8 : u 8 = .bool (hasB b a.ch x) := hv 8 (by omega)
        have e9 : u 9 = .bool has := hv 9 (by omega)
        simp only [e8, e9]
        clear hv hj e8 e9
        unfold tailWp
        refine wpOp_step rfl fun K' hK' => ?_
        go_simp
        refine hK' _ _ ?_
        clear hK' 
        have hblr := HBL.out.trans (hbr.mono HBL.out.size)
        have h2r := H2.out.below hbr
        have hcr := HCX.out wr hbr
        have hzr := hblr.size
        clear t0 t1 t2 u0 u1 u2 lA2 lB2
        obtain ⟨t0, t1, t2⟩ := (bA.below hblr).three
        have lA2 := (bA.below hblr).lt
        by_cases hh : (hasB b a.ch x == has) = true
        · simp only [hh]
          have HF := Lib.hid (filter_yes (p := fun x => hasB b a.ch x == has) HX.out hh)
          clear hh
          go_wp2_with (at_builtin; refine wpList_append_ints _ rfl rfl _ _ rfl w1.heap.size m (.slice A4 m c4) _ rfl (h2r.alloc _) (some ⟨wr.heap.size, 0, none⟩) 1 1 [x] rfl (by simp) (elems_new wr x) rfl (by omega) (by simp; omega) ?_; intro A5 c5 w5 hown5 hgrow5 hat5)
          rw [← HF.out] at hown5
          go_roundw
          case rel => exact ⟨k + 1, m + 1, A5, c5, by omega, by omega, by go_num, rfl, hown5, (hblr.alloc hblr.size _).grown hgrow5 (by simp; omega) (fun _ e => (h2r.lt e).1)⟩
          case measure => simp [intOf]; omega
        · have hf : (hasB b a.ch x == has) = false := by simpa using hh
          simp only [hf]
          have HF := Lib.hid (filter_no (p := fun x => hasB b a.ch x == has) HX.out hf)
          clear hh hf
          rw [← HF.out] at h2r
          go_wp2_with fail
          go_roundw
          case rel => exact ⟨k + 1, m, A4, c4, by omega, by omega, by go_num, rfl, h2r, hblr⟩
          case measure => simp [intOf]; omega
    · have hke : k = a.da.length := by omega
      subst hke
      rw [List.take_of_length_le (Nat.le_refl _)] at h2
      have hml : m = (a.da.filter fun x => hasB b a.ch x == has).length := h2.length.symm
      have i2 := h2.isInts
      rw [hml] at i2
      have I2 := Lib.hid i2
      rw [hml]
      have hbw2 := hbw.trans (hbl.mono hbw.size)
      have b3 := bR.below hbl
      clear h2 i2 hml hmk
      go_wp2_with fail
      refine (vector_any a.ch _ _ _ I2.out).mono ?_
      rintro e w3 ⟨r, rfl, hr, hb3⟩
      obtain ⟨A3, ca3, D3, cd3, rfl, hs3, hd3⟩ := hr.open_
      have bR3 := b3.below hb3
      obtain ⟨q0, q1, q2⟩ := bR3.three
      have fR3 := bR3.frozen
      have hz3 := bR3.lt
      have hbw3 := hbw2.trans (hb3.mono hbw2.size)
      clear hb3 hs3 hd3 t0 t1 t2 u0 u1 u2 lA2 lB2
      go_wp2_with fail
      refine bodyPost_ret (v := .tuple #[.agg #[.bool a.ch, .slice A3 1 ca3, .slice D3 (a.da.filter fun x => hasB b a.ch x == has).length cd3], .int .i64 0]) (by simp [results, Tryd.results13, go_sem, q0, q1, q2, hz3]) rfl ?_
      rw [HE.out]
      exact RTold.ok rfl (IsArr.laid (show IsArr w3 _ (shared a b has) from hr) bR3 _ _ _) (by have := hbw3.size; go_grown)

theorem first_new {d : List Int} {k : Nat} {x : Int} {c : Bool} (h : d[k]? = some x) : firstB d k x = !hasB (vecOf c (sel (firstB d) (d.take k))) c x := by
  rw [Bool.eq_iff_iff]
  have hm : x ∈ sel (firstB d) (d.take k) ↔ x ∈ d.take k := by
    constructor
    · exact mem_sel
    · intro hx
      have hi : d.idxOf x < k := by
        rw [← idx_take hx]
        have := List.idxOf_lt_length_of_mem hx
        rw [List.length_take] at this
        omega
      have hg := idx_getElem (List.mem_of_mem_take hx)
      exact mem_selFrom.2 ⟨d.idxOf x, by rw [List.getElem?_take, if_pos hi]; exact hg, by simp [firstB]⟩
  have hv : hasB (vecOf c (sel (firstB d) (d.take k))) c x = decide (x ∈ d.take k) := by
    rw [Bool.eq_iff_iff, hasB_iff, decide_eq_true_iff]
    exact ⟨fun h => hm.1 h.1, fun h => ⟨hm.2 h, rfl⟩⟩
  rw [hv]
  simp only [firstB, decide_eq_true_eq, Bool.not_eq_true', decide_eq_false_iff_not]
  constructor
  · intro e hx
    have := List.idxOf_lt_length_of_mem hx
    rw [idx_take hx, List.length_take] at this
    omega
  · exact idx_new h

set_option maxRecDepth 100000 in
set_option maxHeartbeats 2000000 in
theorem unlike_told {va : Value} {a : Arr} {w : World} (ha : IsArr w va a) :
    Calls Tryd.prog 11 #[va] w (RTold (nub a) (nubErr a) w) := by
  obtain ⟨A, ca, D, cd, rfl, hs, hd⟩ := ha.open_
  obtain ⟨D0, cd0, eD, d1, d2, d3, d0, d4⟩ := id hd
  cases eD
  have HA := Lib.hid ha
  have HD := Lib.hid (show Elems w D a.da from d4)
  clear ha hs hd d0 d4
  go_enter Tryd.func11, Tryd.ntmps11
  have z1 := (Box.new w 24 #[.bool a.ch, .slice A a.sh.length ca, .slice D a.da.length cd]).alloc (.cells #[.bool false, .slice none 0 0, .slice none 0 0] 24)
  have z3 := Box.new (w.alloc (.cells #[.bool a.ch, .slice A a.sh.length ca, .slice D a.da.length cd] 24)) 24 #[.bool false, .slice none 0 0, .slice none 0 0]
  simp only [World.size_alloc] at z3
  have hb0 := below_two w (.cells #[.bool a.ch, .slice A a.sh.length ca, .slice D a.da.length cd] 24) (.cells #[.bool false, .slice none 0 0, .slice none 0 0] 24)
  obtain ⟨t0, t1, t2⟩ := z1.three
  go_wp2_with fail
  refine (flaw_any (HA.out.mono hb0)).mono ?_
  rintro e w1 ⟨rfl, hb1⟩
  have bA := z1.below hb1
  have bR := z3.below hb1
  have hbw := hb0.trans (hb1.mono hb0.size)
  clear z1 z3 hb0 hb1 t0 t1 t2
  obtain ⟨q0, q1, q2⟩ := bR.three
  have qf := bR.frozen
  have hzR := bR.lt
  obtain ⟨t0, t1, t2⟩ := bA.three
  by_cases c1 : arrErr a = 0
  case neg =>
    have HE := Lib.hid (show nubErr a = arrErr a by unfold nubErr; rw [if_pos c1])
    have HE0 := Lib.hid c1
    have e1 : (arrErr a != 0) = true := by simp [c1]
    have e2 : (arrErr a == 0) = false := by simp [c1]
    clear c1
    go_wp2_with fail
    refine bodyPost_ret (v := .tuple #[zeroArr, .int .i64 (arrErr a)]) (by simp [results, Tryd.results11, go_sem, q0, q1, q2, hzR]) rfl ?_
    rw [HE.out]
    exact RTold.bad HE0.out (by have := hbw.size; go_grown)
  obtain ⟨t, ht⟩ := ok_of_arrErr c1
  have HC1 := Lib.hid c1
  have hdl : a.da.length ≤ 4096 := by rw [ht.len]; exact ht.good.2.2
  rw [c1]
  clear c1 ht
  by_cases c2 : a.sh.length = 1
  case neg =>
    have HE := Lib.hid (show nubErr a = 3 by unfold nubErr; rw [if_neg (fun h => h HC1.out), if_pos c2])
    have e1 : ((a.sh.length : Int) != 1) = true := by simp; omega
    clear c2
    go_wp2_with fail
    refine bodyPost_ret (v := .tuple #[zeroArr, .int .i64 3]) (by simp [results, Tryd.results11, go_sem, q0, q1, q2, hzR]) rfl ?_
    rw [HE.out]
    exact RTold.bad (by decide) (by have := hbw.size; go_grown)
  have HE := Lib.hid (show nubErr a = 0 by unfold nubErr; rw [if_neg (fun h => h HC1.out), if_neg (fun h => h c2)])
  have e1 : ((a.sh.length : Int) != 1) = false := by simp [c2]
  clear c2 q0 q1 q2 qf hzR
  have hlA := bA.lt
  have hlR := bR.lt
  go_wp2_with fail
  clear t0 t1 t2
  go_loopw [5, 6] (fun s5 s6 wr => ∃ (k m : Nat) (A4 : Option Addr) (c4 : Nat), k ≤ a.da.length ∧ m ≤ k ∧ s6 = .int .i64 k ∧ s5 = .slice A4 m c4 ∧ Owns wr w1.heap.size (.slice A4 m c4) m (sel (firstB a.da) (a.da.take k)) ∧ Below w1.heap.size w1 wr) (fun _ s6 _ => a.da.length - (intOf s6).toNat)
  case atStart => exact ⟨0, 0, none, 0, Nat.zero_le _, Nat.le_refl _, rfl, rfl, by rw [sel_zero]; exact Owns.nil _ _, Below.refl _ _⟩
  case round =>
    obtain ⟨k, m, A4, c4, hk, hmk, rfl, rfl, h2, hbl⟩ := hrel
    obtain ⟨t0, t1, t2⟩ := (bA.below hbl).three
    have lA2 := (bA.below hbl).lt
    rcases Nat.lt_or_ge k a.da.length with hlt | hge
    · obtain ⟨ad, x, hax, hx, hal, hcx⟩ := Elems.later HD.out (hbw.trans (hbl.mono hbw.size)) hlt
      subst hax
      have HX := Lib.hid hx
      have hbw2 := hbw.trans (hbl.mono hbw.size)
      have hml := h2.length
      have HML := Lib.hid hml
      have i2 := h2.isInts
      have H2 := Lib.hid h2
      have HBL := Lib.hid hbl
      obtain ⟨L, hL⟩ : ∃ L, L = sel (firstB a.da) (a.da.take k) := ⟨_, rfl⟩
      rw [← hL] at i2
      have HLL := Lib.hid hL
      have hlm : L.length = m := by rw [hL]; exact hml
      have HLM := Lib.hid hlm
      have I2 := Lib.hid i2
      clear hx h2 hbl hml i2 hL hlm
      go_wp2_with fail
      refine (vector_any a.ch _ L _ I2.out).mono ?_
      rintro e w2 ⟨r, rfl, hr, hb2⟩
      have hb2' := HBL.out.trans (hb2.mono HBL.out.size)
      have hz2 := hb2'.size
      have h22 := H2.out.below hb2
      obtain ⟨A7, c7, D7, d7, rfl, -, -⟩ := hr.open_
      obtain ⟨n7, hn7⟩ : ∃ n7, n7 = L.length := ⟨_, rfl⟩
      simp only [List.length_cons, List.length_nil, Nat.zero_add] at hr ⊢
      rw [← hn7] at hr ⊢
      have HN7 := Lib.hid hn7
      have HR := Lib.hid hr
      clear hr hn7 t0 t1 t2 lA2 hb2
      obtain ⟨t0, t1, t2⟩ := (bA.below hb2').three
      have lA2 := (bA.below hb2').lt
      go_wp2_with fail
      have hb3 : Below w1.heap.size w1 (w2.alloc (.cells #[.bool a.ch, .slice A7 1 c7, .slice D7 n7 d7] 24)) := hb2'.alloc hb2'.size _
      have b7 := Box.new w2 24 #[.bool a.ch, .slice A7 1 c7, .slice D7 n7 d7]
      have h23 := h22.alloc (.cells #[.bool a.ch, .slice A7 1 c7, .slice D7 n7 d7] 24)
      have HR3 := Lib.hid (HR.out.mono (below_one w2 (.cells #[.bool a.ch, .slice A7 1 c7, .slice D7 n7 d7] 24)))
      obtain ⟨wo, hwo⟩ : ∃ wo : World, wo = w2.alloc (.cells #[.bool a.ch, .slice A7 1 c7, .slice D7 n7 d7] 24) := ⟨_, rfl⟩
      rw [← hwo] at hb3 b7 h23 HR3 ⊢
      have hzo : wo.heap.size = w2.heap.size + 1 := by rw [hwo]; simp
      have hl7 : w2.heap.size < wo.heap.size := by omega
      clear hwo hzo t0 t1 t2 lA2
      obtain ⟨t0, t1, t2⟩ := (bA.below hb3).three
      have lA2 := (bA.below hb3).lt
      obtain ⟨v0, v1, v2⟩ := b7.three
      obtain ⟨AH, hAH⟩ : ∃ AH : Arr, AH = vecOf a.ch L := ⟨_, rfl⟩
      have HAH := Lib.hid hAH
      have HBO2 := Lib.hid (show IsArr wo (.agg #[.bool a.ch, .slice A7 1 c7, .slice D7 n7 d7]) AH by rw [hAH]; unfold vecOf; rw [← HN7.out]; exact HR3.out)
      clear hAH
      have HCX := Lib.hid (show ∀ wx, Below wo.heap.size wo wx → wx.cell? (ad.add k) = some (.int .i64 x) from fun wx h => by
        have hw := hbw.trans ((hb3.trans (h.mono hb3.size)).mono hbw.size)
        exact (((hb3.trans (h.mono hb3.size)).cell (p := ad.add k) (by rw [addr_block_add]; have := hbw.size; omega)).trans (((HBL.out.cell (p := ad.add k) (by rw [addr_block_add]; have := hbw.size; omega)).symm).trans hcx)))
      have hz3 := hb3.size
      go_wp2_with fail
      refine wp_region_gate 9 0 (fun i v lo hi w' => match i with
          | 0 => v = .agg #[.bool a.ch, .slice A7 1 c7, .slice D7 n7 d7]
          | 1 => v = .pointer (some ⟨w.heap.size, 0, none⟩)
          | 2 => v = .bool a.ch
          | 3 => v = .pointer (some ⟨w.heap.size, 2, none⟩)
          | 4 => v = .slice (some ad) a.da.length cd
          | 5 => v = .int .i64 k
          | 6 => v = .pointer (some (ad.add k))
          | 7 => v = .int .i64 x
          | 8 => v = .bool (hasB AH a.ch x)
          | _ => True) (by kernel_rfl) (by kernel_rfl) (by kernel_rfl) ?hV ?step ?last
      case hV =>
        intro i v lo hi w1 w2 h hb
        match i, h with
        | 0, h => exact h
        | 1, h => exact h
        | 2, h => exact h
        | 3, h => exact h
        | 4, h => exact h
        | 5, h => exact h
        | 6, h => exact h
        | 7, h => exact h
        | 8, h => exact h
        | i + 9, _ => trivial
      case step =>
        simp only [List.take_succ_cons, List.take_zero, putAll, Act.put, List.setIfInBounds_toArray, List.set_cons_zero, List.set_cons_succ, Nat.reduceAdd, Nat.zero_add]
        intro i o ho hi u lo up wr hbr hd hj K hK
        obtain ⟨hcw, hfw⟩ := bcell hbr
        match i, ho with
        | 0, ho =>
          simp only [List.getElem?_cons_zero, Option.some.injEq] at ho
          subst ho
          simp only [Act.put, List.setIfInBounds_toArray, List.set_cons_zero, List.set_cons_succ] at hK
          first | (simp [Region.binds] at hd; simp only [hd] at hK) | skip
          refine wpOp_step rfl fun K' hK' => ?_
          go_simp
          exact hK' _ _ (hK _ _ (Below.refl _ _) rfl)
        | 1, ho =>
          simp only [List.getElem?_cons_succ, List.getElem?_cons_zero, Option.some.injEq] at ho
          subst ho
          simp only [Act.put, List.setIfInBounds_toArray, List.set_cons_zero, List.set_cons_succ] at hK
          first | (simp [Region.binds] at hd; simp only [hd] at hK) | skip
          refine wpOp_step rfl fun K' hK' => ?_
          go_simp
          exact hK' _ _ (hK _ _ (Below.refl _ _) rfl)
        | 2, ho =>
          simp only [List.getElem?_cons_succ, List.getElem?_cons_zero, Option.some.injEq] at ho
          subst ho
          simp only [Act.put, List.setIfInBounds_toArray, List.set_cons_zero, List.set_cons_succ] at hK
          first | (simp [Region.binds] at hd; simp only [hd] at hK) | skip
          refine wpOp_step rfl fun K' hK' => ?_
          go_simp
          exact hK' _ _ (hK _ _ (Below.refl _ _) rfl)
        | 3, ho =>
          simp only [List.getElem?_cons_succ, List.getElem?_cons_zero, Option.some.injEq] at ho
          subst ho
          simp only [Act.put, List.setIfInBounds_toArray, List.set_cons_zero, List.set_cons_succ] at hK
          first | (simp [Region.binds] at hd; simp only [hd] at hK) | skip
          refine wpOp_step rfl fun K' hK' => ?_
          go_simp
          exact hK' _ _ (hK _ _ (Below.refl _ _) rfl)
        | 4, ho =>
          simp only [List.getElem?_cons_succ, List.getElem?_cons_zero, Option.some.injEq] at ho
          subst ho
          simp only [Act.put, List.setIfInBounds_toArray, List.set_cons_zero, List.set_cons_succ] at hK
          first | (simp [Region.binds] at hd; simp only [hd] at hK) | skip
          refine wpOp_step rfl fun K' hK' => ?_
          go_simp
          exact hK' _ _ (hK _ _ (Below.refl _ _) rfl)
        | 5, ho =>
          simp only [List.getElem?_cons_succ, List.getElem?_cons_zero, Option.some.injEq] at ho
          subst ho
          simp only [Act.put, List.setIfInBounds_toArray, List.set_cons_zero, List.set_cons_succ] at hK
          first | (simp [Region.binds] at hd; simp only [hd] at hK) | skip
          refine wpOp_step rfl fun K' hK' => ?_
          go_simp
          exact hK' _ _ (hK _ _ (Below.refl _ _) rfl)
        | 6, ho =>
          simp only [List.getElem?_cons_succ, List.getElem?_cons_zero, Option.some.injEq] at ho
          subst ho
          simp only [Act.put, List.setIfInBounds_toArray, List.set_cons_zero, List.set_cons_succ] at hK
          first | (simp [Region.binds] at hd; simp only [hd] at hK) | skip
          refine wpOp_step rfl fun K' hK' => ?_
          go_simp
          exact hK' _ _ (hK _ _ (Below.refl _ _) rfl)
        | 7, ho =>
          simp only [List.getElem?_cons_succ, List.getElem?_cons_zero, Option.some.injEq] at ho
          subst ho
          simp only [Act.put, List.setIfInBounds_toArray, List.set_cons_zero, List.set_cons_succ] at hK
          have h6 : u 6 = .pointer (some (ad.add k)) := hd ⟨6, .data⟩ (by simp) rfl
          have hcr := HCX.out wr hbr
          simp only [h6] at hK
          refine wpOp_step rfl fun K' hK' => ?_
          go_simp
          exact hK' _ _ (hK _ _ (Below.refl _ _) rfl)
        | 8, ho =>
          simp only [List.getElem?_cons_succ, List.getElem?_cons_zero, Option.some.injEq] at ho
          subst ho
          simp only [Act.put, List.setIfInBounds_toArray, List.set_cons_zero, List.set_cons_succ] at hK
          have h0 : u 0 = .agg #[.bool a.ch, .slice A7 1 c7, .slice D7 n7 d7] := hd ⟨0, .data⟩ (by simp) rfl
          have h2 : u 2 = .bool a.ch := hd ⟨2, .data⟩ (by simp) rfl
          have h7 : u 7 = .int .i64 x := hd ⟨7, .data⟩ (by simp) rfl
          simp only [h0, h2, h7] at hK
          refine wpOp_step rfl fun K' hK' => ?_
          go_simp
          refine (has_any _ (AH) a.ch x _ (HBO2.out.mono hbr)).mono ?_
          rintro e w6 ⟨r, rfl, hr, hb6⟩
          refine hK' _ _ (hK _ _ hb6 ?_)
          rw [show r = hasB (AH) a.ch x by rw [Bool.eq_iff_iff, hr, hasB_iff]; exact ⟨fun h => ⟨h.2, h.1.symm⟩, fun h => ⟨h.2.symm, h.1⟩⟩]
        | i + 9, ho => omega
      case last =>
        simp only [List.take_succ_cons, List.take_zero, putAll, Act.put, List.setIfInBounds_toArray, List.set_cons_zero, List.set_cons_succ, Nat.reduceAdd, Nat.zero_add]
        intro u wr lo up hbr hv hj
        have e8 : u 8 = .bool (hasB AH a.ch x) := hv 8 (by omega)
        simp only [e8]
        clear hv hj e8
        unfold tailWp
        refine wpOp_step rfl fun K' hK' => ?_
        go_simp
        refine hK' _ _ ?_
        clear hK' 
        have hblr := hb3.trans (hbr.mono hb3.size)
        have h2r := h23.below hbr
        have hcr := HCX.out wr hbr
        have hzr := hblr.size
        clear t0 t1 t2 lA2 v0 v1 v2
        obtain ⟨t0, t1, t2⟩ := (bA.below hblr).three
        have lA2 := (bA.below hblr).lt
        have hfb : firstB a.da k x = !hasB AH a.ch x := by rw [HAH.out, HLL.out]; exact first_new HX.out
        have HFB := Lib.hid hfb
        clear hfb
        by_cases hh : hasB AH a.ch x = true
        · simp only [hh]
          have HF := Lib.hid (sel_no HX.out (show firstB a.da k x = false by rw [HFB.out, hh]; rfl))
          clear hh
          rw [← HF.out] at h2r
          go_wp2_with fail
          go_roundw
          case rel => exact ⟨k + 1, m, A4, c4, by omega, by omega, by go_num, rfl, h2r, hblr⟩
          case measure => simp [intOf]; omega
        · have hf : hasB AH a.ch x = false := by simpa using hh
          simp only [hf]
          have HF := Lib.hid (sel_yes HX.out (show firstB a.da k x = true by rw [HFB.out, hf]; rfl))
          clear hh hf
          go_wp2_with (at_builtin; refine wpList_append_ints _ rfl rfl _ _ rfl w1.heap.size m (.slice A4 m c4) _ rfl (h2r.alloc _) (some ⟨wr.heap.size, 0, none⟩) 1 1 [x] rfl (by simp) (elems_new wr x) rfl (by omega) (by simp; omega) ?_; intro A5 c5 w5 hown5 hgrow5 hat5)
          rw [← HF.out] at hown5
          go_roundw
          case rel => exact ⟨k + 1, m + 1, A5, c5, by omega, by omega, by go_num, rfl, hown5, (hblr.alloc hblr.size _).grown hgrow5 (by simp; omega) (fun _ e => (h2r.lt e).1)⟩
          case measure => simp [intOf]; omega
    · have hke : k = a.da.length := by omega
      subst hke
      rw [List.take_of_length_le (Nat.le_refl _)] at h2
      obtain ⟨L, hL⟩ : ∃ L, L = nubD a.da := ⟨_, rfl⟩
      have h2 : Owns wr w1.heap.size (.slice A4 m c4) m L := by rw [hL]; exact h2
      have HLL := Lib.hid hL
      have hml : m = L.length := h2.length.symm
      have i2 := h2.isInts
      rw [hml] at i2
      have I2 := Lib.hid i2
      rw [hml]
      have hbw2 := hbw.trans (hbl.mono hbw.size)
      have b3 := bR.below hbl
      clear h2 i2 hml hmk hL
      go_wp2_with fail
      refine (vector_any a.ch _ L _ I2.out).mono ?_
      rintro e w3 ⟨r, rfl, hr, hb3⟩
      obtain ⟨A3, ca3, D3, cd3, rfl, hs3, hd3⟩ := hr.open_
      have bR3 := b3.below hb3
      obtain ⟨q0, q1, q2⟩ := bR3.three
      have fR3 := bR3.frozen
      have hz3 := bR3.lt
      have hbw3 := hbw2.trans (hb3.mono hbw2.size)
      clear hb3 hs3 hd3 t0 t1 t2 lA2
      go_wp2_with fail
      refine bodyPost_ret (v := .tuple #[.agg #[.bool a.ch, .slice A3 1 ca3, .slice D3 L.length cd3], .int .i64 0]) (by simp [results, Tryd.results11, go_sem, q0, q1, q2, hz3]) rfl ?_
      rw [HE.out]
      exact RTold.ok rfl (IsArr.laid (show IsArr w3 _ (nub a) from (by unfold nub vecOf; rw [← HLL.out]; exact hr)) bR3 _ _ _) (by have := hbw3.size; go_grown)
theorem row_owns {w : World} {B g : Nat} {xs : List Int} (h : Row w g xs) (hB : B ≤ g) (hl : xs.length ≤ 17592186044416) : Owns w B (.slice (some ⟨g, 0, none⟩) xs.length xs.length) xs.length xs :=
  ⟨⟨by rw [length_nums]; omega, .inr ⟨g, xs.length, _, rfl, hB, h, Nat.le_refl _, by unfold maxLen; omega, by simp, by simp [nums]; exact List.take_of_length_le (by simp)⟩⟩, hl⟩
theorem pairErr_swap {a b : Arr} (h : pairErr a b = 0) : pairErr b a = 0 := by
  obtain ⟨s, t, ha, hb, h1, h2⟩ := pairErr_zero h
  unfold pairErr twoErr
  rw [arrErr_ok ha, arrErr_ok hb]
  simp [h1, h2]
theorem shared_without {va vb : Value} {a b : Arr} {w : World} (ha : IsArr w va a) (hb : IsArr w vb b) :
    Calls Tryd.prog 13 #[va, vb, .bool false] w (RTold (without a b) (pairErr a b) w) := by
  rw [← shared_no]; exact shared_told ha hb
theorem shared_meet {va vb : Value} {a b : Arr} {w : World} (ha : IsArr w va a) (hb : IsArr w vb b) :
    Calls Tryd.prog 13 #[va, vb, .bool true] w (RTold (meet a b) (pairErr a b) w) := by
  rw [← shared_yes]; exact shared_told ha hb

set_option maxRecDepth 100000 in
set_option maxHeartbeats 2000000 in
theorem united_told {va vb : Value} {a b : Arr} {w : World} (ha : IsArr w va a) (hb : IsArr w vb b) :
    Calls Tryd.prog 16 #[va, vb] w (RTold (union a b) (unionErr a b) w) := by
  obtain ⟨A, ca, D, cd, rfl, hs, hd⟩ := ha.open_
  obtain ⟨A', ca', D', cd', rfl, -, -⟩ := hb.open_
  have HA := Lib.hid ha
  have HB := Lib.hid hb
  have HDI := Lib.hid hd
  clear ha hb hs hd
  go_enter Tryd.func16, Tryd.ntmps16
  have z1 := ((Box.new w 24 #[.bool a.ch, .slice A a.sh.length ca, .slice D a.da.length cd]).alloc (.cells #[.bool b.ch, .slice A' b.sh.length ca', .slice D' b.da.length cd'] 24)).alloc (.cells #[.bool false, .slice none 0 0, .slice none 0 0] 24)
  have z2 := (Box.new (w.alloc (.cells #[.bool a.ch, .slice A a.sh.length ca, .slice D a.da.length cd] 24)) 24 #[.bool b.ch, .slice A' b.sh.length ca', .slice D' b.da.length cd']).alloc (.cells #[.bool false, .slice none 0 0, .slice none 0 0] 24)
  have z3 := Box.new ((w.alloc (.cells #[.bool a.ch, .slice A a.sh.length ca, .slice D a.da.length cd] 24)).alloc (.cells #[.bool b.ch, .slice A' b.sh.length ca', .slice D' b.da.length cd'] 24)) 24 #[.bool false, .slice none 0 0, .slice none 0 0]
  simp only [World.size_alloc] at z2 z3
  have hb0 := below_three w (.cells #[.bool a.ch, .slice A a.sh.length ca, .slice D a.da.length cd] 24) (.cells #[.bool b.ch, .slice A' b.sh.length ca', .slice D' b.da.length cd'] 24) (.cells #[.bool false, .slice none 0 0, .slice none 0 0] 24)
  obtain ⟨t0, t1, t2⟩ := z1.three
  obtain ⟨u0, u1, u2⟩ := z2.three
  go_wp2_with fail
  refine (lists_any (HA.out.mono hb0) (HB.out.mono hb0)).mono ?_
  rintro e w1 ⟨rfl, hb1⟩
  have bA := z1.below hb1
  have bB := z2.below hb1
  have bR := z3.below hb1
  have hbw := hb0.trans (hb1.mono hb0.size)
  clear z1 z2 z3 hb0 hb1 t0 t1 t2 u0 u1 u2
  obtain ⟨q0, q1, q2⟩ := bR.three
  have qf := bR.frozen
  have hzR := bR.lt
  obtain ⟨t0, t1, t2⟩ := bA.three
  obtain ⟨u0, u1, u2⟩ := bB.three
  by_cases c1 : pairErr a b = 0
  case neg =>
    have HE := Lib.hid (show unionErr a b = pairErr a b by unfold unionErr; rw [if_pos c1])
    have HE0 := Lib.hid c1
    have e1 : (pairErr a b != 0) = true := by simp [c1]
    have e2 : (pairErr a b == 0) = false := by simp [c1]
    clear c1
    go_wp2_with fail
    refine bodyPost_ret (v := .tuple #[zeroArr, .int .i64 (pairErr a b)]) (by simp [results, Tryd.results16, go_sem, q0, q1, q2, hzR]) rfl ?_
    rw [HE.out]
    exact RTold.bad HE0.out (by have := hbw.size; go_grown)
  have HC1 := Lib.hid c1
  have HP := Lib.hid (pairErr_swap c1)
  obtain ⟨s, t, ho, ho', -, -⟩ := pairErr_zero c1
  have hdl : a.da.length ≤ 4096 := by rw [ho.len]; exact ho.good.2.2
  have hdl2 : b.da.length ≤ 4096 := by rw [ho'.len]; exact ho'.good.2.2
  rw [c1]
  clear c1 ho ho'
  by_cases c2 : a.ch = b.ch
  case neg =>
    have HE := Lib.hid (show unionErr a b = 6 by unfold unionErr; rw [if_neg (fun h => h HC1.out), if_pos c2])
    have e1 : (a.ch == b.ch) = false := by simp [c2]
    clear c2
    go_wp2_with fail
    refine bodyPost_ret (v := .tuple #[zeroArr, .int .i64 6]) (by simp [results, Tryd.results16, go_sem, q0, q1, q2, hzR]) rfl ?_
    rw [HE.out]
    exact RTold.bad (by decide) (by have := hbw.size; go_grown)
  have HU := Lib.hid (show unionErr a b = if 4096 < (union a b).da.length then 7 else 0 by unfold unionErr; rw [if_neg (fun h => h HC1.out), if_neg (fun h => h c2)])
  have e1 : (a.ch == b.ch) = true := by simp [c2]
  clear c2
  go_wp2_with fail
  refine (shared_told (has := false) (HB.out.mono hbw) (HA.out.mono hbw)).mono ?_
  rintro e w2 ⟨r, rfl, hr, hb2⟩
  rw [HP.out] at hr ⊢
  have hr2 : IsArr w2 r (without b a) := by rw [← shared_no]; exact hr
  have hml : (without b a).da.length ≤ 4096 := Nat.le_trans (List.length_filter_le _ _) hdl2
  obtain ⟨M, hM⟩ : ∃ M, M = without b a := ⟨_, rfl⟩
  have HUN := Lib.hid (show union a b = vecOf a.ch (a.da ++ M.da) by rw [hM]; rfl)
  rw [← hM] at hr2 hml
  obtain ⟨A3, ca3, D3, cd3, rfl, -, hd3⟩ := hr2.open_
  have hbw2 := hbw.trans (hb2.mono hbw.size)
  have hr3 := hr2.mono (below_one w2 (.cells #[.bool M.ch, .slice A3 M.sh.length ca3, .slice D3 M.da.length cd3] 24))
  have HD3 := Lib.hid (hd3.mono (below_one w2 (.cells #[.bool M.ch, .slice A3 M.sh.length ca3, .slice D3 M.da.length cd3] 24)))
  have bA7 := (bA.below hb2).alloc (.cells #[.bool M.ch, .slice A3 M.sh.length ca3, .slice D3 M.da.length cd3] 24)
  have bR7 := (bR.below hb2).alloc (.cells #[.bool M.ch, .slice A3 M.sh.length ca3, .slice D3 M.da.length cd3] 24)
  have b7 := Box.new w2 24 #[.bool M.ch, .slice A3 M.sh.length ca3, .slice D3 M.da.length cd3]
  have hbw7 := hbw2.trans ((below_one w2 (.cells #[.bool M.ch, .slice A3 M.sh.length ca3, .slice D3 M.da.length cd3] 24)).mono hbw2.size)
  have hw0 : IntKind.i64.wrap ((a.da.length : Int) + (M.da.length : Int)) = (a.da.length : Int) + (M.da.length : Int) := IntWalk.i64_in _ (by omega)
  clear hr hr2 hr3 hM hd3 t0 t1 t2 u0 u1 u2 q0 q1 q2 qf hzR hb2
  obtain ⟨t0, t1, t2⟩ := bA7.three
  obtain ⟨v0, v1, v2⟩ := b7.three
  obtain ⟨q0, q1, q2⟩ := bR7.three
  have qf := bR7.frozen
  have hzR := bR7.lt
  by_cases c3 : 4096 < a.da.length + M.da.length
  case pos =>
    have HE := Lib.hid (show unionErr a b = 7 by rw [HU.out, HUN.out, if_pos (by unfold vecOf; rw [List.length_append]; exact c3)])
    have d1 : decide ((4096 : Int) < (a.da.length : Int) + (M.da.length : Int)) = true := by simp; omega
    clear c3
    go_wp2_with fail
    refine bodyPost_ret (v := .tuple #[zeroArr, .int .i64 7]) (by simp [results, Tryd.results16, go_sem, q0, q1, q2, hzR]) rfl ?_
    rw [HE.out]
    exact RTold.bad (by decide) (by have := hbw7.size; go_grown)
  have HE := Lib.hid (show unionErr a b = 0 by rw [HU.out, HUN.out, if_neg (by unfold vecOf; rw [List.length_append]; exact c3)])
  have d1 : decide ((4096 : Int) < (a.da.length : Int) + (M.da.length : Int)) = false := by simp; omega
  go_wp2_with fail
  refine (copied_ok _ a.da _ (HDI.out.mono hbw7) hdl).mono ?_
  rintro e w4 ⟨gd, rfl, hgd, hrd, hb4⟩
  obtain ⟨W7, hW7⟩ : ∃ W7, W7 = w2.alloc (.cells #[.bool M.ch, .slice A3 M.sh.length ca3, .slice D3 M.da.length cd3] 24) := ⟨_, rfl⟩
  rw [← hW7] at bA7 bR7 b7 hbw7 HD3 hgd hb4
  have hz7 : W7.heap.size = w2.heap.size + 1 := by rw [hW7]; simp
  have O0 := Lib.hid (row_owns (B := W7.heap.size) hrd hgd (by omega))
  have HB4 := Lib.hid hb4
  obtain ⟨g7, hg7⟩ : ∃ g7, g7 = w2.heap.size := ⟨_, rfl⟩
  rw [← hg7] at b7 ⊢
  clear hW7 hz7 hg7 hrd hgd t0 t1 t2 v0 v1 v2 q0 q1 q2 qf hzR hw0 d1
  obtain ⟨v0, v1, v2⟩ := (b7.below hb4).three
  have l7 := (b7.below hb4).lt
  clear hb4
  go_wp2_with fail
  clear v0 v1 v2 l7
  go_loopw [8, 9] (fun s8 s9 wr => ∃ (k : Nat) (A4 : Option Addr) (c4 : Nat), k ≤ M.da.length ∧ s9 = .int .i64 k ∧ s8 = .slice A4 (a.da.length + k) c4 ∧ Owns wr W7.heap.size (.slice A4 (a.da.length + k) c4) (a.da.length + k) (a.da ++ M.da.take k) ∧ Below W7.heap.size W7 wr) (fun _ s9 _ => M.da.length - (intOf s9).toNat)
  case atStart => exact ⟨0, _, _, Nat.zero_le _, rfl, rfl, by simpa using O0.out, HB4.out⟩
  case round =>
    obtain ⟨k, A4, c4, hk, rfl, rfl, h2, hbl⟩ := hrel
    obtain ⟨v0, v1, v2⟩ := (b7.below hbl).three
    have l7 := (b7.below hbl).lt
    rcases Nat.lt_or_ge k M.da.length with hlt | hge
    · obtain ⟨ad, x, rfl, hx, hal, hcx⟩ := Elems.later (IsInts.elems HD3.out) hbl hlt
      have HX := Lib.hid hx
      have hz := hbl.size
      clear hx
      go_wp2_with (at_builtin; refine wpList_append_ints _ rfl rfl _ _ rfl W7.heap.size (a.da.length + k) (.slice A4 (a.da.length + k) c4) _ rfl (h2.alloc _) (some ⟨wr.heap.size, 0, none⟩) 1 1 [x] rfl (by simp) (elems_new wr x) rfl (by omega) (by simp; omega) ?_; intro A5 c5 w5 hown5 hgrow5 hat5)
      rw [List.append_assoc, take_at HX.out] at hown5
      go_roundw
      case rel => exact ⟨k + 1, A5, c5, by omega, by go_num, rfl, hown5, (hbl.alloc hbl.size _).grown hgrow5 (by simp; omega) (fun _ e => (h2.lt e).1)⟩
      case measure => simp [intOf]; omega
    · have hke : k = M.da.length := by omega
      subst hke
      rw [List.take_of_length_le (Nat.le_refl _)] at h2
      have i2 := h2.isInts
      obtain ⟨L, hL⟩ : ∃ L, L = a.da ++ M.da := ⟨_, rfl⟩
      have hll : a.da.length + M.da.length = L.length := by rw [hL, List.length_append]
      rw [← hL, hll] at i2
      have I2 := Lib.hid i2
      have HLL := Lib.hid hL
      rw [hll]
      have hbw8 := hbw7.trans (hbl.mono hbw7.size)
      have b3 := bR7.below hbl
      obtain ⟨t0, t1, t2⟩ := (bA7.below hbl).three
      have lA2 := (bA7.below hbl).lt
      clear h2 i2 hL hll
      go_wp2_with fail
      refine (vector_any a.ch _ L _ I2.out).mono ?_
      rintro e w9 ⟨r, rfl, hr, hb9⟩
      obtain ⟨A9, ca9, D9, cd9, rfl, -, -⟩ := hr.open_
      have bR9 := b3.below hb9
      obtain ⟨q0, q1, q2⟩ := bR9.three
      have fR9 := bR9.frozen
      have hz9 := bR9.lt
      have hbw9 := hbw8.trans (hb9.mono hbw8.size)
      clear hb9 t0 t1 t2 lA2 v0 v1 v2 l7
      go_wp2_with fail
      refine bodyPost_ret (v := .tuple #[.agg #[.bool a.ch, .slice A9 1 ca9, .slice D9 L.length cd9], .int .i64 0]) (by simp [results, Tryd.results16, go_sem, q0, q1, q2, hz9]) rfl ?_
      rw [HE.out]
      exact RTold.ok rfl (IsArr.laid (show IsArr w9 _ (union a b) from (by rw [HUN.out]; unfold vecOf; rw [← HLL.out]; exact hr)) bR9 _ _ _) (by have := hbw9.size; go_grown)

end Go.Proofs.YtlkeipgpckkhbaaDoor
