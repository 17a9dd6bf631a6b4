/- What the card TopOnce leans on: MeetBad, InBad, IndexWalk. Conditions: none but those of its theorems. -/
import Derived.Laws.EntriesVeiled
import Derived.Test.YtihndbkaoejnnaaGreatDoorOnceAN
import Derived.Test.YtihndbkaoejnnaaGreatDoorOnceAO
import Derived.Test.YtihndbkaoejnnaaGreatDoorOnceC
set_option linter.unusedSimpArgs false
set_option linter.unusedVariables false
namespace Go.Proofs.YtihndbkaoejnnaaGreatDoor
open Go Go.RowKit Go.Proofs.YtihndbkaoejnnaaGreatDoor.P

end Go.Proofs.YtihndbkaoejnnaaGreatDoor

namespace Go.Proofs.YtihndbkaoejnnaaGreatDoor
open Go Go.RowKit Go.Proofs.YtihndbkaoejnnaaGreatDoor.P

end Go.Proofs.YtihndbkaoejnnaaGreatDoor

namespace Go.Proofs.YtihndbkaoejnnaaGreatDoor
open Go Go.RowKit Go.Proofs.YtihndbkaoejnnaaGreatDoor.P

/-- One more number behind the data of an array that the call made. -/
theorem index_step {W wr w4 : World} {o : Obj} {g : Nat} {v0 : Value} {A' A2 A4 : Option Addr} {n c' c2 c4 p : Nat} {xs ys ss : List Int}
    (h1 : Box wr g 25 #[v0, .slice A' n c', .slice A2 p c2]) (h2 : Owns wr (g + 1) (.slice A2 p c2) p xs) (h3 : Owns wr W.heap.size (.slice A' n c') n ss) (hb : ∀ b, (Value.slice A' n c').ownBlock = some b → b < g)
    (h5 : Below W.heap.size W wr) (hg : W.heap.size ≤ g) (hgrow : (wr.alloc o).grownBy w4 (Value.slice A2 p c2).ownBlock) (hown : Owns w4 (g + 1) (.slice A4 (p + 1) c4) (p + 1) ys) :
    Box (w4.setCell ⟨g, 2, none⟩ (.slice A4 (p + 1) c4)) g 25 #[v0, .slice A' n c', .slice A4 (p + 1) c4] ∧ Owns (w4.setCell ⟨g, 2, none⟩ (.slice A4 (p + 1) c4)) (g + 1) (.slice A4 (p + 1) c4) (p + 1) ys ∧
      Owns (w4.setCell ⟨g, 2, none⟩ (.slice A4 (p + 1) c4)) W.heap.size (.slice A' n c') n ss ∧ Below W.heap.size W (w4.setCell ⟨g, 2, none⟩ (.slice A4 (p + 1) c4)) := by
  have b4 := Box.grown (w := wr.alloc o) (h1.alloc o) hgrow (h2.ne_box h1 (by decide))
  have s := b4.store 2 (.slice A4 (p + 1) c4)
  simp only [List.setIfInBounds_toArray, List.set_cons_zero, List.set_cons_succ] at s
  have h3' : Owns w4 W.heap.size (.slice A' n c') n ss := (h3.alloc o).kept hgrow (by
    rcases e : (Value.slice A' n c').ownBlock with _ | j
    · exact .inl rfl
    · right
      intro e2
      have := hb j e
      have := (h2.lt e2.symm).1
      omega)
  exact ⟨s, hown.setCell (p := ⟨g, 2, none⟩) (hown.ne_box b4 (by decide)) _, h3'.setCell (p := ⟨g, 2, none⟩) (h3'.ne_box b4 (by decide)) _,
    ((h5.alloc h5.size o).grown hgrow (by have := h5.size; simp; omega) (fun j e => by have := (h2.lt e).1; omega)).setCell (p := ⟨g, 2, none⟩) (by simp; omega) _⟩

theorem index_at {a b : Arr} {k : Nat} {x : Int} (h : b.da[k]? = some x) : (index a b).da[k]? = some ((findN a b.ch x : Nat) : Int) := by
  unfold index
  rw [List.getElem?_map, h]
  rfl
theorem index_len (a b : Arr) : (index a b).da.length = b.da.length := by simp [index]

set_option maxRecDepth 100000 in
set_option maxHeartbeats 2000000 in
theorem index_new {va vb : Value} {a b : Arr} {w : World} (ha : IsArr w va a) (hb : IsArr w vb b) (hwa : Wf a.da) (hwb : Wf b.da) (h : indexErr a b = 0) :
    Calls Tryz.prog 185 #[va, vb] w (GivesOkN (index a b) w) := by
  obtain ⟨A, ca, D, cd, rfl, hs, hd⟩ := ha.open_
  obtain ⟨A', ca', D', cd', rfl, hs', hd'⟩ := hb.open_
  obtain ⟨D0, cd0, eD, d1, d2, d3, d0, d4⟩ := id hd'
  cases eD
  have D4 := Lib.hid (show Elems w D' b.da from d4)
  obtain ⟨s, t, hsO, htO, h1⟩ := indexErr_zero h
  have hl := ok_da_le hsO
  have hlb := ok_da_le htO
  have H := Lib.hid (twoErr_ok hsO htO)
  have HW := Lib.hid hwa
  have HV := Lib.hid hwb
  have HS := Lib.hid hs'
  have e0 : ((a.sh.length : Int) != 1) = false := by simp; omega
  clear h hsO htO hwa hwb hs hd hs' hd' d4 d0 h1
  have bA0 := ((Box.new w 25 #[.bool a.ch, .slice A a.sh.length ca, .slice D a.da.length cd]).alloc (.cells #[.bool b.ch, .slice A' b.sh.length ca', .slice D' b.da.length cd'] 25)).alloc (.cells #[.bool false, .slice none 0 0, .slice none 0 0] 25)
  have bB0 := (Box.new (w.alloc (.cells #[.bool a.ch, .slice A a.sh.length ca, .slice D a.da.length cd] 25)) 25 #[.bool b.ch, .slice A' b.sh.length ca', .slice D' b.da.length cd']).alloc (.cells #[.bool false, .slice none 0 0, .slice none 0 0] 25)
  have bR0 := Box.new ((w.alloc (.cells #[.bool a.ch, .slice A a.sh.length ca, .slice D a.da.length cd] 25)).alloc (.cells #[.bool b.ch, .slice A' b.sh.length ca', .slice D' b.da.length cd'] 25)) 25 #[.bool false, .slice none 0 0, .slice none 0 0]
  simp only [World.size_alloc] at bB0 bR0
  have hb0 := below_three w (.cells #[.bool a.ch, .slice A a.sh.length ca, .slice D a.da.length cd] 25) (.cells #[.bool b.ch, .slice A' b.sh.length ca', .slice D' b.da.length cd'] 25) (.cells #[.bool false, .slice none 0 0, .slice none 0 0] 25)
  obtain ⟨t0, t1, t2⟩ := bA0.three
  obtain ⟨u0, u1, u2⟩ := bB0.three
  go_enter Tryz.func185, Tryz.ntmps185
  go_wp2_with fail
  refine (scheck_any (ha.mono hb0) (hb.mono hb0)).mono ?_
  rintro e w1 ⟨rfl, hb1⟩
  rw [H.out, errV_zero]
  have bR1 := bR0.below hb1
  have bA1 := bA0.below hb1
  have bB1 := bB0.below hb1
  have hbw := hb0.trans (hb1.mono hb0.size)
  clear hb1 bR0 bA0 bB0 t0 t1 t2 u0 u1 u2
  obtain ⟨t0, t1, t2⟩ := bA1.three
  obtain ⟨u0, u1, u2⟩ := bB1.three
  go_wp2_with fail
  refine (firsts_any (ha.mono hbw) HW.out hl).mono ?_
  rintro e w2 ⟨gm, rfl, hgm, hfm, hb2⟩
  have bR2 := bR1.below hb2
  have bA2 := bA1.below hb2
  have bB2 := bB1.below hb2
  have hbw2 := hbw.trans (hb2.mono hbw.size)
  clear hb2 bR1 bA1 bB1 t0 t1 t2 u0 u1 u2 hbw
  obtain ⟨t0, t1, t2⟩ := bA2.three
  obtain ⟨u0, u1, u2⟩ := bB2.three
  have hzA := bA2.lt
  have hzB := bB2.lt
  have hzR := bR2.lt
  go_wp2_with fail
  refine (clone_any _ b.sh _ (HS.out.mono hbw2)).mono ?_
  rintro e w3 ⟨A1, c1, rfl, ho3, hb3⟩
  have bA3 := bA2.below hb3
  have bB3 := bB2.below hb3
  obtain ⟨t0, t1, t2⟩ := (bA3.alloc (.cells #[.bool false, .slice A1 b.sh.length c1, .slice none 0 0] 25)).three
  obtain ⟨u0, u1, u2⟩ := (bB3.alloc (.cells #[.bool false, .slice A1 b.sh.length c1, .slice none 0 0] 25)).three
  have hx3 := index_len a b
  obtain ⟨X, eX⟩ : ∃ X, X = (index a b).da := ⟨_, rfl⟩
  rw [← eX] at hx3
  have HX := Lib.hid hx3
  have HEX := Lib.hid eX
  obtain ⟨g, hgw⟩ : ∃ g, g = w3.heap.size := ⟨_, rfl⟩
  have hge2 := hb3.size
  have bO : Box (w3.alloc (.cells #[.bool false, .slice A1 b.sh.length c1, .slice none 0 0] 25)) w3.heap.size 25 #[.bool false, .slice A1 b.sh.length c1, .slice none 0 0] := Box.new w3 25 _
  rw [← hgw] at bO
  have ho4 := ho3.alloc (.cells #[.bool false, .slice A1 b.sh.length c1, .slice none 0 0] 25)
  have hbl4 := hb3.alloc hb3.size (.cells #[.bool false, .slice A1 b.sh.length c1, .slice none 0 0] 25)
  have hsb : ∀ j, (Value.slice A1 b.sh.length c1).ownBlock = some j → j < g := fun j e => by have := (ho3.lt e).2; omega
  have HSB := Lib.hid hsb
  clear hx3 eX ho3 hsb
  go_wp2_with fail
  rw [← hgw]
  have hgw2 : w2.heap.size ≤ g := by omega
  clear hgw hge2
  have bA4 := bA2.below hbl4
  have bB4 := bB2.below hbl4
  clear bA3 bB3 bA4 bB4 t0 t1 t2 u0 u1 u2
  go_loopw [35] (fun i wr => ∃ (k : Nat) (A2 : Option Addr) (c2 : Nat), k ≤ b.da.length ∧ i = .int .i64 k ∧ Box wr g 25 #[.bool false, .slice A1 b.sh.length c1, .slice A2 k c2] ∧ Owns wr (g + 1) (.slice A2 k c2) k (X.take k) ∧
      Owns wr w2.heap.size (.slice A1 b.sh.length c1) b.sh.length b.sh ∧ Below w2.heap.size w2 wr) (fun i _ => b.da.length - (intOf i).toNat)
  case atStart => exact ⟨0, none, 0, Nat.zero_le _, rfl, bO, by rw [List.take_zero]; exact Owns.nil _ _, ho4, hbl4⟩
  case round =>
    clear bO ho4 hbl4 hb3
    obtain ⟨k, A2, c2, hk, rfl, h1, h2, h3, hbl⟩ := hrel
    have hsb := HSB.out
    rcases Nat.lt_or_ge k b.da.length with hlt | hge
    · obtain ⟨ad, x, rfl, hx, hal, hcx⟩ := Elems.later D4.out (hbw2.trans (hbl.mono hbw2.size)) hlt
      have hwx := HV.out.at_ hx
      obtain ⟨nm, Dm, hown, hti⟩ := hfm.mono hbl
      have hhas := hti.2.1 x hwx
      have hkey : keyOf Tryz.prog 3 (.int .i64 x) = some (.int .i64 x) := Maps.keyOf_int_mk Tryz.underlying3 hwx
      have hXk : X[k]? = some ((findN a b.ch x : Nat) : Int) := by rw [HEX.out]; exact index_at hx
      obtain ⟨t0, t1, t2⟩ := (bA2.below hbl).three
      obtain ⟨u0, u1, u2⟩ := (bB2.below hbl).three
      obtain ⟨g0, g1, g2⟩ := h1.three
      have gf := h1.frozen
      have gl := h1.lt
      have HXK0 := Lib.hid hXk
      have HTI := Lib.hid hti
      have HWX := Lib.hid hwx
      clear hx hti hwx hXk
      by_cases hm : x ∈ a.da
      · rw [decide_eq_true hm] at hhas
        have HM := Lib.hid hm
        clear hm
        by_cases hc : a.ch = b.ch
        · have e1 : (a.ch == b.ch) = true := by simp [hc]
          have e2 : (a.ch != b.ch) = false := by simp [hc]
          have HXK := Lib.hid (show X[k]? = some ((a.da.idxOf x : Nat) : Int) by rw [HXK0.out]; unfold findN; rw [if_pos (hasB_iff.2 ⟨HM.out, hc.symm⟩)])
          clear hc
          have H0 := Lib.hid (HTI.out.2.2 x HWX.out HM.out (.lit (.int .i64 0)))
          have hcx2 : ∀ c : Int, Dm.atKey (.int .i64 x) (.lit (.int .i64 0)) = .lit (.int .i64 c) → c = ((a.da.idxOf x : Nat) : Int) := fun c hat => by
            rw [H0.out] at hat
            injection hat with hat
            injection hat with _ hat
            exact hat.symm
          have HC2 := Lib.hid hcx2
          clear hcx2
          have HY := Lib.hid (show X.take (k + 1) = X.take k ++ [((a.da.idxOf x : Nat) : Int)] by rw [List.take_add_one, HXK.out]; rfl)
          go_wp2_with (first | (at_lookup; refine wpList_lookup_own_ok_int _ rfl _ _ 58 rfl 3 3 .i64 int_keys Tryz.underlying58 Tryz.underlying3 (int_zero _) gm nm _ rfl hown _ _ rfl hkey ?_; intro c hat hwc; rw [hhas]; obtain rfl := HC2.out _ hat) | (at_builtin; refine wpList_append_ints _ rfl rfl _ _ rfl (g + 1) k _ (X.take k) rfl (h2.alloc _) (some ⟨wr.heap.size, 0, none⟩) 1 1 [((a.da.idxOf x : Nat) : Int)] rfl (by simp) (elems_new wr _) rfl (by omega) (by simp; omega) ?_; intro A4 c4 w4 hown4 hgrow4 hat4; have b4 := Box.grown (w := wr.alloc _) (h1.alloc _) hgrow4 (h2.ne_box h1 (by decide)); have hc4 := b4.three.2.2; have hf4 := b4.frozen 2))
          go_roundw
          case rel =>
            obtain ⟨r1, r2, r3, r4⟩ := index_step (o := .cells #[.int .i64 ((a.da.idxOf x : Nat) : Int)] 3) h1 h2 h3 hsb hbl hgw2 hgrow4 hown4
            exact ⟨k + 1, A4, c4, by omega, by go_num, r1, by rw [HY.out]; exact r2, r3, r4⟩
          case measure => simp [intOf]; omega
        · have e1 : (a.ch == b.ch) = false := by simp [hc]
          have e2 : (a.ch != b.ch) = true := by simp [hc]
          have HXK := Lib.hid (show X[k]? = some ((a.da.length : Nat) : Int) by rw [HXK0.out]; unfold findN; rw [if_neg (fun h => hc (hasB_iff.1 h).2.symm)])
          clear hc
          have HY := Lib.hid (show X.take (k + 1) = X.take k ++ [((a.da.length : Nat) : Int)] by rw [List.take_add_one, HXK.out]; rfl)
          go_wp2_with (first | (at_lookup; refine wpList_lookup_own_ok_int _ rfl _ _ 58 rfl 3 3 .i64 int_keys Tryz.underlying58 Tryz.underlying3 (int_zero _) gm nm _ rfl hown _ _ rfl hkey ?_; intro c hat hwc; rw [hhas]) | (at_builtin; refine wpList_append_ints _ rfl rfl _ _ rfl (g + 1) k _ (X.take k) rfl (h2.alloc _) (some ⟨wr.heap.size, 0, none⟩) 1 1 [((a.da.length : Nat) : Int)] rfl (by simp) (elems_new wr _) rfl (by omega) (by simp; omega) ?_; intro A4 c4 w4 hown4 hgrow4 hat4; have b4 := Box.grown (w := wr.alloc _) (h1.alloc _) hgrow4 (h2.ne_box h1 (by decide)); have hc4 := b4.three.2.2; have hf4 := b4.frozen 2))
          go_roundw
          case rel =>
            obtain ⟨r1, r2, r3, r4⟩ := index_step (o := .cells #[.int .i64 ((a.da.length : Nat) : Int)] 3) h1 h2 h3 hsb hbl hgw2 hgrow4 hown4
            exact ⟨k + 1, A4, c4, by omega, by go_num, r1, by rw [HY.out]; exact r2, r3, r4⟩
          case measure => simp [intOf]; omega
      · rw [decide_eq_false hm] at hhas
        have HXK := Lib.hid (show X[k]? = some ((a.da.length : Nat) : Int) by rw [HXK0.out]; unfold findN; rw [if_neg (fun h => hm (hasB_iff.1 h).1)])
        clear hm
        have HY := Lib.hid (show X.take (k + 1) = X.take k ++ [((a.da.length : Nat) : Int)] by rw [List.take_add_one, HXK.out]; rfl)
        go_wp2_with (first | (at_lookup; refine wpList_lookup_own_ok_int _ rfl _ _ 58 rfl 3 3 .i64 int_keys Tryz.underlying58 Tryz.underlying3 (int_zero _) gm nm _ rfl hown _ _ rfl hkey ?_; intro c hat hwc; rw [hhas]) | (at_builtin; refine wpList_append_ints _ rfl rfl _ _ rfl (g + 1) k _ (X.take k) rfl (h2.alloc _) (some ⟨wr.heap.size, 0, none⟩) 1 1 [((a.da.length : Nat) : Int)] rfl (by simp) (elems_new wr _) rfl (by omega) (by simp; omega) ?_; intro A4 c4 w4 hown4 hgrow4 hat4; have b4 := Box.grown (w := wr.alloc _) (h1.alloc _) hgrow4 (h2.ne_box h1 (by decide)); have hc4 := b4.three.2.2; have hf4 := b4.frozen 2))
        go_roundw
        case rel =>
          obtain ⟨r1, r2, r3, r4⟩ := index_step (o := .cells #[.int .i64 ((a.da.length : Nat) : Int)] 3) h1 h2 h3 hsb hbl hgw2 hgrow4 hown4
          exact ⟨k + 1, A4, c4, by omega, by go_num, r1, by rw [HY.out]; exact r2, r3, r4⟩
        case measure => simp [intOf]; omega
    · have hke : k = b.da.length := by omega
      subst hke
      have hfx : X.take b.da.length = (index a b).da := by rw [← HX.out, List.take_length]; exact HEX.out
      rw [hfx] at h2
      have iS := h3.isInts
      have iD := h2.isInts
      have bR3 := bR2.below hbl
      have hbw3 := hbw2.trans (hbl.mono hbw2.size)
      obtain ⟨g0, g1, g2⟩ := h1.three
      have hgl := h1.lt
      have zl := bR3.lt
      obtain ⟨z0, z1, z2⟩ := bR3.three
      have zf := bR3.frozen
      have hia : IsArr wr (.agg #[.bool false, .slice A1 b.sh.length c1, .slice A2 b.da.length c2]) (index a b) := ⟨_, _, rfl, iS, iD⟩
      have HNV := Lib.hid (newV (b := false) (h3.from_ (B' := w.heap.size) (by have := hbw2.size; omega)) (h2.from_ (B' := w.heap.size) (by have := hbw2.size; omega)))
      clear hfx iS iD h2 h3
      have HIA := Lib.hid hia
      clear hia
      go_wp2_with fail
      refine bodyPost_ret (v := .tuple #[.agg #[.bool false, .slice A1 b.sh.length c1, .slice A2 b.da.length c2], .nilIface]) (by simp [results, Tryz.results185, go_sem, zl, z0, z1, z2]; first | done | rfl | exact ⟨rfl, rfl, rfl⟩) rfl ?_
      exact ⟨_, rfl, HIA.out.stored bR3 _ _ _, by have := hbw3.size; go_grown, HNV.out⟩

end Go.Proofs.YtihndbkaoejnnaaGreatDoor
