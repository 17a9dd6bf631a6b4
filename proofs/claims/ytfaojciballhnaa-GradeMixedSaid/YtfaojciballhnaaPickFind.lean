/- The walk of pick.find. Conditions: none. -/
import Derived.Test.YtfaojciballhnaaPickCheck
import Derived.Test.YtfaojciballhnaaPickPlain
import Derived.Test.YtfaojciballhnaaMoved
set_option linter.unusedSimpArgs false
set_option linter.unusedVariables false
namespace Go.Proofs.Ytfaojciballhnaa
open Go Go.RowKit Go.Proofs.Ytfaojciballhnaa.P

theorem addr_next (ad : Addr) (j i : Nat) : (⟨(ad.add j).block, (ad.add j).off + (i + 1), none⟩ : Addr) = ad.add (j + (i + 1)) := by
  unfold Addr.add
  rw [if_neg (show ¬ j + (i + 1) = 0 by omega)]
  by_cases h : j = 0
  · subst h; simp
  · rw [if_neg h]; simp [Nat.add_assoc]
theorem arr_later {w wr : World} {A : Option Addr} {us : List Value} {bs : List Arr} (h : AllCells w us bs) (hc : CellsAt w A us) (hb : Below w.heap.size w wr) {k : Nat} {b : Arr} (hk : bs[k]? = some b) :
    ∃ ad S cs D cd, A = some ad ∧ ad.block < w.heap.size ∧ wr.cell? (ad.add (k * 3)) = some (.bool b.ch) ∧ wr.cell? ⟨(ad.add (k * 3)).block, (ad.add (k * 3)).off + 1, none⟩ = some (.slice S b.sh.length cs) ∧ wr.cell? ⟨(ad.add (k * 3)).block, (ad.add (k * 3)).off + 2, none⟩ = some (.slice D b.da.length cd) ∧
      IsInts wr (.slice S b.sh.length cs) b.sh ∧ IsInts wr (.slice D b.da.length cd) b.da := by
  obtain ⟨S, cs, D, cd, h1, h2, h3, h4, h5⟩ := h.2.2 k b hk
  obtain ⟨ad, e, hl, c1⟩ := hc _ _ h1
  obtain ⟨ad2, e2, hl2, c2⟩ := hc _ _ h2
  obtain ⟨ad3, e3, hl3, c3⟩ := hc _ _ h3
  rw [e] at e2 e3
  injection e2 with e2
  injection e3 with e3
  subst e2 e3
  refine ⟨ad, S, cs, D, cd, e, hl, (hb.cell (by rw [addr_block_add]; exact hl)).trans c1, ?_, ?_, h4.mono hb, h5.mono hb⟩
  · rw [addr_next ad (k * 3) 0]; exact (hb.cell (by rw [addr_block_add]; exact hl)).trans c2
  · rw [addr_next ad (k * 3) 1]; exact (hb.cell (by rw [addr_block_add]; exact hl)).trans c3

/-- What pick.find answers. -/
def Finds (t : List Nat) (bs : List Arr) (w : World) (e : Ending) (w' : World) : Prop :=
  ∃ A n c D m d, e = .returned (.tuple #[.agg #[.slice A n c, .slice D m d], errV (pickErr t bs)]) ∧ Below w.heap.size w w' ∧
    (pickErr t bs = 0 → n = (catSh bs).length ∧ m = (placesOf t bs).length ∧ Owns w' w.heap.size (.slice A n c) n (catSh bs) ∧ Owns w' w.heap.size (.slice D m d) m (placesOf t bs))
theorem Finds.bad {t : List Nat} {bs : List Arr} {w w' : World} {A D : Option Addr} {n c m d : Nat} {k : Int} (hk : pickErr t bs = k) (h0 : k ≠ 0) (hb : Below w.heap.size w w') :
    Finds t bs w (.returned (.tuple #[.agg #[.slice A n c, .slice D m d], .iface 56 (.int .i64 k)])) w' :=
  ⟨A, n, c, D, m, d, by rw [hk, errV_ne h0], hb, fun h => absurd (hk.symm.trans h) h0⟩

/-- What the walk of find keeps. -/
def FInv (w : World) (a : Arr) (A : Option Addr) (ca : Nat) (D : Option Addr) (cd : Nat) (vs va : Value) (wr : World) : Prop :=
  Box wr w.heap.size 24 #[.bool a.ch, .slice A a.sh.length ca, .slice D a.da.length cd] ∧ Box wr (w.heap.size + 1) 59 #[.slice none 0 0, .slice none 0 0] ∧
    Box wr (w.heap.size + 1 + 1) 59 #[vs, va] ∧ Below w.heap.size w wr

theorem Box.two_put {w : World} {g : Nat} {t : TypeId} {u v : Value} (h : Box w g t #[u, v]) (x y : Value) : Box ((w.setCell ⟨g, 0, none⟩ x).setCell ⟨g, 1, none⟩ y) g t #[x, y] := by
  have s := (h.store 0 x).store 1 y
  simp only [List.setIfInBounds_toArray, List.set_cons_zero, List.set_cons_succ] at s
  exact s
theorem FInv.put0 {w wr w4 : World} {a : Arr} {A : Option Addr} {ca : Nat} {D : Option Addr} {cd : Nat} {A2 A4 : Option Addr} {n m c2 c4 : Nat} {va : Value} {xs ys : List Int} {o : Obj}
    (h : FInv w a A ca D cd (.slice A2 n c2) va wr) (hown : Owns wr (w.heap.size + 3) (.slice A2 n c2) n xs) (hgrow : (wr.alloc o).grownBy w4 (Value.slice A2 n c2).ownBlock) (hown4 : Owns w4 (w.heap.size + 3) (.slice A4 m c4) m ys) :
    FInv w a A ca D cd (.slice A4 m c4) va (w4.setCell ⟨w.heap.size + 1 + 1, 0, none⟩ (.slice A4 m c4)) ∧ Owns (w4.setCell ⟨w.heap.size + 1 + 1, 0, none⟩ (.slice A4 m c4)) (w.heap.size + 3) (.slice A4 m c4) m ys := by
  obtain ⟨h1, h2, h3, h4⟩ := h
  have b1 := Box.grown (w := wr.alloc o) (h1.alloc o) hgrow (hown.ne_low (by omega))
  have b2 := Box.grown (w := wr.alloc o) (h2.alloc o) hgrow (hown.ne_low (by omega))
  have b3 := Box.grown (w := wr.alloc o) (h3.alloc o) hgrow (hown.ne_low (by omega))
  have s := b3.store 0 (.slice A4 m c4)
  simp only [List.setIfInBounds_toArray, List.set_cons_zero] at s
  exact ⟨⟨b1.far (p := ⟨w.heap.size + 1 + 1, 0, none⟩) (by simp; omega) _, b2.far (p := ⟨w.heap.size + 1 + 1, 0, none⟩) (by simp) _, s,
    ((h4.alloc h4.size o).grown hgrow (by have := h4.size; simp; omega) (fun j e => by have := (hown.lt e).1; omega)).setCell (p := ⟨w.heap.size + 1 + 1, 0, none⟩) (by simp; omega) _⟩,
    hown4.setCell (p := ⟨w.heap.size + 1 + 1, 0, none⟩) (hown4.ne_low (by simp)) _⟩

theorem FInv.below {w wr w' : World} {a : Arr} {A : Option Addr} {ca : Nat} {D : Option Addr} {cd : Nat} {vs va : Value} (h : FInv w a A ca D cd vs va wr) (hb : Below wr.heap.size wr w') : FInv w a A ca D cd vs va w' :=
  ⟨h.1.below hb, h.2.1.below hb, h.2.2.1.below hb, h.2.2.2.trans (hb.mono h.2.2.2.size)⟩

theorem FInv.put1 {w W : World} {a : Arr} {A : Option Addr} {ca : Nat} {D : Option Addr} {cd : Nat} {vs va : Value} (h : FInv w a A ca D cd vs va W) (x : Value) : FInv w a A ca D cd vs x (W.setCell ⟨w.heap.size + 1 + 1, 1, none⟩ x) := by
  obtain ⟨h1, h2, h3, h4⟩ := h
  have s := h3.store 1 x
  simp only [List.setIfInBounds_toArray, List.set_cons_zero, List.set_cons_succ] at s
  exact ⟨h1.far (p := ⟨w.heap.size + 1 + 1, 1, none⟩) (by simp; omega) _, h2.far (p := ⟨w.heap.size + 1 + 1, 1, none⟩) (by simp) _, s, h4.setCell (p := ⟨w.heap.size + 1 + 1, 1, none⟩) (by simp; omega) _⟩
theorem owns_one {w : World} {g B : Nat} {x : Int} (h : Box w g 3 #[.int .i64 x]) (hB : B ≤ g) : Owns w B (.slice (some ⟨g, 0, none⟩) 1 1) 1 [x] :=
  ⟨⟨rfl, .inr ⟨g, 1, #[.int .i64 x], rfl, hB, h, Nat.le_refl _, by unfold maxLen; omega, rfl, rfl⟩⟩, by omega⟩
theorem pick_none {t : List Nat} {bs : List Arr} (h1 : bs.length = t.length) (h2 : bs.any (·.ch) = false) (h3 : cntErr (catSh bs) = 0) (h4 : idxBad t bs = false) : pickErr t bs = 0 := by
  unfold pickErr
  rw [if_neg (fun h => h h1), if_neg (by rw [h2]; simp), if_neg (by rw [h3]; simp), if_neg (by rw [h4]; simp)]

set_option maxRecDepth 100000 in
set_option maxHeartbeats 4000000 in
theorem pick_find {va vb : Value} {a : Arr} {t : List Nat} {bs : List Arr} {w : World} (ha : IsArr w va a) (hb : IsArrs w vb bs) (h : Ok a t) (hg : ∀ b ∈ bs, ∃ s, Ok b s) :
    Calls Try.prog 29 #[va, vb] w (Finds t bs w) := by
  obtain ⟨A, ca, D, cd, rfl, hs, hd⟩ := ha.open_
  obtain ⟨B, cb, ub, rfl, b1, b2, b3, b4, b5, b6⟩ := id hb
  have HB4 := Lib.hid b4
  have HB5 := Lib.hid b5
  have HB6 := Lib.hid b6
  have HG := Lib.hid hg
  have H := Lib.hid h
  have HLT := Lib.hid (show a.sh.length = t.length by rw [h.sh, length_ints])
  have hal6 : a.sh.length ≤ 6 := by rw [HLT.out]; exact h.good.1
  obtain ⟨A0, ca0, eA, a1, a2, a3, a0, a4⟩ := id hs
  cases eA
  have HA := Lib.hid (show Elems w A a.sh from a4)
  have fin : FInv w a A ca D cd (.slice none 0 0) (.slice none 0 0) (((w.alloc (.cells #[.bool a.ch, .slice A a.sh.length ca, .slice D a.da.length cd] 24)).alloc (.cells #[.slice none 0 0, .slice none 0 0] 59)).alloc (.cells #[.slice none 0 0, .slice none 0 0] 59)) :=
    ⟨((Box.new _ _ _).alloc _).alloc _, (by simpa using (Box.new (w.alloc _) 59 #[.slice none 0 0, .slice none 0 0]).alloc _), (by simpa using Box.new ((w.alloc _).alloc _) 59 #[.slice none 0 0, .slice none 0 0]), below_three _ _ _ _⟩
  have FIN := Lib.hid fin
  obtain ⟨z1, z2, z3, z4⟩ := fin
  obtain ⟨t0, t1, t2⟩ := z1.three
  obtain ⟨r0, r1⟩ := z2.two
  obtain ⟨p0, p1⟩ := z3.two
  clear a0 a4 z1 z2 z3 z4 b4 b5 b6 hg h hs hd hb ha
  by_cases hlen : bs.length = a.sh.length
  · have hlb : ((bs.length : Int) != (a.sh.length : Int)) = false := by rw [hlen]; simp
    have HLEN := Lib.hid hlen
    clear hlen
    go_enter Try.func29, Try.ntmps29
    go_wp2_with fail
    go_loopw [32] (fun s32 wr => ∃ (k n : Nat) (A2 : Option Addr) (c2 : Nat), k ≤ bs.length ∧ n ≤ k * 6 ∧ s32 = .int .i64 k ∧ (∀ b ∈ bs.take k, b.ch = false) ∧ FInv w a A ca D cd (.slice A2 n c2) (.slice none 0 0) wr ∧ Owns wr (w.heap.size + 3) (.slice A2 n c2) n (catSh (bs.take k))) (fun s32 _ => bs.length - (intOf s32).toNat)
    case atStart => exact ⟨0, 0, none, 0, Nat.zero_le _, Nat.zero_le _, rfl, by simp, FIN.out, by rw [List.take_zero]; exact Owns.nil _ _⟩
    case round =>
      clear t0 t1 t2 r0 r1 p0 p1 FIN
      obtain ⟨k, n, A2, c2, hk, hn6, rfl, hch, ⟨i1, i2, i3, i4⟩, hown⟩ := hrel
      have HCH := Lib.hid hch
      clear hch
      obtain ⟨p0, p1⟩ := i3.two
      have hsz := i4.size
      have hlt3 := i3.lt
      rcases Nat.lt_or_ge k bs.length with hlt | hge
      · obtain ⟨b, hb⟩ : ∃ b, bs[k]? = some b := ⟨_, List.getElem?_eq_getElem hlt⟩
        obtain ⟨ad, S, c1', D1, c2', rfl, hadl, f0, f1, f2, g1, g2⟩ := arr_later HB5.out HB6.out i4 hb
        obtain ⟨s, hbs⟩ := HG.out b (List.mem_of_getElem? hb)
        have hbl6 : b.sh.length ≤ 6 := by rw [hbs.sh, length_ints]; exact hbs.good.1
        have HBK := Lib.hid hb
        have HBS := Lib.hid hbs
        have G1 := Lib.hid g1
        obtain ⟨S0, cs0, eS, s1, s2, s3, s4, s5⟩ := id g1
        cases eS
        have S4 := Lib.hid s4
        have S5 := Lib.hid (show Elems wr S b.sh from s5)
        clear hb hbs g1 g2 s4 s5
        cases hc : b.ch
        · have HC := Lib.hid hc
          rw [hc] at f0
          clear hc
          have i3' := i3.alloc (.cells #[.bool false, .slice S b.sh.length c1', .slice D1 b.da.length c2'] 24)
          obtain ⟨q0, q1⟩ := i3'.two
          obtain ⟨l0, l1, l2⟩ := (Box.new wr 24 #[.bool false, .slice S b.sh.length c1', .slice D1 b.da.length c2']).three
          go_wp2_with (at_builtin; refine wpList_append_ints _ rfl rfl _ _ rfl (w.heap.size + 3) n _ (catSh (bs.take k)) rfl (hown.alloc _) S b.sh.length c1' b.sh rfl S4.out (Elems.mono S5.out (below_one _ _)) rfl (by omega) (by simp; omega) ?_; intro A4 c4 w4 hown4 hgrow4 hat4; have b4 := Box.grown i3' hgrow4 (hown.ne_box i3 (by decide)); obtain ⟨x0, x1⟩ := b4.two; have xl := b4.lt; have xf := b4.frozen)
          go_roundw
          case rel =>
            obtain ⟨j1, j2⟩ := FInv.put0 ⟨i1, i2, i3, i4⟩ hown hgrow4 hown4
            refine ⟨k + 1, n + b.sh.length, A4, c4, by omega, by omega, by go_num, fun x hx => ?_, j1, by rw [catSh_take HBK.out]; exact j2⟩
            rw [List.take_add_one, HBK.out] at hx
            rcases List.mem_append.1 hx with hx | hx
            · exact HCH.out x hx
            · simp at hx; rw [hx]; exact HC.out
          case measure => simp [intOf]; omega
        · have HC := Lib.hid hc
          rw [hc] at f0
          clear hc
          have i3' := i3.alloc (.cells #[.bool true, .slice S b.sh.length c1', .slice D1 b.da.length c2'] 24)
          have i2' := i2.alloc (.cells #[.bool true, .slice S b.sh.length c1', .slice D1 b.da.length c2'] 24)
          obtain ⟨q0, q1⟩ := i3'.two
          obtain ⟨v0, v1⟩ := i2'.two
          obtain ⟨l0, l1, l2⟩ := (Box.new wr 24 #[.bool true, .slice S b.sh.length c1', .slice D1 b.da.length c2']).three
          have vf := i2'.frozen
          go_wp2_with fail
          have z := i2'.two_put (.slice A2 n c2) (.slice none 0 0)
          obtain ⟨z0, z1⟩ := z.two
          have zl := z.lt
          refine bodyPost_ret (v := .tuple #[.agg #[.slice A2 n c2, .slice none 0 0], .iface 56 (.int .i64 6)]) (by simp [results, Try.results29, go_sem, z0, z1, zl]) rfl ?_
          refine Finds.bad ?_ (by decide) (((i4.alloc hsz _).setCell (p := ⟨w.heap.size + 1, 0, none⟩) (by simp) _).setCell (p := ⟨w.heap.size + 1, 1, none⟩) (by simp) _)
          unfold pickErr
          rw [if_neg (by rw [← HLT.out]; exact fun h => h HLEN.out), if_pos (List.any_eq_true.2 ⟨b, List.mem_of_getElem? HBK.out, HC.out⟩)]
      · have hke : k = bs.length := by omega
        subst hke
        have hn36 : n ≤ 36 := by have := HLEN.out; omega
        rw [List.take_length] at hown
        have HCA := Lib.hid (show bs.any (·.ch) = false by rw [List.any_eq_false]; intro x hx; rw [HCH.out x (by rwa [List.take_length])]; simp)
        have HN := Lib.hid hown.length
        have OWN := Lib.hid hown
        have FI := Lib.hid (show FInv w a A ca D cd (.slice A2 n c2) (.slice none 0 0) wr from ⟨i1, i2, i3, i4⟩)
        clear HCH hown hge hk hn6
        go_wp2_with fail
        refine (count_any _ (catSh bs) wr OWN.out.isInts).mono ?_
        rintro e w1 ⟨rfl, rfl⟩
        obtain ⟨r0, r1⟩ := i2.two
        have rf := i2.frozen
        by_cases ce : cntErr (catSh bs) = 0
        · have CE := Lib.hid ce
          rw [ce, errV_zero]
          obtain ⟨V, hV⟩ : ∃ V, V = cntVal (catSh bs) := ⟨_, rfl⟩
          rw [← hV]
          have HV := Lib.hid hV
          clear ce hV r0 r1 rf
          clear p0 p1 i1 i2 i3 i4
          go_wp2_with fail
          obtain ⟨w1, hw1⟩ : ∃ w1 : World, w1 = wr := ⟨_, rfl⟩
          rw [← hw1] at FI OWN hsz hlt3
          go_loopw [59] (fun s59 wi => ∃ k : Nat, k ≤ bs.length ∧ s59 = .int .i64 k ∧ IdxTo t bs k ∧ Below w1.heap.size w1 wi) (fun s59 _ => bs.length - (intOf s59).toNat)
          case atStart => exact ⟨0, Nat.zero_le _, rfl, IdxTo.zero _ _, by rw [hw1]; exact Below.refl _ _⟩
          case round =>
            clear hw1
            obtain ⟨k, hk, rfl, hix, hbl⟩ := hrel
            have HIX := Lib.hid hix
            clear hix
            obtain ⟨i1, i2, i3, i4⟩ := FI.out.below hbl
            have FI2 := Lib.hid (FI.out.below hbl)
            rcases Nat.lt_or_ge k bs.length with hlt | hge
            · obtain ⟨b, hb⟩ : ∃ b, bs[k]? = some b := ⟨_, List.getElem?_eq_getElem hlt⟩
              obtain ⟨ad, S, c1', D1, c2', rfl, hadl, f0, f1, f2, g1, g2⟩ := arr_later HB5.out HB6.out i4 hb
              have hka : k < a.sh.length := by rw [← HLEN.out]; exact hlt
              obtain ⟨n0, hn0⟩ : ∃ n0, t[k]? = some n0 := ⟨_, List.getElem?_eq_getElem (by rw [← HLT.out]; exact hka)⟩
              obtain ⟨ad2, x2, rfl, hx2, hal2, hcx2⟩ := Elems.later HA.out (i4.trans ((below_one wr (.cells #[.bool b.ch, .slice S b.sh.length c1', .slice D1 b.da.length c2'] 24)).mono i4.size)) hka
              have hxn : x2 = (n0 : Int) := by
                have := hx2
                rw [H.out.sh, ints, List.getElem?_map, hn0] at this
                simpa using this.symm
              subst hxn
              have HN0 := Lib.hid hn0
              have HBK := Lib.hid hb
              obtain ⟨D0, cd0, eD, d1, d2, d3, d4, d5⟩ := id g2
              cases eD
              have D5 := Lib.hid (show Elems _ D1 b.da from d5)
              have o1 := i1.alloc (.cells #[.bool b.ch, .slice S b.sh.length c1', .slice D1 b.da.length c2'] 24)
              have o2 := i2.alloc (.cells #[.bool b.ch, .slice S b.sh.length c1', .slice D1 b.da.length c2'] 24)
              obtain ⟨t0, t1, t2⟩ := o1.three
              obtain ⟨r0, r1⟩ := o2.two
              have rf := o2.frozen
              obtain ⟨l0, l1, l2⟩ := (Box.new wr 24 #[.bool b.ch, .slice S b.sh.length c1', .slice D1 b.da.length c2']).three
              clear hb hn0 hx2 g1 g2 d4 d5 i1 i2 i3
              go_wp2_with fail
              go_loop [67] (fun s67 => ∃ j : Nat, j ≤ b.da.length ∧ s67 = .int .i64 j ∧ RowTo n0 b.da j) (fun s67 => b.da.length - (intOf s67).toNat)
              case atStart => exact ⟨0, Nat.zero_le _, rfl, RowTo.zero _ _⟩
              case round =>
                obtain ⟨j, hj, rfl, hrt⟩ := hrel
                have HRT := Lib.hid hrt
                clear hrt
                rcases Nat.lt_or_ge j b.da.length with hltj | hgej
                · obtain ⟨ad3, x3, rfl, hx3, hal3, hcx3⟩ := Elems.later D5.out (below_one wr (.cells #[.bool b.ch, .slice S b.sh.length c1', .slice D1 b.da.length c2'] 24)) hltj
                  have HX3 := Lib.hid hx3
                  clear hx3
                  rcases Int.lt_or_le x3 0 with h0 | h0
                  · go_wp2_with fail
                    have z := (FI2.out.2.1.alloc (.cells #[.bool b.ch, .slice S b.sh.length c1', .slice (some ad3) b.da.length c2'] 24)).two_put (.slice none 0 0) (.slice none 0 0)
                    obtain ⟨z0, z1⟩ := z.two
                    have zl := z.lt
                    refine bodyPost_ret (v := .tuple #[.agg #[.slice none 0 0, .slice none 0 0], .iface 56 (.int .i64 5)]) (by simp [results, Try.results29, go_sem, z0, z1, zl]) rfl ?_
                    refine Finds.bad ?_ (by decide) (((i4.alloc i4.size _).setCell (p := ⟨w.heap.size + 1, 0, none⟩) (by simp) _).setCell (p := ⟨w.heap.size + 1, 1, none⟩) (by simp) _)
                    unfold pickErr
                    rw [if_neg (by rw [← HLT.out]; exact fun h => h HLEN.out), if_neg (by rw [HCA.out]; simp), if_neg (by rw [CE.out]; simp), if_pos (idxBad_hit HBK.out HN0.out HX3.out (.inl h0))]
                  · rcases Int.lt_or_le x3 n0 with h1 | h1
                    · go_wp2_with fail
                      go_round
                      case rel => exact ⟨j + 1, by omega, by go_num, HRT.out.succ HX3.out h0 h1⟩
                      case measure => simp [intOf]; omega
                    · go_wp2_with fail
                      have z := (FI2.out.2.1.alloc (.cells #[.bool b.ch, .slice S b.sh.length c1', .slice (some ad3) b.da.length c2'] 24)).two_put (.slice none 0 0) (.slice none 0 0)
                      obtain ⟨z0, z1⟩ := z.two
                      have zl := z.lt
                      refine bodyPost_ret (v := .tuple #[.agg #[.slice none 0 0, .slice none 0 0], .iface 56 (.int .i64 5)]) (by simp [results, Try.results29, go_sem, z0, z1, zl]) rfl ?_
                      refine Finds.bad ?_ (by decide) (((i4.alloc i4.size _).setCell (p := ⟨w.heap.size + 1, 0, none⟩) (by simp) _).setCell (p := ⟨w.heap.size + 1, 1, none⟩) (by simp) _)
                      unfold pickErr
                      rw [if_neg (by rw [← HLT.out]; exact fun h => h HLEN.out), if_neg (by rw [HCA.out]; simp), if_neg (by rw [CE.out]; simp), if_pos (idxBad_hit HBK.out HN0.out HX3.out (.inr h1))]
                · have hje : j = b.da.length := by omega
                  subst hje
                  go_wp2_with fail
                  go_roundw
                  case rel => exact ⟨k + 1, by omega, by go_num, HIX.out.succ HBK.out HN0.out HRT.out, hbl.trans ((below_one _ _).mono hbl.size)⟩
                  case measure => simp [intOf]; omega
            · have hke : k = bs.length := by omega
              subst hke
              have HIB := Lib.hid (HIX.out.ok (Nat.le_refl _))
              obtain ⟨p0, p1⟩ := i3.two
              obtain ⟨r0, r1⟩ := i2.two
              have rf := i2.frozen
              have HLB := Lib.hid (show bs.length = t.length by rw [← HLT.out]; exact HLEN.out)
              have PE := Lib.hid (pick_none HLB.out HCA.out CE.out HIB.out)
              have CV := Lib.hid (cat_val HG.out CE.out)
              have OW := Lib.hid (OWN.out.below hbl)
              by_cases hv0 : V = 0
              · have hvb : (V == 0) = true := by rw [hv0]; rfl
                have HP0 := Lib.hid (show prodLen bs = 0 by have := CV.out.1; rw [← HV.out, hv0] at this; omega)
                clear hv0 i1 i3 i4
                go_wp2_with fail
                have z := i2.two_put (.slice A2 n c2) (.slice none 0 0)
                obtain ⟨z0, z1⟩ := z.two
                have zl := z.lt
                refine bodyPost_ret (v := .tuple #[.agg #[.slice A2 n c2, .slice none 0 0], .nilIface]) (by simp [results, Try.results29, go_sem, z0, z1, zl]) rfl ?_
                refine ⟨_, _, _, _, _, _, by rw [PE.out]; rfl, ((FI2.out.2.2.2.setCell (p := ⟨w.heap.size + 1, 0, none⟩) (by simp) _).setCell (p := ⟨w.heap.size + 1, 1, none⟩) (by simp) _), fun _ => ⟨HN.out.symm, by rw [places_none HLB.out HP0.out]; rfl, ?_, ?_⟩⟩
                · exact ((OW.out.setCell (p := ⟨w.heap.size + 1, 0, none⟩) (OW.out.ne_low (by simp)) _).setCell (p := ⟨w.heap.size + 1, 1, none⟩) (OW.out.ne_low (by simp)) _).base (by omega)
                · rw [places_none HLB.out HP0.out]; exact Owns.nil _ _
              · have hvb : (V == 0) = false := by rw [beq_eq_false_iff_ne]; exact hv0
                have HP0 := Lib.hid (show prodLen bs ≠ 0 by intro h0; have := CV.out.1; rw [← HV.out, h0] at this; exact hv0 (by omega))
                have T4 := Lib.hid H.out.good.2.2
                clear hv0 i1 i2 i4 p0 p1 r0 r1 rf
                have i3' := i3.alloc (.cells #[.int .i64 0] 3)
                obtain ⟨q0, q1⟩ := i3'.two
                have qf := i3'.frozen
                go_wp2_with fail
                obtain ⟨wo, rfl⟩ : ∃ wo : World, wo = wr := ⟨_, rfl⟩
                go_loopw [93] (fun s93 wi => ∃ (k m : Nat) (A5 : Option Addr) (c5 : Nat), k ≤ bs.length ∧ s93 = .int .i64 k ∧ FInv w a A ca D cd (.slice A2 n c2) (.slice A5 m c5) wi ∧ Owns wi (w.heap.size + 3) (.slice A2 n c2) n (catSh bs) ∧ Owns wi (w.heap.size + 3) (.slice A5 m c5) m (placesTo t bs k)) (fun s93 _ => bs.length - (intOf s93).toNat)
                case atStart => exact ⟨0, 1, some ⟨wo.heap.size, 0, none⟩, 1, Nat.zero_le _, rfl, (FI2.out.below (below_one wo (.cells #[.int .i64 0] 3))).put1 _, (OW.out.alloc _).setCell (p := ⟨w.heap.size + 1 + 1, 1, none⟩) (OW.out.ne_low (by simp)) _, owns_one ((Box.new wo 3 #[.int .i64 0]).far (p := ⟨w.heap.size + 1 + 1, 1, none⟩) (by have := FI2.out.2.2.1.lt; simp; omega) _) (by have := FI2.out.2.2.1.lt; omega)⟩
                case round =>
                  clear i3' q0 q1 qf OW FI2 hbl i3 HIX hlt3 hsz OWN FI
                  obtain ⟨k, m, A5, c5, hk, rfl, hfi, hoS, hoQ⟩ := hrel
                  have HF := Lib.hid hfi
                  have HOS := Lib.hid hoS
                  have HOQ := Lib.hid hoQ
                  obtain ⟨i1, i2, i3, i4⟩ := hfi
                  have hsz := i4.size
                  have hlt3 := i3.lt
                  clear hoS hoQ
                  rcases Nat.lt_or_ge k bs.length with hlt | hge
                  · obtain ⟨b, hb⟩ : ∃ b, bs[k]? = some b := ⟨_, List.getElem?_eq_getElem hlt⟩
                    obtain ⟨ad, S, c1', D1, c2', rfl, hadl, f0, f1, f2, g1, g2⟩ := arr_later HB5.out HB6.out i4 hb
                    have hka : k < a.sh.length := by rw [← HLEN.out]; exact hlt
                    obtain ⟨n0, hn0⟩ : ∃ n0, t[k]? = some n0 := ⟨_, List.getElem?_eq_getElem (by rw [← HLT.out]; exact hka)⟩
                    have HN0 := Lib.hid hn0
                    have HBK := Lib.hid hb
                    have hmq : m = prodLen (bs.take k) := by rw [← HOQ.out.length]; exact placesTo_len HLB.out hk
                    have hml : m * b.da.length ≤ 4096 := by rw [hmq, ← prodLen_take hb]; exact Nat.le_trans (prodLen_take_le HP0.out _) CV.out.2
                    have hdl : b.da.length ≤ 4096 := by obtain ⟨s, hs⟩ := HG.out b (List.mem_of_getElem? hb); rw [hs.len]; exact hs.good.2.2
                    have hm4 : m ≤ 4096 := by rw [hmq]; exact Nat.le_trans (prodLen_take_le HP0.out _) CV.out.2
                    have hml0 : 0 ≤ (m : Int) * (b.da.length : Int) := by rw [← Int.natCast_mul]; omega
                    have hml1 : (m : Int) * (b.da.length : Int) ≤ 4096 := by rw [← Int.natCast_mul]; omega
                    have hmk := run_make_ints (m * b.da.length) (by omega)
                    simp only [Int.natCast_mul] at hmk
                    obtain ⟨D0, cd0, eD, d1, d2, d3, d4, d5⟩ := id g2
                    cases eD
                    have D5 := Lib.hid (show Elems _ D1 b.da from d5)
                    have o1 := i1.alloc (.cells #[.bool b.ch, .slice S b.sh.length c1', .slice D1 b.da.length c2'] 24)
                    have o3 := i3.alloc (.cells #[.bool b.ch, .slice S b.sh.length c1', .slice D1 b.da.length c2'] 24)
                    have ob := (Box.new wr 24 #[.bool b.ch, .slice S b.sh.length c1', .slice D1 b.da.length c2'])
                    obtain ⟨p0, p1⟩ := o3.two
                    obtain ⟨pp0, pp1⟩ := (o3.alloc (.cells (madeCells #[.int .i64 0] (m * b.da.length)) 3)).two
                    obtain ⟨l0, l1, l2⟩ := ob.three
                    have HMQ := Lib.hid hmq
                    clear hb hn0 g1 g2 d4 d5 i1 i2 i3 hmq
                    go_wp2_with fail
                    obtain ⟨W2, hW2⟩ : ∃ W2 : World, W2 = wr.alloc (.cells #[.bool b.ch, .slice S b.sh.length c1', .slice D1 b.da.length c2'] 24) := ⟨_, rfl⟩
                    have hb2 := below_one wr (.cells #[.bool b.ch, .slice S b.sh.length c1', .slice D1 b.da.length c2'] 24)
                    have F2 := Lib.hid (HF.out.below hb2)
                    have S2 := Lib.hid (HOS.out.below hb2)
                    have Q2 := Lib.hid (HOQ.out.below hb2)
                    have E2 := Lib.hid (Elems.mono D5.out hb2)
                    have B2 := Lib.hid ob
                    rw [← hW2] at F2 S2 Q2 E2 B2
                    have hz2 : W2.heap.size = wr.heap.size + 1 := by rw [hW2]; simp
                    have QE := Lib.hid (Q2.out.isInts.elems)
                    have QL := Lib.hid Q2.out.length
                    have om : Owns ((wr.alloc (.cells #[.bool b.ch, .slice S b.sh.length c1', .slice D1 b.da.length c2'] 24)).alloc (.cells (madeCells #[.int .i64 0] (m * b.da.length)) 3)) W2.heap.size (.slice (some ⟨(wr.alloc (.cells #[.bool b.ch, .slice S b.sh.length c1', .slice D1 b.da.length c2'] 24)).heap.size, 0, none⟩) 0 (m * b.da.length)) 0 [] :=
                      ⟨World.ownsRow_made (wr.alloc (.cells #[.bool b.ch, .slice S b.sh.length c1', .slice D1 b.da.length c2'] 24)) (madeCells #[.int .i64 0] (m * b.da.length)) (m * b.da.length) (by rw [hW2]; exact Nat.le_refl _) (by unfold maxLen; omega) (by simp [size_madeCells]), by omega⟩
                    rw [World.size_alloc] at om
                    have OM := Lib.hid om
                    clear om
                    clear p0 p1 pp0 pp1 l0 l1 l2 o1 o3 ob f0 f1 f2 D5 hb2 hmk
                    obtain ⟨wo2, rfl⟩ : ∃ wo : World, wo = wr := ⟨_, rfl⟩
                    go_loopw [17, 109] (fun s17 s109 wi => ∃ (j : Nat) (A6 : Option Addr) (c6 : Nat), j ≤ m ∧ s109 = .int .i64 j ∧ s17 = .slice A6 (j * b.da.length) c6 ∧ Owns wi W2.heap.size (.slice A6 (j * b.da.length) c6) (j * b.da.length) (stepAt ((placesTo t bs k).take j) n0 b.da) ∧ Below W2.heap.size W2 wi) (fun _ s109 _ => m - (intOf s109).toNat)
                    case atStart =>
                      refine ⟨0, some ⟨wo2.heap.size + 1, 0, none⟩, m * b.da.length, Nat.zero_le _, rfl, by simp, ?_, by rw [hW2]; exact below_one _ _⟩
                      rw [Nat.zero_mul, List.take_zero]
                      exact OM.out
                    case round =>
                      obtain ⟨j, A6, c6, hj, rfl, rfl, hoN, hbl2⟩ := hrel
                      have HON := Lib.hid hoN
                      obtain ⟨i1, i2, i3, i4⟩ := F2.out.below hbl2
                      have hsz2 := hbl2.size
                      have hjd : j * b.da.length ≤ 4096 := Nat.le_trans (Nat.mul_le_mul_right _ hj) hml
                      obtain ⟨l0, l1, l2⟩ := (B2.out.below hbl2).three
                      clear hoN i1 i2
                      rcases Nat.lt_or_ge j m with hltj | hgej
                      · obtain ⟨ad4, q, rfl, hq, hal4, hcq⟩ := Elems.later QE.out hbl2 (k := j) (by rw [QL.out]; exact hltj)
                        have HQ := Lib.hid hq
                        clear hq i3
                        go_wp2_with fail
                        obtain ⟨wo3, rfl⟩ : ∃ wo : World, wo = wr := ⟨_, rfl⟩
                        go_loopw [17, 116] (fun s17 s116 wi => ∃ (i : Nat) (A7 : Option Addr) (c7 : Nat), i ≤ b.da.length ∧ s116 = .int .i64 i ∧ s17 = .slice A7 (j * b.da.length + i) c7 ∧ Owns wi W2.heap.size (.slice A7 (j * b.da.length + i) c7) (j * b.da.length + i) (stepAt ((placesTo t bs k).take j) n0 b.da ++ (b.da.take i).map fun i => q * n0 + i) ∧ Below W2.heap.size W2 wi) (fun _ s116 _ => b.da.length - (intOf s116).toNat)
                        case atStart => exact ⟨0, A6, c6, Nat.zero_le _, rfl, rfl, by rw [List.take_zero, List.map_nil, List.append_nil]; exact HON.out, hbl2⟩
                        case round =>
                          clear hbl2 hsz2 l0 l1 l2 hcq i4
                          obtain ⟨i, A7, c7, hi, rfl, rfl, hoN, hbl2⟩ := hrel
                          obtain ⟨i1, i2, i3, i4⟩ := F2.out.below hbl2
                          have hsz2 := hbl2.size
                          obtain ⟨t0, t1, t2⟩ := i1.three
                          rcases Nat.lt_or_ge i b.da.length with hlti | hgei
                          · obtain ⟨ad5, x, rfl, hx, hal5, hcx⟩ := Elems.later E2.out hbl2 hlti
                            obtain ⟨ad2, x2, rfl, hx2, hal2, hcx2⟩ := Elems.later HA.out i4 hka
                            have hxn : x2 = (n0 : Int) := by
                              have := hx2
                              rw [H.out.sh, ints, List.getElem?_map, HN0.out] at this
                              simpa using this.symm
                            subst hxn
                            have HX := Lib.hid hx
                            obtain ⟨y0, y1, y2, y3, y4, y5⟩ := step_small HLB.out HIB.out HP0.out T4.out HBK.out HN0.out (List.mem_of_getElem? HQ.out) (List.mem_of_getElem? hx)
                            have y6 : q * (n0 : Int) ≤ 4096 := by omega
                            clear hx hx2 i1 i2 i3
                            go_wp2_with (at_builtin; refine wpList_append_ints _ rfl rfl _ _ rfl W2.heap.size (j * b.da.length + i) _ _ rfl (hoN.alloc _) (some ⟨wr.heap.size, 0, none⟩) 1 1 [q * (n0 : Int) + x] rfl (by simp) (elems_new wr (q * (n0 : Int) + x)) rfl (by omega) (by simp; omega) ?_; intro A8 c8 w8 hown8 hgrow8 hat8)
                            go_roundw
                            case rel => exact ⟨i + 1, A8, c8, by omega, by go_num, rfl, by rw [map_take _ HX.out, ← List.append_assoc]; exact hown8, (hbl2.alloc hsz2 _).grown hgrow8 (by simp; omega) (fun j e => (hoN.lt e).1)⟩
                            case measure => simp [intOf]; omega
                          · have hie : i = b.da.length := by omega
                            subst hie
                            rw [List.take_length] at hoN
                            clear t0 t1 t2 i1 i2 i3
                            go_wp2_with fail
                            go_roundw
                            case rel => exact ⟨j + 1, A7, c7, by omega, by go_num, by rw [Nat.succ_mul], by rw [Nat.succ_mul, stepAt_take HQ.out]; exact hoN, hbl2⟩
                            case measure => simp [intOf]; omega
                      · have hje : j = m := by omega
                        subst hje
                        have qf := i3.frozen
                        obtain ⟨p0, p1⟩ := i3.two
                        clear i3
                        go_wp2_with fail
                        go_roundw
                        case rel =>
                          have hs2 := hbl2.size
                          have hoN := HON.out
                          rw [List.take_of_length_le (by rw [QL.out]; exact Nat.le_refl _), ← placesTo_succ HBK.out HN0.out] at hoN
                          exact ⟨k + 1, _, A6, c6, by omega, by go_num, (F2.out.below hbl2).put1 _, (S2.out.below hbl2).setCell (p := ⟨w.heap.size + 1 + 1, 1, none⟩) ((S2.out.below hbl2).ne_low (by simp)) _, (hoN.base (by omega)).setCell (p := ⟨w.heap.size + 1 + 1, 1, none⟩) ((hoN.base (B' := w.heap.size + 3) (by omega)).ne_low (by simp)) _⟩
                        case measure => simp [intOf]; omega
                  · have hke : k = bs.length := by omega
                    subst hke
                    obtain ⟨p0, p1⟩ := i3.two
                    obtain ⟨r0, r1⟩ := i2.two
                    have rf := i2.frozen
                    clear i1 i3 i4
                    go_wp2_with fail
                    have z := i2.two_put (.slice A2 n c2) (.slice A5 m c5)
                    obtain ⟨z0, z1⟩ := z.two
                    have zl := z.lt
                    refine bodyPost_ret (v := .tuple #[.agg #[.slice A2 n c2, .slice A5 m c5], .nilIface]) (by simp [results, Try.results29, go_sem, z0, z1, zl]) rfl ?_
                    refine ⟨_, _, _, _, _, _, by rw [PE.out]; rfl, ((HF.out.2.2.2.setCell (p := ⟨w.heap.size + 1, 0, none⟩) (by simp) _).setCell (p := ⟨w.heap.size + 1, 1, none⟩) (by simp) _), fun _ => ⟨HN.out.symm, by rw [← placesTo_all (Nat.le_refl _)]; exact HOQ.out.length.symm, ?_, ?_⟩⟩
                    · exact ((HOS.out.setCell (p := ⟨w.heap.size + 1, 0, none⟩) (HOS.out.ne_low (by simp)) _).setCell (p := ⟨w.heap.size + 1, 1, none⟩) (HOS.out.ne_low (by simp)) _).base (by omega)
                    · rw [← placesTo_all (Nat.le_refl _)]
                      exact ((HOQ.out.setCell (p := ⟨w.heap.size + 1, 0, none⟩) (HOQ.out.ne_low (by simp)) _).setCell (p := ⟨w.heap.size + 1, 1, none⟩) (HOQ.out.ne_low (by simp)) _).base (by omega)
        · have CE := Lib.hid ce
          rw [errV_ne ce]
          clear ce
          go_wp2_with fail
          have z := i2.two_put (.slice none 0 0) (.slice none 0 0)
          obtain ⟨z0, z1⟩ := z.two
          have zl := z.lt
          refine bodyPost_ret (v := .tuple #[.agg #[.slice none 0 0, .slice none 0 0], .iface 56 (.int .i64 (cntErr (catSh bs)))]) (by simp [results, Try.results29, go_sem, z0, z1, zl]) rfl ?_
          refine Finds.bad ?_ CE.out ((FI.out.2.2.2.setCell (p := ⟨w.heap.size + 1, 0, none⟩) (by simp) _).setCell (p := ⟨w.heap.size + 1, 1, none⟩) (by simp) _)
          unfold pickErr
          rw [if_neg (by rw [← HLT.out]; exact fun h => h HLEN.out), if_neg (by rw [HCA.out]; simp), if_pos CE.out]
  · have hlb : ((bs.length : Int) != (a.sh.length : Int)) = true := by rw [bne_iff_ne]; omega
    have hpe : pickErr t bs = 3 := by unfold pickErr; rw [if_pos (by rw [← HLT.out]; exact hlen)]
    have HPE := Lib.hid hpe
    clear hpe hlen
    go_enter Try.func29, Try.ntmps29
    go_wp2_with fail
    refine bodyPost_ret (v := .tuple #[.agg #[.slice none 0 0, .slice none 0 0], .iface 56 (.int .i64 3)]) (by simp [results, Try.results29, go_sem]) rfl ?_
    exact Finds.bad HPE.out (by decide) FIN.out.2.2.2

end Go.Proofs.Ytfaojciballhnaa
