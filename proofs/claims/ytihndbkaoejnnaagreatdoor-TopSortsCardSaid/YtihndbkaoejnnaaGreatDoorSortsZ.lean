/- What the card TopSorts leans on: Help, PickCheck, PickFind, PickAt, ChainsPlain, PickLaw, AllPlain. Conditions: none but those of its theorems. -/
import Derived.StillTailTactics
import Derived.Deep.RegionWith
import Derived.Deep.RegionLaw
import Derived.Test.YtihndbkaoejnnaaGreatDoorSortsX
import Derived.Test.YtihndbkaoejnnaaGreatDoorSortsE
import Derived.Test.YtihndbkaoejnnaaGreatDoorSortsC
import Derived.Test.YtihndbkaoejnnaaGreatDoorSortsG
import Derived.Test.YtihndbkaoejnnaaGreatDoorSortsR
import Derived.Test.YtihndbkaoejnnaaGreatDoorSortsY
set_option linter.unusedSimpArgs false
set_option linter.unusedVariables false
namespace Go.Proofs.YtihndbkaoejnnaaGreatDoor
open Go Go.RowKit Go.Proofs.YtihndbkaoejnnaaGreatDoor.P

theorem IsInts.elems {w : World} {A : Option Addr} {n c : Nat} {xs : List Int} (h : IsInts w (.slice A n c) xs) : Elems w A xs := by
  obtain ⟨A', c', e, h1, h2, h3, h4, h5⟩ := h
  injection e with e1 e2 e3
  subst e1
  exact h5

theorem IsArr.stored {w : World} {v : Value} {a : Arr} {b : Nat} {t : TypeId} (h : IsArr w v a) (hb : Box w b t #[.bool false, .slice none 0 0, .slice none 0 0]) (u0 u1 u2 : Value) :
    IsArr (((w.setCell ⟨b, 0, none⟩ u0).setCell ⟨b, 1, none⟩ u1).setCell ⟨b, 2, none⟩ u2) v a := by
  obtain ⟨s, d, e, h1, h2⟩ := h
  exact ⟨s, d, e, h1.off (grownBy_three _ _ _ _ _) hb noInts_zero, h2.off (grownBy_three _ _ _ _ _) hb noInts_zero⟩

end Go.Proofs.YtihndbkaoejnnaaGreatDoor

namespace Go.Proofs.YtihndbkaoejnnaaGreatDoor.P
/-- The first array's fault. -/
def allErr : List Arr → Int
  | [] => 0
  | b :: l => if arrErr b ≠ 0 then arrErr b else allErr l
theorem allErr_take {bs : List Arr} {k : Nat} {b : Arr} (hk : bs[k]? = some b) (h : allErr (bs.take k) = 0) : allErr (bs.take (k + 1)) = arrErr b ∧ (arrErr b ≠ 0 → allErr bs = arrErr b) := by
  induction bs generalizing k with
  | nil => simp at hk
  | cons c l ih =>
    match k, hk with
    | 0, hk =>
      simp only [List.getElem?_cons_zero, Option.some.injEq] at hk
      subst hk
      simp only [List.take_succ_cons, List.take_zero, allErr]
      constructor
      · by_cases e : arrErr c ≠ 0
        · rw [if_pos e]
        · rw [if_neg e]; simpa using Eq.symm (by simpa using e)
      · intro e; rw [if_pos e]
    | k + 1, hk =>
      simp only [List.getElem?_cons_succ] at hk
      simp only [List.take_succ_cons, allErr] at h ⊢
      by_cases e : arrErr c ≠ 0
      · rw [if_pos e] at h; exact absurd h e
      · rw [if_neg e] at h ⊢
        rw [if_neg e]
        exact ih hk h
end Go.Proofs.YtihndbkaoejnnaaGreatDoor.P
namespace Go.Proofs.YtihndbkaoejnnaaGreatDoor
open Go Go.RowKit Go.Proofs.YtihndbkaoejnnaaGreatDoor.P

theorem AllCells.append {w : World} {us ws : List Value} {bs cs : List Arr} (h : AllCells w us bs) (h' : AllCells w ws cs) : AllCells w (us ++ ws) (bs ++ cs) := by
  obtain ⟨l1, o1, a1⟩ := h
  obtain ⟨l2, o2, a2⟩ := h'
  refine ⟨by rw [List.length_append, List.length_append, l1, l2, Nat.add_mul], fun u hu => (List.mem_append.1 hu).elim (o1 u) (o2 u), fun k b hk => ?_⟩
  rcases Nat.lt_or_ge k bs.length with hlt | hge
  · rw [List.getElem?_append_left hlt] at hk
    obtain ⟨S, c1, D, c2, e1, e2, e3, e4, e5⟩ := a1 k b hk
    exact ⟨S, c1, D, c2, by rw [List.getElem?_append_left (by omega)]; exact e1, by rw [List.getElem?_append_left (by omega)]; exact e2, by rw [List.getElem?_append_left (by omega)]; exact e3, e4, e5⟩
  · rw [List.getElem?_append_right hge] at hk
    obtain ⟨S, c1, D, c2, e1, e2, e3, e4, e5⟩ := a2 _ b hk
    have hm : (k - bs.length) * 3 = k * 3 - us.length := by rw [l1, Nat.sub_mul]
    refine ⟨S, c1, D, c2, ?_, ?_, ?_, e4, e5⟩
    · rw [List.getElem?_append_right (by omega), ← hm]; exact e1
    · rw [List.getElem?_append_right (by omega), show k * 3 + 1 - us.length = (k - bs.length) * 3 + 1 by omega]; exact e2
    · rw [List.getElem?_append_right (by omega), show k * 3 + 2 - us.length = (k - bs.length) * 3 + 2 by omega]; exact e3
theorem AllCells.one {w : World} {A D : Option Addr} {ca cd : Nat} {a : Arr} (h : IsArr w (.agg #[.bool a.ch, .slice A a.sh.length ca, .slice D a.da.length cd]) a) : AllCells w [.bool a.ch, .slice A a.sh.length ca, .slice D a.da.length cd] [a] := by
  refine ⟨rfl, fun u hu => ?_, fun k b hk => ?_⟩
  · simp only [List.mem_cons, List.not_mem_nil, or_false] at hu
    rcases hu with rfl | rfl | rfl <;> rfl
  · match k, hk with
    | 0, hk =>
      simp only [List.getElem?_cons_zero, Option.some.injEq] at hk
      subst hk
      exact ⟨A, ca, D, cd, rfl, rfl, rfl, by obtain ⟨s, d, e, h1, h2⟩ := h; injection e with e; injection e with e; injection e with _ e; injection e with e1 _; rw [e1]; exact h1, by obtain ⟨s, d, e, h1, h2⟩ := h; injection e with e; injection e with e; injection e with _ e; injection e with _ e; injection e with e2 _; rw [e2]; exact h2⟩
    | k + 1, hk => simp at hk
theorem OwnsA.block {w : World} {B : Nat} {A : Option Addr} {n c : Nat} {us : List Value} (h : OwnsA w B (.slice A n c) n us) (hn : 0 < n) : ∃ g, A = some ⟨g, 0, none⟩ ∧ B ≤ g ∧ g < w.heap.size ∧ n ≤ c ∧ ∀ (j : Nat) (u : Value), us[j]? = some u → w.cell? ⟨g, j, none⟩ = some u := by
  rcases h.2 with ⟨e, h0⟩ | ⟨g, cap, cur, e, hb, hg, hn', hm, hs, ht⟩
  · omega
  · injection e with e1 e2 e3
    subst e1 e3
    refine ⟨g, rfl, hb, (Array.getElem?_eq_some_iff.1 hg).1, hn', fun j u hj => ?_⟩
    have hc := World.ownsRow.cells (g := g) h rfl j u hj
    rwa [addr_zero_add] at hc

set_option maxRecDepth 100000 in
set_option maxHeartbeats 1000000 in
theorem pick_check {va vb vc : Value} {a : Arr} {bs cs : List Arr} {w : World} (ha : IsArr w va a) (hb : IsArrs w vb bs) (hc : IsArrs w vc cs) (hcl : cs.length ≤ 64) :
    Calls Tryz.prog 151 #[va, vb, vc] w fun e w' => e = .returned (errV (allErr (a :: (bs ++ cs)))) ∧ Below w.heap.size w w' := by
  obtain ⟨A, ca, D, cd, rfl, hs, hd⟩ := ha.open_
  obtain ⟨B, cb, ub, rfl, b1, b2, b3, b4, b5, b6⟩ := id hb
  obtain ⟨C, cc, uc, rfl, c1, c2, c3, c4, c5, c6⟩ := id hc
  have HB4 := Lib.hid b4
  have HB5 := Lib.hid b5
  have HB6 := Lib.hid b6
  have HC4 := Lib.hid c4
  have HC5 := Lib.hid c5
  have HC6 := Lib.hid c6
  have bA0 := (Box.new w 25 #[.bool a.ch, .slice A a.sh.length ca, .slice D a.da.length cd])
  have bL0 := Box.new (w.alloc (.cells #[.bool a.ch, .slice A a.sh.length ca, .slice D a.da.length cd] 25)) 25 #[.bool a.ch, .slice A a.sh.length ca, .slice D a.da.length cd]
  have hb0 := below_two w (.cells #[.bool a.ch, .slice A a.sh.length ca, .slice D a.da.length cd] 25) (.cells #[.bool a.ch, .slice A a.sh.length ca, .slice D a.da.length cd] 25)
  have o0 := OwnsA.one bL0
  rw [World.size_alloc] at o0
  obtain ⟨t0, t1, t2⟩ := bA0.three
  clear b4 b5 b6 c4 c5 c6 hs hd
  go_enter Tryz.func151, Tryz.ntmps151
  go_wp2_with (first
    | (at_builtin; refine wpList_append_arrs _ rfl rfl _ _ rfl (w.heap.size + 1) 1 _ _ rfl o0 B bs.length cb ub rfl HB4.out b1 (HB6.out.mono hb0) HB5.out.2.1 HB5.out.1 (by omega) (by simp) ?_; intro A4 k4 w4 own4 grow4 at4)
    | (at_builtin; refine wpList_append_arrs _ rfl rfl _ _ rfl (w.heap.size + 1) (1 + bs.length) _ _ rfl own4 C cs.length cc uc rfl HC4.out c1 (HC6.out.mono (hb0.grown grow4 hb0.size (fun j e => by have := (World.ownsRow.lt o0 j e).1; omega))) HC5.out.2.1 HC5.out.1 (by omega) (by have := grow4.size; simp at this; omega) ?_; intro A5 k5 w5 own5 grow5 at5))
  obtain ⟨g, rfl, hg, hgl, hn5, hcell⟩ := own5.block (by omega)
  have hbw4 := hb0.grown grow4 hb0.size (fun j e => by have := (World.ownsRow.lt o0 j e).1; omega)
  have hbw5 := hbw4.grown grow5 hbw4.size (fun j e => by have := (World.ownsRow.lt own4 j e).1; omega)
  have hall := ((AllCells.one (ha.mono hbw5)).append (HB5.out.mono hbw5)).append (HC5.out.mono hbw5)
  rw [show [a] ++ bs ++ cs = a :: (bs ++ cs) by simp] at hall
  obtain ⟨L, hL⟩ : ∃ L, L = a :: (bs ++ cs) := ⟨_, rfl⟩
  obtain ⟨us, hus⟩ : ∃ us, us = [Value.bool a.ch, .slice A a.sh.length ca, .slice D a.da.length cd] ++ ub ++ uc := ⟨_, rfl⟩
  obtain ⟨N, hN⟩ : ∃ N, N = 1 + bs.length + cs.length := ⟨_, rfl⟩
  rw [← hus] at hcell hall
  rw [← hL] at hall
  rw [show (1 : Int) + (bs.length : Int) + (cs.length : Int) = ((1 + bs.length + cs.length : Nat) : Int) by omega]
  rw [← hN] at hn5 ⊢
  have HLN := Lib.hid (show L.length = N by rw [hL, hN]; simp; omega)
  have hN8 : N ≤ 2513169434916 := by omega
  have HALL := Lib.hid hall
  have HCELL := Lib.hid hcell
  have HN := Lib.hid hN
  have HL := Lib.hid hL
  clear hall hcell hL hus hN own5 own4 grow4 grow5 at4 at5 hbw4 o0 bL0 bA0 t0 t1 t2 hb0
  go_loopw [17] (fun s17 wr => ∃ k : Nat, k ≤ N ∧ s17 = .int .i64 k ∧ allErr (L.take k) = 0 ∧ Below w5.heap.size w5 wr) (fun s17 _ => N - (intOf s17).toNat)
  case atStart => exact ⟨0, Nat.zero_le _, rfl, rfl, Below.refl _ _⟩
  case round =>
    obtain ⟨k, hk, rfl, he, hbl⟩ := hrel
    have HE := Lib.hid he
    clear he
    rcases Nat.lt_or_ge k N with hlt | hge
    · obtain ⟨b, hb⟩ : ∃ b, L[k]? = some b := ⟨_, List.getElem?_eq_getElem (by rw [HLN.out]; exact hlt)⟩
      obtain ⟨S, c1', D1, c2', e1, e2, e3, i1, i2⟩ := HALL.out.2.2 k b hb
      have f0 := (hbl.cell (p := ⟨g, k * 3, none⟩) hgl).trans (HCELL.out _ _ e1)
      have f1 := (hbl.cell (p := ⟨g, k * 3 + 1, none⟩) hgl).trans (HCELL.out _ _ e2)
      have f2 := (hbl.cell (p := ⟨g, k * 3 + 2, none⟩) hgl).trans (HCELL.out _ _ e3)
      have HBK := Lib.hid hb
      have hia : IsArr (wr.alloc (.cells #[.bool b.ch, .slice S b.sh.length c1', .slice D1 b.da.length c2'] 25)) (.agg #[.bool b.ch, .slice S b.sh.length c1', .slice D1 b.da.length c2']) b := ⟨_, _, rfl, (i1.mono hbl).mono (below_one _ _), (i2.mono hbl).mono (below_one _ _)⟩
      have HIA := Lib.hid hia
      clear hb e1 e2 e3 i1 i2 hia
      go_wp2_with fail
      refine (check_any _ b _ HIA.out).mono ?_
      rintro e w6 ⟨rfl, hb6⟩
      have hbl6 := hbl.trans (((below_one wr (.cells #[.bool b.ch, .slice S b.sh.length c1', .slice D1 b.da.length c2'] 25)).trans (hb6.mono (below_one _ _).size)).mono hbl.size)
      obtain ⟨x1, x2⟩ := allErr_take HBK.out HE.out
      have X1 := Lib.hid x1
      have X2 := Lib.hid x2
      clear x1 x2 hb6 f0 f1 f2
      by_cases cz : arrErr b = 0
      · have CZ := Lib.hid cz
        rw [cz, errV_zero]
        clear cz
        go_wp2_with fail
        go_roundw
        case rel => exact ⟨k + 1, by omega, by go_num, by rw [X1.out]; exact CZ.out, hbl6⟩
        case measure => simp [intOf]; omega
      · have CZ := Lib.hid cz
        rw [errV_ne cz]
        clear cz
        go_wp2_with fail
        go_ret
        exact ⟨by rw [← HL.out, X2.out CZ.out, errV_ne CZ.out]; rfl, hbw5.trans (hbl6.mono hbw5.size)⟩
    · have hke : k = N := by omega
      subst hke
      have hall : allErr L = 0 := by have := HE.out; rwa [List.take_of_length_le (by rw [HLN.out]; exact Nat.le_refl _)] at this
      have HA := Lib.hid hall
      clear hall
      go_wp2_with fail
      go_ret
      exact ⟨by rw [← HL.out, HA.out]; rfl, hbw5.trans (hbl.mono hbw5.size)⟩

end Go.Proofs.YtihndbkaoejnnaaGreatDoor

namespace Go.Proofs.YtihndbkaoejnnaaGreatDoor
open Go Go.RowKit Go.Proofs.YtihndbkaoejnnaaGreatDoor.P

theorem addr_next (ad : Addr) (j i : Nat) : (⟨(ad.add j).block, (ad.add j).off + (i + 1), none⟩ : Addr) = ad.add (j + (i + 1)) := by
  unfold Addr.add
  rw [if_neg (show ¬ j + (i + 1) = 0 by omega)]
  by_cases h : j = 0
  · subst h; simp
  · rw [if_neg h]; simp [Nat.add_assoc]
theorem arr_later {w wr : World} {A : Option Addr} {us : List Value} {bs : List Arr} (h : AllCells w us bs) (hc : CellsAt w A us) (hb : Below w.heap.size w wr) {k : Nat} {b : Arr} (hk : bs[k]? = some b) :
    ∃ ad S cs D cd, A = some ad ∧ ad.block < w.heap.size ∧ wr.cell? (ad.add (k * 3)) = some (.bool b.ch) ∧ wr.cell? ⟨(ad.add (k * 3)).block, (ad.add (k * 3)).off + 1, none⟩ = some (.slice S b.sh.length cs) ∧ wr.cell? ⟨(ad.add (k * 3)).block, (ad.add (k * 3)).off + 2, none⟩ = some (.slice D b.da.length cd) ∧
      IsInts wr (.slice S b.sh.length cs) b.sh ∧ IsInts wr (.slice D b.da.length cd) b.da := by
  obtain ⟨S, cs, D, cd, h1, h2, h3, h4, h5⟩ := h.2.2 k b hk
  obtain ⟨ad, e, hl, c1⟩ := hc _ _ h1
  obtain ⟨ad2, e2, hl2, c2⟩ := hc _ _ h2
  obtain ⟨ad3, e3, hl3, c3⟩ := hc _ _ h3
  rw [e] at e2 e3
  injection e2 with e2
  injection e3 with e3
  subst e2 e3
  refine ⟨ad, S, cs, D, cd, e, hl, (hb.cell (by rw [addr_block_add]; exact hl)).trans c1, ?_, ?_, h4.mono hb, h5.mono hb⟩
  · rw [addr_next ad (k * 3) 0]; exact (hb.cell (by rw [addr_block_add]; exact hl)).trans c2
  · rw [addr_next ad (k * 3) 1]; exact (hb.cell (by rw [addr_block_add]; exact hl)).trans c3

/-- What pick.find answers. -/
def Finds (t : List Nat) (bs : List Arr) (w : World) (e : Ending) (w' : World) : Prop :=
  ∃ A n c D m d, e = .returned (.tuple #[.agg #[.slice A n c, .slice D m d], errV (pickErr t bs)]) ∧ Below w.heap.size w w' ∧
    (pickErr t bs = 0 → n = (catSh bs).length ∧ m = (placesOf t bs).length ∧ Owns w' w.heap.size (.slice A n c) n (catSh bs) ∧ Owns w' w.heap.size (.slice D m d) m (placesOf t bs))
theorem Finds.bad {t : List Nat} {bs : List Arr} {w w' : World} {A D : Option Addr} {n c m d : Nat} {k : Int} (hk : pickErr t bs = k) (h0 : k ≠ 0) (hb : Below w.heap.size w w') :
    Finds t bs w (.returned (.tuple #[.agg #[.slice A n c, .slice D m d], .iface 54 (.int .i64 k)])) w' :=
  ⟨A, n, c, D, m, d, by rw [hk, errV_ne h0], hb, fun h => absurd (hk.symm.trans h) h0⟩

/-- What the walk of find keeps. -/
def FInv (w : World) (a : Arr) (A : Option Addr) (ca : Nat) (D : Option Addr) (cd : Nat) (vs va : Value) (wr : World) : Prop :=
  Box wr w.heap.size 25 #[.bool a.ch, .slice A a.sh.length ca, .slice D a.da.length cd] ∧ Box wr (w.heap.size + 1) 218 #[.slice none 0 0, .slice none 0 0] ∧
    Box wr (w.heap.size + 1 + 1) 218 #[vs, va] ∧ Below w.heap.size w wr

theorem Box.two_put {w : World} {g : Nat} {t : TypeId} {u v : Value} (h : Box w g t #[u, v]) (x y : Value) : Box ((w.setCell ⟨g, 0, none⟩ x).setCell ⟨g, 1, none⟩ y) g t #[x, y] := by
  have s := (h.store 0 x).store 1 y
  simp only [List.setIfInBounds_toArray, List.set_cons_zero, List.set_cons_succ] at s
  exact s
theorem FInv.put0 {w wr w4 : World} {a : Arr} {A : Option Addr} {ca : Nat} {D : Option Addr} {cd : Nat} {A2 A4 : Option Addr} {n m c2 c4 : Nat} {va : Value} {xs ys : List Int} {o : Obj}
    (h : FInv w a A ca D cd (.slice A2 n c2) va wr) (hown : Owns wr (w.heap.size + 3) (.slice A2 n c2) n xs) (hgrow : (wr.alloc o).grownBy w4 (Value.slice A2 n c2).ownBlock) (hown4 : Owns w4 (w.heap.size + 3) (.slice A4 m c4) m ys) :
    FInv w a A ca D cd (.slice A4 m c4) va (w4.setCell ⟨w.heap.size + 1 + 1, 0, none⟩ (.slice A4 m c4)) ∧ Owns (w4.setCell ⟨w.heap.size + 1 + 1, 0, none⟩ (.slice A4 m c4)) (w.heap.size + 3) (.slice A4 m c4) m ys := by
  obtain ⟨h1, h2, h3, h4⟩ := h
  have b1 := Box.grown (w := wr.alloc o) (h1.alloc o) hgrow (hown.ne_low (by omega))
  have b2 := Box.grown (w := wr.alloc o) (h2.alloc o) hgrow (hown.ne_low (by omega))
  have b3 := Box.grown (w := wr.alloc o) (h3.alloc o) hgrow (hown.ne_low (by omega))
  have s := b3.store 0 (.slice A4 m c4)
  simp only [List.setIfInBounds_toArray, List.set_cons_zero] at s
  exact ⟨⟨b1.far (p := ⟨w.heap.size + 1 + 1, 0, none⟩) (by simp; omega) _, b2.far (p := ⟨w.heap.size + 1 + 1, 0, none⟩) (by simp) _, s,
    ((h4.alloc h4.size o).grown hgrow (by have := h4.size; simp; omega) (fun j e => by have := (hown.lt e).1; omega)).setCell (p := ⟨w.heap.size + 1 + 1, 0, none⟩) (by simp; omega) _⟩,
    hown4.setCell (p := ⟨w.heap.size + 1 + 1, 0, none⟩) (hown4.ne_low (by simp)) _⟩

theorem FInv.below {w wr w' : World} {a : Arr} {A : Option Addr} {ca : Nat} {D : Option Addr} {cd : Nat} {vs va : Value} (h : FInv w a A ca D cd vs va wr) (hb : Below wr.heap.size wr w') : FInv w a A ca D cd vs va w' :=
  ⟨h.1.below hb, h.2.1.below hb, h.2.2.1.below hb, h.2.2.2.trans (hb.mono h.2.2.2.size)⟩

theorem FInv.put1 {w W : World} {a : Arr} {A : Option Addr} {ca : Nat} {D : Option Addr} {cd : Nat} {vs va : Value} (h : FInv w a A ca D cd vs va W) (x : Value) : FInv w a A ca D cd vs x (W.setCell ⟨w.heap.size + 1 + 1, 1, none⟩ x) := by
  obtain ⟨h1, h2, h3, h4⟩ := h
  have s := h3.store 1 x
  simp only [List.setIfInBounds_toArray, List.set_cons_zero, List.set_cons_succ] at s
  exact ⟨h1.far (p := ⟨w.heap.size + 1 + 1, 1, none⟩) (by simp; omega) _, h2.far (p := ⟨w.heap.size + 1 + 1, 1, none⟩) (by simp) _, s, h4.setCell (p := ⟨w.heap.size + 1 + 1, 1, none⟩) (by simp; omega) _⟩
theorem owns_one {w : World} {g B : Nat} {x : Int} (h : Box w g 3 #[.int .i64 x]) (hB : B ≤ g) : Owns w B (.slice (some ⟨g, 0, none⟩) 1 1) 1 [x] :=
  ⟨⟨rfl, .inr ⟨g, 1, #[.int .i64 x], rfl, hB, h, Nat.le_refl _, by unfold maxLen; omega, rfl, rfl⟩⟩, by omega⟩
theorem pick_none {t : List Nat} {bs : List Arr} (h1 : bs.length = t.length) (h2 : bs.any (·.ch) = false) (h3 : cntErr (catSh bs) = 0) (h4 : idxBad t bs = false) : pickErr t bs = 0 := by
  unfold pickErr
  rw [if_neg (fun h => h h1), if_neg (by rw [h2]; simp), if_neg (by rw [h3]; simp), if_neg (by rw [h4]; simp)]

set_option maxRecDepth 100000 in
set_option maxHeartbeats 4000000 in
theorem pick_find {va vb : Value} {a : Arr} {t : List Nat} {bs : List Arr} {w : World} (ha : IsArr w va a) (hb : IsArrs w vb bs) (h : Ok a t) (hg : ∀ b ∈ bs, ∃ s, Ok b s) :
    Calls Tryz.prog 152 #[va, vb] w (Finds t bs w) := by
  obtain ⟨A, ca, D, cd, rfl, hs, hd⟩ := ha.open_
  obtain ⟨B, cb, ub, rfl, b1, b2, b3, b4, b5, b6⟩ := id hb
  have HB4 := Lib.hid b4
  have HB5 := Lib.hid b5
  have HB6 := Lib.hid b6
  have HG := Lib.hid hg
  have H := Lib.hid h
  have HLT := Lib.hid (show a.sh.length = t.length by rw [h.sh, length_ints])
  have hal6 : a.sh.length ≤ 6 := by rw [HLT.out]; exact h.good.1
  obtain ⟨A0, ca0, eA, a1, a2, a3, a0, a4⟩ := id hs
  cases eA
  have HA := Lib.hid (show Elems w A a.sh from a4)
  have fin : FInv w a A ca D cd (.slice none 0 0) (.slice none 0 0) (((w.alloc (.cells #[.bool a.ch, .slice A a.sh.length ca, .slice D a.da.length cd] 25)).alloc (.cells #[.slice none 0 0, .slice none 0 0] 218)).alloc (.cells #[.slice none 0 0, .slice none 0 0] 218)) :=
    ⟨((Box.new _ _ _).alloc _).alloc _, (by simpa using (Box.new (w.alloc _) 218 #[.slice none 0 0, .slice none 0 0]).alloc _), (by simpa using Box.new ((w.alloc _).alloc _) 218 #[.slice none 0 0, .slice none 0 0]), below_three _ _ _ _⟩
  have FIN := Lib.hid fin
  obtain ⟨z1, z2, z3, z4⟩ := fin
  obtain ⟨t0, t1, t2⟩ := z1.three
  obtain ⟨r0, r1⟩ := z2.two
  obtain ⟨p0, p1⟩ := z3.two
  clear a0 a4 z1 z2 z3 z4 b4 b5 b6 hg h hs hd hb ha
  by_cases hlen : bs.length = a.sh.length
  · have hlb : ((bs.length : Int) != (a.sh.length : Int)) = false := by rw [hlen]; simp
    have HLEN := Lib.hid hlen
    clear hlen
    go_enter Tryz.func152, Tryz.ntmps152
    go_wp2_with fail
    go_loopw [32] (fun s32 wr => ∃ (k n : Nat) (A2 : Option Addr) (c2 : Nat), k ≤ bs.length ∧ n ≤ k * 6 ∧ s32 = .int .i64 k ∧ (∀ b ∈ bs.take k, b.ch = false) ∧ FInv w a A ca D cd (.slice A2 n c2) (.slice none 0 0) wr ∧ Owns wr (w.heap.size + 3) (.slice A2 n c2) n (catSh (bs.take k))) (fun s32 _ => bs.length - (intOf s32).toNat)
    case atStart => exact ⟨0, 0, none, 0, Nat.zero_le _, Nat.zero_le _, rfl, by simp, FIN.out, by rw [List.take_zero]; exact Owns.nil _ _⟩
    case round =>
      clear t0 t1 t2 r0 r1 p0 p1 FIN
      obtain ⟨k, n, A2, c2, hk, hn6, rfl, hch, ⟨i1, i2, i3, i4⟩, hown⟩ := hrel
      have HCH := Lib.hid hch
      clear hch
      obtain ⟨p0, p1⟩ := i3.two
      have hsz := i4.size
      have hlt3 := i3.lt
      rcases Nat.lt_or_ge k bs.length with hlt | hge
      · obtain ⟨b, hb⟩ : ∃ b, bs[k]? = some b := ⟨_, List.getElem?_eq_getElem hlt⟩
        obtain ⟨ad, S, c1', D1, c2', rfl, hadl, f0, f1, f2, g1, g2⟩ := arr_later HB5.out HB6.out i4 hb
        obtain ⟨s, hbs⟩ := HG.out b (List.mem_of_getElem? hb)
        have hbl6 : b.sh.length ≤ 6 := by rw [hbs.sh, length_ints]; exact hbs.good.1
        have HBK := Lib.hid hb
        have HBS := Lib.hid hbs
        have G1 := Lib.hid g1
        obtain ⟨S0, cs0, eS, s1, s2, s3, s4, s5⟩ := id g1
        cases eS
        have S4 := Lib.hid s4
        have S5 := Lib.hid (show Elems wr S b.sh from s5)
        clear hb hbs g1 g2 s4 s5
        cases hc : b.ch
        · have HC := Lib.hid hc
          rw [hc] at f0
          clear hc
          have i3' := i3.alloc (.cells #[.bool false, .slice S b.sh.length c1', .slice D1 b.da.length c2'] 25)
          obtain ⟨q0, q1⟩ := i3'.two
          obtain ⟨l0, l1, l2⟩ := (Box.new wr 25 #[.bool false, .slice S b.sh.length c1', .slice D1 b.da.length c2']).three
          go_wp2_with (at_builtin; refine wpList_append_ints _ rfl rfl _ _ rfl (w.heap.size + 3) n _ (catSh (bs.take k)) rfl (hown.alloc _) S b.sh.length c1' b.sh rfl S4.out (Elems.mono S5.out (below_one _ _)) rfl (by omega) (by simp; omega) ?_; intro A4 c4 w4 hown4 hgrow4 hat4; have b4 := Box.grown i3' hgrow4 (hown.ne_box i3 (by decide)); obtain ⟨x0, x1⟩ := b4.two; have xl := b4.lt; have xf := b4.frozen)
          go_roundw
          case rel =>
            obtain ⟨j1, j2⟩ := FInv.put0 ⟨i1, i2, i3, i4⟩ hown hgrow4 hown4
            refine ⟨k + 1, n + b.sh.length, A4, c4, by omega, by omega, by go_num, fun x hx => ?_, j1, by rw [catSh_take HBK.out]; exact j2⟩
            rw [List.take_add_one, HBK.out] at hx
            rcases List.mem_append.1 hx with hx | hx
            · exact HCH.out x hx
            · simp at hx; rw [hx]; exact HC.out
          case measure => simp [intOf]; omega
        · have HC := Lib.hid hc
          rw [hc] at f0
          clear hc
          have i3' := i3.alloc (.cells #[.bool true, .slice S b.sh.length c1', .slice D1 b.da.length c2'] 25)
          have i2' := i2.alloc (.cells #[.bool true, .slice S b.sh.length c1', .slice D1 b.da.length c2'] 25)
          obtain ⟨q0, q1⟩ := i3'.two
          obtain ⟨v0, v1⟩ := i2'.two
          obtain ⟨l0, l1, l2⟩ := (Box.new wr 25 #[.bool true, .slice S b.sh.length c1', .slice D1 b.da.length c2']).three
          have vf := i2'.frozen
          go_wp2_with fail
          have z := i2'.two_put (.slice A2 n c2) (.slice none 0 0)
          obtain ⟨z0, z1⟩ := z.two
          have zl := z.lt
          refine bodyPost_ret (v := .tuple #[.agg #[.slice A2 n c2, .slice none 0 0], .iface 54 (.int .i64 6)]) (by simp [results, Tryz.results152, go_sem, z0, z1, zl]) rfl ?_
          refine Finds.bad ?_ (by decide) (((i4.alloc hsz _).setCell (p := ⟨w.heap.size + 1, 0, none⟩) (by simp) _).setCell (p := ⟨w.heap.size + 1, 1, none⟩) (by simp) _)
          unfold pickErr
          rw [if_neg (by rw [← HLT.out]; exact fun h => h HLEN.out), if_pos (List.any_eq_true.2 ⟨b, List.mem_of_getElem? HBK.out, HC.out⟩)]
      · have hke : k = bs.length := by omega
        subst hke
        have hn36 : n ≤ 36 := by have := HLEN.out; omega
        rw [List.take_length] at hown
        have HCA := Lib.hid (show bs.any (·.ch) = false by rw [List.any_eq_false]; intro x hx; rw [HCH.out x (by rwa [List.take_length])]; simp)
        have HN := Lib.hid hown.length
        have OWN := Lib.hid hown
        have FI := Lib.hid (show FInv w a A ca D cd (.slice A2 n c2) (.slice none 0 0) wr from ⟨i1, i2, i3, i4⟩)
        clear HCH hown hge hk hn6
        go_wp2_with fail
        refine (count_any _ (catSh bs) wr OWN.out.isInts).mono ?_
        rintro e w1 ⟨rfl, rfl⟩
        obtain ⟨r0, r1⟩ := i2.two
        have rf := i2.frozen
        by_cases ce : cntErr (catSh bs) = 0
        · have CE := Lib.hid ce
          rw [ce, errV_zero]
          obtain ⟨V, hV⟩ : ∃ V, V = cntVal (catSh bs) := ⟨_, rfl⟩
          rw [← hV]
          have HV := Lib.hid hV
          clear ce hV r0 r1 rf
          clear p0 p1 i1 i2 i3 i4
          go_wp2_with fail
          obtain ⟨w1, hw1⟩ : ∃ w1 : World, w1 = wr := ⟨_, rfl⟩
          rw [← hw1] at FI OWN hsz hlt3
          go_loopw [59] (fun s59 wi => ∃ k : Nat, k ≤ bs.length ∧ s59 = .int .i64 k ∧ IdxTo t bs k ∧ Below w1.heap.size w1 wi) (fun s59 _ => bs.length - (intOf s59).toNat)
          case atStart => exact ⟨0, Nat.zero_le _, rfl, IdxTo.zero _ _, by rw [hw1]; exact Below.refl _ _⟩
          case round =>
            clear hw1
            obtain ⟨k, hk, rfl, hix, hbl⟩ := hrel
            have HIX := Lib.hid hix
            clear hix
            obtain ⟨i1, i2, i3, i4⟩ := FI.out.below hbl
            have FI2 := Lib.hid (FI.out.below hbl)
            rcases Nat.lt_or_ge k bs.length with hlt | hge
            · obtain ⟨b, hb⟩ : ∃ b, bs[k]? = some b := ⟨_, List.getElem?_eq_getElem hlt⟩
              obtain ⟨ad, S, c1', D1, c2', rfl, hadl, f0, f1, f2, g1, g2⟩ := arr_later HB5.out HB6.out i4 hb
              have hka : k < a.sh.length := by rw [← HLEN.out]; exact hlt
              obtain ⟨n0, hn0⟩ : ∃ n0, t[k]? = some n0 := ⟨_, List.getElem?_eq_getElem (by rw [← HLT.out]; exact hka)⟩
              obtain ⟨ad2, x2, rfl, hx2, hal2, hcx2⟩ := Elems.later HA.out (i4.trans ((below_one wr (.cells #[.bool b.ch, .slice S b.sh.length c1', .slice D1 b.da.length c2'] 25)).mono i4.size)) hka
              have hxn : x2 = (n0 : Int) := by
                have := hx2
                rw [H.out.sh, ints, List.getElem?_map, hn0] at this
                simpa using this.symm
              subst hxn
              have HN0 := Lib.hid hn0
              have HBK := Lib.hid hb
              obtain ⟨D0, cd0, eD, d1, d2, d3, d4, d5⟩ := id g2
              cases eD
              have D5 := Lib.hid (show Elems _ D1 b.da from d5)
              have o1 := i1.alloc (.cells #[.bool b.ch, .slice S b.sh.length c1', .slice D1 b.da.length c2'] 25)
              have o2 := i2.alloc (.cells #[.bool b.ch, .slice S b.sh.length c1', .slice D1 b.da.length c2'] 25)
              obtain ⟨t0, t1, t2⟩ := o1.three
              obtain ⟨r0, r1⟩ := o2.two
              have rf := o2.frozen
              obtain ⟨l0, l1, l2⟩ := (Box.new wr 25 #[.bool b.ch, .slice S b.sh.length c1', .slice D1 b.da.length c2']).three
              clear hb hn0 hx2 g1 g2 d4 d5 i1 i2 i3
              go_wp2_with fail
              go_loop [67] (fun s67 => ∃ j : Nat, j ≤ b.da.length ∧ s67 = .int .i64 j ∧ RowTo n0 b.da j) (fun s67 => b.da.length - (intOf s67).toNat)
              case atStart => exact ⟨0, Nat.zero_le _, rfl, RowTo.zero _ _⟩
              case round =>
                obtain ⟨j, hj, rfl, hrt⟩ := hrel
                have HRT := Lib.hid hrt
                clear hrt
                rcases Nat.lt_or_ge j b.da.length with hltj | hgej
                · obtain ⟨ad3, x3, rfl, hx3, hal3, hcx3⟩ := Elems.later D5.out (below_one wr (.cells #[.bool b.ch, .slice S b.sh.length c1', .slice D1 b.da.length c2'] 25)) hltj
                  have HX3 := Lib.hid hx3
                  clear hx3
                  rcases Int.lt_or_le x3 0 with h0 | h0
                  · go_wp2_with fail
                    have z := (FI2.out.2.1.alloc (.cells #[.bool b.ch, .slice S b.sh.length c1', .slice (some ad3) b.da.length c2'] 25)).two_put (.slice none 0 0) (.slice none 0 0)
                    obtain ⟨z0, z1⟩ := z.two
                    have zl := z.lt
                    refine bodyPost_ret (v := .tuple #[.agg #[.slice none 0 0, .slice none 0 0], .iface 54 (.int .i64 5)]) (by simp [results, Tryz.results152, go_sem, z0, z1, zl]) rfl ?_
                    refine Finds.bad ?_ (by decide) (((i4.alloc i4.size _).setCell (p := ⟨w.heap.size + 1, 0, none⟩) (by simp) _).setCell (p := ⟨w.heap.size + 1, 1, none⟩) (by simp) _)
                    unfold pickErr
                    rw [if_neg (by rw [← HLT.out]; exact fun h => h HLEN.out), if_neg (by rw [HCA.out]; simp), if_neg (by rw [CE.out]; simp), if_pos (idxBad_hit HBK.out HN0.out HX3.out (.inl h0))]
                  · rcases Int.lt_or_le x3 n0 with h1 | h1
                    · go_wp2_with fail
                      go_round
                      case rel => exact ⟨j + 1, by omega, by go_num, HRT.out.succ HX3.out h0 h1⟩
                      case measure => simp [intOf]; omega
                    · go_wp2_with fail
                      have z := (FI2.out.2.1.alloc (.cells #[.bool b.ch, .slice S b.sh.length c1', .slice (some ad3) b.da.length c2'] 25)).two_put (.slice none 0 0) (.slice none 0 0)
                      obtain ⟨z0, z1⟩ := z.two
                      have zl := z.lt
                      refine bodyPost_ret (v := .tuple #[.agg #[.slice none 0 0, .slice none 0 0], .iface 54 (.int .i64 5)]) (by simp [results, Tryz.results152, go_sem, z0, z1, zl]) rfl ?_
                      refine Finds.bad ?_ (by decide) (((i4.alloc i4.size _).setCell (p := ⟨w.heap.size + 1, 0, none⟩) (by simp) _).setCell (p := ⟨w.heap.size + 1, 1, none⟩) (by simp) _)
                      unfold pickErr
                      rw [if_neg (by rw [← HLT.out]; exact fun h => h HLEN.out), if_neg (by rw [HCA.out]; simp), if_neg (by rw [CE.out]; simp), if_pos (idxBad_hit HBK.out HN0.out HX3.out (.inr h1))]
                · have hje : j = b.da.length := by omega
                  subst hje
                  go_wp2_with fail
                  go_roundw
                  case rel => exact ⟨k + 1, by omega, by go_num, HIX.out.succ HBK.out HN0.out HRT.out, hbl.trans ((below_one _ _).mono hbl.size)⟩
                  case measure => simp [intOf]; omega
            · have hke : k = bs.length := by omega
              subst hke
              have HIB := Lib.hid (HIX.out.ok (Nat.le_refl _))
              obtain ⟨p0, p1⟩ := i3.two
              obtain ⟨r0, r1⟩ := i2.two
              have rf := i2.frozen
              have HLB := Lib.hid (show bs.length = t.length by rw [← HLT.out]; exact HLEN.out)
              have PE := Lib.hid (pick_none HLB.out HCA.out CE.out HIB.out)
              have CV := Lib.hid (cat_val HG.out CE.out)
              have OW := Lib.hid (OWN.out.below hbl)
              by_cases hv0 : V = 0
              · have hvb : (V == 0) = true := by rw [hv0]; rfl
                have HP0 := Lib.hid (show prodLen bs = 0 by have := CV.out.1; rw [← HV.out, hv0] at this; omega)
                clear hv0 i1 i3 i4
                go_wp2_with fail
                have z := i2.two_put (.slice A2 n c2) (.slice none 0 0)
                obtain ⟨z0, z1⟩ := z.two
                have zl := z.lt
                refine bodyPost_ret (v := .tuple #[.agg #[.slice A2 n c2, .slice none 0 0], .nilIface]) (by simp [results, Tryz.results152, go_sem, z0, z1, zl]) rfl ?_
                refine ⟨_, _, _, _, _, _, by rw [PE.out]; rfl, ((FI2.out.2.2.2.setCell (p := ⟨w.heap.size + 1, 0, none⟩) (by simp) _).setCell (p := ⟨w.heap.size + 1, 1, none⟩) (by simp) _), fun _ => ⟨HN.out.symm, by rw [places_none HLB.out HP0.out]; rfl, ?_, ?_⟩⟩
                · exact ((OW.out.setCell (p := ⟨w.heap.size + 1, 0, none⟩) (OW.out.ne_low (by simp)) _).setCell (p := ⟨w.heap.size + 1, 1, none⟩) (OW.out.ne_low (by simp)) _).base (by omega)
                · rw [places_none HLB.out HP0.out]; exact Owns.nil _ _
              · have hvb : (V == 0) = false := by rw [beq_eq_false_iff_ne]; exact hv0
                have HP0 := Lib.hid (show prodLen bs ≠ 0 by intro h0; have := CV.out.1; rw [← HV.out, h0] at this; exact hv0 (by omega))
                have T4 := Lib.hid H.out.good.2.2
                clear hv0 i1 i2 i4 p0 p1 r0 r1 rf
                have i3' := i3.alloc (.cells #[.int .i64 0] 3)
                obtain ⟨q0, q1⟩ := i3'.two
                have qf := i3'.frozen
                go_wp2_with fail
                obtain ⟨wo, rfl⟩ : ∃ wo : World, wo = wr := ⟨_, rfl⟩
                go_loopw [93] (fun s93 wi => ∃ (k m : Nat) (A5 : Option Addr) (c5 : Nat), k ≤ bs.length ∧ s93 = .int .i64 k ∧ FInv w a A ca D cd (.slice A2 n c2) (.slice A5 m c5) wi ∧ Owns wi (w.heap.size + 3) (.slice A2 n c2) n (catSh bs) ∧ Owns wi (w.heap.size + 3) (.slice A5 m c5) m (placesTo t bs k)) (fun s93 _ => bs.length - (intOf s93).toNat)
                case atStart => exact ⟨0, 1, some ⟨wo.heap.size, 0, none⟩, 1, Nat.zero_le _, rfl, (FI2.out.below (below_one wo (.cells #[.int .i64 0] 3))).put1 _, (OW.out.alloc _).setCell (p := ⟨w.heap.size + 1 + 1, 1, none⟩) (OW.out.ne_low (by simp)) _, owns_one ((Box.new wo 3 #[.int .i64 0]).far (p := ⟨w.heap.size + 1 + 1, 1, none⟩) (by have := FI2.out.2.2.1.lt; simp; omega) _) (by have := FI2.out.2.2.1.lt; omega)⟩
                case round =>
                  clear i3' q0 q1 qf OW FI2 hbl i3 HIX hlt3 hsz OWN FI
                  obtain ⟨k, m, A5, c5, hk, rfl, hfi, hoS, hoQ⟩ := hrel
                  have HF := Lib.hid hfi
                  have HOS := Lib.hid hoS
                  have HOQ := Lib.hid hoQ
                  obtain ⟨i1, i2, i3, i4⟩ := hfi
                  have hsz := i4.size
                  have hlt3 := i3.lt
                  clear hoS hoQ
                  rcases Nat.lt_or_ge k bs.length with hlt | hge
                  · obtain ⟨b, hb⟩ : ∃ b, bs[k]? = some b := ⟨_, List.getElem?_eq_getElem hlt⟩
                    obtain ⟨ad, S, c1', D1, c2', rfl, hadl, f0, f1, f2, g1, g2⟩ := arr_later HB5.out HB6.out i4 hb
                    have hka : k < a.sh.length := by rw [← HLEN.out]; exact hlt
                    obtain ⟨n0, hn0⟩ : ∃ n0, t[k]? = some n0 := ⟨_, List.getElem?_eq_getElem (by rw [← HLT.out]; exact hka)⟩
                    have HN0 := Lib.hid hn0
                    have HBK := Lib.hid hb
                    have hmq : m = prodLen (bs.take k) := by rw [← HOQ.out.length]; exact placesTo_len HLB.out hk
                    have hml : m * b.da.length ≤ 4096 := by rw [hmq, ← prodLen_take hb]; exact Nat.le_trans (prodLen_take_le HP0.out _) CV.out.2
                    have hdl : b.da.length ≤ 4096 := by obtain ⟨s, hs⟩ := HG.out b (List.mem_of_getElem? hb); rw [hs.len]; exact hs.good.2.2
                    have hm4 : m ≤ 4096 := by rw [hmq]; exact Nat.le_trans (prodLen_take_le HP0.out _) CV.out.2
                    have hml0 : 0 ≤ (m : Int) * (b.da.length : Int) := by rw [← Int.natCast_mul]; omega
                    have hml1 : (m : Int) * (b.da.length : Int) ≤ 4096 := by rw [← Int.natCast_mul]; omega
                    have hmk := run_make_ints (m * b.da.length) (by omega)
                    simp only [Int.natCast_mul] at hmk
                    obtain ⟨D0, cd0, eD, d1, d2, d3, d4, d5⟩ := id g2
                    cases eD
                    have D5 := Lib.hid (show Elems _ D1 b.da from d5)
                    have o1 := i1.alloc (.cells #[.bool b.ch, .slice S b.sh.length c1', .slice D1 b.da.length c2'] 25)
                    have o3 := i3.alloc (.cells #[.bool b.ch, .slice S b.sh.length c1', .slice D1 b.da.length c2'] 25)
                    have ob := (Box.new wr 25 #[.bool b.ch, .slice S b.sh.length c1', .slice D1 b.da.length c2'])
                    obtain ⟨p0, p1⟩ := o3.two
                    obtain ⟨pp0, pp1⟩ := (o3.alloc (.cells (madeCells #[.int .i64 0] (m * b.da.length)) 3)).two
                    obtain ⟨l0, l1, l2⟩ := ob.three
                    have HMQ := Lib.hid hmq
                    clear hb hn0 g1 g2 d4 d5 i1 i2 i3 hmq
                    go_wp2_with fail
                    obtain ⟨W2, hW2⟩ : ∃ W2 : World, W2 = wr.alloc (.cells #[.bool b.ch, .slice S b.sh.length c1', .slice D1 b.da.length c2'] 25) := ⟨_, rfl⟩
                    have hb2 := below_one wr (.cells #[.bool b.ch, .slice S b.sh.length c1', .slice D1 b.da.length c2'] 25)
                    have F2 := Lib.hid (HF.out.below hb2)
                    have S2 := Lib.hid (HOS.out.below hb2)
                    have Q2 := Lib.hid (HOQ.out.below hb2)
                    have E2 := Lib.hid (Elems.mono D5.out hb2)
                    have B2 := Lib.hid ob
                    rw [← hW2] at F2 S2 Q2 E2 B2
                    have hz2 : W2.heap.size = wr.heap.size + 1 := by rw [hW2]; simp
                    have QE := Lib.hid (Q2.out.isInts.elems)
                    have QL := Lib.hid Q2.out.length
                    have om : Owns ((wr.alloc (.cells #[.bool b.ch, .slice S b.sh.length c1', .slice D1 b.da.length c2'] 25)).alloc (.cells (madeCells #[.int .i64 0] (m * b.da.length)) 3)) W2.heap.size (.slice (some ⟨(wr.alloc (.cells #[.bool b.ch, .slice S b.sh.length c1', .slice D1 b.da.length c2'] 25)).heap.size, 0, none⟩) 0 (m * b.da.length)) 0 [] :=
                      ⟨World.ownsRow_made (wr.alloc (.cells #[.bool b.ch, .slice S b.sh.length c1', .slice D1 b.da.length c2'] 25)) (madeCells #[.int .i64 0] (m * b.da.length)) (m * b.da.length) (by rw [hW2]; exact Nat.le_refl _) (by unfold maxLen; omega) (by simp [size_madeCells]), by omega⟩
                    rw [World.size_alloc] at om
                    have OM := Lib.hid om
                    clear om
                    clear p0 p1 pp0 pp1 l0 l1 l2 o1 o3 ob f0 f1 f2 D5 hb2 hmk
                    obtain ⟨wo2, rfl⟩ : ∃ wo : World, wo = wr := ⟨_, rfl⟩
                    go_loopw [17, 109] (fun s17 s109 wi => ∃ (j : Nat) (A6 : Option Addr) (c6 : Nat), j ≤ m ∧ s109 = .int .i64 j ∧ s17 = .slice A6 (j * b.da.length) c6 ∧ Owns wi W2.heap.size (.slice A6 (j * b.da.length) c6) (j * b.da.length) (stepAt ((placesTo t bs k).take j) n0 b.da) ∧ Below W2.heap.size W2 wi) (fun _ s109 _ => m - (intOf s109).toNat)
                    case atStart =>
                      refine ⟨0, some ⟨wo2.heap.size + 1, 0, none⟩, m * b.da.length, Nat.zero_le _, rfl, by simp, ?_, by rw [hW2]; exact below_one _ _⟩
                      rw [Nat.zero_mul, List.take_zero]
                      exact OM.out
                    case round =>
                      obtain ⟨j, A6, c6, hj, rfl, rfl, hoN, hbl2⟩ := hrel
                      have HON := Lib.hid hoN
                      obtain ⟨i1, i2, i3, i4⟩ := F2.out.below hbl2
                      have hsz2 := hbl2.size
                      have hjd : j * b.da.length ≤ 4096 := Nat.le_trans (Nat.mul_le_mul_right _ hj) hml
                      obtain ⟨l0, l1, l2⟩ := (B2.out.below hbl2).three
                      clear hoN i1 i2
                      rcases Nat.lt_or_ge j m with hltj | hgej
                      · obtain ⟨ad4, q, rfl, hq, hal4, hcq⟩ := Elems.later QE.out hbl2 (k := j) (by rw [QL.out]; exact hltj)
                        have HQ := Lib.hid hq
                        clear hq i3
                        go_wp2_with fail
                        obtain ⟨wo3, rfl⟩ : ∃ wo : World, wo = wr := ⟨_, rfl⟩
                        go_loopw [17, 116] (fun s17 s116 wi => ∃ (i : Nat) (A7 : Option Addr) (c7 : Nat), i ≤ b.da.length ∧ s116 = .int .i64 i ∧ s17 = .slice A7 (j * b.da.length + i) c7 ∧ Owns wi W2.heap.size (.slice A7 (j * b.da.length + i) c7) (j * b.da.length + i) (stepAt ((placesTo t bs k).take j) n0 b.da ++ (b.da.take i).map fun i => q * n0 + i) ∧ Below W2.heap.size W2 wi) (fun _ s116 _ => b.da.length - (intOf s116).toNat)
                        case atStart => exact ⟨0, A6, c6, Nat.zero_le _, rfl, rfl, by rw [List.take_zero, List.map_nil, List.append_nil]; exact HON.out, hbl2⟩
                        case round =>
                          clear hbl2 hsz2 l0 l1 l2 hcq i4
                          obtain ⟨i, A7, c7, hi, rfl, rfl, hoN, hbl2⟩ := hrel
                          obtain ⟨i1, i2, i3, i4⟩ := F2.out.below hbl2
                          have hsz2 := hbl2.size
                          obtain ⟨t0, t1, t2⟩ := i1.three
                          rcases Nat.lt_or_ge i b.da.length with hlti | hgei
                          · obtain ⟨ad5, x, rfl, hx, hal5, hcx⟩ := Elems.later E2.out hbl2 hlti
                            obtain ⟨ad2, x2, rfl, hx2, hal2, hcx2⟩ := Elems.later HA.out i4 hka
                            have hxn : x2 = (n0 : Int) := by
                              have := hx2
                              rw [H.out.sh, ints, List.getElem?_map, HN0.out] at this
                              simpa using this.symm
                            subst hxn
                            have HX := Lib.hid hx
                            obtain ⟨y0, y1, y2, y3, y4, y5⟩ := step_small HLB.out HIB.out HP0.out T4.out HBK.out HN0.out (List.mem_of_getElem? HQ.out) (List.mem_of_getElem? hx)
                            have y6 : q * (n0 : Int) ≤ 4096 := by omega
                            clear hx hx2 i1 i2 i3
                            go_wp2_with (at_builtin; refine wpList_append_ints _ rfl rfl _ _ rfl W2.heap.size (j * b.da.length + i) _ _ rfl (hoN.alloc _) (some ⟨wr.heap.size, 0, none⟩) 1 1 [q * (n0 : Int) + x] rfl (by simp) (elems_new wr (q * (n0 : Int) + x)) rfl (by omega) (by simp; omega) ?_; intro A8 c8 w8 hown8 hgrow8 hat8)
                            go_roundw
                            case rel => exact ⟨i + 1, A8, c8, by omega, by go_num, rfl, by rw [map_take _ HX.out, ← List.append_assoc]; exact hown8, (hbl2.alloc hsz2 _).grown hgrow8 (by simp; omega) (fun j e => (hoN.lt e).1)⟩
                            case measure => simp [intOf]; omega
                          · have hie : i = b.da.length := by omega
                            subst hie
                            rw [List.take_length] at hoN
                            clear t0 t1 t2 i1 i2 i3
                            go_wp2_with fail
                            go_roundw
                            case rel => exact ⟨j + 1, A7, c7, by omega, by go_num, by rw [Nat.succ_mul], by rw [Nat.succ_mul, stepAt_take HQ.out]; exact hoN, hbl2⟩
                            case measure => simp [intOf]; omega
                      · have hje : j = m := by omega
                        subst hje
                        have qf := i3.frozen
                        obtain ⟨p0, p1⟩ := i3.two
                        clear i3
                        go_wp2_with fail
                        go_roundw
                        case rel =>
                          have hs2 := hbl2.size
                          have hoN := HON.out
                          rw [List.take_of_length_le (by rw [QL.out]; exact Nat.le_refl _), ← placesTo_succ HBK.out HN0.out] at hoN
                          exact ⟨k + 1, _, A6, c6, by omega, by go_num, (F2.out.below hbl2).put1 _, (S2.out.below hbl2).setCell (p := ⟨w.heap.size + 1 + 1, 1, none⟩) ((S2.out.below hbl2).ne_low (by simp)) _, (hoN.base (by omega)).setCell (p := ⟨w.heap.size + 1 + 1, 1, none⟩) ((hoN.base (B' := w.heap.size + 3) (by omega)).ne_low (by simp)) _⟩
                        case measure => simp [intOf]; omega
                  · have hke : k = bs.length := by omega
                    subst hke
                    obtain ⟨p0, p1⟩ := i3.two
                    obtain ⟨r0, r1⟩ := i2.two
                    have rf := i2.frozen
                    clear i1 i3 i4
                    go_wp2_with fail
                    have z := i2.two_put (.slice A2 n c2) (.slice A5 m c5)
                    obtain ⟨z0, z1⟩ := z.two
                    have zl := z.lt
                    refine bodyPost_ret (v := .tuple #[.agg #[.slice A2 n c2, .slice A5 m c5], .nilIface]) (by simp [results, Tryz.results152, go_sem, z0, z1, zl]) rfl ?_
                    refine ⟨_, _, _, _, _, _, by rw [PE.out]; rfl, ((HF.out.2.2.2.setCell (p := ⟨w.heap.size + 1, 0, none⟩) (by simp) _).setCell (p := ⟨w.heap.size + 1, 1, none⟩) (by simp) _), fun _ => ⟨HN.out.symm, by rw [← placesTo_all (Nat.le_refl _)]; exact HOQ.out.length.symm, ?_, ?_⟩⟩
                    · exact ((HOS.out.setCell (p := ⟨w.heap.size + 1, 0, none⟩) (HOS.out.ne_low (by simp)) _).setCell (p := ⟨w.heap.size + 1, 1, none⟩) (HOS.out.ne_low (by simp)) _).base (by omega)
                    · rw [← placesTo_all (Nat.le_refl _)]
                      exact ((HOQ.out.setCell (p := ⟨w.heap.size + 1, 0, none⟩) (HOQ.out.ne_low (by simp)) _).setCell (p := ⟨w.heap.size + 1, 1, none⟩) (HOQ.out.ne_low (by simp)) _).base (by omega)
        · have CE := Lib.hid ce
          rw [errV_ne ce]
          clear ce
          go_wp2_with fail
          have z := i2.two_put (.slice none 0 0) (.slice none 0 0)
          obtain ⟨z0, z1⟩ := z.two
          have zl := z.lt
          refine bodyPost_ret (v := .tuple #[.agg #[.slice none 0 0, .slice none 0 0], .iface 54 (.int .i64 (cntErr (catSh bs)))]) (by simp [results, Tryz.results152, go_sem, z0, z1, zl]) rfl ?_
          refine Finds.bad ?_ CE.out ((FI.out.2.2.2.setCell (p := ⟨w.heap.size + 1, 0, none⟩) (by simp) _).setCell (p := ⟨w.heap.size + 1, 1, none⟩) (by simp) _)
          unfold pickErr
          rw [if_neg (by rw [← HLT.out]; exact fun h => h HLEN.out), if_neg (by rw [HCA.out]; simp), if_pos CE.out]
  · have hlb : ((bs.length : Int) != (a.sh.length : Int)) = true := by rw [bne_iff_ne]; omega
    have hpe : pickErr t bs = 3 := by unfold pickErr; rw [if_pos (by rw [← HLT.out]; exact hlen)]
    have HPE := Lib.hid hpe
    clear hpe hlen
    go_enter Tryz.func152, Tryz.ntmps152
    go_wp2_with fail
    refine bodyPost_ret (v := .tuple #[.agg #[.slice none 0 0, .slice none 0 0], .iface 54 (.int .i64 3)]) (by simp [results, Tryz.results152, go_sem]) rfl ?_
    exact Finds.bad HPE.out (by decide) FIN.out.2.2.2

end Go.Proofs.YtihndbkaoejnnaaGreatDoor

namespace Go.Proofs.YtihndbkaoejnnaaGreatDoor.P
/-- What pick.At says against what it got. -/
def atErr (a : Arr) (bs : List Arr) : Int := if allErr (a :: bs) ≠ 0 then allErr (a :: bs) else pickErr a.nsh bs
/-- The cells at indices. -/
def atOf (a : Arr) (bs : List Arr) : Arr := ⟨a.ch, catSh bs, (placesOf a.nsh bs).map fun p => a.da.getD p.toNat 0⟩
theorem allErr_zero : ∀ {l : List Arr}, allErr l = 0 → ∀ b ∈ l, arrErr b = 0
  | [], _, b, hb => by cases hb
  | c :: l, h, b, hb => by
    unfold allErr at h
    by_cases e : arrErr c ≠ 0
    · rw [if_pos e] at h; exact absurd h e
    · rw [if_neg e] at h
      rcases List.mem_cons.1 hb with rfl | hb
      · simpa using e
      · exact allErr_zero h b hb
theorem pick_parts {t : List Nat} {bs : List Arr} (h : pickErr t bs = 0) : bs.length = t.length ∧ bs.any (·.ch) = false ∧ cntErr (catSh bs) = 0 ∧ idxBad t bs = false := by
  unfold pickErr at h
  by_cases h1 : bs.length ≠ t.length
  · rw [if_pos h1] at h; omega
  · rw [if_neg h1] at h
    by_cases h2 : bs.any (·.ch) = true
    · rw [if_pos h2] at h; omega
    · rw [if_neg h2] at h
      by_cases h3 : cntErr (catSh bs) ≠ 0
      · rw [if_pos h3] at h; exact absurd h h3
      · rw [if_neg h3] at h
        by_cases h4 : idxBad t bs = true
        · rw [if_pos h4] at h; omega
        · exact ⟨by simpa using h1, by simpa using h2, by simpa using h3, by simpa using h4⟩
end Go.Proofs.YtihndbkaoejnnaaGreatDoor.P
namespace Go.Proofs.YtihndbkaoejnnaaGreatDoor
open Go Go.RowKit Go.Proofs.YtihndbkaoejnnaaGreatDoor.P

theorem isArrs_nil (w : World) : IsArrs w (.slice none 0 0) [] :=
  ⟨none, 0, [], rfl, Nat.le_refl _, by omega, Nat.zero_le _, fun _ => rfl, ⟨rfl, fun u hu => (by cases hu), fun k b h => (by simp at h)⟩, fun j u h => (by simp at h)⟩

set_option maxRecDepth 100000 in
set_option maxHeartbeats 4000000 in
theorem pick_at {va vb : Value} {a : Arr} {bs : List Arr} {w : World} (ha : IsArr w va a) (hb : IsArrs w vb bs) :
    Calls Tryz.prog 125 #[va, vb] w (ToldN (atOf a bs) (atErr a bs) w) := by
  obtain ⟨A, ca, D, cd, rfl, hs, hd⟩ := ha.open_
  have HB := Lib.hid hb
  have HA := Lib.hid ha
  have HD := Lib.hid (show Elems w D a.da from hd.elems)
  obtain ⟨D0, cd0, eD, d1, d2, d3, d4, d5⟩ := id hd
  cases eD
  clear hs hd hb ha d4 d5
  go_enter Tryz.func125, Tryz.ntmps125
  have z1 := (Box.new w 25 #[.bool a.ch, .slice A a.sh.length ca, .slice D a.da.length cd]).alloc (.cells #[.bool false, .slice none 0 0, .slice none 0 0] 25)
  obtain ⟨t0, t1, t2⟩ := z1.three
  go_wp2_with fail
  refine (pick_check (HA.out.mono (below_two _ _ _)) (HB.out.mono (below_two _ _ _)) (isArrs_nil _) (by simp)).mono ?_
  rintro e w1 ⟨rfl, hb1⟩
  rw [List.append_nil]
  have bA := z1.below hb1
  have bR := (Box.new (w.alloc (.cells #[.bool a.ch, .slice A a.sh.length ca, .slice D a.da.length cd] 25)) 25 #[.bool false, .slice none 0 0, .slice none 0 0]).below hb1
  rw [World.size_alloc] at bR
  have hbw1 : Below w.heap.size w w1 := (below_two _ _ _).trans (hb1.mono (by simp; omega))
  have hs1 := hbw1.size
  clear t0 t1 t2 z1
  obtain ⟨q0, q1, q2⟩ := bR.three
  have qf := bR.frozen
  have hzR := bR.lt
  by_cases c1 : allErr (a :: bs) = 0
  · obtain ⟨t, ht⟩ := ok_of_arrErr (allErr_zero c1 a (List.mem_cons_self ..))
    have HG := Lib.hid (show ∀ b ∈ bs, ∃ s, Ok b s from fun b hb => ok_of_arrErr (allErr_zero c1 b (List.mem_cons_of_mem _ hb)))
    have HT := Lib.hid ht
    have HE := Lib.hid (show atErr a bs = pickErr t bs by unfold atErr; rw [if_neg (fun h => h c1), ht.nsh_eq])
    have HO := Lib.hid (show atOf a bs = ⟨a.ch, catSh bs, (placesOf t bs).map fun p => a.da.getD p.toNat 0⟩ by unfold atOf; rw [ht.nsh_eq])
    rw [c1, errV_zero]
    clear c1 ht
    obtain ⟨t0, t1, t2⟩ := bA.three
    go_wp2_with fail
    refine (pick_find (HA.out.mono hbw1) (HB.out.mono hbw1) HT.out HG.out).mono ?_
    rintro e w2 ⟨S1, n1, k1, Q1, M, q1_, rfl, hb2, hok⟩
    have HOK := Lib.hid hok
    have HW1 := Lib.hid hzR
    have bA2 := bA.below hb2
    have bR2 := bR.below hb2
    have hbw2 := hbw1.trans (hb2.mono hs1)
    have hs2 := hb2.size
    clear hok t0 t1 t2 q0 q1 q2 qf hzR bA bR
    obtain ⟨q0, q1, q2⟩ := bR2.three
    have qf := bR2.frozen
    by_cases c2 : pickErr t bs = 0
    · obtain ⟨rfl, hM, os, oq⟩ := HOK.out c2
      have C2 := Lib.hid c2
      rw [c2, errV_zero]
      clear c2 q0 q1 q2 qf
      obtain ⟨wC, hwC⟩ : ∃ wC, wC = w2.alloc (.cells #[.slice S1 (catSh bs).length k1, .slice Q1 M q1_] 218) := ⟨_, rfl⟩
      have OS := Lib.hid (os.alloc (.cells #[.slice S1 (catSh bs).length k1, .slice Q1 M q1_] 218))
      have OQ := Lib.hid (oq.alloc (.cells #[.slice S1 (catSh bs).length k1, .slice Q1 M q1_] 218))
      have bA1 := bA2.alloc (.cells #[.slice S1 (catSh bs).length k1, .slice Q1 M q1_] 218)
      have bR1 := bR2.alloc (.cells #[.slice S1 (catSh bs).length k1, .slice Q1 M q1_] 218)
      have bP1 := Box.new w2 218 #[.slice S1 (catSh bs).length k1, .slice Q1 M q1_]
      have hbwC := hbw2.alloc hbw2.size (.cells #[.slice S1 (catSh bs).length k1, .slice Q1 M q1_] 218)
      have HSC := Lib.hid (show wC.heap.size = w2.heap.size + 1 by rw [hwC]; simp)
      obtain ⟨P1, P2, P3, P4⟩ := pick_parts C2.out
      have hMp : M = prodLen bs := by rw [hM, ← placesTo_all (Nat.le_refl _), placesTo_len P1 (Nat.le_refl _), List.take_length]
      have hM4 : M ≤ 4096 := by rw [hMp]; exact (cat_val HG.out P3).2
      have HM := Lib.hid hM
      have HI := Lib.hid (show ∀ q ∈ placesOf t bs, 0 ≤ q ∧ q < (prod t : Int) by
        have h := places_in P1 P4 (k := bs.length) (Nat.le_refl _)
        rw [placesTo_all (Nat.le_refl _), P1, List.take_length] at h
        exact h)
      clear hM hMp P1 P2 P3 P4
      obtain ⟨t0, t1, t2⟩ := bA1.three
      obtain ⟨p0, p1⟩ := bP1.two
      go_wp2_with fail
      rw [← hwC] at OS OQ bA1 bR1 bP1 hbwC t0 t1 t2 p0 p1 ⊢
      have hpl := bP1.lt
      have hal := bA1.lt
      have hal1 := bR1.lt
      have hmk := run_make_ints M (by omega)
      clear hwC bA2 bR2 os oq hb1 hb2
      refine wp_region_open (fun i v lo hi w' => match i with
        | 0 => v = .pointer (some ⟨w.heap.size, 0, none⟩)
        | 1 => v = .bool a.ch
        | 2 => v = .pointer (some ⟨w2.heap.size, 0, none⟩)
        | 3 => v = .slice S1 (catSh bs).length k1
        | 4 => v = .pointer (some ⟨w2.heap.size, 1, none⟩)
        | 5 => v = .slice Q1 M q1_
        | 6 => v = .int .i64 M
        | 7 => ∃ m, v = .slice (some ⟨m, 0, none⟩) 0 M ∧ Owns w' lo v 0 [] ∧ m < hi ∧ wC.heap.size ≤ lo
        | 8 => ∃ m, v = .agg #[.bool a.ch, .slice S1 (catSh bs).length k1, .slice (some ⟨m, 0, none⟩) 0 M] ∧ Owns w' (wC.heap.size) (.slice (some ⟨m, 0, none⟩) 0 M) 0 []
        | 9 => ∃ g, v = .pointer (some ⟨g, 0, none⟩) ∧ Box w' g 25 #[.bool false, .slice none 0 0, .slice none 0 0] ∧ wC.heap.size ≤ g
        | _ => True) (by kernel_rfl) (by kernel_rfl) (by kernel_rfl) ?hV ?step ?last
      case hV =>
        intro i v lo hi w1 w2 h hb
        match i, h with
        | 0, h => exact h
        | 1, h => exact h
        | 2, h => exact h
        | 3, h => exact h
        | 4, h => exact h
        | 5, h => exact h
        | 6, h => exact h
        | 7, ⟨m, e, ho, hl, hz⟩ => exact ⟨m, e, ho.below hb, hl, hz⟩
        | 8, ⟨m, e, ho'⟩ => exact ⟨m, e, ho'.below hb⟩
        | 9, ⟨g, e, hx, hz⟩ => exact ⟨g, e, hx.below hb, hz⟩
        | i + 10, _ => trivial
      case step =>
        simp only [putAll, Act.put, List.setIfInBounds_toArray, List.set_cons_zero, List.set_cons_succ, Nat.reduceAdd, Nat.zero_add]
        intro i o ho hi uu lo up wr hbr hd hj K hK
        obtain ⟨hcw, hfw⟩ := bcell hbr
        match i, ho with
        | 0, ho =>
          simp only [List.getElem?_cons_zero, Option.some.injEq] at ho
          subst ho
          first | (simp [Region.binds] at hd; simp only [hd] at hK) | skip
          refine wpOp_step rfl fun K' hK' => ?_
          go_simp
          exact hK' _ _ (hK _ _ (Below.refl _ _) rfl)
        | 1, ho =>
          simp only [List.getElem?_cons_succ, List.getElem?_cons_zero, Option.some.injEq] at ho
          subst ho
          first | (simp [Region.binds] at hd; simp only [hd] at hK) | skip
          refine wpOp_step rfl fun K' hK' => ?_
          go_simp
          exact hK' _ _ (hK _ _ (Below.refl _ _) rfl)
        | 2, ho =>
          simp only [List.getElem?_cons_succ, List.getElem?_cons_zero, Option.some.injEq] at ho
          subst ho
          first | (simp [Region.binds] at hd; simp only [hd] at hK) | skip
          refine wpOp_step rfl fun K' hK' => ?_
          go_simp
          exact hK' _ _ (hK _ _ (Below.refl _ _) rfl)
        | 3, ho =>
          simp only [List.getElem?_cons_succ, List.getElem?_cons_zero, Option.some.injEq] at ho
          subst ho
          first | (simp [Region.binds] at hd; simp only [hd] at hK) | skip
          refine wpOp_step rfl fun K' hK' => ?_
          go_simp
          exact hK' _ _ (hK _ _ (Below.refl _ _) rfl)
        | 4, ho =>
          simp only [List.getElem?_cons_succ, List.getElem?_cons_zero, Option.some.injEq] at ho
          subst ho
          first | (simp [Region.binds] at hd; simp only [hd] at hK) | skip
          refine wpOp_step rfl fun K' hK' => ?_
          go_simp
          exact hK' _ _ (hK _ _ (Below.refl _ _) rfl)
        | 5, ho =>
          simp only [List.getElem?_cons_succ, List.getElem?_cons_zero, Option.some.injEq] at ho
          subst ho
          first | (simp [Region.binds] at hd; simp only [hd] at hK) | skip
          refine wpOp_step rfl fun K' hK' => ?_
          go_simp
          exact hK' _ _ (hK _ _ (Below.refl _ _) rfl)
        | 6, ho =>
          simp only [List.getElem?_cons_succ, List.getElem?_cons_zero, Option.some.injEq] at ho
          subst ho
          first | (simp [Region.binds] at hd; simp only [hd] at hK) | skip
          refine wpOp_step rfl fun K' hK' => ?_
          go_simp
          exact hK' _ _ (hK _ _ (Below.refl _ _) rfl)
        | 7, ho =>
          simp only [List.getElem?_cons_succ, List.getElem?_cons_zero, Option.some.injEq] at ho
          subst ho
          first | (simp [Region.binds] at hd; simp only [hd] at hK) | skip
          have hz := hbr.size
          try simp only [World.size_alloc] at hz
          refine wpOp_step rfl fun K' hK' => ?_
          go_simp
          exact hK' _ _ (hK _ _ (below_one _ _) ⟨_, rfl, ⟨World.ownsRow_made _ _ _ (Nat.le_refl _) (by unfold maxLen; omega) (by simp [size_madeCells]), by omega⟩, by simp, by omega⟩)
        | 8, ho =>
          simp only [List.getElem?_cons_succ, List.getElem?_cons_zero, Option.some.injEq] at ho
          subst ho
          have h1 : uu 1 = .bool a.ch := hd ⟨1, .data⟩ (by simp) rfl
          have h3 : uu 3 = .slice S1 (catSh bs).length k1 := hd ⟨3, .data⟩ (by simp) rfl
          obtain ⟨m, ed, od, ld, zd⟩ := hd ⟨7, .data⟩ (by simp) rfl
          dsimp only at od ld zd
          simp only [h1, h3, ed] at hK
          rw [ed] at od
          refine wpOp_step rfl fun K' hK' => ?_
          go_simp
          exact hK' _ _ (hK _ _ (Below.refl _ _) ⟨m, rfl, od.base (by omega)⟩)
        | 9, ho =>
          simp only [List.getElem?_cons_succ, List.getElem?_cons_zero, Option.some.injEq] at ho
          subst ho
          first | (simp [Region.binds] at hd; simp only [hd] at hK) | skip
          have hz := hbr.size
          try simp only [World.size_alloc] at hz
          refine wpOp_step rfl fun K' hK' => ?_
          go_simp
          exact hK' _ _ (hK _ _ (below_one _ _) ⟨_, rfl, Box.new _ _ _, by omega⟩)
        | i + 10, ho => simp at hi; omega
      case last =>
        simp only [putAll, Act.put, List.setIfInBounds_toArray, List.set_cons_zero, List.set_cons_succ, Nat.reduceAdd, Nat.zero_add]
        intro uu wr lo up hbr hv hj
        obtain ⟨m, e9, o8⟩ := hv 8 (by simp)
        obtain ⟨g, e10, bg, hg⟩ := hv 9 (by simp)
        obtain ⟨g0, g1, g2⟩ := bg.three
        have gf := bg.frozen
        simp only [e9, e10]
        clear hv hj e9 e10
        refine wpOp_step rfl fun K' hK' => ?_
        go_simp
        refine hK' _ _ ?_
        have hbw := ((Below.refl wC.heap.size wC)).trans (hbr.mono (Nat.le_refl _))
        have hgg := grownBy_three wr g (.bool a.ch) (.slice S1 (catSh bs).length k1) (.slice (some ⟨m, 0, none⟩) 0 M)
        have i1 := ((bg.store 0 (.bool a.ch)).store 1 (.slice S1 (catSh bs).length k1)).store 2 (.slice (some ⟨m, 0, none⟩) 0 M)
        simp only [List.setIfInBounds_toArray, List.set_cons_zero, List.set_cons_succ] at i1
        have i2 := o8.kept hgg (.inr (o8.ne_box bg (by decide)))
        have iw := hbw.grown hgg hbw.size (fun j e => by cases e; omega)
        have hgl : g < (((wr.setCell ⟨g, 0, none⟩ (.bool a.ch)).setCell ⟨g, 1, none⟩ (.slice S1 (catSh bs).length k1)).setCell ⟨g, 2, none⟩ (.slice (some ⟨m, 0, none⟩) 0 M)).heap.size := i1.lt
        clear hbr hgg o8 bg g0 g1 g2 gf hbw hK' 
        generalize (((wr.setCell ⟨g, 0, none⟩ (.bool a.ch)).setCell ⟨g, 1, none⟩ (.slice S1 (catSh bs).length k1)).setCell ⟨g, 2, none⟩ (.slice (some ⟨m, 0, none⟩) 0 M)) = W2 at i2 i1 iw hgl ⊢
        have hgC : wC.heap.size ≤ g := hg
        obtain ⟨T, hT⟩ : ∃ T, T = (placesOf t bs).map fun p => a.da.getD p.toNat 0 := ⟨_, rfl⟩
        have TL := Lib.hid (show T.length = M by rw [hT, List.length_map, HM.out])
        have HTT := Lib.hid hT
        have QE := Lib.hid (OQ.out.isInts.elems)
        have QL := Lib.hid OQ.out.length
        have HDC := Lib.hid (Elems.mono HD.out hbwC)
        have bP2 := Box.below bP1 iw
        obtain ⟨pp0, pp1⟩ := bP2.two
        have BA := Lib.hid (bA1.below iw)
        have BR := Lib.hid (bR1.below iw)
        clear hT p0 p1 t0 t1 t2 hmk bA1 bR1 bP1 bP2
        have iwW := iw
        go_wp2_with fail
        go_loopw [41] (fun s41 wr => ∃ (k : Nat) (A4 : Option Addr) (c4 : Nat), k ≤ M ∧ s41 = .int .i64 k ∧ Box wr g 25 #[.bool a.ch, .slice S1 (catSh bs).length k1, .slice A4 k c4] ∧ Owns wr wC.heap.size (.slice A4 k c4) k (T.take k) ∧ Below wC.heap.size wC wr ∧ Box wr w.heap.size 25 #[.bool a.ch, .slice A a.sh.length ca, .slice D a.da.length cd] ∧ Box wr (w.heap.size + 1) 25 #[.bool false, .slice none 0 0, .slice none 0 0]) (fun s41 _ => M - (intOf s41).toNat)
        case atStart => exact ⟨0, some ⟨m, 0, none⟩, M, Nat.zero_le _, rfl, i1, by rw [List.take_zero]; exact i2, iw, BA.out, BR.out⟩
        case round =>
          clear i1 i2 iw iwW hgl pp0 pp1
          obtain ⟨k, A4, c4, hk, rfl, h1, h2, hbl, h3, h4⟩ := hrel
          have hz := hbl.size
          have hgw := h1.lt
          rcases Nat.lt_or_ge k M with hlt | hge
          · obtain ⟨adq, q, rfl, hq, halq, hcq⟩ := Elems.later QE.out hbl (k := k) (by rw [QL.out]; exact hlt)
            obtain ⟨y0, y1⟩ := HI.out q (List.mem_of_getElem? hq)
            obtain ⟨qn, rfl⟩ := Int.eq_ofNat_of_zero_le y0
            have hqd : qn < a.da.length := by rw [HT.out.len]; omega
            obtain ⟨adx, x, rfl, hx, halx, hcx⟩ := Elems.later HDC.out hbl hqd
            have HX := Lib.hid (show T.take k ++ [x] = T.take (k + 1) by
              refine take_at ?_
              rw [HTT.out, List.getElem?_map, hq]
              simp only [Option.map_some, Int.toNat_natCast, List.getD_eq_getElem?_getD, hx, Option.getD_some])
            obtain ⟨t0, t1, t2⟩ := h3.three
            obtain ⟨g0, g1, g2⟩ := h1.three
            have gf := h1.frozen 2
            have hne := h2.ne_box h1 (by decide)
            have hne2 := h2.ne_low (b := adx.block) (by omega)
            have hne3 := h2.ne_low (b := w.heap.size) (by omega)
            clear hq hx y0 y1
            go_wp2_with fail
            go_region_law
              ((refine step_append_ints _ rfl rfl _ _ (by rfl) wC.heap.size k _ (T.take k) (by rfl) ((h2.alloc _).drew) (some ⟨wr.heap.size, 0, none⟩) 1 1 [x] (by rfl) (by simp) (elems_new wr x) rfl (by omega) (by simp; omega) ?_; intro A5 c5 w5 hown5 hgrow5 hat5; have b5 := ((h1.alloc _).drew).grown hgrow5 hne; have hc5 := b5.three.2.2; have hf5 := b5.frozen 2; have hk5 := cell_kept1 hcx hgrow5 (by rw [addr_block_add]; exact hne2)))
            all_goals
              go_wp2
              go_roundw
              case rel => exact ⟨k + 1, A5, c5, by omega, by go_num, b5.store 2 _, by rw [← HX.out]; exact hown5.setCell (p := ⟨g, 2, none⟩) (hown5.ne_box b5 (by decide)) _, (((hbl.alloc hz _).drew).grown hgrow5 (by simp; omega) (fun _ e => (h2.lt e).1)).setCell (p := ⟨g, 2, none⟩) (by simp; omega) _, (((h3.alloc _).drew).grown hgrow5 hne3).far (p := ⟨g, 2, none⟩) (by simp; omega) _, (((h4.alloc _).drew).grown hgrow5 (h2.ne_low (by omega))).far (p := ⟨g, 2, none⟩) (by simp; omega) _⟩
              case measure => simp [intOf]; omega
          · have hke : k = M := by omega
            subst hke
            rw [List.take_of_length_le (by rw [TL.out]; exact Nat.le_refl _)] at h2
            obtain ⟨g0, g1, g2⟩ := h1.three
            have rf := h4.frozen
            obtain ⟨e0, e1, e2⟩ := h4.three
            have rl := h4.lt
            clear h3
            go_wp2_with fail
            have hgg := grownBy_three wr (w.heap.size + 1) (.bool a.ch) (.slice S1 (catSh bs).length k1) (.slice A4 k c4)
            have z := ((h4.store 0 (.bool a.ch)).store 1 (.slice S1 (catSh bs).length k1)).store 2 (.slice A4 k c4)
            simp only [List.setIfInBounds_toArray, List.set_cons_zero, List.set_cons_succ] at z
            obtain ⟨z0, z1, z2⟩ := z.three
            have zl := z.lt
            refine bodyPost_ret (v := .tuple #[.agg #[.bool a.ch, .slice S1 (catSh bs).length k1, .slice A4 k c4], .nilIface]) (by simp [results, Tryz.results125, go_sem, z0, z1, z2, zl]) rfl ?_
            have j2 := h2.kept hgg (.inr (h2.ne_low (by omega)))
            have os := (OS.out.below hbl)
            have hw1l := HW1.out
            have j1 := os.kept hgg (.inr (os.ne_low (by omega)))
            refine .inl ⟨by rw [HE.out]; exact C2.out, _, rfl, ?_, (hbwC.trans (hbl.mono hbwC.size)).grown hgg (hbwC.trans (hbl.mono hbwC.size)).size (fun j e => by cases e; omega), ?_⟩
            · rw [HO.out, ← HTT.out]
              exact ⟨_, _, rfl, j1.isInts, j2.isInts⟩
            · exact ⟨_, _, _, _, _, _, _, rfl, fun b e => by have := (j1.lt e).1; omega, fun b e => by have := (j2.lt e).1; have := hbwC.size; omega⟩
    · have C2 := Lib.hid c2
      rw [errV_ne c2]
      clear c2
      have hzR := bR2.lt
      go_wp2_with fail
      refine bodyPost_ret (v := .tuple #[zeroArr, .iface 54 (.int .i64 (pickErr t bs))]) (by simp [results, Tryz.results125, go_sem, q0, q1, q2, hzR]) rfl ?_
      exact .inr ⟨by rw [HE.out]; exact C2.out, by rw [HE.out], by have := hbw2.size; go_grown⟩
  · have C1 := Lib.hid c1
    have HE := Lib.hid (show atErr a bs = allErr (a :: bs) by unfold atErr; rw [if_pos c1])
    rw [errV_ne c1]
    clear c1
    go_wp2_with fail
    refine bodyPost_ret (v := .tuple #[zeroArr, .iface 54 (.int .i64 (allErr (a :: bs)))]) (by simp [results, Tryz.results125, go_sem, q0, q1, q2, hzR]) rfl ?_
    exact .inr ⟨by rw [HE.out]; exact C1.out, by rw [HE.out], by have := hbw1.size; go_grown⟩

end Go.Proofs.YtihndbkaoejnnaaGreatDoor

namespace Go.Proofs.YtihndbkaoejnnaaGreatDoor.P

theorem allErr_ok : ∀ {l : List Arr}, (∀ b ∈ l, ∃ s, Ok b s) → allErr l = 0
  | [], _ => rfl
  | c :: l, h => by
    obtain ⟨s, hs⟩ := h c (List.mem_cons_self ..)
    unfold allErr
    rw [if_neg (by rw [arrErr_ok hs]; simp)]
    exact allErr_ok fun b hb => h b (List.mem_cons_of_mem _ hb)
theorem atErr_of {a : Arr} {t : List Nat} {bs : List Arr} (ha : Ok a t) (hb : ∀ b ∈ bs, ∃ s, Ok b s) (hp : pickErr t bs = 0) : atErr a bs = 0 := by
  unfold atErr
  rw [if_neg (by rw [allErr_ok (fun b h => (List.mem_cons.1 h).elim (fun e => e ▸ ⟨t, ha⟩) (hb b))]; simp), ha.nsh_eq, hp]
end Go.Proofs.YtihndbkaoejnnaaGreatDoor.P

namespace Go.Proofs.YtihndbkaoejnnaaGreatDoor
open Go Go.RowKit Go.Proofs.YtihndbkaoejnnaaGreatDoor.P

/-- A list of one array that the call itself made. -/
theorem arrs_one {w : World} {g : Nat} {b : Arr} {A D : Option Addr} {ca cd : Nat} (h : Box w g 25 #[.bool b.ch, .slice A b.sh.length ca, .slice D b.da.length cd]) (hb : IsArr w (.agg #[.bool b.ch, .slice A b.sh.length ca, .slice D b.da.length cd]) b) :
    IsArrs w (.slice (some ⟨g, 0, none⟩) 1 1) [b] := by
  refine ⟨some ⟨g, 0, none⟩, 1, _, rfl, Nat.le_refl _, by omega, by simp, (fun e => by cases e), AllCells.one hb, fun j u hj => ?_⟩
  refine ⟨_, rfl, h.lt, ?_⟩
  have hc := (h.cell j)
  rw [show (⟨g, 0, none⟩ : Addr).add j = ⟨g, j, none⟩ from addr_zero_add g j, hc]
  simpa using hj
end Go.Proofs.YtihndbkaoejnnaaGreatDoor

namespace Go.Proofs.YtihndbkaoejnnaaGreatDoor.P

/-- All indices of each axis. -/
def allIdx (t : List Nat) : List Arr := t.map firstNums
theorem ints_range_add (m n : Nat) : ints (List.range (m + n)) = ints (List.range m) ++ (ints (List.range n)).map fun i => (m : Int) + i := by
  unfold ints
  rw [List.range_add, List.map_append, List.map_map, List.map_map]
  congr 1
theorem stepAt_append (Q R : List Int) (n : Nat) (d : List Int) : stepAt (Q ++ R) n d = stepAt Q n d ++ stepAt R n d := by
  unfold stepAt; rw [List.flatMap_append]
theorem ints_range_succ (m : Nat) : ints (List.range (m + 1)) = ints (List.range m) ++ [(m : Int)] := by
  unfold ints; rw [List.range_succ, List.map_append]; rfl
theorem stepAt_range (n : Nat) : ∀ m, stepAt (ints (List.range m)) n (ints (List.range n)) = ints (List.range (m * n))
  | 0 => by simp [stepAt, ints]
  | m + 1 => by
    rw [ints_range_succ, stepAt_append, stepAt_range n m, Nat.add_mul, Nat.one_mul, ints_range_add]
    congr 1
    simp [stepAt]
/-- All steps from any places on. -/
theorem steps_all : ∀ (t : List Nat) (Q : List Int), (t.zip (allIdx t)).foldl (fun Q p => stepAt Q p.1 p.2.da) Q = Q.flatMap fun q : Int => (ints (List.range (prod t))).map fun r : Int => q * ((prod t : Nat) : Int) + r
  | [], Q => by simp [allIdx, prod, ints]
  | n :: t, Q => by
    show ((t.zip (allIdx t)).foldl (fun Q p => stepAt Q p.1 p.2.da) (stepAt Q n (ints (List.range n)))) = _
    rw [steps_all t]
    unfold stepAt
    rw [List.flatMap_assoc]
    congr 1
    funext q
    rw [prod, ← stepAt_range]
    unfold stepAt
    rw [List.map_flatMap, List.flatMap_map]
    congr 1
    funext i
    rw [List.map_map]
    congr 1
    funext r
    simp only [Function.comp]
    rw [Int.natCast_mul, Int.add_mul, ← Int.mul_assoc]
    omega
theorem catSh_all (t : List Nat) : catSh (allIdx t) = ints t := by
  unfold catSh allIdx ints
  rw [List.flatMap_map]
  simp only [firstNums]
  induction t with
  | nil => rfl
  | cons n t ih => rw [List.flatMap_cons, ih]; rfl
theorem idx_row {n : Nat} {d : List Int} (h : ∀ i ∈ d, 0 ≤ i ∧ i < (n : Int)) : (d.any fun i => decide (i < 0 ∨ (n : Int) ≤ i)) = false := by
  rw [List.any_eq_false]
  intro i hi
  have := h i hi
  simp only [decide_eq_true_eq]
  omega
theorem idxBad_all : ∀ t : List Nat, idxBad t (allIdx t) = false
  | [] => rfl
  | n :: t => by
    unfold idxBad
    show (List.any ((n, firstNums n) :: t.zip (allIdx t)) _) = false
    rw [List.any_cons, Bool.or_eq_false_iff]
    refine ⟨idx_row fun i hi => ?_, idxBad_all t⟩
    unfold firstNums ints at hi
    simp only [List.mem_map, List.mem_range] at hi
    obtain ⟨k, hk, rfl⟩ := hi
    omega
end Go.Proofs.YtihndbkaoejnnaaGreatDoor.P
