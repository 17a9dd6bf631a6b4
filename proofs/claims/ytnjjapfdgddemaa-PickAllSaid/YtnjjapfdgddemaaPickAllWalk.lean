/- The walk of the law PickAll. Conditions: none. -/
import Derived.Test.YtnjjapfdgddemaaPickLaw
import Derived.Test.YtnjjapfdgddemaaAllPlain
import Derived.Test.YtnjjapfdgddemaaIotaOwn
import Derived.Test.YtnjjapfdgddemaaIntsAt
import Derived.Test.YtnjjapfdgddemaaStore
import Derived.Test.YtnjjapfdgddemaaMore
import Derived.Test.YtnjjapfdgddemaaRev
import Derived.Test.YtnjjapfdgddemaaAlike
import Derived.Test.YtnjjapfdgddemaaMake
namespace Go.Proofs.Ytnjjapfdgddemaa
open Go Go.RowKit Go.Proofs.Ytnjjapfdgddemaa.P

/-- What the loop lays: for each axis its indices, their lists new. -/
def AllOwn (w : World) (B : Nat) (us : List Value) (t : List Nat) : Prop := us.length = t.length * 3 ∧ ∀ (j n : Nat), t[j]? = some n → ∃ S cs D cd, us[j * 3]? = some (.bool false) ∧ us[j * 3 + 1]? = some (.slice S 1 cs) ∧ us[j * 3 + 2]? = some (.slice D n cd) ∧
  Owns w B (.slice S 1 cs) 1 [(n : Int)] ∧ Owns w B (.slice D n cd) n (ints (List.range n))
theorem AllOwn.nil (w : World) (B : Nat) : AllOwn w B [] [] := ⟨rfl, fun j n h => by simp at h⟩
theorem AllOwn.below {w w' : World} {B : Nat} {us : List Value} {t : List Nat} (h : AllOwn w B us t) (hb : Below w.heap.size w w') : AllOwn w' B us t :=
  ⟨h.1, fun j n hj => by
    obtain ⟨S, cs, D, cd, h1, h2, h3, h4, h5⟩ := h.2 j n hj
    exact ⟨S, cs, D, cd, h1, h2, h3, h4.below hb, h5.below hb⟩⟩
theorem AllOwn.snoc {w : World} {B n : Nat} {us : List Value} {t : List Nat} {S D : Option Addr} {cs cd : Nat} (h : AllOwn w B us t) (hs : Owns w B (.slice S 1 cs) 1 [(n : Int)]) (hd : Owns w B (.slice D n cd) n (ints (List.range n))) :
    AllOwn w B (us ++ [.bool false, .slice S 1 cs, .slice D n cd]) (t ++ [n]) := by
  refine ⟨by simp [h.1]; omega, fun j m hj => ?_⟩
  rcases Nat.lt_or_ge j t.length with hl | hl
  · rw [List.getElem?_append_left hl] at hj
    obtain ⟨S', cs', D', cd', h1, h2, h3, h4, h5⟩ := h.2 j m hj
    have := h.1
    exact ⟨S', cs', D', cd', by rw [List.getElem?_append_left (by omega)]; exact h1, by rw [List.getElem?_append_left (by omega)]; exact h2, by rw [List.getElem?_append_left (by omega)]; exact h3, h4, h5⟩
  · have hj' := hj
    rw [List.getElem?_append_right hl] at hj
    have e : j - t.length = 0 := by
      have := (List.getElem?_eq_some_iff.1 hj).1
      simp at this
      omega
    have ej : j = t.length := by omega
    subst ej
    simp at hj
    subst hj
    have := h.1
    refine ⟨S, cs, D, cd, ?_, ?_, ?_, hs, hd⟩
    · rw [List.getElem?_append_right (by omega), show t.length * 3 - us.length = 0 by omega]; rfl
    · rw [List.getElem?_append_right (by omega), show t.length * 3 + 1 - us.length = 1 by omega]; rfl
    · rw [List.getElem?_append_right (by omega), show t.length * 3 + 2 - us.length = 2 by omega]; rfl
theorem Owns.not_row {w : World} {B C n m : Nat} {v u : Value} {xs : List Int} {us : List Value} (h : Owns w B v n xs) (ho : OwnsA w C u m us) : v.ownBlock = none ∨ v.ownBlock ≠ u.ownBlock := by
  rcases ho.2 with ⟨rfl, -⟩ | ⟨g, cap, cur, rfl, -, hg, -⟩
  · cases v.ownBlock
    · exact .inl rfl
    · exact .inr (by simp [Value.ownBlock])
  · exact .inr (h.ne_box (b := g) (cs := cur) hg (by decide))
theorem AllOwn.kept {w w' : World} {B C m : Nat} {u : Value} {us vs : List Value} {t : List Nat} (h : AllOwn w B us t) (ho : OwnsA w C u m vs) (hg : w.grownBy w' u.ownBlock) : AllOwn w' B us t :=
  ⟨h.1, fun j n hj => by
    obtain ⟨S, cs, D, cd, h1, h2, h3, h4, h5⟩ := h.2 j n hj
    exact ⟨S, cs, D, cd, h1, h2, h3, h4.kept hg (h4.not_row ho), h5.kept hg (h5.not_row ho)⟩⟩
theorem allIdx_get {t : List Nat} {k : Nat} {b : Arr} (h : (allIdx t)[k]? = some b) : ∃ n, t[k]? = some n ∧ b = firstNums n := by
  unfold allIdx at h
  rw [List.getElem?_map] at h
  rcases ht : t[k]? with _ | n
  · rw [ht] at h; cases h
  · rw [ht] at h; injection h with h; exact ⟨n, rfl, h.symm⟩
theorem AllOwn.cells {w : World} {B : Nat} {us : List Value} {t : List Nat} (h : AllOwn w B us t) : AllCells w us (allIdx t) := by
  refine ⟨by rw [h.1]; simp [allIdx], fun u hu => ?_, fun k b hk => ?_⟩
  · obtain ⟨i, hi⟩ := List.getElem?_of_mem hu
    have hl := (List.getElem?_eq_some_iff.1 hi).1
    have := h.1
    obtain ⟨n, hn⟩ : ∃ n, t[i / 3]? = some n := ⟨_, List.getElem?_eq_getElem (by omega)⟩
    obtain ⟨S, cs, D, cd, h1, h2, h3, -, -⟩ := h.2 _ _ hn
    have h0 : i = i / 3 * 3 ∨ i = i / 3 * 3 + 1 ∨ i = i / 3 * 3 + 2 := by omega
    rcases h0 with e | e | e
    · rw [e, h1] at hi; injection hi with hi; subst hi; rfl
    · rw [e, h2] at hi; injection hi with hi; subst hi; rfl
    · rw [e, h3] at hi; injection hi with hi; subst hi; rfl
  · obtain ⟨n, hn, rfl⟩ := allIdx_get hk
    obtain ⟨S, cs, D, cd, h1, h2, h3, h4, h5⟩ := h.2 k n hn
    have hl : (firstNums n).da.length = n := by simp [firstNums, ints]
    exact ⟨S, cs, D, cd, h1, h2, by rw [hl]; exact h3, h4.isInts, by rw [hl]; exact h5.isInts⟩
theorem AllOwn.isArrs {w : World} {B C : Nat} {us : List Value} {t : List Nat} {R : Option Addr} {c : Nat} (h : AllOwn w B us t) (ho : OwnsA w C (.slice R t.length c) t.length us) (h6 : t.length ≤ 6) : IsArrs w (.slice R t.length c) (allIdx t) := by
  obtain ⟨A', c', e, h1, h2, h3, h4, -⟩ := ho.form
  injection e with e1 _ e3
  subst e1 e3
  have hl : (allIdx t).length = t.length := by simp [allIdx]
  exact ⟨R, c, us, by rw [hl], by rw [hl]; exact h1, h2, by rw [hl]; omega, h3, h.cells, h4⟩
theorem OwnsA.mono {w w' : World} {B n : Nat} {v : Value} {us : List Value} (h : OwnsA w B v n us) (hb : Below w.heap.size w w') : OwnsA w' B v n us :=
  World.ownsRow.kept (row := none) h ⟨hb.os, hb.tape, hb.output, hb.size, fun k hk _ => hb.block k hk⟩ (by cases v.ownBlock <;> simp)
theorem AllOwn.mono {w w' : World} {B : Nat} {us : List Value} {t : List Nat} (h : AllOwn w B us t) (hb : Below w.heap.size w w') : AllOwn w' B us t := h.below hb
theorem OwnsA.at_ {w : World} {B n : Nat} {R : Option Addr} {c : Nat} {us : List Value} (h : OwnsA w B (.slice R n c) n us) (h0 : 0 < n) :
    ∃ g, R = some ⟨g, 0, none⟩ ∧ B ≤ g ∧ ∃ cur, Box w g 24 cur ∧ ∀ j u, us[j]? = some u → w.cell? ⟨g, j, none⟩ = some u := by
  rcases h.2 with ⟨e, -⟩ | ⟨g, cap, cur, e, hb, hg, hn, hm, hs, ht⟩
  · injection e with _ e _; omega
  · injection e with e1 e2 e3
    subst e1 e3
    refine ⟨g, rfl, hb, cur, hg, fun j u hj => ?_⟩
    have := h.cells (g := g) rfl j u hj
    rwa [addr_zero_add] at this
/-- The first array of the list, laid anew. -/
theorem IsArrs.put {w : World} {B C n g : Nat} {t : List Nat} {c : Nat} {us : List Value} {S D : Option Addr} {cs cd : Nat} (ho : OwnsA w C (.slice (some ⟨g, 0, none⟩) (n :: t).length c) (n :: t).length us) (hall : AllOwn w B us (n :: t))
    (hg : w.grownBy (((w.setCell ⟨g, 0, none⟩ (.bool (rev 0 (firstNums n)).ch)).setCell ⟨g, 1, none⟩ (.slice S (rev 0 (firstNums n)).sh.length cs)).setCell ⟨g, 2, none⟩ (.slice D (rev 0 (firstNums n)).da.length cd)) (some g))
    (hi : IsArr (((w.setCell ⟨g, 0, none⟩ (.bool (rev 0 (firstNums n)).ch)).setCell ⟨g, 1, none⟩ (.slice S (rev 0 (firstNums n)).sh.length cs)).setCell ⟨g, 2, none⟩ (.slice D (rev 0 (firstNums n)).da.length cd)) (.agg #[.bool (rev 0 (firstNums n)).ch, .slice S (rev 0 (firstNums n)).sh.length cs, .slice D (rev 0 (firstNums n)).da.length cd]) (rev 0 (firstNums n))) (h6 : (n :: t).length ≤ 6 := by omega) :
    IsArrs (((w.setCell ⟨g, 0, none⟩ (.bool (rev 0 (firstNums n)).ch)).setCell ⟨g, 1, none⟩ (.slice S (rev 0 (firstNums n)).sh.length cs)).setCell ⟨g, 2, none⟩ (.slice D (rev 0 (firstNums n)).da.length cd)) (.slice (some ⟨g, 0, none⟩) (n :: t).length c) (backIdx (n :: t)) := by
  obtain ⟨A', c', e, h1, h2, h3, h4, -⟩ := ho.form
  injection e with e1 _ e3
  subst e1 e3
  obtain ⟨g', hg', -, cur, hbx, hcl⟩ := ho.at_ (by simp)
  obtain rfl : g = g' := by injection hg' with e; injection e
  have hl : (backIdx (n :: t)).length = (n :: t).length := by simp [backIdx, allIdx]
  have hul := hall.1
  simp only [List.length_cons] at hul
  have hk : AllOwn (((w.setCell ⟨g, 0, none⟩ (.bool (rev 0 (firstNums n)).ch)).setCell ⟨g, 1, none⟩ (.slice S (rev 0 (firstNums n)).sh.length cs)).setCell ⟨g, 2, none⟩ (.slice D (rev 0 (firstNums n)).da.length cd)) B us (n :: t) := hall.kept ho hg
  have hbn := Box.store (Box.store (Box.store hbx 0 (.bool (rev 0 (firstNums n)).ch)) 1 (.slice S (rev 0 (firstNums n)).sh.length cs)) 2 (.slice D (rev 0 (firstNums n)).da.length cd)
  have hcu : ∀ j u, us[j]? = some u → cur[j]? = some u := fun j u hj => by rw [← hbx.cell j]; exact hcl j u hj
  have hcs : 3 ≤ cur.size := by
    have := hcu 2 _ (List.getElem?_eq_getElem (show 2 < us.length by omega))
    have := (Array.getElem?_eq_some_iff.1 this).1
    omega
  refine ⟨some ⟨g, 0, none⟩, c, [.bool (rev 0 (firstNums n)).ch, .slice S (rev 0 (firstNums n)).sh.length cs, .slice D (rev 0 (firstNums n)).da.length cd] ++ us.drop 3, by rw [hl], by rw [hl]; exact h1, h2, by rw [hl]; omega, (fun e => by cases e), ?_, ?_⟩
  · have hc := hk.cells
    refine ⟨by rw [hl]; simp [hul]; omega, fun u hu => ?_, fun k b hb => ?_⟩
    · rcases List.mem_append.1 hu with h | h
      · simp at h; rcases h with rfl | rfl | rfl <;> rfl
      · exact hc.2.1 u (List.mem_of_mem_drop h)
    · rcases k with _ | k
      · simp only [backIdx, List.getElem?_cons_zero, Option.some.injEq] at hb
        subst hb
        exact ⟨S, cs, D, cd, rfl, rfl, rfl, hi.shapeOf, hi.dataOf⟩
      · have hb' : (allIdx (n :: t))[k + 1]? = some b := by simpa [backIdx, allIdx] using hb
        obtain ⟨S', cs', D', cd', q1, q2, q3, q4, q5⟩ := hc.2.2 (k + 1) b hb'
        refine ⟨S', cs', D', cd', ?_, ?_, ?_, q4, q5⟩
        · rw [List.getElem?_append_right (by simp; omega), List.getElem?_drop, ← q1]; congr 1; simp; omega
        · rw [List.getElem?_append_right (by simp; omega), List.getElem?_drop, ← q2]; congr 1; simp; omega
        · rw [List.getElem?_append_right (by simp; omega), List.getElem?_drop, ← q3]; congr 1; simp; omega
  · intro j u hj
    refine ⟨_, rfl, Box.lt hbn, ?_⟩
    rw [addr_zero_add, hbn.cell j]
    rcases Nat.lt_or_ge j 3 with h | h
    · have h3 : j = 0 ∨ j = 1 ∨ j = 2 := by omega
      rcases h3 with rfl | rfl | rfl
      · rw [Array.getElem?_setIfInBounds, if_neg (by decide), Array.getElem?_setIfInBounds, if_neg (by decide), Array.getElem?_setIfInBounds, if_pos rfl, if_pos (by omega)]; exact hj
      · rw [Array.getElem?_setIfInBounds, if_neg (by decide), Array.getElem?_setIfInBounds, if_pos rfl, if_pos (by rw [Array.size_setIfInBounds]; omega)]; exact hj
      · rw [Array.getElem?_setIfInBounds, if_pos rfl, if_pos (by rw [Array.size_setIfInBounds, Array.size_setIfInBounds]; omega)]; exact hj
    · rw [List.getElem?_append_right (by simpa using h), List.getElem?_drop] at hj
      have hj' : us[j]? = some u := by rw [← hj]; congr 1; simp; omega
      simp only [Array.getElem?_setIfInBounds, show ¬ 2 = j by omega, show ¬ 1 = j by omega, show ¬ 0 = j by omega, if_false]
      exact hcu j u hj'

set_option maxRecDepth 100000 in
set_option maxHeartbeats 4000000 in
theorem pickAll_walk (va : Value) (a : Arr) (w : World) (ha : IsArr w va a) :
    Calls Try.prog 3 #[va] w (Says w) := by
  obtain ⟨A, ca, D, da, rfl, -, -⟩ := ha.open_
  go_enter Try.func3, Try.ntmps3
  go_wp2_with fail
  have x1 := (Box.new (w.alloc (.cells #[.bool a.ch, .slice A a.sh.length ca, .slice D a.da.length da] 24)) 3 #[.int .i64 7])
  simp only [World.size_alloc, World.size_setCell] at x1
  have i1 : IsInts ((w.alloc (.cells #[.bool a.ch, .slice A a.sh.length ca, .slice D a.da.length da] 24)).alloc (.cells #[.int .i64 7] 3)) (.slice (some ⟨w.heap.size + 1, 0, none⟩) 1 1) [7] := x1.isInts (xs := [7]) (n := 1) rfl (by omega)
  clear x1
  refine (vec_any _ [7] _ i1).mono ?_
  rintro e w1 ⟨r1, rfl, hr1, hb1⟩
  have hbw1 := ((Below.refl w.heap.size w).trans ((below_two w _ _).mono (Below.refl w.heap.size w).size)).trans (hb1.mono ((Below.refl w.heap.size w).trans ((below_two w _ _).mono (Below.refl w.heap.size w).size)).size)
  have b_a1 := ((Box.new w 24 #[.bool a.ch, .slice A a.sh.length ca, .slice D a.da.length da]).alloc _).below hb1
  clear hb1 i1
  obtain ⟨c_a0, c_a1, c_a2⟩ := b_a1.three
  have l_a := b_a1.lt
  go_wp2_with fail
  have x1 := (Box.new w1 3 #[.int .i64 0])
  have i1 : IsInts (w1.alloc (.cells #[.int .i64 0] 3)) (.slice (some ⟨w1.heap.size, 0, none⟩) 1 1) [0] := x1.isInts (xs := [0]) (n := 1) rfl (by omega)
  clear x1
  refine (vec_any _ [0] _ i1).mono ?_
  rintro e w2 ⟨r2, rfl, hr2, hb2⟩
  have hbw2 := (hbw1.trans ((below_one w1 _).mono hbw1.size)).trans (hb2.mono (hbw1.trans ((below_one w1 _).mono hbw1.size)).size)
  have b_a2 := (b_a1.alloc _).below hb2
  have a_v12 := (hr1.mono (below_one _ _)).mono hb2
  clear hb2 b_a1 hr1 hbw1 c_a0 c_a1 c_a2 l_a i1
  obtain ⟨c_a0, c_a1, c_a2⟩ := b_a2.three
  have l_a := b_a2.lt
  obtain ⟨V2, hV2, hv2⟩ : ∃ V : Arr, V = ⟨false, [1], [0]⟩ ∧ IsArr w2 r2 V := ⟨_, rfl, hr2⟩
  clear hr2
  obtain ⟨Av, cav, Dv, cdv, rfl, -, -⟩ := hv2.open_
  have HV2 := Lib.hid hV2
  clear hV2
  have Lv := Box.new w2 24 #[.bool (V2).ch, .slice Av (V2).sh.length cav, .slice Dv (V2).da.length cdv]
  go_wp2_with fail
  refine ((show Calls _ _ _ _ (GivesOk (atOf ⟨false, [(([7] : List Int).length : Int)], [7]⟩ [⟨false, [1], [0]⟩]) _) from (at_ok (a_v12.mono (below_one _ _)) (arrs_one Lv (hv2.mono (below_one _ _))) (by rw [HV2.out]; decide +kernel)).mono fun e w' h => by rw [show atOf ⟨false, [(([7] : List Int).length : Int)], [7]⟩ [V2] = (atOf ⟨false, [(([7] : List Int).length : Int)], [7]⟩ [⟨false, [1], [0]⟩]) by rw [HV2.out]] at h; exact h)).mono ?_
  rintro e w3 ⟨r3, rfl, hr3, hb3⟩
  have hbw3 := (hbw2.trans ((below_one w2 _).mono hbw2.size)).trans (hb3.mono (hbw2.trans ((below_one w2 _).mono hbw2.size)).size)
  have b_a3 := (b_a2.alloc _).below hb3
  clear hb3 b_a2 hbw2 c_a0 c_a1 c_a2 l_a Lv a_v12 hv2
  obtain ⟨c_a0, c_a1, c_a2⟩ := b_a3.three
  have l_a := b_a3.lt
  obtain ⟨A3, ca3, D3, cd3, rfl, hs3, hd3⟩ := hr3.open_
  go_wp2_with fail
  have bq := Box.new (w3.alloc (.cells #[.bool ((atOf ⟨false, [(([7] : List Int).length : Int)], [7]⟩ [⟨false, [1], [0]⟩])).ch, .slice A3 ((atOf ⟨false, [(([7] : List Int).length : Int)], [7]⟩ [⟨false, [1], [0]⟩])).sh.length ca3, .slice D3 ((atOf ⟨false, [(([7] : List Int).length : Int)], [7]⟩ [⟨false, [1], [0]⟩])).da.length cd3] 24)) 3 #[.int .i64 7]
  rw [World.size_alloc] at bq
  refine (ints_any _ _ _ [7] _ (hd3.mono (below_two _ _ _)) (bq.isInts rfl (by simp))).mono ?_
  rintro e w4 ⟨r4, rfl, hr4, hb4⟩
  have e4 : r4 = true := hr4.2 (by first | decide | decide +kernel)
  subst e4
  clear hr4 hs3 hd3
  clear hr3
  have hbw4 := (hbw3.trans ((below_two w3 _ _).mono hbw3.size)).trans (hb4.mono (hbw3.trans ((below_two w3 _ _).mono hbw3.size)).size)
  have b_a4 := ((b_a3.alloc _).alloc _).below hb4
  clear hb4 b_a3 hbw3 c_a0 c_a1 c_a2 l_a bq
  obtain ⟨c_a0, c_a1, c_a2⟩ := b_a4.three
  have l_a := b_a4.lt
  by_cases hE : arrErr a = 0
  case neg =>
    have HE := Lib.hid hE
    clear hE
    go_wp2_with fail
    refine (check_bad (ha.mono hbw4) HE.out).mono ?_
    rintro e w5 ⟨rfl, hb5⟩
    have hbw5 := hbw4.trans (hb5.mono hbw4.size)
    have b_a5 := b_a4.below hb5
    clear hb5 b_a4 hbw4 c_a0 c_a1 c_a2 l_a
    obtain ⟨c_a0, c_a1, c_a2⟩ := b_a5.three
    have l_a := b_a5.lt
    go_wp2_with fail
    go_ret
    exact ⟨rfl, by have := hbw5.size; go_grown⟩
  obtain ⟨t, ht⟩ := ok_of_arrErr hE
  have HT := Lib.hid ht
  have HSL := Lib.hid (show a.sh.length = t.length by rw [ht.sh, length_ints])
  clear hE ht
  go_wp2_with fail
  refine (check_ok (ha.mono hbw4) HT.out).mono ?_
  rintro e w5 ⟨rfl, hb5⟩
  have hbw5 := hbw4.trans (hb5.mono hbw4.size)
  have b_a5 := b_a4.below hb5
  clear hb5 b_a4 hbw4 c_a0 c_a1 c_a2 l_a
  obtain ⟨c_a0, c_a1, c_a2⟩ := b_a5.three
  have l_a := b_a5.lt
  have EA := Lib.hid (show Elems w5 A (ints t) from (by have h := (IsArr.shapeOf (ha.mono hbw5)); rw [HT.out.sh] at h; exact h.elems))
  have HG := Lib.hid HT.out.good
  have hla5 := b_a5.lt
  have ht6 := HG.out.1
  go_wp2_with fail
  go_loopw [6, 7] (fun s6 s7 wr => ∃ (k : Nat) (R : Option Addr) (c : Nat) (us : List Value), k ≤ t.length ∧ s6 = .slice R k c ∧ s7 = .int .i64 k ∧ OwnsA wr w5.heap.size (.slice R k c) k us ∧ AllOwn wr w5.heap.size us (t.take k) ∧ Below w5.heap.size w5 wr) (fun _ s7 _ => t.length - (intOf s7).toNat)
  case atStart => exact ⟨0, none, 0, [], Nat.zero_le _, rfl, rfl, World.ownsRow_nil _ _ _ _, AllOwn.nil _ _, Below.refl _ _⟩
  case round =>
    clear c_a0 c_a1 c_a2 l_a
    obtain ⟨k, R, c, us, hk, rfl, rfl, ho, hall, hbl⟩ := hrel
    obtain ⟨ka0, ka1, ka2⟩ := (b_a5.below hbl).three
    have hka := (b_a5.below hbl).lt
    rcases Nat.lt_or_ge k t.length with hlt | hge
    · obtain ⟨ax, x, hax, hx, hlx, hcx⟩ := Elems.later EA.out hbl (k := k) (by rw [length_ints]; exact hlt)
      subst hax
      obtain ⟨rfl, -⟩ := ints_getD hx
      have hn4 : t.getD k 0 ≤ 4096 := by rw [List.getD_eq_getElem?_getD, List.getElem?_eq_getElem hlt]; exact HG.out.2.1 _ (List.getElem_mem _)
      have HTK := Lib.hid (show t.take (k + 1) = t.take k ++ [t.getD k 0] by rw [List.take_add_one, List.getElem?_eq_getElem hlt, List.getD_eq_getElem?_getD, List.getElem?_eq_getElem hlt]; rfl)
      obtain ⟨n, hn⟩ : ∃ n, n = t.getD k 0 := ⟨_, rfl⟩
      rw [← hn] at hcx hn4 HTK
      clear hx hn
      have HO := Lib.hid ho
      have HALL := Lib.hid hall
      clear ho hall
      have hkl : k < a.sh.length := by rw [HSL.out]; exact hlt
      go_wp2_with fail
      refine (iota_own n _ hn4).mono ?_
      rintro e w2 ⟨S, cs, Dn, cn, rfl, oS, oD, hb2⟩
      have hz := hbl.size
      have hbl2 := hbl.trans (hb2.mono hz)
      have ho2 := World.ownsRow.kept (row := none) HO.out ⟨hb2.os, hb2.tape, hb2.output, hb2.size, fun k hk _ => hb2.block k hk⟩ (by cases (Value.slice R k c).ownBlock <;> simp)
      have hall2 := HALL.out.below hb2
      have bN := (Box.new w2 24 #[.bool false, .slice S 1 cs, .slice Dn n cn]).alloc (.cells #[.bool false, .slice S 1 cs, .slice Dn n cn] 24)
      have bL := Box.new (w2.alloc (.cells #[.bool false, .slice S 1 cs, .slice Dn n cn] 24)) 24 #[.bool false, .slice S 1 cs, .slice Dn n cn]
      rw [World.size_alloc] at bL
      obtain ⟨n0, n1, n2⟩ := (Box.new w2 24 #[.bool false, .slice S 1 cs, .slice Dn n cn]).three
      have HO2 := Lib.hid ((World.ownsRow.alloc ho2 (.cells #[.bool false, .slice S 1 cs, .slice Dn n cn] 24)).alloc (.cells #[.bool false, .slice S 1 cs, .slice Dn n cn] 24))
      have hall3 := hall2.snoc ((oS.base hz)) ((oD.base hz))
      rw [← HTK.out] at hall3
      have HALL3 := Lib.hid ((hall3.below (below_one w2 (.cells #[.bool false, .slice S 1 cs, .slice Dn n cn] 24))).below (below_one _ (.cells #[.bool false, .slice S 1 cs, .slice Dn n cn] 24)))
      have hbl3 := hbl2.alloc hbl2.size (.cells #[.bool false, .slice S 1 cs, .slice Dn n cn] 24)
      have hbl4 := hbl3.alloc hbl3.size (.cells #[.bool false, .slice S 1 cs, .slice Dn n cn] 24)
      have CL := Lib.hid (show CellsAt ((w2.alloc (.cells #[.bool false, .slice S 1 cs, .slice Dn n cn] 24)).alloc (.cells #[.bool false, .slice S 1 cs, .slice Dn n cn] 24)) (some ⟨w2.heap.size + 1, 0, none⟩) [.bool false, .slice S 1 cs, .slice Dn n cn] from fun j u hj => ⟨_, rfl, bL.lt, by
        rw [show (⟨w2.heap.size + 1, 0, none⟩ : Addr).add j = ⟨w2.heap.size + 1, j, none⟩ from addr_zero_add _ j, bL.cell j]; simpa using hj⟩)
      have hz2 := hbl2.size
      clear ho2 hall2 hall3 bN bL oS oD ka0 ka1 ka2 hcx
      go_wp2_with (at_builtin; refine wpList_append_arrs _ rfl rfl _ _ rfl w5.heap.size k _ _ rfl HO2.out (some ⟨w2.heap.size + 1, 0, none⟩) 1 1 [.bool false, .slice S 1 cs, .slice Dn n cn] rfl (fun e => by cases e) (Nat.le_refl _) CL.out (by simp [Value.oneCell']) rfl (by omega) (by simp; omega) ?_; intro A4 c4 w4 own4 grow4 at4)
      have HALL4 := Lib.hid (HALL3.out.kept HO2.out grow4)
      go_roundw
      case rel => exact ⟨k + 1, A4, c4, _, by omega, by simp, by go_num, own4, HALL4.out, hbl4.grown grow4 hbl4.size (fun j e => (World.ownsRow.lt HO2.out j e).1)⟩
      case measure => simp [intOf]; omega
    · have hgl : a.sh.length ≤ k := by rw [HSL.out]; exact hge
      have hke : k = t.length := by omega
      subst hke
      rw [List.take_length] at hall
      have HBY := hall.isArrs ho (by omega)
      have hRl : ∀ m, (Value.slice R t.length c).ownBlock = some m → m < wr.heap.size := fun m e => (World.ownsRow.lt ho m e).2
      have hbR := hbl.size
      clear hge ka0 ka1 ka2 hka
      have hbw6 := hbw5.trans (hbl.mono hbw5.size)
      have b_a6 := b_a5.below hbl
      clear hbl b_a5 hbw5
      obtain ⟨c_a0, c_a1, c_a2⟩ := b_a6.three
      have l_a := b_a6.lt
      go_wp2_with fail
      refine ((show Calls _ _ _ _ (GivesOk a _) from (at_ok (ha.mono hbw6) HBY (all_at HT.out).1).mono fun e w' h => by rw [(all_at HT.out).2] at h; exact h)).mono ?_
      rintro e w7 ⟨r7, rfl, hr7, hb7⟩
      have hbw7 := hbw6.trans (hb7.mono hbw6.size)
      have b_a7 := b_a6.below hb7
      have a_by7 := HBY.mono hb7
      have a_ho7 := ho.mono hb7
      have a_all7 := hall.mono hb7
      clear hb7 b_a6 HBY ho hall hbw6 c_a0 c_a1 c_a2 l_a
      obtain ⟨c_a0, c_a1, c_a2⟩ := b_a7.three
      have l_a := b_a7.lt
      obtain ⟨A7, ca7, D7, cd7, rfl, hs7, hd7⟩ := hr7.open_
      have hRx : ∀ m, (Value.slice R t.length c).ownBlock = some m → m < w7.heap.size := fun m e => (World.ownsRow.lt a_ho7 m e).2
      go_wp2_with fail
      refine (alike_nil _ _ _ _ _ (hr7.mono (below_one _ _)) (ha.mono (hbw7.trans ((below_one w7 _).mono hbw7.size)))).mono ?_
      rintro e w8 ⟨r8, rfl, hr8, hb8⟩
      have e8 : r8 = true := hr8.2 (rfl)
      subst e8
      clear hr8
      have hbw8 := (hbw7.trans ((below_one w7 _).mono hbw7.size)).trans (hb8.mono (hbw7.trans ((below_one w7 _).mono hbw7.size)).size)
      have b_a8 := (b_a7.alloc _).below hb8
      have b_xx8 := (Box.new w7 24 #[.bool (a).ch, .slice A7 (a).sh.length ca7, .slice D7 (a).da.length cd7]).below hb8
      have a_by8 := (a_by7.mono (below_one _ _)).mono hb8
      have a_ho8 := (a_ho7.mono (below_one _ _)).mono hb8
      have a_all8 := (a_all7.mono (below_one _ _)).mono hb8
      have a_x8 := (hr7.mono (below_one _ _)).mono hb8
      clear hb8 b_a7 a_by7 a_ho7 a_all7 hr7 hbw7 c_a0 c_a1 c_a2 l_a
      obtain ⟨c_a0, c_a1, c_a2⟩ := b_a8.three
      have l_a := b_a8.lt
      obtain ⟨c_xx0, c_xx1, c_xx2⟩ := b_xx8.three
      have l_xx := b_xx8.lt
      rcases t with _ | ⟨n, t⟩
      · have hl0 : a.sh.length = 0 := HSL.out
        go_wp2_with fail
        go_ret
        exact ⟨rfl, by have := hbw8.size; go_grown⟩
      · have hl0 : ((a.sh.length : Int) == 0) = false := by rw [HSL.out]; simp <;> omega
        have hl1 : ¬ a.sh.length = 0 := by rw [HSL.out]; simp
        obtain ⟨g, hgR, hgB, cur, hgb, hgc⟩ := a_ho8.at_ (by simp)
        subst hgR
        obtain ⟨S, cs, Dn, cn, u0, u1, u2, oS, oD⟩ := a_all8.2 0 n rfl
        have c0 := hgc 0 _ u0
        have c1 := hgc 1 _ u1
        have c2 := hgc 2 _ u2
        have fg := Box.frozen hgb
        have gl := Box.lt hgb
        have hg0 : (0 : Int) < ((n :: t).length : Int) := by simp <;> omega
        have hgw := hRl g rfl
        have hgx := hRx g rfl
        have iF : IsArr w8 (.agg #[.bool false, .slice S 1 cs, .slice Dn n cn]) (firstNums n) := ⟨_, _, rfl, oS.isInts, oD.isInts⟩
        have hn4 : n ≤ 4096 := HT.out.good.2.1 n (List.mem_cons_self ..)
        have hsc := hbw8.size
        clear u0 u1 u2
        go_wp2_with fail
        refine (reverse_new (k := 0) iF (firstNums_ok hn4) (by simp)).mono ?_
        rintro e w9 ⟨r9, rfl, hr9, hb9, nv9⟩
        have hbw9 := hbw8.trans (hb9.mono hbw8.size)
        have b_a9 := b_a8.below hb9
        have b_xx9 := b_xx8.below hb9
        have a_by9 := a_by8.mono hb9
        have a_ho9 := a_ho8.mono hb9
        have a_all9 := a_all8.mono hb9
        have a_x9 := a_x8.mono hb9
        clear hb9 b_a8 b_xx8 a_by8 a_ho8 a_all8 a_x8 hbw8 c_a0 c_a1 c_a2 l_a c_xx0 c_xx1 c_xx2 l_xx
        obtain ⟨c_a0, c_a1, c_a2⟩ := b_a9.three
        have l_a := b_a9.lt
        obtain ⟨c_xx0, c_xx1, c_xx2⟩ := b_xx9.three
        have l_xx := b_xx9.lt
        obtain ⟨A9, ca9, D9, cd9, rfl, hs9, hd9⟩ := hr9.open_
        obtain ⟨g9, hg9, hgB9, cur9, hgb9, hgc9⟩ := a_ho9.at_ (by simp)
        obtain rfl : g = g9 := by injection hg9 with e; injection e
        obtain ⟨S9, cs9, Dn9, cn9, u90, u91, u92, oS9, oD9⟩ := a_all9.2 0 n rfl
        have k0 := hgc9 0 _ u90
        have k1 := hgc9 1 _ u91
        have k2 := hgc9 2 _ u92
        have fg9 := Box.frozen hgb9
        have gl9 := Box.lt hgb9
        have gb9 := grownBy_three w9 g (.bool (rev 0 (firstNums n)).ch) (.slice A9 (rev 0 (firstNums n)).sh.length ca9) (.slice D9 (rev 0 (firstNums n)).da.length cd9)
        have IB9 := ((IsArr.away (g := g) (k := 0) hr9 nv9 (by omega) (.bool (rev 0 (firstNums n)).ch)).away (g := g) (k := 1) nv9 (by omega) (.slice A9 (rev 0 (firstNums n)).sh.length ca9)).away (g := g) (k := 2) nv9 (by omega) (.slice D9 (rev 0 (firstNums n)).da.length cd9)
        have hby9 := IsArrs.put a_ho9 a_all9 gb9 IB9
        have hbs9 := hbw9.grown gb9 hbw9.size (fun j e => by cases e; omega)
        have n_a9 := b_a9.grown gb9 (by simp; omega)
        have m_a0 := (n_a9).cell 0
        have m_a1 := (n_a9).cell 1
        have m_a2 := (n_a9).cell 2
        simp only [List.getElem?_toArray, List.getElem?_cons_zero, List.getElem?_cons_succ] at m_a0 m_a1 m_a2
        have n_xx9 := b_xx9.grown gb9 (by simp; omega)
        have m_xx0 := (n_xx9).cell 0
        have m_xx1 := (n_xx9).cell 1
        have m_xx2 := (n_xx9).cell 2
        simp only [List.getElem?_toArray, List.getElem?_cons_zero, List.getElem?_cons_succ] at m_xx0 m_xx1 m_xx2
        go_wp2_with fail
        refine ((show Calls _ _ _ _ (GivesOk (rev 0 a) _) from (at_ok (ha.mono (hbs9.trans ((below_one (((w9.setCell ⟨g, 0, none⟩ (.bool (rev 0 (firstNums n)).ch)).setCell ⟨g, 1, none⟩ (.slice A9 (rev 0 (firstNums n)).sh.length ca9)).setCell ⟨g, 2, none⟩ (.slice D9 (rev 0 (firstNums n)).da.length cd9)) _).mono hbs9.size))) (hby9.mono (below_one _ _)) (back_at HT.out).1).mono fun e w' h => by rw [(back_at HT.out).2] at h; exact h)).mono ?_
        rintro e w10 ⟨r10, rfl, hr10, hb10⟩
        have hbw10 := (hbs9.trans ((below_one (((w9.setCell ⟨g, 0, none⟩ (.bool (rev 0 (firstNums n)).ch)).setCell ⟨g, 1, none⟩ (.slice A9 (rev 0 (firstNums n)).sh.length ca9)).setCell ⟨g, 2, none⟩ (.slice D9 (rev 0 (firstNums n)).da.length cd9)) _).mono hbs9.size)).trans (hb10.mono (hbs9.trans ((below_one (((w9.setCell ⟨g, 0, none⟩ (.bool (rev 0 (firstNums n)).ch)).setCell ⟨g, 1, none⟩ (.slice A9 (rev 0 (firstNums n)).sh.length ca9)).setCell ⟨g, 2, none⟩ (.slice D9 (rev 0 (firstNums n)).da.length cd9)) _).mono hbs9.size)).size)
        have b_a10 := (n_a9.alloc _).below hb10
        have b_xx10 := (n_xx9.alloc _).below hb10
        have b_xback10 := (Box.new (((w9.setCell ⟨g, 0, none⟩ (.bool (rev 0 (firstNums n)).ch)).setCell ⟨g, 1, none⟩ (.slice A9 (rev 0 (firstNums n)).sh.length ca9)).setCell ⟨g, 2, none⟩ (.slice D9 (rev 0 (firstNums n)).da.length cd9)) 24 #[.bool (rev 0 (firstNums n)).ch, .slice A9 (rev 0 (firstNums n)).sh.length ca9, .slice D9 (rev 0 (firstNums n)).da.length cd9]).below hb10
        simp only [World.size_alloc, World.size_setCell] at b_xback10
        have a_by10 := (hby9.mono (below_one _ _)).mono hb10
        clear hb10 n_a9 n_xx9 hby9 hbs9 c_a0 c_a1 c_a2 l_a c_xx0 c_xx1 c_xx2 l_xx
        obtain ⟨c_a0, c_a1, c_a2⟩ := b_a10.three
        have l_a := b_a10.lt
        obtain ⟨c_xx0, c_xx1, c_xx2⟩ := b_xx10.three
        have l_xx := b_xx10.lt
        obtain ⟨c_xback0, c_xback1, c_xback2⟩ := b_xback10.three
        have l_xback := b_xback10.lt
        obtain ⟨A10, ca10, D10, cd10, rfl, hs10, hd10⟩ := hr10.open_
        go_wp2_with fail
        refine (reverse_ok (k := 0) (ha.mono (hbw10.trans ((below_one w10 _).mono hbw10.size))) HT.out (by simp)).mono ?_
        rintro e w11 ⟨r11, rfl, hr11, hb11⟩
        have hbw11 := (hbw10.trans ((below_one w10 _).mono hbw10.size)).trans (hb11.mono (hbw10.trans ((below_one w10 _).mono hbw10.size)).size)
        have b_a11 := (b_a10.alloc _).below hb11
        have b_xx11 := (b_xx10.alloc _).below hb11
        have b_xback11 := (b_xback10.alloc _).below hb11
        have b_xy11 := (Box.new w10 24 #[.bool (rev 0 a).ch, .slice A10 (rev 0 a).sh.length ca10, .slice D10 (rev 0 a).da.length cd10]).below hb11
        have a_by11 := (a_by10.mono (below_one _ _)).mono hb11
        have a_y11 := (hr10.mono (below_one _ _)).mono hb11
        clear hb11 b_a10 b_xx10 b_xback10 a_by10 hr10 hbw10 c_a0 c_a1 c_a2 l_a c_xx0 c_xx1 c_xx2 l_xx c_xback0 c_xback1 c_xback2 l_xback
        obtain ⟨c_a0, c_a1, c_a2⟩ := b_a11.three
        have l_a := b_a11.lt
        obtain ⟨c_xx0, c_xx1, c_xx2⟩ := b_xx11.three
        have l_xx := b_xx11.lt
        obtain ⟨c_xback0, c_xback1, c_xback2⟩ := b_xback11.three
        have l_xback := b_xback11.lt
        obtain ⟨c_xy0, c_xy1, c_xy2⟩ := b_xy11.three
        have l_xy := b_xy11.lt
        obtain ⟨A11, ca11, D11, cd11, rfl, hs11, hd11⟩ := hr11.open_
        go_wp2_with fail
        refine (alike_nil _ _ _ _ _ (a_y11.mono (below_one _ _)) (hr11.mono (below_one _ _))).mono ?_
        rintro e w12 ⟨r12, rfl, hr12, hb12⟩
        have e12 : r12 = true := hr12.2 (rfl)
        subst e12
        clear hr12
        have hbw12 := (hbw11.trans ((below_one w11 _).mono hbw11.size)).trans (hb12.mono (hbw11.trans ((below_one w11 _).mono hbw11.size)).size)
        have b_a12 := (b_a11.alloc _).below hb12
        have b_xx12 := (b_xx11.alloc _).below hb12
        have b_xback12 := (b_xback11.alloc _).below hb12
        have b_xy12 := (b_xy11.alloc _).below hb12
        have b_xz12 := (Box.new w11 24 #[.bool (rev 0 a).ch, .slice A11 (rev 0 a).sh.length ca11, .slice D11 (rev 0 a).da.length cd11]).below hb12
        have a_by12 := (a_by11.mono (below_one _ _)).mono hb12
        have a_y12 := (a_y11.mono (below_one _ _)).mono hb12
        have a_z12 := (hr11.mono (below_one _ _)).mono hb12
        clear hb12 b_a11 b_xx11 b_xback11 b_xy11 a_by11 a_y11 hr11 hbw11 c_a0 c_a1 c_a2 l_a c_xx0 c_xx1 c_xx2 l_xx c_xback0 c_xback1 c_xback2 l_xback c_xy0 c_xy1 c_xy2 l_xy
        obtain ⟨c_a0, c_a1, c_a2⟩ := b_a12.three
        have l_a := b_a12.lt
        obtain ⟨c_xx0, c_xx1, c_xx2⟩ := b_xx12.three
        have l_xx := b_xx12.lt
        obtain ⟨c_xback0, c_xback1, c_xback2⟩ := b_xback12.three
        have l_xback := b_xback12.lt
        obtain ⟨c_xy0, c_xy1, c_xy2⟩ := b_xy12.three
        have l_xy := b_xy12.lt
        obtain ⟨c_xz0, c_xz1, c_xz2⟩ := b_xz12.three
        have l_xz := b_xz12.lt
        go_wp2_with fail
        go_ret
        exact ⟨rfl, by have := hbw12.size; go_grown⟩

end Go.Proofs.Ytnjjapfdgddemaa
