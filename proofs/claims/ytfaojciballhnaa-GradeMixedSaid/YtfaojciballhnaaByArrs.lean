/- A list of arrays of indices that a law lays, and whose first one it lays anew. Conditions: none. -/
import Derived.Test.YtfaojciballhnaaPickLaw
import Derived.Test.YtfaojciballhnaaAllPlain
import Derived.Test.YtfaojciballhnaaIotaOwn
import Derived.Test.YtfaojciballhnaaIntsAt
set_option linter.unusedSimpArgs false
set_option linter.unusedVariables false
namespace Go.Proofs.Ytfaojciballhnaa
open Go Go.RowKit Go.Proofs.Ytfaojciballhnaa.P

/-- What the loop lays: for each axis its indices, their lists new. -/
def AllOwn (w : World) (B : Nat) (us : List Value) (t : List Nat) : Prop := us.length = t.length * 3 ∧ ∀ (j n : Nat), t[j]? = some n → ∃ S cs D cd, us[j * 3]? = some (.bool false) ∧ us[j * 3 + 1]? = some (.slice S 1 cs) ∧ us[j * 3 + 2]? = some (.slice D n cd) ∧
  Owns w B (.slice S 1 cs) 1 [(n : Int)] ∧ Owns w B (.slice D n cd) n (ints (List.range n))
theorem AllOwn.nil (w : World) (B : Nat) : AllOwn w B [] [] := ⟨rfl, fun j n h => by simp at h⟩
theorem AllOwn.below {w w' : World} {B : Nat} {us : List Value} {t : List Nat} (h : AllOwn w B us t) (hb : Below w.heap.size w w') : AllOwn w' B us t :=
  ⟨h.1, fun j n hj => by
    obtain ⟨S, cs, D, cd, h1, h2, h3, h4, h5⟩ := h.2 j n hj
    exact ⟨S, cs, D, cd, h1, h2, h3, h4.below hb, h5.below hb⟩⟩
theorem AllOwn.snoc {w : World} {B n : Nat} {us : List Value} {t : List Nat} {S D : Option Addr} {cs cd : Nat} (h : AllOwn w B us t) (hs : Owns w B (.slice S 1 cs) 1 [(n : Int)]) (hd : Owns w B (.slice D n cd) n (ints (List.range n))) :
    AllOwn w B (us ++ [.bool false, .slice S 1 cs, .slice D n cd]) (t ++ [n]) := by
  refine ⟨by simp [h.1]; omega, fun j m hj => ?_⟩
  rcases Nat.lt_or_ge j t.length with hl | hl
  · rw [List.getElem?_append_left hl] at hj
    obtain ⟨S', cs', D', cd', h1, h2, h3, h4, h5⟩ := h.2 j m hj
    have := h.1
    exact ⟨S', cs', D', cd', by rw [List.getElem?_append_left (by omega)]; exact h1, by rw [List.getElem?_append_left (by omega)]; exact h2, by rw [List.getElem?_append_left (by omega)]; exact h3, h4, h5⟩
  · have hj' := hj
    rw [List.getElem?_append_right hl] at hj
    have e : j - t.length = 0 := by
      have := (List.getElem?_eq_some_iff.1 hj).1
      simp at this
      omega
    have ej : j = t.length := by omega
    subst ej
    simp at hj
    subst hj
    have := h.1
    refine ⟨S, cs, D, cd, ?_, ?_, ?_, hs, hd⟩
    · rw [List.getElem?_append_right (by omega), show t.length * 3 - us.length = 0 by omega]; rfl
    · rw [List.getElem?_append_right (by omega), show t.length * 3 + 1 - us.length = 1 by omega]; rfl
    · rw [List.getElem?_append_right (by omega), show t.length * 3 + 2 - us.length = 2 by omega]; rfl
theorem Owns.not_row {w : World} {B C n m : Nat} {v u : Value} {xs : List Int} {us : List Value} (h : Owns w B v n xs) (ho : OwnsA w C u m us) : v.ownBlock = none ∨ v.ownBlock ≠ u.ownBlock := by
  rcases ho.2 with ⟨rfl, -⟩ | ⟨g, cap, cur, rfl, -, hg, -⟩
  · cases v.ownBlock
    · exact .inl rfl
    · exact .inr (by simp [Value.ownBlock])
  · exact .inr (h.ne_box (b := g) (cs := cur) hg (by decide))
theorem AllOwn.kept {w w' : World} {B C m : Nat} {u : Value} {us vs : List Value} {t : List Nat} (h : AllOwn w B us t) (ho : OwnsA w C u m vs) (hg : w.grownBy w' u.ownBlock) : AllOwn w' B us t :=
  ⟨h.1, fun j n hj => by
    obtain ⟨S, cs, D, cd, h1, h2, h3, h4, h5⟩ := h.2 j n hj
    exact ⟨S, cs, D, cd, h1, h2, h3, h4.kept hg (h4.not_row ho), h5.kept hg (h5.not_row ho)⟩⟩
theorem allIdx_get {t : List Nat} {k : Nat} {b : Arr} (h : (allIdx t)[k]? = some b) : ∃ n, t[k]? = some n ∧ b = firstNums n := by
  unfold allIdx at h
  rw [List.getElem?_map] at h
  rcases ht : t[k]? with _ | n
  · rw [ht] at h; cases h
  · rw [ht] at h; injection h with h; exact ⟨n, rfl, h.symm⟩
theorem AllOwn.cells {w : World} {B : Nat} {us : List Value} {t : List Nat} (h : AllOwn w B us t) : AllCells w us (allIdx t) := by
  refine ⟨by rw [h.1]; simp [allIdx], fun u hu => ?_, fun k b hk => ?_⟩
  · obtain ⟨i, hi⟩ := List.getElem?_of_mem hu
    have hl := (List.getElem?_eq_some_iff.1 hi).1
    have := h.1
    obtain ⟨n, hn⟩ : ∃ n, t[i / 3]? = some n := ⟨_, List.getElem?_eq_getElem (by omega)⟩
    obtain ⟨S, cs, D, cd, h1, h2, h3, -, -⟩ := h.2 _ _ hn
    have h0 : i = i / 3 * 3 ∨ i = i / 3 * 3 + 1 ∨ i = i / 3 * 3 + 2 := by omega
    rcases h0 with e | e | e
    · rw [e, h1] at hi; injection hi with hi; subst hi; rfl
    · rw [e, h2] at hi; injection hi with hi; subst hi; rfl
    · rw [e, h3] at hi; injection hi with hi; subst hi; rfl
  · obtain ⟨n, hn, rfl⟩ := allIdx_get hk
    obtain ⟨S, cs, D, cd, h1, h2, h3, h4, h5⟩ := h.2 k n hn
    have hl : (firstNums n).da.length = n := by simp [firstNums, ints]
    exact ⟨S, cs, D, cd, h1, h2, by rw [hl]; exact h3, h4.isInts, by rw [hl]; exact h5.isInts⟩
theorem AllOwn.isArrs {w : World} {B C : Nat} {us : List Value} {t : List Nat} {R : Option Addr} {c : Nat} (h : AllOwn w B us t) (ho : OwnsA w C (.slice R t.length c) t.length us) (h6 : t.length ≤ 6) : IsArrs w (.slice R t.length c) (allIdx t) := by
  obtain ⟨A', c', e, h1, h2, h3, h4, -⟩ := ho.form
  injection e with e1 _ e3
  subst e1 e3
  have hl : (allIdx t).length = t.length := by simp [allIdx]
  exact ⟨R, c, us, by rw [hl], by rw [hl]; exact h1, h2, by rw [hl]; omega, h3, h.cells, h4⟩
theorem OwnsA.mono {w w' : World} {B n : Nat} {v : Value} {us : List Value} (h : OwnsA w B v n us) (hb : Below w.heap.size w w') : OwnsA w' B v n us :=
  World.ownsRow.kept (row := none) h ⟨hb.os, hb.tape, hb.output, hb.size, fun k hk _ => hb.block k hk⟩ (by cases v.ownBlock <;> simp)
theorem AllOwn.mono {w w' : World} {B : Nat} {us : List Value} {t : List Nat} (h : AllOwn w B us t) (hb : Below w.heap.size w w') : AllOwn w' B us t := h.below hb
theorem OwnsA.at_ {w : World} {B n : Nat} {R : Option Addr} {c : Nat} {us : List Value} (h : OwnsA w B (.slice R n c) n us) (h0 : 0 < n) :
    ∃ g, R = some ⟨g, 0, none⟩ ∧ B ≤ g ∧ ∃ cur, Box w g 24 cur ∧ ∀ j u, us[j]? = some u → w.cell? ⟨g, j, none⟩ = some u := by
  rcases h.2 with ⟨e, -⟩ | ⟨g, cap, cur, e, hb, hg, hn, hm, hs, ht⟩
  · injection e with _ e _; omega
  · injection e with e1 e2 e3
    subst e1 e3
    refine ⟨g, rfl, hb, cur, hg, fun j u hj => ?_⟩
    have := h.cells (g := g) rfl j u hj
    rwa [addr_zero_add] at this

/-- All but the first array: their lists new. -/
def TailOwn (w : World) (B : Nat) (us : List Value) (t : List Nat) : Prop := us.length = t.length * 3 ∧ (∀ u ∈ us, u.oneCell' = true) ∧ ∀ (j n : Nat), t[j + 1]? = some n → ∃ S cs D cd, us[(j + 1) * 3]? = some (.bool false) ∧ us[(j + 1) * 3 + 1]? = some (.slice S 1 cs) ∧ us[(j + 1) * 3 + 2]? = some (.slice D n cd) ∧
  Owns w B (.slice S 1 cs) 1 [(n : Int)] ∧ Owns w B (.slice D n cd) n (ints (List.range n))
theorem AllOwn.tail {w : World} {B : Nat} {us : List Value} {t : List Nat} (h : AllOwn w B us t) : TailOwn w B us t := ⟨h.1, fun u hu => h.cells.2.1 u hu, fun j n hj => h.2 (j + 1) n hj⟩
theorem TailOwn.below {w w' : World} {B : Nat} {us : List Value} {t : List Nat} (h : TailOwn w B us t) (hb : Below w.heap.size w w') : TailOwn w' B us t :=
  ⟨h.1, h.2.1, fun j n hj => by
    obtain ⟨S, cs, D, cd, h1, h2, h3, h4, h5⟩ := h.2.2 j n hj
    exact ⟨S, cs, D, cd, h1, h2, h3, h4.below hb, h5.below hb⟩⟩
theorem TailOwn.kept {w w' : World} {B g : Nat} {us : List Value} {t : List Nat} {cur : Array Value} (h : TailOwn w B us t) (hx : Box w g 24 cur) (hg : w.grownBy w' (some g)) : TailOwn w' B us t :=
  ⟨h.1, h.2.1, fun j n hj => by
    obtain ⟨S, cs, D, cd, h1, h2, h3, h4, h5⟩ := h.2.2 j n hj
    exact ⟨S, cs, D, cd, h1, h2, h3, h4.kept hg (.inr (h4.ne_box hx (by decide))), h5.kept hg (.inr (h5.ne_box hx (by decide)))⟩⟩
/-- The block of such a list. -/
def ByAt (w : World) (B g : Nat) (us : List Value) (t : List Nat) : Prop := ∃ cur : Array Value, Box w g 24 cur ∧ (∀ j u, 3 ≤ j → us[j]? = some u → cur[j]? = some u) ∧ us.length ≤ cur.size ∧ TailOwn w B us t
theorem ByAt.below {w w' : World} {B g : Nat} {us : List Value} {t : List Nat} (h : ByAt w B g us t) (hb : Below w.heap.size w w') : ByAt w' B g us t := by
  obtain ⟨cur, h1, h2, h3, h4⟩ := h
  exact ⟨cur, h1.below hb, h2, h3, h4.below hb⟩
theorem ByAt.cells {w : World} {B g n : Nat} {us : List Value} {t : List Nat} (h : ByAt w B g us (n :: t)) : (∀ k, k < 3 → ∃ u, w.cell? ⟨g, k, none⟩ = some u) ∧ (∀ k, w.frozen? ⟨g, k, none⟩ = false) ∧ g < w.heap.size := by
  obtain ⟨cur, h1, h2, h3, h4⟩ := h
  have hl := h4.1
  rw [List.length_cons, Nat.add_mul] at hl
  exact ⟨fun k hk => ⟨cur[k]'(by omega), by rw [h1.cell]; exact Array.getElem?_eq_getElem (by omega)⟩, h1.frozen, h1.lt⟩
/-- The first array of the list, laid anew. -/
theorem ByAt.put {w : World} {B g n c : Nat} {t : List Nat} {us : List Value} {bb : Arr} {S D : Option Addr} {cs cd : Nat} (h : ByAt w B g us (n :: t)) (hc1 : t.length + 1 ≤ c) (hc2 : c ≤ 9223372036854775807) (h6 : t.length + 1 ≤ 6)
    (hi : IsArr (((w.setCell ⟨g, 0, none⟩ (.bool bb.ch)).setCell ⟨g, 1, none⟩ (.slice S bb.sh.length cs)).setCell ⟨g, 2, none⟩ (.slice D bb.da.length cd)) (.agg #[.bool bb.ch, .slice S bb.sh.length cs, .slice D bb.da.length cd]) bb) :
    IsArrs (((w.setCell ⟨g, 0, none⟩ (.bool bb.ch)).setCell ⟨g, 1, none⟩ (.slice S bb.sh.length cs)).setCell ⟨g, 2, none⟩ (.slice D bb.da.length cd)) (.slice (some ⟨g, 0, none⟩) (t.length + 1) c) (bb :: allIdx t) ∧
    ByAt (((w.setCell ⟨g, 0, none⟩ (.bool bb.ch)).setCell ⟨g, 1, none⟩ (.slice S bb.sh.length cs)).setCell ⟨g, 2, none⟩ (.slice D bb.da.length cd)) B g us (n :: t) := by
  obtain ⟨cur, hbx, hcl, hsz, ht⟩ := h
  have hul := ht.1
  simp only [List.length_cons] at hul
  have hk := ht.kept hbx (grownBy_three w g (.bool bb.ch) (.slice S bb.sh.length cs) (.slice D bb.da.length cd))
  have hbn := Box.store (Box.store (Box.store hbx 0 (.bool bb.ch)) 1 (.slice S bb.sh.length cs)) 2 (.slice D bb.da.length cd)
  have hl : (bb :: allIdx t).length = t.length + 1 := by simp [allIdx]
  have hget : ∀ (j : Nat) (u : Value), ([Value.bool bb.ch, .slice S bb.sh.length cs, .slice D bb.da.length cd] ++ us.drop 3)[j]? = some u → (((cur.setIfInBounds 0 (.bool bb.ch)).setIfInBounds 1 (.slice S bb.sh.length cs)).setIfInBounds 2 (.slice D bb.da.length cd))[j]? = some u := by
    intro j u hj
    rcases Nat.lt_or_ge j 3 with h | h
    · have h3 : j = 0 ∨ j = 1 ∨ j = 2 := by omega
      rcases h3 with rfl | rfl | rfl
      · rw [Array.getElem?_setIfInBounds, if_neg (by decide), Array.getElem?_setIfInBounds, if_neg (by decide), Array.getElem?_setIfInBounds, if_pos rfl, if_pos (by omega)]; exact hj
      · rw [Array.getElem?_setIfInBounds, if_neg (by decide), Array.getElem?_setIfInBounds, if_pos rfl, if_pos (by rw [Array.size_setIfInBounds]; omega)]; exact hj
      · rw [Array.getElem?_setIfInBounds, if_pos rfl, if_pos (by rw [Array.size_setIfInBounds, Array.size_setIfInBounds]; omega)]; exact hj
    · rw [List.getElem?_append_right (by simpa using h), List.getElem?_drop] at hj
      have hj' : us[j]? = some u := by rw [← hj]; congr 1; simp; omega
      simp only [Array.getElem?_setIfInBounds, show ¬ 2 = j by omega, show ¬ 1 = j by omega, show ¬ 0 = j by omega, if_false]
      exact hcl j u h hj'
  refine ⟨⟨some ⟨g, 0, none⟩, c, [.bool bb.ch, .slice S bb.sh.length cs, .slice D bb.da.length cd] ++ us.drop 3, by rw [hl], by rw [hl]; exact hc1, hc2, by rw [hl]; omega, (fun e => by cases e), ?_, ?_⟩, ⟨_, hbn, fun j u hj hu => ?_, by simp; omega, hk⟩⟩
  · refine ⟨by rw [hl]; simp [hul]; omega, fun u hu => ?_, fun k b hb => ?_⟩
    · rcases List.mem_append.1 hu with h | h
      · simp at h; rcases h with rfl | rfl | rfl <;> rfl
      · exact ht.2.1 u (List.mem_of_mem_drop h)
    · rcases k with _ | k
      · simp only [List.getElem?_cons_zero, Option.some.injEq] at hb
        subst hb
        exact ⟨S, cs, D, cd, rfl, rfl, rfl, hi.shapeOf, hi.dataOf⟩
      · rw [List.getElem?_cons_succ] at hb
        obtain ⟨m, hm, rfl⟩ : ∃ m, t[k]? = some m ∧ firstNums m = b := by simpa [allIdx] using hb
        obtain ⟨S', cs', D', cd', q1, q2, q3, q4, q5⟩ := hk.2.2 k m (by simpa using hm)
        refine ⟨S', cs', D', cd', ?_, ?_, ?_, q4.isInts, ?_⟩
        · rw [List.getElem?_append_right (by simp; omega), List.getElem?_drop]
          refine Eq.trans ?_ q1
          congr 1; simp; omega
        · rw [List.getElem?_append_right (by simp; omega), List.getElem?_drop]
          refine Eq.trans ?_ q2
          congr 1; simp; omega
        · rw [List.getElem?_append_right (by simp; omega), List.getElem?_drop]
          have e : (firstNums m).da.length = m := by simp [firstNums, ints]
          rw [e]
          refine Eq.trans ?_ q3
          congr 1; simp; omega
        · have e : (firstNums m).da.length = m := by simp [firstNums, ints]
          rw [e]
          exact q5.isInts
  · intro j u hj
    refine ⟨_, rfl, Box.lt hbn, ?_⟩
    rw [addr_zero_add, hbn.cell j]
    exact hget j u hj
  · simp only [Array.getElem?_setIfInBounds, show ¬ 2 = j by omega, show ¬ 1 = j by omega, show ¬ 0 = j by omega, if_false]
    exact hcl j u hj hu
theorem OwnsA.by_ {w : World} {C B n : Nat} {R : Option Addr} {c : Nat} {us : List Value} {t : List Nat} (ho : OwnsA w C (.slice R (n :: t).length c) (n :: t).length us) (ha : AllOwn w B us (n :: t)) :
    ∃ g, R = some ⟨g, 0, none⟩ ∧ C ≤ g ∧ ByAt w B g us (n :: t) ∧ t.length + 1 ≤ c ∧ c ≤ 9223372036854775807 := by
  obtain ⟨A', c', e, h1, h2, h3, h4, -⟩ := ho.form
  injection e with e1 _ e3
  subst e1 e3
  obtain ⟨g, rfl, hC, cur, hbx, hcl⟩ := ho.at_ (by simp)
  have hul := ha.1
  simp only [List.length_cons] at hul
  have hcu : ∀ j u, us[j]? = some u → cur[j]? = some u := fun j u hj => by rw [← hbx.cell j]; exact hcl j u hj
  refine ⟨g, rfl, hC, ⟨cur, hbx, fun j u _ hj => hcu j u hj, ?_, ha.tail⟩, by simpa using h1, h2⟩
  rcases Nat.lt_or_ge cur.size us.length with h | h
  · have := hcu cur.size _ (List.getElem?_eq_getElem h)
    have := (Array.getElem?_eq_some_iff.1 this).1
    omega
  · exact h
end Go.Proofs.Ytfaojciballhnaa
