/- What the card TopSorts leans on: Make, Turn, PickPlain, Iota. Conditions: none but those of its theorems. -/
import Derived.Deep.RegionHeld3
import Derived.Deep.RegionLaw
import Derived.Test.YtihndbkaoejnnaaGreatDoorSortsC
import Derived.Test.YtihndbkaoejnnaaGreatDoorSortsE
import Derived.Test.YtihndbkaoejnnaaGreatDoorSortsA
set_option linter.unusedSimpArgs false
set_option linter.unusedVariables false
namespace Go.Proofs.YtihndbkaoejnnaaGreatDoor
open Go Go.RowKit Go.Proofs.YtihndbkaoejnnaaGreatDoor.P

/-- A call tells a new list. -/
def Lists (xs : List Int) (w : World) (e : Ending) (w' : World) : Prop :=
  ∃ A c, e = .returned (.slice A xs.length c) ∧ Owns w' w.heap.size (.slice A xs.length c) xs.length xs ∧ Below w.heap.size w w'

theorem below_grown {w w1 w' : World} {v : Value} {n : Nat} {xs : List Int} (h : Below w.heap.size w w1) (ho : Owns w1 w.heap.size v n xs) (hg : w1.grownBy w' v.ownBlock) : Below w.heap.size w w' :=
  h.grown hg h.size fun _ hk => (ho.lt hk).1

set_option maxHeartbeats 400000 in
theorem clone_any (v : Value) (xs : List Int) (w : World) (ha : IsInts w v xs) : Calls Tryz.prog 24 #[v] w (Lists xs w) := by
  obtain ⟨A, c, rfl, a1, a2, a3, a0, a4⟩ := ha
  rcases A with _ | ad
  · have hc := a0 rfl
    subst hc
    have hx : xs = [] := List.eq_nil_of_length_eq_zero (by omega)
    subst hx
    clear a4 a0 a1 a2 a3
    have he := fun w => Lib.run_eql_slice_nil (P := Tryz.prog) w 23 3 none 0 0 0 0 Tryz.underlying23
    simp only [List.length_nil]
    go_enter Tryz.func24, Tryz.ntmps24
    go_wp2_with fail
    go_ret
    exact ⟨none, 0, rfl, Owns.nil _ _, Below.refl _ _⟩
  · have he := fun w => Lib.run_eql_slice_nil (P := Tryz.prog) w 23 3 (some ad) xs.length c 0 0 Tryz.underlying23
    have h4 := Lib.hid a4
    have h0 := Lib.hid a0
    have hown : Owns (w.alloc (.cells #[] 3)) w.heap.size (.slice (some ⟨w.heap.size, 0, none⟩) 0 0) 0 [] := ⟨World.ownsRow_made _ _ _ (Nat.le_refl _) (by unfold maxLen; omega) rfl, by omega⟩
    clear a4 a0
    go_enter Tryz.func24, Tryz.ntmps24
    go_wp2_with (at_builtin; refine wpList_append_ints _ rfl rfl _ _ rfl w.heap.size 0 _ [] rfl hown (some ad) xs.length c xs rfl h0.out (Elems.mono h4.out (below_one _ _)) rfl (by omega) (by simp) ?_; intro A' c' w' hown' hgrow hat)
    simp only [Nat.zero_add, List.nil_append] at hown'
    go_ret
    exact ⟨A', c', by simp, hown', below_grown (below_one _ _) hown hgrow⟩

theorem take_at {xs : List Int} {k : Nat} {x : Int} (h : xs[k]? = some x) : xs.take k ++ [x] = xs.take (k + 1) := by rw [List.take_add_one, h]; rfl

set_option maxHeartbeats 1000000 in
theorem vector_any (ch : Bool) (v : Value) (xs : List Int) (w : World) (ha : IsInts w v xs) :
    Calls Tryz.prog 12 #[.bool ch, v] w fun e w' => ∃ r, e = .returned r ∧ IsArr w' r ⟨ch, [(xs.length : Int)], xs⟩ ∧ Below w.heap.size w w' := by
  obtain ⟨X, c, rfl, a1, a2, a3, a0, a4⟩ := ha
  have h4 := Lib.hid a4
  clear a4 a0
  go_enter Tryz.func12, Tryz.ntmps12
  go_wp2
  go_loopw [6] (fun i wr => ∃ (k : Nat) (A : Option Addr) (c' : Nat), k ≤ xs.length ∧ i = .int .i64 k ∧ Box wr w.heap.size 25 #[.bool false, .slice none 0 0, .slice none 0 0] ∧
      Box wr (w.heap.size + 1) 3 #[.int .i64 xs.length] ∧ Box wr (w.heap.size + 1 + 1) 25 #[.bool ch, .slice (some ⟨w.heap.size + 1, 0, none⟩) 1 1, .slice A k c'] ∧
      Owns wr (w.heap.size + 3) (.slice A k c') k (xs.take k) ∧ Below w.heap.size w wr)
    (fun i _ => xs.length - (intOf i).toNat)
  case atStart => exact ⟨0, none, 0, Nat.zero_le _, rfl, ((Box.new _ _ _).alloc _).alloc _, (by simpa using (Box.new (w.alloc _) 3 #[.int .i64 xs.length]).alloc _), (by simpa using Box.new ((w.alloc _).alloc _) 25 _), Owns.nil _ _, below_three _ _ _ _⟩
  case round =>
    obtain ⟨k, A, c', hk, rfl, b1, b2, b3, hown, hbl⟩ := hrel
    rcases Nat.lt_or_ge k xs.length with hlt | hge
    · obtain ⟨ad, x, rfl, hx, hal, hcx⟩ := Elems.later h4.out hbl hlt
      have hx' := Lib.hid hx
      clear hx
      obtain ⟨-, -, hc3⟩ := b3.three
      have hf3 := b3.frozen 2
      have hne := hown.ne_box b3 (by decide)
      have hne2 := hown.ne_low (b := ad.block) (by omega)
      have hs3 := b3.lt
      go_wp2_with fail
      go_region_law
        ((refine step_append_ints _ rfl rfl _ _ (by rfl) (w.heap.size + 3) k _ (xs.take k) (by rfl) ((hown.alloc _).drew) (some ⟨wr.heap.size, 0, none⟩) 1 1 [x] (by rfl) (by simp) (elems_new wr x) rfl (by omega) (by simp; omega) ?_; intro A2 c2 w1 hown1 hgrow hat; have b3' := ((b3.alloc _).drew).grown hgrow hne; have hc1 := b3'.three.2.2; have hf1 := b3'.frozen 2; have hk1 := cell_kept1 hcx hgrow (by rw [addr_block_add]; exact hne2)))
      all_goals
        go_wp2
        go_roundw
        case rel => exact ⟨k + 1, A2, c2, by omega, by go_num, (((b1.alloc _).drew).grown hgrow (hown.ne_box b1 (by decide))).far (p := ⟨w.heap.size + 1 + 1, 2, none⟩) (by simp; omega) _, (((b2.alloc _).drew).grown hgrow (hown.ne_low (by omega))).far (p := ⟨w.heap.size + 1 + 1, 2, none⟩) (by simp) _, b3'.store 2 _, by rw [← take_at hx'.out]; exact hown1.setCell (p := ⟨w.heap.size + 1 + 1, 2, none⟩) (hown1.ne_box b3' (by decide)) _, ((((hbl.alloc hbl.size _).drew).grown hgrow (by simp; have := hbl.size; omega) (fun _ hk' => by have := (hown.lt hk').1; omega))).setCell (p := ⟨w.heap.size + 1 + 1, 2, none⟩) (by simp; omega) _⟩
        case measure => simp [intOf]; omega
    · obtain ⟨p0, p1, p2⟩ := b3.three
      obtain ⟨q0, q1, q2⟩ := b1.three
      have f1 := b1.frozen
      have hkk : k = xs.length := by omega
      have HK := Lib.hid hkk
      clear hkk
      go_wp2
      refine bodyPost_ret (v := .agg #[.bool ch, .slice (some ⟨w.heap.size + 1, 0, none⟩) 1 1, .slice A k c']) (by simp [results, Tryz.results12, go_sem, q0, q1, q2]) rfl ?_
      have hg := grownBy_three wr w.heap.size (.bool ch) (.slice (some ⟨w.heap.size + 1, 0, none⟩) 1 1) (.slice A k c')
      have hd := ((hown.kept hg (.inr (hown.ne_low (by omega)))).base (B' := w.heap.size) (by omega)).isInts
      rw [List.take_of_length_le (by omega)] at hd
      exact ⟨_, rfl, ⟨_, _, rfl, (b2.grown hg (by simp)).isInts (xs := [(xs.length : Int)]) rfl (by omega), hd⟩, hbl.grown hg hbl.size (fun j e => by cases e; omega)⟩

end Go.Proofs.YtihndbkaoejnnaaGreatDoor

namespace Go.Proofs.YtihndbkaoejnnaaGreatDoor
open Go Go.RowKit Go.Proofs.YtihndbkaoejnnaaGreatDoor.P

/-- So many lengths multiplied. -/
def ProdTo (t : List Nat) (j : Nat) (q : Int) : Prop := q = (prod (t.take j) : Int)
theorem ProdTo.zero (t : List Nat) : ProdTo t 0 1 := by simp [ProdTo, prod]
theorem prod_take_le {t : List Nat} (h : prod t ≠ 0) (j : Nat) : prod (t.take j) ≤ prod t := by
  have e : prod t = prod (t.take j) * prod (t.drop j) := by rw [← prod_append, List.take_append_drop]
  rw [e] at h ⊢
  have : 0 < prod (t.drop j) := by
    rcases Nat.eq_zero_or_pos (prod (t.drop j)) with h0 | h0
    · rw [h0] at h; simp at h
    · exact h0
  exact Nat.le_mul_of_pos_right _ this
theorem prod_take_succ {t : List Nat} {j n : Nat} (h : t[j]? = some n) : prod (t.take (j + 1)) = prod (t.take j) * n := by
  rw [List.take_add_one, h, prod_append]
  simp [prod]
theorem ints_at {t : List Nat} {j : Nat} {x : Int} (h : (ints t)[j]? = some x) : ∃ n : Nat, t[j]? = some n ∧ x = n := by
  rw [getElem?_ints, Option.map_eq_some_iff] at h
  obtain ⟨n, hn, e⟩ := h
  exact ⟨n, hn, e.symm⟩
theorem ProdTo.next {t : List Nat} {j : Nat} {q x : Int} (hp : ProdTo t j q) (h : prod t ≤ 4096) (h0 : prod t ≠ 0) (hx : (ints t)[j]? = some x) : 0 ≤ q * x ∧ q * x ≤ 4096 ∧ ProdTo t (j + 1) (q * x) := by
  obtain ⟨n, hn, rfl⟩ := ints_at hx
  have e : q * (n : Int) = ((prod (t.take (j + 1)) : Nat) : Int) := by
    rw [prod_take_succ hn, hp]
    simp
  have := prod_take_le h0 (j + 1)
  exact ⟨by rw [e]; omega, by rw [e]; omega, e⟩
theorem ProdTo.step {a : Arr} {t : List Nat} {j : Nat} {q x : Int} (hp : ProdTo t j q) (h : Ok a t) (h0 : prod t ≠ 0) (hx : a.sh[j]? = some x) : 0 ≤ q * x ∧ q * x ≤ 4096 ∧ ProdTo t (j + 1) (q * x) := by
  rw [h.sh] at hx
  exact hp.next h.good.2.2 h0 hx

end Go.Proofs.YtihndbkaoejnnaaGreatDoor

namespace Go.Proofs.YtihndbkaoejnnaaGreatDoor.P

/-- The shape of what indices tell. -/
def catSh (bs : List Arr) : List Int := bs.flatMap (·.sh)
/-- Is an index not one of its axis? -/
def idxBad (t : List Nat) (bs : List Arr) : Bool := (t.zip bs).any fun p => p.2.da.any fun i => decide (i < 0 ∨ (p.1 : Int) ≤ i)
/-- What pick.find says against some indices. -/
def pickErr (t : List Nat) (bs : List Arr) : Int :=
  if bs.length ≠ t.length then 3
  else if bs.any (·.ch) then 6
  else if cntErr (catSh bs) ≠ 0 then cntErr (catSh bs)
  else if idxBad t bs then 5 else 0
/-- One more index behind each place. -/
def stepAt (Q : List Int) (n : Nat) (d : List Int) : List Int := Q.flatMap fun q => d.map fun i => q * n + i
/-- The places that indices name. -/
def placesOf (t : List Nat) (bs : List Arr) : List Int := (t.zip bs).foldl (fun Q p => stepAt Q p.1 p.2.da) [0]
def placesTo (t : List Nat) (bs : List Arr) (k : Nat) : List Int := ((t.zip bs).take k).foldl (fun Q p => stepAt Q p.1 p.2.da) [0]

theorem catSh_take {bs : List Arr} {k : Nat} {b : Arr} (h : bs[k]? = some b) : catSh (bs.take (k + 1)) = catSh (bs.take k) ++ b.sh := by
  unfold catSh
  rw [List.take_add_one, h]
  simp
theorem placesTo_zero (t : List Nat) (bs : List Arr) : placesTo t bs 0 = [0] := rfl
theorem placesTo_succ {t : List Nat} {bs : List Arr} {k n : Nat} {b : Arr} (h : bs[k]? = some b) (ht : t[k]? = some n) : placesTo t bs (k + 1) = stepAt (placesTo t bs k) n b.da := by
  have hz : (t.zip bs)[k]? = some (n, b) := by rw [List.getElem?_zip_eq_some]; exact ⟨ht, h⟩
  unfold placesTo
  rw [List.take_add_one, hz]
  simp [List.foldl_append]
theorem placesTo_all {t : List Nat} {bs : List Arr} {k : Nat} (h : bs.length ≤ k) : placesTo t bs k = placesOf t bs := by
  unfold placesTo placesOf
  rw [List.take_of_length_le (by rw [List.length_zip]; omega)]
theorem stepAt_length (Q : List Int) (n : Nat) (d : List Int) : (stepAt Q n d).length = Q.length * d.length := by
  unfold stepAt
  induction Q with
  | nil => simp
  | cons q l ih => rw [List.flatMap_cons, List.length_append, ih, List.length_map, List.length_cons, Nat.add_mul, Nat.one_mul, Nat.add_comm]
/-- No index up to here is bad. -/
theorem idxBad_hit {t : List Nat} {bs : List Arr} {k n : Nat} {b : Arr} {j : Nat} {i : Int} (h : bs[k]? = some b) (ht : t[k]? = some n) (hj : b.da[j]? = some i) (hi : i < 0 ∨ (n : Int) ≤ i) : idxBad t bs = true := by
  have hz : (t.zip bs)[k]? = some (n, b) := by rw [List.getElem?_zip_eq_some]; exact ⟨ht, h⟩
  unfold idxBad
  rw [List.any_eq_true]
  exact ⟨_, List.mem_of_getElem? hz, List.any_eq_true.2 ⟨i, List.mem_of_getElem? hj, decide_eq_true hi⟩⟩
def IdxTo (t : List Nat) (bs : List Arr) (k : Nat) : Prop := ∀ k' b n, k' < k → bs[k']? = some b → t[k']? = some n → ∀ i ∈ b.da, 0 ≤ i ∧ i < n
theorem IdxTo.zero (t : List Nat) (bs : List Arr) : IdxTo t bs 0 := fun k' b n h => absurd h (Nat.not_lt_zero _)
def RowTo (n : Nat) (d : List Int) (j : Nat) : Prop := ∀ i ∈ d.take j, 0 ≤ i ∧ i < n
theorem RowTo.zero (n : Nat) (d : List Int) : RowTo n d 0 := by intro i hi; simp at hi
theorem RowTo.succ {n : Nat} {d : List Int} {j : Nat} {i : Int} (h : RowTo n d j) (hj : d[j]? = some i) (h0 : 0 ≤ i) (h1 : i < n) : RowTo n d (j + 1) := by
  intro x hx
  rw [List.take_add_one, hj] at hx
  rcases List.mem_append.1 hx with hx | hx
  · exact h x hx
  · simp at hx; subst hx; exact ⟨h0, h1⟩
theorem IdxTo.succ {t : List Nat} {bs : List Arr} {k n : Nat} {b : Arr} (h : IdxTo t bs k) (hk : bs[k]? = some b) (ht : t[k]? = some n) (hr : RowTo n b.da b.da.length) : IdxTo t bs (k + 1) := by
  intro k' b' n' hlt hb hn
  rcases Nat.lt_or_ge k' k with h1 | h1
  · exact h k' b' n' h1 hb hn
  · have : k' = k := by omega
    subst this
    rw [hk] at hb; injection hb with hb; subst hb
    rw [ht] at hn; injection hn with hn; subst hn
    intro i hi
    exact hr i (by rwa [List.take_length])
theorem IdxTo.ok {t : List Nat} {bs : List Arr} {k : Nat} (h : IdxTo t bs k) (hk : bs.length ≤ k) : idxBad t bs = false := by
  unfold idxBad
  rw [List.any_eq_false]
  rintro ⟨n, b⟩ hp
  obtain ⟨k', hk'⟩ := List.getElem?_of_mem hp
  obtain ⟨h1, h2⟩ := List.getElem?_zip_eq_some.1 hk'
  have hl := (List.getElem?_eq_some_iff.1 h2).1
  simp only [List.any_eq_true, decide_eq_true_eq, not_exists, not_and, not_or]
  intro i hi
  have := h k' b n (by omega) h2 h1 i hi
  omega
theorem idxs_of {t : List Nat} {bs : List Arr} (h : idxBad t bs = false) (k : Nat) : IdxTo t bs k := by
  intro k' b n _ hb hn i hi
  have hc : ¬ (i < 0 ∨ (n : Int) ≤ i) := fun hc => by
    obtain ⟨j, hj⟩ := List.getElem?_of_mem hi
    rw [idxBad_hit hb hn hj hc] at h
    cases h
  omega
def prodLen : List Arr → Nat
  | [] => 1
  | b :: l => b.da.length * prodLen l
theorem prodLen_append (bs cs : List Arr) : prodLen (bs ++ cs) = prodLen bs * prodLen cs := by
  induction bs with
  | nil => simp [prodLen]
  | cons b l ih => simp only [List.cons_append, prodLen, ih, Nat.mul_assoc]
theorem prodLen_take {bs : List Arr} {k : Nat} {b : Arr} (h : bs[k]? = some b) : prodLen (bs.take (k + 1)) = prodLen (bs.take k) * b.da.length := by
  rw [List.take_add_one, h, prodLen_append]
  simp [prodLen]
theorem prodLen_cut (bs : List Arr) (k : Nat) : prodLen bs = prodLen (bs.take k) * prodLen (bs.drop k) := by
  rw [← prodLen_append, List.take_append_drop]
theorem prodLen_take_le {bs : List Arr} (h : prodLen bs ≠ 0) (k : Nat) : prodLen (bs.take k) ≤ prodLen bs := by
  have e := prodLen_cut bs k
  have h0 : prodLen (bs.drop k) ≠ 0 := fun h0 => h (by rw [e, h0, Nat.mul_zero])
  calc prodLen (bs.take k) = prodLen (bs.take k) * 1 := (Nat.mul_one _).symm
    _ ≤ prodLen (bs.take k) * prodLen (bs.drop k) := Nat.mul_le_mul_left _ (by omega)
    _ = prodLen bs := e.symm
theorem prodLen_ne {bs : List Arr} (h : prodLen bs ≠ 0) {k : Nat} {b : Arr} (hb : bs[k]? = some b) : b.da.length ≠ 0 := by
  intro h0
  have e := prodLen_cut bs (k + 1)
  rw [prodLen_take hb, h0, Nat.mul_zero, Nat.zero_mul] at e
  exact h e
theorem placesTo_len {t : List Nat} {bs : List Arr} (hl : bs.length = t.length) : ∀ {k : Nat}, k ≤ bs.length → (placesTo t bs k).length = prodLen (bs.take k)
  | 0, _ => by rw [placesTo_zero, List.take_zero]; rfl
  | k + 1, h => by
    obtain ⟨b, hb⟩ : ∃ b, bs[k]? = some b := ⟨_, List.getElem?_eq_getElem (by omega)⟩
    obtain ⟨n, hn⟩ : ∃ n, t[k]? = some n := ⟨_, List.getElem?_eq_getElem (by omega)⟩
    rw [placesTo_succ hb hn, stepAt_length, placesTo_len hl (by omega), prodLen_take hb]
theorem catSh_ints : ∀ {bs : List Arr}, (∀ b ∈ bs, ∃ s, Ok b s) → ∃ u, catSh bs = ints u ∧ prod u = prodLen bs
  | [], _ => ⟨[], rfl, rfl⟩
  | b :: l, h => by
    obtain ⟨u, e1, e2⟩ := catSh_ints (bs := l) fun x hx => h x (List.mem_cons_of_mem _ hx)
    obtain ⟨s, hs⟩ := h b (List.mem_cons_self ..)
    refine ⟨s ++ u, ?_, ?_⟩
    · rw [show catSh (b :: l) = b.sh ++ catSh l from rfl, e1, hs.sh]; simp [ints]
    · rw [prod_append, e2, ← hs.len]; rfl
theorem cat_val {bs : List Arr} (hg : ∀ b ∈ bs, ∃ s, Ok b s) (h : cntErr (catSh bs) = 0) : cntVal (catSh bs) = prodLen bs ∧ prodLen bs ≤ 4096 := by
  obtain ⟨u, e1, e2⟩ := catSh_ints hg
  obtain ⟨t, e3, h3⟩ := cntErr_zero h
  have : u = t := ints_inj (e1.symm.trans e3)
  subst this
  rw [e3, cntVal_ints h3, e2]
  exact ⟨rfl, by rw [← e2]; exact h3.2.2⟩
theorem places_in {t : List Nat} {bs : List Arr} (hl : bs.length = t.length) (hi : idxBad t bs = false) : ∀ {k : Nat}, k ≤ bs.length → ∀ q ∈ placesTo t bs k, 0 ≤ q ∧ q < (prod (t.take k) : Int)
  | 0, _ => by intro q hq; rw [placesTo_zero] at hq; simp at hq; subst hq; simp [prod]
  | k + 1, h => by
    obtain ⟨b, hb⟩ : ∃ b, bs[k]? = some b := ⟨_, List.getElem?_eq_getElem (by omega)⟩
    obtain ⟨n, hn⟩ : ∃ n, t[k]? = some n := ⟨_, List.getElem?_eq_getElem (by omega)⟩
    intro q hq
    rw [placesTo_succ hb hn] at hq
    unfold stepAt at hq
    obtain ⟨r, hr, hq⟩ := List.mem_flatMap.1 hq
    obtain ⟨i, hi', rfl⟩ := List.mem_map.1 hq
    obtain ⟨r0, r1⟩ := places_in hl hi (by omega) r hr
    obtain ⟨i0, i1⟩ := idxs_of hi (k + 1) k b n (by omega) hb hn i hi'
    have h0 : 0 ≤ r * n := Int.mul_nonneg r0 (by omega)
    have h1 : (r + 1) * n ≤ prod (t.take k) * n := Int.mul_le_mul_of_nonneg_right (by omega) (by omega)
    rw [Int.add_mul, Int.one_mul] at h1
    rw [prod_take_succ hn, Int.natCast_mul]
    omega
theorem axes_ne {t : List Nat} {bs : List Arr} (hl : bs.length = t.length) (hi : idxBad t bs = false) (h : prodLen bs ≠ 0) : prod t ≠ 0 := by
  have : 0 ∉ t := by
    intro h0
    obtain ⟨k, hk⟩ := List.getElem?_of_mem h0
    have hlt := (List.getElem?_eq_some_iff.1 hk).1
    obtain ⟨b, hb⟩ : ∃ b, bs[k]? = some b := ⟨_, List.getElem?_eq_getElem (by omega)⟩
    have hne := prodLen_ne h hb
    obtain ⟨i0, i1⟩ := idxs_of hi (k + 1) k b 0 (by omega) hb hk b.da[0] (List.getElem_mem (by omega))
    omega
  have := prod_pos this
  omega
/-- The numbers that one step takes stay small. -/
theorem step_small {t : List Nat} {bs : List Arr} (hl : bs.length = t.length) (hi : idxBad t bs = false) (h : prodLen bs ≠ 0) (ht : prod t ≤ 4096) {k n : Nat} {b : Arr} (hb : bs[k]? = some b) (hn : t[k]? = some n) {q i : Int}
    (hq : q ∈ placesTo t bs k) (hi' : i ∈ b.da) : 0 ≤ q ∧ q ≤ 4096 ∧ 0 ≤ i ∧ i ≤ 4096 ∧ 0 ≤ q * n ∧ q * n + i ≤ 4096 := by
  have hlt := (List.getElem?_eq_some_iff.1 hb).1
  obtain ⟨q0, q1⟩ := places_in hl hi (by omega) q hq
  obtain ⟨i0, i1⟩ := idxs_of hi (k + 1) k b n (by omega) hb hn i hi'
  have m : q * n + i ∈ placesTo t bs (k + 1) := by
    rw [placesTo_succ hb hn]
    exact List.mem_flatMap.2 ⟨q, hq, List.mem_map.2 ⟨i, hi', rfl⟩⟩
  obtain ⟨m0, m1⟩ := places_in hl hi (by omega) _ m
  have p1 := prod_take_le (axes_ne hl hi h) k
  have p2 := prod_take_le (axes_ne hl hi h) (k + 1)
  have h0 : 0 ≤ q * n := Int.mul_nonneg q0 (by omega)
  omega
theorem places_none {t : List Nat} {bs : List Arr} (hl : bs.length = t.length) (h : prodLen bs = 0) : placesOf t bs = [] := by
  rw [← placesTo_all (Nat.le_refl _), ← List.length_eq_zero_iff, placesTo_len hl (Nat.le_refl _), List.take_length, h]
theorem stepAt_take {Q : List Int} {n j : Nat} {d : List Int} {q : Int} (h : Q[j]? = some q) : stepAt (Q.take (j + 1)) n d = stepAt (Q.take j) n d ++ d.map fun i => q * n + i := by
  unfold stepAt
  rw [List.take_add_one, h]
  simp
theorem map_take {d : List Int} {j : Nat} {i : Int} (f : Int → Int) (h : d[j]? = some i) : (d.take (j + 1)).map f = (d.take j).map f ++ [f i] := by
  rw [List.take_add_one, h]
  simp
end Go.Proofs.YtihndbkaoejnnaaGreatDoor.P

namespace Go.Proofs.YtihndbkaoejnnaaGreatDoor.P
/-- The first numbers. -/
def firstNums (n : Nat) : Arr := ⟨false, [(n : Int)], ints (List.range n)⟩
theorem firstNums_ok {n : Nat} (h : n ≤ 4096) : Ok (firstNums n) [n] := by
  refine ⟨rfl, ⟨by simp, fun m hm => ?_, by simpa [prod] using h⟩, by simp [firstNums, ints, prod], fun h => by cases h⟩
  simp at hm
  omega
end Go.Proofs.YtihndbkaoejnnaaGreatDoor.P
namespace Go.Proofs.YtihndbkaoejnnaaGreatDoor
open Go Go.RowKit Go.Proofs.YtihndbkaoejnnaaGreatDoor.P

set_option maxHeartbeats 1000000 in
theorem iota_ok (n : Nat) (w : World) (hn : n ≤ 4096) : Calls Tryz.prog 19 #[.int .i64 n] w (GivesOk (firstNums n) w) := by
  obtain ⟨T, hT⟩ : ∃ T, T = ints (List.range n) := ⟨_, rfl⟩
  have hTl : T.length = n := by rw [hT]; simp [ints]
  have HTK := Lib.hid (show ∀ k, k < n → T[k]? = some (k : Int) from fun k hk => by rw [hT]; simp [ints, hk])
  have HTL := Lib.hid hTl
  have HT := Lib.hid hT
  clear hT hTl
  have b0 : decide ((n : Int) < 0) = false := by simp
  have b1 : decide ((n : Int) > 4096) = false := by simp; omega
  go_enter Tryz.func19, Tryz.ntmps19
  go_wp2
  go_loopw [18] (fun i wr => ∃ (k : Nat) (A : Option Addr) (c' : Nat), k ≤ n ∧ i = .int .i64 k ∧ Box wr w.heap.size 25 #[.bool false, .slice none 0 0, .slice none 0 0] ∧
      Box wr (w.heap.size + 1) 3 #[.int .i64 n] ∧ Box wr (w.heap.size + 1 + 1) 25 #[.bool false, .slice (some ⟨w.heap.size + 1, 0, none⟩) 1 1, .slice A k c'] ∧
      Owns wr (w.heap.size + 3) (.slice A k c') k (T.take k) ∧ Below w.heap.size w wr)
    (fun i _ => n - (intOf i).toNat)
  case atStart => exact ⟨0, none, 0, Nat.zero_le _, rfl, ((Box.new _ _ _).alloc _).alloc _, (by simpa using (Box.new (w.alloc _) 3 #[.int .i64 n]).alloc _), (by simpa using Box.new ((w.alloc _).alloc _) 25 _), Owns.nil _ _, below_three _ _ _ _⟩
  case round =>
    obtain ⟨k, A, c', hk, rfl, b1, b2, b3, hown, hbl⟩ := hrel
    rcases Nat.lt_or_ge k n with hlt | hge
    · obtain ⟨-, -, hc3⟩ := b3.three
      have hf3 := b3.frozen 2
      have hne := hown.ne_box b3 (by decide)
      have hs3 := b3.lt
      have hx' := Lib.hid (HTK.out k hlt)
      go_wp2_with (at_builtin; refine wpList_append_ints _ rfl rfl _ _ rfl (w.heap.size + 3) k _ (T.take k) rfl (hown.alloc _) (some ⟨wr.heap.size, 0, none⟩) 1 1 [(k : Int)] rfl (by simp) (elems_new wr (k : Int)) rfl (by omega) (by simp; omega) ?_; intro A2 c2 w1 hown1 hgrow hat; have b3' := (b3.alloc _).grown hgrow hne; have hc1 := b3'.three.2.2; have hf1 := b3'.frozen 2)
      go_roundw
      case rel => exact ⟨k + 1, A2, c2, by omega, by go_num, ((b1.alloc _).grown hgrow (hown.ne_box b1 (by decide))).far (p := ⟨w.heap.size + 1 + 1, 2, none⟩) (by simp; omega) _, ((b2.alloc _).grown hgrow (hown.ne_low (by omega))).far (p := ⟨w.heap.size + 1 + 1, 2, none⟩) (by simp) _, b3'.store 2 _, by rw [← take_at hx'.out]; exact hown1.setCell (p := ⟨w.heap.size + 1 + 1, 2, none⟩) (hown1.ne_box b3' (by decide)) _, ((hbl.alloc hbl.size _).grown hgrow (by simp; have := hbl.size; omega) (fun _ hk' => by have := (hown.lt hk').1; omega)).setCell (p := ⟨w.heap.size + 1 + 1, 2, none⟩) (by simp; omega) _⟩
      case measure => simp [intOf]; omega
    · obtain ⟨p0, p1, p2⟩ := b3.three
      obtain ⟨q0, q1, q2⟩ := b1.three
      have f1 := b1.frozen
      have hl := b1.lt
      have hkk : k = n := by omega
      subst hkk
      go_wp2
      refine bodyPost_ret (v := .tuple #[.agg #[.bool false, .slice (some ⟨w.heap.size + 1, 0, none⟩) 1 1, .slice A k c'], .nilIface]) (by simp [results, Tryz.results19, go_sem, q0, q1, q2, hl]) rfl ?_
      have hg := grownBy_three wr w.heap.size (.bool false) (.slice (some ⟨w.heap.size + 1, 0, none⟩) 1 1) (.slice A k c')
      have hd := ((hown.kept hg (.inr (hown.ne_low (by omega)))).base (B' := w.heap.size) (by omega)).isInts
      rw [List.take_of_length_le (by rw [HTL.out]; exact Nat.le_refl _)] at hd
      refine ⟨_, rfl, ⟨_, _, rfl, (b2.grown hg (by simp)).isInts (xs := [(k : Int)]) rfl (by omega), ?_⟩, hbl.grown hg hbl.size (fun j e => by cases e; omega)⟩
      rw [show (firstNums k).da = T from HT.out.symm]
      exact hd

end Go.Proofs.YtihndbkaoejnnaaGreatDoor
