/- What the card TopProduct leans on: Make, Turn, Iota, IotaOwn. Conditions: none but those of its theorems. -/
import Derived.Deep.RegionHeld3
import Derived.Deep.RegionLaw
import Derived.Test.YtihndbkaoejnnaaGreatDoorProductC
import Derived.Test.YtihndbkaoejnnaaGreatDoorProductE
set_option linter.unusedSimpArgs false
set_option linter.unusedVariables false
namespace Go.Proofs.YtihndbkaoejnnaaGreatDoor
open Go Go.RowKit Go.Proofs.YtihndbkaoejnnaaGreatDoor.P

/-- A call tells a new list. -/
def Lists (xs : List Int) (w : World) (e : Ending) (w' : World) : Prop :=
  ∃ A c, e = .returned (.slice A xs.length c) ∧ Owns w' w.heap.size (.slice A xs.length c) xs.length xs ∧ Below w.heap.size w w'

theorem below_grown {w w1 w' : World} {v : Value} {n : Nat} {xs : List Int} (h : Below w.heap.size w w1) (ho : Owns w1 w.heap.size v n xs) (hg : w1.grownBy w' v.ownBlock) : Below w.heap.size w w' :=
  h.grown hg h.size fun _ hk => (ho.lt hk).1

set_option maxHeartbeats 400000 in
theorem clone_any (v : Value) (xs : List Int) (w : World) (ha : IsInts w v xs) : Calls Tryz.prog 24 #[v] w (Lists xs w) := by
  obtain ⟨A, c, rfl, a1, a2, a3, a0, a4⟩ := ha
  rcases A with _ | ad
  · have hc := a0 rfl
    subst hc
    have hx : xs = [] := List.eq_nil_of_length_eq_zero (by omega)
    subst hx
    clear a4 a0 a1 a2 a3
    have he := fun w => Lib.run_eql_slice_nil (P := Tryz.prog) w 23 3 none 0 0 0 0 Tryz.underlying23
    simp only [List.length_nil]
    go_enter Tryz.func24, Tryz.ntmps24
    go_wp2_with fail
    go_ret
    exact ⟨none, 0, rfl, Owns.nil _ _, Below.refl _ _⟩
  · have he := fun w => Lib.run_eql_slice_nil (P := Tryz.prog) w 23 3 (some ad) xs.length c 0 0 Tryz.underlying23
    have h4 := Lib.hid a4
    have h0 := Lib.hid a0
    have hown : Owns (w.alloc (.cells #[] 3)) w.heap.size (.slice (some ⟨w.heap.size, 0, none⟩) 0 0) 0 [] := ⟨World.ownsRow_made _ _ _ (Nat.le_refl _) (by unfold maxLen; omega) rfl, by omega⟩
    clear a4 a0
    go_enter Tryz.func24, Tryz.ntmps24
    go_wp2_with (at_builtin; refine wpList_append_ints _ rfl rfl _ _ rfl w.heap.size 0 _ [] rfl hown (some ad) xs.length c xs rfl h0.out (Elems.mono h4.out (below_one _ _)) rfl (by omega) (by simp) ?_; intro A' c' w' hown' hgrow hat)
    simp only [Nat.zero_add, List.nil_append] at hown'
    go_ret
    exact ⟨A', c', by simp, hown', below_grown (below_one _ _) hown hgrow⟩

theorem take_at {xs : List Int} {k : Nat} {x : Int} (h : xs[k]? = some x) : xs.take k ++ [x] = xs.take (k + 1) := by rw [List.take_add_one, h]; rfl

set_option maxHeartbeats 1000000 in
theorem vector_any (ch : Bool) (v : Value) (xs : List Int) (w : World) (ha : IsInts w v xs) :
    Calls Tryz.prog 12 #[.bool ch, v] w fun e w' => ∃ r, e = .returned r ∧ IsArr w' r ⟨ch, [(xs.length : Int)], xs⟩ ∧ Below w.heap.size w w' := by
  obtain ⟨X, c, rfl, a1, a2, a3, a0, a4⟩ := ha
  have h4 := Lib.hid a4
  clear a4 a0
  go_enter Tryz.func12, Tryz.ntmps12
  go_wp2
  go_loopw [6] (fun i wr => ∃ (k : Nat) (A : Option Addr) (c' : Nat), k ≤ xs.length ∧ i = .int .i64 k ∧ Box wr w.heap.size 25 #[.bool false, .slice none 0 0, .slice none 0 0] ∧
      Box wr (w.heap.size + 1) 3 #[.int .i64 xs.length] ∧ Box wr (w.heap.size + 1 + 1) 25 #[.bool ch, .slice (some ⟨w.heap.size + 1, 0, none⟩) 1 1, .slice A k c'] ∧
      Owns wr (w.heap.size + 3) (.slice A k c') k (xs.take k) ∧ Below w.heap.size w wr)
    (fun i _ => xs.length - (intOf i).toNat)
  case atStart => exact ⟨0, none, 0, Nat.zero_le _, rfl, ((Box.new _ _ _).alloc _).alloc _, (by simpa using (Box.new (w.alloc _) 3 #[.int .i64 xs.length]).alloc _), (by simpa using Box.new ((w.alloc _).alloc _) 25 _), Owns.nil _ _, below_three _ _ _ _⟩
  case round =>
    obtain ⟨k, A, c', hk, rfl, b1, b2, b3, hown, hbl⟩ := hrel
    rcases Nat.lt_or_ge k xs.length with hlt | hge
    · obtain ⟨ad, x, rfl, hx, hal, hcx⟩ := Elems.later h4.out hbl hlt
      have hx' := Lib.hid hx
      clear hx
      obtain ⟨-, -, hc3⟩ := b3.three
      have hf3 := b3.frozen 2
      have hne := hown.ne_box b3 (by decide)
      have hne2 := hown.ne_low (b := ad.block) (by omega)
      have hs3 := b3.lt
      go_wp2_with fail
      go_region_law
        ((refine step_append_ints _ rfl rfl _ _ (by rfl) (w.heap.size + 3) k _ (xs.take k) (by rfl) ((hown.alloc _).drew) (some ⟨wr.heap.size, 0, none⟩) 1 1 [x] (by rfl) (by simp) (elems_new wr x) rfl (by omega) (by simp; omega) ?_; intro A2 c2 w1 hown1 hgrow hat; have b3' := ((b3.alloc _).drew).grown hgrow hne; have hc1 := b3'.three.2.2; have hf1 := b3'.frozen 2; have hk1 := cell_kept1 hcx hgrow (by rw [addr_block_add]; exact hne2)))
      all_goals
        go_wp2
        go_roundw
        case rel => exact ⟨k + 1, A2, c2, by omega, by go_num, (((b1.alloc _).drew).grown hgrow (hown.ne_box b1 (by decide))).far (p := ⟨w.heap.size + 1 + 1, 2, none⟩) (by simp; omega) _, (((b2.alloc _).drew).grown hgrow (hown.ne_low (by omega))).far (p := ⟨w.heap.size + 1 + 1, 2, none⟩) (by simp) _, b3'.store 2 _, by rw [← take_at hx'.out]; exact hown1.setCell (p := ⟨w.heap.size + 1 + 1, 2, none⟩) (hown1.ne_box b3' (by decide)) _, ((((hbl.alloc hbl.size _).drew).grown hgrow (by simp; have := hbl.size; omega) (fun _ hk' => by have := (hown.lt hk').1; omega))).setCell (p := ⟨w.heap.size + 1 + 1, 2, none⟩) (by simp; omega) _⟩
        case measure => simp [intOf]; omega
    · obtain ⟨p0, p1, p2⟩ := b3.three
      obtain ⟨q0, q1, q2⟩ := b1.three
      have f1 := b1.frozen
      have hkk : k = xs.length := by omega
      have HK := Lib.hid hkk
      clear hkk
      go_wp2
      refine bodyPost_ret (v := .agg #[.bool ch, .slice (some ⟨w.heap.size + 1, 0, none⟩) 1 1, .slice A k c']) (by simp [results, Tryz.results12, go_sem, q0, q1, q2]) rfl ?_
      have hg := grownBy_three wr w.heap.size (.bool ch) (.slice (some ⟨w.heap.size + 1, 0, none⟩) 1 1) (.slice A k c')
      have hd := ((hown.kept hg (.inr (hown.ne_low (by omega)))).base (B' := w.heap.size) (by omega)).isInts
      rw [List.take_of_length_le (by omega)] at hd
      exact ⟨_, rfl, ⟨_, _, rfl, (b2.grown hg (by simp)).isInts (xs := [(xs.length : Int)]) rfl (by omega), hd⟩, hbl.grown hg hbl.size (fun j e => by cases e; omega)⟩

end Go.Proofs.YtihndbkaoejnnaaGreatDoor

namespace Go.Proofs.YtihndbkaoejnnaaGreatDoor
open Go Go.RowKit Go.Proofs.YtihndbkaoejnnaaGreatDoor.P

/-- So many lengths multiplied. -/
def ProdTo (t : List Nat) (j : Nat) (q : Int) : Prop := q = (prod (t.take j) : Int)
theorem ProdTo.zero (t : List Nat) : ProdTo t 0 1 := by simp [ProdTo, prod]
theorem prod_take_le {t : List Nat} (h : prod t ≠ 0) (j : Nat) : prod (t.take j) ≤ prod t := by
  have e : prod t = prod (t.take j) * prod (t.drop j) := by rw [← prod_append, List.take_append_drop]
  rw [e] at h ⊢
  have : 0 < prod (t.drop j) := by
    rcases Nat.eq_zero_or_pos (prod (t.drop j)) with h0 | h0
    · rw [h0] at h; simp at h
    · exact h0
  exact Nat.le_mul_of_pos_right _ this
theorem prod_take_succ {t : List Nat} {j n : Nat} (h : t[j]? = some n) : prod (t.take (j + 1)) = prod (t.take j) * n := by
  rw [List.take_add_one, h, prod_append]
  simp [prod]
theorem ints_at {t : List Nat} {j : Nat} {x : Int} (h : (ints t)[j]? = some x) : ∃ n : Nat, t[j]? = some n ∧ x = n := by
  rw [getElem?_ints, Option.map_eq_some_iff] at h
  obtain ⟨n, hn, e⟩ := h
  exact ⟨n, hn, e.symm⟩
theorem ProdTo.next {t : List Nat} {j : Nat} {q x : Int} (hp : ProdTo t j q) (h : prod t ≤ 4096) (h0 : prod t ≠ 0) (hx : (ints t)[j]? = some x) : 0 ≤ q * x ∧ q * x ≤ 4096 ∧ ProdTo t (j + 1) (q * x) := by
  obtain ⟨n, hn, rfl⟩ := ints_at hx
  have e : q * (n : Int) = ((prod (t.take (j + 1)) : Nat) : Int) := by
    rw [prod_take_succ hn, hp]
    simp
  have := prod_take_le h0 (j + 1)
  exact ⟨by rw [e]; omega, by rw [e]; omega, e⟩
theorem ProdTo.step {a : Arr} {t : List Nat} {j : Nat} {q x : Int} (hp : ProdTo t j q) (h : Ok a t) (h0 : prod t ≠ 0) (hx : a.sh[j]? = some x) : 0 ≤ q * x ∧ q * x ≤ 4096 ∧ ProdTo t (j + 1) (q * x) := by
  rw [h.sh] at hx
  exact hp.next h.good.2.2 h0 hx

def lineV (p : Nat × Nat × Nat) : Value := .agg #[.int .i64 p.1, .int .i64 p.2.1, .int .i64 p.2.2]

def GivesLine (p : Nat × Nat × Nat) (w : World) (e : Ending) (w' : World) : Prop := e = .returned (.tuple #[lineV p, .nilIface]) ∧ Below w.heap.size w w'

end Go.Proofs.YtihndbkaoejnnaaGreatDoor

namespace Go.Proofs.YtihndbkaoejnnaaGreatDoor.P
/-- The first numbers. -/
def firstNums (n : Nat) : Arr := ⟨false, [(n : Int)], ints (List.range n)⟩
theorem firstNums_ok {n : Nat} (h : n ≤ 4096) : Ok (firstNums n) [n] := by
  refine ⟨rfl, ⟨by simp, fun m hm => ?_, by simpa [prod] using h⟩, by simp [firstNums, ints, prod], fun h => by cases h⟩
  simp at hm
  omega
end Go.Proofs.YtihndbkaoejnnaaGreatDoor.P
namespace Go.Proofs.YtihndbkaoejnnaaGreatDoor
open Go Go.RowKit Go.Proofs.YtihndbkaoejnnaaGreatDoor.P

end Go.Proofs.YtihndbkaoejnnaaGreatDoor

namespace Go.Proofs.YtihndbkaoejnnaaGreatDoor
open Go Go.RowKit Go.Proofs.YtihndbkaoejnnaaGreatDoor.P

set_option maxHeartbeats 1000000 in
theorem iota_own (n : Nat) (w : World) (hn : n ≤ 4096) : Calls Tryz.prog 19 #[.int .i64 n] w fun e w' => ∃ S cs D cd, e = .returned (.tuple #[.agg #[.bool false, .slice S 1 cs, .slice D n cd], .nilIface]) ∧
    Owns w' w.heap.size (.slice S 1 cs) 1 [(n : Int)] ∧ Owns w' w.heap.size (.slice D n cd) n (ints (List.range n)) ∧ Below w.heap.size w w' := by
  obtain ⟨T, hT⟩ : ∃ T, T = ints (List.range n) := ⟨_, rfl⟩
  have hTl : T.length = n := by rw [hT]; simp [ints]
  have HTK := Lib.hid (show ∀ k, k < n → T[k]? = some (k : Int) from fun k hk => by rw [hT]; simp [ints, hk])
  have HTL := Lib.hid hTl
  have HT := Lib.hid hT
  clear hT hTl
  have b0 : decide ((n : Int) < 0) = false := by simp
  have b1 : decide ((n : Int) > 4096) = false := by simp; omega
  go_enter Tryz.func19, Tryz.ntmps19
  go_wp2
  go_loopw [18] (fun i wr => ∃ (k : Nat) (A : Option Addr) (c' : Nat), k ≤ n ∧ i = .int .i64 k ∧ Box wr w.heap.size 25 #[.bool false, .slice none 0 0, .slice none 0 0] ∧
      Box wr (w.heap.size + 1) 3 #[.int .i64 n] ∧ Box wr (w.heap.size + 1 + 1) 25 #[.bool false, .slice (some ⟨w.heap.size + 1, 0, none⟩) 1 1, .slice A k c'] ∧
      Owns wr (w.heap.size + 3) (.slice A k c') k (T.take k) ∧ Below w.heap.size w wr)
    (fun i _ => n - (intOf i).toNat)
  case atStart => exact ⟨0, none, 0, Nat.zero_le _, rfl, ((Box.new _ _ _).alloc _).alloc _, (by simpa using (Box.new (w.alloc _) 3 #[.int .i64 n]).alloc _), (by simpa using Box.new ((w.alloc _).alloc _) 25 _), Owns.nil _ _, below_three _ _ _ _⟩
  case round =>
    obtain ⟨k, A, c', hk, rfl, b1, b2, b3, hown, hbl⟩ := hrel
    rcases Nat.lt_or_ge k n with hlt | hge
    · obtain ⟨-, -, hc3⟩ := b3.three
      have hf3 := b3.frozen 2
      have hne := hown.ne_box b3 (by decide)
      have hs3 := b3.lt
      have hx' := Lib.hid (HTK.out k hlt)
      go_wp2_with (at_builtin; refine wpList_append_ints _ rfl rfl _ _ rfl (w.heap.size + 3) k _ (T.take k) rfl (hown.alloc _) (some ⟨wr.heap.size, 0, none⟩) 1 1 [(k : Int)] rfl (by simp) (elems_new wr (k : Int)) rfl (by omega) (by simp; omega) ?_; intro A2 c2 w1 hown1 hgrow hat; have b3' := (b3.alloc _).grown hgrow hne; have hc1 := b3'.three.2.2; have hf1 := b3'.frozen 2)
      go_roundw
      case rel => exact ⟨k + 1, A2, c2, by omega, by go_num, ((b1.alloc _).grown hgrow (hown.ne_box b1 (by decide))).far (p := ⟨w.heap.size + 1 + 1, 2, none⟩) (by simp; omega) _, ((b2.alloc _).grown hgrow (hown.ne_low (by omega))).far (p := ⟨w.heap.size + 1 + 1, 2, none⟩) (by simp) _, b3'.store 2 _, by rw [← take_at hx'.out]; exact hown1.setCell (p := ⟨w.heap.size + 1 + 1, 2, none⟩) (hown1.ne_box b3' (by decide)) _, ((hbl.alloc hbl.size _).grown hgrow (by simp; have := hbl.size; omega) (fun _ hk' => by have := (hown.lt hk').1; omega)).setCell (p := ⟨w.heap.size + 1 + 1, 2, none⟩) (by simp; omega) _⟩
      case measure => simp [intOf]; omega
    · obtain ⟨p0, p1, p2⟩ := b3.three
      obtain ⟨q0, q1, q2⟩ := b1.three
      have f1 := b1.frozen
      have hl := b1.lt
      have hkk : k = n := by omega
      subst hkk
      go_wp2
      refine bodyPost_ret (v := .tuple #[.agg #[.bool false, .slice (some ⟨w.heap.size + 1, 0, none⟩) 1 1, .slice A k c'], .nilIface]) (by simp [results, Tryz.results19, go_sem, q0, q1, q2, hl]) rfl ?_
      have hg := grownBy_three wr w.heap.size (.bool false) (.slice (some ⟨w.heap.size + 1, 0, none⟩) 1 1) (.slice A k c')
      have hd := ((hown.kept hg (.inr (hown.ne_low (by omega)))).base (B' := w.heap.size) (by omega))
      rw [List.take_of_length_le (by rw [HTL.out]; exact Nat.le_refl _), HT.out] at hd
      have hb2 : Box _ (w.heap.size + 1) 3 #[.int .i64 k] := b2.grown hg (by simp)
      exact ⟨_, _, _, _, rfl, ⟨⟨rfl, .inr ⟨w.heap.size + 1, 1, #[.int .i64 k], rfl, by omega, hb2, Nat.le_refl _, by unfold maxLen; omega, rfl, rfl⟩⟩, by omega⟩, hd, hbl.grown hg hbl.size (fun j e => by cases e; omega)⟩

end Go.Proofs.YtihndbkaoejnnaaGreatDoor
