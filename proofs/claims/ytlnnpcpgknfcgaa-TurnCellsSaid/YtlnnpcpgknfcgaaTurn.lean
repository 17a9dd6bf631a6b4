/- The walks of package turn: along, moved, Reverse, Rotate. Conditions: none. -/
import Derived.Test.YtlnnpcpgknfcgaaCount
import Derived.Test.YtlnnpcpgknfcgaaMake
set_option linter.unusedSimpArgs false
set_option linter.unusedVariables false
namespace Go.Proofs.Ytlnnpcpgknfcgaa
open Go Go.RowKit Go.Proofs.Ytlnnpcpgknfcgaa.P

set_option maxHeartbeats 400000 in
theorem along_bad {v : Value} {a : Arr} {w : World} {axis : Int} (ha : IsArr w v a) (h : arrErr a ≠ 0) :
    Calls Try.prog 11 #[.int .i64 axis, v] w (Fails (.agg #[.int .i64 0, .int .i64 0, .int .i64 0]) (arrErr a) w) := by
  obtain ⟨A, ca, D, cd, rfl, hs, hd⟩ := ha.open_
  have H := Lib.hid h
  clear h
  go_enter Try.func11, Try.ntmps11
  go_wp2_with fail
  refine (check_bad (ha.mono (below_two _ _ _)) H.out).mono ?_
  rintro e w1 ⟨rfl, hb⟩
  have b1 := (Box.new (w.alloc _) 38 #[.int .i64 0, .int .i64 0, .int .i64 0]).below hb
  rw [World.size_alloc] at b1
  obtain ⟨q0, q1, q2⟩ := b1.three
  have f1 := b1.frozen
  go_wp2
  refine bodyPost_ret (v := .tuple #[.agg #[.int .i64 0, .int .i64 0, .int .i64 0], .iface 50 (.int .i64 (arrErr a))]) (by simp [results, Try.results11, go_sem, q0, q1, q2]) rfl ?_
  exact ⟨rfl, ((below_two _ _ _).trans (hb.mono (by simp; omega))).grown (grownBy_three w1 (w.heap.size + 1) _ _ _) (by have := hb.size; simp at this; omega) (fun j e => by cases e; omega)⟩

set_option maxHeartbeats 400000 in
theorem along_out {v : Value} {a : Arr} {t : List Nat} {w : World} {axis : Int} (ha : IsArr w v a) (h : Ok a t) (hx : axis < 0 ∨ (t.length : Int) ≤ axis) :
    Calls Try.prog 11 #[.int .i64 axis, v] w (Fails (.agg #[.int .i64 0, .int .i64 0, .int .i64 0]) 5 w) := by
  obtain ⟨A, ca, D, cd, rfl, hs, hd⟩ := ha.open_
  have hl : a.sh.length = t.length := by rw [h.sh, length_ints]
  have hlt := h.good.1
  rw [← hl] at hx hlt
  clear hl
  have H := Lib.hid h
  clear h
  have fin : ∀ w1 : World, Below ((w.alloc (.cells #[.bool a.ch, .slice A a.sh.length ca, .slice D a.da.length cd] 25)).alloc (.cells #[.int .i64 0, .int .i64 0, .int .i64 0] 38)).heap.size
      ((w.alloc (.cells #[.bool a.ch, .slice A a.sh.length ca, .slice D a.da.length cd] 25)).alloc (.cells #[.int .i64 0, .int .i64 0, .int .i64 0] 38)) w1 →
      Below w.heap.size w (((w1.setCell ⟨w.heap.size + 1, 0, none⟩ (.int .i64 0)).setCell ⟨w.heap.size + 1, 1, none⟩ (.int .i64 0)).setCell ⟨w.heap.size + 1, 2, none⟩ (.int .i64 0)) := fun w1 hb =>
    ((below_two _ _ _).trans (hb.mono (by simp; omega))).grown (grownBy_three w1 (w.heap.size + 1) _ _ _) (by have := hb.size; simp at this; omega) (fun j e => by cases e; omega)
  have Fin := Lib.hid fin
  clear fin
  go_enter Try.func11, Try.ntmps11
  go_wp2_with fail
  refine (check_ok (ha.mono (below_two _ _ _)) H.out).mono ?_
  rintro e w1 ⟨rfl, hb⟩
  have b0 := ((Box.new w 25 #[.bool a.ch, .slice A a.sh.length ca, .slice D a.da.length cd]).alloc (.cells #[.int .i64 0, .int .i64 0, .int .i64 0] 38)).below hb
  have b1 := (Box.new (w.alloc _) 38 #[.int .i64 0, .int .i64 0, .int .i64 0]).below hb
  rw [World.size_alloc] at b1
  obtain ⟨p0, p1, p2⟩ := b0.three
  obtain ⟨q0, q1, q2⟩ := b1.three
  have f1 := b1.frozen
  rcases Int.lt_or_le axis 0 with h0 | h0
  · go_wp2
    refine bodyPost_ret (v := .tuple #[.agg #[.int .i64 0, .int .i64 0, .int .i64 0], .iface 50 (.int .i64 5)]) (by simp [results, Try.results11, go_sem, q0, q1, q2]) rfl ?_
    exact ⟨rfl, Fin.out _ hb⟩
  · have h1 : (a.sh.length : Int) ≤ axis := by omega
    go_wp2
    refine bodyPost_ret (v := .tuple #[.agg #[.int .i64 0, .int .i64 0, .int .i64 0], .iface 50 (.int .i64 5)]) (by simp [results, Try.results11, go_sem, q0, q1, q2]) rfl ?_
    exact ⟨rfl, Fin.out _ hb⟩

/-- So many lengths multiplied. -/
def ProdTo (t : List Nat) (j : Nat) (q : Int) : Prop := q = (prod (t.take j) : Int)
theorem ProdTo.zero (t : List Nat) : ProdTo t 0 1 := by simp [ProdTo, prod]
theorem prod_take_le {t : List Nat} (h : prod t ≠ 0) (j : Nat) : prod (t.take j) ≤ prod t := by
  have e : prod t = prod (t.take j) * prod (t.drop j) := by rw [← prod_append, List.take_append_drop]
  rw [e] at h ⊢
  have : 0 < prod (t.drop j) := by
    rcases Nat.eq_zero_or_pos (prod (t.drop j)) with h0 | h0
    · rw [h0] at h; simp at h
    · exact h0
  exact Nat.le_mul_of_pos_right _ this
theorem prod_drop_le {t : List Nat} (h : prod t ≠ 0) (j : Nat) : prod (t.drop j) ≤ prod t := by
  have e : prod t = prod (t.take j) * prod (t.drop j) := by rw [← prod_append, List.take_append_drop]
  rw [e] at h ⊢
  have : 0 < prod (t.take j) := by
    rcases Nat.eq_zero_or_pos (prod (t.take j)) with h0 | h0
    · rw [h0] at h; simp at h
    · exact h0
  exact Nat.le_mul_of_pos_left _ this
theorem prod_drop_ne {t : List Nat} (h : prod t ≠ 0) (j : Nat) : prod (t.drop j) ≠ 0 := by
  have e : prod t = prod (t.take j) * prod (t.drop j) := by rw [← prod_append, List.take_append_drop]
  intro h0
  rw [e, h0] at h
  simp at h
theorem prod_take_succ {t : List Nat} {j n : Nat} (h : t[j]? = some n) : prod (t.take (j + 1)) = prod (t.take j) * n := by
  rw [List.take_add_one, h, prod_append]
  simp [prod]
theorem ints_at {t : List Nat} {j : Nat} {x : Int} (h : (ints t)[j]? = some x) : ∃ n : Nat, t[j]? = some n ∧ x = n := by
  rw [getElem?_ints, Option.map_eq_some_iff] at h
  obtain ⟨n, hn, e⟩ := h
  exact ⟨n, hn, e.symm⟩
theorem ProdTo.next {t : List Nat} {j : Nat} {q x : Int} (hp : ProdTo t j q) (h : prod t ≤ 4096) (h0 : prod t ≠ 0) (hx : (ints t)[j]? = some x) : 0 ≤ q * x ∧ q * x ≤ 4096 ∧ ProdTo t (j + 1) (q * x) := by
  obtain ⟨n, hn, rfl⟩ := ints_at hx
  have e : q * (n : Int) = ((prod (t.take (j + 1)) : Nat) : Int) := by
    rw [prod_take_succ hn, hp]
    simp
  have := prod_take_le h0 (j + 1)
  exact ⟨by rw [e]; omega, by rw [e]; omega, e⟩
theorem ProdTo.step {a : Arr} {t : List Nat} {j : Nat} {q x : Int} (hp : ProdTo t j q) (h : Ok a t) (h0 : prod t ≠ 0) (hx : a.sh[j]? = some x) : 0 ≤ q * x ∧ q * x ≤ 4096 ∧ ProdTo t (j + 1) (q * x) := by
  rw [h.sh] at hx
  exact hp.next h.good.2.2 h0 hx

theorem ProdTo.stepDrop {a : Arr} {t : List Nat} {j m : Nat} {q x : Int} (hp : ProdTo (t.drop m) j q) (h : Ok a t) (h0 : prod t ≠ 0) (hx : (a.sh.drop m)[j]? = some x) : 0 ≤ q * x ∧ q * x ≤ 4096 ∧ ProdTo (t.drop m) (j + 1) (q * x) := by
  rw [h.sh] at hx
  have e : (ints t).drop m = ints (t.drop m) := by simp [ints]
  rw [e] at hx
  have h1 := prod_drop_le h0 m
  exact hp.next (by have := h.good.2.2; omega) (prod_drop_ne h0 m) hx

/-- An axis in parts. -/
def lineOf (t : List Nat) (k : Nat) : Nat × Nat × Nat := if prod t = 0 then (0, 0, 0) else (outerOf t k, t.getD k 0, innerOf t k)
def lineV (p : Nat × Nat × Nat) : Value := .agg #[.int .i64 p.1, .int .i64 p.2.1, .int .i64 p.2.2]

def GivesLine (p : Nat × Nat × Nat) (w : World) (e : Ending) (w' : World) : Prop := e = .returned (.tuple #[lineV p, .nilIface]) ∧ Below w.heap.size w w'

set_option maxHeartbeats 1000000 in
theorem along_ok {v : Value} {a : Arr} {t : List Nat} {w : World} {k : Nat} (ha : IsArr w v a) (h : Ok a t) (hk : k < t.length) :
    Calls Try.prog 11 #[.int .i64 k, v] w (GivesLine (lineOf t k) w) := by
  obtain ⟨A, ca, D, cd, rfl, hs, hd⟩ := ha.open_
  obtain ⟨A', ca', eA, a1, a2, a3, a0, a4⟩ := id hs
  cases eA
  have hl : a.sh.length = t.length := by rw [h.sh, length_ints]
  have hl6 := h.good.1
  have hka : k < a.sh.length := by omega
  rw [← hl] at hl6
  clear hl
  have h4 := Lib.hid a4
  have h0 := Lib.hid a0
  have H := Lib.hid h
  have Hk := Lib.hid hk
  clear h a4 a0 hk
  go_enter Try.func11, Try.ntmps11
  go_wp2_with fail
  refine (check_ok (ha.mono (below_two _ _ _)) H.out).mono ?_
  rintro e w1 ⟨rfl, hb⟩
  have b0 := ((Box.new w 25 #[.bool a.ch, .slice A a.sh.length ca, .slice D a.da.length cd]).alloc (.cells #[.int .i64 0, .int .i64 0, .int .i64 0] 38)).below hb
  have b1 := (Box.new (w.alloc _) 38 #[.int .i64 0, .int .i64 0, .int .i64 0]).below hb
  rw [World.size_alloc] at b1
  obtain ⟨p0, p1, p2⟩ := b0.three
  obtain ⟨q0, q1, q2⟩ := b1.three
  have f1 := b1.frozen
  obtain ⟨ad, n, rfl, hn, hal, hcn⟩ := Elems.later h4.out ((below_two w _ _).trans (hb.mono (by simp; omega))) hka
  have hn' := Lib.hid hn
  clear hn
  have hz := b1.lt
  have hz0 := b0.lt
  have hd0 : a.da.length = prod t := H.out.len
  have Hd0 := Lib.hid hd0
  clear hd0
  by_cases he : a.da.length = 0
  · have hline : lineOf t k = (0, 0, 0) := by unfold lineOf; rw [if_pos (by rw [← Hd0.out]; exact he)]
    have Hb := Lib.hid hb
    have Hl := Lib.hid hline
    clear hb hline
    go_wp2
    refine bodyPost_ret (v := .tuple #[.agg #[.int .i64 0, .int .i64 0, .int .i64 0], .nilIface]) (by simp [results, Try.results11, go_sem, q0, q1, q2, hz]) rfl ?_
    refine ⟨by rw [Hl.out]; rfl, ?_⟩
    have hg := grownBy_three w1 (w.heap.size + 1) (.int .i64 0) (.int .i64 0) (.int .i64 0)
    have hb2 := ((below_two w _ _).trans (Hb.out.mono (by simp; omega))).grown hg (by omega) (fun j e => by cases e; omega)
    exact hb2.alloc (by have := hg.size; omega) _
  · have hne : ((a.da.length : Int) == 0) = false := by simp; intro e; exact he (by simp [e])
    have ht : prod t ≠ 0 := by rw [← Hd0.out]; exact he
    have Hb := Lib.hid hb
    have Ht := Lib.hid ht
    clear hb he ht
    go_wp2
    go_loopw [45] (fun i wr => ∃ (j : Nat) (q : Int), j ≤ k ∧ i = .int .i64 j ∧ 0 ≤ q ∧ q ≤ 4096 ∧ ProdTo t j q ∧ Box wr w1.heap.size 38 #[.int .i64 q, .int .i64 n, .int .i64 1] ∧ Below w1.heap.size w1 wr)
      (fun i _ => k - (intOf i).toNat)
    case atStart => exact ⟨0, 1, Nat.zero_le _, rfl, by omega, by omega, ProdTo.zero _, Box.new _ _ _, below_one _ _⟩
    case round =>
      obtain ⟨j, q, hj, rfl, hq0, hq1, hp, hbx, hbl⟩ := hrel
      have hbw : Below w.heap.size w wr := ((below_two w _ _).trans (Hb.out.mono (by simp; omega))).trans (hbl.mono (by omega))
      rcases Nat.lt_or_ge j k with hlt | hge
      · obtain ⟨ad2, x, hadx, hx, hal2, hcx⟩ := Elems.later h4.out hbw (show j < a.sh.length by omega)
        obtain rfl : ad = ad2 := by injection hadx
        obtain ⟨m0, m1, hp'⟩ := hp.step H.out Ht.out hx
        have Hp := Lib.hid hp'
        have Hx := Lib.hid hx
        clear hp' hx hp
        obtain ⟨r0, r1, r2⟩ := hbx.three
        have fr := hbx.frozen
        go_wp2
        go_roundw
        case rel => exact ⟨j + 1, _, by omega, by go_num, m0, m1, Hp.out, hbx.store 0 _, hbl.setCell (p := ⟨w1.heap.size, 0, none⟩) (Nat.le_refl _) _⟩
        case measure => simp [intOf]; omega
      · obtain rfl : j = k := by omega
        obtain ⟨r0, r1, r2⟩ := hbx.three
        have fr := hbx.frozen
        have s1 : wr.cell? ⟨w.heap.size, 1, none⟩ = some (.slice (some ad) a.sh.length ca) := (hbl.cell (p := ⟨w.heap.size, 1, none⟩) (by simp; omega)).trans (b0.cell 1)
        obtain ⟨A2, hsl, hel2, hn2⟩ := part_named (lo := some (.int .i64 ((j : Int) + 1))) (hi := none) (L := j + 1) (H := a.sh.length) (Elems.mono h4.out hbw) h0.out a1 (.inr (by simp)) (.inl ⟨rfl, rfl⟩) (by omega) (by omega)
        rw [List.take_of_length_le (Nat.le_refl _)] at hel2
        have Hel2 := Lib.hid hel2
        have Hn2 := Lib.hid hn2
        have Hbw := Lib.hid hbw
        clear hel2 hn2 hbw
        have Hp := Lib.hid hp
        clear hp
        go_wp2
        obtain ⟨wo, rfl⟩ : ∃ wo : World, wo = wr := ⟨_, rfl⟩
        go_loopw [61] (fun i wr => ∃ (j2 : Nat) (q2 : Int), j2 ≤ a.sh.length - (j + 1) ∧ i = .int .i64 j2 ∧ 0 ≤ q2 ∧ q2 ≤ 4096 ∧ ProdTo (t.drop (j + 1)) j2 q2 ∧ Box wr w1.heap.size 38 #[.int .i64 q, .int .i64 n, .int .i64 q2] ∧ Below w1.heap.size w1 wr)
          (fun i _ => a.sh.length - (j + 1) - (intOf i).toNat)
        case atStart => exact ⟨0, 1, Nat.zero_le _, rfl, by omega, by omega, ProdTo.zero _, hbx, hbl⟩
        case round =>
          obtain ⟨j2, q2, hj2, rfl, hq20, hq21, hp2, hbx2, hbl2⟩ := hrel
          have hbw2 : Below w.heap.size w wr := ((below_two w _ _).trans (Hb.out.mono (by simp; omega))).trans (hbl2.mono (by omega))
          obtain ⟨r0, r1, r2⟩ := hbx2.three
          have fr2 := hbx2.frozen
          rcases Nat.lt_or_ge j2 (a.sh.length - (j + 1)) with hlt | hge
          · have hdl : j2 < (a.sh.drop (j + 1)).length := by rw [List.length_drop]; exact hlt
            have Hbw2 := Lib.hid hbw2
            clear hbw2
            obtain ⟨A3, hsl3, hel3, hn3⟩ := part_named (lo := some (.int .i64 ((j : Int) + 1))) (hi := none) (L := j + 1) (H := a.sh.length) (Elems.mono h4.out Hbw2.out) h0.out a1 (.inr (by simp)) (.inl ⟨rfl, rfl⟩) (by omega) (by omega)
            have hA3 : A3 = A2 := by
              have h1 := hsl wr
              rw [hsl3 wr] at h1
              injection h1 with h1 _
              injection h1
            subst hA3
            rw [List.take_of_length_le (Nat.le_refl _)] at hel3
            obtain ⟨ad2, x, rfl, hx, hal2, hcx⟩ := hel3.at_ hdl
            obtain ⟨m0, m1, hp'⟩ := hp2.stepDrop H.out Ht.out hx
            have Hp' := Lib.hid hp'
            have Hx := Lib.hid hx
            have Hel3 := Lib.hid hel3
            clear hp' hx hp2 hel3 hsl3 hn3
            go_wp2
            go_roundw
            case rel => exact ⟨j2 + 1, _, by omega, by go_num, m0, m1, Hp'.out, hbx2.store 2 _, hbl2.setCell (p := ⟨w1.heap.size, 2, none⟩) (Nat.le_refl _) _⟩
            case measure => simp [intOf]; omega
          · have Hbw2 := Lib.hid hbw2
            have hline : lineV (lineOf t j) = .agg #[.int .i64 q, .int .i64 n, .int .i64 q2] := by
              have hl := H.out.sh
              have h1 := hn'.out
              have h2 := Hp.out
              unfold ProdTo at h2 hp2
              rw [hl] at h1
              obtain ⟨m, hm, rfl⟩ := ints_at h1
              rw [List.take_of_length_le (by rw [hl, length_ints] at hge; rw [List.length_drop]; omega)] at hp2
              unfold lineV lineOf
              rw [if_neg Ht.out, h2, hp2]
              simp [outerOf, innerOf, List.getD_eq_getElem?_getD, hm]
            have c0 : wr.cell? ⟨w.heap.size + 1, 0, none⟩ = some (.int .i64 0) := (hbl2.cell (p := ⟨w.heap.size + 1, 0, none⟩) (by simp; omega)).trans (b1.cell 0)
            have c1 : wr.cell? ⟨w.heap.size + 1, 1, none⟩ = some (.int .i64 0) := (hbl2.cell (p := ⟨w.heap.size + 1, 1, none⟩) (by simp; omega)).trans (b1.cell 1)
            have c2 : wr.cell? ⟨w.heap.size + 1, 2, none⟩ = some (.int .i64 0) := (hbl2.cell (p := ⟨w.heap.size + 1, 2, none⟩) (by simp; omega)).trans (b1.cell 2)
            have fz : ∀ i, wr.frozen? ⟨w.heap.size + 1, i, none⟩ = false := fun i => (hbl2.frozen (p := ⟨w.heap.size + 1, i, none⟩) (by simp; omega)).trans (b1.frozen i)
            have Hline := Lib.hid hline
            clear hbw2 hline
            go_wp2
            refine bodyPost_ret (v := .tuple #[.agg #[.int .i64 q, .int .i64 n, .int .i64 q2], .nilIface]) (by simp [results, Try.results11, go_sem, c0, c1, c2]) rfl ?_
            have hg := grownBy_three wr (w.heap.size + 1) (.int .i64 q) (.int .i64 n) (.int .i64 q2)
            exact ⟨by rw [Hline.out], Hbw2.out.grown hg (by have := hbl2.size; omega) (fun j e => by cases e; omega)⟩

end Go.Proofs.Ytlnnpcpgknfcgaa
