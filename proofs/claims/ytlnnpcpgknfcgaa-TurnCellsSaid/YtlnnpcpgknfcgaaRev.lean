/- The walks of turn.Reverse and turn.Rotate. Conditions: none. -/
import Derived.Test.YtlnnpcpgknfcgaaMoved
set_option linter.unusedSimpArgs false
set_option linter.unusedVariables false
namespace Go.Proofs.Ytlnnpcpgknfcgaa
open Go Go.RowKit Go.Proofs.Ytlnnpcpgknfcgaa.P

theorem Fails.nil {k : Int} {w w' : World} {e : Ending} (h : Fails zeroArr k w e w') : e = .returned (.tuple #[zeroArr, .iface 50 (.int .i64 k)]) := h.1

/-- What is wrong with an axis of an array. -/
def axErr (axis : Int) (a : Arr) : Int := if arrErr a ≠ 0 then arrErr a else if axis < 0 ∨ (a.sh.length : Int) ≤ axis then 5 else 0

theorem axErr_zero {axis : Int} {a : Arr} (h : axErr axis a = 0) : ∃ t k, Ok a t ∧ axis = (k : Nat) ∧ k < t.length := by
  unfold axErr at h
  by_cases h1 : arrErr a ≠ 0
  · rw [if_pos h1] at h; exact absurd h h1
  · rw [if_neg h1] at h
    obtain ⟨t, ht⟩ := ok_of_arrErr (by simpa using h1)
    by_cases h2 : axis < 0 ∨ (a.sh.length : Int) ≤ axis
    · rw [if_pos h2] at h; omega
    · have hl : a.sh.length = t.length := by rw [ht.sh, length_ints]
      exact ⟨t, axis.toNat, ht, by omega, by omega⟩

theorem axErr_ok {a : Arr} {t : List Nat} {k : Nat} (h : Ok a t) (hk : k < t.length) : axErr k a = 0 := by
  have hl : a.sh.length = t.length := by rw [h.sh, length_ints]
  unfold axErr
  rw [if_neg (by rw [arrErr_ok h]; simp), if_neg (by omega)]

theorem along_any {v : Value} {a : Arr} {w : World} {axis : Int} (ha : IsArr w v a) (h : axErr axis a ≠ 0) :
    Calls Try.prog 11 #[.int .i64 axis, v] w (Fails (.agg #[.int .i64 0, .int .i64 0, .int .i64 0]) (axErr axis a) w) := by
  by_cases h1 : arrErr a ≠ 0
  · have e : axErr axis a = arrErr a := by unfold axErr; rw [if_pos h1]
    rw [e]
    exact along_bad ha h1
  · obtain ⟨t, ht⟩ := ok_of_arrErr (by simpa using h1)
    have hl : a.sh.length = t.length := by rw [ht.sh, length_ints]
    by_cases h2 : axis < 0 ∨ (a.sh.length : Int) ≤ axis
    · have e : axErr axis a = 5 := by unfold axErr; rw [if_neg h1, if_pos h2]
      rw [e]
      exact along_out ha ht (by omega)
    · exact absurd (by unfold axErr; rw [if_neg h1, if_neg h2]) h

set_option maxHeartbeats 1000000 in
theorem reverse_bad {v : Value} {a : Arr} {w : World} {axis : Int} (ha : IsArr w v a) (h : axErr axis a ≠ 0) :
    Calls Try.prog 4 #[.int .i64 axis, v] w (Fails zeroArr (axErr axis a) w) := by
  obtain ⟨A, ca, D, cd, rfl, hs, hd⟩ := ha.open_
  have H := Lib.hid h
  clear h
  go_enter Try.func4, Try.ntmps4
  go_wp2_with fail
  refine (along_any (ha.mono (below_two _ _ _)) H.out).mono ?_
  rintro e w1 ⟨rfl, hb⟩
  have b1 := (Box.new (w.alloc _) 25 #[.bool false, .slice none 0 0, .slice none 0 0]).below hb
  rw [World.size_alloc] at b1
  obtain ⟨q0, q1, q2⟩ := b1.three
  have f1 := b1.frozen
  have hz := b1.lt
  have hbw : Below w.heap.size w w1 := (below_two _ _ _).trans (hb.mono (by simp; omega))
  go_wp2
  refine bodyPost_ret (v := .tuple #[zeroArr, .iface 50 (.int .i64 (axErr axis a))]) (by simp [results, Try.results4, go_sem, q0, q1, q2, hz]) rfl ?_
  exact ⟨rfl, by go_grown⟩

/-- What 'moved' is handed, and what it lays. -/
theorem line_moved {a : Arr} {t : List Nat} {k : Nat} (h : Ok a t) (hk : k < t.length) {f : Nat → Nat} (hf : ∀ i, i < t.getD k 0 → f i < t.getD k 0) {o l n : Nat} (hl : lineOf t k = (o, l, n)) :
    (pull k f a).da.length = o * l * n ∧ a.da.length = o * l * n ∧ (∀ x i r, x < o → i < l → r < n → (pull k f a).da[(x * l + i) * n + r]? = a.da[(x * l + f i) * n + r]?) ∧
      a.da.length ≤ 4096 ∧ o * l ≤ 4096 ∧ o ≤ 4096 ∧ l ≤ 4096 ∧ n ≤ 4096 ∧ (∀ i, i < l → f i < l) ∧ (l = 0 ∨ l = t.getD k 0) := by
  have hp := pull_ok h (k := k) hf
  have hlen := h.len
  have hg := h.good.2.2
  unfold lineOf at hl
  by_cases h0 : prod t = 0
  · rw [if_pos h0] at hl
    cases hl
    refine ⟨by rw [hp.len, h0], by rw [hlen, h0], fun x i r hx => by omega, by omega, by omega, by omega, by omega, by omega, fun i hi => by omega, .inl rfl⟩
  · rw [if_neg h0] at hl
    simp only [Prod.mk.injEq] at hl
    obtain ⟨rfl, rfl, rfl⟩ := hl
    have e := prod_axis hk
    have hi : 0 < innerOf t k := by
      rcases Nat.eq_zero_or_pos (innerOf t k) with h1 | h1
      · rw [h1] at e; omega
      · exact h1
    have hol : 0 < outerOf t k * t.getD k 0 := by
      rcases Nat.eq_zero_or_pos (outerOf t k * t.getD k 0) with h1 | h1
      · rw [h1] at e; omega
      · exact h1
    have hl0 : 0 < t.getD k 0 := Nat.pos_of_mul_pos_left hol
    have ho0 : 0 < outerOf t k := Nat.pos_of_mul_pos_right hol
    have h1 : outerOf t k * t.getD k 0 ≤ prod t := by rw [e]; exact Nat.le_mul_of_pos_right _ hi
    have h2 : outerOf t k ≤ outerOf t k * t.getD k 0 := Nat.le_mul_of_pos_right _ hl0
    have h3 : t.getD k 0 ≤ outerOf t k * t.getD k 0 := Nat.le_mul_of_pos_left _ ho0
    have h4 : innerOf t k ≤ prod t := by rw [e]; exact Nat.le_mul_of_pos_left _ hol
    exact ⟨by rw [hp.len, e], by rw [hlen, e], fun x i r hx hi hr => pull_da h hk hf hx hi hr, by omega, by omega, by omega, by omega, by omega, hf, .inr rfl⟩

theorem pull_parts {a : Arr} {t : List Nat} (h : Ok a t) (k : Nat) (f : Nat → Nat) : (⟨a.ch, a.sh, (pull k f a).da⟩ : Arr) = pull k f a := by
  unfold pull tab
  rw [h.sh, h.nsh_eq]

set_option maxHeartbeats 1000000 in
theorem reverse_new {v : Value} {a : Arr} {t : List Nat} {w : World} {k : Nat} (ha : IsArr w v a) (h : Ok a t) (hk : k < t.length) :
    Calls Try.prog 4 #[.int .i64 k, v] w (GivesOkN (rev k a) w) := by
  obtain ⟨A, ca, D, cd, rfl, hs, hd⟩ := ha.open_
  obtain ⟨⟨o, l, n⟩, hl⟩ : ∃ p, lineOf t k = p := ⟨_, rfl⟩
  obtain ⟨m1, m2, m3, m4, m5, m6, m7, m8, m9, m10⟩ := line_moved h hk (fun i hi => rev_lt hi) hl
  have hrev : rev k a = ⟨a.ch, a.sh, (pull k (fun i => t.getD k 0 - 1 - i) a).da⟩ := by rw [pull_parts h]; unfold rev; rw [h.nsh_eq]
  have hal := along_ok (w := (w.alloc (.cells #[.bool a.ch, .slice A a.sh.length ca, .slice D a.da.length cd] 25)).alloc (.cells #[.bool false, .slice none 0 0, .slice none 0 0] 25)) (ha.mono (below_two _ _ _)) h hk
  rw [hl] at hal
  have Hal := Lib.hid hal
  have Hrev := Lib.hid hrev
  have M1 := Lib.hid m1
  have M2 := Lib.hid m2
  have M3 := Lib.hid m3
  have M9 := Lib.hid m9
  have M10 := Lib.hid m10
  have H := Lib.hid h
  have Hl := Lib.hid hl
  have Hk := Lib.hid hk
  clear hal hrev m1 m2 m3 m9 m10 h hl hk
  go_enter Try.func4, Try.ntmps4
  go_wp2_with fail
  refine Hal.out.mono ?_
  rintro e w1 ⟨rfl, hb⟩
  have b0 := ((Box.new w 25 #[.bool a.ch, .slice A a.sh.length ca, .slice D a.da.length cd]).alloc (.cells #[.bool false, .slice none 0 0, .slice none 0 0] 25)).below hb
  have b1 := (Box.new (w.alloc _) 25 #[.bool false, .slice none 0 0, .slice none 0 0]).below hb
  rw [World.size_alloc] at b1
  obtain ⟨p0, p1, p2⟩ := b0.three
  obtain ⟨q0, q1, q2⟩ := b1.three
  have f1 := b1.frozen
  have hz := b1.lt
  have hz0 := b0.lt
  have hbw : Below w.heap.size w w1 := (below_two _ _ _).trans (hb.mono (by simp; omega))
  unfold lineV
  simp only []
  go_wp2_with fail
  have hbx : Below w.heap.size w (w1.alloc (.cells #[.int .i64 o, .int .i64 l, .int .i64 n] 38)) := hbw.alloc (by omega) _
  refine (moved_any o l n _ a 13 #[.pointer (some ⟨w1.heap.size, 0, none⟩)] (fun i => t.getD k 0 - 1 - i) (pull k (fun i => t.getD k 0 - 1 - i) a).da _ (ha.mono hbx)
    (fun i hi W hW => ?hF) (fun args W => by go_simp) M9.out M2.out M1.out m4 m5 m6 m7 m8 M3.out).mono ?_
  case hF =>
    have bl := (Box.new w1 38 #[.int .i64 o, .int .i64 l, .int .i64 n]).below hW
    have hr := reverse1_any i l w1.heap.size (.int .i64 o) (.int .i64 n) W bl m7 hi
    rcases M10.out with h0 | h0
    · omega
    · rw [h0] at hr
      exact hr
  rintro e w2 ⟨r, rfl, hr, hb2, hnv⟩
  rw [← Hrev.out] at hr
  obtain ⟨A2, ca2, D2, cd2, rfl, hs2, hd2⟩ := hr.open_
  have b2 := (b1.alloc (.cells #[.int .i64 o, .int .i64 l, .int .i64 n] 38)).below hb2
  obtain ⟨r0, r1, r2⟩ := b2.three
  have fr := b2.frozen
  have hbw2 : Below w.heap.size w w2 := hbx.trans (hb2.mono (by simp; omega))
  have hz2 := b2.lt
  go_wp2
  refine bodyPost_ret (v := .tuple #[.agg #[.bool (rev k a).ch, .slice A2 (rev k a).sh.length ca2, .slice D2 (rev k a).da.length cd2], .nilIface]) (by simp [results, Try.results4, go_sem, r0, r1, r2]) rfl ?_
  have hg := grownBy_three w2 (w.heap.size + 1) (.bool (rev k a).ch) (.slice A2 (rev k a).sh.length ca2) (.slice D2 (rev k a).da.length cd2)
  exact ⟨_, rfl, ⟨_, _, rfl, hs2.off hg b2 noInts_zero, hd2.off hg b2 noInts_zero⟩, hbw2.grown hg (by have := hbw2.size; omega) (fun j e => by cases e; omega), hnv.low hbx.size⟩
theorem reverse_ok {v : Value} {a : Arr} {t : List Nat} {w : World} {k : Nat} (ha : IsArr w v a) (h : Ok a t) (hk : k < t.length) :
    Calls Try.prog 4 #[.int .i64 k, v] w (GivesOk (rev k a) w) := (reverse_new ha h hk).mono fun _ _ h => h.old

/-- A call tells some array and some error. -/
def GivesSome (w : World) (e : Ending) (w' : World) : Prop := ∃ r ev b, e = .returned (.tuple #[r, ev]) ∧ IsArr w' r b ∧ Below w.heap.size w w'
theorem isArr_zero (w : World) : IsArr w zeroArr Arr.nil := ⟨_, _, rfl, (Owns.nil w 0).isInts, (Owns.nil w 0).isInts⟩
theorem GivesOk.some {a : Arr} {w w' : World} {e : Ending} (h : GivesOk a w e w') : GivesSome w e w' := by
  obtain ⟨r, he, hr, hb⟩ := h
  exact ⟨r, _, a, he, hr, hb⟩
theorem Fails.some {k : Int} {w w' : World} {e : Ending} (h : Fails zeroArr k w e w') : GivesSome w e w' := ⟨_, _, Arr.nil, h.1, isArr_zero w', h.2⟩

theorem reverse_some {v : Value} {a : Arr} {w : World} {axis : Int} (ha : IsArr w v a) : Calls Try.prog 4 #[.int .i64 axis, v] w (GivesSome w) := by
  by_cases h : axErr axis a = 0
  · obtain ⟨t, k, ht, rfl, hk⟩ := axErr_zero h
    exact (reverse_ok ha ht hk).mono fun _ _ h => h.some
  · exact (reverse_bad ha h).mono fun _ _ h => h.some

set_option maxHeartbeats 400000 in
theorem rotate1_any (i l by_ : Nat) (b b' : Nat) (o n : Value) (w : World) (hb : Box w b 38 #[o, .int .i64 l, n]) (hb' : Box w b' 3 #[.int .i64 by_]) (hl : l ≤ 4096) (hi : i < l) (hby : by_ < l) :
    Calls Try.prog 21 #[.int .i64 i, .pointer (some ⟨b', 0, none⟩), .pointer (some ⟨b, 0, none⟩)] w fun e w' => e = .returned (.int .i64 (((i + by_) % l : Nat) : Int)) ∧ w = w' := by
  obtain ⟨q0, q1, q2⟩ := hb.three
  have q := hb'.one
  have hl1 : 1 ≤ l := by omega
  have hlb : ((l : Int) == 0) = false := by simp; omega
  go_enter Try.func21, Try.ntmps21
  go_wp2
  go_ret
  exact ⟨ret_int (by simp), rfl⟩

set_option maxHeartbeats 1000000 in
theorem rotate_bad {v : Value} {a : Arr} {w : World} {n axis : Int} (ha : IsArr w v a) (h : axErr axis a ≠ 0) :
    Calls Try.prog 9 #[.int .i64 n, .int .i64 axis, v] w (Fails zeroArr (axErr axis a) w) := by
  obtain ⟨A, ca, D, cd, rfl, hs, hd⟩ := ha.open_
  have H := Lib.hid h
  clear h
  go_enter Try.func9, Try.ntmps9
  go_wp2_with fail
  refine (along_any (ha.mono (below_two _ _ _)) H.out).mono ?_
  rintro e w1 ⟨rfl, hb⟩
  have b1 := (Box.new (w.alloc _) 25 #[.bool false, .slice none 0 0, .slice none 0 0]).below hb
  rw [World.size_alloc] at b1
  obtain ⟨q0, q1, q2⟩ := b1.three
  have f1 := b1.frozen
  have hz := b1.lt
  have hbw : Below w.heap.size w w1 := (below_two _ _ _).trans (hb.mono (by simp; omega))
  go_wp2
  refine bodyPost_ret (v := .tuple #[zeroArr, .iface 50 (.int .i64 (axErr axis a))]) (by simp [results, Try.results9, go_sem, q0, q1, q2, hz]) rfl ?_
  exact ⟨rfl, by go_grown⟩

set_option maxHeartbeats 1000000 in
theorem rotate_ok {v : Value} {a : Arr} {t : List Nat} {w : World} {m : Int} {k : Nat} (ha : IsArr w v a) (h : Ok a t) (hk : k < t.length) :
    Calls Try.prog 9 #[.int .i64 m, .int .i64 k, v] w (GivesOk (rot m k a) w) := by
  obtain ⟨A, ca, D, cd, rfl, hs, hd⟩ := ha.open_
  obtain ⟨⟨o, l, n⟩, hl⟩ : ∃ p, lineOf t k = p := ⟨_, rfl⟩
  obtain ⟨m1, m2, m3, m4, m5, m6, m7, m8, m9, m10⟩ := line_moved h hk (f := fun i => (i + rotBy m (t.getD k 0)) % t.getD k 0) (fun i hi => rot_lt hi) hl
  have hrev : rot m k a = ⟨a.ch, a.sh, (pull k (fun i => (i + rotBy m (t.getD k 0)) % t.getD k 0) a).da⟩ := by rw [pull_parts h]; unfold rot; rw [h.nsh_eq]
  have hal := along_ok (w := (w.alloc (.cells #[.bool a.ch, .slice A a.sh.length ca, .slice D a.da.length cd] 25)).alloc (.cells #[.bool false, .slice none 0 0, .slice none 0 0] 25)) (ha.mono (below_two _ _ _)) h hk
  rw [hl] at hal
  have Hal := Lib.hid hal
  have Hrev := Lib.hid hrev
  have M1 := Lib.hid m1
  have M2 := Lib.hid m2
  have M3 := Lib.hid m3
  have M9 := Lib.hid m9
  have M10 := Lib.hid m10
  have H := Lib.hid h
  have Hl := Lib.hid hl
  have Hk := Lib.hid hk
  clear hal hrev m1 m2 m3 m9 m10 h hl hk
  go_enter Try.func9, Try.ntmps9
  go_wp2_with fail
  refine Hal.out.mono ?_
  rintro e w1 ⟨rfl, hb⟩
  have b0 := ((Box.new w 25 #[.bool a.ch, .slice A a.sh.length ca, .slice D a.da.length cd]).alloc (.cells #[.bool false, .slice none 0 0, .slice none 0 0] 25)).below hb
  have b1 := (Box.new (w.alloc _) 25 #[.bool false, .slice none 0 0, .slice none 0 0]).below hb
  rw [World.size_alloc] at b1
  obtain ⟨p0, p1, p2⟩ := b0.three
  obtain ⟨q0, q1, q2⟩ := b1.three
  have f1 := b1.frozen
  have hz := b1.lt
  have hz0 := b0.lt
  have hbw : Below w.heap.size w w1 := (below_two _ _ _).trans (hb.mono (by simp; omega))
  unfold lineV
  simp only []
  have fin : ∀ (w2 : World) (r : Value) (B : Nat), IsArr w2 r (rot m k a) → Box w2 (w.heap.size + 1) 25 #[.bool false, .slice none 0 0, .slice none 0 0] → Below w.heap.size w w2 → ∃ A2 ca2 D2 cd2, r = .agg #[.bool (rot m k a).ch, .slice A2 (rot m k a).sh.length ca2, .slice D2 (rot m k a).da.length cd2] ∧
      GivesOk (rot m k a) w (.returned (.tuple #[.agg #[.bool (rot m k a).ch, .slice A2 (rot m k a).sh.length ca2, .slice D2 (rot m k a).da.length cd2], .nilIface]))
        (((w2.setCell ⟨w.heap.size + 1, 0, none⟩ (.bool (rot m k a).ch)).setCell ⟨w.heap.size + 1, 1, none⟩ (.slice A2 (rot m k a).sh.length ca2)).setCell ⟨w.heap.size + 1, 2, none⟩ (.slice D2 (rot m k a).da.length cd2)) := by
    intro w2 r B hr b2 hbw2
    obtain ⟨A2, ca2, D2, cd2, rfl, hs2, hd2⟩ := hr.open_
    have hg := grownBy_three w2 (w.heap.size + 1) (.bool (rot m k a).ch) (.slice A2 (rot m k a).sh.length ca2) (.slice D2 (rot m k a).da.length cd2)
    exact ⟨A2, ca2, D2, cd2, rfl, _, rfl, ⟨_, _, rfl, hs2.off hg b2 noInts_zero, hd2.off hg b2 noInts_zero⟩, hbw2.grown hg (by have := hbw2.size; omega) (fun j e => by cases e; omega)⟩
  have Fin := Lib.hid fin
  clear fin
  rcases Nat.eq_zero_or_pos l with hl0 | hl0
  · subst hl0
    go_wp2_with fail
    have hbx : Below w.heap.size w ((w1.alloc (.cells #[.int .i64 o, .int .i64 (0 : Nat), .int .i64 n] 38)).alloc (.cells #[.int .i64 0] 3)) := (hbw.alloc (by omega) _).alloc (by simp; omega) _
    refine (moved_any o 0 n _ a 21 #[.pointer (some ⟨w1.heap.size + 1, 0, none⟩), .pointer (some ⟨w1.heap.size, 0, none⟩)] (fun i => (i + rotBy m (t.getD k 0)) % t.getD k 0) (pull k (fun i => (i + rotBy m (t.getD k 0)) % t.getD k 0) a).da _ (ha.mono hbx)
      (fun i hi W hW => by omega) (fun args W => by go_simp) M9.out M2.out M1.out m4 m5 m6 m7 m8 M3.out).mono ?_
    rintro e w2 ⟨r, rfl, hr, hb2, -⟩
    rw [← Hrev.out] at hr
    have b2 := ((b1.alloc _).alloc _).below hb2
    obtain ⟨r0, r1, r2⟩ := b2.three
    have fr := b2.frozen
    have hbw2 : Below w.heap.size w w2 := hbx.trans (hb2.mono (by simp; omega))
    have hz2 := b2.lt
    obtain ⟨A2, ca2, D2, cd2, rfl, hres⟩ := Fin.out w2 r 0 hr b2 hbw2
    have Hres := Lib.hid hres
    clear hres
    go_wp2
    refine bodyPost_ret (v := .tuple #[.agg #[.bool (rot m k a).ch, .slice A2 (rot m k a).sh.length ca2, .slice D2 (rot m k a).da.length cd2], .nilIface]) (by simp [results, Try.results9, go_sem, r0, r1, r2]) rfl ?_
    exact Hres.out
  · have hl1 : 1 ≤ l := hl0
    have hlb : ((l : Int) == 0) = false := by simp; omega
    have hlt : l = t.getD k 0 := by rcases M10.out with h0 | h0; omega; exact h0
    obtain ⟨q, hq⟩ : ∃ q, q = m.tmod (l : Int) := ⟨_, rfl⟩
    have hq1 : -(l : Int) < q := by rw [hq]; exact Int.neg_lt_of_neg_lt (by have := Int.lt_tmod_of_pos m (show (0 : Int) < l by omega); omega)
    have hq2 : q < (l : Int) := by rw [hq]; exact Int.tmod_lt_of_pos m (by omega)
    have hby : ((q + (l : Int)) % (l : Int)) = (rotBy m l : Int) := by
      rw [rotBy_cast hl0, hq]
      simp only [Int.add_emod_right]
      have := Int.mul_tdiv_add_tmod m (l : Int)
      conv => rhs; rw [← this]
      simp [Int.add_emod]
    have hbyt : (q + (l : Int)).tmod (l : Int) = (rotBy m l : Int) := by rw [Int.tmod_eq_emod_of_nonneg (by omega)]; exact hby
    have hbl := rotBy_lt (n := m) hl0
    obtain ⟨bb, hbb⟩ : ∃ bb, bb = rotBy m l := ⟨_, rfl⟩
    rw [← hbb] at hby hbyt hbl
    have hqr : m.tmod (l : Int) = q := hq.symm
    have wq : IntKind.i64.wrap q = q := IntWalk.i64_in _ (by omega)
    have wq2 : IntKind.i64.wrap (q + (l : Int)) = q + (l : Int) := IntWalk.i64_in _ (by omega)
    have wb : IntKind.i64.wrap (bb : Int) = (bb : Int) := IntWalk.i64_in _ (by omega)
    have Hbb := Lib.hid hbb
    have Hlt := Lib.hid hlt
    clear hq hbb hlt
    go_wp2_with fail
    go_region
    go_wp2_with fail
    have hbx : Below w.heap.size w ((w1.alloc (.cells #[.int .i64 o, .int .i64 l, .int .i64 n] 38)).alloc (.cells #[.int .i64 bb] 3)).drew := ((hbw.alloc (by omega) _).alloc (by simp; omega) _).drew
    refine (moved_any o l n _ a 21 #[.pointer (some ⟨w1.heap.size + 1, 0, none⟩), .pointer (some ⟨w1.heap.size, 0, none⟩)] (fun i => (i + rotBy m (t.getD k 0)) % t.getD k 0) (pull k (fun i => (i + rotBy m (t.getD k 0)) % t.getD k 0) a).da _ (ha.mono hbx)
      (fun i hi W hW => ?hF) (fun args W => by go_simp) M9.out M2.out M1.out m4 m5 m6 m7 m8 M3.out).mono ?_
    case hF =>
      have bl := (((Box.new w1 38 #[.int .i64 o, .int .i64 l, .int .i64 n]).alloc (.cells #[.int .i64 bb] 3)).drew).below hW
      have bn := ((Box.new (w1.alloc (.cells #[.int .i64 o, .int .i64 l, .int .i64 n] 38)) 3 #[.int .i64 bb]).drew).below hW
      rw [World.size_alloc] at bn
      have hr := rotate1_any i l bb w1.heap.size (w1.heap.size + 1) (.int .i64 o) (.int .i64 n) W bl bn m7 hi hbl
      rw [Hbb.out] at hr
      rw [← Hlt.out]
      exact hr
    rintro e w2 ⟨r, rfl, hr, hb2, -⟩
    rw [← Hrev.out] at hr
    have b2 := (((b1.alloc _).alloc _).drew).below hb2
    obtain ⟨r0, r1, r2⟩ := b2.three
    have fr := b2.frozen
    have hbw2 : Below w.heap.size w w2 := hbx.trans (hb2.mono (by simp; omega))
    have hz2 := b2.lt
    obtain ⟨A2, ca2, D2, cd2, rfl, hres⟩ := Fin.out w2 r 0 hr b2 hbw2
    have Hres := Lib.hid hres
    clear hres
    go_wp2
    refine bodyPost_ret (v := .tuple #[.agg #[.bool (rot m k a).ch, .slice A2 (rot m k a).sh.length ca2, .slice D2 (rot m k a).da.length cd2], .nilIface]) (by simp [results, Try.results9, go_sem, r0, r1, r2]) rfl ?_
    exact Hres.out

end Go.Proofs.Ytlnnpcpgknfcgaa
