/- What the card TopSorts leans on: GradeOrd, GradeCut, GradeUp, GradeTold. Conditions: none but those of its theorems. -/
import Derived.Test.YtihndbkaoejnnaaGreatDoorSortsC
import Derived.Test.YtihndbkaoejnnaaGreatDoorSortsAF
import Derived.Test.YtihndbkaoejnnaaGreatDoorSortsY
import Derived.Test.YtihndbkaoejnnaaGreatDoorSortsE
set_option linter.unusedSimpArgs false
set_option linter.unusedVariables false
namespace Go.Proofs.YtihndbkaoejnnaaGreatDoor
open Go Go.RowKit Go.Proofs.YtihndbkaoejnnaaGreatDoor.P
open Go.Sort (Holds putRow PermIn SortedIn SWO)
theorem enters_closure : ∀ args w, (callFunc 52 args).run Tryz.prog w = .ok (.enter 52 args) w := enters_of Tryz.func52 (by kernel_rfl) rfl
theorem sort_lists {N n : Nat} (hnN : n = N + 1) {lt : Nat → Nat → Bool} {cf : Fin (N + 1) → Fin (N + 1) → Int} (hcf : ∀ x y, ltOf cf x y = lt x.val y.val) (hO : SWO lt) (hS : SWO (ltOf cf)) {g : Nat} {cb : Array Value} (eg : ∀ args w, (callFunc g args).run Tryz.prog w = .ok (.enter g args) w)
    {w : World} {blk : Nat} (hr : Row w blk (ints (List.range n))) (hn : n ≤ 4096) (hcmp : CmpLays1 Tryz.prog g cb encF cf blk 0 n w) :
    Calls Tryz.prog 51 #[.slice (some ⟨blk, 0, none⟩) n n, .func (.func g) #[] cb] w fun e w' => e = .returned (.tuple #[]) ∧ IsInts w' (.slice (some ⟨blk, 0, none⟩) n n) (ints (ordOf lt n)) ∧ ∀ B, B ≤ blk → Below B w w' := by
  obtain ⟨d0, hd0⟩ : ∃ d0 : Array (Fin (N + 1)), d0 = Array.ofFn (fun i : Fin (N + 1) => i) := ⟨_, rfl⟩
  have hz : d0.size = n := by rw [hd0, hnN]; simp
  have hat : ∀ p, p < d0.size → (d0[p]!).val = p := fun p hp => by
    have hp2 := hp
    rw [getElem!_pos d0 p hp]
    subst hd0
    simp
  have hl0 : d0.toList.map Fin.val = List.range (N + 1) := by
    refine List.ext_getElem (by simp [hz, hnN]) fun k h1 h2 => ?_
    have h3 : k < d0.size := by simpa using h1
    have h4 := hat k h3
    rw [getElem!_pos d0 k h3] at h4
    simpa using h4
  have hH : Holds encF w blk 0 d0 := fun j hj => by
    have h1 : (ints (List.range n))[j]? = some (j : Int) := by rw [hz] at hj; simp [ints, hj]
    refine ⟨?_, Box.frozen hr _⟩
    rw [Nat.zero_add]
    show w.cell? ⟨blk, j, none⟩ = some (.int .i64 ((d0[j]!).val : Int))
    rw [hat j hj]
    exact hr.at_ h1
  have hR : Row1 encF w blk 0 d0 := ⟨encF_one, hH, Box.lt hr⟩
  have H := Lib.hid (stable_any cf hS g cb eg blk 0 n d0 w hR (by rw [hz]; exact hcmp) w (SW.start hH) (by rw [hz]; exact hn) hat)
  rw [hz] at H
  have HZ := Lib.hid hz
  have HO := Lib.hid hO
  have HL := Lib.hid hl0
  have HR := Lib.hid hR
  have HNN := Lib.hid hnN
  clear hH hR hat hl0 hz hd0 hcmp hS hO hnN
  go_enter Tryz.func51, Tryz.ntmps51
  go_wp2_with fail
  refine H.out.mono ?_
  rintro e w1 ⟨rfl, d', hP, hs, hSW⟩
  go_wp2_with fail
  go_end0
  have hd : d'.size = n := hP.1.trans HZ.out
  have ho : (d'.toList.map Fin.val) = ordOf lt n := by
    have h9 := HNN.out
    subst h9
    exact (ord_of_sorted hcf HL.out HZ.out hP hs).one (ordOf_is HO.out _)
  have hh := hSW.holds HR.out.hblk HR.out.hH (hd.trans HZ.out.symm)
  obtain ⟨m, os, rfl⟩ := hSW
  have hlo : (ordOf lt n).length = n := (ordOf_is HO.out n).length
  refine ⟨rfl, ⟨some ⟨blk, 0, none⟩, n, by rw [length_ints, hlo], by rw [length_ints, hlo]; exact Nat.le_refl _, by omega, by rw [length_ints, hlo]; omega, (fun e => by cases e), fun k x hk => ⟨⟨blk, 0, none⟩, rfl, ?_, ?_⟩⟩, fun B hB => below_sortWorld _ _ _ _ _ _ _ hB (by have := HR.out.hblk; omega)⟩
  · have h1 : Below 0 w (sortWorld encF w blk 0 m d' os) := below_sortWorld _ _ _ _ _ _ _ (Nat.zero_le _) (Nat.zero_le _)
    exact Nat.lt_of_lt_of_le HR.out.hblk h1.size
  · rw [addr_zero_add]
    rw [← ho] at hk
    have hkl : k < d'.size := by
      have := (List.getElem?_eq_some_iff.1 hk).1
      simpa [ints] using this
    have h2 := (hh k hkl).1
    rw [Nat.zero_add] at h2
    rw [h2, getElem!_pos d' k hkl]
    have h3 : (ints (d'.toList.map Fin.val))[k]? = some ((d'[k]).val : Int) := by simp [ints, hkl]
    rw [h3] at hk
    injection hk with hk
    rw [← hk]; rfl
set_option maxHeartbeats 2000000 in
theorem order_new {f : Nat} {c : List Int → List Int → Int} (ef : ∀ args w, (callFunc f args).run Tryz.prog w = .ok (.enter f args) w) (hf : Cmps f c) {w : World} {g n : Nat} {r : Nat → List Int} (hO : SWO (fun x y : Nat => decide (c (r x) (r y) < 0)))
    (hr : RowsAt w g n r) (hn1 : 1 ≤ n) (hn : n ≤ 4096) :
    Calls Tryz.prog 36 #[.slice (some ⟨g, 0, none⟩) n n, .func (.func f) #[] #[]] w fun e w' => ∃ v, e = .returned v ∧ IsInts w' v (ints (ordOf (fun x y : Nat => decide (c (r x) (r y) < 0)) n)) ∧ Below w.heap.size w w' ∧ (∀ j, v.ownBlock = some j → w.heap.size ≤ j) := by
  have HR := Lib.hid hr
  have HO := Lib.hid hO
  have HF := Lib.hid hf
  have HEF := Lib.hid ef
  clear hr hO hf ef
  obtain ⟨X, hX⟩ : ∃ X, X = ints (List.range n) := ⟨_, rfl⟩
  have HX := Lib.hid hX
  have HXL := Lib.hid (show X.length = n by rw [hX]; simp [ints])
  have HXK := Lib.hid (show ∀ k, k < n → X[k]? = some (k : Int) from fun k hk => by rw [hX]; simp [ints, hk])
  clear hX
  have hmk := run_make_list n (by omega)
  go_enter Tryz.func36, Tryz.ntmps36
  have b2 := ((Box.new w 71 #[.slice (some ⟨g, 0, none⟩) n n]).alloc (.cells #[.func (.func f) #[] #[]] 75)).alloc (.cells (madeCells #[.int .i64 0] n) 3)
  have b3 := (Box.new (w.alloc (.cells #[.slice (some ⟨g, 0, none⟩) n n] 71)) 75 #[.func (.func f) #[] #[]]).alloc (.cells (madeCells #[.int .i64 0] n) 3)
  have b4 := Row.made ((w.alloc (.cells #[.slice (some ⟨g, 0, none⟩) n n] 71)).alloc (.cells #[.func (.func f) #[] #[]] 75)) n
  have hbw := below_three w (.cells #[.slice (some ⟨g, 0, none⟩) n n] 71) (.cells #[.func (.func f) #[] #[]] 75) (.cells (madeCells #[.int .i64 0] n) 3)
  simp only [World.size_alloc] at b2 b3 b4
  rw [show List.replicate n (0 : Int) = FillTo X 0 by rw [fillTo_zero, HXL.out]] at b4
  go_wp2_with fail
  go_loopw [12] (fun s12 wr => ∃ k : Nat, k ≤ n ∧ s12 = .int .i64 k ∧ Box wr w.heap.size 71 #[.slice (some ⟨g, 0, none⟩) n n] ∧ Box wr (w.heap.size + 1) 75 #[.func (.func f) #[] #[]] ∧ Row wr (w.heap.size + 1 + 1) (FillTo X k) ∧ Below w.heap.size w wr) (fun s12 _ => n - (intOf s12).toNat)
  case atStart => exact ⟨0, Nat.zero_le _, rfl, b2, b3, b4, hbw⟩
  case round =>
    clear b2 b3 b4 hbw
    obtain ⟨k, hk, rfl, b2, b3, b4, hbw⟩ := hrel
    rcases Nat.lt_or_ge k n with hlt | hge
    · have hc := b4.at_ (k := k) (x := 0) (fillTo_at (by rw [HXL.out]; exact hlt))
      have hfr := Box.frozen b4 k
      have hbl := Box.lt b4
      have HS := Lib.hid (fillTo_set (HXK.out k hlt))
      go_wp2_with fail
      go_roundw
      case rel => exact ⟨k + 1, hlt, by go_num, b2.far (p := ⟨w.heap.size + 1 + 1, k, none⟩) (by simp; omega) _, b3.far (p := ⟨w.heap.size + 1 + 1, k, none⟩) (by simp) _, by rw [← HS.out]; exact b4.store k _, hbw.setCell (p := ⟨w.heap.size + 1 + 1, k, none⟩) (by simp; omega) _⟩
      case measure => simp [intOf]; omega
    · obtain rfl : k = n := by omega
      rw [show FillTo X k = X by have := fillTo_all X; rwa [HXL.out] at this, HX.out] at b4
      have hcmp : ∀ N, k = N + 1 → CmpLays1 Tryz.prog 52 #[.pointer (some ⟨w.heap.size + 1, 0, none⟩), .pointer (some ⟨w.heap.size, 0, none⟩)] (encF (N := N)) (fun x y => c (r x.val) (r y.val)) (w.heap.size + 1 + 1) 0 k wr := fun N hN m os dk hs x y => by
        have h1 := box_sortWorld (enc := encF (N := N)) (blk := w.heap.size + 1 + 1) (off := 0) (m := m) (dk := dk) (os := os) b2 (by omega)
        have h2 := box_sortWorld (enc := encF (N := N)) (blk := w.heap.size + 1 + 1) (off := 0) (m := m) (dk := dk) (os := os) b3 (by omega)
        have h3 : Below w.heap.size w (sortWorld (encF (N := N)) wr (w.heap.size + 1 + 1) 0 m dk os) := hbw.trans (below_sortWorld _ _ _ _ _ _ _ (by omega) hbw.size)
        refine (closure_any HEF.out HF.out h1 h2 (HR.out.below h3) (by have := x.isLt; omega) (by have := y.isLt; omega) hn).mono ?_
        rintro e w' ⟨rfl, q, rfl⟩
        exact ⟨rfl, q, #[], by rw [Go.Sort.grow_empty]⟩
      obtain ⟨N, hN⟩ : ∃ N, k = N + 1 := ⟨k - 1, by omega⟩
      have hO1 : SWO (fun x y : Nat => decide (c (r x) (r y) < 0)) := HO.out
      have HSL := Lib.hid (sort_lists hN (cf := fun x y : Fin (N + 1) => c (r x.val) (r y.val)) (lt := fun x y : Nat => decide (c (r x) (r y) < 0)) (fun x y => rfl) hO1
        ⟨fun x => hO1.irrefl x.val, fun x y z => hO1.trans x.val y.val z.val, fun x y z => hO1.ntrans x.val y.val z.val⟩ enters_closure b4 hn (hcmp N hN))
      clear hcmp hN hO1 b2 b3 b4
      go_wp2_with fail
      refine HSL.out.mono ?_
      rintro e w5 ⟨rfl, hi, hb5⟩
      have HI := Lib.hid hi
      have HB5 := Lib.hid (hb5 w.heap.size (by omega))
      clear hi hb5
      go_wp2_with fail
      go_ret
      exact ⟨_, rfl, HI.out, hbw.trans HB5.out, block_from (by omega)⟩
theorem order_any {f : Nat} {c : List Int → List Int → Int} (ef : ∀ args w, (callFunc f args).run Tryz.prog w = .ok (.enter f args) w) (hf : Cmps f c) {w : World} {g n : Nat} {r : Nat → List Int} (hO : SWO (fun x y : Nat => decide (c (r x) (r y) < 0)))
    (hr : RowsAt w g n r) (hn1 : 1 ≤ n) (hn : n ≤ 4096) :
    Calls Tryz.prog 36 #[.slice (some ⟨g, 0, none⟩) n n, .func (.func f) #[] #[]] w fun e w' => ∃ v, e = .returned v ∧ IsInts w' v (ints (ordOf (fun x y : Nat => decide (c (r x) (r y) < 0)) n)) ∧ Below w.heap.size w w' := (order_new ef hf hO hr hn1 hn).mono fun _ _ ⟨v, h1, h2, h3, _⟩ => ⟨v, h1, h2, h3⟩
end Go.Proofs.YtihndbkaoejnnaaGreatDoor

namespace Go.Proofs.YtihndbkaoejnnaaGreatDoor
open Go Go.RowKit Go.Proofs.YtihndbkaoejnnaaGreatDoor.P
/-- Row i of cells, long cells each. -/
def rowOf (d : List Int) (L i : Nat) : List Int := (d.drop (i * L)).take L
theorem rowOf_length {d : List Int} {L n i : Nat} (h : d.length = n * L) (hi : i < n) : (rowOf d L i).length = L := by
  unfold rowOf
  have : (i + 1) * L ≤ n * L := Nat.mul_le_mul_right L hi
  rw [Nat.add_mul, Nat.one_mul] at this
  rw [List.length_take, List.length_drop]; omega
theorem rows_info : ∃ i, Tryz.prog.info? 23 = some i ∧ i.zero = some (.slice none 0 0) ∧ i.size = 1 ∧ i.bytes = 24 := by
  have h : (Tryz.prog.info? 23).map (fun i => (i.zero, i.size, i.bytes)) = some (some (.slice none 0 0), 1, 24) := by kernel_rfl
  exact info_parts h
theorem run_make_rows (n : Nat) (hn : n ≤ 4096) (w : World) :
    (Instr.makeSlice 71 (.int .i64 n) (.int .i64 n)).run Tryz.prog w = .ok (.slice (some ⟨w.heap.size, 0, none⟩) n n) (w.alloc (.cells (madeCells #[.slice none 0 0] n) 23)) := by
  obtain ⟨i0, hi, hz0, hz1, hz2⟩ := rows_info
  have hr := run_make (P := Tryz.prog) w 71 23 i0 (.slice none 0 0) Tryz.underlying71 hi hz0 .i64 .i64 n n (by omega) (by omega) (by rw [hz2]; omega) (by omega)
  rw [hz1] at hr
  simp only [Int.toNat_natCast, Nat.mul_one] at hr
  exact hr
set_option maxHeartbeats 1000000 in
theorem cut_bad {v : Value} {a : Arr} {w : World} (ha : IsArr w v a) (h : arrErr a ≠ 0) :
    Calls Tryz.prog 35 #[v] w fun e w' => e = .returned (.tuple #[.slice none 0 0, .iface 54 (.int .i64 (arrErr a))]) ∧ Below w.heap.size w w' := by
  obtain ⟨A, ca, D, cd, rfl, hs, hd⟩ := ha.open_
  have HA := Lib.hid (check_bad (ha.mono (below_one w (.cells #[.bool a.ch, .slice A a.sh.length ca, .slice D a.da.length cd] 25))) h)
  obtain ⟨x, hx⟩ : ∃ x, x = arrErr a := ⟨_, rfl⟩
  rw [← hx] at HA ⊢
  clear ha hs hd h hx
  go_enter Tryz.func35, Tryz.ntmps35
  have b0 := Box.new w 25 #[.bool a.ch, .slice A a.sh.length ca, .slice D a.da.length cd]
  have hb0 := below_one w (.cells #[.bool a.ch, .slice A a.sh.length ca, .slice D a.da.length cd] 25)
  obtain ⟨t0, t1, t2⟩ := b0.three
  go_wp2_with fail
  refine HA.out.mono ?_
  rintro e w1 ⟨rfl, hb1⟩
  have hbw := hb0.trans (hb1.mono hb0.size)
  clear hb1 hb0 t0 t1 t2 b0
  go_wp2_with fail
  refine bodyPost_ret (v := .tuple #[.slice none 0 0, .iface 54 (.int .i64 x)]) (by simp [results, Tryz.results35, go_sem]) rfl ?_
  exact ⟨rfl, hbw⟩
set_option maxHeartbeats 1000000 in
theorem cut_rank {v : Value} {a : Arr} {w : World} (ha : IsArr w v a) (ht : Ok a []) :
    Calls Tryz.prog 35 #[v] w fun e w' => e = .returned (.tuple #[.slice none 0 0, .iface 54 (.int .i64 3)]) ∧ Below w.heap.size w w' := by
  obtain ⟨A, ca, D, cd, rfl, hs, hd⟩ := ha.open_
  have HA := Lib.hid (check_ok (ha.mono (below_one w (.cells #[.bool a.ch, .slice A a.sh.length ca, .slice D a.da.length cd] 25))) ht)
  have hl : a.sh.length = 0 := by rw [ht.sh]; rfl
  rw [hl] at HA ⊢
  clear ha hs hd ht hl
  go_enter Tryz.func35, Tryz.ntmps35
  have b0 := Box.new w 25 #[.bool a.ch, .slice A 0 ca, .slice D a.da.length cd]
  have hb0 := below_one w (.cells #[.bool a.ch, .slice A 0 ca, .slice D a.da.length cd] 25)
  obtain ⟨t0, t1, t2⟩ := b0.three
  go_wp2_with fail
  refine HA.out.mono ?_
  rintro e w1 ⟨rfl, hb1⟩
  have hbw := hb0.trans (hb1.mono hb0.size)
  have b1 := b0.below hb1
  clear hb1 hb0 t0 t1 t2 b0
  obtain ⟨t0, t1, t2⟩ := b1.three
  go_wp2_with fail
  refine bodyPost_ret (v := .tuple #[.slice none 0 0, .iface 54 (.int .i64 3)]) (by simp [results, Tryz.results35, go_sem]) rfl ?_
  exact ⟨rfl, hbw⟩
/-- A piece of a list. -/
theorem Elems.piece {w : World} {A : Option Addr} {xs : List Int} (h : Elems w A xs) (k : Nat) : Elems w (A.map fun a => a.add k) (xs.drop k) := fun j x hj => by
  rw [List.getElem?_drop] at hj
  obtain ⟨ad, e, h1, h2⟩ := h _ _ hj
  subst e
  refine ⟨_, rfl, by rw [addr_block_add]; exact h1, ?_⟩
  rw [← h2]
  congr 1
  unfold Addr.add
  cases ad with
  | mk b o s => cases s <;> (by_cases e1 : k = 0 <;> by_cases e2 : j = 0 <;> simp_all [Nat.add_assoc])
theorem Elems.first {w : World} {A : Option Addr} {xs : List Int} (h : Elems w A xs) (k : Nat) : Elems w A (xs.take k) := fun j x hj => by
  rw [List.getElem?_take] at hj
  split at hj
  · exact h j x hj
  · cases hj
theorem addr_add_zero (a : Addr) : a.add 0 = a := by unfold Addr.add; rw [if_pos rfl]
/-- The rows as far as i: the lists as they lay in w0. -/
def RowsTo (w0 w : World) (g n i : Nat) (r : Nat → List Int) : Prop := ∃ cs : Array Value, Box w g 23 cs ∧ cs.size = n ∧ ∀ j, j < i → ∃ A c, cs[j]? = some (.slice A (r j).length c) ∧ IsInts w0 (.slice A (r j).length c) (r j)
theorem RowsTo.all {w0 w : World} {g n : Nat} {r : Nat → List Int} (h : RowsTo w0 w g n n r) (hb : Below w0.heap.size w0 w) : RowsAt w g n r := by
  obtain ⟨cs, h1, -, h2⟩ := h
  exact ⟨cs, h1, fun i hi => by obtain ⟨A, c, h3, h4⟩ := h2 i hi; exact ⟨A, c, h3, h4.mono hb⟩⟩
theorem RowsTo.made (w0 w : World) (n : Nat) (r : Nat → List Int) : RowsTo w0 (w.alloc (.cells (madeCells #[.slice none 0 0] n) 23)) w.heap.size n 0 r :=
  ⟨_, Box.new _ _ _, by simp [madeCells], fun j h => absurd h (Nat.not_lt_zero _)⟩
theorem RowsTo.cell {w0 w : World} {g n i : Nat} {r : Nat → List Int} (h : RowsTo w0 w g n i r) {k : Nat} (hk : k < n) : (∃ u, w.cell? ⟨g, k, none⟩ = some u) ∧ w.frozen? ⟨g, k, none⟩ = false ∧ g < w.heap.size := by
  obtain ⟨cs, h1, h0, -⟩ := h
  exact ⟨⟨cs[k]'(by omega), by rw [h1.cell]; exact Array.getElem?_eq_getElem (by omega)⟩, h1.frozen k, h1.lt⟩
theorem RowsTo.store {w0 w : World} {g n i : Nat} {r : Nat → List Int} (h : RowsTo w0 w g n i r) (hi : i < n) {v : Value} {A : Option Addr} {c : Nat} (hv : v = .slice A (r i).length c) (h0 : IsInts w0 (.slice A (r i).length c) (r i)) :
    RowsTo w0 (w.setCell ⟨g, i, none⟩ v) g n (i + 1) r := by
  obtain ⟨cs, h1, hz, h2⟩ := h
  refine ⟨_, h1.store i v, by simp [hz], fun j hj => ?_⟩
  rw [Array.getElem?_setIfInBounds]
  by_cases e : i = j
  · subst e
    rw [if_pos rfl, if_pos (by omega)]
    exact ⟨A, c, by rw [hv], h0⟩
  · rw [if_neg e]; exact h2 j (by omega)
theorem row_piece {w : World} {D : Option Addr} {cd L i n : Nat} {d : List Int} (h : IsInts w (.slice D d.length cd) d) (hl : d.length = n * L) (hi : i < n) :
    IsInts w (.slice (if cd = i * L then D else D.map fun a => a.add (i * L)) (rowOf d L i).length (cd - i * L)) (rowOf d L i) := by
  obtain ⟨A, c, e, h1, h2, h3, h4, h5⟩ := h
  injection e with e1 _ e3
  subst e1 e3
  have hle : (i + 1) * L ≤ n * L := Nat.mul_le_mul_right L hi
  rw [Nat.add_mul, Nat.one_mul] at hle
  have hz := rowOf_length hl hi
  refine ⟨_, _, rfl, by rw [hz]; omega, by omega, by rw [hz]; omega, fun e => ?_, ?_⟩
  · have : D = none := by
      split at e
      · exact e
      · simpa using e
    have := h4 this
    omega
  · by_cases hc : cd = i * L
    · rw [if_pos hc]
      intro k x hk
      have : (rowOf d L i).length = 0 := by rw [hz]; omega
      have := (List.getElem?_eq_some_iff.1 hk).1
      omega
    · rw [if_neg hc]
      exact Elems.first (Elems.piece h5 (i * L)) L
set_option maxHeartbeats 4000000 in
theorem cut_ok {v : Value} {a : Arr} {w : World} {n : Nat} {t : List Nat} (ha : IsArr w v a) (ht : Ok a (n :: t)) (hn : 1 ≤ n) :
    Calls Tryz.prog 35 #[v] w fun e w' => ∃ g, e = .returned (.tuple #[.slice (some ⟨g, 0, none⟩) n n, .nilIface]) ∧ RowsAt w' g n (rowOf a.da (prod t)) ∧ Below w.heap.size w w' := by
  obtain ⟨A, ca, D, cd, rfl, hs, hd⟩ := ha.open_
  have hdl : a.da.length = n * prod t := by rw [ht.len]; rfl
  have hn4 : n ≤ 4096 := ht.good.2.1 n (by simp)
  have hp4 : n * prod t ≤ 4096 := ht.good.2.2
  obtain ⟨as_, x, hax, hx, hasl, hcx⟩ := Elems.at_ (xs := a.sh) (k := 0) (by obtain ⟨_, _, e, _, _, _, _, h9⟩ := hs; injection e with e1 _ _; subst e1; exact h9) (by rw [ht.sh]; simp [ints])
  subst hax
  obtain rfl : x = (n : Int) := by rw [ht.sh] at hx; simpa [ints] using hx.symm
  rw [addr_add_zero] at hcx
  have HA := Lib.hid (check_ok (ha.mono (below_one w (.cells #[.bool a.ch, .slice (some as_) a.sh.length ca, .slice D a.da.length cd] 25))) ht)
  have hsl : a.sh.length = t.length + 1 := by rw [ht.sh]; simp [ints]
  have HD := Lib.hid hd
  have HDL := Lib.hid hdl
  obtain ⟨L, hL⟩ : ∃ L, L = prod t := ⟨_, rfl⟩
  rw [← hL] at hdl hp4 HDL ⊢
  have hmk := run_make_rows n hn4
  have hsz : decide ((a.sh.length : Int) = 0) = false := decide_eq_false (by omega)
  have hsz2 : ((a.sh.length : Int) == 0) = false := by rw [beq_eq_false_iff_ne]; omega
  have hnz : ((n : Int) == 0) = false := by rw [beq_eq_false_iff_ne]; omega
  have hnz2 : ¬ (n : Int) = 0 := by omega
  have hsl1 : 1 ≤ a.sh.length := by rw [hsl]; omega
  have hq : Int.tdiv (a.da.length : Int) (n : Int) = (L : Int) := by
    rw [hdl, show ((n * L : Nat) : Int) = (n : Int) * (L : Int) by push_cast; rfl, Int.mul_tdiv_cancel_left _ (by omega)]
  have hwL : IntKind.i64.wrap (L : Int) = (L : Int) := IntWalk.i64_in _ (by
    have : L ≤ 4096 := Nat.le_trans (Nat.le_mul_of_pos_left L hn) hp4
    omega)
  have hac : a.da.length ≤ cd := by obtain ⟨_, _, e, h1, -⟩ := hd; injection e with _ _ e3; omega
  have hcd : cd ≤ 9223372036854775807 := by obtain ⟨_, _, e, h1, h2, -⟩ := hd; injection e with _ _ e3; omega
  have HP4 := Lib.hid hp4
  clear ha hs hd ht hx hL hdl hsl hp4
  go_enter Tryz.func35, Tryz.ntmps35
  have b0 := Box.new w 25 #[.bool a.ch, .slice (some as_) a.sh.length ca, .slice D a.da.length cd]
  have hb0 := below_one w (.cells #[.bool a.ch, .slice (some as_) a.sh.length ca, .slice D a.da.length cd] 25)
  obtain ⟨t0, t1, t2⟩ := b0.three
  go_wp2_with fail
  refine HA.out.mono ?_
  rintro e w1 ⟨rfl, hb1⟩
  have hbw := hb0.trans (hb1.mono hb0.size)
  have b1 := b0.below hb1
  have hc1 : w1.cell? as_ = some (.int .i64 (n : Int)) := (hbw.cell hasl).trans hcx
  clear hb1 hb0 t0 t1 t2 b0 hcx
  obtain ⟨t0, t1, t2⟩ := b1.three
  have b2 := b1.alloc (.cells (madeCells #[.slice none 0 0] n) 23)
  have hR := RowsTo.made w w1 n (rowOf a.da L)
  have hbw2 := hbw.alloc hbw.size (.cells (madeCells #[.slice none 0 0] n) 23)
  have hg0 := b1.lt
  obtain ⟨s0, s1, s2⟩ := b2.three
  go_wp2_with fail
  clear s0 s1 s2 t0 t1 t2 b1 hq hmk hc1
  obtain ⟨w2, hw2⟩ : ∃ w2, w2 = w1.alloc (.cells (madeCells #[.slice none 0 0] n) 23) := ⟨_, rfl⟩
  obtain ⟨g, hg⟩ : ∃ g, g = w1.heap.size := ⟨_, rfl⟩
  rw [← hw2] at b2 hR hbw2 ⊢
  rw [← hg] at hR hg0 ⊢
  clear hw2 hg
  go_loopw [35] (fun s35 wr => ∃ i : Nat, i ≤ n ∧ s35 = .int .i64 i ∧ Box wr w.heap.size 25 #[.bool a.ch, .slice (some as_) a.sh.length ca, .slice D a.da.length cd] ∧ RowsTo w wr g n i (rowOf a.da L) ∧ Below w.heap.size w wr) (fun s35 _ => n - (intOf s35).toNat)
  case atStart => exact ⟨0, Nat.zero_le _, rfl, b2, hR, hbw2⟩
  case round =>
    clear b2 hR hbw2
    obtain ⟨i, hi, rfl, b, hR, hbw⟩ := hrel
    rcases Nat.lt_or_ge i n with hlt | hge
    · obtain ⟨t0, t1, t2⟩ := b.three
      obtain ⟨⟨u, hcu⟩, hfu, hlu⟩ := hR.cell hlt
      obtain ⟨lo, hlo⟩ : ∃ lo, lo = i * L := ⟨_, rfl⟩
      have HLO := Lib.hid hlo
      have elo : (i : Int) * (L : Int) = (lo : Int) := by rw [hlo]; push_cast; rfl
      have ehi : ((i : Int) + 1) * (L : Int) = (lo : Int) + (L : Int) := by rw [hlo, Int.add_mul, Int.one_mul]; push_cast; rfl
      have hle : lo + L ≤ a.da.length := by
        rw [HDL.out, hlo]
        have := Nat.mul_le_mul_right L (show i + 1 ≤ n from hlt)
        rwa [Nat.add_mul, Nat.one_mul] at this
      have hd4 : a.da.length ≤ 4096 := by rw [HDL.out]; exact HP4.out
      have wi : IntKind.i64.wrap ((i : Int) + 1) = (i : Int) + 1 := IntWalk.i64_in _ (by omega)
      have wlo : IntKind.i64.wrap (lo : Int) = (lo : Int) := IntWalk.i64_in _ (by omega)
      have whi : IntKind.i64.wrap ((lo : Int) + (L : Int)) = (lo : Int) + (L : Int) := IntWalk.i64_in _ (by omega)
      have hloL : ((lo : Int) + (L : Int)).toNat = lo + L := by omega
      have hlc : (lo : Int) + (L : Int) ≤ (cd : Int) := by omega
      have hlc2 : lo ≤ lo + L := Nat.le_add_right _ _
      have HRP := Lib.hid (show IsInts w (.slice (if cd = lo then D else D.map fun a => a.add lo) (rowOf a.da L i).length (cd - lo)) (rowOf a.da L i) by rw [hlo]; exact row_piece HD.out HDL.out hlt)
      have HRL := Lib.hid (rowOf_length HDL.out hlt)
      clear hlo hle
      go_wp2_with fail
      go_roundw
      case rel => exact ⟨i + 1, hlt, by go_num, b.far (p := ⟨g, i, none⟩) (by simp; omega) _, hR.store hlt (by rw [HRL.out]) HRP.out, hbw.setCell (p := ⟨g, i, none⟩) (by simp; omega) _⟩
      case measure => simp [intOf]; omega
    · obtain rfl : i = n := by omega
      go_wp2_with fail
      refine bodyPost_ret (v := .tuple #[.slice (some ⟨g, 0, none⟩) i i, .nilIface]) (by simp [results, Tryz.results35, go_sem]) rfl ?_
      exact ⟨g, rfl, hR.all hbw, hbw⟩
end Go.Proofs.YtihndbkaoejnnaaGreatDoor

namespace Go.Proofs.YtihndbkaoejnnaaGreatDoor.P
open Go Go.RowKit
open Go.Sort (SWO)
/-- How many rows, and how long each. -/
def Arr.rows (a : Arr) : Nat := a.nsh.headD 0
def Arr.long (a : Arr) : Nat := prod a.nsh.tail
def gradeErr (a : Arr) : Int := if arrErr a ≠ 0 then arrErr a else if a.sh.length = 0 then 3 else 0
def cOf (down : Bool) : List Int → List Int → Int := if down then fun x y => cmpL y x else cmpL
/-- The order of an array's rows. -/
def gradeOf (down : Bool) (r : Nat → List Int) (n : Nat) : List Nat := ordOf (fun x y : Nat => decide (cOf down (r x) (r y) < 0)) n
theorem cOf_swo (down : Bool) (r : Nat → List Int) : SWO (fun x y : Nat => decide (cOf down (r x) (r y) < 0)) := by
  cases down
  · exact ltBy_swo r
  · exact gtBy_swo r
end Go.Proofs.YtihndbkaoejnnaaGreatDoor.P
namespace Go.Proofs.YtihndbkaoejnnaaGreatDoor
open Go Go.RowKit Go.Proofs.YtihndbkaoejnnaaGreatDoor.P
open Go.Sort (SWO)
set_option maxHeartbeats 1000000 in
theorem cut_none {v : Value} {a : Arr} {w : World} {t : List Nat} (ha : IsArr w v a) (ht : Ok a (0 :: t)) :
    Calls Tryz.prog 35 #[v] w fun e w' => ∃ g, e = .returned (.tuple #[.slice (some ⟨g, 0, none⟩) 0 0, .nilIface]) ∧ Below w.heap.size w w' := by
  obtain ⟨A, ca, D, cd, rfl, hs, hd⟩ := ha.open_
  obtain ⟨as_, x, hax, hx, hasl, hcx⟩ := Elems.at_ (xs := a.sh) (k := 0) (by obtain ⟨_, _, e, _, _, _, _, h9⟩ := hs; injection e with e1 _ _; subst e1; exact h9) (by rw [ht.sh]; simp [ints])
  subst hax
  obtain rfl : x = 0 := by rw [ht.sh] at hx; simpa [ints] using hx.symm
  rw [addr_add_zero] at hcx
  have HA := Lib.hid (check_ok (ha.mono (below_one w (.cells #[.bool a.ch, .slice (some as_) a.sh.length ca, .slice D a.da.length cd] 25))) ht)
  have hsl : a.sh.length = t.length + 1 := by rw [ht.sh]; simp [ints]
  have hmk : ∀ w, (Instr.makeSlice 71 (.int .i64 0) (.int .i64 0)).run Tryz.prog w = _ := run_make_rows 0 (by omega)
  have hsl1 : 1 ≤ a.sh.length := by rw [hsl]; omega
  have hsz2 : ((a.sh.length : Int) == 0) = false := by rw [beq_eq_false_iff_ne]; omega
  clear ha hs hd ht hx hsl
  go_enter Tryz.func35, Tryz.ntmps35
  have b0 := Box.new w 25 #[.bool a.ch, .slice (some as_) a.sh.length ca, .slice D a.da.length cd]
  have hb0 := below_one w (.cells #[.bool a.ch, .slice (some as_) a.sh.length ca, .slice D a.da.length cd] 25)
  obtain ⟨t0, t1, t2⟩ := b0.three
  go_wp2_with fail
  refine HA.out.mono ?_
  rintro e w1 ⟨rfl, hb1⟩
  have hbw := hb0.trans (hb1.mono hb0.size)
  have b1 := b0.below hb1
  have hc1 : w1.cell? as_ = some (.int .i64 0) := (hbw.cell hasl).trans hcx
  clear hb1 hb0 t0 t1 t2 b0 hcx
  obtain ⟨t0, t1, t2⟩ := b1.three
  have hbw2 := hbw.alloc hbw.size (.cells (madeCells #[.slice none 0 0] 0) 23)
  go_wp2_with fail
  refine bodyPost_ret (v := .tuple #[.slice (some ⟨w1.heap.size, 0, none⟩) 0 0, .nilIface]) (by simp [results, Tryz.results35, go_sem]) rfl ?_
  exact ⟨_, rfl, hbw2⟩
theorem insert_none {v cv : Value} (w : World) : Calls Tryz.prog 103 #[v, .int .i64 0, .int .i64 0, cv] w fun e w' => e = .returned (.tuple #[]) ∧ w' = w := by
  go_enter Tryz.func103, Tryz.ntmps103
  go_wp2_with fail
  go_loopw [8] (fun s8 wr => s8 = .int .i64 1 ∧ wr = w) (fun _ _ => 0)
  case atStart => exact ⟨rfl, rfl⟩
  case round =>
    obtain ⟨rfl, rfl⟩ := hrel
    go_wp2_with fail
    go_end0
    exact ⟨rfl, rfl⟩
theorem stable_none {v cv : Value} (w : World) : Calls Tryz.prog 71 #[v, .int .i64 0, cv] w fun e w' => e = .returned (.tuple #[]) ∧ w' = w := by
  go_enter Tryz.func71, Tryz.ntmps71
  go_wp2_with fail
  go_loopw [7, 8] (fun s7 s8 wr => s7 = .int .i64 0 ∧ s8 = .int .i64 20 ∧ wr = w) (fun _ _ _ => 0)
  case atStart => exact ⟨rfl, rfl, rfl⟩
  case round =>
    obtain ⟨rfl, rfl, rfl⟩ := hrel
    go_wp2_with fail
    refine (insert_none _).mono ?_
    rintro e w1 ⟨rfl, rfl⟩
    go_wp2_with fail
    go_loopw [6] (fun s6 wr => s6 = .int .i64 20 ∧ wr = w1) (fun _ _ => 0)
    case atStart => exact ⟨rfl, rfl⟩
    case round =>
      obtain ⟨rfl, rfl⟩ := hrel
      go_wp2_with fail
      go_end0
      exact ⟨rfl, rfl⟩
end Go.Proofs.YtihndbkaoejnnaaGreatDoor

namespace Go.Proofs.YtihndbkaoejnnaaGreatDoor
open Go Go.RowKit Go.Proofs.YtihndbkaoejnnaaGreatDoor.P
open Go.Sort (SWO)
theorem gradeErr_zero {a : Arr} (h : gradeErr a = 0) : ∃ n t, Ok a (n :: t) := by
  unfold gradeErr at h
  by_cases h1 : arrErr a = 0
  · rw [if_neg (fun e => e h1)] at h
    obtain ⟨t, ht⟩ := ok_of_arrErr h1
    cases t with
    | nil => rw [if_pos (by rw [ht.sh]; rfl)] at h; cases h
    | cons n t => exact ⟨n, t, ht⟩
  · rw [if_pos h1] at h; exact absurd h h1
theorem cut_err {v : Value} {a : Arr} {w : World} (ha : IsArr w v a) (h : gradeErr a ≠ 0) :
    Calls Tryz.prog 35 #[v] w fun e w' => e = .returned (.tuple #[.slice none 0 0, .iface 54 (.int .i64 (gradeErr a))]) ∧ Below w.heap.size w w' := by
  unfold gradeErr at h ⊢
  by_cases h1 : arrErr a = 0
  · rw [if_neg (fun e => e h1)] at h ⊢
    by_cases h2 : a.sh.length = 0
    · rw [if_pos h2]
      obtain ⟨t, ht⟩ := ok_of_arrErr h1
      cases t with
      | nil => exact cut_rank ha ht
      | cons n t => rw [ht.sh] at h2; simp [ints] at h2
    · rw [if_neg h2] at h; exact absurd rfl h
  · rw [if_pos h1]
    exact cut_bad ha h1
theorem sort_none {P : Option Addr} {cv : Value} (w : World) : Calls Tryz.prog 51 #[.slice P 0 0, cv] w fun e w' => e = .returned (.tuple #[]) ∧ w' = w := by
  go_enter Tryz.func51, Tryz.ntmps51
  go_wp2_with fail
  refine (stable_none _).mono ?_
  rintro e w1 ⟨rfl, rfl⟩
  go_wp2_with fail
  go_end0
  exact ⟨rfl, rfl⟩
set_option maxHeartbeats 1000000 in
theorem order_none_new {P : Option Addr} {f : Nat} {c : List Int → List Int → Int} {r : Nat → List Int} {w : World} :
    Calls Tryz.prog 36 #[.slice P 0 0, .func (.func f) #[] #[]] w fun e w' => ∃ v, e = .returned v ∧ IsInts w' v (ints (ordOf (fun x y : Nat => decide (c (r x) (r y) < 0)) 0)) ∧ Below w.heap.size w w' ∧ (∀ j, v.ownBlock = some j → w.heap.size ≤ j) := by
  have hmk : ∀ w, (Instr.makeSlice 23 (.int .i64 0) (.int .i64 0)).run Tryz.prog w = _ := run_make_list 0 (by omega)
  have hz : ints (ordOf (fun x y : Nat => decide (c (r x) (r y) < 0)) 0) = [] := by unfold ordOf; simp [ints]
  rw [hz]
  have b2 := ((Box.new w 71 #[.slice P 0 0]).alloc (  .cells #[.func (.func f) #[] #[]] 75)).alloc (.cells (madeCells #[.int .i64 0] 0) 3)
  have hbw := below_three w (.cells #[.slice P 0 0] 71) (  .cells #[.func (.func f) #[] #[]] 75) (.cells (madeCells #[.int .i64 0] 0) 3)
  have hrow := Row.made ((w.alloc (.cells #[.slice P 0 0] 71)).alloc (  .cells #[.func (.func f) #[] #[]] 75)) 0
  simp only [World.size_alloc] at hrow
  go_enter Tryz.func36, Tryz.ntmps36
  go_wp2_with fail
  go_loopw [12] (fun s12 wr => s12 = .int .i64 0 ∧ Below w.heap.size w wr ∧ Row wr (w.heap.size + 1 + 1) []) (fun _ _ => 0)
  case atStart => exact ⟨rfl, by first | exact hbw | simpa [madeCells] using hbw, by first | exact hrow | simpa [madeCells] using hrow⟩
  case round =>
    clear hbw hrow b2
    obtain ⟨rfl, hbw, hrow⟩ := hrel
    go_wp2_with fail
    refine (sort_none _).mono ?_
    rintro e w1 ⟨rfl, rfl⟩
    go_wp2_with fail
    go_ret
    exact ⟨_, rfl, hrow.isInts (n := 0) rfl (by omega), hbw, block_from (by omega)⟩
theorem order_none {P : Option Addr} {f : Nat} {c : List Int → List Int → Int} {r : Nat → List Int} {w : World} :
    Calls Tryz.prog 36 #[.slice P 0 0, .func (.func f) #[] #[]] w fun e w' => ∃ v, e = .returned v ∧ IsInts w' v (ints (ordOf (fun x y : Nat => decide (c (r x) (r y) < 0)) 0)) ∧ Below w.heap.size w w' := order_none_new.mono fun _ _ ⟨v, h1, h2, h3, _⟩ => ⟨v, h1, h2, h3⟩

theorem enters_up : ∀ args w, (callFunc 37 args).run Tryz.prog w = .ok (.enter 37 args) w := enters_of Tryz.func37 (by kernel_rfl) rfl
/-- The same; the list lies in a new block. -/
def GToldN (xs : List Int) (k : Int) (w : World) (e : Ending) (w' : World) : Prop := ∃ r, e = .returned (.tuple #[r, errV k]) ∧ IsInts w' r (if k = 0 then xs else []) ∧ Below w.heap.size w w' ∧ (∀ j, r.ownBlock = some j → w.heap.size ≤ j)
set_option maxHeartbeats 1000000 in
theorem up_new {v : Value} {a : Arr} {w : World} (ha : IsArr w v a) :
    Calls Tryz.prog 196 #[v] w (GToldN (ints (gradeOf false (rowOf a.da a.long) a.rows)) (gradeErr a) w) := by
  obtain ⟨A, ca, D, cd, rfl, hs, hd⟩ := ha.open_
  obtain ⟨K, hK⟩ : ∃ K, K = gradeErr a := ⟨_, rfl⟩
  obtain ⟨X, hX⟩ : ∃ X, X = ints (gradeOf false (rowOf a.da a.long) a.rows) := ⟨_, rfl⟩
  have hb0 := below_one w (.cells #[.bool a.ch, .slice A a.sh.length ca, .slice D a.da.length cd] 25)
  have b0 := Box.new w 25 #[.bool a.ch, .slice A a.sh.length ca, .slice D a.da.length cd]
  have HA := Lib.hid (ha.mono hb0)
  by_cases hE : gradeErr a = 0
  · obtain ⟨n, t, ht⟩ := gradeErr_zero hE
    have hr : a.rows = n := by unfold Arr.rows; rw [ht.nsh_eq]; rfl
    have hl : a.long = prod t := by unfold Arr.long; rw [ht.nsh_eq]; rfl
    rw [hE, hr, hl]
    have HT := Lib.hid ht
    have hn4 : n ≤ 4096 := ht.good.2.1 n (by simp)
    clear ha hs hd hE hr hl ht hK hX
    rcases Nat.eq_zero_or_pos n with hz | hz
    · subst hz
      go_enter Tryz.func196, Tryz.ntmps196
      obtain ⟨t0, t1, t2⟩ := b0.three
      go_wp2_with fail
      refine (cut_none HA.out HT.out).mono ?_
      rintro e w1 ⟨g, rfl, hb1⟩
      have hbw := hb0.trans (hb1.mono hb0.size)
      clear hb1 hb0 t0 t1 t2 b0
      go_wp2_with fail
      refine (order_none_new (c := cOf false) (r := rowOf a.da (prod t))).mono ?_
      rintro e w2 ⟨u, rfl, hu, hb2, hn2⟩
      have HU := Lib.hid hu
      have HN2 := Lib.hid (fun j e => Nat.le_trans hbw.size (hn2 j e))
      have hbw2 := hbw.trans (hb2.mono hbw.size)
      clear hu hb2 hn2
      go_wp2_with fail
      refine bodyPost_ret (v := .tuple #[u, .nilIface]) (by simp [results, Tryz.results196, go_sem]) rfl ?_
      exact ⟨u, rfl, HU.out, hbw2, HN2.out⟩
    · go_enter Tryz.func196, Tryz.ntmps196
      obtain ⟨t0, t1, t2⟩ := b0.three
      go_wp2_with fail
      refine (cut_ok HA.out HT.out hz).mono ?_
      rintro e w1 ⟨g, rfl, hr1, hb1⟩
      have HR := Lib.hid hr1
      have hbw := hb0.trans (hb1.mono hb0.size)
      clear hb1 hb0 t0 t1 t2 b0 hr1
      go_wp2_with fail
      refine (order_new enters_up cmps_up (cOf_swo false _) HR.out hz hn4).mono ?_
      rintro e w2 ⟨u, rfl, hu, hb2, hn2⟩
      have HU := Lib.hid hu
      have HN2 := Lib.hid (fun j e => Nat.le_trans hbw.size (hn2 j e))
      have hbw2 := hbw.trans (hb2.mono hbw.size)
      clear hu hb2 hn2
      go_wp2_with fail
      refine bodyPost_ret (v := .tuple #[u, .nilIface]) (by simp [results, Tryz.results196, go_sem]) rfl ?_
      exact ⟨u, rfl, HU.out, hbw2, HN2.out⟩
  · have HE := Lib.hid hE
    rw [← hX]
    have HC := Lib.hid (cut_err HA.out hE)
    rw [← hK] at HC HE ⊢
    clear ha hs hd hE hK hX
    go_enter Tryz.func196, Tryz.ntmps196
    obtain ⟨t0, t1, t2⟩ := b0.three
    go_wp2_with fail
    refine HC.out.mono ?_
    rintro e w1 ⟨rfl, hb1⟩
    have hbw := hb0.trans (hb1.mono hb0.size)
    clear hb1 hb0 t0 t1 t2 b0
    go_wp2_with fail
    refine bodyPost_ret (v := .tuple #[.slice none 0 0, .iface 54 (.int .i64 K)]) (by simp [results, Tryz.results196, go_sem]) rfl ?_
    exact ⟨_, by rw [errV_ne HE.out], by rw [if_neg HE.out]; exact (Owns.nil w1 0).isInts, hbw, fun j e => by cases e⟩

end Go.Proofs.YtihndbkaoejnnaaGreatDoor
