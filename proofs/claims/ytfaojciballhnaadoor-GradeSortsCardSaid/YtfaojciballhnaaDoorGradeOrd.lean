/- The walk of grade's order, joined with the library's sort. Conditions: rows that lie in memory, from 1 to 4096 of them. -/
import Derived.Test.YtfaojciballhnaaDoorGradeOrder
import Derived.Test.YtfaojciballhnaaDoorPair
set_option linter.unusedSimpArgs false
set_option linter.unusedVariables false
namespace Go.Proofs.YtfaojciballhnaaDoor
open Go Go.RowKit Go.Proofs.YtfaojciballhnaaDoor.P
open Go.Sort (Holds putRow PermIn SortedIn SWO)
theorem enters_closure : ∀ args w, (callFunc 27 args).run Tryd.prog w = .ok (.enter 27 args) w := enters_of Tryd.func27 (by kernel_rfl) rfl
theorem sort_lists {N n : Nat} (hnN : n = N + 1) {lt : Nat → Nat → Bool} {cf : Fin (N + 1) → Fin (N + 1) → Int} (hcf : ∀ x y, ltOf cf x y = lt x.val y.val) (hO : SWO lt) (hS : SWO (ltOf cf)) {g : Nat} {cb : Array Value} (eg : ∀ args w, (callFunc g args).run Tryd.prog w = .ok (.enter g args) w)
    {w : World} {blk : Nat} (hr : Row w blk (ints (List.range n))) (hn : n ≤ 4096) (hcmp : CmpLays1 Tryd.prog g cb encF cf blk 0 n w) :
    Calls Tryd.prog 26 #[.slice (some ⟨blk, 0, none⟩) n n, .func (.func g) #[] cb] w fun e w' => e = .returned (.tuple #[]) ∧ IsInts w' (.slice (some ⟨blk, 0, none⟩) n n) (ints (ordOf lt n)) ∧ ∀ B, B ≤ blk → Below B w w' := by
  obtain ⟨d0, hd0⟩ : ∃ d0 : Array (Fin (N + 1)), d0 = Array.ofFn (fun i : Fin (N + 1) => i) := ⟨_, rfl⟩
  have hz : d0.size = n := by rw [hd0, hnN]; simp
  have hat : ∀ p, p < d0.size → (d0[p]!).val = p := fun p hp => by
    have hp2 := hp
    rw [getElem!_pos d0 p hp]
    subst hd0
    simp
  have hl0 : d0.toList.map Fin.val = List.range (N + 1) := by
    refine List.ext_getElem (by simp [hz, hnN]) fun k h1 h2 => ?_
    have h3 : k < d0.size := by simpa using h1
    have h4 := hat k h3
    rw [getElem!_pos d0 k h3] at h4
    simpa using h4
  have hH : Holds encF w blk 0 d0 := fun j hj => by
    have h1 : (ints (List.range n))[j]? = some (j : Int) := by rw [hz] at hj; simp [ints, hj]
    refine ⟨?_, Box.frozen hr _⟩
    rw [Nat.zero_add]
    show w.cell? ⟨blk, j, none⟩ = some (.int .i64 ((d0[j]!).val : Int))
    rw [hat j hj]
    exact hr.at_ h1
  have hR : Row1 encF w blk 0 d0 := ⟨encF_one, hH, Box.lt hr⟩
  have H := Lib.hid (stable_any cf hS g cb eg blk 0 n d0 w hR (by rw [hz]; exact hcmp) w (SW.start hH) (by rw [hz]; exact hn) hat)
  rw [hz] at H
  have HZ := Lib.hid hz
  have HO := Lib.hid hO
  have HL := Lib.hid hl0
  have HR := Lib.hid hR
  have HNN := Lib.hid hnN
  clear hH hR hat hl0 hz hd0 hcmp hS hO hnN
  go_enter Tryd.func26, Tryd.ntmps26
  go_wp2_with fail
  refine H.out.mono ?_
  rintro e w1 ⟨rfl, d', hP, hs, hSW⟩
  go_wp2_with fail
  go_end0
  have hd : d'.size = n := hP.1.trans HZ.out
  have ho : (d'.toList.map Fin.val) = ordOf lt n := by
    have h9 := HNN.out
    subst h9
    exact (ord_of_sorted hcf HL.out HZ.out hP hs).one (ordOf_is HO.out _)
  have hh := hSW.holds HR.out.hblk HR.out.hH (hd.trans HZ.out.symm)
  obtain ⟨m, os, rfl⟩ := hSW
  have hlo : (ordOf lt n).length = n := (ordOf_is HO.out n).length
  refine ⟨rfl, ⟨some ⟨blk, 0, none⟩, n, by rw [length_ints, hlo], by rw [length_ints, hlo]; exact Nat.le_refl _, by omega, by rw [length_ints, hlo]; omega, (fun e => by cases e), fun k x hk => ⟨⟨blk, 0, none⟩, rfl, ?_, ?_⟩⟩, fun B hB => below_sortWorld _ _ _ _ _ _ _ hB (by have := HR.out.hblk; omega)⟩
  · have h1 : Below 0 w (sortWorld encF w blk 0 m d' os) := below_sortWorld _ _ _ _ _ _ _ (Nat.zero_le _) (Nat.zero_le _)
    exact Nat.lt_of_lt_of_le HR.out.hblk h1.size
  · rw [addr_zero_add]
    rw [← ho] at hk
    have hkl : k < d'.size := by
      have := (List.getElem?_eq_some_iff.1 hk).1
      simpa [ints] using this
    have h2 := (hh k hkl).1
    rw [Nat.zero_add] at h2
    rw [h2, getElem!_pos d' k hkl]
    have h3 : (ints (d'.toList.map Fin.val))[k]? = some ((d'[k]).val : Int) := by simp [ints, hkl]
    rw [h3] at hk
    injection hk with hk
    rw [← hk]; rfl
set_option maxHeartbeats 2000000 in
theorem order_any {f : Nat} {c : List Int → List Int → Int} (ef : ∀ args w, (callFunc f args).run Tryd.prog w = .ok (.enter f args) w) (hf : Cmps f c) {w : World} {g n : Nat} {r : Nat → List Int} (hO : SWO (fun x y : Nat => decide (c (r x) (r y) < 0)))
    (hr : RowsAt w g n r) (hn1 : 1 ≤ n) (hn : n ≤ 4096) :
    Calls Tryd.prog 16 #[.slice (some ⟨g, 0, none⟩) n n, .func (.func f) #[] #[]] w fun e w' => ∃ v, e = .returned v ∧ IsInts w' v (ints (ordOf (fun x y : Nat => decide (c (r x) (r y) < 0)) n)) ∧ Below w.heap.size w w' := by
  have HR := Lib.hid hr
  have HO := Lib.hid hO
  have HF := Lib.hid hf
  have HEF := Lib.hid ef
  clear hr hO hf ef
  obtain ⟨X, hX⟩ : ∃ X, X = ints (List.range n) := ⟨_, rfl⟩
  have HX := Lib.hid hX
  have HXL := Lib.hid (show X.length = n by rw [hX]; simp [ints])
  have HXK := Lib.hid (show ∀ k, k < n → X[k]? = some (k : Int) from fun k hk => by rw [hX]; simp [ints, hk])
  clear hX
  have hmk := run_make_list n (by omega)
  go_enter Tryd.func16, Tryd.ntmps16
  have b2 := ((Box.new w 43 #[.slice (some ⟨g, 0, none⟩) n n]).alloc (.cells #[.func (.func f) #[] #[]] 41)).alloc (.cells (madeCells #[.int .i64 0] n) 3)
  have b3 := (Box.new (w.alloc (.cells #[.slice (some ⟨g, 0, none⟩) n n] 43)) 41 #[.func (.func f) #[] #[]]).alloc (.cells (madeCells #[.int .i64 0] n) 3)
  have b4 := Row.made ((w.alloc (.cells #[.slice (some ⟨g, 0, none⟩) n n] 43)).alloc (.cells #[.func (.func f) #[] #[]] 41)) n
  have hbw := below_three w (.cells #[.slice (some ⟨g, 0, none⟩) n n] 43) (.cells #[.func (.func f) #[] #[]] 41) (.cells (madeCells #[.int .i64 0] n) 3)
  simp only [World.size_alloc] at b2 b3 b4
  rw [show List.replicate n (0 : Int) = FillTo X 0 by rw [fillTo_zero, HXL.out]] at b4
  go_wp2_with fail
  go_loopw [12] (fun s12 wr => ∃ k : Nat, k ≤ n ∧ s12 = .int .i64 k ∧ Box wr w.heap.size 43 #[.slice (some ⟨g, 0, none⟩) n n] ∧ Box wr (w.heap.size + 1) 41 #[.func (.func f) #[] #[]] ∧ Row wr (w.heap.size + 1 + 1) (FillTo X k) ∧ Below w.heap.size w wr) (fun s12 _ => n - (intOf s12).toNat)
  case atStart => exact ⟨0, Nat.zero_le _, rfl, b2, b3, b4, hbw⟩
  case round =>
    clear b2 b3 b4 hbw
    obtain ⟨k, hk, rfl, b2, b3, b4, hbw⟩ := hrel
    rcases Nat.lt_or_ge k n with hlt | hge
    · have hc := b4.at_ (k := k) (x := 0) (fillTo_at (by rw [HXL.out]; exact hlt))
      have hfr := Box.frozen b4 k
      have hbl := Box.lt b4
      have HS := Lib.hid (fillTo_set (HXK.out k hlt))
      go_wp2_with fail
      go_roundw
      case rel => exact ⟨k + 1, hlt, by go_num, b2.far (p := ⟨w.heap.size + 1 + 1, k, none⟩) (by simp; omega) _, b3.far (p := ⟨w.heap.size + 1 + 1, k, none⟩) (by simp) _, by rw [← HS.out]; exact b4.store k _, hbw.setCell (p := ⟨w.heap.size + 1 + 1, k, none⟩) (by simp; omega) _⟩
      case measure => simp [intOf]; omega
    · obtain rfl : k = n := by omega
      rw [show FillTo X k = X by have := fillTo_all X; rwa [HXL.out] at this, HX.out] at b4
      have hcmp : ∀ N, k = N + 1 → CmpLays1 Tryd.prog 27 #[.pointer (some ⟨w.heap.size + 1, 0, none⟩), .pointer (some ⟨w.heap.size, 0, none⟩)] (encF (N := N)) (fun x y => c (r x.val) (r y.val)) (w.heap.size + 1 + 1) 0 k wr := fun N hN m os dk hs x y => by
        have h1 := box_sortWorld (enc := encF (N := N)) (blk := w.heap.size + 1 + 1) (off := 0) (m := m) (dk := dk) (os := os) b2 (by omega)
        have h2 := box_sortWorld (enc := encF (N := N)) (blk := w.heap.size + 1 + 1) (off := 0) (m := m) (dk := dk) (os := os) b3 (by omega)
        have h3 : Below w.heap.size w (sortWorld (encF (N := N)) wr (w.heap.size + 1 + 1) 0 m dk os) := hbw.trans (below_sortWorld _ _ _ _ _ _ _ (by omega) hbw.size)
        refine (closure_any HEF.out HF.out h1 h2 (HR.out.below h3) (by have := x.isLt; omega) (by have := y.isLt; omega) hn).mono ?_
        rintro e w' ⟨rfl, q, rfl⟩
        exact ⟨rfl, q, #[], by rw [Go.Sort.grow_empty]⟩
      obtain ⟨N, hN⟩ : ∃ N, k = N + 1 := ⟨k - 1, by omega⟩
      have hO1 : SWO (fun x y : Nat => decide (c (r x) (r y) < 0)) := HO.out
      have HSL := Lib.hid (sort_lists hN (cf := fun x y : Fin (N + 1) => c (r x.val) (r y.val)) (lt := fun x y : Nat => decide (c (r x) (r y) < 0)) (fun x y => rfl) hO1
        ⟨fun x => hO1.irrefl x.val, fun x y z => hO1.trans x.val y.val z.val, fun x y z => hO1.ntrans x.val y.val z.val⟩ enters_closure b4 hn (hcmp N hN))
      clear hcmp hN hO1 b2 b3 b4
      go_wp2_with fail
      refine HSL.out.mono ?_
      rintro e w5 ⟨rfl, hi, hb5⟩
      have HI := Lib.hid hi
      have HB5 := Lib.hid (hb5 w.heap.size (by omega))
      clear hi hb5
      go_wp2_with fail
      go_ret
      exact ⟨_, rfl, HI.out, hbw.trans HB5.out⟩
end Go.Proofs.YtfaojciballhnaaDoor
