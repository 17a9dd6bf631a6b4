/- The walk of grade's cut: an array as rows. Conditions: none but these. -/
import Derived.Test.YtfaojciballhnaaDoorGradeOrd
import Derived.Test.YtfaojciballhnaaDoorCount
set_option linter.unusedSimpArgs false
set_option linter.unusedVariables false
namespace Go.Proofs.YtfaojciballhnaaDoor
open Go Go.RowKit Go.Proofs.YtfaojciballhnaaDoor.P
/-- Row i of cells, long cells each. -/
def rowOf (d : List Int) (L i : Nat) : List Int := (d.drop (i * L)).take L
theorem rowOf_length {d : List Int} {L n i : Nat} (h : d.length = n * L) (hi : i < n) : (rowOf d L i).length = L := by
  unfold rowOf
  have : (i + 1) * L ≤ n * L := Nat.mul_le_mul_right L hi
  rw [Nat.add_mul, Nat.one_mul] at this
  rw [List.length_take, List.length_drop]; omega
theorem rows_info : ∃ i, Tryd.prog.info? 22 = some i ∧ i.zero = some (.slice none 0 0) ∧ i.size = 1 ∧ i.bytes = 24 := by
  have h : (Tryd.prog.info? 22).map (fun i => (i.zero, i.size, i.bytes)) = some (some (.slice none 0 0), 1, 24) := by kernel_rfl
  exact info_parts h
theorem run_make_rows (n : Nat) (hn : n ≤ 4096) (w : World) :
    (Instr.makeSlice 43 (.int .i64 n) (.int .i64 n)).run Tryd.prog w = .ok (.slice (some ⟨w.heap.size, 0, none⟩) n n) (w.alloc (.cells (madeCells #[.slice none 0 0] n) 22)) := by
  obtain ⟨i0, hi, hz0, hz1, hz2⟩ := rows_info
  have hr := run_make (P := Tryd.prog) w 43 22 i0 (.slice none 0 0) Tryd.underlying43 hi hz0 .i64 .i64 n n (by omega) (by omega) (by rw [hz2]; omega) (by omega)
  rw [hz1] at hr
  simp only [Int.toNat_natCast, Nat.mul_one] at hr
  exact hr
set_option maxHeartbeats 1000000 in
theorem cut_bad {v : Value} {a : Arr} {w : World} (ha : IsArr w v a) (h : arrErr a ≠ 0) :
    Calls Tryd.prog 15 #[v] w fun e w' => e = .returned (.tuple #[.slice none 0 0, .iface 25 (.int .i64 (arrErr a))]) ∧ Below w.heap.size w w' := by
  obtain ⟨A, ca, D, cd, rfl, hs, hd⟩ := ha.open_
  have HA := Lib.hid (check_bad (ha.mono (below_one w (.cells #[.bool a.ch, .slice A a.sh.length ca, .slice D a.da.length cd] 24))) h)
  obtain ⟨x, hx⟩ : ∃ x, x = arrErr a := ⟨_, rfl⟩
  rw [← hx] at HA ⊢
  clear ha hs hd h hx
  go_enter Tryd.func15, Tryd.ntmps15
  have b0 := Box.new w 24 #[.bool a.ch, .slice A a.sh.length ca, .slice D a.da.length cd]
  have hb0 := below_one w (.cells #[.bool a.ch, .slice A a.sh.length ca, .slice D a.da.length cd] 24)
  obtain ⟨t0, t1, t2⟩ := b0.three
  go_wp2_with fail
  refine HA.out.mono ?_
  rintro e w1 ⟨rfl, hb1⟩
  have hbw := hb0.trans (hb1.mono hb0.size)
  clear hb1 hb0 t0 t1 t2 b0
  go_wp2_with fail
  refine bodyPost_ret (v := .tuple #[.slice none 0 0, .iface 25 (.int .i64 x)]) (by simp [results, Tryd.results15, go_sem]) rfl ?_
  exact ⟨rfl, hbw⟩
set_option maxHeartbeats 1000000 in
theorem cut_rank {v : Value} {a : Arr} {w : World} (ha : IsArr w v a) (ht : Ok a []) :
    Calls Tryd.prog 15 #[v] w fun e w' => e = .returned (.tuple #[.slice none 0 0, .iface 25 (.int .i64 3)]) ∧ Below w.heap.size w w' := by
  obtain ⟨A, ca, D, cd, rfl, hs, hd⟩ := ha.open_
  have HA := Lib.hid (check_ok (ha.mono (below_one w (.cells #[.bool a.ch, .slice A a.sh.length ca, .slice D a.da.length cd] 24))) ht)
  have hl : a.sh.length = 0 := by rw [ht.sh]; rfl
  rw [hl] at HA ⊢
  clear ha hs hd ht hl
  go_enter Tryd.func15, Tryd.ntmps15
  have b0 := Box.new w 24 #[.bool a.ch, .slice A 0 ca, .slice D a.da.length cd]
  have hb0 := below_one w (.cells #[.bool a.ch, .slice A 0 ca, .slice D a.da.length cd] 24)
  obtain ⟨t0, t1, t2⟩ := b0.three
  go_wp2_with fail
  refine HA.out.mono ?_
  rintro e w1 ⟨rfl, hb1⟩
  have hbw := hb0.trans (hb1.mono hb0.size)
  have b1 := b0.below hb1
  clear hb1 hb0 t0 t1 t2 b0
  obtain ⟨t0, t1, t2⟩ := b1.three
  go_wp2_with fail
  refine bodyPost_ret (v := .tuple #[.slice none 0 0, .iface 25 (.int .i64 3)]) (by simp [results, Tryd.results15, go_sem]) rfl ?_
  exact ⟨rfl, hbw⟩
/-- A piece of a list. -/
theorem Elems.piece {w : World} {A : Option Addr} {xs : List Int} (h : Elems w A xs) (k : Nat) : Elems w (A.map fun a => a.add k) (xs.drop k) := fun j x hj => by
  rw [List.getElem?_drop] at hj
  obtain ⟨ad, e, h1, h2⟩ := h _ _ hj
  subst e
  refine ⟨_, rfl, by rw [addr_block_add]; exact h1, ?_⟩
  rw [← h2]
  congr 1
  unfold Addr.add
  cases ad with
  | mk b o s => cases s <;> (by_cases e1 : k = 0 <;> by_cases e2 : j = 0 <;> simp_all [Nat.add_assoc])
theorem Elems.first {w : World} {A : Option Addr} {xs : List Int} (h : Elems w A xs) (k : Nat) : Elems w A (xs.take k) := fun j x hj => by
  rw [List.getElem?_take] at hj
  split at hj
  · exact h j x hj
  · cases hj
theorem addr_add_zero (a : Addr) : a.add 0 = a := by unfold Addr.add; rw [if_pos rfl]
/-- The rows as far as i: the lists as they lay in w0. -/
def RowsTo (w0 w : World) (g n i : Nat) (r : Nat → List Int) : Prop := ∃ cs : Array Value, Box w g 22 cs ∧ cs.size = n ∧ ∀ j, j < i → ∃ A c, cs[j]? = some (.slice A (r j).length c) ∧ IsInts w0 (.slice A (r j).length c) (r j)
theorem RowsTo.all {w0 w : World} {g n : Nat} {r : Nat → List Int} (h : RowsTo w0 w g n n r) (hb : Below w0.heap.size w0 w) : RowsAt w g n r := by
  obtain ⟨cs, h1, -, h2⟩ := h
  exact ⟨cs, h1, fun i hi => by obtain ⟨A, c, h3, h4⟩ := h2 i hi; exact ⟨A, c, h3, h4.mono hb⟩⟩
theorem RowsTo.made (w0 w : World) (n : Nat) (r : Nat → List Int) : RowsTo w0 (w.alloc (.cells (madeCells #[.slice none 0 0] n) 22)) w.heap.size n 0 r :=
  ⟨_, Box.new _ _ _, by simp [madeCells], fun j h => absurd h (Nat.not_lt_zero _)⟩
theorem RowsTo.cell {w0 w : World} {g n i : Nat} {r : Nat → List Int} (h : RowsTo w0 w g n i r) {k : Nat} (hk : k < n) : (∃ u, w.cell? ⟨g, k, none⟩ = some u) ∧ w.frozen? ⟨g, k, none⟩ = false ∧ g < w.heap.size := by
  obtain ⟨cs, h1, h0, -⟩ := h
  exact ⟨⟨cs[k]'(by omega), by rw [h1.cell]; exact Array.getElem?_eq_getElem (by omega)⟩, h1.frozen k, h1.lt⟩
theorem RowsTo.store {w0 w : World} {g n i : Nat} {r : Nat → List Int} (h : RowsTo w0 w g n i r) (hi : i < n) {v : Value} {A : Option Addr} {c : Nat} (hv : v = .slice A (r i).length c) (h0 : IsInts w0 (.slice A (r i).length c) (r i)) :
    RowsTo w0 (w.setCell ⟨g, i, none⟩ v) g n (i + 1) r := by
  obtain ⟨cs, h1, hz, h2⟩ := h
  refine ⟨_, h1.store i v, by simp [hz], fun j hj => ?_⟩
  rw [Array.getElem?_setIfInBounds]
  by_cases e : i = j
  · subst e
    rw [if_pos rfl, if_pos (by omega)]
    exact ⟨A, c, by rw [hv], h0⟩
  · rw [if_neg e]; exact h2 j (by omega)
theorem row_piece {w : World} {D : Option Addr} {cd L i n : Nat} {d : List Int} (h : IsInts w (.slice D d.length cd) d) (hl : d.length = n * L) (hi : i < n) :
    IsInts w (.slice (if cd = i * L then D else D.map fun a => a.add (i * L)) (rowOf d L i).length (cd - i * L)) (rowOf d L i) := by
  obtain ⟨A, c, e, h1, h2, h3, h4, h5⟩ := h
  injection e with e1 _ e3
  subst e1 e3
  have hle : (i + 1) * L ≤ n * L := Nat.mul_le_mul_right L hi
  rw [Nat.add_mul, Nat.one_mul] at hle
  have hz := rowOf_length hl hi
  refine ⟨_, _, rfl, by rw [hz]; omega, by omega, by rw [hz]; omega, fun e => ?_, ?_⟩
  · have : D = none := by
      split at e
      · exact e
      · simpa using e
    have := h4 this
    omega
  · by_cases hc : cd = i * L
    · rw [if_pos hc]
      intro k x hk
      have : (rowOf d L i).length = 0 := by rw [hz]; omega
      have := (List.getElem?_eq_some_iff.1 hk).1
      omega
    · rw [if_neg hc]
      exact Elems.first (Elems.piece h5 (i * L)) L
set_option maxHeartbeats 4000000 in
theorem cut_ok {v : Value} {a : Arr} {w : World} {n : Nat} {t : List Nat} (ha : IsArr w v a) (ht : Ok a (n :: t)) (hn : 1 ≤ n) :
    Calls Tryd.prog 15 #[v] w fun e w' => ∃ g, e = .returned (.tuple #[.slice (some ⟨g, 0, none⟩) n n, .nilIface]) ∧ RowsAt w' g n (rowOf a.da (prod t)) ∧ Below w.heap.size w w' := by
  obtain ⟨A, ca, D, cd, rfl, hs, hd⟩ := ha.open_
  have hdl : a.da.length = n * prod t := by rw [ht.len]; rfl
  have hn4 : n ≤ 4096 := ht.good.2.1 n (by simp)
  have hp4 : n * prod t ≤ 4096 := ht.good.2.2
  obtain ⟨as_, x, hax, hx, hasl, hcx⟩ := Elems.at_ (xs := a.sh) (k := 0) (by obtain ⟨_, _, e, _, _, _, _, h9⟩ := hs; injection e with e1 _ _; subst e1; exact h9) (by rw [ht.sh]; simp [ints])
  subst hax
  obtain rfl : x = (n : Int) := by rw [ht.sh] at hx; simpa [ints] using hx.symm
  rw [addr_add_zero] at hcx
  have HA := Lib.hid (check_ok (ha.mono (below_one w (.cells #[.bool a.ch, .slice (some as_) a.sh.length ca, .slice D a.da.length cd] 24))) ht)
  have hsl : a.sh.length = t.length + 1 := by rw [ht.sh]; simp [ints]
  have HD := Lib.hid hd
  have HDL := Lib.hid hdl
  obtain ⟨L, hL⟩ : ∃ L, L = prod t := ⟨_, rfl⟩
  rw [← hL] at hdl hp4 HDL ⊢
  have hmk := run_make_rows n hn4
  have hsz : decide ((a.sh.length : Int) = 0) = false := decide_eq_false (by omega)
  have hsz2 : ((a.sh.length : Int) == 0) = false := by rw [beq_eq_false_iff_ne]; omega
  have hnz : ((n : Int) == 0) = false := by rw [beq_eq_false_iff_ne]; omega
  have hnz2 : ¬ (n : Int) = 0 := by omega
  have hsl1 : 1 ≤ a.sh.length := by rw [hsl]; omega
  have hq : Int.tdiv (a.da.length : Int) (n : Int) = (L : Int) := by
    rw [hdl, show ((n * L : Nat) : Int) = (n : Int) * (L : Int) by push_cast; rfl, Int.mul_tdiv_cancel_left _ (by omega)]
  have hwL : IntKind.i64.wrap (L : Int) = (L : Int) := IntWalk.i64_in _ (by
    have : L ≤ 4096 := Nat.le_trans (Nat.le_mul_of_pos_left L hn) hp4
    omega)
  have hac : a.da.length ≤ cd := by obtain ⟨_, _, e, h1, -⟩ := hd; injection e with _ _ e3; omega
  have hcd : cd ≤ 9223372036854775807 := by obtain ⟨_, _, e, h1, h2, -⟩ := hd; injection e with _ _ e3; omega
  have HP4 := Lib.hid hp4
  clear ha hs hd ht hx hL hdl hsl hp4
  go_enter Tryd.func15, Tryd.ntmps15
  have b0 := Box.new w 24 #[.bool a.ch, .slice (some as_) a.sh.length ca, .slice D a.da.length cd]
  have hb0 := below_one w (.cells #[.bool a.ch, .slice (some as_) a.sh.length ca, .slice D a.da.length cd] 24)
  obtain ⟨t0, t1, t2⟩ := b0.three
  go_wp2_with fail
  refine HA.out.mono ?_
  rintro e w1 ⟨rfl, hb1⟩
  have hbw := hb0.trans (hb1.mono hb0.size)
  have b1 := b0.below hb1
  have hc1 : w1.cell? as_ = some (.int .i64 (n : Int)) := (hbw.cell hasl).trans hcx
  clear hb1 hb0 t0 t1 t2 b0 hcx
  obtain ⟨t0, t1, t2⟩ := b1.three
  have b2 := b1.alloc (.cells (madeCells #[.slice none 0 0] n) 22)
  have hR := RowsTo.made w w1 n (rowOf a.da L)
  have hbw2 := hbw.alloc hbw.size (.cells (madeCells #[.slice none 0 0] n) 22)
  have hg0 := b1.lt
  obtain ⟨s0, s1, s2⟩ := b2.three
  go_wp2_with fail
  clear s0 s1 s2 t0 t1 t2 b1 hq hmk hc1
  obtain ⟨w2, hw2⟩ : ∃ w2, w2 = w1.alloc (.cells (madeCells #[.slice none 0 0] n) 22) := ⟨_, rfl⟩
  obtain ⟨g, hg⟩ : ∃ g, g = w1.heap.size := ⟨_, rfl⟩
  rw [← hw2] at b2 hR hbw2 ⊢
  rw [← hg] at hR hg0 ⊢
  clear hw2 hg
  go_loopw [35] (fun s35 wr => ∃ i : Nat, i ≤ n ∧ s35 = .int .i64 i ∧ Box wr w.heap.size 24 #[.bool a.ch, .slice (some as_) a.sh.length ca, .slice D a.da.length cd] ∧ RowsTo w wr g n i (rowOf a.da L) ∧ Below w.heap.size w wr) (fun s35 _ => n - (intOf s35).toNat)
  case atStart => exact ⟨0, Nat.zero_le _, rfl, b2, hR, hbw2⟩
  case round =>
    clear b2 hR hbw2
    obtain ⟨i, hi, rfl, b, hR, hbw⟩ := hrel
    rcases Nat.lt_or_ge i n with hlt | hge
    · obtain ⟨t0, t1, t2⟩ := b.three
      obtain ⟨⟨u, hcu⟩, hfu, hlu⟩ := hR.cell hlt
      obtain ⟨lo, hlo⟩ : ∃ lo, lo = i * L := ⟨_, rfl⟩
      have HLO := Lib.hid hlo
      have elo : (i : Int) * (L : Int) = (lo : Int) := by rw [hlo]; push_cast; rfl
      have ehi : ((i : Int) + 1) * (L : Int) = (lo : Int) + (L : Int) := by rw [hlo, Int.add_mul, Int.one_mul]; push_cast; rfl
      have hle : lo + L ≤ a.da.length := by
        rw [HDL.out, hlo]
        have := Nat.mul_le_mul_right L (show i + 1 ≤ n from hlt)
        rwa [Nat.add_mul, Nat.one_mul] at this
      have hd4 : a.da.length ≤ 4096 := by rw [HDL.out]; exact HP4.out
      have wi : IntKind.i64.wrap ((i : Int) + 1) = (i : Int) + 1 := IntWalk.i64_in _ (by omega)
      have wlo : IntKind.i64.wrap (lo : Int) = (lo : Int) := IntWalk.i64_in _ (by omega)
      have whi : IntKind.i64.wrap ((lo : Int) + (L : Int)) = (lo : Int) + (L : Int) := IntWalk.i64_in _ (by omega)
      have hloL : ((lo : Int) + (L : Int)).toNat = lo + L := by omega
      have hlc : (lo : Int) + (L : Int) ≤ (cd : Int) := by omega
      have hlc2 : lo ≤ lo + L := Nat.le_add_right _ _
      have HRP := Lib.hid (show IsInts w (.slice (if cd = lo then D else D.map fun a => a.add lo) (rowOf a.da L i).length (cd - lo)) (rowOf a.da L i) by rw [hlo]; exact row_piece HD.out HDL.out hlt)
      have HRL := Lib.hid (rowOf_length HDL.out hlt)
      clear hlo hle
      go_wp2_with fail
      go_roundw
      case rel => exact ⟨i + 1, hlt, by go_num, b.far (p := ⟨g, i, none⟩) (by simp; omega) _, hR.store hlt (by rw [HRL.out]) HRP.out, hbw.setCell (p := ⟨g, i, none⟩) (by simp; omega) _⟩
      case measure => simp [intOf]; omega
    · obtain rfl : i = n := by omega
      go_wp2_with fail
      refine bodyPost_ret (v := .tuple #[.slice (some ⟨g, 0, none⟩) i i, .nilIface]) (by simp [results, Tryd.results15, go_sem]) rfl ?_
      exact ⟨g, rfl, hR.all hbw, hbw⟩
end Go.Proofs.YtfaojciballhnaaDoor
