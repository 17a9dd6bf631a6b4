/- The walks of the references' Coords, Where and copied. Conditions: none but these. -/
import Derived.Test.YtojeggeimnenbaaDoorRefLow
import Derived.Test.YtojeggeimnenbaaDoorGround
set_option linter.unusedSimpArgs false
set_option linter.unusedVariables false
namespace Go.Proofs.YtojeggeimnenbaaDoor.P
theorem ints_set (s : List Nat) (k x : Nat) : (ints s).set k (x : Int) = ints (s.set k x) := by unfold ints; rw [List.map_set]
theorem ints_replicate (n : Nat) : List.replicate n (0 : Int) = ints (List.replicate n 0) := by simp [ints]
end Go.Proofs.YtojeggeimnenbaaDoor.P
namespace Go.Proofs.YtojeggeimnenbaaDoor
open Go Go.RowKit Go.Proofs.YtojeggeimnenbaaDoor.P

set_option maxHeartbeats 2000000 in
/-- The references' Coords: a list of its own. -/
theorem coords_ok (v : Value) (t : List Nat) (p : Nat) (w : World) (ha : IsInts w v (ints t)) (h6 : t.length ≤ 6) (h4 : ∀ n ∈ t, n ≤ 4096) (hp : p < prod t) (hp4 : p ≤ 4096) :
    Calls Tryd.prog 28 #[v, .int .i64 p] w fun e w' => ∃ g, e = .returned (.slice (some ⟨g, 0, none⟩) t.length t.length) ∧ w.heap.size ≤ g ∧ Row w' g (ints (coords t p)) ∧ Below w.heap.size w w' := by
  obtain ⟨A, ca, rfl, a1, a2, a3, _, a4⟩ := ha
  have hA := Lib.hid (show Elems w A (ints t) from a4)
  have HP := Lib.hid hp
  have H4 := Lib.hid h4
  rw [length_ints] at *
  clear a4 hp h4
  have hmk := run_make_list t.length (by omega)
  have hrow := Row.made w t.length
  rw [ints_replicate] at hrow
  have hb0 := below_one w (.cells (madeCells #[.int .i64 0] t.length) 3)
  have HR := Lib.hid hrow
  have HB := Lib.hid hb0
  clear hrow hb0
  go_enter Tryd.func28, Tryd.ntmps28
  go_wp2_with fail
  clear hmk
  go_loopw [6] (fun s wr => ∃ (i : Nat) (b : List Nat), i ≤ p ∧ s = .int .i64 i ∧ AtCell t i b ∧ Row wr w.heap.size (ints b) ∧ Below w.heap.size w wr) (fun s _ => p - (intOf s).toNat)
  case atStart => exact ⟨0, _, Nat.zero_le _, rfl, AtCell.zero t, HR.out, HB.out⟩
  case round =>
    obtain ⟨i, b, hi, rfl, hat, hr, hbl⟩ := hrel
    rcases Nat.lt_or_ge i p with hlt | hge
    · have HIT := Lib.hid (show i < prod t from Nat.lt_trans hlt HP.out)
      have HBC := Lib.hid (hat.2 HIT.out)
      have HRR := Lib.hid hr
      have HBL := Lib.hid hbl
      have HAT := Lib.hid hat
      clear hat hr hbl
      go_wp2_with fail
      obtain ⟨wo, rfl⟩ : ∃ wo : World, wo = wr := ⟨_, rfl⟩
      go_loopw [7] (fun s wx => ∃ (k : Nat) (mm : Int) (b' : List Nat), (k : Int) = mm + 1 ∧ k ≤ t.length ∧ s = .int .i64 mm ∧ Odo t (coords t i) k b' ∧ Row wx w.heap.size (ints b') ∧ Below w.heap.size w wx) (fun s _ => (intOf s + 1).toNat)
      case atStart => exact ⟨t.length, _, b, by omega, Nat.le_refl _, rfl, by rw [HBC.out]; exact Odo.start (coords_inside HIT.out), HRR.out, HBL.out⟩
      case round =>
        obtain ⟨k, mm, b', hkm, hk, rfl, ho, hr, hbl⟩ := hrel
        have hcin := coords_inside HIT.out
        have hbl' := ho.length hcin hk
        rcases k with _ | k
        case succ =>
          obtain rfl : mm = k := by omega
          have hget := ho.get hcin (by omega)
          have hc1 := hr.at_ (show (ints b')[k]? = some (((coords t i).getD k 0 : Nat) : Int) by rw [getElem?_ints, hget]; rfl)
          have hclt := coords_lt HIT.out (show k < t.length by omega)
          obtain ⟨ae, y, rfl, hy, hae, hcy⟩ := Elems.later hA.out hbl (k := k) (by rw [length_ints]; omega)
          obtain ⟨rfl, -⟩ := ints_getD hy
          obtain ⟨X, hX⟩ : ∃ X, X = (coords t i).getD k 0 := ⟨_, rfl⟩
          obtain ⟨Y, hY⟩ : ∃ Y, Y = t.getD k 0 := ⟨_, rfl⟩
          have hY4 : Y ≤ 4096 := by
            rw [hY, getD_lt (by omega)]
            exact H4.out _ (List.getElem_mem _)
          rw [← hX] at hc1 hclt
          rw [← hY] at hcy hclt
          have hfz := Box.frozen hr k
          have hlt2 := Box.lt hr
          have h6' : k < 6 := by omega
          have hkl : k < t.length := by omega
          have hs0 := hr.store k ((0 : Nat) : Int)
          have hs1 := hr.store k ((X + 1 : Nat) : Int)
          rw [ints_set] at hs0 hs1
          have HX' := Lib.hid hX
          have HY' := Lib.hid hY
          have HO' := Lib.hid ho
          have HS0 := Lib.hid hs0
          have HS1 := Lib.hid hs1
          have HBX := Lib.hid hbl
          have hcast : ((X + 1 : Nat) : Int) = (X : Int) + 1 := by simp
          rw [hcast] at HS1
          clear hy hget hX hY ho hcin hkm hbl' hcast hs0 hs1 hr hbl
          rcases Nat.lt_or_ge (X + 1) Y with hxy | hxy
          · have hd : ((X : Int) == (Y : Int) - 1) = false := by rw [beq_eq_false_iff_ne]; omega
            have hd2 : ¬ ((X : Int) = (Y : Int) - 1) := by omega
            go_wp2_with fail
            go_quiet (fail)
            all_goals go_wp2_with fail
            go_roundw
            case rel => exact ⟨i + 1, b'.set k (X + 1), by omega, by go_num, by rw [HX'.out]; exact AtCell.next HIT.out (by omega) HO'.out (by rw [← HX'.out, ← HY'.out]; exact hxy), HS1.out, by first | exact (HBX.out.setCell (p := ⟨w.heap.size, k, none⟩) (by simp) _).trans (below_draws _ _ _) | exact (HBX.out.trans (below_draws _ _ _)).setCell (p := ⟨w.heap.size, k, none⟩) (by simp) _⟩
            case measure => simp [intOf]; omega
          · have hd : ((X : Int) == (Y : Int) - 1) = true := by rw [beq_iff_eq]; omega
            have hd2 : (X : Int) = (Y : Int) - 1 := by omega
            go_wp2_with fail
            go_quiet (fail)
            all_goals go_wp2_with fail
            go_roundw
            case rel => exact ⟨k, (k : Int) - 1, b'.set k 0, by omega, by omega, rfl, HO'.out.step (coords_inside HIT.out) (by omega) (by rw [← HX'.out, ← HY'.out]; exact hxy), HS0.out, by first | exact (HBX.out.setCell (p := ⟨w.heap.size, k, none⟩) (by simp) _).trans (below_draws _ _ _) | exact (HBX.out.trans (below_draws _ _ _)).setCell (p := ⟨w.heap.size, k, none⟩) (by simp) _⟩
            case measure => simp [intOf]
        · obtain rfl : mm = -1 := by omega
          have HO' := Lib.hid ho
          have HRX := Lib.hid hr
          have HBX := Lib.hid hbl
          clear ho hkm hcin hbl' hr hbl
          go_wp2_with fail
          go_quiet (fail)
          all_goals go_wp2_with fail
          go_roundw
          case rel => exact ⟨i + 1, b', by omega, by go_num, AtCell.last HIT.out HO'.out, HRX.out, by first | exact HBX.out | exact HBX.out.trans (below_draws _ _ _)⟩
          case measure => simp [intOf]; omega
    · have hpe : i = p := by omega
      subst hpe
      have hb := hat.2 HP.out
      rw [hb] at hr
      have HRX := Lib.hid hr
      have HBX := Lib.hid hbl
      clear hat hr hb hbl
      go_wp2_with fail
      go_ret
      exact ⟨_, rfl, Nat.le_refl _, HRX.out, HBX.out⟩

set_option maxHeartbeats 1000000 in
theorem where_ok (vs va : Value) (t ix : List Nat) (w : World) (hs : IsInts w vs (ints t)) (ha : IsInts w va (ints ix)) (hi : Inside t ix) (h6 : t.length ≤ 6) (h4 : prod t ≤ 4096) :
    Calls Tryd.prog 52 #[vs, va] w fun e w' => e = .returned (.int .i64 (place t ix)) ∧ w = w' := by
  obtain ⟨A, ca, rfl, a1, a2, a3, _, a4⟩ := hs
  obtain ⟨B, cb, rfl, b1, b2, b3, _, b4⟩ := ha
  have hA := Lib.hid (show Elems w A (ints t) from a4)
  have hB := Lib.hid (show Elems w B (ints ix) from b4)
  have hl := inside_length hi
  have HI := Lib.hid hi
  have HL := Lib.hid hl
  have HP0 := Lib.hid (show prod t ≠ 0 by have := place_lt hi; omega)
  simp only [length_ints] at a1 a2 a3 b1 b2 b3 ⊢
  clear a4 b4 hi hl
  go_enter Tryd.func52, Tryd.ntmps52
  go_wp2_with fail
  go_loop [5, 6, 7] (fun sp ss sk => ∃ (k : Nat) (mm : Int), (k : Int) = mm + 1 ∧ k ≤ t.length ∧ sk = .int .i64 mm ∧ sp = .int .i64 (place (t.drop k) (ix.drop k) : Nat) ∧ ss = .int .i64 (prod (t.drop k) : Nat)) (fun _ _ sk => (intOf sk + 1).toNat)
  case atStart => exact ⟨t.length, _, by omega, Nat.le_refl _, rfl, by rw [List.drop_length, List.drop_of_length_le (by rw [HL.out]; exact Nat.le_refl _)]; rfl, by rw [List.drop_length]; rfl⟩
  case round =>
    obtain ⟨k, mm, hkm, hk, rfl, rfl, rfl⟩ := hrel
    rcases k with _ | k
    case succ =>
      obtain rfl : mm = k := by omega
      have hkl : k < t.length := by omega
      obtain ⟨ax, x, rfl, hx, hax, hcx⟩ := Elems.at_ hB.out (k := k) (by rw [length_ints, HL.out]; exact hkl)
      obtain ⟨rfl, -⟩ := ints_getD hx
      obtain ⟨ay, y, rfl, hy, hay, hcy⟩ := Elems.at_ hA.out (k := k) (by rw [length_ints]; exact hkl)
      obtain ⟨rfl, -⟩ := ints_getD hy
      have e1 := place_drop (t := t) (ix := ix) hkl HL.out
      have e2 := prod_drop (t := t) hkl
      have hlt := place_lt (inside_drop k HI.out)
      have hle := Nat.le_trans (prod_drop_le HP0.out k) h4
      have hle2 := Nat.le_trans (prod_drop_le HP0.out (k + 1)) h4
      have hlix : k < ix.length := by rw [HL.out]; exact hkl
      obtain ⟨X, hX⟩ : ∃ X, X = ix.getD k 0 := ⟨_, rfl⟩
      obtain ⟨Y, hY⟩ : ∃ Y, Y = t.getD k 0 := ⟨_, rfl⟩
      obtain ⟨Q, hQ⟩ : ∃ Q, Q = prod (t.drop (k + 1)) := ⟨_, rfl⟩
      obtain ⟨R, hR⟩ : ∃ R, R = place (t.drop (k + 1)) (ix.drop (k + 1)) := ⟨_, rfl⟩
      obtain ⟨P1, hP1⟩ : ∃ P1, P1 = place (t.drop k) (ix.drop k) := ⟨_, rfl⟩
      obtain ⟨Q1, hQ1⟩ : ∃ Q1, Q1 = prod (t.drop k) := ⟨_, rfl⟩
      rw [← hX] at hcx e1
      rw [← hY] at hcy e2
      rw [← hQ] at e1 e2 hle2 ⊢
      rw [← hR] at e1 ⊢
      rw [← hP1] at e1 hlt
      rw [← hQ1] at e2 hlt hle
      have p1 : (X : Int) * (Q : Int) = ((X * Q : Nat) : Int) := by simp
      have p2 : (Q : Int) * (Y : Int) = ((Q1 : Nat) : Int) := by rw [e2, Nat.mul_comm]; simp
      obtain ⟨Z, hZ⟩ : ∃ Z, Z = X * Q := ⟨_, rfl⟩
      rw [← hZ] at p1 e1
      have hZ4 : Z ≤ 4096 := by omega
      have hR4 : R ≤ 4096 := by omega
      have HE1 := Lib.hid e1
      have HP1 := Lib.hid hP1
      have HQ1 := Lib.hid hQ1
      have hsum : R + Z ≤ 4096 := by omega
      clear hx hy e1 e2 hlt hX hY hQ hR hP1 hQ1 hZ hkm
      go_wp2_with fail
      go_round
      case rel => exact ⟨k, (k : Int) - 1, by omega, by omega, rfl, by rw [← HP1.out, HE1.out, Nat.add_comm]; go_num, by rw [← HQ1.out]⟩
      case measure => simp [intOf]
    · obtain rfl : mm = -1 := by omega
      go_wp2_with fail
      go_ret
      exact ⟨rfl, rfl⟩

end Go.Proofs.YtojeggeimnenbaaDoor
