/- What the card TopTurned leans on: Concat. Conditions: none but those of its theorems. -/
import Derived.Lib.AppendZerosOnto
import Derived.Lib.SliceRun
import Derived.Test.YtihndbkaoejnnaaGreatDoorTurnedC
import Derived.Test.YtihndbkaoejnnaaGreatDoorTurnedG
set_option linter.unusedSimpArgs false
set_option linter.unusedVariables false
namespace Go.Proofs.YtihndbkaoejnnaaGreatDoor
open Go Go.RowKit Go.Proofs.YtihndbkaoejnnaaGreatDoor.P

/-- A list without cells, that has room or none. -/
def Roomy (w : World) (e : Ending) (w' : World) : Prop := ∃ A c, e = .returned (.slice A 0 c) ∧ Owns w' w.heap.size (.slice A 0 c) 0 [] ∧ Below w.heap.size w w'

set_option maxRecDepth 100000 in
theorem grow_none (w : World) : Calls Tryz.prog 212 #[.slice none 0 0, .int .i64 0] w (Roomy w) := by
  go_enter Tryz.func212, Tryz.ntmps212
  go_wp2_with fail
  go_ret
  exact ⟨none, 0, rfl, Owns.nil _ _, Below.refl _ _⟩

set_option maxRecDepth 100000 in
set_option maxHeartbeats 2000000 in
theorem grow_two (w : World) : Calls Tryz.prog 212 #[.slice none 0 0, .int .i64 2] w (Roomy w) := by
  have hG2 : 2 ≤ grownCap w 2 0 3 := grownCap_ge w _ _ _
  have hGm : grownCap w 2 0 3 ≤ maxLen := grownCap_le_maxLen w 2 0 3 (by unfold maxLen; omega)
  have HG2 := Lib.hid hG2
  have HGM := Lib.hid hGm
  clear hG2 hGm
  go_enter Tryz.func212, Tryz.ntmps212
  go_wp2_with fail
  go_ret
  refine ⟨some ⟨w.heap.size, 0, none⟩, grownCap w 2 0 3, rfl, ⟨⟨rfl, .inr ⟨w.heap.size, grownCap w 2 0 3, _, rfl, Nat.le_refl _, Box.new w.drew 3 _, Nat.zero_le _, HGM.out, ?_, rfl⟩⟩, by omega⟩, ?_⟩
  · have h2 := HG2.out
    unfold grownCap at h2 ⊢
    simp [Builtin.zeroCells, Value.cells] at h2 ⊢
    omega
  · exact ((Below.refl _ _).drew).alloc (Nat.le_refl _) _

set_option maxRecDepth 100000 in
set_option maxHeartbeats 2000000 in
theorem concat_two {w : World} {g n m c c' : Nat} {A A' : Option Addr} {xs ys : List Int} (hb : Box w g 23 #[.slice A n c, .slice A' m c']) (hx : IsInts w (.slice A n c) xs) (hy : IsInts w (.slice A' m c') ys) (hl : (n = 0 ∧ m = 0) ∨ (n = 1 ∧ m = 1)) :
    Calls Tryz.prog 168 #[.slice (some ⟨g, 0, none⟩) 2 2] w fun e w' => ∃ A c, e = .returned (.slice A (n + m) c) ∧ Owns w' w.heap.size (.slice A (n + m) c) (n + m) (xs ++ ys) ∧ Below w.heap.size w w' := by
  obtain ⟨A0, c0, e, x1, x2, x3, x5, x4⟩ := hx
  injection e with e1 e2 e3
  subst e1 e3
  have HXL := Lib.hid e2.symm
  obtain ⟨A0', c0', e, y1, y2, y3, y5, y4⟩ := hy
  injection e with e1' e2' e3'
  subst e1' e3'
  have HYL := Lib.hid e2'.symm
  have HX4 := Lib.hid (show Elems w A xs from x4)
  have HY4 := Lib.hid (show Elems w A' ys from y4)
  have HX5 := Lib.hid x5
  have HY5 := Lib.hid y5
  have HGR := Lib.hid (show ∀ W : World, Calls Tryz.prog 212 #[.slice none 0 0, .int .i64 ((n + m : Nat) : Int)] W (Roomy W) from fun W => by
    rcases hl with ⟨rfl, rfl⟩ | ⟨rfl, rfl⟩
    · exact grow_none W
    · exact grow_two W)
  have hn1 : n ≤ 1 := by omega
  have hm1 : m ≤ 1 := by omega
  have HB := Lib.hid hb
  have hgl := hb.lt
  clear x1 x2 x3 x4 x5 y1 y2 y3 y4 y5 e2 e2' hl hb
  go_enter Tryz.func168, Tryz.ntmps168
  go_wp2_with fail
  obtain ⟨q0, q1⟩ := HB.out.two
  go_loopw [3, 11] (fun s3 s11 wr => wr = w ∧ ((s3 = .int .i64 0 ∧ s11 = .int .i64 0) ∨ (s3 = .int .i64 n ∧ s11 = .int .i64 1) ∨ (s3 = .int .i64 ((n + m : Nat) : Int) ∧ s11 = .int .i64 2))) (fun _ s11 _ => (2 - intOf s11).toNat)
  case atStart => exact ⟨rfl, .inl ⟨rfl, rfl⟩⟩
  case round =>
    obtain ⟨rfl, hrel⟩ := hrel
    rcases hrel with ⟨rfl, rfl⟩ | ⟨rfl, rfl⟩ | ⟨rfl, rfl⟩
    · go_wp2_with fail
      go_roundw
      case rel => exact ⟨trivial, .inr (.inl ⟨by go_num, rfl⟩)⟩
      case measure => simp [intOf]
    · go_wp2_with fail
      go_roundw
      case rel => exact ⟨trivial, .inr (.inr ⟨by go_num, rfl⟩)⟩
      case measure => simp [intOf]
    · have HG := Lib.hid (HGR.out wr)
      obtain ⟨N, hN⟩ : ∃ N, N = n + m := ⟨_, rfl⟩
      have HNN := Lib.hid hN
      rw [← hN] at HG ⊢
      clear hN
      go_wp2_with fail
      refine HG.out.mono ?_
      rintro e w1 ⟨A1, c1, rfl, ho1, hb1⟩
      have HO1 := Lib.hid ho1
      have HB1 := Lib.hid hb1
      clear ho1 hb1 q0 q1
      go_wp2_with fail
      go_loopw [6, 27] (fun s6 s27 wy => ∃ A2 c2, Below wr.heap.size wr wy ∧ ((s6 = .slice A2 0 c2 ∧ s27 = .int .i64 0 ∧ Owns wy wr.heap.size (.slice A2 0 c2) 0 []) ∨ (s6 = .slice A2 n c2 ∧ s27 = .int .i64 1 ∧ Owns wy wr.heap.size (.slice A2 n c2) n xs) ∨ (s6 = .slice A2 (n + m) c2 ∧ s27 = .int .i64 2 ∧ Owns wy wr.heap.size (.slice A2 (n + m) c2) (n + m) (xs ++ ys)))) (fun _ s27 _ => (2 - intOf s27).toNat)
      case atStart => exact ⟨A1, c1, HB1.out, .inl ⟨rfl, rfl, HO1.out⟩⟩
      case round =>
        obtain ⟨A2, c2, hbl, hrel⟩ := hrel
        have HBL := Lib.hid hbl
        have hxb := HB.out.below hbl
        obtain ⟨q0, q1⟩ := hxb.two
        have ql := hxb.lt
        have hsz := hbl.size
        have EX := Lib.hid (Elems.mono HX4.out hbl)
        have EY := Lib.hid (Elems.mono HY4.out hbl)
        clear hbl hxb
        rcases hrel with ⟨rfl, rfl, ho⟩ | ⟨rfl, rfl, ho⟩ | ⟨rfl, rfl, ho⟩
        · have HO := Lib.hid ho
          clear ho
          go_wp2_with (at_builtin; refine wpList_append_ints _ rfl rfl _ _ rfl _ 0 _ [] rfl HO.out A n c xs rfl HX5.out EX.out HXL.out (by omega) hsz ?_; intro A3 c3 w3 hown3 hgrow hat)
          have hb3 := below_grown HBL.out HO.out hgrow
          have HO3 := Lib.hid hown3
          have HB3 := Lib.hid hb3
          clear hown3 hgrow hat hb3
          go_wp2_with fail
          go_roundw
          case rel => exact ⟨A3, c3, HB3.out, .inr (.inl ⟨by first | rfl | simp, rfl, by simpa using HO3.out⟩)⟩
          case measure => simp [intOf]
        · have HO := Lib.hid ho
          clear ho
          go_wp2_with (at_builtin; refine wpList_append_ints _ rfl rfl _ _ rfl _ n _ xs rfl HO.out A' m c' ys rfl HY5.out EY.out HYL.out (by omega) hsz ?_; intro A3 c3 w3 hown3 hgrow hat)
          have hb3 := below_grown HBL.out HO.out hgrow
          have HO3 := Lib.hid hown3
          have HB3 := Lib.hid hb3
          clear hown3 hgrow hat hb3
          go_wp2_with fail
          go_roundw
          case rel => exact ⟨A3, c3, HB3.out, .inr (.inr ⟨rfl, rfl, HO3.out⟩)⟩
          case measure => simp [intOf]
        · have HO := Lib.hid ho
          clear ho
          go_wp2_with fail
          go_ret
          exact ⟨A2, c2, rfl, HO.out, HBL.out⟩

end Go.Proofs.YtihndbkaoejnnaaGreatDoor
