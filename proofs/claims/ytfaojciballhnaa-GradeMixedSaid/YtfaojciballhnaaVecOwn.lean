/- ravelinref1.Vector: what it tells lies in new blocks. Conditions: none. -/
import Derived.Test.YtfaojciballhnaaMake
import Derived.Test.YtfaojciballhnaaList
set_option linter.unusedSimpArgs false
set_option linter.unusedVariables false
namespace Go.Proofs.Ytfaojciballhnaa
open Go Go.RowKit Go.Proofs.Ytfaojciballhnaa.P
set_option maxHeartbeats 1000000 in
theorem vector_own (ch : Bool) (v : Value) (xs : List Int) (w : World) (ha : IsInts w v xs) :
    Calls Try.prog 13 #[.bool ch, v] w fun e w' => ∃ S cs D cd, e = .returned (.agg #[.bool ch, .slice S 1 cs, .slice D xs.length cd]) ∧ Owns w' w.heap.size (.slice S 1 cs) 1 [(xs.length : Int)] ∧ Owns w' w.heap.size (.slice D xs.length cd) xs.length xs ∧ Below w.heap.size w w' := by
  obtain ⟨X, c, rfl, a1, a2, a3, a0, a4⟩ := ha
  have h4 := Lib.hid a4
  clear a4 a0
  go_enter Try.func13, Try.ntmps13
  go_wp2
  go_loopw [6] (fun i wr => ∃ (k : Nat) (A : Option Addr) (c' : Nat), k ≤ xs.length ∧ i = .int .i64 k ∧ Box wr w.heap.size 24 #[.bool false, .slice none 0 0, .slice none 0 0] ∧
      Box wr (w.heap.size + 1) 3 #[.int .i64 xs.length] ∧ Box wr (w.heap.size + 1 + 1) 24 #[.bool ch, .slice (some ⟨w.heap.size + 1, 0, none⟩) 1 1, .slice A k c'] ∧
      Owns wr (w.heap.size + 3) (.slice A k c') k (xs.take k) ∧ Below w.heap.size w wr)
    (fun i _ => xs.length - (intOf i).toNat)
  case atStart => exact ⟨0, none, 0, Nat.zero_le _, rfl, ((Box.new _ _ _).alloc _).alloc _, (by simpa using (Box.new (w.alloc _) 3 #[.int .i64 xs.length]).alloc _), (by simpa using Box.new ((w.alloc _).alloc _) 24 _), Owns.nil _ _, below_three _ _ _ _⟩
  case round =>
    obtain ⟨k, A, c', hk, rfl, b1, b2, b3, hown, hbl⟩ := hrel
    rcases Nat.lt_or_ge k xs.length with hlt | hge
    · obtain ⟨ad, x, rfl, hx, hal, hcx⟩ := Elems.later h4.out hbl hlt
      have hx' := Lib.hid hx
      clear hx
      obtain ⟨-, -, hc3⟩ := b3.three
      have hf3 := b3.frozen 2
      have hne := hown.ne_box b3 (by decide)
      have hne2 := hown.ne_low (b := ad.block) (by omega)
      have hs3 := b3.lt
      go_wp2_with fail
      go_region_law
        ((refine step_append_ints _ rfl rfl _ _ (by rfl) (w.heap.size + 3) k _ (xs.take k) (by rfl) ((hown.alloc _).drew) (some ⟨wr.heap.size, 0, none⟩) 1 1 [x] (by rfl) (by simp) (elems_new wr x) rfl (by omega) (by simp; omega) ?_; intro A2 c2 w1 hown1 hgrow hat; have b3' := ((b3.alloc _).drew).grown hgrow hne; have hc1 := b3'.three.2.2; have hf1 := b3'.frozen 2; have hk1 := cell_kept1 hcx hgrow (by rw [addr_block_add]; exact hne2)))
      all_goals
        go_wp2
        go_roundw
        case rel => exact ⟨k + 1, A2, c2, by omega, by go_num, (((b1.alloc _).drew).grown hgrow (hown.ne_box b1 (by decide))).far (p := ⟨w.heap.size + 1 + 1, 2, none⟩) (by simp; omega) _, (((b2.alloc _).drew).grown hgrow (hown.ne_low (by omega))).far (p := ⟨w.heap.size + 1 + 1, 2, none⟩) (by simp) _, b3'.store 2 _, by rw [← take_at hx'.out]; exact hown1.setCell (p := ⟨w.heap.size + 1 + 1, 2, none⟩) (hown1.ne_box b3' (by decide)) _, ((((hbl.alloc hbl.size _).drew).grown hgrow (by simp; have := hbl.size; omega) (fun _ hk' => by have := (hown.lt hk').1; omega))).setCell (p := ⟨w.heap.size + 1 + 1, 2, none⟩) (by simp; omega) _⟩
        case measure => simp [intOf]; omega
    · obtain ⟨p0, p1, p2⟩ := b3.three
      obtain ⟨q0, q1, q2⟩ := b1.three
      have f1 := b1.frozen
      have hkk : k = xs.length := by omega
      have HK := Lib.hid hkk
      clear hkk
      go_wp2
      refine bodyPost_ret (v := .agg #[.bool ch, .slice (some ⟨w.heap.size + 1, 0, none⟩) 1 1, .slice A k c']) (by simp [results, Try.results13, go_sem, q0, q1, q2]) rfl ?_
      have hg := grownBy_three wr w.heap.size (.bool ch) (.slice (some ⟨w.heap.size + 1, 0, none⟩) 1 1) (.slice A k c')
      have hd := ((hown.kept hg (.inr (hown.ne_low (by omega)))).base (B' := w.heap.size) (by omega))
      rw [List.take_of_length_le (by rw [HK.out]; exact Nat.le_refl _)] at hd
      have hkk := HK.out
      subst hkk
      have hb2 : Box _ (w.heap.size + 1) 3 #[.int .i64 xs.length] := b2.grown hg (by simp)
      exact ⟨_, _, _, _, rfl, ⟨⟨rfl, .inr ⟨w.heap.size + 1, 1, #[.int .i64 xs.length], rfl, by omega, hb2, Nat.le_refl _, by unfold maxLen; omega, rfl, rfl⟩⟩, by omega⟩, hd, hbl.grown hg hbl.size (fun j e => by cases e; omega)⟩
end Go.Proofs.Ytfaojciballhnaa
