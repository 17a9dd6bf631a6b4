/- The walk of arr.Iota: its lists are new. Conditions: a number that an axis may have. -/
import Derived.Test.YtfaojciballhnaaIota
set_option linter.unusedSimpArgs false
set_option linter.unusedVariables false
namespace Go.Proofs.Ytfaojciballhnaa
open Go Go.RowKit Go.Proofs.Ytfaojciballhnaa.P

set_option maxHeartbeats 1000000 in
theorem iota_own (n : Nat) (w : World) (hn : n ≤ 4096) : Calls Try.prog 18 #[.int .i64 n] w fun e w' => ∃ S cs D cd, e = .returned (.tuple #[.agg #[.bool false, .slice S 1 cs, .slice D n cd], .nilIface]) ∧
    Owns w' w.heap.size (.slice S 1 cs) 1 [(n : Int)] ∧ Owns w' w.heap.size (.slice D n cd) n (ints (List.range n)) ∧ Below w.heap.size w w' := by
  obtain ⟨T, hT⟩ : ∃ T, T = ints (List.range n) := ⟨_, rfl⟩
  have hTl : T.length = n := by rw [hT]; simp [ints]
  have HTK := Lib.hid (show ∀ k, k < n → T[k]? = some (k : Int) from fun k hk => by rw [hT]; simp [ints, hk])
  have HTL := Lib.hid hTl
  have HT := Lib.hid hT
  clear hT hTl
  have b0 : decide ((n : Int) < 0) = false := by simp
  have b1 : decide ((n : Int) > 4096) = false := by simp; omega
  go_enter Try.func18, Try.ntmps18
  go_wp2
  go_loopw [18] (fun i wr => ∃ (k : Nat) (A : Option Addr) (c' : Nat), k ≤ n ∧ i = .int .i64 k ∧ Box wr w.heap.size 24 #[.bool false, .slice none 0 0, .slice none 0 0] ∧
      Box wr (w.heap.size + 1) 3 #[.int .i64 n] ∧ Box wr (w.heap.size + 1 + 1) 24 #[.bool false, .slice (some ⟨w.heap.size + 1, 0, none⟩) 1 1, .slice A k c'] ∧
      Owns wr (w.heap.size + 3) (.slice A k c') k (T.take k) ∧ Below w.heap.size w wr)
    (fun i _ => n - (intOf i).toNat)
  case atStart => exact ⟨0, none, 0, Nat.zero_le _, rfl, ((Box.new _ _ _).alloc _).alloc _, (by simpa using (Box.new (w.alloc _) 3 #[.int .i64 n]).alloc _), (by simpa using Box.new ((w.alloc _).alloc _) 24 _), Owns.nil _ _, below_three _ _ _ _⟩
  case round =>
    obtain ⟨k, A, c', hk, rfl, b1, b2, b3, hown, hbl⟩ := hrel
    rcases Nat.lt_or_ge k n with hlt | hge
    · obtain ⟨-, -, hc3⟩ := b3.three
      have hf3 := b3.frozen 2
      have hne := hown.ne_box b3 (by decide)
      have hs3 := b3.lt
      have hx' := Lib.hid (HTK.out k hlt)
      go_wp2_with (at_builtin; refine wpList_append_ints _ rfl rfl _ _ rfl (w.heap.size + 3) k _ (T.take k) rfl (hown.alloc _) (some ⟨wr.heap.size, 0, none⟩) 1 1 [(k : Int)] rfl (by simp) (elems_new wr (k : Int)) rfl (by omega) (by simp; omega) ?_; intro A2 c2 w1 hown1 hgrow hat; have b3' := (b3.alloc _).grown hgrow hne; have hc1 := b3'.three.2.2; have hf1 := b3'.frozen 2)
      go_roundw
      case rel => exact ⟨k + 1, A2, c2, by omega, by go_num, ((b1.alloc _).grown hgrow (hown.ne_box b1 (by decide))).far (p := ⟨w.heap.size + 1 + 1, 2, none⟩) (by simp; omega) _, ((b2.alloc _).grown hgrow (hown.ne_low (by omega))).far (p := ⟨w.heap.size + 1 + 1, 2, none⟩) (by simp) _, b3'.store 2 _, by rw [← take_at hx'.out]; exact hown1.setCell (p := ⟨w.heap.size + 1 + 1, 2, none⟩) (hown1.ne_box b3' (by decide)) _, ((hbl.alloc hbl.size _).grown hgrow (by simp; have := hbl.size; omega) (fun _ hk' => by have := (hown.lt hk').1; omega)).setCell (p := ⟨w.heap.size + 1 + 1, 2, none⟩) (by simp; omega) _⟩
      case measure => simp [intOf]; omega
    · obtain ⟨p0, p1, p2⟩ := b3.three
      obtain ⟨q0, q1, q2⟩ := b1.three
      have f1 := b1.frozen
      have hl := b1.lt
      have hkk : k = n := by omega
      subst hkk
      go_wp2
      refine bodyPost_ret (v := .tuple #[.agg #[.bool false, .slice (some ⟨w.heap.size + 1, 0, none⟩) 1 1, .slice A k c'], .nilIface]) (by simp [results, Try.results18, go_sem, q0, q1, q2, hl]) rfl ?_
      have hg := grownBy_three wr w.heap.size (.bool false) (.slice (some ⟨w.heap.size + 1, 0, none⟩) 1 1) (.slice A k c')
      have hd := ((hown.kept hg (.inr (hown.ne_low (by omega)))).base (B' := w.heap.size) (by omega))
      rw [List.take_of_length_le (by rw [HTL.out]; exact Nat.le_refl _), HT.out] at hd
      have hb2 : Box _ (w.heap.size + 1) 3 #[.int .i64 k] := b2.grown hg (by simp)
      exact ⟨_, _, _, _, rfl, ⟨⟨rfl, .inr ⟨w.heap.size + 1, 1, #[.int .i64 k], rfl, by omega, hb2, Nat.le_refl _, by unfold maxLen; omega, rfl, rfl⟩⟩, by omega⟩, hd, hbl.grown hg hbl.size (fun j e => by cases e; omega)⟩

end Go.Proofs.Ytfaojciballhnaa
