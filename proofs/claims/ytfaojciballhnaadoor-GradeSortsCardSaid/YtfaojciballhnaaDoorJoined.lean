/- The walk of ravelinsame.Joined. Conditions: the lists are not too long together. -/
import Derived.Test.YtfaojciballhnaaDoorMake
import Derived.Test.YtfaojciballhnaaDoorList
set_option linter.unusedSimpArgs false
set_option linter.unusedVariables false
namespace Go.Proofs.YtfaojciballhnaaDoor
open Go Go.RowKit Go.Proofs.YtfaojciballhnaaDoor.P

theorem nil_ints (w : World) : IsInts w (.slice none 0 0) [] := (Owns.nil w 0).isInts

set_option maxRecDepth 100000 in
set_option maxHeartbeats 1000000 in
theorem joined_any (va vb : Value) (xs ys : List Int) (w : World) (ha : IsInts w va xs) (hb : IsInts w vb ys) (hl : xs.length + ys.length ≤ 1000000) :
    Calls Tryd.prog 9 #[va, vb] w fun e w' => ∃ A c, e = .returned (.slice A (xs.length + ys.length) c) ∧ Owns w' w.heap.size (.slice A (xs.length + ys.length) c) (xs.length + ys.length) (xs ++ ys) ∧ Below w.heap.size w w' := by
  obtain ⟨A, ca, rfl, a1, a2, a3, EA0, -⟩ := ha.open_
  obtain ⟨B, cb, rfl, b1, b2, b3, EB0, -⟩ := hb.open_
  have EA := Lib.hid EA0
  have EB := Lib.hid EB0
  clear EA0 EB0 ha hb
  go_enter Tryd.func9, Tryd.ntmps9
  go_wp2_with fail
  go_loopw [5, 6] (fun s5 s6 wr => ∃ (k : Nat) (A2 : Option Addr) (c2 : Nat), k ≤ xs.length ∧ s6 = .int .i64 k ∧ s5 = .slice A2 k c2 ∧ Owns wr w.heap.size (.slice A2 k c2) k (xs.take k) ∧ Below w.heap.size w wr) (fun _ s6 _ => xs.length - (intOf s6).toNat)
  case atStart => exact ⟨0, none, 0, Nat.zero_le _, rfl, rfl, by rw [List.take_zero]; exact Owns.nil _ _, Below.refl _ _⟩
  case round =>
    obtain ⟨k, A2, c2, hk, rfl, rfl, h2, hbl⟩ := hrel
    rcases Nat.lt_or_ge k xs.length with hlt | hge
    · obtain ⟨ad, x, rfl, hx, hal, hcx⟩ := Elems.later EA.out hbl hlt
      have HT := Lib.hid (take_at hx)
      have hsz := hbl.size
      clear hx
      go_wp2_with (at_builtin; refine wpList_append_ints _ rfl rfl _ _ rfl w.heap.size k _ (xs.take k) rfl (h2.alloc _) (some ⟨wr.heap.size, 0, none⟩) 1 1 [x] rfl (by simp) (elems_new wr x) rfl (by omega) (by simp; omega) ?_; intro A4 c4 w4 hown4 hgrow4 hat4)
      go_roundw
      case rel => exact ⟨k + 1, A4, c4, by omega, by go_num, rfl, by rw [← HT.out]; exact hown4, (hbl.alloc hsz _).grown hgrow4 (by simp; omega) (fun j e => (h2.lt e).1)⟩
      case measure => simp [intOf]; omega
    · have hke : k = xs.length := by omega
      subst hke
      rw [List.take_length] at h2
      go_wp2_with fail
      obtain ⟨wo, rfl⟩ : ∃ wo : World, wo = wr := ⟨_, rfl⟩
      go_loopw [5, 7] (fun s5 s7 wr => ∃ (k : Nat) (A2 : Option Addr) (c2 : Nat), k ≤ ys.length ∧ s7 = .int .i64 k ∧ s5 = .slice A2 (xs.length + k) c2 ∧ Owns wr w.heap.size (.slice A2 (xs.length + k) c2) (xs.length + k) (xs ++ ys.take k) ∧ Below w.heap.size w wr) (fun _ s7 _ => ys.length - (intOf s7).toNat)
      case atStart => exact ⟨0, A2, c2, Nat.zero_le _, rfl, rfl, by rw [List.take_zero, List.append_nil]; exact h2, hbl⟩
      case round =>
        clear h2 hbl hge hk
        obtain ⟨k, A2, c2, hk, rfl, rfl, h2, hbl⟩ := hrel
        rcases Nat.lt_or_ge k ys.length with hlt | hge
        · obtain ⟨ad, x, rfl, hx, hal, hcx⟩ := Elems.later EB.out hbl hlt
          have HT := Lib.hid (take_at hx)
          have hsz := hbl.size
          clear hx
          go_wp2_with (at_builtin; refine wpList_append_ints _ rfl rfl _ _ rfl w.heap.size (xs.length + k) _ (xs ++ ys.take k) rfl (h2.alloc _) (some ⟨wr.heap.size, 0, none⟩) 1 1 [x] rfl (by simp) (elems_new wr x) rfl (by omega) (by simp; omega) ?_; intro A4 c4 w4 hown4 hgrow4 hat4)
          go_roundw
          case rel => exact ⟨k + 1, A4, c4, by omega, by go_num, rfl, by rw [← HT.out, ← List.append_assoc]; exact hown4, (hbl.alloc hsz _).grown hgrow4 (by simp; omega) (fun j e => (h2.lt e).1)⟩
          case measure => simp [intOf]; omega
        · have hke : k = ys.length := by omega
          subst hke
          rw [List.take_length] at h2
          go_wp2_with fail
          go_ret
          exact ⟨A2, c2, rfl, h2, hbl⟩

end Go.Proofs.YtfaojciballhnaaDoor
