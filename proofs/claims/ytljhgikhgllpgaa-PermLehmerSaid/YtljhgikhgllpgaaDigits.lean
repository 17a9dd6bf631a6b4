/- The walks of radix.Value and of the Joined of the statements. Conditions: none. -/
import Derived.Test.YtljhgikhgllpgaaOwn
import Derived.Test.YtljhgikhgllpgaaMake
import Derived.Test.YtljhgikhgllpgaaHorner
namespace Go.Proofs.Ytljhgikhgllpgaa
open Go Go.RowKit Go.Proofs.Ytljhgikhgllpgaa.P

set_option maxHeartbeats 1000000 in
theorem value_ok (v1 v2 : Value) (bs ds : List Int) (w : World) (hb : IsInts w v1 bs) (hd : IsInts w v2 ds) (hl : bs.length ≤ 4096) (he : ds.length = bs.length) :
    Calls Try.prog 18 #[v1, v2] w fun e w' => e = .returned (.tuple #[.int .i64 (wrap64 (hv bs ds)), .nilIface]) ∧ Below w.heap.size w w' := by
  obtain ⟨A, c, rfl, a1, a2, a3, a0, a4⟩ := hb
  obtain ⟨B, c', rfl, b1, b2, b3, b0, b4⟩ := hd
  have h4 := Lib.hid a4
  have h5 := Lib.hid b4
  rw [he]
  clear a4 b4 a0 b0
  go_enter Try.func18, Try.ntmps18
  go_wp2_with fail
  go_loopw [21, 6] (fun i n wr => ∃ k : Nat, k ≤ bs.length ∧ i = .int .i64 k ∧ n = .int .i64 (wrap64 (hv (bs.take k) (ds.take k))) ∧ Below w.heap.size w wr)
    (fun i _ _ => bs.length - (intOf i).toNat)
  case atStart => exact ⟨0, Nat.zero_le _, rfl, by simp [hv, wrap64], by go_grown⟩
  case round =>
    obtain ⟨k, hk, rfl, rfl, hbl⟩ := hrel
    rcases Nat.lt_or_ge k bs.length with hlt | hge
    · obtain ⟨ad, x, rfl, hx, hal, hcx⟩ := Elems.later h4.out hbl hlt
      obtain ⟨ae, y, rfl, hy, hae, hcy⟩ := Elems.later h5.out hbl (k := k) (by omega)
      have hn : wrap64 (wrap64 (wrap64 (hv (bs.take k) (ds.take k)) * x) + y) = wrap64 (hv (bs.take (k + 1)) (ds.take (k + 1))) := by
        rw [hv_take hx hy, wrap_add_l, ← wrap_add_l, wrap_mul_l, wrap_add_l]
      have hn' := Lib.hid hn
      clear hx hy hn
      go_wp2_with fail
      go_roundw
      case rel => exact ⟨k + 1, by omega, by go_num, congrArg _ hn'.out, by go_grown⟩
      case measure => simp [intOf]; omega
    · have hkk : k = bs.length := by omega
      subst hkk
      have e2 : ds.take bs.length = ds := List.take_of_length_le (by omega)
      have e1 : bs.take bs.length = bs := List.take_length
      rw [e1, e2]
      go_wp2_with fail
      refine bodyPost_ret (v := .tuple #[.int .i64 (wrap64 (hv bs ds)), .nilIface]) (by simp [results, Try.results18, go_sem]) rfl ?_
      exact ⟨rfl, by go_grown⟩

set_option maxHeartbeats 1000000 in
theorem joined_any (v1 v2 : Value) (xs ys : List Int) (w : World) (hb : IsInts w v1 xs) (hd : IsInts w v2 ys) (hl : xs.length + ys.length ≤ 1000000) :
    Calls Try.prog 19 #[v1, v2] w (Lists (xs ++ ys) w) := by
  obtain ⟨A, c, rfl, a1, a2, a3, a0, a4⟩ := hb
  obtain ⟨B, c', rfl, b1, b2, b3, b0, b4⟩ := hd
  have h4 := Lib.hid a4
  have h5 := Lib.hid b4
  clear a4 b4 a0 b0
  go_enter Try.func19, Try.ntmps19
  go_wp2_with fail
  go_loopw [6, 5] (fun i o wr => ∃ (k : Nat) (A : Option Addr) (c : Nat), k ≤ xs.length ∧ i = .int .i64 k ∧ o = .slice A k c ∧ Owns wr w.heap.size (.slice A k c) k (xs.take k) ∧ Below w.heap.size w wr)
    (fun i _ _ => xs.length - (intOf i).toNat)
  case atStart => exact ⟨0, none, 0, Nat.zero_le _, rfl, rfl, Owns.nil _ _, by go_grown⟩
  case round =>
    obtain ⟨k, A', c1, hk, rfl, rfl, hown, hbl⟩ := hrel
    rcases Nat.lt_or_ge k xs.length with hlt | hge
    · obtain ⟨ad, x, rfl, hx, hal, hcx⟩ := Elems.later h4.out hbl hlt
      have hx' := Lib.hid hx
      clear hx
      have hsz := hbl.size
      go_wp2_with (at_builtin; refine wpList_append_ints _ rfl rfl _ _ rfl w.heap.size k _ (xs.take k) rfl (hown.alloc _) (some ⟨wr.heap.size, 0, none⟩) 1 1 [x] rfl (by simp) (elems_new wr x) rfl (by omega) (by simp; omega) ?_; intro A2 c2 w1 hown1 hgrow hat)
      have ht := take_at hx'.out
      rw [ht] at hown1
      have hb2 : Below w.heap.size w w1 := below_grown (hbl.alloc hsz _) (hown.alloc _) hgrow
      go_roundw
      case rel => exact ⟨k + 1, A2, c2, by omega, by go_num, by simp, hown1, hb2⟩
      case measure => simp [intOf]; omega
    · have hkk : k = xs.length := by omega
      subst hkk
      rw [List.take_length] at hown
      go_wp2_with fail
      go_loopw [7, 5] (fun i o wr => ∃ (k : Nat) (A : Option Addr) (c : Nat), k ≤ ys.length ∧ i = .int .i64 k ∧ o = .slice A (xs.length + k) c ∧ Owns wr w.heap.size (.slice A (xs.length + k) c) (xs.length + k) (xs ++ ys.take k) ∧ Below w.heap.size w wr)
        (fun i _ _ => ys.length - (intOf i).toNat)
      case atStart => exact ⟨0, A', c1, Nat.zero_le _, rfl, rfl, by simpa using hown, hbl⟩
      case round =>
        obtain ⟨k, A3, c3, hk, rfl, rfl, hown, hbl⟩ := hrel
        rcases Nat.lt_or_ge k ys.length with hlt | hge
        · obtain ⟨ad, x, rfl, hx, hal, hcx⟩ := Elems.later h5.out hbl hlt
          have hx' := Lib.hid hx
          clear hx
          have hsz := hbl.size
          go_wp2_with (at_builtin; refine wpList_append_ints _ rfl rfl _ _ rfl w.heap.size (xs.length + k) _ (xs ++ ys.take k) rfl (hown.alloc _) (some ⟨wr.heap.size, 0, none⟩) 1 1 [x] rfl (by simp) (elems_new wr x) rfl (by omega) (by simp; omega) ?_; intro A2 c2 w1 hown1 hgrow hat)
          have ht := take_at hx'.out
          rw [List.append_assoc, ht] at hown1
          have hb2 : Below w.heap.size w w1 := below_grown (hbl.alloc hsz _) (hown.alloc _) hgrow
          go_roundw
          case rel => exact ⟨k + 1, A2, c2, by omega, by go_num, by simp [Nat.add_assoc], by simpa [Nat.add_assoc] using hown1, hb2⟩
          case measure => simp [intOf]; omega
        · have hkk : k = ys.length := by omega
          subst hkk
          rw [List.take_length] at hown
          go_wp2_with fail
          go_ret
          exact ⟨A3, c3, by simp, by simpa using hown, hbl⟩

end Go.Proofs.Ytljhgikhgllpgaa
