/- The walks of radix.Value and of the Joined of the statements. Conditions: none. -/
import Derived.Test.YtajcjipabfknhaaDoorOwn
import Derived.Test.YtajcjipabfknhaaDoorMake
import Derived.Test.YtajcjipabfknhaaDoorHorner
set_option linter.unusedSimpArgs false
set_option linter.unusedVariables false
namespace Go.Proofs.YtajcjipabfknhaaDoor
open Go Go.RowKit Go.Proofs.YtajcjipabfknhaaDoor.P

set_option maxHeartbeats 1000000 in
theorem value_ok (v1 v2 : Value) (bs ds : List Int) (w : World) (hb : IsInts w v1 bs) (hd : IsInts w v2 ds) (hl : bs.length ≤ 4096) (he : ds.length = bs.length) :
    Calls Tryd.prog 27 #[v1, v2] w fun e w' => e = .returned (.tuple #[.int .i64 (wrap64 (hv bs ds)), .nilIface]) ∧ Below w.heap.size w w' := by
  obtain ⟨A, c, rfl, a1, a2, a3, a0, a4⟩ := hb
  obtain ⟨B, c', rfl, b1, b2, b3, b0, b4⟩ := hd
  have h4 := Lib.hid a4
  have h5 := Lib.hid b4
  rw [he]
  clear a4 b4 a0 b0
  go_enter Tryd.func27, Tryd.ntmps27
  go_wp2_with fail
  go_loopw [21, 6] (fun i n wr => ∃ k : Nat, k ≤ bs.length ∧ i = .int .i64 k ∧ n = .int .i64 (wrap64 (hv (bs.take k) (ds.take k))) ∧ Below w.heap.size w wr)
    (fun i _ _ => bs.length - (intOf i).toNat)
  case atStart => exact ⟨0, Nat.zero_le _, rfl, by simp [hv, wrap64], by go_grown⟩
  case round =>
    obtain ⟨k, hk, rfl, rfl, hbl⟩ := hrel
    rcases Nat.lt_or_ge k bs.length with hlt | hge
    · obtain ⟨ad, x, rfl, hx, hal, hcx⟩ := Elems.later h4.out hbl hlt
      obtain ⟨ae, y, rfl, hy, hae, hcy⟩ := Elems.later h5.out hbl (k := k) (by omega)
      have hn : wrap64 (wrap64 (wrap64 (hv (bs.take k) (ds.take k)) * x) + y) = wrap64 (hv (bs.take (k + 1)) (ds.take (k + 1))) := by
        rw [hv_take hx hy, wrap_add_l, ← wrap_add_l, wrap_mul_l, wrap_add_l]
      have hn' := Lib.hid hn
      clear hx hy hn
      go_wp2_with fail
      go_roundw
      case rel => exact ⟨k + 1, by omega, by go_num, congrArg _ hn'.out, by go_grown⟩
      case measure => simp [intOf]; omega
    · have hkk : k = bs.length := by omega
      subst hkk
      have e2 : ds.take bs.length = ds := List.take_of_length_le (by omega)
      have e1 : bs.take bs.length = bs := List.take_length
      rw [e1, e2]
      go_wp2_with fail
      refine bodyPost_ret (v := .tuple #[.int .i64 (wrap64 (hv bs ds)), .nilIface]) (by simp [results, Tryd.results27, go_sem]) rfl ?_
      exact ⟨rfl, by go_grown⟩

end Go.Proofs.YtajcjipabfknhaaDoor
