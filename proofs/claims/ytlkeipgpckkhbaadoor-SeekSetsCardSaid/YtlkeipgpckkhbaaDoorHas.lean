/- The walk of the reference's Has: has an array a cell? Conditions: none. -/
import Derived.Test.YtlkeipgpckkhbaaDoorBase
import Derived.Test.YtlkeipgpckkhbaaDoorMake
import Derived.BigQuiet
import Derived.Deep.QuietTactic
namespace Go.Proofs.YtlkeipgpckkhbaaDoor
open Go Go.RowKit Go.Proofs.YtlkeipgpckkhbaaDoor.P

set_option maxHeartbeats 1000000 in
theorem has_any (va : Value) (a : Arr) (ch : Bool) (c : Int) (w : World) (ha : IsArr w va a) :
    Calls Tryd.prog 30 #[va, .bool ch, .int .i64 c] w (TellsB (a.ch = ch ∧ c ∈ a.da) w) := by
  obtain ⟨A, ca, D, cd, rfl, hs, hd⟩ := ha.open_
  obtain ⟨D0, cd0, eD, d1, d2, d3, d4, d5⟩ := id hd
  cases eD
  have HD := Lib.hid (show Elems w D a.da from d5)
  clear hs hd ha d4 d5
  go_enter Tryd.func30, Tryd.ntmps30
  go_wp2_with fail
  go_loopw [7] (fun s7 wr => ∃ k : Nat, k ≤ a.da.length ∧ s7 = .int .i64 k ∧ (a.ch = ch → c ∉ a.da.take k) ∧ Box wr w.heap.size 24 #[.bool a.ch, .slice A a.sh.length ca, .slice D a.da.length cd] ∧ Below w.heap.size w wr) (fun s7 _ => a.da.length - (intOf s7).toNat)
  case atStart => exact ⟨0, Nat.zero_le _, rfl, (fun _ h => by simp at h), Box.new _ _ _, below_one _ _⟩
  case round =>
    obtain ⟨k, hk, rfl, hn, hb, hbl⟩ := hrel
    obtain ⟨t0, t1, t2⟩ := hb.three
    have HB := Lib.hid hb
    have HN := Lib.hid hn
    clear hb hn
    rcases Nat.lt_or_ge k a.da.length with hlt | hge
    · obtain ⟨ad, x, rfl, hx, hal, hcx⟩ := Elems.later HD.out hbl hlt
      have HX := Lib.hid hx
      clear hx
      by_cases hc : a.ch = ch
      · have e1 : (a.ch == ch) = true := by simp [hc]
        have HC := Lib.hid hc
        clear hc
        by_cases hxc : x = c
        · have e2 : (x == c) = true := by simp [hxc]
          have HXC := Lib.hid hxc
          clear hxc
          go_wp2_with fail
          go_ret
          exact tells_yes rfl ⟨HC.out, by rw [← HXC.out]; exact List.mem_of_getElem? HX.out⟩ hbl
        · have e2 : (x == c) = false := by simp [hxc]
          have HXC := Lib.hid hxc
          clear hxc
          go_wp2_with fail
          go_roundw
          case rel => exact ⟨k + 1, by omega, by go_num, (fun h hm => by rw [List.take_add_one, HX.out] at hm; rcases List.mem_append.1 hm with hm | hm; exact HN.out h hm; simp at hm; exact HXC.out hm.symm), HB.out, hbl⟩
          case measure => simp [intOf]; omega
      · have e1 : (a.ch == ch) = false := by simp [hc]
        have HC := Lib.hid hc
        clear hc
        go_wp2_with fail
        go_roundw
        case rel => exact ⟨k + 1, by omega, by go_num, (fun h => absurd h HC.out), HB.out, hbl⟩
        case measure => simp [intOf]; omega
    · go_wp2_with fail
      go_ret
      exact tells_no rfl (fun h => HN.out h.1 (by rw [List.take_of_length_le hge]; exact h.2)) hbl

end Go.Proofs.YtlkeipgpckkhbaaDoor
