/- The walk of perm.Check. Conditions: none. -/
import Derived.Test.YtajcjipabfknhaaDoorOwn
import Derived.Test.YtajcjipabfknhaaDoorList
import Derived.Test.YtajcjipabfknhaaDoorOrder
import Derived.Deep.QuietTactic
import Derived.BigQuiet
import Derived.Laws.BitsAllLaws
set_option linter.unusedSimpArgs false
set_option linter.unusedVariables false
namespace Go.Proofs.YtajcjipabfknhaaDoor
open Go Go.RowKit Go.Proofs.YtajcjipabfknhaaDoor.P

/-- The words of an array. -/
def Words (w : World) (g : Nat) (S : List Nat) : Prop := Box w g 57 (S.map fun n : Nat => Value.int .u64 n).toArray

theorem pow_wrap {j : Nat} (hj : j < 64) : IntKind.u64.wrap (2 ^ j) = ((2 ^ j : Nat) : Int) := by
  have h : 2 ^ j < 2 ^ 64 := Nat.pow_lt_pow_right (by omega) hj
  rw [show ((2 : Int) ^ j) = ((2 ^ j : Nat) : Int) by rw [Int.natCast_pow]; rfl]
  simp only [IntKind.wrap, IntKind.bits, IntKind.signed]
  generalize 2 ^ j = z at *
  simp
  omega
theorem bit_and {u j : Nat} (hu : u < 18446744073709551616) (hj : j < 64) : (bits BinOp.and IntKind.u64 (u : Int) (IntKind.u64.wrap (2 ^ j)) != 0) = u.testBit j := by
  have h : 2 ^ j < 2 ^ 64 := Nat.pow_lt_pow_right (by omega) hj
  have e : u &&& 2 ^ j = if u.testBit j then 2 ^ j else 0 := by
    apply Nat.eq_of_testBit_eq
    intro i
    rw [Nat.testBit_and, Nat.testBit_two_pow]
    by_cases hij : j = i
    · subst hij
      cases hb : u.testBit j <;> simp
    · cases hb : u.testBit j <;> simp [hij, Nat.testBit_two_pow]
  rw [pow_wrap hj, u64_and_nat u (2 ^ j) hu (by omega), e]
  cases hb : u.testBit j
  · simp
  · have : ((2 ^ j : Nat) : Int) ≠ 0 := by have := Nat.two_pow_pos j; omega
    rw [if_pos rfl, bne_iff_ne.2 this]
theorem bit_or {u j : Nat} (hu : u < 18446744073709551616) (hj : j < 64) : bits BinOp.or IntKind.u64 (u : Int) (IntKind.u64.wrap (2 ^ j)) = ((u ||| 2 ^ j : Nat) : Int) := by
  have h : 2 ^ j < 2 ^ 64 := Nat.pow_lt_pow_right (by omega) hj
  rw [pow_wrap hj, u64_or_nat u (2 ^ j) hu (by omega)]
theorem Words.store {w : World} {g : Nat} {S : List Nat} (h : Words w g S) (k x : Nat) : Words (w.setCell ⟨g, k, none⟩ (.int .u64 x)) g (S.set k x) := by
  have := Box.store h k (.int .u64 x)
  unfold Words
  rw [List.map_set]
  simpa using this
theorem twice_not {p : List Int} {t : List Nat} {k m : Nat} (ht : p.take k = ints t) (hx : p[k]? = some (m : Int)) (hm : m ∈ t) : ¬ IsOrder p := fun h => by
  have h1 : (p.take (k + 1)).Nodup := (List.take_sublist _ _).nodup h.1
  rw [List.take_add_one, ht, hx] at h1
  have := (List.nodup_append.1 h1).2.2 (m : Int) (List.mem_map.2 ⟨m, hm, rfl⟩) (m : Int) (by simp)
  exact this rfl

set_option maxRecDepth 100000 in
set_option maxHeartbeats 1000000 in
theorem pcheck_any (v : Value) (p : List Int) (w : World) (hx : IsInts w v p) :
    Calls Tryd.prog 10 #[v] w fun e w' => e = .returned (errV (ordErr p)) ∧ Below w.heap.size w w' := by
  obtain ⟨A, c, rfl, c1, c2, c3, EX, -⟩ := hx.open_
  clear hx
  go_enter Tryd.func10, Tryd.ntmps10
  rcases Nat.lt_or_ge 4096 p.length with g1 | g1
  · have g1' : decide ((4096 : Int) < p.length) = true := by simp; omega
    have he : ordErr p = 7 := by unfold ordErr; rw [if_pos g1]
    have He := Lib.hid he
    clear he
    go_wp2_with fail
    go_ret
    exact ⟨by rw [He.out]; rfl, by go_grown⟩
  have g1' : decide ((4096 : Int) < p.length) = false := by simp; omega
  go_wp2_with fail
  have hw0 : Words (w.alloc (.cells Tryd.zeroCells57 57)) w.heap.size (List.replicate 65 0) := Box.new w 57 _
  go_loopw [14] (fun i wr => ∃ (k : Nat) (t S : List Nat), k ≤ p.length ∧ i = .int .i64 k ∧ p.take k = ints t ∧ t.Nodup ∧ (∀ x ∈ t, x < p.length) ∧ Seen S t ∧ Words wr w.heap.size S ∧ Below w.heap.size w wr) (fun i _ => p.length - (intOf i).toNat)
  case atStart => exact ⟨0, [], _, Nat.zero_le _, rfl, by simp [ints], by simp, by simp, Seen.nil, hw0, by go_grown⟩
  case round =>
    clear hw0
    obtain ⟨k, t, S, hk, rfl, ht, hn, hr, hs, hw, hbl⟩ := hrel
    rcases Nat.lt_or_ge k p.length with hlt | hge
    · obtain ⟨ad, x, rfl, hxk, hal, hcx⟩ := Elems.later EX hbl hlt
      rcases Int.lt_or_le x 0 with h1 | h1
      · have h1' : decide (x < 0) = true := by simpa using h1
        have he : ordErr p = 6 := by
          unfold ordErr
          rw [if_neg (by omega), if_neg fun h => by have := h.2 x (List.mem_of_getElem? hxk); omega]
        have He := Lib.hid he
        clear he hxk ht hn hr hs hw
        go_wp2_with fail
        go_ret
        exact ⟨by rw [He.out]; rfl, by have := hbl.size; go_grown⟩
      · have h1' : decide (x < 0) = false := by simp; omega
        rcases Int.lt_or_le x p.length with h2 | h2
        case inr =>
          have h2' : decide ((p.length : Int) ≤ x) = true := by simpa using h2
          have he : ordErr p = 6 := by
            unfold ordErr
            rw [if_neg (by omega), if_neg fun h => by have := h.2 x (List.mem_of_getElem? hxk); omega]
          have He := Lib.hid he
          clear he hxk ht hn hr hs hw
          go_wp2_with fail
          go_ret
          exact ⟨by rw [He.out]; rfl, by have := hbl.size; go_grown⟩
        obtain ⟨m, rfl⟩ : ∃ m : Nat, x = m := ⟨x.toNat, by omega⟩
        have h2' : decide (p.length ≤ m) = false := by simp; omega
        have h3 : m < p.length := by omega
        have h4 : m / 64 < 65 := by omega
        have h5 : m % 64 < 64 := by omega
        have Hx := Lib.hid hxk
        have Ht := Lib.hid ht
        have Hn := Lib.hid hn
        have Hr := Lib.hid hr
        have Hs := Lib.hid hs
        clear hxk ht hn hr hs
        have hcw : wr.cell? ⟨w.heap.size, m / 64, none⟩ = some (.int .u64 (S.getD (m / 64) 0 : Nat)) := by
          rw [Box.cell hw]
          have : m / 64 < S.length := by rw [Hs.out.1]; exact h4
          simp [List.getD_eq_getElem?_getD, this]
        have hfw := Box.frozen hw (m / 64)
        have hlw := Box.lt hw
        obtain ⟨u, hu⟩ : ∃ u, u = S.getD (m / 64) 0 := ⟨_, rfl⟩
        rw [← hu] at hcw
        have Hu := Lib.hid hu
        clear hu
        have hu64 : u < 18446744073709551616 := by rw [Hu.out]; exact Hs.out.2.1 _ h4
        have hbit : u.testBit (m % 64) = decide (m ∈ t) := by rw [Hu.out]; exact Hs.out.2.2 m (by omega)
        have hand := bit_and hu64 h5
        rw [hbit] at hand
        by_cases hmem : m ∈ t
        · rw [decide_eq_true hmem] at hand
          have he : ordErr p = 6 := by
            unfold ordErr
            rw [if_neg (by omega), if_neg (twice_not Ht.out Hx.out hmem)]
          have He := Lib.hid he
          clear he hmem hbit hu64
          go_wp2_with fail
          go_quiet (fail)
          all_goals go_wp2_with fail
          go_ret
          exact ⟨by rw [He.out]; rfl, hbl.trans (below_draws _ _ _)⟩
        · rw [decide_eq_false hmem] at hand
          have hor := bit_or hu64 h5
          have Hor := Lib.hid hor
          have Hmem := Lib.hid hmem
          clear hmem hbit hu64 hor
          go_wp2_with fail
          go_quiet (fail)
          all_goals go_wp2_with fail
          go_roundw
          case rel =>
            refine ⟨k + 1, t ++ [m], S.set (m / 64) (S.getD (m / 64) 0 ||| 2 ^ (m % 64)), by omega, by go_num, ?_, ?_, ?_, Hs.out.add (by omega), ?_, (hbl.trans (below_draws _ _ _)).setCell (p := ⟨w.heap.size, m / 64, none⟩) (Nat.le_refl _) _⟩
            · rw [List.take_add_one, Ht.out, Hx.out]; simp [ints]
            · rw [List.nodup_append]
              exact ⟨Hn.out, by simp, fun a ha b hb e => Hmem.out (by simp at hb; rw [← hb, ← e]; exact ha)⟩
            · intro y hy
              rcases List.mem_append.1 hy with hy | hy
              · exact Hr.out y hy
              · simp at hy; omega
            · rw [Hor.out, ← Hu.out]
              exact Words.store hw _ _
          case measure => simp [intOf]; omega
    · have hkk : k = p.length := by omega
      subst hkk
      rw [List.take_length] at ht
      have he : ordErr p = 0 := by
        have hl : p.length = t.length := by rw [ht, length_ints]
        unfold ordErr
        rw [if_neg (by omega), if_pos]
        rw [ht]
        exact order_ints.2 ⟨hn, fun x hx => by have := hr x hx; omega⟩
      have He := Lib.hid he
      clear he ht hn hr hs hw
      go_wp2_with fail
      go_ret
      exact ⟨by rw [He.out]; rfl, by have := hbl.size; go_grown⟩

end Go.Proofs.YtajcjipabfknhaaDoor
