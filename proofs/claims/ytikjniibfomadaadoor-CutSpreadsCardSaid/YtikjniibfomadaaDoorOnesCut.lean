/- The walks of cut.ones and cut.parts. Conditions: none. -/
import Derived.Test.YtikjniibfomadaaDoorCount
import Derived.Test.YtikjniibfomadaaDoorKeep
import Derived.Test.YtikjniibfomadaaDoorMake
import Derived.Test.YtikjniibfomadaaDoorAxis
import Derived.Test.YtikjniibfomadaaDoorAxes
import Derived.Test.YtikjniibfomadaaDoorList
namespace Go.Proofs.YtikjniibfomadaaDoor.P

theorem mask_take {m : List Int} {k : Nat} {x : Int} (h : Mask (m.take k)) (hx : m[k]? = some x) (h1 : x = 0 ∨ x = 1) : Mask (m.take (k + 1)) := by
  intro y hy
  rw [List.take_add_one, hx] at hy
  rcases List.mem_append.1 hy with hy | hy
  · exact h y hy
  · simp at hy
    subst hy
    exact h1

def outTo (t : List Nat) (k j : Nat) : Nat := prod (t.take (min j k))
def innTo (t : List Nat) (k j : Nat) : Nat := prod ((t.drop (k + 1)).take (j - (k + 1)))
theorem outTo_all {t : List Nat} {k : Nat} (hk : k < t.length) : outTo t k t.length = outerOf t k := by unfold outTo outerOf; rw [Nat.min_eq_right (by omega)]
theorem innTo_all {t : List Nat} {k : Nat} : innTo t k t.length = innerOf t k := by
  unfold innTo innerOf
  rw [List.take_of_length_le (by rw [List.length_drop]; exact Nat.le_refl _)]
theorem prod_part_le {s : List Nat} (h : prod s ≠ 0) (m n : Nat) : prod ((s.drop m).take n) ≤ prod s := by
  have e1 : prod s = prod (s.take m) * prod (s.drop m) := by rw [← prod_append, List.take_append_drop]
  have e2 : prod (s.drop m) = prod ((s.drop m).take n) * prod ((s.drop m).drop n) := by rw [← prod_append, List.take_append_drop]
  rw [e1] at h ⊢
  have h1 : prod (s.take m) ≠ 0 := fun e => h (by rw [e, Nat.zero_mul])
  have h2 : prod (s.drop m) ≠ 0 := fun e => h (by rw [e, Nat.mul_zero])
  rw [e2] at h2 ⊢
  have h3 : prod ((s.drop m).drop n) ≠ 0 := fun e => h2 (by rw [e, Nat.mul_zero])
  have h4 : prod ((s.drop m).take n) ≤ prod ((s.drop m).take n) * prod ((s.drop m).drop n) := Nat.le_mul_of_pos_right _ (Nat.pos_of_ne_zero h3)
  exact Nat.le_trans h4 (Nat.le_mul_of_pos_left _ (Nat.pos_of_ne_zero h1))
theorem outTo_le {t : List Nat} (h : prod t ≠ 0) (k j : Nat) : outTo t k j ≤ prod t := by
  have := prod_part_le h 0 (min j k)
  simpa [outTo] using this
theorem innTo_le {t : List Nat} (h : prod t ≠ 0) (k j : Nat) : innTo t k j ≤ prod t := prod_part_le h _ _
theorem take_succ_prod {t : List Nat} {j : Nat} (hj : j < t.length) : prod (t.take (j + 1)) = prod (t.take j) * t.getD j 0 := by
  rw [List.take_add_one, List.getElem?_eq_getElem hj, prod_append]
  simp [prod, List.getD_eq_getElem?_getD, hj]
theorem outTo_next {t : List Nat} {k j : Nat} (hj : j < t.length) : outTo t k (j + 1) = if j < k then outTo t k j * t.getD j 0 else outTo t k j := by
  unfold outTo
  split
  · rw [Nat.min_eq_left (by omega), Nat.min_eq_left (by omega)]
    exact take_succ_prod hj
  · rw [Nat.min_eq_right (by omega), Nat.min_eq_right (by omega)]
theorem innTo_next {t : List Nat} {k j : Nat} (hj : j < t.length) : innTo t k (j + 1) = if k < j then innTo t k j * t.getD j 0 else innTo t k j := by
  unfold innTo
  split
  · rw [show j + 1 - (k + 1) = (j - (k + 1)) + 1 by omega, take_succ_prod (by rw [List.length_drop]; omega)]
    simp only [List.getD_eq_getElem?_getD, List.getElem?_drop]
    rw [show k + 1 + (j - (k + 1)) = j by omega]
  · rw [show j + 1 - (k + 1) = 0 by omega, show j - (k + 1) = 0 by omega]

end Go.Proofs.YtikjniibfomadaaDoor.P
namespace Go.Proofs.YtikjniibfomadaaDoor
open Go Go.RowKit Go.Proofs.YtikjniibfomadaaDoor.P

def OnesPost (m : List Int) (w : World) (e : Ending) (w' : World) : Prop :=
  ((Mask m ∧ e = .returned (.tuple #[.int .i64 ((cnt m m.length : Nat) : Int), .nilIface])) ∨ (¬ Mask m ∧ e = .returned (.tuple #[.int .i64 0, .iface 25 (.int .i64 6)]))) ∧ Below w.heap.size w w'

set_option maxRecDepth 100000 in
set_option maxHeartbeats 1000000 in
theorem ones_any {v : Value} {m : List Int} {w : World} (hm : IsInts w v m) : Calls Tryd.prog 31 #[v] w (OnesPost m w) := by
  obtain ⟨A, ca, rfl, a1, a2, a3, EA0, -⟩ := hm.open_
  have EA := Lib.hid EA0
  clear EA0 hm
  go_enter Tryd.func31, Tryd.ntmps31
  go_wp2_with fail
  go_loopw [2, 8] (fun s2 s8 wr => ∃ k : Nat, k ≤ m.length ∧ s8 = .int .i64 k ∧ s2 = .int .i64 ((cnt m k : Nat) : Int) ∧ Mask (m.take k) ∧ Below w.heap.size w wr) (fun _ s8 _ => m.length - (intOf s8).toNat)
  case atStart => exact ⟨0, Nat.zero_le _, rfl, by rw [cnt_zero]; rfl, by simp [Mask], Below.refl _ _⟩
  case round =>
    obtain ⟨k, hk, rfl, rfl, hmk, hbl⟩ := hrel
    have HM := Lib.hid hmk
    clear hmk
    have hcl := cnt_le m k
    rcases Nat.lt_or_ge k m.length with hlt | hge
    · obtain ⟨ad, x, rfl, hx, hal, hcx⟩ := Elems.later EA.out hbl hlt
      have HX := Lib.hid hx
      clear hx
      by_cases h1 : x = 1
      · subst h1
        have HC := Lib.hid (show ((cnt m (k + 1) : Nat) : Int) = ((cnt m k : Nat) : Int) + 1 by rw [cnt_one HX.out]; simp)
        go_wp2_with fail
        go_roundw
        case rel => exact ⟨k + 1, by omega, by go_num, by rw [HC.out], mask_take HM.out HX.out (.inr rfl), hbl⟩
        case measure => simp [intOf]; omega
      · by_cases h0 : x = 0
        · subst h0
          have HC := Lib.hid (show cnt m (k + 1) = cnt m k from cnt_other HX.out (by decide))
          clear h1
          go_wp2_with fail
          go_roundw
          case rel => exact ⟨k + 1, by omega, by go_num, by rw [HC.out], mask_take HM.out HX.out (.inl rfl), hbl⟩
          case measure => simp [intOf]; omega
        · have e1 : (x == 1) = false := by simpa using h1
          have e0 : (x == 0) = false := by simpa using h0
          have HN := Lib.hid (show ¬ Mask m from fun h => by rcases h x (List.mem_of_getElem? HX.out) with h | h; exact h0 h; exact h1 h)
          clear h1 h0
          go_wp2_with fail
          go_ret2
          exact ⟨.inr ⟨HN.out, rfl⟩, hbl⟩
    · have hke : k = m.length := by omega
      subst hke
      rw [List.take_length] at HM
      go_wp2_with fail
      go_ret2
      exact ⟨.inl ⟨HM.out, rfl⟩, hbl⟩

def PartsPost (t : List Nat) (k : Nat) (w : World) (e : Ending) (w' : World) : Prop :=
  ((prod t = 0 ∧ e = .returned (.tuple #[.int .i64 0, .int .i64 0])) ∨ (prod t ≠ 0 ∧ e = .returned (.tuple #[.int .i64 ((outerOf t k : Nat) : Int), .int .i64 ((innerOf t k : Nat) : Int)]))) ∧ Below w.heap.size w w'

end Go.Proofs.YtikjniibfomadaaDoor
