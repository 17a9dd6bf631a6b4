/- The walk of the reference's Once: are they the numbers from 0 on, each once? Conditions: none. -/
import Derived.Test.YtajcjipabfknhaaDoorBase
import Derived.Test.YtajcjipabfknhaaDoorOrder
import Derived.Test.YtajcjipabfknhaaDoorList
import Derived.BigQuiet
import Derived.Deep.QuietTactic
set_option linter.unusedSimpArgs false
set_option linter.unusedVariables false
namespace Go.Proofs.YtajcjipabfknhaaDoor.P
theorem count_take {p : List Int} {k : Nat} {x y : Int} (h : p[k]? = some x) : (p.take (k + 1)).count y = (p.take k).count y + if x = y then 1 else 0 := by
  rw [List.take_add_one, h, List.count_append]
  simp [List.count_cons]
theorem count_le_one : ∀ {p : List Int}, p.Nodup → ∀ x, p.count x ≤ 1
  | [], _, x => by simp
  | y :: p, h, x => by
    rw [List.nodup_cons] at h
    rw [List.count_cons]
    have ih := count_le_one h.2 x
    by_cases e : y = x
    · subst e
      have := List.count_eq_zero.2 h.1
      simp; omega
    · simp [e]; omega
theorem perm_of_subset : ∀ {l p : List Int}, l.Nodup → (∀ x ∈ l, x ∈ p) → ∃ r, p.Perm (l ++ r)
  | [], p, _, _ => ⟨p, by simp⟩
  | x :: l, p, h, hs => by
    rw [List.nodup_cons] at h
    have hx := hs x (by simp)
    obtain ⟨r, hr⟩ := perm_of_subset (p := p.erase x) h.2 fun y hy => by
      have hne : y ≠ x := fun e => h.1 (e ▸ hy)
      exact (List.mem_erase_of_ne hne).2 (hs y (by simp [hy]))
    exact ⟨r, (List.perm_cons_erase hx).trans (by simpa using hr.cons x)⟩
theorem once_iff {p : List Int} : IsOrder p ↔ ∀ j : Nat, j < p.length → p.count (j : Int) = 1 := by
  constructor
  · intro h j hj
    have h1 := count_le_one h.1 (j : Int)
    obtain ⟨t, rfl, ht⟩ := order_open h
    have hm := perm_all ht (k := j) (by rw [length_ints] at hj; exact hj)
    have h2 := List.count_pos_iff.2 (show (j : Int) ∈ ints t from List.mem_map.2 ⟨j, hm, rfl⟩)
    omega
  · intro h
    obtain ⟨r, hr⟩ := perm_of_subset (l := ints (List.range p.length)) (p := p) (by
      unfold ints
      exact List.Pairwise.map _ (fun a b h e => h (by have e2 : (a : Int) = (b : Int) := e; omega)) List.nodup_range) (by
      intro x hx
      obtain ⟨j, hj, rfl⟩ := List.mem_map.1 hx
      have := h j (List.mem_range.1 hj)
      exact List.count_pos_iff.1 (by omega))
    have hl := hr.length_eq
    rw [List.length_append, length_ints, List.length_range] at hl
    obtain rfl : r = [] := List.eq_nil_of_length_eq_zero (by omega)
    rw [List.append_nil] at hr
    refine ⟨hr.nodup_iff.2 (by
      unfold ints
      exact List.Pairwise.map _ (fun a b h e => h (by have e2 : (a : Int) = (b : Int) := e; omega)) List.nodup_range), fun x hx => ?_⟩
    have hx2 := hr.mem_iff.1 hx
    obtain ⟨j, hj, rfl⟩ := List.mem_map.1 hx2
    have := List.mem_range.1 hj
    omega
end Go.Proofs.YtajcjipabfknhaaDoor.P
namespace Go.Proofs.YtajcjipabfknhaaDoor
open Go Go.RowKit Go.Proofs.YtajcjipabfknhaaDoor.P

set_option maxHeartbeats 1000000 in
theorem once_any (v : Value) (p : List Int) (w : World) (hp : IsInts w v p) :
    Calls Tryd.prog 33 #[v] w fun e w' => e = .returned (.bool (decide (IsOrder p))) ∧ w = w' := by
  obtain ⟨A, ca, rfl, a1, a2, a3, _, a4⟩ := hp
  have hA := Lib.hid (show Elems w A p from a4)
  clear a4
  go_enter Tryd.func33, Tryd.ntmps33
  go_wp2_with fail
  go_loop [3] (fun s3 => ∃ k : Nat, k ≤ p.length ∧ s3 = .int .i64 k ∧ ∀ j : Nat, j < k → p.count (j : Int) = 1) (fun s3 => p.length - (intOf s3).toNat)
  case atStart => exact ⟨0, Nat.zero_le _, rfl, fun j h => by omega⟩
  case round =>
    obtain ⟨k, hk, rfl, hw⟩ := hrel
    have HW := Lib.hid hw
    clear hw
    rcases Nat.lt_or_ge k p.length with hlt | hge
    · go_wp2_with fail
      go_loop [4, 5] (fun s4 s5 => ∃ i c : Nat, i ≤ p.length ∧ s5 = .int .i64 i ∧ s4 = .int .i64 c ∧ c = (p.take i).count (k : Int) ∧ c ≤ i) (fun _ s5 => p.length - (intOf s5).toNat)
      case atStart => exact ⟨0, 0, Nat.zero_le _, rfl, rfl, by simp, Nat.le_refl _⟩
      case round =>
        obtain ⟨i, c, hi, rfl, rfl, hc, hci⟩ := hrel
        have HC := Lib.hid hc
        clear hc
        rcases Nat.lt_or_ge i p.length with hil | hig
        · obtain ⟨ax, x, rfl, hx, hax, hcx⟩ := Elems.at_ hA.out hil
          have HX := Lib.hid hx
          clear hx
          by_cases hxk : x = k
          · subst hxk
            have e1 : ((k : Int) == (k : Int)) = true := by simp
            have hcw : wrap64 ((c : Int) + 1) = (c : Int) + 1 := by unfold wrap64; omega
            go_wp2_with fail
            go_round
            case rel => exact ⟨i + 1, c + 1, by omega, by go_num, by go_num, by rw [count_take HX.out, if_pos rfl, ← HC.out], by omega⟩
            case measure => simp [intOf]; omega
          · have e1 : (x == (k : Int)) = false := by simp [hxk]
            have HXK := Lib.hid hxk
            clear hxk
            go_wp2_with fail
            go_round
            case rel => exact ⟨i + 1, c, by omega, by go_num, rfl, by rw [count_take HX.out, if_neg HXK.out, ← HC.out]; rfl, by omega⟩
            case measure => simp [intOf]; omega
        · have hip : i = p.length := by omega
          have HCC := Lib.hid (show c = p.count (k : Int) by rw [HC.out, hip, List.take_length])
          subst hip
          by_cases h1 : c = 1
          · have HH := Lib.hid (show p.count (k : Int) = 1 by rw [← HCC.out]; exact h1)
            have e1 : ((c : Int) != 1) = false := by simp [h1]
            clear h1
            go_wp2_with fail
            go_round
            case rel =>
              refine ⟨k + 1, by omega, by go_num, fun j hj => ?_⟩
              rcases Nat.lt_or_ge j k with h | h
              · exact HW.out j h
              · have e : j = k := (by omega)
                rw [e]; exact HH.out
            case measure => simp [intOf]; omega
          · have HE := Lib.hid (show decide (IsOrder p) = false by
              rw [decide_eq_false_iff_not, once_iff]
              intro h
              exact h1 (by rw [HCC.out]; exact h k hlt))
            have e1 : ((c : Int) != 1) = true := by simp; omega
            clear h1
            go_wp2_with fail
            go_ret
            exact ⟨by rw [HE.out]; rfl, rfl⟩
    · obtain rfl : k = p.length := by omega
      have HE := Lib.hid (show decide (IsOrder p) = true by rw [decide_eq_true_iff, once_iff]; exact HW.out)
      go_wp2_with fail
      go_ret
      exact ⟨by rw [HE.out]; rfl, rfl⟩

end Go.Proofs.YtajcjipabfknhaaDoor
