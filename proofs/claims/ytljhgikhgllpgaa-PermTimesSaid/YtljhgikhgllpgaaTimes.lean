/- Plain facts: as often as its cycles' lengths ask for is not at all. Conditions: none. -/
import Derived.Test.YtljhgikhgllpgaaCyclesWalk
namespace Go.Proofs.Ytljhgikhgllpgaa
open Go Go.RowKit Go.Proofs.Ytljhgikhgllpgaa.P

theorem wrap_mul_nat {z m t : Nat} (h : z * m = t) (ht : t ≤ 1048576) : wrap64 ((z : Int) * m) = (t : Int) := by
  subst h
  rw [← Int.natCast_mul]
  unfold wrap64
  omega

def mulAll : List Nat → Nat
  | [] => 1
  | x :: xs => x * mulAll xs
theorem mulAll_append : ∀ (a b : List Nat), mulAll (a ++ b) = mulAll a * mulAll b
  | [], b => by simp [mulAll]
  | x :: a, b => by simp [mulAll, mulAll_append a b, Nat.mul_assoc]
theorem mulAll_take {l : List Nat} {k x : Nat} (h : l[k]? = some x) : mulAll (l.take (k + 1)) = mulAll (l.take k) * x := by
  rw [List.take_add_one, h, mulAll_append]
  simp [mulAll]
theorem mulAll_le : ∀ (l : List Nat), mulAll l ≤ 2 ^ l.sum
  | [] => by simp [mulAll]
  | x :: l => by
    have h1 := mulAll_le l
    have h2 : x ≤ 2 ^ x := Nat.le_of_lt Nat.lt_two_pow_self
    simp only [mulAll, List.sum_cons, Nat.pow_add]
    exact Nat.mul_le_mul h2 h1
theorem mulAll_pos : ∀ {l : List Nat}, (∀ x ∈ l, 1 ≤ x) → 1 ≤ mulAll l
  | [], _ => by simp [mulAll]
  | x :: l, h => Nat.mul_pos (h x List.mem_cons_self) (mulAll_pos fun y hy => h y (List.mem_cons_of_mem _ hy))
theorem dvd_mulAll : ∀ {l : List Nat} {x : Nat}, x ∈ l → x ∣ mulAll l
  | y :: l, x, h => by
    rcases List.mem_cons.1 h with h | h
    · rw [h]; exact ⟨mulAll l, rfl⟩
    · obtain ⟨k, hk⟩ := dvd_mulAll h
      exact ⟨y * k, by simp only [mulAll]; rw [hk, Nat.mul_left_comm]⟩

/-- The lengths of those of more than one number. -/
def lens (xs : List Cyc) : List Nat := (xs.filter fun x => 1 < x.2.length).map fun x => x.2.length
theorem lens_length (xs : List Cyc) : (lens xs).length = (longs xs).length := by simp [lens, longs]
theorem lens_sum : ∀ (xs : List Cyc), (lens xs).sum ≤ (xs.map Prod.snd).flatten.length
  | [] => by simp [lens]
  | x :: xs => by
    have := lens_sum xs
    unfold lens at *
    by_cases h : 1 < x.2.length
    · simp only [h, decide_true, List.filter_cons_of_pos, List.map_cons, List.sum_cons, List.flatten_cons, List.length_append]
      omega
    · simp only [h, decide_false, Bool.false_eq_true, not_false_eq_true, List.filter_cons_of_neg, List.map_cons, List.flatten_cons, List.length_append]
      omega
theorem lens_two {xs : List Cyc} {x : Nat} (h : x ∈ lens xs) : 2 ≤ x := by
  simp only [lens, List.mem_map, List.mem_filter] at h
  obtain ⟨y, ⟨_, hy⟩, rfl⟩ := h
  have := of_decide_eq_true hy
  omega
theorem lens_le {p : List Nat} (hp : Perm p) {xs : List Cyc} (h : SC p xs) : (lens xs).sum ≤ p.length := Nat.le_trans (lens_sum xs) (h.1.len hp)
theorem le_sum : ∀ {l : List Nat} {x : Nat}, x ∈ l → x ≤ l.sum
  | y :: l, x, h => by
    rw [List.sum_cons]
    rcases List.mem_cons.1 h with h | h
    · omega
    · have := le_sum h; omega
theorem sum_take_le (l : List Nat) (k : Nat) : (l.take k).sum ≤ l.sum := by
  conv => rhs; rw [← List.take_append_drop k l, List.sum_append_nat]
  omega

theorem times_back {p : List Nat} (hp : Perm p) {xs : List Cyc} (h : SC p xs) : pwr p (mulAll (lens xs) : Nat) = pwr p 0 := by
  refine pwr_back hp fun x hx => ?_
  obtain ⟨c, hc, hm⟩ := List.mem_flatten.1 (h.2 x hx)
  obtain ⟨i, hi, hl, e, hb, hn⟩ := h.1.1 c hc
  have hcl : c.length ≤ p.length := by
    have := List.Nodup.length_le_of_subset hn (l₂ := List.range p.length) fun y hy => by
      rw [e] at hy
      simpa using orb_lt hp hi hy
    simpa using this
  have hbx : it p c.length x = x := by
    rw [e] at hm
    obtain ⟨k, _, ek⟩ := mem_orb.1 hm
    rw [← ek, ← it_add, Nat.add_comm, it_add, hb]
  refine ⟨c.length, hl, hcl, hbx, ?_⟩
  by_cases h1 : 1 < c.length
  · obtain ⟨y, hy, rfl⟩ := List.mem_map.1 hc
    exact dvd_mulAll (List.mem_map.2 ⟨y, List.mem_filter.2 ⟨hy, by simpa using h1⟩, rfl⟩)
  · rw [show c.length = 1 by omega]
    exact Nat.one_dvd _

theorem longs_at {xs : List Cyc} (hs : ∀ x ∈ xs, ∃ A c, x.1 = Value.slice A x.2.length c) {k : Nat} {v : Value} (h : (longs xs)[k]? = some v) : ∃ A m c, v = .slice A m c ∧ (lens xs)[k]? = some m := by
  simp only [longs, List.getElem?_map, Option.map_eq_some_iff] at h
  obtain ⟨x, hx, rfl⟩ := h
  obtain ⟨A, c, e⟩ := hs x (List.mem_filter.1 (List.mem_of_getElem? hx)).1
  exact ⟨A, _, c, e, by simp [lens, hx]⟩

theorem cycles_ok (v : Value) (p : List Nat) (w : World) (h1 : IsInts w v (ints p)) (hp : Perm p) (hl : p.length ≤ 4096) :
    Calls Try.prog 27 #[v] w fun e w' => ∃ r xs, e = .returned (.tuple #[r, .nilIface]) ∧ IsVals w' r (longs xs) ∧ SC p xs ∧ (∀ x ∈ xs, ∃ A c, x.1 = .slice A x.2.length c) ∧ Below w.heap.size w w' :=
  callsIn_wide.1 (cycles_in Fence.wide 3 rfl (Nat.le_refl _) v p w h1 hp hl)

end Go.Proofs.Ytljhgikhgllpgaa
