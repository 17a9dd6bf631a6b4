/- Plain facts: the cycles of an order, each with its least number first, in order. Conditions: none. -/
import Derived.Test.YtajcjipabfknhaaDoorRound
set_option linter.unusedSimpArgs false
set_option linter.unusedVariables false
namespace Go.Proofs.YtajcjipabfknhaaDoor.P

/-- How long until it comes back. -/
def per (p : List Nat) (i : Nat) : Nat := ((List.range p.length).find? fun m => it p (m + 1) i == i).getD 0 + 1
def cyc (p : List Nat) (i : Nat) : List Nat := orb p (per p i) i
def leastB (p : List Nat) (i : Nat) : Bool := decide (∀ m, m < p.length → i ≤ it p m i)
def cycs (p : List Nat) (k : Nat) : List (List Nat) := ((List.range k).filter (leastB p)).map (cyc p)
theorem cycs_zero (p : List Nat) : cycs p 0 = [] := rfl
theorem cycs_hit {p : List Nat} {k : Nat} (h : leastB p k = true) : cycs p (k + 1) = cycs p k ++ [cyc p k] := by
  unfold cycs; rw [List.range_succ, List.filter_append, List.map_append]; simp [h]
theorem cycs_miss {p : List Nat} {k : Nat} (h : leastB p k = false) : cycs p (k + 1) = cycs p k := by
  unfold cycs; rw [List.range_succ, List.filter_append, List.map_append]; simp [h]

theorem orb_len_le {p : List Nat} (hp : Perm p) {m i : Nat} (hi : i < p.length) (hn : (orb p m i).Nodup) : m ≤ p.length := by
  have := List.Nodup.length_le_of_subset hn (l₂ := List.range p.length) fun x hx => by simpa using orb_lt hp hi hx
  simpa [orb_length] using this
theorem orb_apart {p : List Nat} {m i a b : Nat} (hn : (orb p m i).Nodup) (hab : a < b) (hb : b < m) : it p a i ≠ it p b i := by
  intro e
  rw [List.nodup_iff_pairwise_ne, List.pairwise_iff_getElem] at hn
  have := hn a b (by rw [orb_length]; omega) (by rw [orb_length]; omega) hab
  simp only [orb, List.getElem_map, List.getElem_range] at this
  exact this e
theorem per_of {p : List Nat} (hp : Perm p) {m i : Nat} (hi : i < p.length) (hm : 1 ≤ m) (hn : (orb p m i).Nodup) (hb : it p m i = i) : per p i = m := by
  have hl := orb_len_le hp hi hn
  have : (List.range p.length).find? (fun m => it p (m + 1) i == i) = some (m - 1) := by
    rw [List.find?_range_eq_some]
    refine ⟨by rw [show m - 1 + 1 = m by omega, hb]; simp, by simp; omega, fun j hj => ?_⟩
    have := orb_apart hn (a := 0) (b := j + 1) (by omega) (by omega)
    simp
    exact fun e => this (by rw [e]; rfl)
  unfold per
  rw [this]
  simp; omega
theorem orb_head {p : List Nat} {m i j : Nat} (hm : 1 ≤ m) (e : orb p m i = orb p m j) : i = j := by
  have := congrArg (fun l => l.getD 0 0) e
  rwa [getD_orb (by omega), getD_orb (by omega)] at this
theorem cyc_of {p : List Nat} (hp : Perm p) {m k : Nat} (hk : k < p.length) (h : IsRound p (orb p m k)) : 1 ≤ m ∧ it p m k = k ∧ (orb p m k).Nodup ∧ cyc p k = orb p m k := by
  obtain ⟨i, hi, h1, e, hb, hn⟩ := h
  rw [orb_length] at h1 e hb
  obtain rfl := orb_head h1 e
  exact ⟨h1, hb, hn, by unfold cyc; rw [per_of hp hk h1 hn hb]⟩
/-- Not met before: it is the least of its cycle. -/
theorem cycs_new {p : List Nat} (hp : Perm p) {m k : Nat} (hk : k < p.length) (hR : Rounds p (cycs p k)) (hall : ∀ x, x < k → x ∈ (cycs p k).flatten) (hkD : k ∉ (cycs p k).flatten) (h : IsRound p (orb p m k)) : cycs p (k + 1) = cycs p k ++ [orb p m k] := by
  have hs := Rounds.shut hp hR.1
  have hl : leastB p k = true := by
    refine decide_eq_true fun j _ => ?_
    rcases Nat.lt_or_ge (it p j k) k with hlt | hge
    · exact absurd ((hs.it hp j hk).1 (hall _ hlt)) hkD
    · exact hge
  rw [cycs_hit hl, (cyc_of hp hk h).2.2.2]
/-- Met before: it is not the least. -/
theorem cycs_old {p : List Nat} (hp : Perm p) {k : Nat} (hk : k < p.length) (hR : Rounds p (cycs p k)) (hkD : k ∈ (cycs p k).flatten) : cycs p (k + 1) = cycs p k := by
  refine cycs_miss (decide_eq_false fun hle => ?_)
  obtain ⟨c, hc, hkc⟩ := List.mem_flatten.1 hkD
  have hr := hR.1 c hc
  obtain ⟨i, hi, rfl⟩ := List.mem_map.1 hc
  have hik : i < k := by have := (List.mem_filter.1 hi).1; simpa using this
  have hip : i < p.length := by omega
  obtain ⟨h1, hb, hn, -⟩ := cyc_of hp hip hr
  obtain ⟨a, ha, e⟩ := mem_orb.1 hkc
  have hl := orb_len_le hp hip hn
  have ha0 : 1 ≤ a := by
    rcases Nat.eq_zero_or_pos a with h0 | h0
    · subst h0
      have : i = k := e
      omega
    · exact h0
  have h2 := hle (per p i - a) (by omega)
  rw [← e, ← it_add, show per p i - a + a = per p i by omega, hb, e] at h2
  omega
/-- Each number comes back. -/
theorem comes_back {p : List Nat} (hp : Perm p) {i : Nat} (hi : i < p.length) : IsRound p (cyc p i) := by
  have : ∀ n, (∃ m, (orb p m i).Nodup ∧ it p m i ∈ orb p m i) ∨ (orb p n i).Nodup := fun n => by
    induction n with
    | zero => exact .inr (by simp [orb])
    | succ n ih =>
      rcases ih with h | h
      · exact .inl h
      · by_cases hm : it p n i ∈ orb p n i
        · exact .inl ⟨n, h, hm⟩
        · refine .inr ?_
          rw [orb_succ, List.nodup_append]
          exact ⟨h, by simp, fun a ha b hb e => by
            simp at hb
            exact hm (hb ▸ e ▸ ha)⟩
  rcases this (p.length + 1) with ⟨m, hn, hm⟩ | h
  · have hr := (orb_shut hp (Shut.nil p) hi (by simp) hn (by simpa using hm)).2
    rw [(cyc_of hp hi hr).2.2.2]
    exact hr
  · have := orb_len_le hp hi h
    omega
theorem cyc_facts {p : List Nat} (hp : Perm p) {i : Nat} (hi : i < p.length) : 1 ≤ per p i ∧ per p i ≤ p.length ∧ it p (per p i) i = i ∧ (orb p (per p i) i).Nodup := by
  obtain ⟨h1, hb, hn, -⟩ := cyc_of hp hi (comes_back hp hi)
  exact ⟨h1, orb_len_le hp hi hn, hb, hn⟩
/-- The least of its cycle, told by the cycle's numbers alone. -/
theorem least_iff {p : List Nat} (hp : Perm p) {i : Nat} (hi : i < p.length) : leastB p i = true ↔ ∀ m, m < per p i → i ≤ it p m i := by
  obtain ⟨h1, h2, h3, h4⟩ := cyc_facts hp hi
  unfold leastB
  rw [decide_eq_true_iff]
  constructor
  · exact fun h m hm => h m (by omega)
  · intro h m _
    have hr := comes_back hp hi
    have hm : it p m i ∈ cyc p i := ((hr.shut hp).it hp m hi).2 (mem_orb.2 ⟨0, by omega, rfl⟩)
    obtain ⟨a, ha, e⟩ := mem_orb.1 hm
    rw [← e]
    exact h a ha

end Go.Proofs.YtajcjipabfknhaaDoor.P
