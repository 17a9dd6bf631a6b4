/- Plain facts: an order so many times. Conditions: none. -/
import Derived.Test.YtajcjipabfknhaaDoorOrder
set_option linter.unusedSimpArgs false
set_option linter.unusedVariables false
namespace Go.Proofs.YtajcjipabfknhaaDoor.P

/-- Where a number stands after so many times. -/
def it (p : List Nat) : Nat → Nat → Nat
  | 0, x => x
  | m + 1, x => p.getD (it p m x) 0

theorem it_add (p : List Nat) (a b x : Nat) : it p (a + b) x = it p a (it p b x) := by
  induction a with
  | zero => simp [it]
  | succ a ih => rw [Nat.add_right_comm]; simp only [it]; rw [ih]
theorem it_lt {p : List Nat} (h : Perm p) (m : Nat) {x : Nat} (hx : x < p.length) : it p m x < p.length := by
  induction m with
  | zero => exact hx
  | succ m ih => exact h.lt ih
theorem it_inj {p : List Nat} (h : Perm p) (m : Nat) {x y : Nat} (hx : x < p.length) (hy : y < p.length) (e : it p m x = it p m y) : x = y := by
  induction m with
  | zero => exact e
  | succ m ih => exact ih (h.inj (it_lt h m hx) (it_lt h m hy) e)
theorem it_times {p : List Nat} {L x : Nat} (h : it p L x = x) (k : Nat) : it p (L * k) x = x := by
  induction k with
  | zero => rfl
  | succ k ih => rw [Nat.mul_succ, Nat.add_comm, it_add, ih, h]
theorem it_mod {p : List Nat} {L x : Nat} (h : it p L x = x) (m : Nat) : it p m x = it p (m % L) x := by
  have e : m = m % L + L * (m / L) := by have := Nat.div_add_mod m L; omega
  calc it p m x = it p (m % L + L * (m / L)) x := by rw [← e]
    _ = it p (m % L) x := by rw [it_add, it_times h]

def fac : Nat → Nat
  | 0 => 1
  | n + 1 => (n + 1) * fac n
theorem fac_pos : ∀ n, 0 < fac n
  | 0 => by simp [fac]
  | n + 1 => Nat.mul_pos (by omega) (fac_pos n)
theorem dvd_fac : ∀ (n : Nat) {L : Nat}, 1 ≤ L → L ≤ n → L ∣ fac n
  | 0, L, h1, h2 => by omega
  | n + 1, L, h1, h2 => by
    by_cases e : L = n + 1
    · rw [e]; exact ⟨fac n, rfl⟩
    · exact Nat.dvd_trans (dvd_fac n h1 (by omega)) ⟨n + 1, Nat.mul_comm _ _⟩

/-- Each number comes back to where it stood. -/
theorem it_back {p : List Nat} (h : Perm p) {x : Nat} (hx : x < p.length) : ∃ L, 1 ≤ L ∧ L ≤ p.length ∧ it p L x = x := by
  have hnot : ¬ ((List.range (p.length + 1)).map fun m => it p m x).Nodup := fun hn => by
    have hs : ((List.range (p.length + 1)).map fun m => it p m x) ⊆ List.range p.length := fun y hy => by
      obtain ⟨m, _, rfl⟩ := List.mem_map.1 hy
      simpa using it_lt h m hx
    have := List.Nodup.length_le_of_subset hn hs
    simp at this
    omega
  rw [List.nodup_iff_pairwise_ne, List.pairwise_iff_getElem] at hnot
  simp only [Classical.not_forall, Decidable.not_not] at hnot
  obtain ⟨i, j, hi, hj, hij, e⟩ := hnot
  simp only [List.length_map, List.length_range] at hj
  simp only [List.getElem_map, List.getElem_range, ne_eq, Classical.not_not] at e
  refine ⟨j - i, by omega, by omega, ?_⟩
  have e2 : it p j x = it p i (it p (j - i) x) := by rw [← it_add]; congr 1; omega
  rw [e2] at e
  exact (it_inj h i hx (it_lt h _ hx) e).symm

theorem it_fac {p : List Nat} (h : Perm p) {x : Nat} (hx : x < p.length) : it p (fac p.length) x = x := by
  obtain ⟨L, h1, h2, h3⟩ := it_back h hx
  obtain ⟨k, hk⟩ := dvd_fac _ h1 h2
  rw [hk]
  exact it_times h3 k

/-- An order so many times; below 0: turned round so many times. -/
def pwr (p : List Nat) (k : Int) : List Nat := (List.range p.length).map fun x => it p (k % (fac p.length : Int)).toNat x

theorem pwr_length (p : List Nat) (k : Int) : (pwr p k).length = p.length := by simp [pwr]
theorem getD_pwr {p : List Nat} {k : Int} {x : Nat} (hx : x < p.length) : (pwr p k).getD x 0 = it p (k % (fac p.length : Int)).toNat x := by
  simp [pwr, List.getD_eq_getElem?_getD, hx]
theorem pwr_perm {p : List Nat} (h : Perm p) (k : Int) : Perm (pwr p k) := by
  apply perm_of
  · intro x hx
    rw [pwr_length] at hx ⊢
    rw [getD_pwr hx]
    exact it_lt h _ hx
  · intro x y hx hy e
    rw [pwr_length] at hx hy
    rw [getD_pwr hx, getD_pwr hy] at e
    exact it_inj h _ hx hy e

/-- Where a number comes back after L times, only what is left by L counts. -/
theorem pwr_at {p : List Nat} (h : Perm p) {k : Int} {x L : Nat} (hx : x < p.length) (hL : 1 ≤ L) (hLn : L ≤ p.length) (hb : it p L x = x) {m : Nat} (hm : (m : Int) % (L : Int) = k % (L : Int)) : (pwr p k).getD x 0 = it p m x := by
  rw [getD_pwr hx, it_mod hb, it_mod hb m]
  have hd : (L : Int) ∣ (fac p.length : Int) := Int.natCast_dvd_natCast.2 (dvd_fac _ hL hLn)
  have hf := fac_pos p.length
  have h0 := Int.emod_nonneg k (show (fac p.length : Int) ≠ 0 by omega)
  congr 1
  have e : (((k % (fac p.length : Int)).toNat % L : Nat) : Int) = ((m % L : Nat) : Int) := by
    rw [Int.natCast_emod, Int.toNat_of_nonneg h0, Int.emod_emod_of_dvd _ hd, Int.natCast_emod, hm]
  omega

theorem pwr_add {p : List Nat} (h : Perm p) (j k : Int) : aft (pwr p j) (pwr p k) = pwr p (j + k) := by
  have hf := fac_pos p.length
  apply ext_getD (by rw [aft_length, pwr_length, pwr_length])
  intro x hx
  rw [aft_length, pwr_length] at hx
  have hi := it_lt h (k % (fac p.length : Int)).toNat hx
  rw [getD_aft (by rw [pwr_length]; exact hx), getD_pwr hx, getD_pwr hi, getD_pwr hx, ← it_add, it_mod (it_fac h hx)]
  congr 1
  have h0 := Int.emod_nonneg k (show (fac p.length : Int) ≠ 0 by omega)
  have h1 := Int.emod_nonneg j (show (fac p.length : Int) ≠ 0 by omega)
  have e : ((((j % (fac p.length : Int)).toNat + (k % (fac p.length : Int)).toNat) % fac p.length : Nat) : Int) = (j + k) % (fac p.length : Int) := by
    rw [Int.natCast_emod, Int.natCast_add, Int.toNat_of_nonneg h0, Int.toNat_of_nonneg h1, ← Int.add_emod]
  omega
theorem pwr_one {p : List Nat} (h : Perm p) : pwr p 1 = p := by
  apply ext_getD (pwr_length _ _)
  intro x hx
  rw [pwr_length] at hx
  obtain ⟨L, h1, h2, h3⟩ := it_back h hx
  rw [pwr_at (k := 1) h hx h1 h2 h3 (m := 1) rfl]
  rfl
theorem pwr_back {p : List Nat} (h : Perm p) {n : Nat} (hn : ∀ x, x < p.length → ∃ L, 1 ≤ L ∧ L ≤ p.length ∧ it p L x = x ∧ L ∣ n) : pwr p n = pwr p 0 := by
  apply ext_getD (by rw [pwr_length, pwr_length])
  intro x hx
  rw [pwr_length] at hx
  obtain ⟨L, h1, h2, h3, k, rfl⟩ := hn x hx
  rw [pwr_at h hx h1 h2 h3 (m := 0) (by simp), pwr_at h hx h1 h2 h3 (m := 0) (by simp)]
theorem pwr_zero {p : List Nat} (h : Perm p) : pwr p 0 = idn p.length := by
  apply ext_getD (by rw [pwr_length, idn_length])
  intro x hx
  rw [pwr_length] at hx
  rw [getD_pwr hx, getD_idn hx]
  rfl

end Go.Proofs.YtajcjipabfknhaaDoor.P
