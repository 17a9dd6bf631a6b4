/- A list of numbers made whole by the call and written cell by cell. Conditions: none. -/
import Derived.Test.YtajcjipabfknhaaDoorOwn
set_option linter.unusedSimpArgs false
set_option linter.unusedVariables false
namespace Go.Proofs.YtajcjipabfknhaaDoor
open Go Go.RowKit Go.Proofs.YtajcjipabfknhaaDoor.P

theorem run_make_list (n : Nat) (hn : n ≤ 35184372088832) (w : World) :
    (Instr.makeSlice 22 (.int .i64 n) (.int .i64 n)).run Tryd.prog w = .ok (.slice (some ⟨w.heap.size, 0, none⟩) n n) (w.alloc (.cells (madeCells #[.int .i64 0] n) 3)) := by
  obtain ⟨i0, hi, hz0, hz1, hz2⟩ := info_parts int_info
  have hr := run_make (P := Tryd.prog) w 22 3 i0 (.int .i64 0) Tryd.underlying22 hi hz0 .i64 .i64 n n (by omega) (by omega) (by rw [hz2]; omega) (by omega)
  rw [hz1] at hr
  simp only [Int.toNat_natCast, Nat.mul_one] at hr
  exact hr

theorem Box.apart {w : World} {b b' : Nat} {t t' : TypeId} {cs cs' : Array Value} (h : Box w b t cs) (h' : Box w b' t' cs') (ht : t ≠ t') : b ≠ b' := fun e => by
  subst e
  unfold Box at h h'
  rw [h] at h'
  injection h' with h'
  injection h' with _ h'
  exact ht h'
/-- The block of such a list. -/
def Row (w : World) (g : Nat) (xs : List Int) : Prop := Box w g 3 (xs.map (Value.int .i64)).toArray

theorem Row.made (w : World) (n : Nat) : Row (w.alloc (.cells (madeCells #[.int .i64 0] n) 3)) w.heap.size (List.replicate n 0) := by
  have e : madeCells #[.int .i64 0] n = ((List.replicate n (0 : Int)).map (Value.int .i64)).toArray := by
    apply Array.ext
    · simp [madeCells]
    · intro i h1 h2
      simp [madeCells, Nat.mod_one]
  unfold Row
  rw [← e]
  exact Box.new w _ _
theorem Row.at_ {w : World} {g : Nat} {xs : List Int} (h : Row w g xs) {k : Nat} {x : Int} (hk : xs[k]? = some x) : w.cell? ⟨g, k, none⟩ = some (.int .i64 x) := by
  rw [Box.cell h]
  simp [hk]
theorem Row.store {w : World} {g : Nat} {xs : List Int} (h : Row w g xs) (k : Nat) (x : Int) : Row (w.setCell ⟨g, k, none⟩ (.int .i64 x)) g (xs.set k x) := by
  have := Box.store h k (.int .i64 x)
  unfold Row
  rw [List.map_set]
  simpa using this
theorem Row.isInts {w : World} {g n : Nat} {xs : List Int} (h : Row w g xs) (hn : n = xs.length) (hl : n ≤ 17592186044416) : IsInts w (.slice (some ⟨g, 0, none⟩) n n) xs := Box.isInts h hn hl

theorem IsInts.open_ {w : World} {v : Value} {xs : List Int} (h : IsInts w v xs) : ∃ A c, v = .slice A xs.length c ∧ xs.length ≤ c ∧ c ≤ 9223372036854775807 ∧ xs.length ≤ 17592186044416 ∧ Elems w A xs ∧ IsInts w (.slice A xs.length c) xs := by
  obtain ⟨A, c, rfl, h1, h2, h3, h4, h5⟩ := h
  exact ⟨A, c, rfl, h1, h2, h3, h5, ⟨A, c, rfl, h1, h2, h3, h4, h5⟩⟩

end Go.Proofs.YtajcjipabfknhaaDoor
