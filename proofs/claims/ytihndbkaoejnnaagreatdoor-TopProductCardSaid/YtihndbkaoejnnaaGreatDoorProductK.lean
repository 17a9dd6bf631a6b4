/- What the card TopProduct leans on: Tabs. Conditions: none but those of its theorems. -/
import Derived.MapKept
import Derived.ChangeMaps4
import Derived.Test.YtihndbkaoejnnaaGreatDoorProductB
set_option linter.unusedSimpArgs false
set_option linter.unusedVariables false
namespace Go.Proofs.YtihndbkaoejnnaaGreatDoor
open Go Go.RowKit Go.Proofs.YtihndbkaoejnnaaGreatDoor.P Go.MapKept
open Go.ChangeMaps (setBlock)

/-- The map in this block holds these, in the order of their coming. -/
def TabAt (w : World) (b : Nat) (rows : List (ByteArray × Value)) : Prop := ∃ es clock, w.heap[b]? = some (.map es clock) ∧ es.toList.map (fun e => (e.key, e.val)) = rows.map (fun p => (Value.string p.1, p.2))
def tabFind (s : ByteArray) : List (ByteArray × Value) → Option Value
  | [] => none
  | p :: l => if s = p.1 then some p.2 else tabFind s l

theorem TabAt.lt {w : World} {b : Nat} {rows : List (ByteArray × Value)} (h : TabAt w b rows) : b < w.heap.size := by
  obtain ⟨es, clock, hb, -⟩ := h
  exact (Array.getElem?_eq_some_iff.1 hb).1
theorem TabAt.kept {w w' : World} {b : Nat} {rows : List (ByteArray × Value)} {row : Option Nat} (h : TabAt w b rows) (hg : w.grownBy w' row) (hne : row ≠ some b) : TabAt w' b rows := by
  have hl := h.lt
  obtain ⟨es, clock, hb, e⟩ := h
  exact ⟨es, clock, (hg.block b hl (fun e => hne e.symm)).trans hb, e⟩
theorem TabAt.below {w w' : World} {b : Nat} {rows : List (ByteArray × Value)} (h : TabAt w b rows) (hb : Below w.heap.size w w') : TabAt w' b rows :=
  h.kept (row := none) ⟨hb.os, hb.tape, hb.output, hb.size, fun k hk _ => hb.block k hk⟩ (by simp)
theorem TabAt.made (w : World) : TabAt (w.alloc (.map #[] 0)) w.heap.size [] := ⟨#[], 0, (heap_alloc w _).1, rfl⟩

theorem bytes_same (a b : ByteArray) : (a == b) = decide (a = b) := by
  obtain ⟨a⟩ := a
  obtain ⟨b⟩ := b
  rw [show ((⟨a⟩ : ByteArray) == ⟨b⟩) = (a == b) from rfl]
  by_cases h : a = b
  · simp [h]
  · have : ¬ (⟨a⟩ : ByteArray) = ⟨b⟩ := fun e => h (by injection e)
    simp [h, this]
theorem find_tab {s : ByteArray} : ∀ {l : List MapEntry} {rows : List (ByteArray × Value)} (i : Nat), l.map (fun e => (e.key, e.val)) = rows.map (fun p => (Value.string p.1, p.2)) →
    (tabFind s rows = none ∧ Instr.findNow .string (.string s) l i = some none) ∨ ∃ v j, tabFind s rows = some v ∧ Instr.findNow .string (.string s) l i = some (some (j, v)) := by
  intro l
  induction l with
  | nil =>
    intro rows i h
    cases rows with
    | nil => exact .inl ⟨rfl, rfl⟩
    | cons p r => simp at h
  | cons e l ih =>
    intro rows i h
    cases rows with
    | nil => simp at h
    | cons p r =>
      simp only [List.map_cons, List.cons.injEq, Prod.mk.injEq] at h
      obtain ⟨⟨h1, h2⟩, h3⟩ := h
      by_cases he : s = p.1
      · refine .inr ⟨p.2, i, by simp [tabFind, he], ?_⟩
        unfold Instr.findNow
        rw [h1]
        simp [Instr.sameNow, bytes_same, he, h2]
      · have hs : Instr.sameNow .string (.string s) e.key = some false := by rw [h1]; simp [Instr.sameNow, bytes_same, he]
        have e1 : Instr.findNow .string (.string s) (e :: l) i = Instr.findNow .string (.string s) l (i + 1) := by
          conv => lhs; unfold Instr.findNow
          rw [hs]
        rw [e1, tabFind, if_neg he]
        exact ih (i + 1) h3

variable {P : Program} {w : World} {b : Nat} {rows : List (ByteArray × Value)} {t k e : TypeId}

theorem run_lookup_tab (h : TabAt w b rows) (ht : P.underlying t = some (.map k e)) (hk : P.underlying k = some .string) {z : Value} (hz : (zeroValue e).run P w = .ok z w) (s : ByteArray) :
    (Instr.lookup t (.map (some b)) (.string s) true).run P w = .ok (.tuple #[(tabFind s rows).getD z, .bool (tabFind s rows).isSome]) w := by
  obtain ⟨es, clock, hb, hr⟩ := h
  have hc : ∀ em, (Instr.checkKey em 10000 k (.string s)).run P w = .ok () w := fun em => MapKept.run_checkKey hk (by simp [IsKey]) em 9999
  rcases find_tab (s := s) 0 hr with ⟨h1, h2⟩ | ⟨v, j, h1, h2⟩
  · rw [h1]
    simp [Instr.lookup, run_underlying ht, MapKept.run_getObj_map hb, hc, MapKept.run_findKey hk h2, hz, Result.andThen]
  · rw [h1]
    simp [Instr.lookup, run_underlying ht, MapKept.run_getObj_map hb, hc, MapKept.run_findKey hk h2, Result.andThen]

theorem run_store_tab (h : TabAt w b rows) (ht : P.underlying t = some (.map k e)) (hk : P.underlying k = some .string) {s : ByteArray} (hs : tabFind s rows = none) (v : Value) :
    ∃ w', (Instr.mapUpdate t (.map (some b)) (.string s) v).run P w = .ok () w' ∧ TabAt w' b (rows ++ [(s, v)]) ∧ w.grownBy w' (some b) := by
  obtain ⟨es, clock, hb, hr⟩ := h
  have hc : ∀ em, (Instr.checkKey em 10000 k (.string s)).run P w = .ok () w := fun em => MapKept.run_checkKey hk (by simp [IsKey]) em 9999
  rcases find_tab (s := s) 0 hr with ⟨h1, h2⟩ | ⟨v, j, h1, h2⟩
  · refine ⟨{ w with heap := w.heap.setIfInBounds b (.map (es.push { key := .string s, val := v, born := clock }) (clock + 1)) }, ?_, ?_, ?_⟩
    · simp [Instr.mapUpdate, run_underlying ht, MapKept.run_getObj_map hb, hc, MapKept.run_findKey hk h2, MapKept.run_setObj_map _ hb, Result.andThen]
    · exact ⟨_, _, (heap_set hb).1, by simp [hr]⟩
    · exact ⟨rfl, rfl, rfl, by simp, fun i _ hi => (heap_set hb).2 i (fun e => hi (by rw [e]))⟩
  · rw [hs] at h1
    cases h1

end Go.Proofs.YtihndbkaoejnnaaGreatDoor
