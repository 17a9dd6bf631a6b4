/- What the card TopTurned leans on: Row. Conditions: none but those of its theorems. -/
import Derived.Test.YtihndbkaoejnnaaGreatDoorRows
import Derived.ProofKit
import Derived.SizedLaws
import Derived.Lib.SmallJoins
import Derived.Test.YtihndbkaoejnnaaGreatDoorTurnedE
import Derived.Test.YtihndbkaoejnnaaGreatDoorTurnedC
set_option linter.unusedSimpArgs false
set_option linter.unusedVariables false
namespace Go.Proofs.YtihndbkaoejnnaaGreatDoor
open Go Go.RowKit Go.ChangeShapes Go.WideShapes Go.ChangeAt Go.Proofs.YtihndbkaoejnnaaGreatDoor.P

theorem Tryz.own : ownKnob Tryz.prog.godebug = none := by kernel_rfl
theorem Tryz.laidOut : laidOutB Tryz.prog = true := by kernel_rfl
theorem bytes_int : Tryz.prog.bytesOf 3 = 8 := by kernel_rfl
theorem cells_int : Tryz.prog.cellsOf 3 = 1 := by kernel_rfl
theorem cells_arr : Tryz.prog.cellsOf 25 = 3 := by kernel_rfl

section
variable {H : Type} {enc : TypeId × Value → H}

theorem trodAll_stays {W W' : World} (hb : Below W.heap.size W W') : ∀ {ts : List TypeId} {vs : List Value} {ds : List (DataW H)} {ps : List MemPlace}, DataW.TrodAll enc Tryz.prog W 0 (fun _ => true) true ts vs ds ps →
    (∀ t ∈ ts, Tryz.prog.readableRec t = true ∧ t < Tryz.prog.types.size) → (∀ p ∈ ps, p.block < W.heap.size) → DataW.TrodAll enc Tryz.prog W' 0 (fun b => decide (b < W.heap.size)) true ts vs ds ps
  | [], vs, ds, ps, h, _, _ => by
    obtain ⟨rfl, rfl, rfl⟩ := trodAll_nil h
    exact trodAll_mk0
  | t :: ts, vs, ds, ps, h, hr, hl => by
    obtain ⟨v, vs', d, ds', p, q, rfl, rfl, rfl, h1, h2⟩ := trodAll_cons h
    refine trodAll_cons_mk ?_ (trodAll_stays hb h2 (fun t ht => hr t (List.mem_cons_of_mem _ ht)) (fun x hx => hl x (List.mem_append_right _ hx)))
    exact Below.trod Tryz.laidOut (hr t List.mem_cons_self).1 (hr t List.mem_cons_self).2 h1 hb (fun x hx => hl x (List.mem_append_left _ hx))

/-- What a law's row asks behind the call. -/
theorem law_post {F : Func} {s : ChangeSpec} {W W' : World} {args : Array Value} {ds gs : List (DataW H)} {before : List MemPlace} (hvars : s.vars = []) (hrt : F.resultTypes.toList = [4])
    (hrl : (Value.bool true).resultList F.resultTypes.size = [.bool true]) (hread : F.params.toList.all (fun t => Tryz.prog.readableRec t && decide (t < Tryz.prog.types.size)) = true)
    (hW : DataW.Whole enc Tryz.prog F.params.toList s.vars false W args.toList ds gs before) (hfn : s.fn H (ds ++ gs) = { results := [.lit (.bool true)], args := ds }) (hb : Below W.heap.size W W') :
    s.post enc Tryz.prog F false true false false W args (.bool true) W' := by
  have hW' := hW
  obtain ⟨p, q, hA, hV, he, hfz, hnd⟩ := hW
  have hlt : ∀ x ∈ before, x.block < W.heap.size := fun x hx => by simpa using hW'.lt x hx
  rw [hvars] at hV
  obtain ⟨rfl, rfl⟩ := trodVars_none hV
  subst he
  refine ⟨ds, [], _, [], p, [], hW', ?_, ?_, ?_, hb.frame _, fun h => by cases h⟩
  · rw [hfn, hrt, hrl]
    exact trodAll_mk1 (shut_bool Tryz.underlying4 true)
  · rw [hfn]
    refine trodAll_stays hb hA (fun t ht => ?_) (fun x hx => hlt x (by simpa using hx))
    have := List.all_eq_true.1 hread t ht
    simpa using this
  · rw [hfn, hvars]
    rfl

/-- A list that came in. -/
theorem ints_in {W : World} {n : Nat} {c : Value} {y : DataW H × List MemPlace} (h : DataW.trod enc Tryz.prog W 0 (fun _ => true) true n 23 [c] = some y)
    (hs : ∀ elems spare, y.1 = .slice elems spare → (elems.length + spare.length) * 8 ≤ reachBytes) : ∃ xs, IsInts W c xs ∧ ∀ x ∈ xs, (Lit.int .i64 x).wf = true := by
  rcases open_ints Tryz.underlying23 Tryz.underlying3 cells_int h with ⟨hc, _⟩ | ⟨a, len, cap, zs, hc, _, hl, hm, hz, hx, hcell, hwz⟩
  · injection hc with hc _
    subst hc
    exact ⟨[], (Owns.nil W 0).isInts, by simp⟩
  · injection hc with hc _
    subst hc
    have hz' : zs.length = cap := by simpa using hz
    have hlen : (zs.take len).length = len := by simp; omega
    have hb := hs _ _ (by rw [hx])
    simp only [lits, List.length_map, List.length_take, List.length_drop, reachBytes] at hb
    refine ⟨zs.take len, ⟨some a, cap, by rw [hlen], by omega, by unfold maxLen at hm; omega, by omega, (fun e => by cases e), fun k x hk => ?_⟩, fun x hx => hwz x (List.mem_of_mem_take hx)⟩
    rw [List.getElem?_take] at hk
    split at hk
    · next hkl =>
      have h1 := hcell k (by omega)
      rw [List.getD_eq_getElem?_getD, hk] at h1
      exact ⟨a, rfl, by have := World.block_lt_of_cell? _ _ h1; rwa [addr_block_add] at this, h1⟩
    · cases hk

end

end Go.Proofs.YtihndbkaoejnnaaGreatDoor
