/- What the card TopProduct leans on: Delete. Conditions: none but those of its theorems. -/
import Derived.Shelf.Slices.Delete
import Derived.Test.YtihndbkaoejnnaaGreatDoorProductC
set_option linter.unusedSimpArgs false
set_option linter.unusedVariables false
namespace Go.Proofs.YtihndbkaoejnnaaGreatDoor
open Go Go.RowKit Go.Shelf Go.Proofs.YtihndbkaoejnnaaGreatDoor.P

def delRen : Ren := ⟨fun | 23 => 23 | n => n, fun | 0 => 0 | 3 => 3 | 4 => 4 | 22 => 23 | n => n, fun n => n⟩

theorem delLays : Lays2.n23 Tryz.prog delRen := {
  mixed := by kernel_rfl
  f23 := Tryz.func23
  t0 := Tryz.underlying0
  a0 := Tryz.isAgg0
  z0 := Tryz.sizeOf0
  v0 := Tryz.zeroValue0
  t3 := Tryz.underlying3
  a3 := Tryz.isAgg3
  z3 := Tryz.sizeOf3
  v3 := Tryz.zeroValue3
  t4 := Tryz.underlying4
  a4 := Tryz.isAgg4
  z4 := Tryz.sizeOf4
  v4 := Tryz.zeroValue4
  t22 := Tryz.underlying23
  a22 := Tryz.isAgg23
  z22 := Tryz.sizeOf23
  v22 := Tryz.zeroValue23
  i3 := by kernel_rfl
}

theorem putRow_block {w : World} {g : Nat} {cs : Array Value} {t : TypeId} (h : Box w g t cs) (enc : Int → Value) (d : Array Int) (q : Nat) : Box (Sort.putRow enc (Sort.ahead w q) g 0 d) g t (Sort.putCells enc 0 d cs) := by
  have h' : w.heap[g]? = some (.cells cs t (0, 0)) := h
  show (w.heap.modify g (Sort.onCells (Sort.putCells enc 0 d)))[g]? = _
  rw [Array.getElem?_modify, if_pos rfl, h']
  rfl
theorem putRow_grown (w : World) (g : Nat) (enc : Int → Value) (d : Array Int) (q : Nat) : w.grownBy (Sort.putRow enc (Sort.ahead w q) g 0 d) (some g) := by
  refine ⟨rfl, rfl, rfl, ?_, fun k hk hne => ?_⟩
  · show w.heap.size ≤ (w.heap.modify g _).size
    rw [Array.size_modify]
    exact Nat.le_refl _
  · show (w.heap.modify g _)[k]? = _
    rw [Array.getElem?_modify, if_neg fun e => hne (by rw [e])]

theorem delete_ok (B g m c d : Nat) (l : List Int) (w : World) (hown : Owns w B (.slice (some ⟨g, 0, none⟩) m c) m l) (hd : d < m) :
    Calls Tryz.prog 23 #[.slice (some ⟨g, 0, none⟩) m c, .int .i64 d, .int .i64 ((d : Int) + 1)] w fun e w' =>
      e = .returned (.slice (some ⟨g, 0, none⟩) (m - 1) c) ∧ Owns w' B (.slice (some ⟨g, 0, none⟩) (m - 1) c) (m - 1) (l.eraseIdx d) ∧ w.grownBy w' (some g) := by
  have hl := hown.length
  have hb2 := hown.2
  subst hl
  rcases hown.1.2 with ⟨e, _⟩ | ⟨g', cap, cur, e, hb, hg, hn, hmx, hsz, htk⟩
  · cases e
  · injection e with e1 e2 e3
    injection e1 with e1
    injection e1 with e1 _ _
    subst e1 e3
    have hbox : Box w g 3 cur := hg
    rw [Nat.mul_one] at hsz htk
    have hcell : ∀ (k : Nat) (x : Int), l[k]? = some x → cur[k]? = some (.int .i64 x) := fun k x hk => by
      have hkl := (List.getElem?_eq_some_iff.1 hk).1
      have h1 : (cur.toList.take l.length)[k]? = (nums l)[k]? := by rw [htk]
      rw [List.getElem?_take, if_pos hkl, Array.getElem?_toList] at h1
      rw [h1]
      simp [nums, hk]
    have hH : Sort.Holds (Value.int .i64) w g 0 l.toArray := fun j hj => by
      have hj' : j < l.length := by simpa using hj
      refine ⟨?_, Box.frozen hbox _⟩
      rw [Box.cell hbox, Nat.zero_add, hcell j l[j] (List.getElem?_eq_getElem hj')]
      simp [hj']
    have h := Any.slices_Delete_int delLays g 0 c d (d + 1) l w hH hn (by unfold maxLen at hmx; omega) (by omega) (by omega)
    refine h.mono fun e w' ⟨he, q, hw⟩ => ?_
    have el : l.take d ++ l.drop (d + 1) = l.eraseIdx d := (List.eraseIdx_eq_take_drop_succ l d).symm
    rw [el] at hw
    have hbx := putRow_block hbox (Value.int .i64) (l.eraseIdx d ++ List.replicate (d + 1 - d) 0).toArray q
    have hgr := putRow_grown w g (Value.int .i64) (l.eraseIdx d ++ List.replicate (d + 1 - d) 0).toArray q
    rw [← hw] at hbx hgr
    have hle : (l.eraseIdx d).length = l.length - 1 := List.length_eraseIdx_of_lt hd
    refine ⟨by rw [he, show d + 1 - d = 1 by omega], ⟨⟨?_, .inr ⟨g, c, _, rfl, hb, hbx, by omega, hmx, ?_, ?_⟩⟩, by omega⟩, hgr⟩
    · rw [length_nums, hle, Nat.mul_one]
    · rw [Nat.mul_one]; simp [Sort.putCells, hsz]
    · rw [Nat.mul_one]
      apply List.ext_getElem?
      intro k
      rw [List.getElem?_take]
      by_cases hk : k < l.length - 1
      · rw [if_pos hk, Array.getElem?_toList]
        have hkc : k < cur.size := by omega
        have hke : k < (l.eraseIdx d).length := by omega
        simp only [Sort.putCells, Array.getElem?_mapIdx, Array.getElem?_eq_getElem hkc, Option.map_some]
        rw [if_pos (by simp; omega)]
        have e3 : (l.eraseIdx d ++ List.replicate (d + 1 - d) 0).toArray[k - 0]! = (l.eraseIdx d)[k] := by
          rw [Nat.sub_zero, getElem!_pos _ k (by simp; omega)]
          simp [List.getElem_append_left hke]
        rw [e3]
        simp only [nums, List.getElem?_map, List.getElem?_eq_getElem hke, Option.map_some]
      · rw [if_neg hk, List.getElem?_eq_none (by rw [length_nums]; omega)]

end Go.Proofs.YtihndbkaoejnnaaGreatDoor
