/- What the card TopProduct leans on: Mem, More, Horner. Conditions: none but those of its theorems. -/
import Derived.WalkKit
import Derived.WalkSpells
import Derived.WalkLawsBesides
import Derived.Lib.Hide
import Derived.Handy
import Derived.Test.YtihndbkaoejnnaaGreatDoorProductA
set_option linter.unusedSimpArgs false
set_option linter.unusedVariables false
namespace Go.Proofs.YtihndbkaoejnnaaGreatDoor
open Go Go.RowKit Go.Proofs.YtihndbkaoejnnaaGreatDoor.P

theorem addr_block_add (a : Addr) (n : Nat) : (a.add n).block = a.block := by unfold Addr.add; split <;> rfl

/-- The elements of a slice are these numbers. -/
def IsInts (w : World) (v : Value) (xs : List Int) : Prop :=
  ∃ (A : Option Addr) (c : Nat), v = .slice A xs.length c ∧ xs.length ≤ c ∧ c ≤ 9223372036854775807 ∧ xs.length ≤ 17592186044416 ∧ (A = none → c = 0) ∧
    ∀ k x, xs[k]? = some x → ∃ ad, A = some ad ∧ ad.block < w.heap.size ∧ w.cell? (ad.add k) = some (.int .i64 x)

/-- The same, in parts: its address, its length, its capacity. -/
def Elems (w : World) (A : Option Addr) (xs : List Int) : Prop :=
  ∀ k x, xs[k]? = some x → ∃ ad, A = some ad ∧ ad.block < w.heap.size ∧ w.cell? (ad.add k) = some (.int .i64 x)

theorem Elems.mono {w w' : World} {A : Option Addr} {xs : List Int} (h : Elems w A xs) (hb : Below w.heap.size w w') : Elems w' A xs := by
  intro k x hk
  obtain ⟨ad, e, hl, hc⟩ := h k x hk
  have hs := hb.size
  exact ⟨ad, e, by omega, (hb.cell (by rw [addr_block_add]; exact hl)).trans hc⟩

theorem IsInts.mono {w w' : World} {v : Value} {xs : List Int} (h : IsInts w v xs) (hb : Below w.heap.size w w') : IsInts w' v xs := by
  obtain ⟨A, c, e, h1, h2, h3, h5, h4⟩ := h
  exact ⟨A, c, e, h1, h2, h3, h5, Elems.mono h4 hb⟩

theorem Elems.at_ {w : World} {A : Option Addr} {xs : List Int} (h : Elems w A xs) {k : Nat} (hk : k < xs.length) :
    ∃ ad x, A = some ad ∧ xs[k]? = some x ∧ ad.block < w.heap.size ∧ w.cell? (ad.add k) = some (.int .i64 x) := by
  obtain ⟨ad, e, hl, hc⟩ := h k xs[k] (List.getElem?_eq_getElem hk)
  exact ⟨ad, xs[k], e, List.getElem?_eq_getElem hk, hl, hc⟩

theorem Elems.later {w wr : World} {A : Option Addr} {xs : List Int} (h : Elems w A xs) (hb : Below w.heap.size w wr) {k : Nat} (hk : k < xs.length) :
    ∃ ad x, A = some ad ∧ xs[k]? = some x ∧ ad.block < w.heap.size ∧ wr.cell? (ad.add k) = some (.int .i64 x) := by
  obtain ⟨ad, x, e, hx, hl, hc⟩ := h.at_ hk
  exact ⟨ad, x, e, hx, hl, (hb.cell (by rw [addr_block_add]; exact hl)).trans hc⟩

/-- An array, as a struct's value. -/
def IsArr (w : World) (v : Value) (a : Arr) : Prop := ∃ s d, v = .agg #[.bool a.ch, s, d] ∧ IsInts w s a.sh ∧ IsInts w d a.da

theorem IsArr.mono {w w' : World} {v : Value} {a : Arr} (h : IsArr w v a) (hb : Below w.heap.size w w') : IsArr w' v a := by
  obtain ⟨s, d, e, h1, h2⟩ := h
  exact ⟨s, d, e, h1.mono hb, h2.mono hb⟩

theorem ret_bool {a b : Bool} (h : a = b) : Ending.returned (.bool a) = .returned (.bool b) := by rw [h]
theorem ret_int {k : IntKind} {a b : Int} (h : a = b) : Ending.returned (.int k a) = .returned (.int k b) := by rw [h]
theorem below_draws (B : Nat) (w : World) (n : Nat) : Below B w (w.drewN n) := ⟨rfl, rfl, rfl, Nat.le_refl _, fun _ _ => rfl⟩

theorem bcell {W w1 : World} (hb : Below W.heap.size W w1) : (∀ b o, b < W.heap.size → w1.cell? ⟨b, o, none⟩ = W.cell? ⟨b, o, none⟩) ∧ (∀ b o, b < W.heap.size → w1.frozen? ⟨b, o, none⟩ = W.frozen? ⟨b, o, none⟩) :=
  ⟨fun b o h => hb.cell (p := ⟨b, o, none⟩) h, fun b o h => hb.frozen (p := ⟨b, o, none⟩) h⟩

theorem below_one (w : World) (o1 : Obj) : Below w.heap.size w (w.alloc o1) := (Below.refl _ _).alloc (Nat.le_refl _) o1
theorem below_two (w : World) (o1 o2 : Obj) : Below w.heap.size w ((w.alloc o1).alloc o2) := (below_one w o1).alloc (by simp) o2
theorem below_three (w : World) (o1 o2 o3 : Obj) : Below w.heap.size w (((w.alloc o1).alloc o2).alloc o3) := (below_two w o1 o2).alloc (by simp; omega) o3

/-- A call tells whether it is so, and nothing that was there has turned. -/
def TellsB (p : Prop) (w : World) (e : Ending) (w' : World) : Prop := ∃ r : Bool, e = .returned (.bool r) ∧ (r = true ↔ p) ∧ Below w.heap.size w w'
theorem tells_yes {p : Prop} {w w' : World} {v : Value} (hv : v = .bool true) (h : p) (hb : Below w.heap.size w w') : TellsB p w (.returned v) w' := ⟨true, by rw [hv], by simp [h], hb⟩
theorem tells_no {p : Prop} {w w' : World} {v : Value} (hv : v = .bool false) (h : ¬ p) (hb : Below w.heap.size w w') : TellsB p w (.returned v) w' := ⟨false, by rw [hv], by simp [h], hb⟩

/-- Two lists agree as far as k. -/
def SameTo (k : Nat) (xs ys : List Int) : Prop := xs.take k = ys.take k
theorem SameTo.zero (xs ys : List Int) : SameTo 0 xs ys := by simp [SameTo]
theorem SameTo.succ {k : Nat} {xs ys : List Int} {x : Int} (h : SameTo k xs ys) (hx : xs[k]? = some x) (hy : ys[k]? = some x) : SameTo (k + 1) xs ys := by
  unfold SameTo at *
  rw [List.take_add_one, List.take_add_one, h, hx, hy]
theorem SameTo.all {k : Nat} {xs ys : List Int} (h : SameTo k xs ys) (hx : xs.length ≤ k) (hy : ys.length ≤ k) : xs = ys := by
  unfold SameTo at h
  rwa [List.take_of_length_le hx, List.take_of_length_le hy] at h

theorem IsArr.open_ {w : World} {v : Value} {a : Arr} (h : IsArr w v a) : ∃ A ca D cd, v = .agg #[.bool a.ch, .slice A a.sh.length ca, .slice D a.da.length cd] ∧
    IsInts w (.slice A a.sh.length ca) a.sh ∧ IsInts w (.slice D a.da.length cd) a.da := by
  obtain ⟨s, d, e, h1, h2⟩ := h
  obtain ⟨A, ca, e1, _⟩ := id h1
  obtain ⟨D, cd, e2, _⟩ := id h2
  subst e1 e2
  exact ⟨A, ca, D, cd, e, h1, h2⟩

/-- A block that is known whole: these cells, of this type. -/
def Box (w : World) (b : Nat) (t : TypeId) (cs : Array Value) : Prop := w.heap[b]? = some (.cells cs t (0, 0))
theorem Box.lt {w : World} {b : Nat} {t : TypeId} {cs : Array Value} (h : Box w b t cs) : b < w.heap.size := (Array.getElem?_eq_some_iff.1 h).1
theorem Box.cell {w : World} {b : Nat} {t : TypeId} {cs : Array Value} (h : Box w b t cs) (i : Nat) : w.cell? ⟨b, i, none⟩ = cs[i]? := cell_of_row w b i cs t (0, 0) h
theorem Box.frozen {w : World} {b : Nat} {t : TypeId} {cs : Array Value} (h : Box w b t cs) (i : Nat) : w.frozen? ⟨b, i, none⟩ = false := by
  unfold Box at h
  simp [World.frozen?, h]
theorem Box.new (w : World) (t : TypeId) (cs : Array Value) : Box (w.alloc (.cells cs t)) w.heap.size t cs := heap_alloc_new w _
theorem Box.alloc {w : World} {b : Nat} {t : TypeId} {cs : Array Value} (h : Box w b t cs) (o : Obj) : Box (w.alloc o) b t cs := (Below.heap_alloc w o b h.lt).trans h
theorem Box.drewN {w : World} {b : Nat} {t : TypeId} {cs : Array Value} (h : Box w b t cs) (n : Nat) : Box (w.drewN n) b t cs := h
theorem Box.drew {w : World} {b : Nat} {t : TypeId} {cs : Array Value} (h : Box w b t cs) : Box w.drew b t cs := h
theorem Box.store {w : World} {b : Nat} {t : TypeId} {cs : Array Value} (h : Box w b t cs) (i : Nat) (u : Value) : Box (w.setCell ⟨b, i, none⟩ u) b t (cs.setIfInBounds i u) := by
  unfold Box at h ⊢
  simp [World.setCell, Array.getElem?_modify, h]
theorem Box.far {w : World} {b : Nat} {t : TypeId} {cs : Array Value} (h : Box w b t cs) {p : Addr} (hp : b ≠ p.block) (u : Value) : Box (w.setCell p u) b t cs := (Below.heap_setCell w p u b hp).trans h
theorem Box.below {w w' : World} {b : Nat} {t : TypeId} {cs : Array Value} (h : Box w b t cs) (hb : Below w.heap.size w w') : Box w' b t cs := (hb.block b h.lt).trans h
theorem Box.grown {w w' : World} {b : Nat} {t : TypeId} {cs : Array Value} {row : Option Nat} (h : Box w b t cs) (hb : w.grownBy w' row) (hg : row ≠ some b) : Box w' b t cs := (hb.block b h.lt (fun e => hg e.symm)).trans h

theorem Box.three {w : World} {b : Nat} {t : TypeId} {c0 c1 c2 : Value} (h : Box w b t #[c0, c1, c2]) :
    w.cell? ⟨b, 0, none⟩ = some c0 ∧ w.cell? ⟨b, 1, none⟩ = some c1 ∧ w.cell? ⟨b, 2, none⟩ = some c2 := ⟨h.cell 0, h.cell 1, h.cell 2⟩
theorem Box.one {w : World} {b : Nat} {t : TypeId} {c0 : Value} (h : Box w b t #[c0]) : w.cell? ⟨b, 0, none⟩ = some c0 := h.cell 0
theorem Box.two {w : World} {b : Nat} {t : TypeId} {c0 c1 : Value} (h : Box w b t #[c0, c1]) : w.cell? ⟨b, 0, none⟩ = some c0 ∧ w.cell? ⟨b, 1, none⟩ = some c1 := ⟨h.cell 0, h.cell 1⟩

theorem cell_kept1 {w w1 : World} {o : Obj} {row : Option Nat} {p : Addr} {u : Value} (h : w.cell? p = some u) (hg : ((w.alloc o).drew).grownBy w1 row) (hne : row ≠ some p.block) : w1.cell? p = some u :=
  hg.cell (w := (w.alloc o).drew) (a := p) ((World.cell?_alloc_lt w o p (World.block_lt_of_cell? w p h)).trans h) (fun e => hne e.symm)

theorem grownBy_setCell (w : World) (b i : Nat) (u : Value) : w.grownBy (w.setCell ⟨b, i, none⟩ u) (some b) :=
  ⟨rfl, rfl, rfl, by simp [World.setCell], fun k _ hne => Below.heap_setCell w ⟨b, i, none⟩ u k (fun e => hne (by rw [e]))⟩
theorem grownBy_trans {a b c : World} {r : Option Nat} (h : a.grownBy b r) (k : b.grownBy c r) : a.grownBy c r :=
  ⟨k.os.trans h.os, k.tape.trans h.tape, k.output.trans h.output, Nat.le_trans h.size k.size, fun i hi hn => (k.block i (Nat.lt_of_lt_of_le hi h.size) hn).trans (h.block i hi hn)⟩
/-- A struct of three fields stored into a block. -/
theorem grownBy_three (w : World) (b : Nat) (u0 u1 u2 : Value) : w.grownBy (((w.setCell ⟨b, 0, none⟩ u0).setCell ⟨b, 1, none⟩ u1).setCell ⟨b, 2, none⟩ u2) (some b) :=
  grownBy_trans (grownBy_trans (grownBy_setCell _ _ _ _) (grownBy_setCell _ _ _ _)) (grownBy_setCell _ _ _ _)
/-- What lies elsewhere reads as it did, behind writes into one new block. -/
theorem IsInts.grown {w w' : World} {v : Value} {xs : List Int} {b : Nat} (h : IsInts w v xs) (hg : w.grownBy w' (some b)) (hb : ∀ A n c, v = .slice (some A) n c → A.block ≠ b) : IsInts w' v xs := by
  obtain ⟨A, c, e, h1, h2, h3, h5, h4⟩ := h
  refine ⟨A, c, e, h1, h2, h3, h5, fun k x hk => ?_⟩
  obtain ⟨ad, ha, hl, hc⟩ := h4 k x hk
  subst ha
  refine ⟨ad, rfl, Nat.lt_of_lt_of_le hl hg.size, ?_⟩
  have hne := hb ad _ _ e
  exact hg.cell hc (fun e' => hne (by rw [addr_block_add] at e'; injection e'))
theorem Box.isInts {w : World} {b : Nat} {t : TypeId} {xs : List Int} {n : Nat} (h : Box w b t (xs.map (Value.int .i64)).toArray) (hn : n = xs.length) (hl : n ≤ 17592186044416) : IsInts w (.slice (some ⟨b, 0, none⟩) n n) xs := by
  subst hn
  refine ⟨_, _, rfl, Nat.le_refl _, by omega, hl, (fun e => by cases e), fun k x hk => ⟨_, rfl, h.lt, ?_⟩⟩
  have e : (⟨b, 0, none⟩ : Addr).add k = ⟨b, k, none⟩ := by unfold Addr.add; split <;> simp_all
  rw [e, h.cell]
  simp [hk]

/-- No cell of them is a number. -/
def NoInts (cs : Array Value) : Prop := ∀ (i : Nat) (n : Int), cs[i]? ≠ some (.int .i64 n)
theorem noInts_arr (b : Bool) (A D : Option Addr) (n c m d : Nat) : NoInts #[.bool b, .slice A n c, .slice D m d] := by
  intro i k
  match i with
  | 0 => simp
  | 1 => simp
  | 2 => simp
  | j + 3 => simp
/-- A list lies in no block whose cells are no numbers. -/
theorem Elems.off {w : World} {A : Option Addr} {xs : List Int} (h : Elems w A xs) {b : Nat} {t : TypeId} {cs : Array Value} (hb : Box w b t cs) (hn : NoInts cs) {k : Nat} (hk : k < xs.length) {ad : Addr} (ha : A = some ad) : ad.block ≠ b := by
  intro e
  obtain ⟨ad', x, ha', _, _, hc⟩ := h.at_ hk
  rw [ha] at ha'
  cases ha'
  subst e
  unfold Box at hb
  unfold World.cell? at hc
  rw [addr_block_add, hb] at hc
  simp only at hc
  split at hc
  · cases hc
  · exact hn _ _ hc
theorem IsInts.off {w w' : World} {v : Value} {xs : List Int} (h : IsInts w v xs) {b : Nat} {t : TypeId} {cs : Array Value} (hg : w.grownBy w' (some b)) (hb : Box w b t cs) (hn : NoInts cs) : IsInts w' v xs := by
  obtain ⟨A, c, e, h1, h2, h3, h5, h4⟩ := h
  refine ⟨A, c, e, h1, h2, h3, h5, fun k x hk => ?_⟩
  obtain ⟨ad, ha, hl, hc⟩ := h4 k x hk
  have hne := Elems.off h4 hb hn (List.getElem?_eq_some_iff.1 hk).1 ha
  exact ⟨ad, ha, Nat.lt_of_lt_of_le hl hg.size, hg.cell hc (fun e' => hne (by rw [addr_block_add] at e'; injection e'))⟩

/-- An error of this number. -/
def errV (k : Int) : Value := if k = 0 then .nilIface else .iface 54 (.int .i64 k)
theorem errV_zero : errV 0 = .nilIface := rfl
theorem errV_ne {k : Int} (h : k ≠ 0) : errV k = .iface 54 (.int .i64 k) := if_neg h

/-- The value of an array without anything. -/
abbrev zeroArr : Value := .agg #[.bool false, .slice none 0 0, .slice none 0 0]
/-- A call tells an array. -/
def Gives (a : Arr) (w : World) (e : Ending) (w' : World) : Prop := ∃ r, e = .returned r ∧ IsArr w' r a ∧ Below w.heap.size w w'
/-- A call tells an array, and that nothing is wrong. -/
def GivesOk (a : Arr) (w : World) (e : Ending) (w' : World) : Prop := ∃ r, e = .returned (.tuple #[r, .nilIface]) ∧ IsArr w' r a ∧ Below w.heap.size w w'
/-- A call tells what is wrong. -/
def Fails (z : Value) (k : Int) (w : World) (e : Ending) (w' : World) : Prop := e = .returned (.tuple #[z, .iface 54 (.int .i64 k)]) ∧ Below w.heap.size w w'
theorem noInts_zero : NoInts #[.bool false, .slice none 0 0, .slice none 0 0] := noInts_arr _ _ _ _ _ _ _

end Go.Proofs.YtihndbkaoejnnaaGreatDoor

namespace Go.Proofs.YtihndbkaoejnnaaGreatDoor
open Go Go.RowKit

theorem below_four (w : World) (o1 o2 o3 o4 : Obj) : Below w.heap.size w ((((w.alloc o1).alloc o2).alloc o3).alloc o4) := (below_three w o1 o2 o3).alloc (by simp; omega) o4
end Go.Proofs.YtihndbkaoejnnaaGreatDoor

namespace Go.Proofs.YtihndbkaoejnnaaGreatDoor.P
open Go Go.RowKit

theorem wrap_eq (n : Int) : ∃ q : Int, wrap64 n = n + q * 18446744073709551616 := by
  unfold wrap64
  exact ⟨-((n + 9223372036854775808) / 18446744073709551616), by omega⟩
theorem wrap_congr {a b : Int} (h : ∃ q : Int, a = b + q * 18446744073709551616) : wrap64 a = wrap64 b := by
  obtain ⟨q, rfl⟩ := h
  unfold wrap64
  omega
theorem wrap_add_l (a b : Int) : wrap64 (wrap64 a + b) = wrap64 (a + b) := by
  obtain ⟨q, e⟩ := wrap_eq a
  exact wrap_congr ⟨q, by rw [e]; omega⟩
theorem wrap_mul_l (a b : Int) : wrap64 (wrap64 a * b) = wrap64 (a * b) := by
  obtain ⟨q, e⟩ := wrap_eq a
  exact wrap_congr ⟨q * b, by rw [e, Int.add_mul, Int.mul_right_comm]⟩
theorem wrap_mul_r (a b : Int) : wrap64 (a * wrap64 b) = wrap64 (a * b) := by
  rw [Int.mul_comm, wrap_mul_l, Int.mul_comm]

def hv (bs ds : List Int) : Int := (bs.zip ds).foldl (fun n p => n * p.1 + p.2) 0
def sums (e f : List Int) : List Int := (e.zip f).map fun p => p.1 + p.2

theorem sums_at {e f : List Int} {k : Nat} {x y : Int} (hx : e[k]? = some x) (hy : f[k]? = some y) : (sums e f)[k]? = some (x + y) := by
  have h : (e.zip f)[k]? = some (x, y) := List.getElem?_zip_eq_some.2 ⟨hx, hy⟩
  simp only [sums, List.getElem?_map, h, Option.map_some]

def SumsTo (k : Nat) (e f g : List Int) : Prop := ∀ (j : Nat) (x y : Int), j < k → (sums e f)[j]? = some x → g[j]? = some y → y = wrap64 x
theorem SumsTo.zero (e f g : List Int) : SumsTo 0 e f g := fun j x y h => by omega
theorem SumsTo.succ {k : Nat} {e f g : List Int} {x y : Int} (h : SumsTo k e f g) (hx : e[k]? = some x) (hy : f[k]? = some y) (hk : k < g.length) : SumsTo (k + 1) e f (g.set k (wrap64 (x + y))) := by
  intro j u v hj hu hv
  by_cases e1 : j = k
  · subst e1
    rw [sums_at hx hy] at hu
    rw [List.getElem?_set_self hk] at hv
    injection hu with hu
    injection hv with hv
    rw [← hu, hv]
  · rw [List.getElem?_set_ne (by omega)] at hv
    exact h j u v (by omega) hu hv

end Go.Proofs.YtihndbkaoejnnaaGreatDoor.P
