/- What the card TopProduct leans on: Own, List, Arrays, GenRows, ArrOf, StoreList. Conditions: none but those of its theorems. -/
import Derived.Test.YtihndbkaoejnnaaGreatDoorProg
import Derived.Maps.AppendAt
import Derived.Laws.AppendOwnNone
import Derived.Deep.AppendLies
import Derived.KernelRfl
import Derived.Test.YtihndbkaoejnnaaGreatDoorProductB
set_option linter.unusedSimpArgs false
set_option linter.unusedVariables false
namespace Go.Proofs.YtihndbkaoejnnaaGreatDoor
open Go Go.RowKit Go.Proofs.YtihndbkaoejnnaaGreatDoor.P

theorem int_info : (Tryz.prog.info? 3).map (fun i => (i.zero, i.size, i.bytes)) = some (some (.int .i64 0), 1, 8) := by kernel_rfl

def nums (xs : List Int) : List Value := xs.map (Value.int .i64)
theorem length_nums (xs : List Int) : (nums xs).length = xs.length := by simp [nums]
theorem nums_one (xs : List Int) : ∀ u ∈ nums xs, u.oneCell' = true := by
  intro u hu
  simp only [nums, List.mem_map] at hu
  obtain ⟨x, _, rfl⟩ := hu
  rfl
theorem nums_at {xs : List Int} {k : Nat} {u : Value} (h : (nums xs)[k]? = some u) : ∃ x, xs[k]? = some x ∧ u = .int .i64 x := by
  simp only [nums, List.getElem?_map, Option.map_eq_some_iff] at h
  obtain ⟨x, h1, h2⟩ := h
  exact ⟨x, h1, h2.symm⟩

/-- The call's own list of n numbers, in a block from B on. -/
def Owns (w : World) (B : Nat) (v : Value) (n : Nat) (xs : List Int) : Prop := w.ownsRow B 3 1 v n (nums xs) ∧ n ≤ 17592186044416

theorem Owns.length {w : World} {B : Nat} {v : Value} {n : Nat} {xs : List Int} (h : Owns w B v n xs) : xs.length = n := by
  have := h.1.1
  rw [length_nums] at this
  omega

theorem Owns.form {w : World} {B : Nat} {v : Value} {n : Nat} {xs : List Int} (h : Owns w B v n xs) :
    ∃ A c, v = .slice A n c ∧ n ≤ c ∧ c ≤ 9223372036854775807 ∧ (A = none → c = 0) ∧ ∀ ad, A = some ad → ad.off = 0 ∧ ad.spot = none ∧ B ≤ ad.block ∧ ad.block < w.heap.size := by
  rcases h.1.2 with ⟨rfl, rfl⟩ | ⟨g, cap, cur, rfl, hb, hg, hn, hm, _⟩
  · exact ⟨none, 0, rfl, by omega, by omega, fun _ => rfl, fun ad e => by cases e⟩
  · refine ⟨some ⟨g, 0, none⟩, cap, rfl, hn, by unfold maxLen at hm; omega, (fun e => by cases e), fun ad e => ?_⟩
    cases e
    exact ⟨rfl, rfl, hb, (Array.getElem?_eq_some_iff.1 hg).1⟩

theorem Owns.isInts {w : World} {B : Nat} {v : Value} {n : Nat} {xs : List Int} (h : Owns w B v n xs) : IsInts w v xs := by
  have hl := h.length
  have h2 := h.2
  rcases h.1.2 with ⟨rfl, rfl⟩ | ⟨g, cap, cur, rfl, hb, hg, hn, hm, hs, ht⟩
  · have : xs = [] := List.eq_nil_of_length_eq_zero hl
    subst this
    exact ⟨none, 0, rfl, by simp, by omega, by simp, fun _ => rfl, fun k x hk => by simp at hk⟩
  · refine ⟨some ⟨g, 0, none⟩, cap, by rw [hl], by omega, by unfold maxLen at hm; omega, by omega, (fun e => by cases e), fun k x hk => ?_⟩
    have hc := h.1.cells (g := g) rfl k (.int .i64 x) (by simp [nums, hk])
    exact ⟨_, rfl, (Array.getElem?_eq_some_iff.1 hg).1, hc⟩

theorem Owns.nil (w : World) (B : Nat) : Owns w B (.slice none 0 0) 0 [] := ⟨World.ownsRow_nil _ _ _ _, by omega⟩
theorem Owns.alloc {w : World} {B : Nat} {v : Value} {n : Nat} {xs : List Int} (h : Owns w B v n xs) (o : Obj) : Owns (w.alloc o) B v n xs := ⟨h.1.alloc o, h.2⟩
theorem Owns.drew {w : World} {B : Nat} {v : Value} {n : Nat} {xs : List Int} (h : Owns w B v n xs) : Owns w.drew B v n xs := h
theorem Owns.drewN {w : World} {B : Nat} {v : Value} {n : Nat} {xs : List Int} (h : Owns w B v n xs) (k : Nat) : Owns (w.drewN k) B v n xs := h
theorem Owns.base {w : World} {B B' : Nat} {v : Value} {n : Nat} {xs : List Int} (h : Owns w B v n xs) (hB : B' ≤ B) : Owns w B' v n xs := by
  refine ⟨⟨h.1.1, ?_⟩, h.2⟩
  rcases h.1.2 with hn | ⟨g, cap, cur, hv, hb, r⟩
  · exact .inl hn
  · exact .inr ⟨g, cap, cur, hv, by omega, r⟩
theorem Owns.kept {w w' : World} {B : Nat} {v : Value} {n : Nat} {xs : List Int} {row : Option Nat} (h : Owns w B v n xs) (hg : w.grownBy w' row) (hne : v.ownBlock = none ∨ v.ownBlock ≠ row) : Owns w' B v n xs := ⟨h.1.kept hg hne, h.2⟩
theorem Owns.below {w w' : World} {B : Nat} {v : Value} {n : Nat} {xs : List Int} (h : Owns w B v n xs) (hb : Below w.heap.size w w') : Owns w' B v n xs :=
  h.kept (row := none) ⟨hb.os, hb.tape, hb.output, hb.size, fun k hk _ => hb.block k hk⟩ (by cases v.ownBlock <;> simp)
/-- A store into a block of another type of cells leaves it. -/
theorem Owns.setCell {w : World} {B : Nat} {v : Value} {n : Nat} {xs : List Int} (h : Owns w B v n xs) {p : Addr} (hp : v.ownBlock ≠ some p.block) (u : Value) : Owns (w.setCell p u) B v n xs := by
  refine ⟨⟨h.1.1, ?_⟩, h.2⟩
  rcases h.1.2 with hn | ⟨g, cap, cur, hv, hb, hg, r⟩
  · exact .inl hn
  · refine .inr ⟨g, cap, cur, hv, hb, ?_, r⟩
    rw [Below.heap_setCell _ _ _ _ (fun e => hp (by rw [hv, e]; rfl))]
    exact hg
theorem Owns.lt {w : World} {B : Nat} {v : Value} {n : Nat} {xs : List Int} (h : Owns w B v n xs) {k : Nat} (hk : v.ownBlock = some k) : B ≤ k ∧ k < w.heap.size := h.1.lt k hk

/-- A list of the call's own does not lie in a block of another type. -/
theorem Owns.ne_box {w : World} {B : Nat} {v : Value} {n : Nat} {xs : List Int} (h : Owns w B v n xs) {b : Nat} {t : TypeId} {cs : Array Value} (hb : Box w b t cs) (ht : t ≠ 3) : v.ownBlock ≠ some b := by
  rcases h.1.2 with ⟨rfl, _⟩ | ⟨g, cap, cur, rfl, _, hg, _⟩
  · simp [Value.ownBlock]
  · intro e
    have : g = b := by simpa [Value.ownBlock] using e
    subst this
    unfold Box at hb
    rw [hg] at hb
    injection hb with hb
    injection hb with _ hb
    exact ht hb.symm

/-- A list of the call's own does not lie below where its blocks begin. -/
theorem Owns.ne_low {w : World} {B : Nat} {v : Value} {n : Nat} {xs : List Int} (h : Owns w B v n xs) {b : Nat} (hb : b < B) : v.ownBlock ≠ some b := fun e => by
  have := (h.lt e).1
  omega

theorem elems_new (w : World) (x : Int) : Elems (w.alloc (.cells #[.int .i64 x] 3)) (some ⟨w.heap.size, 0, none⟩) [x] := by
  intro k y hk
  match k, hk with
  | 0, hk =>
    simp at hk
    subst hk
    exact ⟨_, rfl, by simp, (Box.new w 3 #[.int .i64 x]).cell 0⟩
  | k + 1, hk => simp at hk

section
variable {P : Program} (w : World)

/-- append onto the call's own list, whatever comes behind it. -/
theorem run_append_ints (ty : TypeId) (hB0 : P = Tryz.prog) (B n : Nat) (v : Value) (xs : List Int) (hown : Owns w B v n xs) (A : Option Addr) (m c : Nat) (ys : List Int) (hA : A = none → c = 0) (hy : Elems w A ys)
    (hm : ys.length = m) (h : n + m ≤ 17592186044416) (hB : B ≤ w.heap.size) :
    ∃ A' c' w', (Builtin.append_ #[23, 23] ty #[v, .slice A m c]).run P w = .ok (.slice A' (n + m) c') w' ∧ Owns w' B (.slice A' (n + m) c') (n + m) (xs ++ ys) ∧ w.grownBy w' v.ownBlock ∧
      ((Value.slice A' (n + m) c').ownBlock = v.ownBlock ∨ (Value.slice A' (n + m) c').ownBlock = some w.heap.size) := by
  subst hB0
  obtain ⟨i0, hi, hz0, hz1, hz2⟩ := info_parts int_info
  rcases A with _ | ad
  · have hm0 : m = 0 := by
      rcases Nat.eq_zero_or_pos m with h0 | h0
      · exact h0
      · obtain ⟨ad, _, e, _⟩ := hy.at_ (k := 0) (by omega)
        cases e
    have hys : ys = [] := List.eq_nil_of_length_eq_zero (by omega)
    have hc := hA rfl
    subst hm0 hys hc
    obtain ⟨A, c, rfl, _⟩ := hown.form
    have hr := run_append_owned_none (P := Tryz.prog) (w := w) B 23 ty 3 i0 1 Tryz.underlying23 hi _ n (nums xs) hown.1
    exact ⟨A, c, w, hr, by simpa using hown, World.grownBy.refl _ _, .inl rfl⟩
  · obtain ⟨v', w', hr, h2, h3, _, h5⟩ := run_append_own_at (P := Tryz.prog) w B 23 ty 3 i0 _ 1 8 Tryz.underlying23 hi hz0 hz1 hz2 rfl (by omega) v n (nums xs) hown.1 ad m c (nums ys)
      (by rw [length_nums]; omega) (fun j u hu => by
        obtain ⟨x, hx, rfl⟩ := nums_at hu
        obtain ⟨ad', e, _, hc⟩ := hy j x hx
        cases e
        exact hc) (nums_one ys) (by unfold maxLen; omega) (by omega) hB
    have ho : Owns w' B v' (n + m) (xs ++ ys) := ⟨by simpa [nums] using h2, by omega⟩
    obtain ⟨A', c', rfl, _⟩ := ho.form
    exact ⟨A', c', w', hr, ho, h3, h5⟩

theorem wp_append_ints {o : Oper} {a : Act} {K : Act → World → Prop} {Q : Exit → Act → World → Prop} (hP : P = Tryz.prog) (s x : Operand)
    (ho : o.op = .call { callee := .builtin .append, args := #[s, x], argTypes := #[23, 23] })
    (B n : Nat) (v : Value) (xs : List Int) (hs : a.eval s = v) (hown : Owns w B v n xs) (A : Option Addr) (m c : Nat) (ys : List Int) (hx : a.eval x = .slice A m c) (hA : A = none → c = 0) (hy : Elems w A ys)
    (hm : ys.length = m) (h : n + m ≤ 17592186044416) (hB : B ≤ w.heap.size)
    (hK : ∀ A' c' w', Owns w' B (.slice A' (n + m) c') (n + m) (xs ++ ys) → w.grownBy w' v.ownBlock →
      ((Value.slice A' (n + m) c').ownBlock = v.ownBlock ∨ (Value.slice A' (n + m) c').ownBlock = some w.heap.size) → K (a.put o.dst (.slice A' (n + m) c')) w') : o.wp P a w K Q := by
  obtain ⟨A', c', w', hr, h2, h3, h4⟩ := run_append_ints w o.type hP B n v xs hown A m c ys hA hy hm h hB
  unfold Oper.wp execOp
  simp only [ho, resolve, invoke, builtin, Sem.run_bind, Sem.run_pure, Result.andThen_ok, List.map_toArray, List.map_cons, List.map_nil, hs, hx, hr]
  exact hK A' c' w' h2 h3 h4

theorem wpList_append_ints {ops : Array Oper} {rest : List Oper} {o : Oper} {a : Act} {Q : Exit → Act → World → Prop} (hgd : o.guard = none) (hP : P = Tryz.prog) (s x : Operand)
    (ho : o.op = .call { callee := .builtin .append, args := #[s, x], argTypes := #[23, 23] })
    (B n : Nat) (v : Value) (xs : List Int) (hs : a.eval s = v) (hown : Owns w B v n xs) (A : Option Addr) (m c : Nat) (ys : List Int) (hx : a.eval x = .slice A m c) (hA : A = none → c = 0) (hy : Elems w A ys)
    (hm : ys.length = m) (h : n + m ≤ 17592186044416) (hB : B ≤ w.heap.size)
    (hK : ∀ A' c' w', Owns w' B (.slice A' (n + m) c') (n + m) (xs ++ ys) → w.grownBy w' v.ownBlock →
      ((Value.slice A' (n + m) c').ownBlock = v.ownBlock ∨ (Value.slice A' (n + m) c').ownBlock = some w.heap.size) → wpList P ops Q rest (a.put o.dst (.slice A' (n + m) c')) w') : wpList P ops Q (o :: rest) a w :=
  wpList_plain hgd fun _ hK' => wp_append_ints w hP s x ho B n v xs hs hown A m c ys hx hA hy hm h hB fun A' c' w' h2 h3 h4 => hK' _ _ (hK A' c' w' h2 h3 h4)

theorem step_append_ints {ops : Array Oper} {o : Oper} {a : Act} {K : Act → World → Prop} {Q : Exit → Act → World → Prop} {E : Prop} (hgd : o.guard = none) (hP : P = Tryz.prog) (s x : Operand)
    (ho : o.op = .call { callee := .builtin .append, args := #[s, x], argTypes := #[23, 23] })
    (B n : Nat) (v : Value) (xs : List Int) (hs : a.eval s = v) (hown : Owns w B v n xs) (A : Option Addr) (m c : Nat) (ys : List Int) (hx : a.eval x = .slice A m c) (hA : A = none → c = 0) (hy : Elems w A ys)
    (hm : ys.length = m) (h : n + m ≤ 17592186044416) (hB : B ≤ w.heap.size)
    (hK : ∀ A' c' w', Owns w' B (.slice A' (n + m) c') (n + m) (xs ++ ys) → w.grownBy w' v.ownBlock →
      ((Value.slice A' (n + m) c').ownBlock = v.ownBlock ∨ (Value.slice A' (n + m) c').ownBlock = some w.heap.size) → K (a.put o.dst (.slice A' (n + m) c')) w') :
    if Region.wanted o (yielded ops a.tmps) = true then Oper.wp P o a w K Q else E := by
  have hw : Region.wanted o (yielded ops a.tmps) = true := by simp [Region.wanted, hgd]
  rw [if_pos hw]
  exact wp_append_ints w hP s x ho B n v xs hs hown A m c ys hx hA hy hm h hB hK
end

end Go.Proofs.YtihndbkaoejnnaaGreatDoor

namespace Go.Proofs.YtihndbkaoejnnaaGreatDoor
open Go Go.RowKit Go.Proofs.YtihndbkaoejnnaaGreatDoor.P

theorem run_make_list (n : Nat) (hn : n ≤ 35184372088832) (w : World) :
    (Instr.makeSlice 23 (.int .i64 n) (.int .i64 n)).run Tryz.prog w = .ok (.slice (some ⟨w.heap.size, 0, none⟩) n n) (w.alloc (.cells (madeCells #[.int .i64 0] n) 3)) := by
  obtain ⟨i0, hi, hz0, hz1, hz2⟩ := info_parts int_info
  have hr := run_make (P := Tryz.prog) w 23 3 i0 (.int .i64 0) Tryz.underlying23 hi hz0 .i64 .i64 n n (by omega) (by omega) (by rw [hz2]; omega) (by omega)
  rw [hz1] at hr
  simp only [Int.toNat_natCast, Nat.mul_one] at hr
  exact hr

theorem Box.apart {w : World} {b b' : Nat} {t t' : TypeId} {cs cs' : Array Value} (h : Box w b t cs) (h' : Box w b' t' cs') (ht : t ≠ t') : b ≠ b' := fun e => by
  subst e
  unfold Box at h h'
  rw [h] at h'
  injection h' with h'
  injection h' with _ h'
  exact ht h'
/-- The block of such a list. -/
def Row (w : World) (g : Nat) (xs : List Int) : Prop := Box w g 3 (xs.map (Value.int .i64)).toArray

theorem Row.made (w : World) (n : Nat) : Row (w.alloc (.cells (madeCells #[.int .i64 0] n) 3)) w.heap.size (List.replicate n 0) := by
  have e : madeCells #[.int .i64 0] n = ((List.replicate n (0 : Int)).map (Value.int .i64)).toArray := by
    apply Array.ext
    · simp [madeCells]
    · intro i h1 h2
      simp [madeCells, Nat.mod_one]
  unfold Row
  rw [← e]
  exact Box.new w _ _
theorem Row.at_ {w : World} {g : Nat} {xs : List Int} (h : Row w g xs) {k : Nat} {x : Int} (hk : xs[k]? = some x) : w.cell? ⟨g, k, none⟩ = some (.int .i64 x) := by
  rw [Box.cell h]
  simp [hk]
theorem Row.store {w : World} {g : Nat} {xs : List Int} (h : Row w g xs) (k : Nat) (x : Int) : Row (w.setCell ⟨g, k, none⟩ (.int .i64 x)) g (xs.set k x) := by
  have := Box.store h k (.int .i64 x)
  unfold Row
  rw [List.map_set]
  simpa using this
theorem Row.isInts {w : World} {g n : Nat} {xs : List Int} (h : Row w g xs) (hn : n = xs.length) (hl : n ≤ 17592186044416) : IsInts w (.slice (some ⟨g, 0, none⟩) n n) xs := Box.isInts h hn hl

theorem IsInts.open_ {w : World} {v : Value} {xs : List Int} (h : IsInts w v xs) : ∃ A c, v = .slice A xs.length c ∧ xs.length ≤ c ∧ c ≤ 9223372036854775807 ∧ xs.length ≤ 17592186044416 ∧ Elems w A xs ∧ IsInts w (.slice A xs.length c) xs := by
  obtain ⟨A, c, rfl, h1, h2, h3, h4, h5⟩ := h
  exact ⟨A, c, rfl, h1, h2, h3, h5, ⟨A, c, rfl, h1, h2, h3, h4, h5⟩⟩

end Go.Proofs.YtihndbkaoejnnaaGreatDoor

namespace Go.Proofs.YtihndbkaoejnnaaGreatDoor
open Go Go.RowKit Go.Proofs.YtihndbkaoejnnaaGreatDoor.P

/-- The three cells of an array's struct. -/
def ArrCells (w : World) (us : List Value) (k : Nat) (b : Arr) : Prop :=
  ∃ S cs D cd, us[k * 3]? = some (.bool b.ch) ∧ us[k * 3 + 1]? = some (.slice S b.sh.length cs) ∧ us[k * 3 + 2]? = some (.slice D b.da.length cd) ∧ IsInts w (.slice S b.sh.length cs) b.sh ∧ IsInts w (.slice D b.da.length cd) b.da
theorem ArrCells.mono {w w' : World} {us : List Value} {k : Nat} {b : Arr} (h : ArrCells w us k b) (hb : Below w.heap.size w w') : ArrCells w' us k b := by
  obtain ⟨S, cs, D, cd, h1, h2, h3, h4, h5⟩ := h
  exact ⟨S, cs, D, cd, h1, h2, h3, h4.mono hb, h5.mono hb⟩
/-- These cells are those of these arrays. -/
def AllCells (w : World) (us : List Value) (bs : List Arr) : Prop := us.length = bs.length * 3 ∧ (∀ u ∈ us, u.oneCell' = true) ∧ ∀ (k : Nat) (b : Arr), bs[k]? = some b → ArrCells w us k b
theorem AllCells.mono {w w' : World} {us : List Value} {bs : List Arr} (h : AllCells w us bs) (hb : Below w.heap.size w w') : AllCells w' us bs := ⟨h.1, h.2.1, fun k b hk => (h.2.2 k b hk).mono hb⟩

/-- The cells that lie at an address. -/
def CellsAt (w : World) (A : Option Addr) (us : List Value) : Prop := ∀ (j : Nat) (u : Value), us[j]? = some u → ∃ ad, A = some ad ∧ ad.block < w.heap.size ∧ w.cell? (ad.add j) = some u
theorem CellsAt.mono {w w' : World} {A : Option Addr} {us : List Value} (h : CellsAt w A us) (hb : Below w.heap.size w w') : CellsAt w' A us := by
  intro j u hj
  obtain ⟨ad, e, hl, hc⟩ := h j u hj
  have hs := hb.size
  exact ⟨ad, e, by omega, (hb.cell (by rw [addr_block_add]; exact hl)).trans hc⟩

/-- A value stands for a list of arrays. -/
def IsArrs (w : World) (v : Value) (bs : List Arr) : Prop :=
  ∃ A c us, v = .slice A bs.length c ∧ bs.length ≤ c ∧ c ≤ 9223372036854775807 ∧ bs.length ≤ 2513169434843 ∧ (A = none → c = 0) ∧ AllCells w us bs ∧ CellsAt w A us
theorem IsArrs.mono {w w' : World} {v : Value} {bs : List Arr} (h : IsArrs w v bs) (hb : Below w.heap.size w w') : IsArrs w' v bs := by
  obtain ⟨A, c, us, e, h1, h2, h3, h4, h5, h6⟩ := h
  exact ⟨A, c, us, e, h1, h2, h3, h4, h5.mono hb, h6.mono hb⟩

/-- A list of arrays that the call itself made. -/
def OwnsA (w : World) (B : Nat) (v : Value) (n : Nat) (us : List Value) : Prop := w.ownsRow B 25 3 v n us
theorem OwnsA.one {w : World} {g : Nat} {c0 c1 c2 : Value} (h : Box w g 25 #[c0, c1, c2]) : OwnsA w g (.slice (some ⟨g, 0, none⟩) 1 1) 1 [c0, c1, c2] :=
  ⟨rfl, .inr ⟨g, 1, #[c0, c1, c2], rfl, Nat.le_refl _, h, Nat.le_refl _, by unfold maxLen; omega, rfl, rfl⟩⟩
theorem OwnsA.form {w : World} {B : Nat} {v : Value} {n : Nat} {us : List Value} (h : OwnsA w B v n us) :
    ∃ A c, v = .slice A n c ∧ n ≤ c ∧ c ≤ 9223372036854775807 ∧ (A = none → c = 0) ∧ CellsAt w A us ∧ ∀ k, v.ownBlock = some k → B ≤ k := by
  rcases h.2 with ⟨rfl, rfl⟩ | ⟨g, cap, cur, rfl, hb, hg, hn, hm, hs, ht⟩
  · refine ⟨none, 0, rfl, by omega, by omega, fun _ => rfl, fun j u hj => ?_, fun k e => by cases e⟩
    have := h.1
    simp at this
    subst this
    simp at hj
  · refine ⟨some ⟨g, 0, none⟩, cap, rfl, hn, by unfold maxLen at hm; omega, (fun e => by cases e), fun j u hj => ?_, fun k e => by cases e; exact hb⟩
    exact ⟨_, rfl, (Array.getElem?_eq_some_iff.1 hg).1, h.cells (g := g) rfl j u hj⟩

section
variable {P : Program} (w : World)

end

end Go.Proofs.YtihndbkaoejnnaaGreatDoor

namespace Go.Proofs.YtihndbkaoejnnaaGreatDoor
open Go Go.RowKit Go.Proofs.YtihndbkaoejnnaaGreatDoor.P

/-- A slice type, its element's type, so many cells, so many bytes. -/
structure Rowed (sl t : TypeId) (m by_ : Nat) : Prop where
  und : Tryz.prog.underlying sl = some (.slice t)
  info : ∃ z, (Tryz.prog.info? t).map (fun i => (i.zero, i.size, i.bytes)) = some (some z, m, by_) ∧ z.cells.size = m
  pos : 0 < m
  small : by_ ≤ 200

theorem ownsR_low {w : World} {B m n : Nat} {t : TypeId} {v : Value} {us : List Value} (h : w.ownsRow B t m v n us) {b : Nat} (hb : b < B) : v.ownBlock ≠ some b := fun e => by
  have := (h.lt b e).1
  omega
theorem ownsR_ne {w : World} {B m n : Nat} {t u : TypeId} {v : Value} {us : List Value} (h : w.ownsRow B t m v n us) {b : Nat} {cs : Array Value} (hb : Box w b u cs) (ht : u ≠ t) : v.ownBlock ≠ some b := by
  rcases h.2 with ⟨rfl, _⟩ | ⟨g, cap, cur, rfl, _, hg, _⟩
  · simp [Value.ownBlock]
  · intro e
    have : g = b := by simpa [Value.ownBlock] using e
    subst this
    unfold Box at hb
    rw [hg] at hb
    injection hb with hb
    injection hb with _ hb
    exact ht hb.symm
theorem ownsR_away {w : World} {B m n : Nat} {t : TypeId} {v : Value} {us : List Value} (h : w.ownsRow B t m v n us) {p : Addr} (hp : v.ownBlock ≠ some p.block) (u : Value) : (w.setCell p u).ownsRow B t m v n us := by
  refine ⟨h.1, ?_⟩
  rcases h.2 with hn | ⟨g, cap, cur, hv, hb, hg, r⟩
  · exact .inl hn
  · refine .inr ⟨g, cap, cur, hv, hb, ?_, r⟩
    rw [Below.heap_setCell _ _ _ _ (fun e => hp (by rw [hv, e]; rfl))]
    exact hg
theorem ownsR_base {w : World} {B B' m n : Nat} {t : TypeId} {v : Value} {us : List Value} (h : w.ownsRow B t m v n us) (hB : B' ≤ B) : w.ownsRow B' t m v n us := by
  refine ⟨h.1, ?_⟩
  rcases h.2 with hn | ⟨g, cap, cur, hv, hb, r⟩
  · exact .inl hn
  · exact .inr ⟨g, cap, cur, hv, by omega, r⟩
theorem ownsR_below {w w' : World} {B m n : Nat} {t : TypeId} {v : Value} {us : List Value} (h : w.ownsRow B t m v n us) (hb : Below w.heap.size w w') : w'.ownsRow B t m v n us :=
  h.kept (row := none) ⟨hb.os, hb.tape, hb.output, hb.size, fun k hk _ => hb.block k hk⟩ (by cases v.ownBlock <;> simp)
theorem ownsR_form {w : World} {B m n : Nat} {t : TypeId} {v : Value} {us : List Value} (h : w.ownsRow B t m v n us) :
    ∃ A c, v = .slice A n c ∧ n ≤ c ∧ c ≤ 9223372036854775807 ∧ (A = none → c = 0) ∧ CellsAt w A us ∧ ∀ k, v.ownBlock = some k → B ≤ k := by
  rcases h.2 with ⟨rfl, rfl⟩ | ⟨g, cap, cur, rfl, hb, hg, hn, hm, hs, ht⟩
  · refine ⟨none, 0, rfl, by omega, by omega, fun _ => rfl, fun j u hj => ?_, fun k e => by cases e⟩
    have := h.1
    simp at this
    subst this
    simp at hj
  · refine ⟨some ⟨g, 0, none⟩, cap, rfl, hn, by unfold maxLen at hm; omega, (fun e => by cases e), fun j u hj => ?_, fun k e => by cases e; exact hb⟩
    exact ⟨_, rfl, (Array.getElem?_eq_some_iff.1 hg).1, h.cells (g := g) rfl j u hj⟩

section
variable {P : Program} (w : World)

theorem run_append_rows (ty sl t : TypeId) (mm by_ : Nat) (R : Rowed sl t mm by_) (hB0 : P = Tryz.prog) (B n : Nat) (v : Value) (us : List Value) (hown : w.ownsRow B t mm v n us) (A : Option Addr) (m c : Nat) (ws : List Value) (hA : A = none → c = 0) (hmc : m ≤ c) (hy : CellsAt w A ws)
    (h1 : ∀ u ∈ ws, u.oneCell' = true) (hm : ws.length = m * mm) (h : n + m ≤ 1000000000) (hB : B ≤ w.heap.size) :
    ∃ A' c' w', (Builtin.append_ #[sl, sl] ty #[v, .slice A m c]).run P w = .ok (.slice A' (n + m) c') w' ∧ w'.ownsRow B t mm (.slice A' (n + m) c') (n + m) (us ++ ws) ∧ w.grownBy w' v.ownBlock ∧
      ((Value.slice A' (n + m) c').ownBlock = v.ownBlock ∨ (Value.slice A' (n + m) c').ownBlock = some w.heap.size) := by
  subst hB0
  obtain ⟨z, hz, hz3⟩ := R.info
  obtain ⟨i0, hi, hz0, hz1, hz2⟩ := info_parts hz
  rcases A with _ | ad
  · have hc := hA rfl
    have hm0 : m = 0 := by omega
    subst hm0 hc
    have hws : ws = [] := List.eq_nil_of_length_eq_zero (by omega)
    subst hws
    obtain ⟨A', c', rfl, -⟩ := ownsR_form hown
    have hr := run_append_owned_none (P := Tryz.prog) (w := w) B sl ty t i0 mm R.und hi _ n us hown
    exact ⟨A', c', w, hr, by simpa using hown, World.grownBy.refl _ _, .inl rfl⟩
  · have hb0 : 8 * by_ ≤ 1600 := by have := R.small; omega
    obtain ⟨v', w', hr, h2, h3, _, h5⟩ := run_append_own_at (P := Tryz.prog) w B sl ty t i0 _ mm by_ R.und hi hz0 hz1 hz2 hz3 R.pos v n us hown ad m c ws hm
      (fun j u hu => by
        obtain ⟨ad', e, _, hc⟩ := hy j u hu
        cases e
        exact hc) h1 (by unfold maxLen; omega) (by have := Nat.mul_le_mul h R.small; omega) hB
    obtain ⟨A', c', rfl, -⟩ := ownsR_form h2
    exact ⟨A', c', w', hr, h2, h3, h5⟩

theorem wp_append_rows {o : Oper} {a : Act} {K : Act → World → Prop} {Q : Exit → Act → World → Prop} (sl t : TypeId) (mm by_ : Nat) (R : Rowed sl t mm by_) (hP : P = Tryz.prog) (s x : Operand)
    (ho : o.op = .call { callee := .builtin .append, args := #[s, x], argTypes := #[sl, sl] })
    (B n : Nat) (v : Value) (us : List Value) (hs : a.eval s = v) (hown : w.ownsRow B t mm v n us) (A : Option Addr) (m c : Nat) (ws : List Value) (hx : a.eval x = .slice A m c) (hA : A = none → c = 0) (hmc : m ≤ c) (hy : CellsAt w A ws)
    (h1 : ∀ u ∈ ws, u.oneCell' = true) (hm : ws.length = m * mm) (h : n + m ≤ 1000000000) (hB : B ≤ w.heap.size)
    (hK : ∀ A' c' w', w'.ownsRow B t mm (.slice A' (n + m) c') (n + m) (us ++ ws) → w.grownBy w' v.ownBlock →
      ((Value.slice A' (n + m) c').ownBlock = v.ownBlock ∨ (Value.slice A' (n + m) c').ownBlock = some w.heap.size) → K (a.put o.dst (.slice A' (n + m) c')) w') : o.wp P a w K Q := by
  obtain ⟨A', c', w', hr, h2, h3, h4⟩ := run_append_rows w o.type sl t mm by_ R hP B n v us hown A m c ws hA hmc hy h1 hm h hB
  unfold Oper.wp execOp
  simp only [ho, resolve, invoke, builtin, Sem.run_bind, Sem.run_pure, Result.andThen_ok, List.map_toArray, List.map_cons, List.map_nil, hs, hx, hr]
  exact hK A' c' w' h2 h3 h4

theorem wpList_append_rows {ops : Array Oper} {rest : List Oper} {o : Oper} {a : Act} {Q : Exit → Act → World → Prop} (hgd : o.guard = none) (sl t : TypeId) (mm by_ : Nat) (R : Rowed sl t mm by_) (hP : P = Tryz.prog) (s x : Operand)
    (ho : o.op = .call { callee := .builtin .append, args := #[s, x], argTypes := #[sl, sl] })
    (B n : Nat) (v : Value) (us : List Value) (hs : a.eval s = v) (hown : w.ownsRow B t mm v n us) (A : Option Addr) (m c : Nat) (ws : List Value) (hx : a.eval x = .slice A m c) (hA : A = none → c = 0) (hmc : m ≤ c) (hy : CellsAt w A ws)
    (h1 : ∀ u ∈ ws, u.oneCell' = true) (hm : ws.length = m * mm) (h : n + m ≤ 1000000000) (hB : B ≤ w.heap.size)
    (hK : ∀ A' c' w', w'.ownsRow B t mm (.slice A' (n + m) c') (n + m) (us ++ ws) → w.grownBy w' v.ownBlock →
      ((Value.slice A' (n + m) c').ownBlock = v.ownBlock ∨ (Value.slice A' (n + m) c').ownBlock = some w.heap.size) → wpList P ops Q rest (a.put o.dst (.slice A' (n + m) c')) w') : wpList P ops Q (o :: rest) a w :=
  wpList_plain hgd fun _ hK' => wp_append_rows w sl t mm by_ R hP s x ho B n v us hs hown A m c ws hx hA hmc hy h1 hm h hB fun A' c' w' h2 h3 h4 => hK' _ _ (hK A' c' w' h2 h3 h4)

theorem step_append_rows {ops : Array Oper} {o : Oper} {a : Act} {K : Act → World → Prop} {Q : Exit → Act → World → Prop} {E : Prop} (hgd : o.guard = none) (sl t : TypeId) (mm by_ : Nat) (R : Rowed sl t mm by_) (hP : P = Tryz.prog) (s x : Operand)
    (ho : o.op = .call { callee := .builtin .append, args := #[s, x], argTypes := #[sl, sl] })
    (B n : Nat) (v : Value) (us : List Value) (hs : a.eval s = v) (hown : w.ownsRow B t mm v n us) (A : Option Addr) (m c : Nat) (ws : List Value) (hx : a.eval x = .slice A m c) (hA : A = none → c = 0) (hmc : m ≤ c) (hy : CellsAt w A ws)
    (h1 : ∀ u ∈ ws, u.oneCell' = true) (hm : ws.length = m * mm) (h : n + m ≤ 1000000000) (hB : B ≤ w.heap.size)
    (hK : ∀ A' c' w', w'.ownsRow B t mm (.slice A' (n + m) c') (n + m) (us ++ ws) → w.grownBy w' v.ownBlock →
      ((Value.slice A' (n + m) c').ownBlock = v.ownBlock ∨ (Value.slice A' (n + m) c').ownBlock = some w.heap.size) → K (a.put o.dst (.slice A' (n + m) c')) w') :
    if Region.wanted o (yielded ops a.tmps) = true then Oper.wp P o a w K Q else E := by
  have hw : Region.wanted o (yielded ops a.tmps) = true := by simp [Region.wanted, hgd]
  rw [if_pos hw]
  exact wp_append_rows w sl t mm by_ R hP s x ho B n v us hs hown A m c ws hx hA hmc hy h1 hm h hB hK
end

theorem rowed_tok : Rowed 62 113 5 48 := ⟨Tryz.underlying62, ⟨.agg #[.int .i64 0, .int .i64 0, .int .i64 0, .string ⟨#[]⟩, .int .i64 0], by kernel_rfl, by kernel_rfl⟩, by decide, by decide⟩

end Go.Proofs.YtihndbkaoejnnaaGreatDoor

namespace Go.Proofs.YtihndbkaoejnnaaGreatDoor
open Go Go.RowKit Go.Proofs.YtihndbkaoejnnaaGreatDoor.P

theorem IsArr.shapeOf {w : World} {b : Bool} {s d : Value} {a : Arr} (h : IsArr w (.agg #[.bool b, s, d]) a) : IsInts w s a.sh := by
  obtain ⟨s', d', e, h1, h2⟩ := h
  injection e with e
  injection e with e
  injection e with _ e
  injection e with e e2
  subst e
  exact h1
theorem IsArr.dataOf {w : World} {b : Bool} {s d : Value} {a : Arr} (h : IsArr w (.agg #[.bool b, s, d]) a) : IsInts w d a.da := by
  obtain ⟨s', d', e, h1, h2⟩ := h
  injection e with e
  injection e with e
  injection e with _ e
  injection e with _ e
  injection e with e _
  subst e
  exact h2

/-- An array whose lists lie in blocks from B on. -/
def NewV (B : Nat) (v : Value) : Prop := ∃ b A n c D m d, v = .agg #[.bool b, .slice A n c, .slice D m d] ∧ (∀ k, (Value.slice A n c).ownBlock = some k → B ≤ k) ∧ (∀ k, (Value.slice D m d).ownBlock = some k → B ≤ k)
theorem NewV.low {B B' : Nat} {v : Value} (h : NewV B v) (hB : B' ≤ B) : NewV B' v := by
  obtain ⟨b, A, n, c, D, m, d, e, h1, h2⟩ := h
  exact ⟨b, A, n, c, D, m, d, e, fun k hk => Nat.le_trans hB (h1 k hk), fun k hk => Nat.le_trans hB (h2 k hk)⟩
theorem IsInts.away {w : World} {v : Value} {xs : List Int} (h : IsInts w v xs) {g k : Nat} (hg : v.ownBlock ≠ some g) (u : Value) : IsInts (w.setCell ⟨g, k, none⟩ u) v xs :=
  h.grown (grownBy_setCell w g k u) fun A n c e e2 => hg (by rw [e, ← e2]; rfl)
theorem IsArr.away {w : World} {v : Value} {a : Arr} (h : IsArr w v a) {B : Nat} (hn : NewV B v) {g k : Nat} (hg : g < B) (u : Value) : IsArr (w.setCell ⟨g, k, none⟩ u) v a := by
  obtain ⟨s, d, e, h1, h2⟩ := h
  obtain ⟨b, A, n, c, D, m, d', e', n1, n2⟩ := hn
  rw [e] at e'
  injection e' with e'
  injection e' with e'
  injection e' with _ e'
  injection e' with e1 e'
  injection e' with e2 _
  subst e1 e2
  exact ⟨_, _, e, h1.away (fun x => by have := n1 _ x; omega) u, h2.away (fun x => by have := n2 _ x; omega) u⟩

theorem newV {B n c m d : Nat} {b : Bool} {A D : Option Addr} (h1 : ∀ k, (Value.slice A n c).ownBlock = some k → B ≤ k) (h2 : ∀ k, (Value.slice D m d).ownBlock = some k → B ≤ k) : NewV B (.agg #[.bool b, .slice A n c, .slice D m d]) := ⟨_, _, _, _, _, _, _, rfl, h1, h2⟩
theorem Owns.from_ {w : World} {B B' n : Nat} {v : Value} {xs : List Int} (h : Owns w B v n xs) (hB : B' ≤ B) : ∀ k, v.ownBlock = some k → B' ≤ k := fun k hk => Nat.le_trans hB (h.lt hk).1
theorem block_from {B g o n c : Nat} (h : B ≤ g) : ∀ k, (Value.slice (some ⟨g, o, none⟩) n c).ownBlock = some k → B ≤ k := fun k e => by
  cases e
  exact h

def GivesN (a : Arr) (w : World) (e : Ending) (w' : World) : Prop := ∃ r, e = .returned r ∧ IsArr w' r a ∧ Below w.heap.size w w' ∧ NewV w.heap.size r
def GivesOkN (a : Arr) (w : World) (e : Ending) (w' : World) : Prop := ∃ r, e = .returned (.tuple #[r, .nilIface]) ∧ IsArr w' r a ∧ Below w.heap.size w w' ∧ NewV w.heap.size r
theorem GivesN.old {a : Arr} {w w' : World} {e : Ending} (h : GivesN a w e w') : Gives a w e w' := by
  obtain ⟨r, h1, h2, h3, _⟩ := h
  exact ⟨r, h1, h2, h3⟩
theorem GivesOkN.old {a : Arr} {w w' : World} {e : Ending} (h : GivesOkN a w e w') : GivesOk a w e w' := by
  obtain ⟨r, h1, h2, h3, _⟩ := h
  exact ⟨r, h1, h2, h3⟩

/-- A call tells an array in new blocks, or an error. -/
def ToldN (a : Arr) (k : Int) (w : World) (e : Ending) (w' : World) : Prop := (k = 0 ∧ GivesOkN a w e w') ∨ (k ≠ 0 ∧ Fails zeroArr k w e w')
theorem ToldN.ok {a : Arr} {k : Int} {w w' : World} {e : Ending} (h : ToldN a k w e w') (hk : k = 0) : GivesOkN a w e w' := by
  rcases h with h | h
  · exact h.2
  · exact absurd hk h.1

end Go.Proofs.YtihndbkaoejnnaaGreatDoor

namespace Go.Proofs.YtihndbkaoejnnaaGreatDoor
open Go Go.RowKit Go.Proofs.YtihndbkaoejnnaaGreatDoor.P

/-- These cells bear these numbers. -/
def Bears (cs : Array Value) (xs : List Int) : Prop := ∀ (k : Nat) (x : Int), xs[k]? = some x → cs[k]? = some (.int .i64 x)
theorem Bears.set {cs : Array Value} {xs : List Int} (h : Bears cs xs) (i : Nat) (x : Int) : Bears (cs.setIfInBounds i (.int .i64 x)) (xs.set i x) := fun k y hk => by
  rw [List.getElem?_set] at hk
  rw [Array.getElem?_setIfInBounds]
  by_cases e : i = k
  · subst e
    rw [if_pos rfl] at hk ⊢
    by_cases hl : i < xs.length
    · rw [if_pos hl] at hk
      injection hk with hk
      have := h i _ (List.getElem?_eq_getElem hl)
      rw [if_pos (Array.getElem?_eq_some_iff.1 this).1, hk]
    · rw [if_neg hl] at hk; cases hk
  · rw [if_neg e] at hk ⊢
    exact h k y hk

theorem addr_zero_add (g k : Nat) : (⟨g, 0, none⟩ : Addr).add k = ⟨g, k, none⟩ := by
  unfold Addr.add
  by_cases h : k = 0 <;> simp [h]
/-- A list of n numbers in a block of its own. -/
def Mine (w : World) (g n c : Nat) (xs : List Int) : Prop := ∃ cs, Box w g 3 cs ∧ Bears cs xs ∧ xs.length = n ∧ n ≤ c ∧ c ≤ 9223372036854775807 ∧ n ≤ 17592186044416
theorem Mine.isInts {w : World} {g n c : Nat} {xs : List Int} (h : Mine w g n c xs) : IsInts w (.slice (some ⟨g, 0, none⟩) n c) xs := by
  obtain ⟨cs, hb, hc, rfl, h1, h2, h3⟩ := h
  refine ⟨some ⟨g, 0, none⟩, c, rfl, h1, h2, h3, (fun e => by cases e), fun k x hk => ⟨⟨g, 0, none⟩, rfl, Box.lt hb, ?_⟩⟩
  rw [addr_zero_add, Box.cell hb]
  exact hc k x hk
theorem Mine.store {w : World} {g n c : Nat} {xs : List Int} (h : Mine w g n c xs) (i : Nat) (x : Int) : Mine (w.setCell ⟨g, i, none⟩ (.int .i64 x)) g n c (xs.set i x) := by
  obtain ⟨cs, hb, hc, hl, h1, h2, h3⟩ := h
  exact ⟨_, Box.store hb i _, hc.set i x, by simp [hl], h1, h2, h3⟩
theorem Mine.cell {w : World} {g n c : Nat} {xs : List Int} (h : Mine w g n c xs) {k : Nat} {x : Int} (hk : xs[k]? = some x) : w.cell? ⟨g, k, none⟩ = some (.int .i64 x) := by
  obtain ⟨cs, hb, hc, -⟩ := h
  rw [Box.cell hb]
  exact hc k x hk
theorem Mine.frozen {w : World} {g n c : Nat} {xs : List Int} (h : Mine w g n c xs) (k : Nat) : w.frozen? ⟨g, k, none⟩ = false := by
  obtain ⟨cs, hb, -⟩ := h
  exact Box.frozen hb k
theorem Mine.lt {w : World} {g n c : Nat} {xs : List Int} (h : Mine w g n c xs) : g < w.heap.size := by
  obtain ⟨cs, hb, -⟩ := h
  exact Box.lt hb
theorem Mine.mono {w w' : World} {g n c : Nat} {xs : List Int} (h : Mine w g n c xs) (hb : Below w.heap.size w w') : Mine w' g n c xs := by
  obtain ⟨cs, h0, h1⟩ := h
  exact ⟨cs, Box.below h0 hb, h1⟩
theorem Mine.drewN {w : World} {g n c : Nat} {xs : List Int} (h : Mine w g n c xs) (k : Nat) : Mine (w.drewN k) g n c xs := h

end Go.Proofs.YtihndbkaoejnnaaGreatDoor
