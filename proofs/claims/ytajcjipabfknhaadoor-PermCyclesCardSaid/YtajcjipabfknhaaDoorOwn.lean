/- Lists of numbers that a call itself makes: what append, make and a store leave of them. Conditions: none. -/
import Derived.Test.YtajcjipabfknhaaDoorProg
import Derived.Test.YtajcjipabfknhaaDoorMem
import Derived.Maps.AppendAt
import Derived.Laws.AppendOwnNone
import Derived.Deep.AppendLies
import Derived.KernelRfl
set_option linter.unusedSimpArgs false
set_option linter.unusedVariables false
namespace Go.Proofs.YtajcjipabfknhaaDoor
open Go Go.RowKit Go.Proofs.YtajcjipabfknhaaDoor.P

theorem int_info : (Tryd.prog.info? 3).map (fun i => (i.zero, i.size, i.bytes)) = some (some (.int .i64 0), 1, 8) := by kernel_rfl

def nums (xs : List Int) : List Value := xs.map (Value.int .i64)
theorem length_nums (xs : List Int) : (nums xs).length = xs.length := by simp [nums]
theorem nums_one (xs : List Int) : ∀ u ∈ nums xs, u.oneCell' = true := by
  intro u hu
  simp only [nums, List.mem_map] at hu
  obtain ⟨x, _, rfl⟩ := hu
  rfl
theorem nums_at {xs : List Int} {k : Nat} {u : Value} (h : (nums xs)[k]? = some u) : ∃ x, xs[k]? = some x ∧ u = .int .i64 x := by
  simp only [nums, List.getElem?_map, Option.map_eq_some_iff] at h
  obtain ⟨x, h1, h2⟩ := h
  exact ⟨x, h1, h2.symm⟩

/-- The call's own list of n numbers, in a block from B on. -/
def Owns (w : World) (B : Nat) (v : Value) (n : Nat) (xs : List Int) : Prop := w.ownsRow B 3 1 v n (nums xs) ∧ n ≤ 17592186044416

theorem Owns.length {w : World} {B : Nat} {v : Value} {n : Nat} {xs : List Int} (h : Owns w B v n xs) : xs.length = n := by
  have := h.1.1
  rw [length_nums] at this
  omega

theorem Owns.form {w : World} {B : Nat} {v : Value} {n : Nat} {xs : List Int} (h : Owns w B v n xs) :
    ∃ A c, v = .slice A n c ∧ n ≤ c ∧ c ≤ 9223372036854775807 ∧ (A = none → c = 0) ∧ ∀ ad, A = some ad → ad.off = 0 ∧ ad.spot = none ∧ B ≤ ad.block ∧ ad.block < w.heap.size := by
  rcases h.1.2 with ⟨rfl, rfl⟩ | ⟨g, cap, cur, rfl, hb, hg, hn, hm, _⟩
  · exact ⟨none, 0, rfl, by omega, by omega, fun _ => rfl, fun ad e => by cases e⟩
  · refine ⟨some ⟨g, 0, none⟩, cap, rfl, hn, by unfold maxLen at hm; omega, (fun e => by cases e), fun ad e => ?_⟩
    cases e
    exact ⟨rfl, rfl, hb, (Array.getElem?_eq_some_iff.1 hg).1⟩

theorem Owns.isInts {w : World} {B : Nat} {v : Value} {n : Nat} {xs : List Int} (h : Owns w B v n xs) : IsInts w v xs := by
  have hl := h.length
  have h2 := h.2
  rcases h.1.2 with ⟨rfl, rfl⟩ | ⟨g, cap, cur, rfl, hb, hg, hn, hm, hs, ht⟩
  · have : xs = [] := List.eq_nil_of_length_eq_zero hl
    subst this
    exact ⟨none, 0, rfl, by simp, by omega, by simp, fun _ => rfl, fun k x hk => by simp at hk⟩
  · refine ⟨some ⟨g, 0, none⟩, cap, by rw [hl], by omega, by unfold maxLen at hm; omega, by omega, (fun e => by cases e), fun k x hk => ?_⟩
    have hc := h.1.cells (g := g) rfl k (.int .i64 x) (by simp [nums, hk])
    exact ⟨_, rfl, (Array.getElem?_eq_some_iff.1 hg).1, hc⟩

theorem Owns.nil (w : World) (B : Nat) : Owns w B (.slice none 0 0) 0 [] := ⟨World.ownsRow_nil _ _ _ _, by omega⟩
theorem Owns.alloc {w : World} {B : Nat} {v : Value} {n : Nat} {xs : List Int} (h : Owns w B v n xs) (o : Obj) : Owns (w.alloc o) B v n xs := ⟨h.1.alloc o, h.2⟩
theorem Owns.drew {w : World} {B : Nat} {v : Value} {n : Nat} {xs : List Int} (h : Owns w B v n xs) : Owns w.drew B v n xs := h
theorem Owns.drewN {w : World} {B : Nat} {v : Value} {n : Nat} {xs : List Int} (h : Owns w B v n xs) (k : Nat) : Owns (w.drewN k) B v n xs := h
theorem Owns.base {w : World} {B B' : Nat} {v : Value} {n : Nat} {xs : List Int} (h : Owns w B v n xs) (hB : B' ≤ B) : Owns w B' v n xs := by
  refine ⟨⟨h.1.1, ?_⟩, h.2⟩
  rcases h.1.2 with hn | ⟨g, cap, cur, hv, hb, r⟩
  · exact .inl hn
  · exact .inr ⟨g, cap, cur, hv, by omega, r⟩
theorem Owns.kept {w w' : World} {B : Nat} {v : Value} {n : Nat} {xs : List Int} {row : Option Nat} (h : Owns w B v n xs) (hg : w.grownBy w' row) (hne : v.ownBlock = none ∨ v.ownBlock ≠ row) : Owns w' B v n xs := ⟨h.1.kept hg hne, h.2⟩
theorem Owns.below {w w' : World} {B : Nat} {v : Value} {n : Nat} {xs : List Int} (h : Owns w B v n xs) (hb : Below w.heap.size w w') : Owns w' B v n xs :=
  h.kept (row := none) ⟨hb.os, hb.tape, hb.output, hb.size, fun k hk _ => hb.block k hk⟩ (by cases v.ownBlock <;> simp)
/-- A store into a block of another type of cells leaves it. -/
theorem Owns.setCell {w : World} {B : Nat} {v : Value} {n : Nat} {xs : List Int} (h : Owns w B v n xs) {p : Addr} (hp : v.ownBlock ≠ some p.block) (u : Value) : Owns (w.setCell p u) B v n xs := by
  refine ⟨⟨h.1.1, ?_⟩, h.2⟩
  rcases h.1.2 with hn | ⟨g, cap, cur, hv, hb, hg, r⟩
  · exact .inl hn
  · refine .inr ⟨g, cap, cur, hv, hb, ?_, r⟩
    rw [Below.heap_setCell _ _ _ _ (fun e => hp (by rw [hv, e]; rfl))]
    exact hg
theorem Owns.lt {w : World} {B : Nat} {v : Value} {n : Nat} {xs : List Int} (h : Owns w B v n xs) {k : Nat} (hk : v.ownBlock = some k) : B ≤ k ∧ k < w.heap.size := h.1.lt k hk

/-- A list of the call's own does not lie in a block of another type. -/
theorem Owns.ne_box {w : World} {B : Nat} {v : Value} {n : Nat} {xs : List Int} (h : Owns w B v n xs) {b : Nat} {t : TypeId} {cs : Array Value} (hb : Box w b t cs) (ht : t ≠ 3) : v.ownBlock ≠ some b := by
  rcases h.1.2 with ⟨rfl, _⟩ | ⟨g, cap, cur, rfl, _, hg, _⟩
  · simp [Value.ownBlock]
  · intro e
    have : g = b := by simpa [Value.ownBlock] using e
    subst this
    unfold Box at hb
    rw [hg] at hb
    injection hb with hb
    injection hb with _ hb
    exact ht hb.symm

/-- A list of the call's own does not lie below where its blocks begin. -/
theorem Owns.ne_low {w : World} {B : Nat} {v : Value} {n : Nat} {xs : List Int} (h : Owns w B v n xs) {b : Nat} (hb : b < B) : v.ownBlock ≠ some b := fun e => by
  have := (h.lt e).1
  omega

theorem elems_new (w : World) (x : Int) : Elems (w.alloc (.cells #[.int .i64 x] 3)) (some ⟨w.heap.size, 0, none⟩) [x] := by
  intro k y hk
  match k, hk with
  | 0, hk =>
    simp at hk
    subst hk
    exact ⟨_, rfl, by simp, (Box.new w 3 #[.int .i64 x]).cell 0⟩
  | k + 1, hk => simp at hk

/-- A part of a list. -/
theorem run_slice_part (A : Option Addr) (n c L H : Nat) (lo hi : Option Value) (hlo : (lo = none ∧ L = 0) ∨ lo = some (.int .i64 L)) (hhi : (hi = none ∧ H = n) ∨ hi = some (.int .i64 H)) (h1 : L ≤ H) (h2 : H ≤ c) (w : World) :
    (Instr.slice 22 (.slice A n c) lo hi none).run Tryd.prog w = .ok (.slice (if c = L then A else A.map (·.add L)) (H - L) (c - L)) w := by
  have hu := run_underlying (P := Tryd.prog) Tryd.underlying22
  obtain ⟨i0, hi0, hz0, hz1, hz2⟩ := info_parts int_info
  rcases hlo with ⟨rfl, rfl⟩ | rfl <;> rcases hhi with ⟨rfl, rfl⟩ | rfl <;>
    simp [Instr.slice, hu, Instr.sliceBounds, Instr.sliceBound, asIntOf, sizeOf, typeInfo, hi0, hz1, h1, h2]
theorem Elems.part {w : World} {A : Option Addr} {xs : List Int} (h : Elems w A xs) {c L H : Nat} (hc : xs.length ≤ c) : Elems w (if c = L then A else A.map (·.add L)) ((xs.take H).drop L) := by
  intro k x hk
  rw [List.getElem?_drop, List.getElem?_take] at hk
  split at hk
  · obtain ⟨ad, e, hl, hcl⟩ := h _ x hk
    have hlt := (List.getElem?_eq_some_iff.1 hk).1
    subst e
    rw [if_neg (by omega)]
    refine ⟨ad.add L, rfl, by rw [addr_block_add]; exact hl, ?_⟩
    have e2 : (ad.add L).add k = ad.add (L + k) := by
      unfold Addr.add
      by_cases h1 : L = 0 <;> by_cases h2 : k = 0 <;> simp [h1, h2, Nat.add_assoc]
    rw [e2]
    exact hcl
  · cases hk
/-- The same, its address under a name. -/
theorem part_named {w : World} {A : Option Addr} {xs : List Int} (h : Elems w A xs) {c L H : Nat} {lo hi : Option Value} (hA : A = none → c = 0) (hc : xs.length ≤ c) (hlo : (lo = none ∧ L = 0) ∨ lo = some (.int .i64 L))
    (hhi : (hi = none ∧ H = xs.length) ∨ hi = some (.int .i64 H)) (h1 : L ≤ H) (h2 : H ≤ c) :
    ∃ A', (∀ W, (Instr.slice 22 (.slice A xs.length c) lo hi none).run Tryd.prog W = .ok (.slice A' (H - L) (c - L)) W) ∧ Elems w A' ((xs.take H).drop L) ∧ (A' = none → c - L = 0) := by
  refine ⟨_, fun W => run_slice_part A xs.length c L H lo hi hlo hhi h1 h2 W, h.part hc, fun e => ?_⟩
  by_cases hcl : c = L
  · omega
  · rw [if_neg hcl] at e
    have := hA (by simpa using e)
    omega

section
variable {P : Program} (w : World)

/-- append onto the call's own list, whatever comes behind it. -/
theorem run_append_ints (ty : TypeId) (hB0 : P = Tryd.prog) (B n : Nat) (v : Value) (xs : List Int) (hown : Owns w B v n xs) (A : Option Addr) (m c : Nat) (ys : List Int) (hA : A = none → c = 0) (hy : Elems w A ys)
    (hm : ys.length = m) (h : n + m ≤ 17592186044416) (hB : B ≤ w.heap.size) :
    ∃ A' c' w', (Builtin.append_ #[22, 22] ty #[v, .slice A m c]).run P w = .ok (.slice A' (n + m) c') w' ∧ Owns w' B (.slice A' (n + m) c') (n + m) (xs ++ ys) ∧ w.grownBy w' v.ownBlock ∧
      ((Value.slice A' (n + m) c').ownBlock = v.ownBlock ∨ (Value.slice A' (n + m) c').ownBlock = some w.heap.size) := by
  subst hB0
  obtain ⟨i0, hi, hz0, hz1, hz2⟩ := info_parts int_info
  rcases A with _ | ad
  · have hm0 : m = 0 := by
      rcases Nat.eq_zero_or_pos m with h0 | h0
      · exact h0
      · obtain ⟨ad, _, e, _⟩ := hy.at_ (k := 0) (by omega)
        cases e
    have hys : ys = [] := List.eq_nil_of_length_eq_zero (by omega)
    have hc := hA rfl
    subst hm0 hys hc
    obtain ⟨A, c, rfl, _⟩ := hown.form
    have hr := run_append_owned_none (P := Tryd.prog) (w := w) B 22 ty 3 i0 1 Tryd.underlying22 hi _ n (nums xs) hown.1
    exact ⟨A, c, w, hr, by simpa using hown, World.grownBy.refl _ _, .inl rfl⟩
  · obtain ⟨v', w', hr, h2, h3, _, h5⟩ := run_append_own_at (P := Tryd.prog) w B 22 ty 3 i0 _ 1 8 Tryd.underlying22 hi hz0 hz1 hz2 rfl (by omega) v n (nums xs) hown.1 ad m c (nums ys)
      (by rw [length_nums]; omega) (fun j u hu => by
        obtain ⟨x, hx, rfl⟩ := nums_at hu
        obtain ⟨ad', e, _, hc⟩ := hy j x hx
        cases e
        exact hc) (nums_one ys) (by unfold maxLen; omega) (by omega) hB
    have ho : Owns w' B v' (n + m) (xs ++ ys) := ⟨by simpa [nums] using h2, by omega⟩
    obtain ⟨A', c', rfl, _⟩ := ho.form
    exact ⟨A', c', w', hr, ho, h3, h5⟩

theorem wp_append_ints {o : Oper} {a : Act} {K : Act → World → Prop} {Q : Exit → Act → World → Prop} (hP : P = Tryd.prog) (s x : Operand)
    (ho : o.op = .call { callee := .builtin .append, args := #[s, x], argTypes := #[22, 22] })
    (B n : Nat) (v : Value) (xs : List Int) (hs : a.eval s = v) (hown : Owns w B v n xs) (A : Option Addr) (m c : Nat) (ys : List Int) (hx : a.eval x = .slice A m c) (hA : A = none → c = 0) (hy : Elems w A ys)
    (hm : ys.length = m) (h : n + m ≤ 17592186044416) (hB : B ≤ w.heap.size)
    (hK : ∀ A' c' w', Owns w' B (.slice A' (n + m) c') (n + m) (xs ++ ys) → w.grownBy w' v.ownBlock →
      ((Value.slice A' (n + m) c').ownBlock = v.ownBlock ∨ (Value.slice A' (n + m) c').ownBlock = some w.heap.size) → K (a.put o.dst (.slice A' (n + m) c')) w') : o.wp P a w K Q := by
  obtain ⟨A', c', w', hr, h2, h3, h4⟩ := run_append_ints w o.type hP B n v xs hown A m c ys hA hy hm h hB
  unfold Oper.wp execOp
  simp only [ho, resolve, invoke, builtin, Sem.run_bind, Sem.run_pure, Result.andThen_ok, List.map_toArray, List.map_cons, List.map_nil, hs, hx, hr]
  exact hK A' c' w' h2 h3 h4

theorem wpList_append_ints {ops : Array Oper} {rest : List Oper} {o : Oper} {a : Act} {Q : Exit → Act → World → Prop} (hgd : o.guard = none) (hP : P = Tryd.prog) (s x : Operand)
    (ho : o.op = .call { callee := .builtin .append, args := #[s, x], argTypes := #[22, 22] })
    (B n : Nat) (v : Value) (xs : List Int) (hs : a.eval s = v) (hown : Owns w B v n xs) (A : Option Addr) (m c : Nat) (ys : List Int) (hx : a.eval x = .slice A m c) (hA : A = none → c = 0) (hy : Elems w A ys)
    (hm : ys.length = m) (h : n + m ≤ 17592186044416) (hB : B ≤ w.heap.size)
    (hK : ∀ A' c' w', Owns w' B (.slice A' (n + m) c') (n + m) (xs ++ ys) → w.grownBy w' v.ownBlock →
      ((Value.slice A' (n + m) c').ownBlock = v.ownBlock ∨ (Value.slice A' (n + m) c').ownBlock = some w.heap.size) → wpList P ops Q rest (a.put o.dst (.slice A' (n + m) c')) w') : wpList P ops Q (o :: rest) a w :=
  wpList_plain hgd fun _ hK' => wp_append_ints w hP s x ho B n v xs hs hown A m c ys hx hA hy hm h hB fun A' c' w' h2 h3 h4 => hK' _ _ (hK A' c' w' h2 h3 h4)

theorem step_append_ints {ops : Array Oper} {o : Oper} {a : Act} {K : Act → World → Prop} {Q : Exit → Act → World → Prop} {E : Prop} (hgd : o.guard = none) (hP : P = Tryd.prog) (s x : Operand)
    (ho : o.op = .call { callee := .builtin .append, args := #[s, x], argTypes := #[22, 22] })
    (B n : Nat) (v : Value) (xs : List Int) (hs : a.eval s = v) (hown : Owns w B v n xs) (A : Option Addr) (m c : Nat) (ys : List Int) (hx : a.eval x = .slice A m c) (hA : A = none → c = 0) (hy : Elems w A ys)
    (hm : ys.length = m) (h : n + m ≤ 17592186044416) (hB : B ≤ w.heap.size)
    (hK : ∀ A' c' w', Owns w' B (.slice A' (n + m) c') (n + m) (xs ++ ys) → w.grownBy w' v.ownBlock →
      ((Value.slice A' (n + m) c').ownBlock = v.ownBlock ∨ (Value.slice A' (n + m) c').ownBlock = some w.heap.size) → K (a.put o.dst (.slice A' (n + m) c')) w') :
    if Region.wanted o (yielded ops a.tmps) = true then Oper.wp P o a w K Q else E := by
  have hw : Region.wanted o (yielded ops a.tmps) = true := by simp [Region.wanted, hgd]
  rw [if_pos hw]
  exact wp_append_ints w hP s x ho B n v xs hs hown A m c ys hx hA hy hm h hB hK
end

end Go.Proofs.YtajcjipabfknhaaDoor
