/- The walk of perm.rounds and of its iterator: the cycles come in order. Conditions: none. -/
import Derived.OwnWalkIn
import Derived.TacticsInMore
import Derived.LoopNIn
import Derived.LoopIn
import Derived.WalkKit
import Derived.Test.YtajcjipabfknhaaDoorRange
import Derived.Test.YtajcjipabfknhaaDoorRound
import Derived.Test.YtajcjipabfknhaaDoorCycPlain
import Derived.Test.YtajcjipabfknhaaDoorOwn
import Derived.Test.YtajcjipabfknhaaDoorList
import Derived.Test.YtajcjipabfknhaaDoorOrder
import Derived.Test.YtajcjipabfknhaaDoorPermOps
set_option linter.unusedSimpArgs false
set_option linter.unusedVariables false
namespace Go.Proofs.YtajcjipabfknhaaDoor
open Go Go.RowKit Go.Shelf Go.Proofs.YtajcjipabfknhaaDoor.P

attribute [local go_sem] Oper.semAt_some

theorem bool_info : (Tryd.prog.info? 4).map (fun i => (i.zero, i.size, i.bytes)) = some (some (.bool false), 1, 1) := by kernel_rfl
theorem run_make_bools (n : Nat) (hn : n ≤ 35184372088832) (w : World) :
    (Instr.makeSlice 66 (.int .i64 n) (.int .i64 n)).run Tryd.prog w = .ok (.slice (some ⟨w.heap.size, 0, none⟩) n n) (w.alloc (.cells (madeCells #[.bool false] n) 4)) := by
  obtain ⟨i0, hi, hz0, hz1, hz2⟩ := info_parts bool_info
  have hr := run_make (P := Tryd.prog) w 66 4 i0 (.bool false) Tryd.underlying66 hi hz0 .i64 .i64 n n (by omega) (by omega) (by rw [hz2]; omega) (by omega)
  rw [hz1] at hr
  simp only [Int.toNat_natCast, Nat.mul_one] at hr
  exact hr

theorem Box.turns {W W' : World} {g : Nat} {t : TypeId} {cs : Array Value} {M : Nat → Obj → Prop} (h : Box W g t cs) (ht : Turns M W W') (hm : ¬ M g (.cells cs t (0, 0))) : Box W' g t cs := ht.same _ _ h hm
theorem Turns.alloc {M : Nat → Obj → Prop} (W : World) (o : Obj) : Turns M W (W.alloc o) :=
  Turns.of_below (n := W.heap.size) (below_one W o) fun k u hk hu => absurd (Array.getElem?_eq_some_iff.1 hu).1 (by omega)
theorem Turns.drewN {M : Nat → Obj → Prop} (W : World) (k : Nat) : Turns M W (W.drewN k) := ⟨rfl, rfl, rfl, Nat.le_refl _, fun _ _ h _ => h⟩
theorem Turns.setCell {M : Nat → Obj → Prop} {W : World} {g i : Nat} {t : TypeId} {cs : Array Value} (h : Box W g t cs) (hm : M g (.cells cs t (0, 0))) (u : Value) : Turns M W (W.setCell ⟨g, i, none⟩ u) := by
  refine ⟨rfl, rfl, rfl, (KeepsWalks.setCell W _ u).size, fun k o hk hn => ?_⟩
  by_cases e : k = g
  · subst e
    have : o = .cells cs t (0, 0) := by
      have h' : W.heap[k]? = some (.cells cs t (0, 0)) := h
      rw [hk] at h'
      injection h'
    exact absurd (this ▸ hm) hn
  · rw [Below.heap_setCell _ _ _ k e]; exact hk
theorem Turns.grown {M : Nat → Obj → Prop} {W W' : World} {row : Option Nat} (hg : W.grownBy W' row) (hm : ∀ r o, row = some r → W.heap[r]? = some o → M r o) : Turns M W W' :=
  ⟨hg.os, hg.tape, hg.output, hg.size, fun k o hk hn => by
    rw [hg.block k (Array.getElem?_eq_some_iff.1 hk).1 fun e => hn (hm k o e.symm hk)]; exact hk⟩

/-- The iterator's own cells, as soon as a list has come. -/
def ItC (o : Obj) : Prop := ∃ cs, o = .cells cs 4 (0, 0)
theorem Turns.thenGrown {M : Nat → Obj → Prop} {W W1 W2 : World} {row : Option Nat} (t : Turns M W W1) (hg : W1.grownBy W2 row) (hm : ∀ r, row = some r → W.heap.size ≤ r) : Turns M W W2 :=
  ⟨hg.os.trans t.os, hg.tape.trans t.tape, hg.output.trans t.output, Nat.le_trans t.size hg.size, fun k o hk hn => by
    have h1 := t.same k o hk hn
    have hlt : k < W.heap.size := (Array.getElem?_eq_some_iff.1 hk).1
    rw [hg.block k (Array.getElem?_eq_some_iff.1 h1).1 fun e => by have := hm k e.symm; omega]; exact h1⟩
theorem Owns.turns {W1 W2 : World} {B n : Nat} {v : Value} {xs : List Int} {M : Nat → Obj → Prop} (h : Owns W1 B v n xs) (ht : Turns M W1 W2) (hm : ∀ g cur, B ≤ g → ¬ M g (.cells cur 3 (0, 0))) : Owns W2 B v n xs := by
  refine ⟨⟨h.1.1, ?_⟩, h.2⟩
  rcases h.1.2 with h0 | ⟨g, cap, cur, hv, hb, hg, r⟩
  · exact .inl h0
  · exact .inr ⟨g, cap, cur, hv, hb, ht.same _ _ hg (hm g cur hb), r⟩

/-- Which numbers have been met. -/
def SeenRow (W : World) (g n : Nat) (D : List Nat) : Prop := Box W g 4 ((List.range n).map fun x => Value.bool (decide (x ∈ D))).toArray
theorem SeenRow.made (w : World) (n : Nat) : SeenRow (w.alloc (.cells (madeCells #[.bool false] n) 4)) w.heap.size n [] := by
  have e : madeCells #[.bool false] n = ((List.range n).map fun x => Value.bool (decide (x ∈ ([] : List Nat)))).toArray := by
    apply Array.ext
    · simp [madeCells]
    · intro i h1 h2
      simp [madeCells, Nat.mod_one]
  unfold SeenRow
  rw [← e]
  exact Box.new w _ _
theorem SeenRow.at_ {W : World} {g n : Nat} {D : List Nat} (h : SeenRow W g n D) {k : Nat} (hk : k < n) : W.cell? ⟨g, k, none⟩ = some (.bool (decide (k ∈ D))) := by
  rw [Box.cell h]
  simp [hk]
theorem SeenRow.store {W : World} {g n : Nat} {D : List Nat} (h : SeenRow W g n D) (j : Nat) : SeenRow (W.setCell ⟨g, j, none⟩ (.bool true)) g n (D ++ [j]) := by
  have := Box.store h j (.bool true)
  unfold SeenRow
  have e : (((List.range n).map fun x => Value.bool (decide (x ∈ D))).toArray).setIfInBounds j (.bool true) = ((List.range n).map fun x => Value.bool (decide (x ∈ D ++ [j]))).toArray := by
    apply Array.ext
    · simp
    · intro i h1 h2
      simp at h2
      rw [Array.getElem_setIfInBounds (by simpa using h2)]
      by_cases e : j = i
      · subst e; simp
      · have e' : i ≠ j := fun h => e h.symm
        simp [e, e']
  rw [← e]
  exact this

/-- What comes: a list in memory, and what it is. -/
abbrev Cyc := Value × List Nat
def PrC (p : List Nat) (B : Nat) (pre : List Cyc) (x : Cyc) (W : World) : Prop := Owns W B x.1 x.2.length (ints x.2) ∧ IsRound p x.2 ∧ Rounds p (pre.map Prod.snd) ∧ ∀ y ∈ x.2, y ∉ (pre.map Prod.snd).flatten
def SC (p : List Nat) (xs : List Cyc) : Prop := Rounds p (xs.map Prod.snd) ∧ (∀ x, x < p.length → x ∈ (xs.map Prod.snd).flatten) ∧ xs.map Prod.snd = cycs p p.length
def sliceLen : Value → Nat
  | .slice _ m _ => m
  | _ => 0

theorem wpListIn_append_ints {F : Fence} {n : Nat} (w : World) {ops : Array Oper} {rest : List Oper} {o : Oper} {a : Act} {Q : Exit → Act → World → Prop} (hgd : o.guard = none) (s x : Operand)
    (ho : o.op = .call { callee := .builtin .append, args := #[s, x], argTypes := #[22, 22] })
    (B k : Nat) (v : Value) (xs : List Int) (hs : a.eval s = v) (hown : Owns w B v k xs) (A : Option Addr) (m c : Nat) (ys : List Int) (hx : a.eval x = .slice A m c) (hA : A = none → c = 0) (hy : Elems w A ys)
    (hm : ys.length = m) (h : k + m ≤ 17592186044416) (hB : B ≤ w.heap.size)
    (hK : ∀ A' c' w', Owns w' B (.slice A' (k + m) c') (k + m) (xs ++ ys) → w.grownBy w' v.ownBlock → wpListIn F n Tryd.prog ops Q rest (a.put o.dst (.slice A' (k + m) c')) w') : wpListIn F n Tryd.prog ops Q (o :: rest) a w := by
  refine wpListIn_plain hgd fun K hK' => ?_
  obtain ⟨A', c', w', hr, h2, h3, h4⟩ := run_append_ints w o.type rfl B k v xs hown A m c ys hA hy hm h hB
  unfold Oper.wpIn
  refine ⟨by simp [Oper.about, ho, resolve, Target.leads, Sem.run_pure], ?_⟩
  rw [Oper.semAt_plain F _ _ (by rw [ho]; intro c hc'; cases hc')]
  simp [execOp, ho, resolve, invoke, builtin, hs, hx, hr, Result.andThen]
  exact hK' _ _ (hK A' c' w' h2 h3)

theorem ints_orb_succ (p : List Nat) (m i : Nat) : ints (orb p m i) ++ [((it p m i : Nat) : Int)] = ints (orb p (m + 1) i) := by rw [orb_succ]; simp [ints]

set_option maxRecDepth 100000 in
set_option maxHeartbeats 4000000 in
theorem rounds1_in (F : Fence) (n : Nat) (hfn : F.fn 41) (hro : F.round = none) (hn : 1 ≤ n) (w0 : World) (A : Option Addr) (c : Nat) (p : List Nat) (hp : Perm p) (hp4 : p.length ≤ 4096)
    (EA : Elems w0 A (ints p)) (hc : p.length ≤ c) (hc2 : c ≤ 9223372036854775807) (Bp l : Nat) (M : Nat → Obj → Prop) (J Jx : List Cyc → World → Prop) (W : World) (hbw : Below w0.heap.size w0 W)
    (hBp : Box W Bp 22 #[.slice A p.length c]) (hl : l < W.heap.size) (hl0 : w0.heap.size ≤ l) (hlB : l ≠ Bp) (hM : ∀ k o, M k o → w0.heap.size ≤ k ∧ k ≠ Bp ∧ (W.heap.size ≤ k → ¬ ItC o))
    (hJ : ∀ s W1 W2, J s W1 → Turns (fun k o => W.heap.size ≤ k ∧ ItC o) W1 W2 → J s W2)
    (hY : ∀ pre x W1, J pre W1 → PrC p W.heap.size pre x W1 → YieldAt F (n - 1) Tryd.prog l #[x.1] W1 fun e W' =>
      (e = .returned (.bool true) ∧ J (pre ++ [x]) W' ∧ Turns (fun k o => M k o ∨ k = l) W1 W') ∨ (e = .returned (.bool false) ∧ Jx (pre ++ [x]) W'))
    (h0 : J [] W) :
    CallsIn F n Tryd.prog 41 #[.func (.yield l) #[] #[], .pointer (some ⟨Bp, 0, none⟩)] W fun e W' => (∃ v, e = .returned v) ∧ ((∃ xs, SC p xs ∧ J xs W') ∨ (∃ pre, True ∧ Jx pre W')) := by
  have hmk := run_make_bools p.length (by omega)
  have hb0 := hBp.one
  have hlt0 := hBp.lt
  refine callsIn_of_wp Tryd.func41 rfl hfn ?_ hro
  simp only [Tryd.ntmps41, List.size_toArray, List.length_cons, List.length_nil, Nat.reduceAdd, Nat.reduceSub, Array.replicate_succ, Array.replicate_zero, List.push_toArray, List.append_toArray, List.nil_append, List.cons_append]
  have hsr0 := SeenRow.made W p.length
  obtain ⟨g, hg⟩ : ∃ g, g = W.heap.size := ⟨_, rfl⟩
  obtain ⟨W1, hW1⟩ : ∃ W1, W1 = W.alloc (.cells (madeCells #[.bool false] p.length) 4) := ⟨_, rfl⟩
  have hbw1 : Below w0.heap.size w0 W1 := by rw [hW1]; exact hbw.alloc hbw.size _
  have hB1 : Box W1 Bp 22 #[.slice A p.length c] := by rw [hW1]; exact hBp.alloc _
  have hJ1 : J [] W1 := by rw [hW1]; exact hJ _ _ _ h0 (Turns.alloc W _)
  have hs1 : W.heap.size ≤ W1.heap.size := by rw [hW1]; simp
  gi_wp2
  rw [← hW1, ← hg]
  rw [← hW1, ← hg] at hsr0
  have hgs : W.heap.size ≤ g := by omega
  clear hmk hW1 h0 hb0 hg
  have hgB : g ≠ Bp := by omega
  have HJ := Lib.hid hJ
  have HY := Lib.hid hY
  have HM := Lib.hid hM
  have HP := Lib.hid hp
  clear hJ hY hM hp
  gi_loopw [12] (fun i wr => ∃ (k : Nat) (xs : List Cyc), k ≤ p.length ∧ i = .int .i64 k ∧ Rounds p (xs.map Prod.snd) ∧ (∀ x, x < k → x ∈ (xs.map Prod.snd).flatten) ∧ xs.map Prod.snd = cycs p k ∧ SeenRow wr g p.length (xs.map Prod.snd).flatten ∧ J xs wr ∧ Below w0.heap.size w0 wr ∧ Box wr Bp 22 #[.slice A p.length c] ∧ W.heap.size ≤ wr.heap.size)
    (fun i _ => p.length - (intOf i).toNat)
  case atStart => exact ⟨0, [], Nat.zero_le _, rfl, Rounds.nil p, fun x h => by omega, rfl, hsr0, hJ1, hbw1, hB1, hs1⟩
  case round =>
    clear hsr0 hbw1 hB1 hJ1 hs1
    obtain ⟨k, xs, hk, rfl, hR, hT, hord, hsr, hJx, hbl, hBx, hsz⟩ := hrel
    have hbc := hBx.one
    have hblt := hBx.lt
    have hgf := Box.frozen hsr
    have hglt := Box.lt hsr
    obtain ⟨D, hD⟩ : ∃ D, D = (xs.map Prod.snd).flatten := ⟨_, rfl⟩
    have HR := Lib.hid hR
    have HT := Lib.hid hT
    rw [← hD] at hsr
    have HD := Lib.hid hD
    have HO := Lib.hid hord
    clear hR hT hD hord
    rcases Nat.lt_or_ge k p.length with hlt | hge
    · have hgc := hsr.at_ hlt
      by_cases hkD : k ∈ D
      · rw [decide_eq_true hkD] at hgc
        have HK := Lib.hid hkD
        clear hkD
        gi_wp2
        go_roundw
        case rel =>
          refine ⟨k + 1, xs, by omega, by go_num, HR.out, fun x hx => ?_, (by have h1 := HR.out; have h2 := HK.out; rw [HD.out, HO.out] at h2; rw [HO.out] at h1 ⊢; exact (cycs_old HP.out hlt h1 h2).symm), by rw [← HD.out]; exact hsr, hJx, hbl, hBx, hsz⟩
          by_cases e : x = k
          · rw [e, ← HD.out]; exact HK.out
          · exact HT.out x (by omega)
        case measure => simp [intOf]; omega
      · rw [decide_eq_false hkD] at hgc
        have HK := Lib.hid hkD
        clear hkD
        gi_wp2
        gi_loopw [5, 6] (fun cv jv wr => ∃ (m : Nat) (A' : Option Addr) (c' : Nat), m ≤ p.length ∧ cv = .slice A' m c' ∧ jv = .int .i64 ((it p m k : Nat) : Int) ∧ (∃ wo, J xs wo ∧ W.heap.size ≤ wo.heap.size ∧ Turns (fun k o => W.heap.size ≤ k ∧ ItC o) wo wr ∧ Owns wr wo.heap.size (.slice A' m c') m (ints (orb p m k))) ∧ (orb p m k).Nodup ∧ (∀ y ∈ orb p m k, y ∉ D) ∧
            SeenRow wr g p.length (D ++ orb p m k) ∧ Below w0.heap.size w0 wr ∧ Box wr Bp 22 #[.slice A p.length c] ∧ W.heap.size ≤ wr.heap.size)
          (fun cv _ _ => p.length - sliceLen cv)
        case atStart => exact ⟨0, none, 0, Nat.zero_le _, rfl, rfl, ⟨_, hJx, hsz, Turns.refl _ _, Owns.nil _ _⟩, by simp [orb], by simp [orb], by simpa [orb] using hsr, hbl, hBx, hsz⟩
        case round =>
          clear hsr hJx hbl hBx hsz hbc hblt hgf hglt hgc
          obtain ⟨m, A', c', hm, rfl, rfl, ⟨wo, hJo, hwo, hto, hown⟩, hnd, hnew, hsr, hbl, hBx, hsz⟩ := hrel
          have HJO := Lib.hid hJo
          have HTO := Lib.hid hto
          clear hJo hto
          have hbc := hBx.one
          have hblt := hBx.lt
          have hgf := Box.frozen hsr
          have hglt := Box.lt hsr
          have hjl : it p m k < p.length := it_lt HP.out m hlt
          have hgc := hsr.at_ hjl
          have HN := Lib.hid hnd
          have HW := Lib.hid hnew
          clear hnd hnew
          by_cases hmet : it p m k ∈ D ++ orb p m k
          · rw [decide_eq_true hmet] at hgc
            have HE := Lib.hid hmet
            clear hmet
            obtain ⟨-, hrd⟩ := orb_shut HP.out (Rounds.shut HP.out HR.out.1) hlt (by rw [← HD.out]; exact HK.out) HN.out (by rw [← HD.out]; exact HE.out)
            have hnD : ∀ y ∈ orb p m k, y ∉ (xs.map Prod.snd).flatten := by rw [← HD.out]; exact HW.out
            have HRD := Lib.hid hrd
            have HND := Lib.hid hnD
            have hJx := HJ.out _ _ _ HJO.out HTO.out
            have HHY := HY.out xs (.slice A' m c', orb p m k) wr hJx ⟨(by have h := hown.base hwo; simpa only [orb_length] using h), hrd, HR.out, hnD⟩
            clear hrd hnD
            obtain ⟨fn, tmps, assign, body, hy, hRo⟩ := HHY
            dsimp only at hy
            gi_wp2
            refine hRo.mono ?_
            clear hy hRo
            rintro e W3 (⟨rfl, hJ3, hT3⟩ | ⟨rfl, hJx3⟩)
            · have hB3 := hBx.turns hT3 fun h => by
                rcases h with h | h
                · exact (HM.out _ _ h).2.1 rfl
                · exact hlB h.symm
              have hs3 : SeenRow W3 g p.length (D ++ orb p m k) := Box.turns hsr hT3 fun h => by
                rcases h with h | h
                · exact (HM.out _ _ h).2.2 hgs ⟨_, rfl⟩
                · omega
              have hb3 : Below w0.heap.size w0 W3 := hbl.trans (hT3.below hbl.size fun i o hi ho h => by
                rcases h with h | h
                · have := (HM.out _ _ h).1; omega
                · omega)
              have hz3 := hT3.size
              have hfl : D ++ orb p m k = ((xs ++ [(Value.slice A' m c', orb p m k)]).map Prod.snd).flatten := by rw [HD.out]; simp
              have HFL := Lib.hid hfl
              have HB3 := Lib.hid hB3
              have HS3 := Lib.hid hs3
              clear hfl hB3 hs3 hgc hbc hblt hgf hglt hown hsr hBx hT3 hJx
              gi_wp2
              go_roundw
              case rel =>
                refine ⟨k + 1, xs ++ [(.slice A' m c', orb p m k)], by omega, by go_num, ?_, fun x hx => ?_, ?_, by rw [← HFL.out]; exact HS3.out, hJ3, hb3, HB3.out, by omega⟩
                · rw [List.map_append]
                  exact HR.out.add HRD.out HND.out
                · rw [← HFL.out, HD.out]
                  by_cases e : x = k
                  · obtain ⟨i, -, h1, -, -, -⟩ := HRD.out
                    rw [orb_length] at h1
                    rw [e]
                    exact List.mem_append_right _ (mem_orb.2 ⟨0, h1, rfl⟩)
                  · exact List.mem_append_left _ (HT.out x (by omega))
                · have h1 := HR.out
                  have h2 := HK.out
                  have h3 := HT.out
                  rw [HD.out, HO.out] at h2
                  rw [HO.out] at h1 h3
                  rw [List.map_append, HO.out, cycs_new HP.out hlt h1 h3 h2 HRD.out]
                  rfl
              case measure => simp [intOf]; omega
            · gi_wp2
              refine bodyPost_ret (results_none rfl _ _ _) rfl ?_
              exact ⟨⟨_, rfl⟩, .inr ⟨_, trivial, hJx3⟩⟩
          · rw [decide_eq_false hmet] at hgc
            have HE := Lib.hid hmet
            clear hmet
            obtain ⟨ad, x, rfl, hx, hal, hcx⟩ := Elems.later EA hbl (k := it p m k) (by rw [length_ints]; exact hjl)
            obtain ⟨rfl, -⟩ := ints_getD hx
            obtain ⟨j, hj⟩ : ∃ j, j = it p m k := ⟨_, rfl⟩
            obtain ⟨y, hy⟩ : ∃ y, y = p.getD j 0 := ⟨_, rfl⟩
            rw [← hj] at hjl hgc hcx ⊢
            rw [← hy] at hcx
            have HJ2 := Lib.hid hj
            have HY2 := Lib.hid hy
            clear hx hj hy
            have hown2 := hown.setCell (p := ⟨g, j, none⟩) (hown.ne_box hsr (by decide)) (.bool true)
            have hel : Elems ((wr.setCell ⟨g, j, none⟩ (.bool true)).alloc (.cells #[.int .i64 j] 3)) (some ⟨wr.heap.size, 0, none⟩) [(j : Int)] := by
              have := elems_new (wr.setCell ⟨g, j, none⟩ (.bool true)) j
              rwa [show (wr.setCell ⟨g, j, none⟩ (.bool true)).heap.size = wr.heap.size by simp] at this
            have key : ∀ (A2 : Option Addr) (c2 : Nat) (w1 : World), Owns w1 wo.heap.size (.slice A2 (m + 1) c2) (m + 1) (ints (orb p m k) ++ [(j : Int)]) →
                ((wr.setCell ⟨g, j, none⟩ (.bool true)).alloc (.cells #[.int .i64 j] 3)).grownBy w1 (Value.slice A' m c').ownBlock →
                Box w1 Bp 22 #[.slice (some ad) p.length c] ∧ SeenRow w1 g p.length (D ++ orb p m k ++ [j]) ∧ Turns (fun k o => W.heap.size ≤ k ∧ ItC o) wo w1 ∧ Below w0.heap.size w0 w1 ∧ W.heap.size ≤ w1.heap.size ∧ w1.cell? (ad.add j) = some (.int .i64 y) := fun A2 c2 w1 ho hg => by
              have t0 : Turns (fun k o => W.heap.size ≤ k ∧ ItC o) wr (wr.setCell ⟨g, j, none⟩ (.bool true)) := Turns.setCell hsr ⟨hgs, _, rfl⟩ _
              have to : Turns (fun k o => W.heap.size ≤ k ∧ ItC o) wo w1 := ((HTO.out.trans t0).trans (Turns.alloc _ (.cells #[.int .i64 j] 3))).thenGrown hg fun r er => ((hown2.alloc (.cells #[.int .i64 j] 3)).lt er).1
              have t1 : Turns (fun k _ => W.heap.size ≤ k) wr (wr.setCell ⟨g, j, none⟩ (.bool true)) := Turns.setCell hsr hgs _
              have t3 : Turns (fun k _ => W.heap.size ≤ k) _ w1 := Turns.grown hg fun r o er hr => by have := ((hown2.alloc (.cells #[.int .i64 j] 3)).lt er).1; omega
              have t := (t1.trans (Turns.alloc _ (.cells #[.int .i64 j] 3))).trans t3
              have hb : Below w0.heap.size wr w1 := t.below hbl.size fun i o hi ho h => by have h : W.heap.size ≤ i := h; have := hbw.size; omega
              have hBp := hBx.turns t fun h => by have h : W.heap.size ≤ Bp := h; omega
              refine ⟨hBp, ?_, to, hbl.trans hb, by have := t.size; omega, ?_⟩
              · have h1 := (hsr.store j)
                have h2 : Box ((wr.setCell ⟨g, j, none⟩ (.bool true)).alloc (.cells #[.int .i64 j] 3)) g 4 _ := Box.alloc h1 _
                have hne := (hown2.alloc (.cells #[.int .i64 j] 3)).ne_box h2 (by decide)
                exact (hg.block g (Box.lt h2) fun e => hne e.symm).trans h2
              · exact (hb.cell (p := ad.add j) (by rw [addr_block_add]; exact hal)).trans hcx
            gi_wp2_with (gi_at_builtin; refine wpListIn_append_ints _ rfl _ _ rfl wo.heap.size m _ (ints (orb p m k)) rfl (hown2.alloc _) (some ⟨wr.heap.size, 0, none⟩) 1 1 [(j : Int)] rfl (by simp) hel rfl (by omega) (by have := HTO.out.size; simp; omega) ?_; intro A2 c2 w1 hown1 hgrow; obtain ⟨k1, k2, k3, k4, k5, k6⟩ := key A2 c2 w1 hown1 hgrow; clear key; have kc := k1.one; have kl := k1.lt)
            have h1 : orb p (m + 1) k = orb p m k ++ [j] := by rw [orb_succ, HJ2.out]
            have hnd1 : (orb p (m + 1) k).Nodup := by
              rw [h1, List.nodup_append]
              exact ⟨HN.out, by simp, fun a ha b hb e => by
                simp at hb
                rw [e, hb, HJ2.out] at ha
                exact HE.out (List.mem_append_right _ ha)⟩
            have hlen := List.Nodup.length_le_of_subset hnd1 (l₂ := List.range p.length) fun x hx => by simpa using orb_lt HP.out hlt hx
            rw [orb_length, List.length_range] at hlen
            go_roundw
            case rel =>
              refine ⟨m + 1, A2, c2, hlen, rfl, by rw [HY2.out, HJ2.out]; rfl, ⟨wo, HJO.out, hwo, k3, ?_⟩, hnd1, fun z hz => ?_, ?_, k4, k1, k5⟩
              · have : ints (orb p (m + 1) k) = ints (orb p m k) ++ [(j : Int)] := by rw [h1]; simp [ints]
                rw [this]; exact hown1
              · rw [h1] at hz
                rcases List.mem_append.1 hz with hz | hz
                · exact HW.out z hz
                · simp at hz
                  rw [hz, HJ2.out]
                  exact fun h => HE.out (List.mem_append_left _ h)
              · rw [h1, ← List.append_assoc]; exact k2
            case measure => simp [sliceLen]; omega
    · have hkk : k = p.length := by omega
      subst hkk
      gi_wp2
      go_end0
      exact ⟨⟨_, rfl⟩, .inl ⟨xs, ⟨HR.out, HT.out, HO.out⟩, hJx⟩⟩

set_option maxHeartbeats 1000000 in
theorem rounds_in (F : Fence) (n : Nat) (hfn : F.fn 35) (hro : F.round = none) (A : Option Addr) (len cap : Nat) (w : World) :
    CallsIn F n Tryd.prog 35 #[.slice A len cap] w fun e w' => e = .returned (.func (.func 41) #[] #[.pointer (some ⟨w.heap.size, 0, none⟩)]) ∧ w' = w.alloc (.cells #[.slice A len cap] 22) := by
  refine callsIn_of_wp Tryd.func35 rfl hfn ?_ hro
  simp only [Tryd.ntmps35, List.size_toArray, List.length_cons, List.length_nil, Nat.reduceAdd, Nat.reduceSub, Array.replicate_succ, Array.replicate_zero, List.push_toArray, List.append_toArray, List.nil_append, List.cons_append]
  gi_wp2
  go_ret
  exact ⟨rfl, rfl⟩

end Go.Proofs.YtajcjipabfknhaaDoor
