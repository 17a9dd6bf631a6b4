/- What the card TopProduct leans on: Range. Conditions: none but those of its theorems. -/
import Derived.RangeFuncNested
import Derived.RangeFuncBound
import Derived.RangeFuncCalls
import Derived.RangeFuncLeaves
import Derived.Shelf.Abstract
import Derived.Test.YtihndbkaoejnnaaGreatDoorProductB
set_option linter.unusedSimpArgs false
set_option linter.unusedVariables false
namespace Go.Proofs.YtihndbkaoejnnaaGreatDoor
open Go Go.RowKit

/-- What may have turned: the blocks of which M says so; the others lie as they lay. -/
structure Turns (M : Nat → Obj → Prop) (W W' : World) : Prop where
  os : W'.os = W.os
  tape : W'.tape = W.tape
  output : W'.output = W.output
  size : W.heap.size ≤ W'.heap.size
  same : ∀ k o, W.heap[k]? = some o → ¬ M k o → W'.heap[k]? = some o

theorem Turns.refl (M : Nat → Obj → Prop) (W : World) : Turns M W W := ⟨rfl, rfl, rfl, Nat.le_refl _, fun _ _ h _ => h⟩
theorem Turns.trans {M : Nat → Obj → Prop} {A B C : World} (h : Turns M A B) (k : Turns M B C) : Turns M A C :=
  ⟨k.os.trans h.os, k.tape.trans h.tape, k.output.trans h.output, Nat.le_trans h.size k.size, fun i o hi hn => k.same i o (h.same i o hi hn) hn⟩
theorem Turns.wider {M M' : Nat → Obj → Prop} {A B : World} (h : Turns M A B) (hm : ∀ k o, A.heap[k]? = some o → M k o → M' k o) : Turns M' A B :=
  ⟨h.os, h.tape, h.output, h.size, fun i o hi hn => h.same i o hi fun hM => hn (hm i o hi hM)⟩
theorem Turns.of_below {M : Nat → Obj → Prop} {A B : World} {n : Nat} (h : Below n A B) (hm : ∀ k o, n ≤ k → A.heap[k]? = some o → M k o) : Turns M A B :=
  ⟨h.os, h.tape, h.output, h.size, fun i o hi hn => by
    have : i < n := by
      rcases Nat.lt_or_ge i n with h1 | h1
      · exact h1
      · exact absurd (hm i o h1 hi) hn
    rw [h.block i this]; exact hi⟩
theorem Turns.below {M : Nat → Obj → Prop} {A B : World} {n : Nat} (h : Turns M A B) (hn : n ≤ A.heap.size) (hm : ∀ k o, k < n → A.heap[k]? = some o → ¬ M k o) : Below n A B :=
  ⟨h.os, h.tape, h.output, h.size, fun k hk => by
    have hl : k < A.heap.size := by omega
    have e : A.heap[k]? = some A.heap[k] := Array.getElem?_eq_getElem hl
    rw [h.same k _ e (hm k _ hk e), e]⟩
theorem Turns.putObj {M : Nat → Obj → Prop} {W : World} {l : Nat} {o : Obj} (o' : Obj) (hl : W.heap[l]? = some o) (hm : M l o) : Turns M W (W.putObj l o') :=
  ⟨rfl, rfl, rfl, by simp, fun k u hk hn => by
    by_cases e : k = l
    · subst e
      rw [hl] at hk
      cases hk
      exact absurd hm hn
    · rw [World.putObj_heap_other e]; exact hk⟩

/-- How the body of a round may be left. -/
def rangeExit {α : Type} (M : Nat → Obj → Prop) (I : List α → World → Prop) (Ix : Code → List α → World → Prop) (xs : List α) (W : World) : Exit → Act → World → Prop
  | .normal, _, W' => Turns M W W' ∧ I xs W'
  | .ret, _, W' => Turns M W W' ∧ Ix .ret xs W'
  | .exit id, _, W' => Turns M W W' ∧ Ix (.exit id) xs W'
  | .goto t, _, W' => Turns M W W' ∧ Ix (.goto t) xs W'
  | .panic _, _, _ => False
  | .outgrown, _, _ => False

variable {F : Fence} {n : Nat} {P : Program}

theorem wp_range {α : Type} {g : Operand} {ps : Array Tmp} {assign body : Code} {Q : Exit → Act → World → Prop} {a : Act} {w : World}
    (hro : F.round = none) (h1 : 1 ≤ n) {gf : Nat} {lb : Array Value} (hg : a.eval g = .func (.func gf) #[] lb) (hFg : F.fn gf) (eg : ∀ args w, (callFunc gf args).run P w = .ok (.enter gf args) w)
    {encs : α → Array Value} (hps : ∀ x, (encs x).size = ps.size) {It : Obj → Prop} {M : Nat → Obj → Prop} (hM : ∀ k o, w.heap.size ≤ k → M k o → o.isCells = true) {Pr : List α → α → World → Prop} {S Sp : List α → Prop}
    (hseq : ∀ (l : Nat) (J Jx : List α → World → Prop) (W : World), Below w.heap.size w W → l < W.heap.size → w.heap.size ≤ l →
      (∀ s W1 W2, J s W1 → Turns (fun k o => W.heap.size ≤ k ∧ It o) W1 W2 → J s W2) → (∀ s W1 W2, Jx s W1 → Turns (fun k o => W.heap.size ≤ k ∧ It o) W1 W2 → Jx s W2) →
      (∀ pre x W1, J pre W1 → Pr pre x W1 → YieldAt F (n - 1 - 1) P l (encs x) W1 fun e W' =>
        (e = .returned (.bool true) ∧ J (pre ++ [x]) W' ∧ Turns (fun k o => M k o ∨ k = l) W1 W') ∨ (e = .returned (.bool false) ∧ Jx (pre ++ [x]) W')) →
      J [] W → CallsIn F (n - 1) P gf (#[.func (.yield l) #[] #[]] ++ lb) W fun e W' => (∃ v, e = .returned v) ∧ ((∃ xs, S xs ∧ J xs W') ∨ (∃ pre, Sp pre ∧ Jx pre W')))
    (hPr : ∀ pre x W1 W2, Pr pre x W1 → Turns (fun k o => w.heap.size ≤ k ∧ o.isCells = false) W1 W2 → Pr pre x W2)
    (I : List α → World → Prop) (Ix : Code → List α → World → Prop)
    (hI : ∀ s W1 W2, I s W1 → Turns (fun k o => w.heap.size ≤ k ∧ (It o ∨ o.isCells = false)) W1 W2 → I s W2)
    (hIx : ∀ c s W1 W2, Ix c s W1 → Turns (fun k o => w.heap.size ≤ k ∧ (It o ∨ o.isCells = false)) W1 W2 → Ix c s W2)
    (h0 : I [] w) (a₁ : α → Act)
    (hassign : ∀ (l : Nat) (x : α) (W : World) (K : Act → World → Prop), K (a₁ x) W →
      assign.wpIn (F.inRound l) (n - 1 - 1) P (Exit.then K (fun _ _ _ => False)) { tmps := (ps.zip (encs x)).foldl (fun t (p, v) => t.setIfInBounds p v) a.tmps, defers := [] } W)
    (hbody : ∀ (l : Nat) (pre : List α) (x : α) (W : World), I pre W → Pr pre x W → body.wpIn (F.inRound l) (n - 1 - 1) P (rangeExit M I Ix (pre ++ [x]) W) (a₁ x) W)
    (hdone : ∀ (D : Nat) (xs : List α) (W : World), w.heap.size ≤ D → S xs → I xs W → W.heap[D]? = some (.deferred (some [])) → Q .normal { a with defers := { target := .collected D, args := #[] } :: a.defers } W)
    (hstop : ∀ (D : Nat) (c : Code) (pre : List α) (W : World), w.heap.size ≤ D → Sp pre → Ix c pre W → W.heap[D]? = some (.deferred (some [])) → c.wpIn F n P Q { a with defers := { target := .collected D, args := #[] } :: a.defers } W) :
    (Code.rangeFunc g ps assign body).wpIn F n P Q a w := by
  refine wpIn_rangeFunc fun fn hfn => ?_
  rw [hro]
  -- the loop's record, the world behind the loop's beginning
  obtain ⟨B, hB⟩ : ∃ B, B = w.heap.size := ⟨_, rfl⟩
  obtain ⟨rec, hrec⟩ : ∃ rec : LoopState → Option Code → Loop, rec = fun st pe => { state := st, pending := pe, fn, tmps := a.tmps, params := ps, assign, body, defers := B } := ⟨_, rfl⟩
  obtain ⟨W1, hW1⟩ : ∃ W1, W1 = (w.alloc (.deferred (some []))).alloc (.loop (rec .ready none)) := ⟨_, rfl⟩
  have size1 : W1.heap.size = B + 2 := by rw [hW1, hB]; simp
  have below1 : Below w.heap.size w W1 := by rw [hW1]; exact below_two w _ _
  have hL1 : W1.heap[B + 1]? = some (.loop (rec .ready none)) := by
    have := World.alloc_heap_new (w.alloc (.deferred (some []))) (.loop (rec .ready none))
    rw [World.size_alloc] at this
    rw [hW1, hB]; exact this
  have hD1 : W1.heap[B]? = some (.deferred (some [])) := by
    rw [hW1, hB]; exact (Below.heap_alloc _ _ _ (by simp)).trans (World.alloc_heap_new w _)
  have turn1 : Turns (fun k o => w.heap.size ≤ k ∧ (It o ∨ o.isCells = false)) w W1 :=
    Turns.of_below below1 fun k o hk ho => absurd (Array.getElem?_eq_some_iff.1 ho).1 (by omega)
  have put : ∀ {s : List α} {W : World} {r : Loop} (o' : Obj), I s W → W.heap[B + 1]? = some (.loop r) → I s (W.putObj (B + 1) o') := fun o' hi hl =>
    hI _ _ _ hi (Turns.putObj o' hl ⟨by omega, .inr rfl⟩)
  have putx : ∀ {c : Code} {s : List α} {W : World} {r : Loop} (o' : Obj), Ix c s W → W.heap[B + 1]? = some (.loop r) → Ix c s (W.putObj (B + 1) o') := fun o' hi hl =>
    hIx _ _ _ _ hi (Turns.putObj o' hl ⟨by omega, .inr rfl⟩)
  refine ⟨B + 1, [{ target := .collected B, args := #[] }], W1, { target := .fn (.func gf) lb, args := #[.func (.yield (B + 1)) #[] #[]] }, W1, gf,
    #[.func (.yield (B + 1)) #[] #[]] ++ lb, W1, ?_, ?_, ?_, ?_, fun _ => h1, ?_⟩
  · rw [hW1, hrec, hB]; exact run_enterLoop_outer _ _ _ _ _
  · simp only [resolve, hg]
    simp [go_sem]
  · intro f' hf'
    simp [Target.leads] at hf'
    subst hf'
    exact hFg
  · simp [invoke, go_sem, eg]
  refine (hseq (B + 1)
    (fun pre W => I pre W ∧ W.heap[B + 1]? = some (.loop (rec .ready none)) ∧ W.heap[B]? = some (.deferred (some [])))
    (fun pre W => ∃ c, Ix c pre W ∧ W.heap[B + 1]? = some (.loop (rec .done (some c))) ∧ W.heap[B]? = some (.deferred (some [])))
    W1 below1 (by omega) (by omega)
    (fun s A C hs ht => ⟨hI s A C hs.1 (ht.wider fun k o _ hk => ⟨by omega, .inl hk.2⟩), ht.same _ _ hs.2.1 (by omega), ht.same _ _ hs.2.2 (by omega)⟩)
    (fun s A C hs ht => by
      obtain ⟨c, hc, hl, hd⟩ := hs
      exact ⟨c, hIx c s A C hc (ht.wider fun k o _ hk => ⟨by omega, .inl hk.2⟩), ht.same _ _ hl (by omega), ht.same _ _ hd (by omega)⟩)
    ?_ ⟨hI _ _ _ h0 turn1, hL1, hD1⟩).mono ?_
  · -- one round
    rintro pre x W ⟨hi, hl, hd⟩ hpr
    have hlt : B + 1 < W.heap.size := (Array.getElem?_eq_some_iff.1 hl).1
    have hy := run_yield (P := P) (args := encs x) hl (by rw [hrec]; exact hps x)
    rw [hrec] at hy
    refine ⟨fn, _, assign, body, hy, roundIn_of_wpIn hfn (hassign _ x W _ ⟨_, run_beginRound hl (by rw [hrec]), ?_⟩)⟩
    obtain ⟨W2, hW2⟩ : ∃ W2, W2 = W.putObj (B + 1) (.loop { rec .ready none with state := .busy }) := ⟨_, rfl⟩
    have hl2 : W2.heap[B + 1]? = some (.loop { rec .ready none with state := .busy }) := by rw [hW2]; exact World.putObj_heap_same hlt
    have hd2 : W2.heap[B]? = some (.deferred (some [])) := by rw [hW2, World.putObj_heap_other (by omega)]; exact hd
    have ht2 : Turns (fun k o => M k o ∨ k = B + 1) W W2 := by rw [hW2]; exact Turns.putObj _ hl (.inr rfl)
    have hp2 : Pr pre x W2 := by rw [hW2]; exact hPr _ _ _ _ hpr (Turns.putObj _ hl ⟨by omega, rfl⟩)
    have hi2 : I pre W2 := by rw [hW2]; exact put _ hi hl
    rw [← hW2]
    refine wpIn_mono (hbody _ pre x W2 hi2 hp2) ?_
    have fin : ∀ (jump : Option Code) (W3 : World), Turns M W2 W3 →
        ∃ W4, W4 = W3.putObj (B + 1) (.loop (rec (if jump.isNone then .ready else .done) jump)) ∧ (Instr.endRound (B + 1) jump).run P W3 = .ok (.bool jump.isNone) W4 ∧
          W3.heap[B + 1]? = some (.loop { rec .ready none with state := .busy }) ∧ W4.heap[B + 1]? = some (.loop (rec (if jump.isNone then .ready else .done) jump)) ∧ W4.heap[B]? = some (.deferred (some [])) ∧
          Turns (fun k o => M k o ∨ k = B + 1) W W4 := fun jump W3 ht => by
      have hl3 : W3.heap[B + 1]? = some (.loop { rec .ready none with state := .busy }) := ht.same _ _ hl2 fun hm => by have := hM _ _ (by omega) hm; cases this
      have hd3 : W3.heap[B]? = some (.deferred (some [])) := ht.same _ _ hd2 fun hm => by have := hM _ _ (by omega) hm; cases this
      have he := run_endRound (P := P) jump hl3
      refine ⟨_, rfl, ?_, hl3, World.putObj_heap_same (Array.getElem?_eq_some_iff.1 hl3).1, ?_, ?_⟩
      · rw [hrec] at he ⊢
        exact he
      · rw [World.putObj_heap_other (by omega)]; exact hd3
      · exact (ht2.trans (ht.wider fun k o _ hm => .inl hm)).trans (Turns.putObj _ hl3 (.inr rfl))
    rintro e a3 W3 hp
    cases e with
    | normal =>
      obtain ⟨W4, e4, hr, hl3, hl4, hd4, ht4⟩ := fin none W3 hp.1
      exact ⟨_, W4, hr, .inl ⟨rfl, ⟨by rw [e4]; exact put _ hp.2 hl3, hl4, hd4⟩, ht4⟩⟩
    | ret =>
      obtain ⟨W4, e4, hr, hl3, hl4, hd4, -⟩ := fin (some .ret) W3 hp.1
      exact ⟨_, W4, hr, .inr ⟨rfl, .ret, by rw [e4]; exact putx _ hp.2 hl3, hl4, hd4⟩⟩
    | exit id =>
      obtain ⟨W4, e4, hr, hl3, hl4, hd4, -⟩ := fin (some (.exit id)) W3 hp.1
      exact ⟨_, W4, hr, .inr ⟨rfl, .exit id, by rw [e4]; exact putx _ hp.2 hl3, hl4, hd4⟩⟩
    | goto t =>
      obtain ⟨W4, e4, hr, hl3, hl4, hd4, -⟩ := fin (some (.goto t)) W3 hp.1
      exact ⟨_, W4, hr, .inr ⟨rfl, .goto t, by rw [e4]; exact putx _ hp.2 hl3, hl4, hd4⟩⟩
    | panic ch => exact hp.elim
    | outgrown => exact hp.elim
  · -- behind the iterator
    rintro e W2 ⟨⟨v, rfl⟩, (⟨xs, hS, hi, hl, hd⟩ | ⟨pre, hSp, c, hi, hl, hd⟩)⟩
    · have he := run_endLoop (P := P) hl (by rw [hrec]; exact fun h => by cases h)
      have hp := put (.loop { rec .ready none with state := .exhausted }) hi hl
      rw [hrec] at he hp
      exact ⟨none, _, he, hdone B xs _ (by omega) hS hp ((World.putObj_heap_other (by omega)).trans hd)⟩
    · have he := run_endLoop (P := P) hl (by rw [hrec]; exact fun h => by cases h)
      have hp := putx (.loop { rec .done (some c) with state := .exhausted }) hi hl
      rw [hrec] at he hp
      exact ⟨some c, _, he, hstop B c pre _ (by omega) hSp hp ((World.putObj_heap_other (by omega)).trans hd)⟩

end Go.Proofs.YtihndbkaoejnnaaGreatDoor
