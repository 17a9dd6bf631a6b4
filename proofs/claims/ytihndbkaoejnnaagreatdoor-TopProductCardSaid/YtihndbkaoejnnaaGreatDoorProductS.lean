/- What the card TopProduct leans on: Chain. Conditions: none but those of its theorems. -/
import Derived.KernelRfl
import Derived.Test.YtihndbkaoejnnaaGreatDoorProductR
import Derived.Test.YtihndbkaoejnnaaGreatDoorProductB
import Derived.Test.YtihndbkaoejnnaaGreatDoorProductL
set_option linter.unusedSimpArgs false
set_option linter.unusedVariables false
namespace Go.Proofs.YtihndbkaoejnnaaGreatDoor
open Go Go.RowKit Go.Proofs.YtihndbkaoejnnaaGreatDoor.P

/-- What a relation of worlds must be. -/
structure Rels (Rel : World → World → Prop) : Prop where
  below : ∀ {w w' : World}, Below w.heap.size w w' → Rel w w'
  trans : ∀ {a b c : World}, Rel a b → Rel b c → Rel a c

/-- V: what is known of what an operation yields; ch: the chain; St: what stands when so many of the chain are done. -/
def ChainInv (Rel : World → World → Prop) (V : Nat → Value → World → Prop) (ch : List Nat) (St : Nat → (Nat → Value) → World → Prop) (W : World) (done : Nat → Bool) (u : Nat → Value) (wr : World) : Prop :=
  Rel W wr ∧ (∀ j, done j = true → V j (u j) wr) ∧ ∃ s, s ≤ ch.length ∧ (∀ j c, ch[j]? = some c → done c = decide (j < s)) ∧ St s u wr

variable {Rel : World → World → Prop} {V : Nat → Value → World → Prop} {ch : List Nat} {St : Nat → (Nat → Value) → World → Prop} {W wr w' : World} {done : Nat → Bool} {u : Nat → Value} {i : Nat} {v : Value}

theorem ChainInv.start {W0 : World} (hR : Rels Rel) (hb : Below W0.heap.size W0 W) (h : St 0 u W) : ChainInv Rel V ch St W0 (fun _ => false) u W :=
  ⟨hR.below hb, fun j h => by simp at h, 0, Nat.zero_le _, fun j c _ => by simp, h⟩

theorem ChainInv.quiet (h : ChainInv Rel V ch St W done u wr) (hR : Rels Rel) (hn : done i = false) (hi : i ∉ ch) (hV : ∀ j v w w', V j v w → Rel w w' → V j v w')
    (hSt : ∀ s u u' w w', (∀ c ∈ ch, u' c = u c) → St s u w → Below w.heap.size w w' → St s u' w') (hb : Below wr.heap.size wr w') (hv : V i v w') : ChainInv Rel V ch St W (did done i) (upd u i v) w' := by
  obtain ⟨h1, h2, s, h3, h4, h5⟩ := h
  refine ⟨hR.trans h1 (hR.below hb), fun j hj => ?_, s, h3, fun j c hc => ?_, ?_⟩
  · by_cases hji : j = i
    · subst hji
      rw [upd_same]
      exact hv
    · rw [did_other _ hji] at hj
      rw [upd_other _ _ hji]
      exact hV _ _ _ _ (h2 j hj) (hR.below hb)
  · have hci : c ≠ i := fun e => hi (by rw [← e]; exact List.mem_of_getElem? hc)
    rw [did_other _ hci]
    exact h4 j c hc
  · refine hSt s u _ wr w' (fun c hc => ?_) h5 hb
    have hci : c ≠ i := fun e => hi (by rw [← e]; exact hc)
    rw [upd_other _ _ hci]

theorem ChainInv.at_ (h : ChainInv Rel V ch St W done u wr) {k : Nat} (hk : ch[k]? = some i) (hn : done i = false) (hp : k = 0 ∨ ∃ c, ch[k - 1]? = some c ∧ done c = true) : St k u wr := by
  obtain ⟨h1, h2, s, h3, h4, h5⟩ := h
  have e1 := h4 k i hk
  rw [hn] at e1
  have e1 : ¬ k < s := by simpa using e1.symm
  have : s = k := by
    rcases hp with rfl | ⟨c, hc, hd⟩
    · omega
    · have e2 := h4 (k - 1) c hc
      rw [hd] at e2
      have e2 : k - 1 < s := by simpa using e2.symm
      omega
  subst this
  exact h5

theorem ChainInv.step (h : ChainInv Rel V ch St W done u wr) (hR : Rels Rel) {k : Nat} (hk : ch[k]? = some i) (hn : done i = false) (hp : k = 0 ∨ ∃ c, ch[k - 1]? = some c ∧ done c = true) (hnd : ch.Nodup) (hV : ∀ j v w w', V j v w → Rel w w' → V j v w')
    (hr : Rel wr w') (hv : V i v w') (hs : St (k + 1) (upd u i v) w') : ChainInv Rel V ch St W (did done i) (upd u i v) w' := by
  obtain ⟨h1, h2, s, h3, h4, h5⟩ := h
  have e1 := h4 k i hk
  rw [hn] at e1
  have e1 : ¬ k < s := by simpa using e1.symm
  have : s = k := by
    rcases hp with rfl | ⟨c, hc, hd⟩
    · omega
    · have e2 := h4 (k - 1) c hc
      rw [hd] at e2
      have e2 : k - 1 < s := by simpa using e2.symm
      omega
  subst this
  have hlt := (List.getElem?_eq_some_iff.1 hk).1
  refine ⟨hR.trans h1 hr, fun j hj => ?_, s + 1, hlt, fun j c hc => ?_, hs⟩
  · by_cases hji : j = i
    · subst hji
      rw [upd_same]
      exact hv
    · rw [did_other _ hji] at hj
      rw [upd_other _ _ hji]
      exact hV _ _ _ _ (h2 j hj) hr
  · by_cases hci : c = i
    · subst hci
      rw [did_same]
      have e2 := (List.getElem?_inj (i := j) (j := s) (by exact (List.getElem?_eq_some_iff.1 hc).1) hnd).1 (hc.trans hk.symm)
      subst e2
      simp
    · rw [did_other _ hci, h4 j c hc]
      have hjs : j ≠ s := fun e => hci (by subst e; rw [hk] at hc; injection hc with hc; exact hc.symm)
      have : (j < s) ↔ (j < s + 1) := by omega
      simp [this]

theorem ChainInv.know (h : ChainInv Rel V ch St W done u wr) {j : Nat} (hd : done j = true) : V j (u j) wr := h.2.1 j hd
theorem ChainInv.end_ (h : ChainInv Rel V ch St W done u wr) (hd : ∀ c ∈ ch, done c = true) : St ch.length u wr := by
  obtain ⟨h1, h2, s, h3, h4, h5⟩ := h
  rcases Nat.lt_or_ge s ch.length with hlt | hge
  · have e := h4 s _ (List.getElem?_eq_getElem hlt)
    rw [hd _ (List.getElem_mem hlt)] at e
    simp at e
  · have : s = ch.length := by omega
    rw [← this]
    exact h5

theorem mixedZ : Tryz.prog.follows .mixedOrders = true := by kernel_rfl
theorem rels_block (P : Nat) : Rels (fun w w' => w.grownBy w' (some P)) := ⟨fun hb => grownBy_of_below hb (Nat.le_refl _), grownBy_trans⟩

end Go.Proofs.YtihndbkaoejnnaaGreatDoor
