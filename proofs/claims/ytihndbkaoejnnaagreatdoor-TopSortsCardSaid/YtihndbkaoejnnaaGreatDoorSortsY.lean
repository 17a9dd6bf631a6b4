/- What the card TopSorts leans on: Pair. Conditions: none but those of its theorems. -/
import Derived.Test.YtihndbkaoejnnaaGreatDoorSortsR
import Derived.Test.YtihndbkaoejnnaaGreatDoorSortsC
import Derived.Test.YtihndbkaoejnnaaGreatDoorSortsG
set_option linter.unusedSimpArgs false
set_option linter.unusedVariables false
namespace Go.Proofs.YtihndbkaoejnnaaGreatDoor
open Go Go.RowKit Go.Proofs.YtihndbkaoejnnaaGreatDoor.P

/-- Two lists that do not lie in one block. -/
def ApartV (v v' : Value) : Prop := ∀ m, v.ownBlock = some m → v'.ownBlock ≠ some m
theorem ApartV.symm {v v' : Value} (h : ApartV v v') : ApartV v' v := fun m h1 h2 => h m h2 h1

/-- x, y: the two operations that make lists; al: whose value an operation hands on. V: what is known of what an operation yields. -/
def PairInv (V : Nat → Value → World → Prop) (W : World) (x y : Nat) (al : Nat → Nat) (done : Nat → Bool) (u : Nat → Value) (wr : World) : Prop :=
  Below W.heap.size W wr ∧ (∀ j, done j = true → V j (u j) wr) ∧ (done x = true → done y = true → ApartV (u x) (u y)) ∧ (∀ j, done j = true → done (al j) = true ∧ u j = u (al j))

theorem PairInv.start (V : Nat → Value → World → Prop) (W : World) (x y : Nat) (al : Nat → Nat) : ∀ u, PairInv V W x y al (fun _ => false) u W.drew :=
  fun u => ⟨(Below.refl _ _).drew, (fun j h => by simp at h), (fun h => by simp at h), (fun j h => by simp at h)⟩

theorem alias_step {al : Nat → Nat} {done : Nat → Bool} {u : Nat → Value} {i : Nat} {v : Value} (h : ∀ j, done j = true → done (al j) = true ∧ u j = u (al j)) (hn : done i = false) (hal : al i = i ∨ (done (al i) = true ∧ v = u (al i))) :
    ∀ j, did done i j = true → did done i (al j) = true ∧ upd u i v j = upd u i v (al j) := by
  intro j hj
  by_cases hji : j = i
  · subst hji
    rcases hal with e | ⟨e1, e2⟩
    · rw [e]; exact ⟨did_same _ _, rfl⟩
    · have hne : al j ≠ j := fun e => by rw [e, hn] at e1; cases e1
      rw [did_other _ hne, upd_same, upd_other _ _ hne]
      exact ⟨e1, e2⟩
  · rw [did_other _ hji] at hj
    obtain ⟨h1, h2⟩ := h j hj
    have hne : al j ≠ i := fun e => by rw [e, hn] at h1; cases h1
    rw [did_other _ hne, upd_other _ _ hji, upd_other _ _ hne]
    exact ⟨h1, h2⟩

theorem PairInv.keep {V : Nat → Value → World → Prop} {W wr w' : World} {x y i : Nat} {al : Nat → Nat} {done : Nat → Bool} {u : Nat → Value} {v : Value} (h : PairInv V W x y al done u wr) (hn : done i = false) (hx : i ≠ x) (hy : i ≠ y)
    (hV : ∀ j v w w', V j v w → Below w.heap.size w w' → V j v w') (hb : Below wr.heap.size wr w') (hv : V i v w') (hal : al i = i ∨ (done (al i) = true ∧ v = u (al i))) : PairInv V W x y al (did done i) (upd u i v) w' := by
  obtain ⟨h1, h2, h3, h4⟩ := h
  refine ⟨h1.trans (hb.mono h1.size), fun j hj => ?_, fun hx' hy' => ?_, alias_step h4 hn hal⟩
  · by_cases hji : j = i
    · subst hji
      rw [upd_same]
      exact hv
    · rw [did_other _ hji] at hj
      rw [upd_other _ _ hji]
      exact hV _ _ _ _ (h2 j hj) hb
  · rw [did_other _ (Ne.symm hx)] at hx'
    rw [did_other _ (Ne.symm hy)] at hy'
    rw [upd_other _ _ (Ne.symm hx), upd_other _ _ (Ne.symm hy)]
    exact h3 hx' hy'

/-- One of the two is made: its block is new. -/
theorem PairInv.made {V : Nat → Value → World → Prop} {W wr w' : World} {x y i : Nat} {al : Nat → Nat} {done : Nat → Bool} {u : Nat → Value} {v : Value} (h : PairInv V W x y al done u wr) (hn : done i = false) (hxy : x ≠ y) (hi : i = x ∨ i = y) (hai : al i = i)
    (hV : ∀ j v w w', V j v w → Below w.heap.size w w' → V j v w') (hlt : ∀ j v m, (j = x ∨ j = y) → V j v wr → v.ownBlock = some m → m < wr.heap.size)
    (hb : Below wr.heap.size wr w') (hnew : ∀ m, v.ownBlock = some m → wr.heap.size ≤ m) (hv : V i v w') : PairInv V W x y al (did done i) (upd u i v) w' := by
  obtain ⟨h1, h2, h3, h4⟩ := h
  refine ⟨h1.trans (hb.mono h1.size), fun j hj => ?_, fun hx' hy' => ?_, alias_step h4 hn (.inl hai)⟩
  · by_cases hji : j = i
    · subst hji
      rw [upd_same]
      exact hv
    · rw [did_other _ hji] at hj
      rw [upd_other _ _ hji]
      exact hV _ _ _ _ (h2 j hj) hb
  · rcases hi with rfl | rfl
    · rw [upd_same, upd_other _ _ (Ne.symm hxy)]
      rw [did_other _ (Ne.symm hxy)] at hy'
      intro m e1 e2
      have := hlt y _ m (.inr rfl) (h2 y hy') e2
      have := hnew m e1
      omega
    · rw [upd_same, upd_other _ _ hxy]
      rw [did_other _ hxy] at hx'
      intro m e1 e2
      have := hlt x _ m (.inl rfl) (h2 x hx') e1
      have := hnew m e2
      omega

/-- A list filled as far as k. -/
def FillTo (X : List Int) (k : Nat) : List Int := X.take k ++ List.replicate (X.length - k) 0
theorem fillTo_zero (X : List Int) : FillTo X 0 = List.replicate X.length 0 := by simp [FillTo]
theorem fillTo_all (X : List Int) : FillTo X X.length = X := by simp [FillTo]
theorem fillTo_set {X : List Int} {k : Nat} {x : Int} (h : X[k]? = some x) : (FillTo X k).set k x = FillTo X (k + 1) := by
  have hk := (List.getElem?_eq_some_iff.1 h).1
  unfold FillTo
  rw [List.set_append_right _ _ (by rw [List.length_take]; omega), List.take_add_one, h, show X.length - k = (X.length - (k + 1)) + 1 by omega, List.replicate_succ]
  rw [List.length_take, show k - min k X.length = 0 by omega]
  simp
theorem fillTo_at {X : List Int} {k : Nat} (h : k < X.length) : (FillTo X k)[k]? = some 0 := by
  unfold FillTo
  rw [List.getElem?_append_right (by rw [List.length_take]; omega), List.length_take, show k - min k X.length = 0 by omega]
  rw [List.getElem?_replicate, if_pos (by omega)]

/-- A list of n numbers that the call may write; where there is one it lies in a block of its own. -/
def SRow (w : World) (B : Nat) (A : Option Addr) (n c : Nat) (S : List Int) : Prop :=
  S.length = n ∧ (A = none → c = 0) ∧ n ≤ c ∧ c ≤ 9223372036854775807 ∧ n ≤ 17592186044416 ∧ (0 < n → ∃ g, A = some ⟨g, 0, none⟩ ∧ B ≤ g ∧ Mine w g n c S)
theorem SRow.isInts {w : World} {B : Nat} {A : Option Addr} {n c : Nat} {S : List Int} (h : SRow w B A n c S) : IsInts w (.slice A n c) S := by
  obtain ⟨h1, h2, h3, h4, h5, h6⟩ := h
  rcases Nat.eq_zero_or_pos n with h0 | h0
  · subst h0
    have : S = [] := List.eq_nil_of_length_eq_zero h1
    subst this
    exact ⟨A, c, rfl, by simp, h4, by simp, h2, fun k x hk => by simp at hk⟩
  · obtain ⟨g, rfl, _, hm⟩ := h6 h0
    exact hm.isInts
theorem SRow.mono {w w' : World} {B : Nat} {A : Option Addr} {n c : Nat} {S : List Int} (h : SRow w B A n c S) (hb : Below w.heap.size w w') : SRow w' B A n c S := by
  obtain ⟨h1, h2, h3, h4, h5, h6⟩ := h
  exact ⟨h1, h2, h3, h4, h5, fun h0 => by obtain ⟨g, e, hB, hm⟩ := h6 h0; exact ⟨g, e, hB, hm.mono hb⟩⟩
theorem Mine.far {w : World} {g n c : Nat} {xs : List Int} (h : Mine w g n c xs) {p : Addr} (hp : g ≠ p.block) (u : Value) : Mine (w.setCell p u) g n c xs := by
  obtain ⟨cs, hb, h1⟩ := h
  exact ⟨cs, Box.far hb hp u, h1⟩
theorem SRow.far {w : World} {B : Nat} {A : Option Addr} {n c : Nat} {S : List Int} (h : SRow w B A n c S) {p : Addr} (hp : ∀ g, A = some ⟨g, 0, none⟩ → g ≠ p.block) (u : Value) : SRow (w.setCell p u) B A n c S := by
  obtain ⟨h1, h2, h3, h4, h5, h6⟩ := h
  exact ⟨h1, h2, h3, h4, h5, fun h0 => by obtain ⟨g, e, hB, hm⟩ := h6 h0; exact ⟨g, e, hB, hm.far (hp g e) u⟩⟩
/-- A call tells an array, or an error. -/
def Told (a : Arr) (k : Int) (w : World) (e : Ending) (w' : World) : Prop := (k = 0 ∧ GivesOk a w e w') ∨ (k ≠ 0 ∧ Fails zeroArr k w e w')
theorem Told.ok {a : Arr} {k : Int} {w w' : World} {e : Ending} (h : Told a k w e w') (hk : k = 0) : GivesOk a w e w' := by
  rcases h with h | h
  · exact h.2
  · exact absurd hk h.1
theorem Told.bad {a : Arr} {k : Int} {w w' : World} {e : Ending} (h : Told a k w e w') (hk : k ≠ 0) : Fails zeroArr k w e w' := by
  rcases h with h | h
  · exact absurd h.1 hk
  · exact h.2

end Go.Proofs.YtihndbkaoejnnaaGreatDoor
