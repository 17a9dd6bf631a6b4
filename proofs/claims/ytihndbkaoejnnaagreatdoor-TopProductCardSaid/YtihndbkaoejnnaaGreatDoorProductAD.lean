/- What the card TopProduct leans on: Pair, FilledTold. Conditions: none but those of its theorems. -/
import Derived.Test.YtihndbkaoejnnaaGreatDoorProductR
import Derived.Test.YtihndbkaoejnnaaGreatDoorProductC
import Derived.Test.YtihndbkaoejnnaaGreatDoorProductG
import Derived.Test.YtihndbkaoejnnaaGreatDoorProductAC
set_option linter.unusedSimpArgs false
set_option linter.unusedVariables false
namespace Go.Proofs.YtihndbkaoejnnaaGreatDoor
open Go Go.RowKit Go.Proofs.YtihndbkaoejnnaaGreatDoor.P

/-- Two lists that do not lie in one block. -/
def ApartV (v v' : Value) : Prop := ∀ m, v.ownBlock = some m → v'.ownBlock ≠ some m
theorem ApartV.symm {v v' : Value} (h : ApartV v v') : ApartV v' v := fun m h1 h2 => h m h2 h1

/-- x, y: the two operations that make lists; al: whose value an operation hands on. V: what is known of what an operation yields. -/
def PairInv (V : Nat → Value → World → Prop) (W : World) (x y : Nat) (al : Nat → Nat) (done : Nat → Bool) (u : Nat → Value) (wr : World) : Prop :=
  Below W.heap.size W wr ∧ (∀ j, done j = true → V j (u j) wr) ∧ (done x = true → done y = true → ApartV (u x) (u y)) ∧ (∀ j, done j = true → done (al j) = true ∧ u j = u (al j))

theorem PairInv.start (V : Nat → Value → World → Prop) (W : World) (x y : Nat) (al : Nat → Nat) : ∀ u, PairInv V W x y al (fun _ => false) u W.drew :=
  fun u => ⟨(Below.refl _ _).drew, (fun j h => by simp at h), (fun h => by simp at h), (fun j h => by simp at h)⟩

theorem alias_step {al : Nat → Nat} {done : Nat → Bool} {u : Nat → Value} {i : Nat} {v : Value} (h : ∀ j, done j = true → done (al j) = true ∧ u j = u (al j)) (hn : done i = false) (hal : al i = i ∨ (done (al i) = true ∧ v = u (al i))) :
    ∀ j, did done i j = true → did done i (al j) = true ∧ upd u i v j = upd u i v (al j) := by
  intro j hj
  by_cases hji : j = i
  · subst hji
    rcases hal with e | ⟨e1, e2⟩
    · rw [e]; exact ⟨did_same _ _, rfl⟩
    · have hne : al j ≠ j := fun e => by rw [e, hn] at e1; cases e1
      rw [did_other _ hne, upd_same, upd_other _ _ hne]
      exact ⟨e1, e2⟩
  · rw [did_other _ hji] at hj
    obtain ⟨h1, h2⟩ := h j hj
    have hne : al j ≠ i := fun e => by rw [e, hn] at h1; cases h1
    rw [did_other _ hne, upd_other _ _ hji, upd_other _ _ hne]
    exact ⟨h1, h2⟩

/-- One of the two is made: its block is new. -/
theorem PairInv.made {V : Nat → Value → World → Prop} {W wr w' : World} {x y i : Nat} {al : Nat → Nat} {done : Nat → Bool} {u : Nat → Value} {v : Value} (h : PairInv V W x y al done u wr) (hn : done i = false) (hxy : x ≠ y) (hi : i = x ∨ i = y) (hai : al i = i)
    (hV : ∀ j v w w', V j v w → Below w.heap.size w w' → V j v w') (hlt : ∀ j v m, (j = x ∨ j = y) → V j v wr → v.ownBlock = some m → m < wr.heap.size)
    (hb : Below wr.heap.size wr w') (hnew : ∀ m, v.ownBlock = some m → wr.heap.size ≤ m) (hv : V i v w') : PairInv V W x y al (did done i) (upd u i v) w' := by
  obtain ⟨h1, h2, h3, h4⟩ := h
  refine ⟨h1.trans (hb.mono h1.size), fun j hj => ?_, fun hx' hy' => ?_, alias_step h4 hn (.inl hai)⟩
  · by_cases hji : j = i
    · subst hji
      rw [upd_same]
      exact hv
    · rw [did_other _ hji] at hj
      rw [upd_other _ _ hji]
      exact hV _ _ _ _ (h2 j hj) hb
  · rcases hi with rfl | rfl
    · rw [upd_same, upd_other _ _ (Ne.symm hxy)]
      rw [did_other _ (Ne.symm hxy)] at hy'
      intro m e1 e2
      have := hlt y _ m (.inr rfl) (h2 y hy') e2
      have := hnew m e1
      omega
    · rw [upd_same, upd_other _ _ hxy]
      rw [did_other _ hxy] at hx'
      intro m e1 e2
      have := hlt x _ m (.inl rfl) (h2 x hx') e1
      have := hnew m e2
      omega

/-- A list filled as far as k. -/
def FillTo (X : List Int) (k : Nat) : List Int := X.take k ++ List.replicate (X.length - k) 0
theorem fillTo_zero (X : List Int) : FillTo X 0 = List.replicate X.length 0 := by simp [FillTo]
theorem fillTo_all (X : List Int) : FillTo X X.length = X := by simp [FillTo]
theorem fillTo_set {X : List Int} {k : Nat} {x : Int} (h : X[k]? = some x) : (FillTo X k).set k x = FillTo X (k + 1) := by
  have hk := (List.getElem?_eq_some_iff.1 h).1
  unfold FillTo
  rw [List.set_append_right _ _ (by rw [List.length_take]; omega), List.take_add_one, h, show X.length - k = (X.length - (k + 1)) + 1 by omega, List.replicate_succ]
  rw [List.length_take, show k - min k X.length = 0 by omega]
  simp
theorem fillTo_at {X : List Int} {k : Nat} (h : k < X.length) : (FillTo X k)[k]? = some 0 := by
  unfold FillTo
  rw [List.getElem?_append_right (by rw [List.length_take]; omega), List.length_take, show k - min k X.length = 0 by omega]
  rw [List.getElem?_replicate, if_pos (by omega)]

/-- A list of n numbers that the call may write; where there is one it lies in a block of its own. -/
def SRow (w : World) (B : Nat) (A : Option Addr) (n c : Nat) (S : List Int) : Prop :=
  S.length = n ∧ (A = none → c = 0) ∧ n ≤ c ∧ c ≤ 9223372036854775807 ∧ n ≤ 17592186044416 ∧ (0 < n → ∃ g, A = some ⟨g, 0, none⟩ ∧ B ≤ g ∧ Mine w g n c S)
theorem SRow.isInts {w : World} {B : Nat} {A : Option Addr} {n c : Nat} {S : List Int} (h : SRow w B A n c S) : IsInts w (.slice A n c) S := by
  obtain ⟨h1, h2, h3, h4, h5, h6⟩ := h
  rcases Nat.eq_zero_or_pos n with h0 | h0
  · subst h0
    have : S = [] := List.eq_nil_of_length_eq_zero h1
    subst this
    exact ⟨A, c, rfl, by simp, h4, by simp, h2, fun k x hk => by simp at hk⟩
  · obtain ⟨g, rfl, _, hm⟩ := h6 h0
    exact hm.isInts
theorem SRow.mono {w w' : World} {B : Nat} {A : Option Addr} {n c : Nat} {S : List Int} (h : SRow w B A n c S) (hb : Below w.heap.size w w') : SRow w' B A n c S := by
  obtain ⟨h1, h2, h3, h4, h5, h6⟩ := h
  exact ⟨h1, h2, h3, h4, h5, fun h0 => by obtain ⟨g, e, hB, hm⟩ := h6 h0; exact ⟨g, e, hB, hm.mono hb⟩⟩
theorem Mine.far {w : World} {g n c : Nat} {xs : List Int} (h : Mine w g n c xs) {p : Addr} (hp : g ≠ p.block) (u : Value) : Mine (w.setCell p u) g n c xs := by
  obtain ⟨cs, hb, h1⟩ := h
  exact ⟨cs, Box.far hb hp u, h1⟩
theorem SRow.far {w : World} {B : Nat} {A : Option Addr} {n c : Nat} {S : List Int} (h : SRow w B A n c S) {p : Addr} (hp : ∀ g, A = some ⟨g, 0, none⟩ → g ≠ p.block) (u : Value) : SRow (w.setCell p u) B A n c S := by
  obtain ⟨h1, h2, h3, h4, h5, h6⟩ := h
  exact ⟨h1, h2, h3, h4, h5, fun h0 => by obtain ⟨g, e, hB, hm⟩ := h6 h0; exact ⟨g, e, hB, hm.far (hp g e) u⟩⟩
/-- A call tells an array, or an error. -/
def Told (a : Arr) (k : Int) (w : World) (e : Ending) (w' : World) : Prop := (k = 0 ∧ GivesOk a w e w') ∨ (k ≠ 0 ∧ Fails zeroArr k w e w')
theorem Told.ok {a : Arr} {k : Int} {w w' : World} {e : Ending} (h : Told a k w e w') (hk : k = 0) : GivesOk a w e w' := by
  rcases h with h | h
  · exact h.2
  · exact absurd hk h.1
end Go.Proofs.YtihndbkaoejnnaaGreatDoor

namespace Go.Proofs.YtihndbkaoejnnaaGreatDoor
open Go Go.RowKit Go.Proofs.YtihndbkaoejnnaaGreatDoor.P

/-- A list told number by number, or the first error. -/
def FillTells (val err : Nat → Int) (n : Nat) (s : List Int) (w : World) (e : Ending) (w' : World) : Prop :=
  ((∀ i, i < n → err i = 0) ∧ GivesOk ⟨false, s, (List.range n).map val⟩ w e w') ∨ (∃ i, i < n ∧ (∀ j, j < i → err j = 0) ∧ err i ≠ 0 ∧ Fails zeroArr (err i) w e w')

def FillTellsN (val err : Nat → Int) (n : Nat) (s : List Int) (w : World) (e : Ending) (w' : World) : Prop :=
  ((∀ i, i < n → err i = 0) ∧ GivesOkN ⟨false, s, (List.range n).map val⟩ w e w') ∨ (∃ i, i < n ∧ (∀ j, j < i → err j = 0) ∧ err i ≠ 0 ∧ Fails zeroArr (err i) w e w')
theorem FillTellsN.old {val err : Nat → Int} {n : Nat} {s : List Int} {w : World} {e : Ending} {w' : World} (h : FillTellsN val err n s w e w') : FillTells val err n s w e w' := h.elim (fun h => .inl ⟨h.1, h.2.old⟩) .inr

set_option maxRecDepth 100000 in
set_option maxHeartbeats 4000000 in
theorem filled_new (vs : Value) (s : List Int) (val err : Nat → Int) (n F : Nat) (caps : Array Value) (w : World) (hs : IsInts w vs s) (hn : n ≤ 4096)
    (hF : ∀ i, i < n → ∀ W, Below w.heap.size w W → Calls Tryz.prog F (#[.int .i64 i] ++ caps) W fun e W' => e = .returned (.tuple #[.int .i64 (val i), errV (err i)]) ∧ Below W.heap.size W W')
    (hcf : ∀ args W, (callFunc F args).run Tryz.prog W = .ok (.enter F args) W) :
    Calls Tryz.prog 230 #[vs, .int .i64 n, .func (.func F) #[] caps] w (FillTellsN val err n s w) := by
  obtain ⟨X, hXE⟩ : ∃ X, X = (List.range n).map val := ⟨_, rfl⟩
  have HXE := Lib.hid hXE
  have hX : X.length = n := by rw [hXE, List.length_map, List.length_range]
  clear hXE
  obtain ⟨S, cs, rfl, s1, s2, s3, ES0, HS0⟩ := hs.open_
  have HS := Lib.hid HS0
  have HF := Lib.hid hF
  have HX := Lib.hid hX
  have hmk := run_make_list n (by omega)
  have bR0 := Box.new w 25 #[.bool false, .slice none 0 0, .slice none 0 0]
  clear ES0 HS0 hF hX hs
  go_enter Tryz.func230, Tryz.ntmps230
  go_wp2_with fail
  refine wp_region_open (fun i v lo hi w' => match i with
    | 0 => v = .slice S s.length cs
    | 1 => ∃ A' c', v = .slice A' s.length c' ∧ Owns w' lo v s.length (s) ∧ (∀ b, v.ownBlock = some b → b < hi) ∧ w.heap.size + 1 ≤ lo
    | 2 => v = .int .i64 n
    | 3 => ∃ m, v = .slice (some ⟨m, 0, none⟩) n n ∧ Row w' m (List.replicate n 0) ∧ lo ≤ m ∧ m < hi ∧ w.heap.size + 1 ≤ lo
    | 4 => ∃ A' c' m, v = .agg #[.bool false, .slice A' s.length c', .slice (some ⟨m, 0, none⟩) n n] ∧ Owns w' (w.heap.size + 1) (.slice A' s.length c') s.length (s) ∧ Row w' m (List.replicate n 0) ∧ w.heap.size + 1 ≤ m ∧ (Value.slice A' s.length c').ownBlock ≠ some m
    | 5 => ∃ g, v = .pointer (some ⟨g, 0, none⟩) ∧ Box w' g 25 #[.bool false, .slice none 0 0, .slice none 0 0] ∧ w.heap.size + 1 ≤ g
    | _ => True) (by kernel_rfl) (by kernel_rfl) (by kernel_rfl) ?hV ?step ?last
  case hV =>
    intro i v lo hi w1 w2 h hb
    match i, h with
    | 0, h => exact h
    | 1, ⟨A', c', e, ho, hl, hz⟩ => exact ⟨A', c', e, ho.below hb, hl, hz⟩
    | 2, h => exact h
    | 3, ⟨m, e, ho, hm, hl, hz⟩ => exact ⟨m, e, Box.below ho hb, hm, hl, hz⟩
    | 4, ⟨A', c', m, e, ho, hr, hm, hne⟩ => exact ⟨A', c', m, e, ho.below hb, Box.below hr hb, hm, hne⟩
    | 5, ⟨g, e, hx, hz⟩ => exact ⟨g, e, hx.below hb, hz⟩
    | i + 6, _ => trivial
  case step =>
    simp only [putAll, Act.put, List.setIfInBounds_toArray, List.set_cons_zero, List.set_cons_succ, Nat.reduceAdd, Nat.zero_add]
    intro i o ho hi uu lo up wr hbr hd hj K hK
    obtain ⟨hcw, hfw⟩ := bcell hbr
    match i, ho with
    | 0, ho =>
      simp only [List.getElem?_cons_zero, Option.some.injEq] at ho
      subst ho
      first | (simp [Region.binds] at hd; simp only [hd] at hK) | skip
      refine wpOp_step rfl fun K' hK' => ?_
      go_simp
      exact hK' _ _ (hK _ _ (Below.refl _ _) rfl)
    | 1, ho =>
      simp only [List.getElem?_cons_succ, List.getElem?_cons_zero, Option.some.injEq] at ho
      subst ho
      first | (simp [Region.binds] at hd; simp only [hd] at hK) | skip
      refine wpOp_step rfl fun K' hK' => ?_
      go_simp
      refine (clone_any _ (s) _ (HS.out.mono ((below_one w _).trans (hbr.mono (by simp))))).mono ?_
      rintro e w1 ⟨A1, c1, rfl, ho, hb1⟩
      try simp only [length_ints] at ho hK' ⊢
      have hz := hbr.size
      try simp only [World.size_alloc] at hz
      exact hK' _ _ (hK _ _ hb1 ⟨A1, c1, rfl, ho, fun b e => (ho.lt e).2, by omega⟩)
    | 2, ho =>
      simp only [List.getElem?_cons_succ, List.getElem?_cons_zero, Option.some.injEq] at ho
      subst ho
      first | (simp [Region.binds] at hd; simp only [hd] at hK) | skip
      refine wpOp_step rfl fun K' hK' => ?_
      go_simp
      exact hK' _ _ (hK _ _ (Below.refl _ _) rfl)
    | 3, ho =>
      simp only [List.getElem?_cons_succ, List.getElem?_cons_zero, Option.some.injEq] at ho
      subst ho
      first | (simp [Region.binds] at hd; simp only [hd] at hK) | skip
      have hz := hbr.size
      try simp only [World.size_alloc] at hz
      refine wpOp_step rfl fun K' hK' => ?_
      go_simp
      exact hK' _ _ (hK _ _ (below_one _ _) ⟨_, rfl, Row.made _ _, Nat.le_refl _, by simp, by omega⟩)
    | 4, ho =>
      simp only [List.getElem?_cons_succ, List.getElem?_cons_zero, Option.some.injEq] at ho
      subst ho
      obtain ⟨A', c', es, os, ls, zs⟩ := hd ⟨1, .data⟩ (by simp) rfl
      obtain ⟨m, ed, od, md, ld, zd⟩ := hd ⟨3, .data⟩ (by simp) rfl
      have hdj := hj ⟨1, .data⟩ (by simp) ⟨3, .data⟩ (by simp) rfl rfl (by simp)
      dsimp only at os ls zs od md ld zd hdj
      simp only [es, ed] at hK
      rw [es] at os ls
      have hne : (Value.slice A' s.length c').ownBlock ≠ some m := fun e => by have h1 := (os.lt e).1; have h2 := ls m e; omega
      refine wpOp_step rfl fun K' hK' => ?_
      go_simp
      exact hK' _ _ (hK _ _ (Below.refl _ _) ⟨A', c', m, rfl, os.base (by omega), od, by omega, hne⟩)
    | 5, ho =>
      simp only [List.getElem?_cons_succ, List.getElem?_cons_zero, Option.some.injEq] at ho
      subst ho
      first | (simp [Region.binds] at hd; simp only [hd] at hK) | skip
      have hz := hbr.size
      try simp only [World.size_alloc] at hz
      refine wpOp_step rfl fun K' hK' => ?_
      go_simp
      exact hK' _ _ (hK _ _ (below_one _ _) ⟨_, rfl, Box.new _ _ _, by omega⟩)
    | i + 6, ho => simp at hi; omega
  case last =>
    simp only [putAll, Act.put, List.setIfInBounds_toArray, List.set_cons_zero, List.set_cons_succ, Nat.reduceAdd, Nat.zero_add]
    intro uu wr lo up hbr hv hj
    obtain ⟨A', c', m, e9, o4, r8, m8, hne⟩ := hv 4 (by simp)
    obtain ⟨g, e10, bg, hg⟩ := hv 5 (by simp)
    obtain ⟨g0, g1, g2⟩ := bg.three
    have gf := bg.frozen
    simp only [e9, e10]
    clear hv hj e9 e10
    refine wpOp_step rfl fun K' hK' => ?_
    go_simp
    refine hK' _ _ ?_
    have hbw := (below_one w _).trans (hbr.mono (by simp))
    have hgg := grownBy_three wr g (.bool false) (.slice A' s.length c') (.slice (some ⟨m, 0, none⟩) n n)
    have i1 := ((bg.store 0 (.bool false)).store 1 (.slice A' s.length c')).store 2 (.slice (some ⟨m, 0, none⟩) n n)
    simp only [List.setIfInBounds_toArray, List.set_cons_zero, List.set_cons_succ] at i1
    have i3 := o4.kept hgg (.inr (o4.ne_box bg (by decide)))
    have hgm : g ≠ m := Box.apart bg r8 (by decide)
    have i2 : Row _ m _ := Box.grown r8 hgg (by intro e; injection e with e; exact hgm e)
    have i4 := Box.grown (Box.below bR0 hbr) hgg (by simp; omega)
    have iw := hbw.grown hgg hbw.size (fun j e => by cases e; omega)
    have hgl : g < (((wr.setCell ⟨g, 0, none⟩ (.bool false)).setCell ⟨g, 1, none⟩ (.slice A' s.length c')).setCell ⟨g, 2, none⟩ (.slice (some ⟨m, 0, none⟩) n n)).heap.size := i1.lt
    clear hbr hgg o4 r8 bg g0 g1 g2 gf hbw hK' 
    generalize (((wr.setCell ⟨g, 0, none⟩ (.bool false)).setCell ⟨g, 1, none⟩ (.slice A' s.length c')).setCell ⟨g, 2, none⟩ (.slice (some ⟨m, 0, none⟩) n n)) = W2 at i3 i2 i4 i1 iw hgl ⊢
    have i2' : Row W2 m (FillTo X 0) := by rw [fillTo_zero, HX.out]; exact i2
    have HNE := Lib.hid hne
    have HM8 := Lib.hid m8
    have hgm2 : g ≠ m := Box.apart i1 i2 (by decide)
    have HGM := Lib.hid hgm2
    clear hne i2 hgm2 hmk
    obtain ⟨g0, g1, g2⟩ := i1.three
    go_wp2_with fail
    clear g0 g1 g2
    go_loopw [20] (fun i wr => ∃ k : Nat, k ≤ n ∧ i = .int .i64 k ∧ (∀ j, j < k → err j = 0) ∧ Row wr m (FillTo X k) ∧ Box wr g 25 #[.bool false, .slice A' s.length c', .slice (some ⟨m, 0, none⟩) n n] ∧
        Owns wr (w.heap.size + 1) (.slice A' s.length c') s.length s ∧ Box wr w.heap.size 25 #[.bool false, .slice none 0 0, .slice none 0 0] ∧ Below w.heap.size w wr) (fun i _ => n - (intOf i).toNat)
    case atStart => exact ⟨0, Nat.zero_le _, rfl, fun j h => absurd h (Nat.not_lt_zero _), i2', i1, i3, i4, iw⟩
    case round =>
      clear i2' i1 i3 i4 iw
      obtain ⟨k, hk, rfl, hez, hr, bo, ho, bR, hbl⟩ := hrel
      have HEZ := Lib.hid hez
      clear hez
      have gl := bo.lt
      have ml := Box.lt hr
      rcases Nat.lt_or_ge k n with hlt | hge
      · obtain ⟨x, hxv⟩ : ∃ x, x = val k := ⟨_, rfl⟩
        have hx : X[k]? = some x := by rw [HXE.out, List.getElem?_map, List.getElem?_range hlt, hxv]; rfl
        have hc0 := HF.out k hlt wr hbl
        rw [← hxv] at hc0
        have HX1 := Lib.hid hx
        clear hx hxv
        by_cases hz : err k = 0
        case neg =>
          obtain ⟨ee, hee⟩ : ∃ ee, ee = err k := ⟨_, rfl⟩
          rw [errV_ne hz, ← hee] at hc0
          have hcall := Lib.hid hc0
          have HZ := Lib.hid hz
          have HLT := Lib.hid hlt
          have HEE := Lib.hid hee
          clear hc0 hz hee
          go_wp2_with fail
          refine (hcall.out).mono ?_
          rintro e w4 ⟨rfl, hb4⟩
          have bR4 := bR.below hb4
          obtain ⟨q0, q1, q2⟩ := bR4.three
          have qf := bR4.frozen
          have hzR := bR4.lt
          have hbl4 := hbl.trans (hb4.mono hbl.size)
          clear hb4 hr bo ho bR hbl
          go_wp2_with fail
          refine bodyPost_ret (v := .tuple #[zeroArr, .iface 54 (.int .i64 ee)]) (by simp [results, Tryz.results230, go_sem, q0, q1, q2, hzR]; first | done | rfl) rfl ?_
          exact .inr ⟨k, HLT.out, HEZ.out, HZ.out, by rw [← HEE.out]; exact ⟨rfl, by have := hbl4.size; go_grown⟩⟩
        rw [hz] at hc0
        have hcall := Lib.hid (show Calls _ _ _ wr fun e W' => e = .returned (.tuple #[.int .i64 x, .nilIface]) ∧ Below wr.heap.size wr W' from hc0)
        have HZ := Lib.hid hz
        clear hc0 hz
        go_wp2_with fail
        refine (hcall.out).mono ?_
        rintro e w4 ⟨rfl, hb4⟩
        have hr4 : Row w4 m (FillTo X k) := Box.below hr hb4
        have bo4 := bo.below hb4
        have ho4 := ho.below hb4
        have bR4 := bR.below hb4
        have hbl4 := hbl.trans (hb4.mono hbl.size)
        clear hr bo ho bR hbl hb4
        obtain ⟨g0, g1, g2⟩ := bo4.three
        have gk := hr4.at_ (fillTo_at (X := X) (k := k) (by rw [HX.out]; exact hlt))
        have gf := Box.frozen hr4 k
        have gl := bo4.lt
        have ml := Box.lt hr4
        have hs1 := hr4.store k x
        rw [fillTo_set HX1.out] at hs1
        have HS1 := Lib.hid hs1
        clear hs1
        go_wp2_with fail
        go_roundw
        case rel => exact ⟨k + 1, by omega, by go_num, fun j hj => by
          rcases Nat.lt_or_ge j k with h | h
          · exact HEZ.out j h
          · obtain rfl : j = k := by omega
            exact HZ.out, HS1.out, bo4.far (p := ⟨m, k, none⟩) HGM.out _, ho4.setCell (p := ⟨m, k, none⟩) HNE.out _, bR4.far (p := ⟨m, k, none⟩) (by simp; omega) _, hbl4.setCell (p := ⟨m, k, none⟩) (by simp; omega) _⟩
        case measure => simp [intOf]; omega
      · have hke : k = n := by omega
        subst hke
        have hfx : FillTo X k = X := by rw [← HX.out]; exact fillTo_all _
        rw [hfx] at hr
        have iS := ho.isInts
        have iD := hr.isInts (n := k) HX.out.symm (by omega)
        obtain ⟨g0, g1, g2⟩ := bo.three
        have gf := bo.frozen
        have zl := bR.lt
        obtain ⟨z0, z1, z2⟩ := bR.three
        have zf := bR.frozen
        have hia : IsArr wr (.agg #[.bool false, .slice A' s.length c', .slice (some ⟨m, 0, none⟩) k k]) ⟨false, s, X⟩ := ⟨_, _, rfl, iS, iD⟩
        have HIA := Lib.hid hia
        have HNV := Lib.hid (newV (b := false) (ho.from_ (B' := w.heap.size) (by omega)) (block_from (B := w.heap.size) (g := m) (o := 0) (n := k) (c := k) (by have := HM8.out; omega)))
        clear hia hfx hr iS iD
        go_wp2_with fail
        refine bodyPost_ret (v := .tuple #[.agg #[.bool false, .slice A' s.length c', .slice (some ⟨m, 0, none⟩) k k], .nilIface]) (by simp [results, Tryz.results230, go_sem, zl, z0, z1, z2]; first | done | rfl | exact ⟨rfl, rfl, rfl⟩) rfl ?_
        refine .inl ⟨HEZ.out, ?_⟩
        rw [← HXE.out]
        exact ⟨_, rfl, IsArr.laid HIA.out bR _ _ _, by have := hbl.size; go_grown, HNV.out⟩

end Go.Proofs.YtihndbkaoejnnaaGreatDoor
