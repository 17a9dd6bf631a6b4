/- What the card TopProduct leans on: SpellOne, Spell, TreeNodes, Right, FlatLeaf, ParseSmall, ParseNeed, ParseFn, FlatAll, ParseInner. Conditions: none but those of its theorems. -/
import Derived.Laws.StructEq
import Derived.Laws.Runes
import Derived.Deep.RegionLaw
import Derived.Test.YtihndbkaoejnnaaGreatDoorProductO
set_option linter.unusedSimpArgs false
set_option linter.unusedVariables false
namespace Go.Proofs.YtihndbkaoejnnaaGreatDoor
open Go Go.RowKit Go.Proofs.YtihndbkaoejnnaaGreatDoor.P

/-- A name. -/
def NameOk (s : ByteArray) : Prop := 0 < s.size ∧ s.size ≤ 12 ∧ (∀ h : 0 < s.size, letB (s[0].toNat : Int) = true) ∧ ∀ k, (hk : k < s.size) → inB (s[k].toNat : Int) = true

set_option maxHeartbeats 2000000 in
theorem named_ok {s : ByteArray} {w : World} (h : NameOk s) : Calls Tryz.prog 87 #[.string s] w fun e w' => e = .returned .nilIface ∧ w = w' := by
  obtain ⟨h0, h12, hl, hin⟩ := h
  have h1 := hl h0
  have HI := Lib.hid hin
  have hXe : s.toList.isEmpty = false := by
    rw [Lib.toList_data]
    cases he : s.data.toList with
    | nil => rw [Lib.size_eq, he] at h0; simp at h0
    | cons _ _ => rfl
  clear hl hin
  go_enter Tryz.func87, Tryz.ntmps87
  go_wp2_with (first | (go_at_call 79; refine (letter_any _ _).mono ?_; rintro e w' ⟨rfl, rfl⟩))
  go_loop [15] (fun s15 => ∃ k : Nat, k ≤ s.size ∧ s15 = .int .i64 k) (fun s15 => s.size - (intOf s15).toNat)
  case atStart => exact ⟨0, Nat.zero_le _, rfl⟩
  case round =>
    obtain ⟨k, hk, rfl⟩ := hrel
    by_cases hlt : k < s.size
    · have hi := HI.out k hlt
      go_wp2_with (first | (go_at_call 80; refine (within_any _ _).mono ?_; rintro e w' ⟨rfl, rfl⟩))
      go_round
      case rel => exact ⟨k + 1, by omega, by go_num⟩
      case measure => simp [intOf]; omega
    · go_wp2_with fail
      go_ret
      exact ⟨rfl, rfl⟩

theorem encode_le (r : Int) : (Utf8.encode r).size ≤ 4 := by
  unfold Utf8.encode
  dsimp only
  generalize (if Utf8.valid r = true then r.toNat else Utf8.runeError) = c
  split
  · exact (by decide : 1 ≤ 4)
  · split
    · exact (by decide : 2 ≤ 4)
    · split
      · exact (by decide : 3 ≤ 4)
      · exact (by decide : 4 ≤ 4)
theorem glyphR_ne {F : Int} (h1 : 1 ≤ F) (h2 : F ≤ 34) : glyphR F ≠ 0 :=
  below_nat (m := 1) (n := 34) (p := fun j => glyphR j ≠ 0) (by decide +kernel) F (by omega) (by omega)

/-- A word is spelt, and nothing is wrong. -/
def Spelt (w : World) (e : Ending) (w' : World) : Prop := ∃ x : ByteArray, x.size ≤ 100 ∧ e = .returned (.tuple #[.string x, .nilIface]) ∧ Below w.heap.size w w'

set_option maxRecDepth 100000 in
set_option maxHeartbeats 4000000 in
theorem spelt_name {s : ByteArray} {at_ : Nat} {w : World} (h : NameOk s) : Calls Tryz.prog 63 #[tokV 3 0 0 s at_] w (Spelt w) := by
  have HN := Lib.hid h
  have hs := h.2.1
  clear h
  unfold tokV
  go_enter Tryz.func63, Tryz.ntmps63
  go_wp2_with fail
  go_quiet ((exact Calls.quiet_of_same ((named_ok HN.out).mono fun _ _ q => ⟨q.1, q.2.symm⟩)))
  all_goals go_wp2_with fail
  go_ret2
  exact ⟨s, by omega, rfl, ((below_two w _ _).trans (below_draws _ _ _))⟩

set_option maxRecDepth 100000 in
set_option maxHeartbeats 4000000 in
theorem spelt_glyph {F : Int} {at_ : Nat} {w : World} (h1 : 1 ≤ F) (h2 : F ≤ 34) : Calls Tryz.prog 63 #[tokV 4 F 0 ⟨#[]⟩ at_] w (Spelt w) := by
  obtain ⟨G, hG⟩ : ∃ G, G = glyphR F := ⟨_, rfl⟩
  have hG0 : (G == 0) = false := by rw [hG]; simp; exact glyphR_ne h1 h2
  have HG := Lib.hid hG
  clear hG h1 h2
  unfold tokV
  go_enter Tryz.func63, Tryz.ntmps63
  go_wp2_with (first | (go_at_call 88; refine (glyph_any _ _).mono ?_; rintro e w' ⟨rfl, rfl⟩; rw [← HG.out]))
  go_ret2
  exact ⟨Utf8.encode G, Nat.le_trans (encode_le G) (by decide), rfl, ((below_two w _ _))⟩

set_option maxRecDepth 100000 in
set_option maxHeartbeats 4000000 in
theorem spelt_sign {K : Int} {at_ : Nat} {w : World} (h1 : 5 ≤ K) (h2 : K ≤ 20) : Calls Tryz.prog 63 #[tokV K 0 0 ⟨#[]⟩ at_] w (Spelt w) := by
  have e1 : (K == 1) = false := by simp; omega
  have e2 : (K == 2) = false := by simp; omega
  have e3 : (K == 3) = false := by simp; omega
  have e4 : (K == 4) = false := by simp; omega
  unfold tokV
  go_enter Tryz.func63, Tryz.ntmps63
  go_wp2_with (first | (go_at_call 83; refine (sign_any _ _).mono ?_; rintro e w' ⟨rfl, rfl⟩))
  go_ret2
  exact ⟨Utf8.encode (signR K), Nat.le_trans (encode_le _) (by decide), rfl, ((below_two w _ _))⟩

theorem length_decDigits {i : Nat} (hi : i < 100) : (Lib.decDigits i).length ≤ 2 := by
  have h : ∀ j, j < 100 → (Lib.decDigits j).length ≤ 2 := by decide +kernel
  exact h i hi

set_option maxRecDepth 100000 in
set_option maxHeartbeats 4000000 in
theorem spelt_num {n at_ : Nat} {w : World} (hn : n < 100) : Calls Tryz.prog 63 #[tokV 1 0 n ⟨#[]⟩ at_] w (Spelt w) := by
  have e1 : ¬ (n : Int) < 0 := by omega
  have hd := length_decDigits hn
  obtain ⟨X, hX⟩ : ∃ X : ByteArray, X = ⟨(Lib.decDigits n).toArray⟩ := ⟨_, rfl⟩
  have hs : X.size ≤ 100 := by rw [hX]; show (Lib.decDigits n).toArray.size ≤ 100; simp; omega
  have HX := Lib.hid hX
  clear hX hd
  unfold tokV
  go_enter Tryz.func63, Tryz.ntmps63
  go_wp2_with (first | (go_at_call 84; refine (itoa_small n hn _).mono ?_; rintro e w' ⟨rfl, rfl⟩; rw [← HX.out]))
  go_ret2
  exact ⟨X, hs, rfl, ((below_two w _ _))⟩

end Go.Proofs.YtihndbkaoejnnaaGreatDoor

namespace Go.Proofs.YtihndbkaoejnnaaGreatDoor
open Go Go.RowKit Go.Proofs.YtihndbkaoejnnaaGreatDoor.P

theorem rowed_str : Rowed 115 9 1 16 := ⟨Tryz.underlying115, ⟨.string ⟨#[]⟩, by kernel_rfl, by kernel_rfl⟩, by decide, by decide⟩

theorem ownsR_at0 {w : World} {B m n c : Nat} {t : TypeId} {A : Option Addr} {u : Value} {us : List Value} (h : w.ownsRow B t m (.slice A n c) n (u :: us)) : ∃ g, A = some ⟨g, 0, none⟩ ∧ B ≤ g ∧ g < w.heap.size ∧ w.cell? ⟨g, 0, none⟩ = some u := by
  have hl := h.1
  rcases h.2 with ⟨e, rfl⟩ | ⟨g, cap, cur, e, hb, hg, _⟩
  · simp at hl
  · injection e with e1 e2 e3
    subst e1
    exact ⟨g, rfl, hb, (Array.getElem?_eq_some_iff.1 hg).1, h.cells (g := g) rfl 0 u rfl⟩

/-- The word can be spelt. -/
def TokOk (t : Tok) : Prop := ∀ w, Std w → Calls Tryz.prog 63 #[t.v] w (Spelt w)
theorem tokOk_name {s : ByteArray} {p : Nat} (h : NameOk s) : TokOk ⟨3, 0, 0, s, p⟩ := fun _ _ => spelt_name h
theorem tokOk_glyph {F : Int} {p : Nat} (h1 : 1 ≤ F) (h2 : F ≤ 34) : TokOk ⟨4, F, 0, ⟨#[]⟩, p⟩ := fun _ _ => spelt_glyph h1 h2
theorem tokOk_sign {K : Int} {p : Nat} (h1 : 5 ≤ K) (h2 : K ≤ 20) : TokOk ⟨K, 0, 0, ⟨#[]⟩, p⟩ := fun _ _ => spelt_sign h1 h2
theorem tokOk_num {n p : Nat} (h : n < 100) : TokOk ⟨1, 0, n, ⟨#[]⟩, p⟩ := fun _ _ => spelt_num h
/-- A word's cells lie here. -/
def TokAt (w : World) (b o : Nat) (t : Tok) : Prop :=
  w.cell? ⟨b, o, none⟩ = some (.int .i64 t.k) ∧ w.cell? ⟨b, o + 1, none⟩ = some (.int .i64 t.f) ∧ w.cell? ⟨b, o + 2, none⟩ = some (.int .i64 t.n) ∧ w.cell? ⟨b, o + 3, none⟩ = some (.string t.t) ∧ w.cell? ⟨b, o + 4, none⟩ = some (.int .i64 t.at_)
theorem TokAt.lt {w : World} {b o : Nat} {t : Tok} (h : TokAt w b o t) : b < w.heap.size := World.block_lt_of_cell? w ⟨b, o, none⟩ h.1
theorem TokAt.below {w w' : World} {b o : Nat} {t : Tok} (h : TokAt w b o t) (hb : Below w.heap.size w w') : TokAt w' b o t := by
  have hl := h.lt
  obtain ⟨h0, h1, h2, h3, h4⟩ := h
  exact ⟨(hb.cell (p := ⟨b, o, none⟩) hl).trans h0, (hb.cell (p := ⟨b, o + 1, none⟩) hl).trans h1, (hb.cell (p := ⟨b, o + 2, none⟩) hl).trans h2, (hb.cell (p := ⟨b, o + 3, none⟩) hl).trans h3, (hb.cell (p := ⟨b, o + 4, none⟩) hl).trans h4⟩

set_option maxHeartbeats 4000000 in
theorem spell_one {t : Tok} {b o c : Nat} {w : World} (hst : Std w) (ht : TokAt w b o t) (hc : 1 ≤ c) (hk : TokOk t) :
    Calls Tryz.prog 44 #[.slice (some ⟨b, o, none⟩) 1 c] w (Spelt w) := by
  have HST := Lib.hid hst
  have HT := Lib.hid ht
  have HK := Lib.hid hk
  have hbl := ht.lt
  clear hst ht hk
  go_enter Tryz.func44, Tryz.ntmps44
  go_wp2_with fail
  go_loopw [16, 4] (fun s16 s4 wr => Below w.heap.size w wr ∧ ((s16 = .int .i64 0 ∧ s4 = .slice none 0 0) ∨ (s16 = .int .i64 1 ∧ ∃ (x : ByteArray) (g c' : Nat), x.size ≤ 100 ∧ s4 = .slice (some ⟨g, 0, none⟩) 1 c' ∧ wr.cell? ⟨g, 0, none⟩ = some (.string x)))) (fun s16 _ _ => 1 - (intOf s16).toNat)
  case atStart => exact ⟨Below.refl _ _, .inl ⟨rfl, rfl⟩⟩
  case round =>
    obtain ⟨hb, hrel⟩ := hrel
    have HB := Lib.hid hb
    rcases hrel with ⟨rfl, rfl⟩ | ⟨rfl, x, g, c', hx, rfl, hg⟩
    · obtain ⟨q0, q1, q2, q3, q4⟩ := HT.out.below hb
      clear hb
      go_wp2_with fail
      have hb1 : Below w.heap.size w (wr.alloc (.cells t.cells.toArray 113)) := HB.out.alloc HB.out.size _
      refine (HK.out _ (HST.out.below hb1)).mono ?_
      rintro e w1 ⟨x, hx, rfl, hb2⟩
      have hbw := Lib.hid (hb1.trans (hb2.mono (by have := hb1.size; simpa using this)))
      clear hb1 hb2 q0 q1 q2 q3 q4
      go_wp2_with (at_builtin; refine wpList_append_rows _ rfl 115 9 1 16 rowed_str rfl _ _ (by rfl) w1.heap.size 0 _ [] (by rfl) (World.ownsRow_nil _ _ _ _) (some ⟨w1.heap.size, 0, none⟩) 1 1 [.string x] (by rfl) (by simp) (by omega) (cellsAt_new w1 9 [.string x]) (by intro u hu; simp at hu; subst hu; rfl) rfl (by omega) (by simp) ?_; intro A2 c2 w5 hown5 hgrow hat)
      go_roundw
      case rel =>
        simp only [List.nil_append] at hown5
        obtain ⟨g, rfl, hg1, hg2, hg3⟩ := ownsR_at0 hown5
        exact ⟨(hbw.out.alloc hbw.out.size _).grown hgrow (by have := hbw.out.size; simp; omega) (fun k e => by cases e), .inr ⟨rfl, x, g, c2, hx, rfl, hg3⟩⟩
      case measure => simp [intOf]
    · clear hb
      go_wp2_with (first | (go_at_call 64; refine (join_one g 0 c' x _ _ hg).mono ?_; rintro e w' ⟨rfl, rfl⟩))
      go_ret2
      exact ⟨x, hx, rfl, HB.out⟩

end Go.Proofs.YtihndbkaoejnnaaGreatDoor

namespace Go.Proofs.YtihndbkaoejnnaaGreatDoor
open Go Go.RowKit Go.Proofs.YtihndbkaoejnnaaGreatDoor.P

/-- A node of a tree. -/
structure Nd where
  op : Int
  aop : Int
  af : Int
  ag : Int
  n : Int
  nums : List Int
  text : ByteArray

theorem rowed_node : Rowed 65 101 7 80 := ⟨Tryz.underlying65, ⟨.agg #[.int .i64 0, .int .i64 0, .int .i64 0, .int .i64 0, .int .i64 0, .slice none 0 0, .string ⟨#[]⟩], by kernel_rfl, by kernel_rfl⟩, by decide, by decide⟩
theorem rowed_expr : Rowed 156 93 1 16 := ⟨Tryz.underlying156, ⟨.nilIface, by kernel_rfl, by kernel_rfl⟩, by decide, by decide⟩

/-- The seven cells of a node. -/
def NdCells (w : World) (B : Nat) (us : List Value) (x : Nd) : Prop :=
  ∃ v, us = [.int .i64 x.op, .int .i64 x.aop, .int .i64 x.af, .int .i64 x.ag, .int .i64 x.n, v, .string x.text] ∧ Owns w B v x.nums.length x.nums
/-- The cells of a list of nodes. -/
inductive NdsCells (w : World) (B : Nat) : List Value → List Nd → Prop
  | nil : NdsCells w B [] []
  | snoc (us vs : List Value) (ms : List Nd) (x : Nd) : NdsCells w B us ms → NdCells w B vs x → NdsCells w B (us ++ vs) (ms ++ [x])

theorem ownsR_types {w : World} {B B' m m' n n' : Nat} {t t' : TypeId} {v v' : Value} {us us' : List Value} (h : w.ownsRow B t m v n us) (h' : w.ownsRow B' t' m' v' n' us') (ht : t ≠ t') : v.ownBlock = none ∨ v.ownBlock ≠ v'.ownBlock := by
  rcases h.2 with ⟨rfl, _⟩ | ⟨g, cap, cur, rfl, _, hg, _⟩
  · exact .inl rfl
  · rcases h'.2 with ⟨rfl, _⟩ | ⟨g', cap', cur', rfl, _, hg', _⟩
    · exact .inr (by simp [Value.ownBlock])
    · refine .inr fun e => ?_
      have : g = g' := by simpa [Value.ownBlock] using e
      subst this
      rw [hg] at hg'
      injection hg' with hg'
      injection hg' with _ hg' _
      exact ht hg'

theorem NdCells.kept {w w' : World} {us : List Value} {x : Nd} {B' B n : Nat} {tv : Value} {cs : List Value} (h : NdCells w B' us x) (ho : w.ownsRow B 101 7 tv n cs) (hg : w.grownBy w' tv.ownBlock) : NdCells w' B' us x := by
  obtain ⟨v, e, hv⟩ := h
  exact ⟨v, e, hv.kept hg (ownsR_types hv.1 ho (by decide))⟩
theorem NdsCells.kept {w w' : World} {us : List Value} {ms : List Nd} {B' B n : Nat} {tv : Value} {cs : List Value} (h : NdsCells w B' us ms) (ho : w.ownsRow B 101 7 tv n cs) (hg : w.grownBy w' tv.ownBlock) : NdsCells w' B' us ms := by
  induction h with
  | nil => exact .nil
  | snoc us vs ms x _ h2 ih => exact .snoc us vs ms x ih (h2.kept ho hg)
theorem NdCells.later {w w' : World} {B : Nat} {us : List Value} {x : Nd} (h : NdCells w B us x) (hb : Below w.heap.size w w') : NdCells w' B us x := by
  obtain ⟨v, e, hv⟩ := h
  exact ⟨v, e, hv.below hb⟩
theorem NdsCells.later {w w' : World} {B : Nat} {us : List Value} {ms : List Nd} (h : NdsCells w B us ms) (hb : Below w.heap.size w w') : NdsCells w' B us ms := by
  induction h with
  | nil => exact .nil
  | snoc us vs ms x _ h2 ih => exact .snoc us vs ms x ih (h2.later hb)
theorem NdCells.one {w : World} {B : Nat} {us : List Value} {x : Nd} (h : NdCells w B us x) : ∀ u ∈ us, u.oneCell' = true := by
  obtain ⟨v, rfl, hv⟩ := h
  obtain ⟨A, c, rfl, -⟩ := hv.form
  intro u hu
  simp only [List.mem_cons, List.not_mem_nil, or_false] at hu
  rcases hu with rfl | rfl | rfl | rfl | rfl | rfl | rfl <;> rfl
theorem NdCells.seven {w : World} {B : Nat} {us : List Value} {x : Nd} (h : NdCells w B us x) : us.length = 1 * 7 := by
  obtain ⟨v, rfl, hv⟩ := h
  rfl

/-- A list of nodes that the flattening made itself, in a block from B on. -/
def ToList (w : World) (B : Nat) (tv : Value) (ms : List Nd) : Prop := ∃ us, w.ownsRow B 101 7 tv ms.length us ∧ NdsCells w B us ms
theorem ToList.nil (w : World) (B : Nat) : ToList w B (.slice none 0 0) [] := ⟨[], World.ownsRow_nil _ _ _ _, .nil⟩
theorem ToList.below {w w' : World} {B : Nat} {tv : Value} {ms : List Nd} (h : ToList w B tv ms) (hb : Below w.heap.size w w') : ToList w' B tv ms := by
  obtain ⟨us, h1, h2⟩ := h
  exact ⟨us, ownsR_below h1 hb, h2.later hb⟩
/-- One node more. -/
theorem ToList.snoc {w w' : World} {B : Nat} {tv tv' : Value} {ms : List Nd} {us vs : List Value} {x : Nd} (h1 : w.ownsRow B 101 7 tv ms.length us) (h2 : NdsCells w B us ms) (hx : NdCells w B vs x) (hg : w.grownBy w' tv.ownBlock) (ho : w'.ownsRow B 101 7 tv' (ms.length + 1) (us ++ vs)) : ToList w' B tv' (ms ++ [x]) :=
  ⟨us ++ vs, by simpa using ho, .snoc us vs ms x (h2.kept h1 hg) (hx.kept h1 hg)⟩

/-- A store into a block below the list's leaves it. -/
theorem NdsCells.away {w : World} {B : Nat} {us : List Value} {ms : List Nd} (h : NdsCells w B us ms) {p : Addr} (hp : p.block < B) (u : Value) : NdsCells (w.setCell p u) B us ms := by
  induction h with
  | nil => exact .nil
  | snoc us vs ms x _ h2 ih =>
    obtain ⟨v, e, hv⟩ := h2
    exact .snoc us vs ms x ih ⟨v, e, hv.setCell (hv.ne_low hp) _⟩
theorem ToList.away {w : World} {B : Nat} {tv : Value} {ms : List Nd} (h : ToList w B tv ms) {p : Addr} (hp : p.block < B) (u : Value) : ToList (w.setCell p u) B tv ms := by
  obtain ⟨us, h1, h2⟩ := h
  exact ⟨us, ownsR_away h1 (ownsR_low h1 hp) _, h2.away hp _⟩
theorem NdsCells.base {w : World} {B B' : Nat} {us : List Value} {ms : List Nd} (h : NdsCells w B us ms) (hB : B' ≤ B) : NdsCells w B' us ms := by
  induction h with
  | nil => exact .nil
  | snoc us vs ms x _ h2 ih =>
    obtain ⟨v, e, hv⟩ := h2
    exact .snoc us vs ms x ih ⟨v, e, hv.base hB⟩
theorem ToList.base {w : World} {B B' : Nat} {tv : Value} {ms : List Nd} (h : ToList w B tv ms) (hB : B' ≤ B) : ToList w B' tv ms := by
  obtain ⟨us, h1, h2⟩ := h
  exact ⟨us, ownsR_base h1 hB, h2.base hB⟩

/-- What a flat does: it appends these nodes. -/
def Flats (ns ms : List Nd) (B : Nat) (tv : Value) (w : World) (e : Ending) (w' : World) : Prop :=
  ∃ tv', e = .returned tv' ∧ ToList w' B tv' (ms ++ ns) ∧ w.grownBy w' tv.ownBlock ∧ (tv'.ownBlock = tv.ownBlock ∨ ∀ k, tv'.ownBlock = some k → w.heap.size ≤ k)

/-- What lies above block P stays. -/
structure ExKept (P : Nat) (w w' : World) : Prop where
  size : w.heap.size ≤ w'.heap.size
  block : ∀ k, P < k → k < w.heap.size → w'.heap[k]? = w.heap[k]?
theorem ExKept.refl (P : Nat) (w : World) : ExKept P w w := ⟨Nat.le_refl _, fun _ _ _ => rfl⟩
theorem ExKept.trans {P : Nat} {a b c : World} (h : ExKept P a b) (k : ExKept P b c) : ExKept P a c :=
  ⟨Nat.le_trans h.size k.size, fun j hP hj => (k.block j hP (Nat.lt_of_lt_of_le hj h.size)).trans (h.block j hP hj)⟩
theorem ExKept.of_grown {P P' : Nat} {w w' : World} (h : w.grownBy w' (some P')) (hP' : P' ≤ P) : ExKept P w w' :=
  ⟨h.size, fun k hP hk => h.block k hk (fun e => by injection e; omega)⟩
theorem ExKept.of_below {P : Nat} {w w' : World} (h : Below w.heap.size w w') : ExKept P w w' := ⟨h.size, fun k _ hk => h.block k hk⟩
theorem ExKept.row {P : Nat} {w w1 w2 : World} {row : Option Nat} (h : ExKept P w w1) (hg : w1.grownBy w2 row) (hr : ∀ k, row = some k → w.heap.size ≤ k) : ExKept P w w2 :=
  ⟨Nat.le_trans h.size hg.size, fun k hP hk => (hg.block k (Nat.lt_of_lt_of_le hk h.size) (fun e => by have := hr k e.symm; omega)).trans (h.block k hP hk)⟩
theorem CellsAt.exKept {w w' : World} {A : Option Addr} {us : List Value} {P : Nat} (h : CellsAt w A us) (hk : ExKept P w w') (hP : ∀ ad, A = some ad → P < ad.block) : CellsAt w' A us := by
  intro j u hj
  obtain ⟨ad, e, hl, hc⟩ := h j u hj
  exact ⟨ad, e, Nat.lt_of_lt_of_le hl hk.size, (World.cell?_of_block (a := ad.add j) (by rw [addr_block_add]; exact hk.block _ (hP ad e) hl)).trans hc⟩
theorem Owns.exInts {w w' : World} {B P n : Nat} {v : Value} {xs : List Int} (h : Owns w B v n xs) (hk : ExKept P w w') (hP : P < B) : IsInts w' v xs := by
  have hi := h.isInts
  obtain ⟨A0, c0, e0, -, -, -, hf⟩ := h.form
  obtain ⟨A, c, e, h1, h2, h3, h5, h4⟩ := hi
  refine ⟨A, c, e, h1, h2, h3, h5, fun k x hx => ?_⟩
  obtain ⟨ad, ha, hl, hc⟩ := h4 k x hx
  rw [e0] at e
  injection e with e1 e2 e3
  have hB := (hf ad (by rw [e1, ha])).2.2.1
  exact ⟨ad, ha, Nat.lt_of_lt_of_le hl hk.size, (World.cell?_of_block (a := ad.add k) (by rw [addr_block_add]; exact hk.block _ (by omega) hl)).trans hc⟩

/-- A value is an expression of these nodes, from this world on, whatever becomes of block P and of what lies below it. -/
def IsExpr (w : World) (P : Nat) (v : Value) (ns : List Nd) : Prop :=
  ∃ T u f, v = .iface T u ∧ (∀ W : World, (method 408 T u "ravelin/tree.flat").run Tryz.prog W = .ok (f, u) W) ∧ (∀ args W, (callFunc f args).run Tryz.prog W = .ok (.enter f args) W) ∧
    ∀ w' B tv ms, ExKept P w w' → w.heap.size ≤ B → B ≤ w'.heap.size → ToList w' B tv ms → ms.length + ns.length ≤ 800 → Calls Tryz.prog f #[u, tv] w' (Flats ns ms B tv w')
theorem IsExpr.kept {w w1 : World} {P : Nat} {v : Value} {ns : List Nd} (h : IsExpr w P v ns) (hg : ExKept P w w1) : IsExpr w1 P v ns := by
  obtain ⟨T, u, f, e, hm, hf, hc⟩ := h
  exact ⟨T, u, f, e, hm, hf, fun w' B tv ms h1 h2 => hc w' B tv ms (hg.trans h1) (Nat.le_trans hg.size h2)⟩
theorem IsExpr.low {w : World} {P P' : Nat} {v : Value} {ns : List Nd} (h : IsExpr w P v ns) (hP : P' ≤ P) : IsExpr w P' v ns := by
  obtain ⟨T, u, f, e, hm, hf, hc⟩ := h
  exact ⟨T, u, f, e, hm, hf, fun w' B tv ms h1 h2 => hc w' B tv ms ⟨h1.size, fun k hk => h1.block k (by omega)⟩ h2⟩
theorem IsExpr.grown {w w1 : World} {P P' : Nat} {v : Value} {ns : List Nd} (h : IsExpr w P v ns) (hg : w.grownBy w1 (some P')) (hP : P' ≤ P := by omega) : IsExpr w1 P v ns := h.kept (.of_grown hg hP)

/-- A value is a list of expressions. -/
def IsExprs (w : World) (P : Nat) (v : Value) (nss : List (List Nd)) : Prop :=
  ∃ A c vs, v = .slice A nss.length c ∧ nss.length ≤ c ∧ c ≤ 9223372036854775807 ∧ (A = none → c = 0) ∧ vs.length = nss.length ∧ nss.length ≤ 400 ∧ CellsAt w A vs ∧ (∀ ad, A = some ad → P < ad.block) ∧ ∀ (i : Nat) (x : Value) (ns : List Nd), vs[i]? = some x → nss[i]? = some ns → IsExpr w P x ns
theorem CellsAt.grown {w w' : World} {A : Option Addr} {us : List Value} {P : Nat} (h : CellsAt w A us) (hg : w.grownBy w' (some P)) (hP : ∀ ad, A = some ad → ad.block ≠ P) : CellsAt w' A us := by
  intro j u hj
  obtain ⟨ad, e, hl, hc⟩ := h j u hj
  have hs := hg.size
  exact ⟨ad, e, by omega, hg.cell hc (fun e2 => hP ad e (by rw [addr_block_add] at e2; injection e2))⟩
theorem IsExprs.kept {w w1 : World} {P : Nat} {v : Value} {nss : List (List Nd)} (h : IsExprs w P v nss) (hg : ExKept P w w1) : IsExprs w1 P v nss := by
  obtain ⟨A, c, vs, h1, h2, h3, h4, h5, h6, h7, h8, h9⟩ := h
  exact ⟨A, c, vs, h1, h2, h3, h4, h5, h6, h7.exKept hg h8, h8, fun i x ns hx hn => (h9 i x ns hx hn).kept hg⟩
theorem IsExprs.grown {w w1 : World} {P P' : Nat} {v : Value} {nss : List (List Nd)} (h : IsExprs w P v nss) (hg : w.grownBy w1 (some P')) (hP : P' ≤ P := by omega) : IsExprs w1 P v nss := h.kept (.of_grown hg hP)
theorem IsExprs.low {w : World} {P P' : Nat} {v : Value} {nss : List (List Nd)} (h : IsExprs w P v nss) (hP : P' ≤ P) : IsExprs w P' v nss := by
  obtain ⟨A, c, vs, h1, h2, h3, h4, h5, h6, h7, h8, h9⟩ := h
  exact ⟨A, c, vs, h1, h2, h3, h4, h5, h6, h7, fun ad e => Nat.lt_of_le_of_lt hP (h8 ad e), fun i x ns hx hn => (h9 i x ns hx hn).low hP⟩
theorem IsExprs.nil (w : World) (P : Nat) : IsExprs w P (.slice none 0 0) [] := ⟨none, 0, [], rfl, by simp, by omega, fun _ => rfl, rfl, by simp, (fun j u hj => by simp at hj), (fun ad e => by cases e), (fun i x ns hx => by simp at hx)⟩

end Go.Proofs.YtihndbkaoejnnaaGreatDoor

namespace Go.Proofs.YtihndbkaoejnnaaGreatDoor
open Go Go.RowKit Go.Proofs.YtihndbkaoejnnaaGreatDoor.P

theorem glyphB_any {f : Int} {w : World} (h1 : 1 ≤ f) (h2 : f ≤ 34) : Calls Tryz.prog 138 #[.int .i64 f] w fun e w' => e = .returned (.bool true) ∧ w = w' := by
  go_enter Tryz.func138, Tryz.ntmps138
  go_wp2_with fail
  go_ret
  exact ⟨rfl, rfl⟩

/-- An act that may be. -/
def ActOk (aop af ag : Int) : Prop := ((aop = 0 ∨ aop = 1 ∨ aop = 2) ∧ 1 ≤ af ∧ af ≤ 34 ∧ ag = 0) ∨ (aop = 4 ∧ 1 ≤ af ∧ af ≤ 34 ∧ 1 ≤ ag ∧ ag ≤ 34) ∨ ((aop = 6 ∨ aop = 7) ∧ af = 0 ∧ ag = 0)
set_option maxRecDepth 100000 in
set_option maxHeartbeats 2000000 in
theorem rightAct_any {aop af ag : Int} {w : World} (h : ActOk aop af ag) : Calls Tryz.prog 118 #[.agg #[.int .i64 aop, .int .i64 af, .int .i64 ag]] w fun e w' => e = .returned (.bool true) ∧ Below w.heap.size w w' := by
  rcases h with ⟨rfl | rfl | rfl, h1, h2, rfl⟩ | ⟨rfl, h1, h2, h3, h4⟩ | ⟨rfl | rfl, rfl, rfl⟩
  all_goals
    go_enter Tryz.func118, Tryz.ntmps118
    go_wp2_with (first | (go_at_call 138; refine (glyphB_any (by assumption) (by assumption)).mono ?_; rintro e w' ⟨rfl, rfl⟩))
    go_ret
    exact ⟨rfl, below_one w _⟩


set_option maxRecDepth 100000 in
set_option maxHeartbeats 2000000 in
theorem right_nums {A : Option Addr} {n c : Nat} {w : World} (hn : 0 < n) : Calls Tryz.prog 96 #[.agg #[.int .i64 1, .int .i64 0, .int .i64 0, .int .i64 0, .int .i64 0, .slice A n c, .string ⟨#[]⟩]] w fun e w' => e = .returned (.bool true) ∧ Below w.heap.size w w' := by
  have hn2 : (0 : Int) < (n : Int) := by omega
  go_enter Tryz.func96, Tryz.ntmps96
  go_wp2_with fail
  go_ret
  exact ⟨rfl, below_one w _⟩


set_option maxRecDepth 100000 in
set_option maxHeartbeats 2000000 in
theorem right_arg {A : Option Addr} {c : Nat} {w : World}  : Calls Tryz.prog 96 #[.agg #[.int .i64 5, .int .i64 0, .int .i64 0, .int .i64 0, .int .i64 0, .slice A 0 c, .string ⟨#[]⟩]] w fun e w' => e = .returned (.bool true) ∧ Below w.heap.size w w' := by
  go_enter Tryz.func96, Tryz.ntmps96
  go_wp2_with fail
  go_ret
  exact ⟨rfl, below_one w _⟩


set_option maxRecDepth 100000 in
set_option maxHeartbeats 2000000 in
theorem right_var {s : ByteArray} {A : Option Addr} {c : Nat} {w : World} (hst : Std w) (hs : NameOk s) : Calls Tryz.prog 96 #[.agg #[.int .i64 3, .int .i64 0, .int .i64 0, .int .i64 0, .int .i64 0, .slice A 0 c, .string s]] w fun e w' => e = .returned (.bool true) ∧ Below w.heap.size w w' := by
  have HST := Lib.hid hst
  have HS := Lib.hid hs
  have hb1 := below_one w (.cells #[.int .i64 3, .int .i64 0, .int .i64 0, .int .i64 0, .int .i64 0, .slice A 0 c, .string s] 101)
  have hx := Box.new w 101 #[.int .i64 3, .int .i64 0, .int .i64 0, .int .i64 0, .int .i64 0, .slice A 0 c, .string s]
  have htk := cellsAt_new (w.alloc (.cells #[.int .i64 3, .int .i64 0, .int .i64 0, .int .i64 0, .int .i64 0, .slice A 0 c, .string s] 101)) 113 (Tok.cells ⟨3, 0, 0, s, 0⟩)
  rw [World.size_alloc] at htk
  have HTK := Lib.hid htk
  clear hst hs htk
  go_enter Tryz.func96, Tryz.ntmps96
  go_wp2_with fail
  have hb2 : Below w.heap.size w ((w.alloc (.cells #[.int .i64 3, .int .i64 0, .int .i64 0, .int .i64 0, .int .i64 0, .slice A 0 c, .string s] 101)).alloc (.cells (Tok.cells ⟨3, 0, 0, s, 0⟩).toArray 113)) := below_two w _ _
  have hta : TokAt ((w.alloc (.cells #[.int .i64 3, .int .i64 0, .int .i64 0, .int .i64 0, .int .i64 0, .slice A 0 c, .string s] 101)).alloc (.cells (Tok.cells ⟨3, 0, 0, s, 0⟩).toArray 113)) (w.heap.size + 1) 0 ⟨3, 0, 0, s, 0⟩ := by
    have hb := Box.new (w.alloc (.cells #[.int .i64 3, .int .i64 0, .int .i64 0, .int .i64 0, .int .i64 0, .slice A 0 c, .string s] 101)) 113 (Tok.cells ⟨3, 0, 0, s, 0⟩).toArray
    rw [World.size_alloc] at hb
    exact ⟨hb.cell 0, hb.cell 1, hb.cell 2, hb.cell 3, hb.cell 4⟩
  refine (spell_one (HST.out.below hb2) hta (Nat.le_refl _) (tokOk_name HS.out)).mono ?_
  rintro e w2 ⟨x, hxs, rfl, hb3⟩
  have hx2 := (hx.alloc (.cells (Tok.cells ⟨3, 0, 0, s, 0⟩).toArray 113)).below hb3
  have q0 := hx2.cell 0
  have q1 := hx2.cell 1
  have q2 := hx2.cell 2
  have q3 := hx2.cell 3
  have q4 := hx2.cell 4
  have q5 := hx2.cell 5
  have q6 := hx2.cell 6
  have hbw := Lib.hid (hb2.trans (hb3.mono hb2.size))
  clear hx hx2 hb1 hb2 hb3 hta
  go_wp2_with fail
  go_ret
  exact ⟨rfl, hbw.out⟩


set_option maxRecDepth 100000 in
set_option maxHeartbeats 2000000 in
theorem right_act {op aop af ag n : Int} {A : Option Addr} {c : Nat} {w : World} (hop : op = 6 ∨ op = 7) (ha : ActOk aop af ag) (hn : 0 ≤ n) (hn2 : n = 0 ∨ aop = 6) : Calls Tryz.prog 96 #[.agg #[.int .i64 op, .int .i64 aop, .int .i64 af, .int .i64 ag, .int .i64 n, .slice A 0 c, .string ⟨#[]⟩]] w fun e w' => e = .returned (.bool true) ∧ Below w.heap.size w w' := by
  have HA := Lib.hid ha
  have hx0 := Box.new w 101 #[.int .i64 op, .int .i64 aop, .int .i64 af, .int .i64 ag, .int .i64 n, .slice A 0 c, .string ⟨#[]⟩]
  clear ha
  rcases hop with rfl | rfl <;> rcases hn2 with rfl | rfl
  all_goals
   go_enter Tryz.func96, Tryz.ntmps96
   go_wp2_with fail
   refine (rightAct_any HA.out).mono ?_
   rintro e w2 ⟨rfl, hb2⟩
   have hx2 := hx0.below hb2
   have q0 := hx2.cell 0
   have q1 := hx2.cell 1
   have q4 := hx2.cell 4
   have hbw := Lib.hid ((below_one w _).trans (hb2.mono (below_one w _).size))
   clear hx0 hx2 hb2
   go_wp2_with fail
   all_goals go_ret
   all_goals exact ⟨rfl, hbw.out⟩


end Go.Proofs.YtihndbkaoejnnaaGreatDoor

namespace Go.Proofs.YtihndbkaoejnnaaGreatDoor
open Go Go.RowKit Go.Proofs.YtihndbkaoejnnaaGreatDoor.P

theorem ToList.form {w : World} {B : Nat} {tv : Value} {ms : List Nd} (h : ToList w B tv ms) : ∃ A c us, tv = .slice A ms.length c ∧ w.ownsRow B 101 7 (.slice A ms.length c) ms.length us ∧ NdsCells w B us ms := by
  obtain ⟨us, h1, h2⟩ := h
  obtain ⟨A, c, e, -⟩ := ownsR_form h1
  subst e
  exact ⟨A, c, us, rfl, h1, h2⟩
theorem noNums (w : World) (B : Nat) : Owns w B (.slice none 0 0) ([] : List Int).length [] := Owns.nil w B

theorem flats_one {w w2 w5 : World} {B : Nat} {tv tv' : Value} {ms : List Nd} {us vs : List Value} {x : Nd} (hb : Below w.heap.size w w2) (ho : w2.ownsRow B 101 7 tv ms.length us) (hc : NdsCells w2 B us ms) (hx : NdCells w2 B vs x) (hg : w2.grownBy w5 tv.ownBlock)
    (h5 : w5.ownsRow B 101 7 tv' (ms.length + 1) (us ++ vs)) (hat : tv'.ownBlock = tv.ownBlock ∨ tv'.ownBlock = some w2.heap.size) : Flats [x] ms B tv w (.returned tv') w5 := by
  refine ⟨_, rfl, ToList.snoc ho hc hx hg h5, grownBy_trans (grownBy_of_below hb (Nat.le_refl _)) hg, ?_⟩
  rcases hat with h1 | h1
  · exact .inl h1
  · exact .inr fun k hk => by rw [h1] at hk; injection hk with hk; subst hk; exact hb.size

set_option maxHeartbeats 4000000 in
theorem flat_name {s : ByteArray} {w : World} {B : Nat} {tv : Value} {ms : List Nd} (h : ToList w B tv ms) (hB : B ≤ w.heap.size) (hn : ms.length ≤ 900) :
    Calls Tryz.prog 262 #[.agg #[.string s], tv] w (Flats [⟨3, 0, 0, 0, 0, [], s⟩] ms B tv w) := by
  obtain ⟨A, c, us, rfl, hown, hcs⟩ := h.form
  obtain ⟨n, hn'⟩ : ∃ n, n = ms.length := ⟨_, rfl⟩
  have HO := Lib.hid hown
  have HC := Lib.hid hcs
  have HL := Lib.hid hn'
  rw [← hn'] at HO hn ⊢
  clear h hown hcs hn'
  go_enter Tryz.func262, Tryz.ntmps262
  go_wp2_with (at_builtin; refine wpList_append_rows _ rfl 65 101 7 80 rowed_node rfl _ _ (by rfl) B n _ us (by rfl) ((HO.out.alloc _).alloc _) (some ⟨w.heap.size + 1, 0, none⟩) 1 1 [.int .i64 3, .int .i64 0, .int .i64 0, .int .i64 0, .int .i64 0, .slice none 0 0, .string s] (by rfl) (by simp) (by omega) (by have := cellsAt_new (w.alloc (.cells #[.string s] 119)) 101 [.int .i64 3, .int .i64 0, .int .i64 0, .int .i64 0, .int .i64 0, .slice none 0 0, .string s]; rw [World.size_alloc] at this; exact this) (by simp [Value.oneCell']) rfl (by omega) (by simp; omega) ?_; intro A2 c2 w5 hown5 hgrow hat)
  go_ret
  have e := HL.out
  subst e
  exact flats_one (w2 := (w.alloc (.cells #[.string s] 119)).alloc (.cells #[.int .i64 3, .int .i64 0, .int .i64 0, .int .i64 0, .int .i64 0, .slice none 0 0, .string s] 101)) (below_two w _ _) ((HO.out.alloc _).alloc _) (HC.out.later (below_two w _ _)) ⟨.slice none 0 0, rfl, noNums _ _⟩ hgrow hown5 hat

set_option maxHeartbeats 4000000 in
theorem flat_arg {op : Int} {w : World} {B : Nat} {tv : Value} {ms : List Nd} (h : ToList w B tv ms) (hB : B ≤ w.heap.size) (hn : ms.length ≤ 900) :
    Calls Tryz.prog 273 #[.agg #[.int .i64 op], tv] w (Flats [⟨op, 0, 0, 0, 0, [], ⟨#[]⟩⟩] ms B tv w) := by
  obtain ⟨A, c, us, rfl, hown, hcs⟩ := h.form
  obtain ⟨n, hn'⟩ : ∃ n, n = ms.length := ⟨_, rfl⟩
  have HO := Lib.hid hown
  have HC := Lib.hid hcs
  have HL := Lib.hid hn'
  rw [← hn'] at HO hn ⊢
  clear h hown hcs hn'
  go_enter Tryz.func273, Tryz.ntmps273
  go_wp2_with (at_builtin; refine wpList_append_rows _ rfl 65 101 7 80 rowed_node rfl _ _ (by rfl) B n _ us (by rfl) ((HO.out.alloc _).alloc _) (some ⟨w.heap.size + 1, 0, none⟩) 1 1 [.int .i64 op, .int .i64 0, .int .i64 0, .int .i64 0, .int .i64 0, .slice none 0 0, .string ⟨#[]⟩] (by rfl) (by simp) (by omega) (by have := cellsAt_new (w.alloc (.cells #[.int .i64 op] 187)) 101 [.int .i64 op, .int .i64 0, .int .i64 0, .int .i64 0, .int .i64 0, .slice none 0 0, .string ⟨#[]⟩]; rw [World.size_alloc] at this; exact this) (by simp [Value.oneCell']) rfl (by omega) (by simp; omega) ?_; intro A2 c2 w5 hown5 hgrow hat)
  go_ret
  have e := HL.out
  subst e
  exact flats_one (w2 := (w.alloc (.cells #[.int .i64 op] 187)).alloc (.cells #[.int .i64 op, .int .i64 0, .int .i64 0, .int .i64 0, .int .i64 0, .slice none 0 0, .string ⟨#[]⟩] 101)) (below_two w _ _) ((HO.out.alloc _).alloc _) (HC.out.later (below_two w _ _)) ⟨.slice none 0 0, rfl, noNums _ _⟩ hgrow hown5 hat

set_option maxHeartbeats 4000000 in
theorem flat_nums {nv : Value} {xs : List Int} {w : World} {B : Nat} {tv : Value} {ms : List Nd} (hx : IsInts w nv xs) (hxl : xs.length ≤ 200) (h : ToList w B tv ms) (hB : B ≤ w.heap.size) (hn : ms.length ≤ 900) :
    Calls Tryz.prog 271 #[.agg #[nv], tv] w (Flats [⟨1, 0, 0, 0, 0, xs, ⟨#[]⟩⟩] ms B tv w) := by
  obtain ⟨A, c, us, rfl, hown, hcs⟩ := h.form
  obtain ⟨X, cx, rfl, x1, x2, x3, x0, x4⟩ := hx
  obtain ⟨n, hn'⟩ : ∃ n, n = ms.length := ⟨_, rfl⟩
  have HO := Lib.hid hown
  have HC := Lib.hid hcs
  have HL := Lib.hid hn'
  have HX := Lib.hid (show Elems w X xs from x4)
  have HX0 := Lib.hid x0
  rw [← hn'] at HO hn ⊢
  clear h hown hcs hn' x4 x0
  have hb0 := below_one w (.cells #[.slice X xs.length cx] 184)
  go_enter Tryz.func271, Tryz.ntmps271
  go_wp2_with (at_builtin; first
    | (refine wpList_append_ints _ rfl rfl _ _ (by rfl) (w.heap.size + 1) 0 _ [] (by rfl) (Owns.nil _ _) X xs.length cx xs (by rfl) HX0.out (Elems.mono HX.out hb0) rfl (by omega) (by simp) ?_; intro A3 c3 w3 hown3 hgrow3 hat3; simp only [Nat.zero_add, List.nil_append] at hown3; have h3b : Below w.heap.size w w3 := hb0.grown hgrow3 hb0.size (fun k e => by cases e))
    | (refine wpList_append_rows _ rfl 65 101 7 80 rowed_node rfl _ _ (by rfl) B n _ us (by rfl) ((ownsR_below HO.out h3b).alloc _) (some ⟨w3.heap.size, 0, none⟩) 1 1 [.int .i64 1, .int .i64 0, .int .i64 0, .int .i64 0, .int .i64 0, .slice A3 xs.length c3, .string ⟨#[]⟩] (by rfl) (by simp) (by omega) (cellsAt_new w3 101 [.int .i64 1, .int .i64 0, .int .i64 0, .int .i64 0, .int .i64 0, .slice A3 xs.length c3, .string ⟨#[]⟩]) (by simp [Value.oneCell']) rfl (by omega) (by have := h3b.size; simp; omega) ?_; intro A2 c2 w5 hown5 hgrow hat))
  go_ret
  have e := HL.out
  subst e
  have h4b := h3b.alloc h3b.size (.cells #[.int .i64 1, .int .i64 0, .int .i64 0, .int .i64 0, .int .i64 0, .slice A3 xs.length c3, .string ⟨#[]⟩] 101)
  exact flats_one (w2 := w3.alloc (.cells #[.int .i64 1, .int .i64 0, .int .i64 0, .int .i64 0, .int .i64 0, .slice A3 xs.length c3, .string ⟨#[]⟩] 101)) h4b ((ownsR_below HO.out h3b).alloc _) (HC.out.later h4b) ⟨.slice A3 xs.length c3, rfl, (hown3.base (by omega)).alloc _⟩ hgrow hown5 hat

end Go.Proofs.YtihndbkaoejnnaaGreatDoor

namespace Go.Proofs.YtihndbkaoejnnaaGreatDoor
open Go Go.RowKit Go.Proofs.YtihndbkaoejnnaaGreatDoor.P

/-- The parser's block: the words, the place, how deep. -/
def PAt (w : World) (P g c : Nat) (toks : List Tok) (at_ wi : Nat) : Prop :=
  Box w P 91 #[.slice (some ⟨g, 0, none⟩) toks.length c, .int .i64 at_, .int .i64 wi] ∧ g < P ∧ toks.length ≤ c ∧ c ≤ 9223372036854775807 ∧ toks.length ≤ 199 ∧ at_ ≤ toks.length ∧ wi ≤ 100 ∧ ∀ (i : Nat) (t : Tok), toks[i]? = some t → TokAt w g (i * 5) t
theorem TokAt.grown {w w' : World} {b o P : Nat} {t : Tok} (h : TokAt w b o t) (hg : w.grownBy w' (some P)) (hne : b ≠ P) : TokAt w' b o t := by
  obtain ⟨h0, h1, h2, h3, h4⟩ := h
  have k : ∀ j v, w.cell? ⟨b, j, none⟩ = some v → w'.cell? ⟨b, j, none⟩ = some v := fun j v hc => hg.cell hc (fun e => hne (by injection e))
  exact ⟨k _ _ h0, k _ _ h1, k _ _ h2, k _ _ h3, k _ _ h4⟩
theorem PAt.move {w w' : World} {P g c : Nat} {toks : List Tok} {at_ wi at' wi' : Nat} (h : PAt w P g c toks at_ wi) (hg : w.grownBy w' (some P)) (hb : Box w' P 91 #[.slice (some ⟨g, 0, none⟩) toks.length c, .int .i64 at', .int .i64 wi']) (ha : at' ≤ toks.length) (hwi : wi' ≤ 100) : PAt w' P g c toks at' wi' := by
  obtain ⟨h0, h1, h2, h3, h4, h5, h6, h7⟩ := h
  exact ⟨hb, h1, h2, h3, h4, ha, hwi, fun i t ht => (h7 i t ht).grown hg (by omega)⟩
theorem PAt.below {w w' : World} {P g c : Nat} {toks : List Tok} {at_ wi : Nat} (h : PAt w P g c toks at_ wi) (hb : Below w.heap.size w w') : PAt w' P g c toks at_ wi :=
  h.move (grownBy_of_below hb (Nat.le_refl _)) (h.1.below hb) h.2.2.2.2.2.1 h.2.2.2.2.2.2.1
theorem PAt.drewN {w : World} {P g c : Nat} {toks : List Tok} {at_ wi : Nat} (h : PAt w P g c toks at_ wi) (n : Nat) : PAt (w.drewN n) P g c toks at_ wi := h.below (below_draws _ _ _)
theorem PAt.next {w : World} {P g c : Nat} {toks : List Tok} {at_ wi : Nat} (h : PAt w P g c toks at_ wi) (hl : at_ < toks.length) : PAt (w.setCell ⟨P, 1, none⟩ (.int .i64 (at_ + 1 : Nat))) P g c toks (at_ + 1) wi :=
  h.move (grownBy_setCell _ _ _ _) (by simpa using h.1.store 1 (.int .i64 (at_ + 1 : Nat))) (by omega) h.2.2.2.2.2.2.1

/-- The next word's kind. -/
def kindAt (toks : List Tok) (at_ : Nat) : Int := match toks[at_]? with | some t => t.k | none => 0
theorem kindAt_some {toks : List Tok} {at_ : Nat} {t : Tok} (h : toks[at_]? = some t) : kindAt toks at_ = t.k := by unfold kindAt; rw [h]

set_option maxHeartbeats 2000000 in
theorem kind_any {w : World} {P g c : Nat} {toks : List Tok} {at_ wi : Nat} (h : PAt w P g c toks at_ wi) :
    Calls Tryz.prog 114 #[.pointer (some ⟨P, 0, none⟩)] w fun e w' => e = .returned (.int .i64 (kindAt toks at_)) ∧ ∃ n, w' = w.drewN n := by
  obtain ⟨hb, hgP, hc1, hc2, hl, ha, hwi, ht⟩ := h
  obtain ⟨c0, c1, c2⟩ := Box.three hb
  obtain ⟨L, hL⟩ : ∃ L, L = toks.length := ⟨_, rfl⟩
  rw [← hL] at c0 hc1 hl ha
  have HL := Lib.hid hL
  have HT := Lib.hid ht
  clear hb ht hL
  rcases Nat.lt_or_ge at_ L with hlt | hge
  · obtain ⟨t, ht⟩ : ∃ t, toks[at_]? = some t := ⟨toks[at_]'(by rw [← HL.out]; exact hlt), List.getElem?_eq_getElem _⟩
    have HK := Lib.hid (kindAt_some ht)
    obtain ⟨k0, -, -, -, -⟩ := HT.out at_ t ht
    rw [HK.out]
    clear ht
    go_enter Tryz.func114, Tryz.ntmps114
    go_wp2_with fail
    go_quiet (fail)
    all_goals go_wp2_with fail
    go_quiet (fail)
    all_goals go_wp2_with fail
    go_ret
    exact ⟨rfl, _, by rw [World.drewN_drewN]⟩
  · have HK := Lib.hid (show kindAt toks at_ = 0 by unfold kindAt; rw [List.getElem?_eq_none (by rw [← HL.out]; exact hge)])
    rw [HK.out]
    go_enter Tryz.func114, Tryz.ntmps114
    go_wp2_with fail
    go_quiet (fail)
    all_goals go_wp2_with fail
    go_ret
    exact ⟨rfl, _, rfl⟩

/-- Does a function stand here? -/
def startsB (toks : List Tok) (at_ wi : Nat) : Bool := decide (kindAt toks at_ = 4) || decide (kindAt toks at_ = 11) || decide (kindAt toks at_ = 14) || (decide (kindAt toks at_ = 20) && decide (0 < wi))

set_option maxHeartbeats 2000000 in
theorem starts_any {w : World} {P g c : Nat} {toks : List Tok} {at_ wi : Nat} (h : PAt w P g c toks at_ wi) :
    Calls Tryz.prog 92 #[.pointer (some ⟨P, 0, none⟩)] w fun e w' => e = .returned (.bool (startsB toks at_ wi)) ∧ ∃ n, w' = w.drewN n := by
  have HK := Lib.hid (kind_any h)
  have h3 := Box.three h.1
  obtain ⟨c0, c1, c2⟩ := h3
  obtain ⟨b, hb⟩ : ∃ b, b = startsB toks at_ wi := ⟨_, rfl⟩
  rw [← hb]
  obtain ⟨K, hK⟩ : ∃ K, K = kindAt toks at_ := ⟨_, rfl⟩
  rw [← hK] at HK
  have HB := Lib.hid (show b = (decide (K = 4) || decide (K = 11) || decide (K = 14) || (decide (K = 20) && decide (0 < wi))) by rw [hb, hK]; rfl)
  clear h hb hK
  by_cases h4 : K = 4
  · have hb : b = true := by rw [HB.out, h4]; rfl
    subst h4 hb
    go_enter Tryz.func92, Tryz.ntmps92
    go_wp2_with (first | (go_at_call 114; refine (HK.out).mono ?_; rintro e w' ⟨rfl, n, rfl⟩))
    go_ret
    exact ⟨rfl, _, rfl⟩
  by_cases h11 : K = 11
  · have hb : b = true := by rw [HB.out, h11]; rfl
    subst h11 hb
    go_enter Tryz.func92, Tryz.ntmps92
    go_wp2_with (first | (go_at_call 114; refine (HK.out).mono ?_; rintro e w' ⟨rfl, n, rfl⟩))
    go_ret
    exact ⟨rfl, _, rfl⟩
  by_cases h14 : K = 14
  · have hb : b = true := by rw [HB.out, h14]; rfl
    subst h14 hb
    go_enter Tryz.func92, Tryz.ntmps92
    go_wp2_with (first | (go_at_call 114; refine (HK.out).mono ?_; rintro e w' ⟨rfl, n, rfl⟩))
    go_ret
    exact ⟨rfl, _, rfl⟩
  have e4 : (K == 4) = false := by simp [h4]
  have e11 : (K == 11) = false := by simp [h11]
  have e14 : (K == 14) = false := by simp [h14]
  have HN := Lib.hid (And.intro h4 (And.intro h11 h14))
  clear h4 h11 h14
  by_cases h20 : K = 20
  · have HB2 := Lib.hid (show b = decide (0 < wi) by rw [HB.out]; simp [HN.out.1, HN.out.2.1, HN.out.2.2, h20])
    subst h20
    go_enter Tryz.func92, Tryz.ntmps92
    go_wp2_with (first | (go_at_call 114; refine (HK.out).mono ?_; rintro e w' ⟨rfl, n, rfl⟩))
    go_ret
    exact ⟨ret_bool (by rw [HB2.out]), _, rfl⟩
  · have hb : b = false := by rw [HB.out]; simp [HN.out.1, HN.out.2.1, HN.out.2.2, h20]
    have e20 : (K == 20) = false := by simp [h20]
    subst hb
    clear h20
    go_enter Tryz.func92, Tryz.ntmps92
    go_wp2_with (first | (go_at_call 114; refine (HK.out).mono ?_; rintro e w' ⟨rfl, n, rfl⟩))
    go_ret
    exact ⟨rfl, _, rfl⟩

end Go.Proofs.YtihndbkaoejnnaaGreatDoor

namespace Go.Proofs.YtihndbkaoejnnaaGreatDoor
open Go Go.RowKit Go.Proofs.YtihndbkaoejnnaaGreatDoor.P

theorem tok_fn (k f n a : Int) (t : ByteArray) (w : World) : (Instr.field 113 (.agg #[.int .i64 k, .int .i64 f, .int .i64 n, .string t, .int .i64 a]) 1).run Tryz.prog w = .ok (.int .i64 f) w := by kernel_rfl
theorem tok_num (k f n a : Int) (t : ByteArray) (w : World) : (Instr.field 113 (.agg #[.int .i64 k, .int .i64 f, .int .i64 n, .string t, .int .i64 a]) 2).run Tryz.prog w = .ok (.int .i64 n) w := by kernel_rfl
theorem tok_text (k f n a : Int) (t : ByteArray) (w : World) : (Instr.field 113 (.agg #[.int .i64 k, .int .i64 f, .int .i64 n, .string t, .int .i64 a]) 3).run Tryz.prog w = .ok (.string t) w := by kernel_rfl

set_option maxHeartbeats 4000000 in
theorem need_ok {w : World} {P g c : Nat} {toks : List Tok} {at_ wi : Nat} {t : Tok} {K : Int} (h : PAt w P g c toks at_ wi) (ht : toks[at_]? = some t) (hk : t.k = K) :
    Calls Tryz.prog 115 #[.pointer (some ⟨P, 0, none⟩), .int .i64 K] w fun e w' => e = .returned t.v ∧ PAt w' P g c toks (at_ + 1) wi ∧ w.grownBy w' (some P) := by
  have hlt : at_ < toks.length := (List.getElem?_eq_some_iff.1 ht).1
  have H0 := Lib.hid h
  have hbl := below_one w (.cells zeroTok 113)
  have h1 := h.below hbl
  have HK := Lib.hid (kind_any h1)
  have HKE := Lib.hid ((kindAt_some ht).trans hk)
  rw [HKE.out] at HK
  have hPl := h.1.lt
  obtain ⟨hb, hgP, hc1, hc2, hl, ha, hwi, htk⟩ := h
  obtain ⟨c0, c1, c2⟩ := Box.three hb
  have fz := Box.frozen hb 1
  obtain ⟨L, hL⟩ : ∃ L, L = toks.length := ⟨_, rfl⟩
  rw [← hL] at c0 hc1 hl ha hlt
  have HL := Lib.hid hL
  have ht1 := htk at_ t ht
  obtain ⟨k0, k1, k2, k3, k4⟩ := ht1
  have hlg : g < w.heap.size := by omega
  clear hb htk hL h1 ht hk
  go_enter Tryz.func115, Tryz.ntmps115
  go_wp2_with fail
  refine HK.out.mono ?_
  rintro e w1 ⟨rfl, n, rfl⟩
  go_wp2_with fail
  go_region
  all_goals go_wp2_with fail
  have hxm : Box (((w.alloc (.cells zeroTok 113)).drewN (n + 1)).setCell ⟨P, 1, none⟩ (.int .i64 (at_ + 1 : Nat))) w.heap.size 113 zeroTok := Box.far ((Box.new w 113 zeroTok).drewN (n + 1)) (p := ⟨P, 1, none⟩) (by simp; omega) _
  have hPn := PAt.next ((H0.out.below hbl).drewN (n + 1)) (by rw [← HL.out]; exact hlt)
  have hgn : w.grownBy (((w.alloc (.cells zeroTok 113)).drewN (n + 1)).setCell ⟨P, 1, none⟩ (.int .i64 (at_ + 1 : Nat))) (some P) := grownBy_trans (grownBy_trans (grownBy_of_below hbl (Nat.le_refl _)) (grownBy_draws _ _ _)) (grownBy_setCell _ _ _ _)
  obtain ⟨W2, hW2⟩ : ∃ W2, W2 = ((w.alloc (.cells zeroTok 113)).drewN (n + 1)).setCell ⟨P, 1, none⟩ (.int .i64 (at_ + 1 : Nat)) := ⟨_, rfl⟩
  rw [← hW2] at hxm hPn hgn
  have hg5 := grownBy_five W2 w.heap.size (.int .i64 t.k) (.int .i64 t.f) (.int .i64 t.n) (.string t.t) (.int .i64 t.at_)
  have hx5 := ((((hxm.store 0 (.int .i64 t.k)).store 1 (.int .i64 t.f)).store 2 (.int .i64 t.n)).store 3 (.string t.t)).store 4 (.int .i64 t.at_)
  obtain ⟨q0, q1, q2, q3, q4⟩ := Box.five (hx5.alloc (.cells #[.int .i64 t.k, .int .i64 t.f, .int .i64 t.n, .string t.t, .int .i64 t.at_] 113))
  have hfin : PAt ((((((W2.setCell ⟨w.heap.size, 0, none⟩ (.int .i64 t.k)).setCell ⟨w.heap.size, 1, none⟩ (.int .i64 t.f)).setCell ⟨w.heap.size, 2, none⟩ (.int .i64 t.n)).setCell ⟨w.heap.size, 3, none⟩ (.string t.t)).setCell ⟨w.heap.size, 4, none⟩ (.int .i64 t.at_)).alloc (.cells #[.int .i64 t.k, .int .i64 t.f, .int .i64 t.n, .string t.t, .int .i64 t.at_] 113)) P g c toks (at_ + 1) wi := by
    refine PAt.below ?_ (below_one _ _)
    exact ⟨hPn.1.grown hg5 (by simp; omega), hPn.2.1, hPn.2.2.1, hPn.2.2.2.1, hPn.2.2.2.2.1, hPn.2.2.2.2.2.1, hPn.2.2.2.2.2.2.1, fun i t' ht' => (hPn.2.2.2.2.2.2.2 i t' ht').grown hg5 (by omega)⟩
  have hgf := grownBy_then (grownBy_after hgn hg5 (Nat.le_refl _)) (below_one _ (.cells #[.int .i64 t.k, .int .i64 t.f, .int .i64 t.n, .string t.t, .int .i64 t.at_] 113))
  rw [hW2] at q0 q1 q2 q3 q4 hfin hgf
  refine bodyPost_ret (v := t.v) (by simp [Tok.v, tokV, results, Tryz.results115, go_sem]) rfl ?_
  exact ⟨rfl, hfin, hgf⟩

end Go.Proofs.YtihndbkaoejnnaaGreatDoor

namespace Go.Proofs.YtihndbkaoejnnaaGreatDoor
open Go Go.RowKit Go.Proofs.YtihndbkaoejnnaaGreatDoor.P

/-- Here stands this function, which ends there. -/
def FnPost (aop af ag n : Int) (nss : List (List Nd)) (P g c : Nat) (toks : List Tok) (at' wi : Nat) (w : World) (e : Ending) (w' : World) : Prop :=
  ∃ A k cc, e = .returned (.agg #[.int .i64 aop, .int .i64 af, .int .i64 ag, .int .i64 n, .slice A k cc]) ∧ IsExprs w' (w.heap.size - 1) (.slice A k cc) nss ∧ PAt w' P g c toks at' wi ∧ w.grownBy w' (some P)
def FnAt (toks : List Tok) (at_ wi at' : Nat) (aop af ag n : Int) (nss : List (List Nd)) : Prop :=
  ∀ (w : World) (P g c : Nat), PAt w P g c toks at_ wi → Calls Tryz.prog 93 #[.pointer (some ⟨P, 0, none⟩)] w (FnPost aop af ag n nss P g c toks at' wi w)

abbrev zeroFn : Array Value := #[.int .i64 0, .int .i64 0, .int .i64 0, .int .i64 0, .slice none 0 0]
theorem PAt.far {w w' : World} {P g c : Nat} {toks : List Tok} {at_ wi b : Nat} (h : PAt w P g c toks at_ wi) (hg : w.grownBy w' (some b)) (hP : P < b) : PAt w' P g c toks at_ wi :=
  ⟨h.1.grown hg (by intro e; injection e; omega), h.2.1, h.2.2.1, h.2.2.2.1, h.2.2.2.2.1, h.2.2.2.2.2.1, h.2.2.2.2.2.2.1, fun i t ht => (h.2.2.2.2.2.2.2 i t ht).grown hg (by have := h.2.1; omega)⟩
/-- The end of a walk: five cells are stored into the result. -/
theorem fn_end {w w2 : World} {P g c b : Nat} {toks : List Tok} {at' wi : Nat} {aop af ag n : Int} (hp : PAt w2 P g c toks at' wi) (hg : w.grownBy w2 (some P)) (hb : w.heap.size ≤ b) (hP : P < w.heap.size) :
    FnPost aop af ag n [] P g c toks at' wi w (.returned (.agg #[.int .i64 aop, .int .i64 af, .int .i64 ag, .int .i64 n, .slice none 0 0])) (((((w2.setCell ⟨b, 0, none⟩ (.int .i64 aop)).setCell ⟨b, 1, none⟩ (.int .i64 af)).setCell ⟨b, 2, none⟩ (.int .i64 ag)).setCell ⟨b, 3, none⟩ (.int .i64 n)).setCell ⟨b, 4, none⟩ (.slice none 0 0)) := by
  have hg5 := grownBy_five w2 b (.int .i64 aop) (.int .i64 af) (.int .i64 ag) (.int .i64 n) (.slice none 0 0)
  exact ⟨none, 0, 0, rfl, IsExprs.nil _ _, hp.far hg5 (by omega), grownBy_after hg hg5 hb⟩

set_option maxRecDepth 100000 in
set_option maxHeartbeats 4000000 in
theorem fn_del {toks : List Tok} {at_ wi : Nat} {t : Tok} (ht : toks[at_]? = some t) (hk : t.k = 20) : FnAt toks at_ wi (at_ + 1) 7 0 0 0 [] := by
  intro w P g c h
  have hlt : at_ < toks.length := (List.getElem?_eq_some_iff.1 ht).1
  have hbl := below_one w (.cells zeroFn 158)
  have HP := Lib.hid (h.below hbl)
  have hKE : kindAt toks at_ = 20 := (kindAt_some ht).trans hk
  have HK := Lib.hid (kind_any HP.out)
  rw [hKE] at HK
  have hPl := h.1.lt
  have ha : at_ ≤ 199 := by have := h.2.2.2.2.1; omega
  obtain ⟨c0, c1, c2⟩ := Box.three h.1
  have fz := Box.frozen h.1 1
  clear h ht hk hKE
  go_enter Tryz.func93, Tryz.ntmps93
  go_wp2_with fail
  refine HK.out.mono ?_
  rintro e w1 ⟨rfl, n, rfl⟩
  have hx := ((Box.new w 158 zeroFn).drewN n)
  have hp2 := (HP.out.drewN n).next hlt
  have hg2 : w.grownBy (((w.alloc (.cells zeroFn 158)).drewN n).setCell ⟨P, 1, none⟩ (.int .i64 (at_ + 1 : Nat))) (some P) := grownBy_trans (grownBy_trans (grownBy_of_below hbl (Nat.le_refl _)) (grownBy_draws _ _ _)) (grownBy_setCell _ _ _ _)
  go_wp2_with fail
  refine bodyPost_ret (v := .agg #[.int .i64 7, .int .i64 0, .int .i64 0, .int .i64 0, .slice none 0 0]) (by simp [results, Tryz.results93, go_sem]) rfl ?_
  exact fn_end hp2 hg2 (Nat.le_refl _) hPl


set_option maxRecDepth 100000 in
set_option maxHeartbeats 8000000 in
theorem fn_plain {toks : List Tok} {at_ wi : Nat} {t : Tok} (ht : toks[at_]? = some t) (hk : t.k = 4) (h13 : kindAt toks (at_ + 1) ≠ 13) (h12 : kindAt toks (at_ + 1) ≠ 12) (h4 : kindAt toks (at_ + 1) ≠ 4) : FnAt toks at_ wi (at_ + 1) 0 t.f 0 0 [] := by
  intro w P g c h
  have hlt : at_ < toks.length := (List.getElem?_eq_some_iff.1 ht).1
  have hbl := below_one w (.cells zeroFn 158)
  have HP := Lib.hid (h.below hbl)
  have hKE : kindAt toks at_ = 4 := (kindAt_some ht).trans hk
  have HK := Lib.hid (kind_any HP.out)
  rw [hKE] at HK
  have HNEED := Lib.hid (fun (W : World) (hW : PAt W P g c toks at_ wi) => need_ok hW ht hk)
  have hPl := h.1.lt
  have ha : at_ ≤ 199 := by have := h.2.2.2.2.1; omega
  obtain ⟨tk, tf, tn, tt, ta⟩ := t
  simp only [Tok.v, tokV] at HNEED
  have hf1 := fun w => tok_fn tk tf tn ta tt w
  clear h ht hk hKE
  go_enter Tryz.func93, Tryz.ntmps93
  go_wp2_with fail
  refine HK.out.mono ?_
  rintro e w1 ⟨rfl, n, rfl⟩
  have hx1 := ((Box.new w 158 zeroFn).drewN n)
  have hg1 : w.grownBy ((w.alloc (.cells zeroFn 158)).drewN n) (some P) := grownBy_trans (grownBy_of_below hbl (Nat.le_refl _)) (grownBy_draws _ _ _)
  go_wp2_with fail
  refine (HNEED.out _ (HP.out.drewN n)).mono ?_
  rintro e w2 ⟨rfl, hp2, hg2⟩
  have b2 := Box.grown hx1 hg2 (by intro e; injection e; omega)
  have HG2 := Lib.hid (grownBy_trans hg1 hg2)
  have HP2 := Lib.hid (hp2.below (below_one w2 (.cells #[.int .i64 0, .int .i64 tf, .int .i64 0] 99)))
  have hs2 : w.heap.size < w2.heap.size := b2.lt
  have hPs : P < w2.heap.size := hp2.1.lt
  have zl := b2.lt
  obtain ⟨q0, q1, q2, q3, q4⟩ := b2.five
  have qf := b2.frozen
  clear hx1 hg1
  have HK2 := Lib.hid (kind_any HP2.out)
  obtain ⟨K2, hK2⟩ : ∃ K2, K2 = kindAt toks (at_ + 1) := ⟨_, rfl⟩
  rw [← hK2] at HK2 h13 h12 h4
  have e13 : (K2 == 13) = false := by simpa using h13
  have e12 : (K2 == 12) = false := by simpa using h12
  have e4 : (K2 == 4) = false := by simpa using h4
  clear h13 h12 h4 hK2
  go_wp2_with fail
  refine HK2.out.mono ?_
  rintro e w3 ⟨rfl, n3, rfl⟩
  go_wp2_with fail
  refine bodyPost_ret (v := .agg #[.int .i64 0, .int .i64 tf, .int .i64 0, .int .i64 0, .slice none 0 0]) (by simp [results, Tryz.results93, go_sem, zl, q0, q1, q2, q3, q4]) rfl ?_
  exact fn_end (b := w.heap.size) (HP2.out.drewN n3) (grownBy_trans (grownBy_then HG2.out (below_one w2 _)) (grownBy_draws _ _ _)) (Nat.le_refl _) hPl

set_option maxRecDepth 100000 in
set_option maxHeartbeats 8000000 in
theorem fn_plain_sign {toks : List Tok} {at_ wi : Nat} {t : Tok} {s : Tok} (ht : toks[at_]? = some t) (hk : t.k = 4) (hs : toks[at_ + 1]? = some s) (hsk : s.k = 4) (h33 : s.f ≠ 33) (h34 : s.f ≠ 34) : FnAt toks at_ wi (at_ + 1) 0 t.f 0 0 [] := by
  intro w P g c h
  have hlt : at_ < toks.length := (List.getElem?_eq_some_iff.1 ht).1
  have hbl := below_one w (.cells zeroFn 158)
  have HP := Lib.hid (h.below hbl)
  have hKE : kindAt toks at_ = 4 := (kindAt_some ht).trans hk
  have HK := Lib.hid (kind_any HP.out)
  rw [hKE] at HK
  have HNEED := Lib.hid (fun (W : World) (hW : PAt W P g c toks at_ wi) => need_ok hW ht hk)
  have hPl := h.1.lt
  have ha : at_ ≤ 199 := by have := h.2.2.2.2.1; omega
  obtain ⟨tk, tf, tn, tt, ta⟩ := t
  simp only [Tok.v, tokV] at HNEED
  have hf1 := fun w => tok_fn tk tf tn ta tt w
  clear h ht hk hKE
  go_enter Tryz.func93, Tryz.ntmps93
  go_wp2_with fail
  refine HK.out.mono ?_
  rintro e w1 ⟨rfl, n, rfl⟩
  have hx1 := ((Box.new w 158 zeroFn).drewN n)
  have hg1 : w.grownBy ((w.alloc (.cells zeroFn 158)).drewN n) (some P) := grownBy_trans (grownBy_of_below hbl (Nat.le_refl _)) (grownBy_draws _ _ _)
  go_wp2_with fail
  refine (HNEED.out _ (HP.out.drewN n)).mono ?_
  rintro e w2 ⟨rfl, hp2, hg2⟩
  have b2 := Box.grown hx1 hg2 (by intro e; injection e; omega)
  have HG2 := Lib.hid (grownBy_trans hg1 hg2)
  have HP2 := Lib.hid (hp2.below (below_one w2 (.cells #[.int .i64 0, .int .i64 tf, .int .i64 0] 99)))
  have hs2 : w.heap.size < w2.heap.size := b2.lt
  have hPs : P < w2.heap.size := hp2.1.lt
  have zl := b2.lt
  obtain ⟨q0, q1, q2, q3, q4⟩ := b2.five
  have qf := b2.frozen
  clear hx1 hg1
  obtain ⟨c0, c1, c2⟩ := Box.three HP2.out.1
  obtain ⟨s0, s1, -, -, -⟩ := HP2.out.2.2.2.2.2.2.2 (at_ + 1) s hs
  have fz2 := Box.frozen HP2.out.1 1
  have lz2 := Box.lt HP2.out.1
  have hsl : at_ + 1 < toks.length := (List.getElem?_eq_some_iff.1 hs).1
  obtain ⟨L, hL⟩ : ∃ L, L = toks.length := ⟨_, rfl⟩
  rw [← hL] at c0 hsl
  have HL := Lib.hid hL
  have hK2 : kindAt toks (at_ + 1) = 4 := (kindAt_some hs).trans hsk
  have HK2 := Lib.hid (kind_any HP2.out)
  rw [hK2] at HK2
  clear hL hK2
  have e33 : (s.f == 33) = false := by simpa using h33
  have e34 : (s.f == 34) = false := by simpa using h34
  clear h33 h34 hs hsk
  go_wp2_with fail
  refine HK2.out.mono ?_
  rintro e w3 ⟨rfl, n3, rfl⟩
  go_wp2_with fail
  go_quiet (fail)
  all_goals go_wp2_with fail
  refine bodyPost_ret (v := .agg #[.int .i64 0, .int .i64 tf, .int .i64 0, .int .i64 0, .slice none 0 0]) (by simp [results, Tryz.results93, go_sem, zl, q0, q1, q2, q3, q4]) rfl ?_
  exact fn_end (b := w.heap.size) (HP2.out.drewN _) (grownBy_trans (grownBy_then HG2.out (below_one w2 _)) (grownBy_draws _ _ _)) (Nat.le_refl _) hPl

set_option maxRecDepth 100000 in
set_option maxHeartbeats 8000000 in
theorem fn_over {toks : List Tok} {at_ wi : Nat} {t : Tok} {s : Tok} (ht : toks[at_]? = some t) (hk : t.k = 4) (hs : toks[at_ + 1]? = some s) (hsk : s.k = 4) (hsf : s.f = 33) : FnAt toks at_ wi (at_ + 2) 1 t.f 0 0 [] := by
  intro w P g c h
  have hlt : at_ < toks.length := (List.getElem?_eq_some_iff.1 ht).1
  have hbl := below_one w (.cells zeroFn 158)
  have HP := Lib.hid (h.below hbl)
  have hKE : kindAt toks at_ = 4 := (kindAt_some ht).trans hk
  have HK := Lib.hid (kind_any HP.out)
  rw [hKE] at HK
  have HNEED := Lib.hid (fun (W : World) (hW : PAt W P g c toks at_ wi) => need_ok hW ht hk)
  have hPl := h.1.lt
  have ha : at_ ≤ 199 := by have := h.2.2.2.2.1; omega
  obtain ⟨tk, tf, tn, tt, ta⟩ := t
  simp only [Tok.v, tokV] at HNEED
  have hf1 := fun w => tok_fn tk tf tn ta tt w
  clear h ht hk hKE
  go_enter Tryz.func93, Tryz.ntmps93
  go_wp2_with fail
  refine HK.out.mono ?_
  rintro e w1 ⟨rfl, n, rfl⟩
  have hx1 := ((Box.new w 158 zeroFn).drewN n)
  have hg1 : w.grownBy ((w.alloc (.cells zeroFn 158)).drewN n) (some P) := grownBy_trans (grownBy_of_below hbl (Nat.le_refl _)) (grownBy_draws _ _ _)
  go_wp2_with fail
  refine (HNEED.out _ (HP.out.drewN n)).mono ?_
  rintro e w2 ⟨rfl, hp2, hg2⟩
  have b2 := Box.grown hx1 hg2 (by intro e; injection e; omega)
  have HG2 := Lib.hid (grownBy_trans hg1 hg2)
  have HP2 := Lib.hid (hp2.below (below_one w2 (.cells #[.int .i64 0, .int .i64 tf, .int .i64 0] 99)))
  have hs2 : w.heap.size < w2.heap.size := b2.lt
  have hPs : P < w2.heap.size := hp2.1.lt
  have zl := b2.lt
  obtain ⟨q0, q1, q2, q3, q4⟩ := b2.five
  have qf := b2.frozen
  clear hx1 hg1
  obtain ⟨c0, c1, c2⟩ := Box.three HP2.out.1
  obtain ⟨s0, s1, -, -, -⟩ := HP2.out.2.2.2.2.2.2.2 (at_ + 1) s hs
  have fz2 := Box.frozen HP2.out.1 1
  have lz2 := Box.lt HP2.out.1
  have hsl : at_ + 1 < toks.length := (List.getElem?_eq_some_iff.1 hs).1
  obtain ⟨L, hL⟩ : ∃ L, L = toks.length := ⟨_, rfl⟩
  rw [← hL] at c0 hsl
  have HL := Lib.hid hL
  have hK2 : kindAt toks (at_ + 1) = 4 := (kindAt_some hs).trans hsk
  have HK2 := Lib.hid (kind_any HP2.out)
  rw [hK2] at HK2
  clear hL hK2
  have e34 : (s.f == 33) = true := by simp [hsf]
  clear hsf hs hsk
  go_wp2_with fail
  refine HK2.out.mono ?_
  rintro e w3 ⟨rfl, n3, rfl⟩
  go_wp2_with fail
  go_quiet (fail)
  all_goals go_wp2_with fail
  refine bodyPost_ret (v := .agg #[.int .i64 1, .int .i64 tf, .int .i64 0, .int .i64 0, .slice none 0 0]) (by simp [results, Tryz.results93, go_sem, zl, q0, q1, q2, q3, q4]) rfl ?_
  exact fn_end (b := w.heap.size) (PAt.next (PAt.far (HP2.out.drewN _) (grownBy_setCell _ w2.heap.size 0 (.int .i64 1)) hPs) (by have := HL.out; omega)) (grownBy_trans (grownBy_after (grownBy_trans (grownBy_then HG2.out (below_one w2 _)) (grownBy_draws _ _ _)) (grownBy_setCell _ w2.heap.size 0 (.int .i64 1)) (Nat.le_of_lt hs2)) (grownBy_setCell _ _ _ _)) (Nat.le_refl _) hPl

end Go.Proofs.YtihndbkaoejnnaaGreatDoor

namespace Go.Proofs.YtihndbkaoejnnaaGreatDoor
open Go Go.RowKit Go.Proofs.YtihndbkaoejnnaaGreatDoor.P

def catNs (nss : List (List Nd)) : List Nd := nss.flatten
theorem catNs_take {nss : List (List Nd)} {k : Nat} {ns : List Nd} (h : nss[k]? = some ns) : catNs (nss.take (k + 1)) = catNs (nss.take k) ++ ns := by
  unfold catNs
  rw [List.take_add_one, h, List.flatten_append]
  simp
theorem catNs_take_le {nss : List (List Nd)} {k : Nat} {ns : List Nd} (h : nss[k]? = some ns) : (catNs (nss.take k)).length + ns.length ≤ (catNs nss).length := by
  have e : nss = nss.take (k + 1) ++ nss.drop (k + 1) := (List.take_append_drop _ _).symm
  have e2 : (catNs nss).length = (catNs (nss.take (k + 1))).length + (catNs (nss.drop (k + 1))).length := by
    conv => lhs; rw [e]
    unfold catNs
    rw [List.flatten_append, List.length_append]
  rw [catNs_take h, List.length_append] at e2
  omega

theorem grownBy_chain {w w1 w2 : World} {r r1 : Option Nat} (h : w.grownBy w1 r) (h2 : w1.grownBy w2 r1) (hr : r1 = r ∨ ∀ j, r1 = some j → w.heap.size ≤ j) : w.grownBy w2 r := by
  rcases hr with rfl | hr
  · exact grownBy_trans h h2
  · exact grownBy_row h h2 hr
theorem own_chain {n n1 : Nat} {r r1 r2 : Option Nat} (hn : n ≤ n1) (h1 : r1 = r ∨ ∀ j, r1 = some j → n ≤ j) (h2 : r2 = r1 ∨ ∀ j, r2 = some j → n1 ≤ j) : r2 = r ∨ ∀ j, r2 = some j → n ≤ j := by
  rcases h2 with rfl | h2
  · exact h1
  · exact .inr fun j hj => Nat.le_trans hn (h2 j hj)

set_option maxHeartbeats 4000000 in
theorem node_any {aop af ag n op : Int} {A : Option Addr} {k c : Nat} {w : World} :
    Calls Tryz.prog 268 #[.agg #[.int .i64 aop, .int .i64 af, .int .i64 ag, .int .i64 n, .slice A k c], .int .i64 op] w fun e w' => e = .returned (.agg #[.int .i64 op, .int .i64 aop, .int .i64 af, .int .i64 ag, .int .i64 n, .slice none 0 0, .string ⟨#[]⟩]) ∧ Below w.heap.size w w' := by
  go_enter Tryz.func268, Tryz.ntmps268
  go_wp2_with fail
  refine bodyPost_ret (v := .agg #[.int .i64 op, .int .i64 aop, .int .i64 af, .int .i64 ag, .int .i64 n, .slice none 0 0, .string ⟨#[]⟩]) (by simp [results, Tryz.results268, go_sem]) rfl ?_
  exact ⟨rfl, below_two w _ _⟩

/-- A list of expressions that stand since w0; the list lies below B or is one of expressions. -/
def ExprsAt (w0 w : World) (P B : Nat) (v : Value) (nss : List (List Nd)) : Prop :=
  ∃ A c vs, v = .slice A nss.length c ∧ nss.length ≤ c ∧ nss.length ≤ 400 ∧ vs.length = nss.length ∧ CellsAt w A vs ∧ (vs = [] ∨ ∀ ad, A = some ad → ad.block < B ∨ ∃ cs, Box w ad.block 93 cs) ∧ ∀ (i : Nat) (x : Value) (ns : List Nd), vs[i]? = some x → nss[i]? = some ns → IsExpr w0 P x ns
theorem IsExprs.at_ {w0 w : World} {P B : Nat} {v : Value} {nss : List (List Nd)} (h : IsExprs w0 P v nss) (hw : ExKept P w0 w) (hB : w0.heap.size ≤ B) : ExprsAt w0 w P B v nss := by
  obtain ⟨A, c, vs, h1, h2, h3, h4, h5, h6, h7, h8, h9⟩ := h
  refine ⟨A, c, vs, h1, h2, h6, h5, h7.exKept hw h8, ?_, h9⟩
  cases vs with
  | nil => exact .inl rfl
  | cons x l =>
    refine .inr fun ad e => .inl ?_
    obtain ⟨ad', e', hl, -⟩ := h7 0 x rfl
    rw [e] at e'
    cases e'
    omega
theorem exprsAt_one {w0 w : World} {P B g : Nat} {v : Value} {ns : List Nd} (hv : IsExpr w0 P v ns) (hb : Box w g 93 #[v]) : ExprsAt w0 w P B (.slice (some ⟨g, 0, none⟩) 1 1) [ns] := by
  refine ⟨some ⟨g, 0, none⟩, 1, [v], rfl, by simp, by simp, rfl, fun j u hj => ?_, .inr fun ad e => by cases e; exact .inr ⟨_, hb⟩, fun i x ms hx hn => ?_⟩
  · match j, hj with
    | 0, hj =>
      simp at hj
      subst hj
      exact ⟨_, rfl, hb.lt, hb.cell 0⟩
    | j + 1, hj => simp at hj
  · match i, hx, hn with
    | 0, hx, hn =>
      simp at hx hn
      subst hx hn
      exact hv
    | i + 1, hx, hn => simp at hx
theorem cellsAt_flat {w wr : World} {B n : Nat} {tv : Value} {cs vs : List Value} {A : Option Addr} (h : CellsAt w A vs) (hd : vs = [] ∨ ∀ ad, A = some ad → ad.block < B ∨ ∃ cs, Box w ad.block 93 cs) (ho : w.ownsRow B 101 7 tv n cs) (hg : w.grownBy wr tv.ownBlock) : CellsAt wr A vs := by
  intro j u hj
  obtain ⟨ad, e, hl, hc⟩ := h j u hj
  have hs := hg.size
  refine ⟨ad, e, by omega, hg.cell hc fun e2 => ?_⟩
  rw [addr_block_add] at e2
  rcases hd with rfl | hd
  · simp at hj
  · rcases hd ad e with h1 | ⟨cs', h1⟩
    · exact ownsR_low ho h1 e2.symm
    · exact ownsR_ne ho h1 (by decide) e2.symm

set_option maxHeartbeats 4000000 in
theorem flatAll_any {w0 w : World} {P B : Nat} {tv esv : Value} {nss : List (List Nd)} {ms : List Nd} (he : ExprsAt w0 w P B esv nss) (hw : ExKept P w0 w) (hB0 : w0.heap.size ≤ B) (hB : B ≤ w.heap.size) (ht : ToList w B tv ms) (hl : ms.length + (catNs nss).length ≤ 800) :
    Calls Tryz.prog 264 #[tv, esv] w (Flats (catNs nss) ms B tv w) := by
  obtain ⟨A, c, vs, rfl, e2, e6, e5, e7, e8, e9⟩ := he
  obtain ⟨TA, tc, tus, rfl, hown, hcs⟩ := ht.form
  have HT := Lib.hid ht
  have HTO := Lib.hid hown
  have HW := Lib.hid hw
  have HE := Lib.hid e9
  have HC := Lib.hid e7
  have HP := Lib.hid e8
  have HV := Lib.hid e5
  have HL := Lib.hid hl
  obtain ⟨m, hm⟩ : ∃ m, m = nss.length := ⟨_, rfl⟩
  rw [← hm] at e2 e6 ⊢
  have HM := Lib.hid hm
  clear ht hown hcs hw e9 e7 e8 e5 hl hm
  go_enter Tryz.func264, Tryz.ntmps264
  go_wp2_with fail
  go_loopw [0, 9] (fun s0 s9 wr => ∃ k : Nat, k ≤ m ∧ s9 = .int .i64 k ∧ ToList wr B s0 (ms ++ catNs (nss.take k)) ∧ w.grownBy wr (Value.slice TA ms.length tc).ownBlock ∧ (s0.ownBlock = (Value.slice TA ms.length tc).ownBlock ∨ ∀ j, s0.ownBlock = some j → w.heap.size ≤ j)) (fun _ s9 _ => m - (intOf s9).toNat)
  case atStart => exact ⟨0, Nat.zero_le _, rfl, by simpa [catNs] using HT.out, World.grownBy.refl _ _, .inl rfl⟩
  case round =>
    obtain ⟨k, hk, rfl, hto, hg, hat⟩ := hrel
    have HTO2 := Lib.hid hto
    have HG := Lib.hid hg
    have HAT := Lib.hid hat
    clear hto hg hat
    have HW2 := Lib.hid (HW.out.row HG.out (fun j hj => by have := (HTO.out.lt j hj).1; omega))
    rcases Nat.lt_or_ge k m with hlt | hge
    · obtain ⟨v, hv⟩ : ∃ v, vs[k]? = some v := ⟨vs[k]'(by rw [HV.out, ← HM.out]; exact hlt), List.getElem?_eq_getElem _⟩
      obtain ⟨ns, hns⟩ : ∃ ns, nss[k]? = some ns := ⟨nss[k]'(by rw [← HM.out]; exact hlt), List.getElem?_eq_getElem _⟩
      obtain ⟨T, u, f, rfl, hmeth, hcf, hfl⟩ := HE.out k v ns hv hns
      obtain ⟨ad, rfl, hal, hcv⟩ := (cellsAt_flat HC.out HP.out HTO.out HG.out) k _ hv
      have HFL := Lib.hid hfl
      have HNS := Lib.hid hns
      have hle : (ms ++ catNs (nss.take k)).length + ns.length ≤ 800 := by have h1 := catNs_take_le HNS.out; have h2 := HL.out; rw [List.length_append]; omega
      clear hv hns hfl
      go_wp2_with fail
      refine (HFL.out _ B _ _ HW2.out hB0 (Nat.le_trans hB HG.out.size) HTO2.out hle).mono ?_
      rintro e w1 ⟨tv', rfl, hto', hg', hat'⟩
      go_wp2_with fail
      go_roundw
      case rel =>
        refine ⟨k + 1, by omega, by go_num, ?_, ?_, ?_⟩
        · rw [catNs_take HNS.out, ← List.append_assoc]
          exact hto'
        · exact grownBy_chain HG.out hg' HAT.out
        · exact own_chain HG.out.size HAT.out hat'
      case measure => simp [intOf]; omega
    · go_wp2_with fail
      go_ret
      have e1 : nss.take k = nss := List.take_of_length_le (by have := HM.out; omega)
      rw [e1] at HTO2
      exact ⟨_, rfl, HTO2.out, HG.out, HAT.out⟩

end Go.Proofs.YtihndbkaoejnnaaGreatDoor

namespace Go.Proofs.YtihndbkaoejnnaaGreatDoor
open Go Go.RowKit Go.Proofs.YtihndbkaoejnnaaGreatDoor.P


end Go.Proofs.YtihndbkaoejnnaaGreatDoor
