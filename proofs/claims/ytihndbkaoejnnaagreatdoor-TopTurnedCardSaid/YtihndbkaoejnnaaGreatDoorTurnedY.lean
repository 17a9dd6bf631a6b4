/- What the card TopTurned leans on: Moved, Rev, FlipWalk. Conditions: none but those of its theorems. -/
import Derived.Deep.DeepCutAuto
import Derived.Test.YtihndbkaoejnnaaGreatDoorTurnedG
import Derived.Test.YtihndbkaoejnnaaGreatDoorTurnedR
import Derived.Test.YtihndbkaoejnnaaGreatDoorTurnedC
import Derived.Test.YtihndbkaoejnnaaGreatDoorTurnedL
import Derived.Test.YtihndbkaoejnnaaGreatDoorTurnedA
import Derived.Test.YtihndbkaoejnnaaGreatDoorTurnedE
set_option linter.unusedSimpArgs false
set_option linter.unusedVariables false
namespace Go.Proofs.YtihndbkaoejnnaaGreatDoor
open Go Go.RowKit Go.Proofs.YtihndbkaoejnnaaGreatDoor.P

/-- make([]int, 0, n), made known ahead of the walk. -/
theorem run_make_ints (n : Nat) (hn : n ≤ 35184372088832) (w : World) :
    (Instr.makeSlice 23 (.int .i64 0) (.int .i64 n)).run Tryz.prog w = .ok (.slice (some ⟨w.heap.size, 0, none⟩) 0 n) (w.alloc (.cells (madeCells #[.int .i64 0] n) 3)) := by
  obtain ⟨i0, hi, hz0, hz1, hz2⟩ := info_parts int_info
  have hr := run_make (P := Tryz.prog) w 23 3 i0 (.int .i64 0) Tryz.underlying23 hi hz0 .i64 .i64 0 n (by omega) (by omega) (by rw [hz2]; omega) (by omega)
  rw [hz1] at hr
  simp only [Int.toNat_natCast, Int.toNat_zero, Nat.mul_one] at hr
  exact hr

theorem quiet_call {P : Program} {f : FuncId} {args : Array Value} {w : World} {v : Value} (h : Calls P f args w fun e w' => e = .returned v ∧ w = w') : Calls P f args w fun e w' => e = .returned v ∧ w' = w := h.mono fun _ _ ⟨he, hw⟩ => ⟨he, hw.symm⟩

end Go.Proofs.YtihndbkaoejnnaaGreatDoor

namespace Go.Proofs.YtihndbkaoejnnaaGreatDoor
open Go Go.RowKit Go.Proofs.YtihndbkaoejnnaaGreatDoor.P

theorem Fails.nil {k : Int} {w w' : World} {e : Ending} (h : Fails zeroArr k w e w') : e = .returned (.tuple #[zeroArr, .iface 54 (.int .i64 k)]) := h.1

/-- A call tells some array and some error. -/
def GivesSome (w : World) (e : Ending) (w' : World) : Prop := ∃ r ev b, e = .returned (.tuple #[r, ev]) ∧ IsArr w' r b ∧ Below w.heap.size w w'
theorem isArr_zero (w : World) : IsArr w zeroArr Arr.nil := ⟨_, _, rfl, (Owns.nil w 0).isInts, (Owns.nil w 0).isInts⟩
theorem GivesOk.some {a : Arr} {w w' : World} {e : Ending} (h : GivesOk a w e w') : GivesSome w e w' := by
  obtain ⟨r, he, hr, hb⟩ := h
  exact ⟨r, _, a, he, hr, hb⟩
theorem Fails.some {k : Int} {w w' : World} {e : Ending} (h : Fails zeroArr k w e w') : GivesSome w e w' := ⟨_, _, Arr.nil, h.1, isArr_zero w', h.2⟩

end Go.Proofs.YtihndbkaoejnnaaGreatDoor

namespace Go.Proofs.YtihndbkaoejnnaaGreatDoor.P

def FarTo (s : List Nat) (k : Nat) (F : Int) : Prop := prod s ≠ 0 → F = (prod (s.drop k) : Nat)
def StepTo (s : List Nat) (k : Nat) (L : List Int) : Prop := L.length = 6 ∧ (prod s ≠ 0 → ∀ j, k ≤ j → j < s.length → L[j]? = some ((innerOf s j : Nat) : Int))
theorem FarTo.start (s : List Nat) : FarTo s s.length 1 := fun _ => by simp [prod]
theorem StepTo.start (s : List Nat) : StepTo s s.length (List.replicate 6 0) := ⟨by simp, fun _ j h1 h2 => by omega⟩
theorem prod_drop_at {s : List Nat} {k : Nat} (hk : k < s.length) : prod (s.drop k) = s.getD k 0 * prod (s.drop (k + 1)) := by
  rw [List.drop_eq_getElem_cons hk, prod, List.getD_eq_getElem?_getD, List.getElem?_eq_getElem hk]; rfl
theorem prod_drop_le' {t : List Nat} (h : prod t ≠ 0) (j : Nat) : prod (t.drop j) ≤ prod t := by
  have e : prod t = prod (t.take j) * prod (t.drop j) := by rw [← prod_append, List.take_append_drop]
  rw [e] at h ⊢
  have : 0 < prod (t.take j) := by
    rcases Nat.eq_zero_or_pos (prod (t.take j)) with h0 | h0
    · rw [h0] at h; simp at h
    · exact h0
  exact Nat.le_mul_of_pos_left _ this
theorem far_wrap {z y : Nat} {x F : Int} (e : F = (y : Nat)) (hx : x = ((z : Nat) : Int)) (h : z * y ≤ 4096) : Go.RowKit.wrap64 (F * x) = ((z * y : Nat) : Int) := by
  subst e hx
  rw [← Int.natCast_mul, Nat.mul_comm y z]
  generalize z * y = q at *
  unfold Go.RowKit.wrap64
  omega
theorem FarTo.next {s : List Nat} {k : Nat} {F x : Int} (hg : GoodSh s) (h : FarTo s (k + 1) F) (hk : k < s.length) (hx : x = max ((s.getD k 0 : Nat) : Int) 1) : FarTo s k (Go.RowKit.wrap64 (F * x)) := fun hp => by
  have h1 := h hp
  have h2 := prod_drop_le' hp k
  rw [prod_drop_at hk] at h2 ⊢
  have h3 : s.getD k 0 ≠ 0 := fun e => by
    have := prod_drop_at hk
    rw [e, Nat.zero_mul] at this
    have e2 : prod s = prod (s.take k) * prod (s.drop k) := by rw [← prod_append, List.take_append_drop]
    rw [this] at e2
    omega
  have h4 := hg.2.2
  clear hg
  refine far_wrap h1 (z := s.getD k 0) (by rw [hx]; omega) (by omega)
theorem StepTo.next {s : List Nat} {k : Nat} {F : Int} {L : List Int} (h : StepTo s (k + 1) L) (hF : FarTo s (k + 1) F) (hk : k < 6) : StepTo s k (L.set k F) := by
  refine ⟨by rw [List.length_set]; exact h.1, fun hp j h1 h2 => ?_⟩
  by_cases e : k = j
  · subst e
    rw [List.getElem?_set_self (by rw [h.1]; exact hk), hF hp]
    rfl
  · rw [List.getElem?_set_ne e]
    exact h.2 hp j (by omega) h2

/-- The first cells of an array of six are these. -/
def SixAt (L : List Int) (b : List Nat) : Prop := L.length = 6 ∧ ∀ j, j < b.length → L[j]? = some ((b.getD j 0 : Nat) : Int)
theorem SixAt.zero {n : Nat} (h : n ≤ 6) : SixAt (List.replicate 6 0) (List.replicate n 0) := by
  refine ⟨by simp, fun j hj => ?_⟩
  rw [List.length_replicate] at hj
  rw [List.getElem?_replicate, if_pos (by omega), List.getD_eq_getElem?_getD, List.getElem?_replicate, if_pos hj]
  rfl
theorem SixAt.set {L : List Int} {b : List Nat} (h : SixAt L b) (hb : b.length ≤ 6) (k x : Nat) : SixAt (L.set k (x : Int)) (b.set k x) := by
  refine ⟨by rw [List.length_set]; exact h.1, fun j hj => ?_⟩
  rw [List.length_set] at hj
  by_cases e : k = j
  · subst e
    rw [List.getElem?_set_self (by rw [h.1]; omega), List.getD_eq_getElem?_getD, List.getElem?_set_self hj]
    rfl
  · rw [List.getElem?_set_ne e, List.getD_eq_getElem?_getD, List.getElem?_set_ne e, ← List.getD_eq_getElem?_getD]
    exact h.2 j hj

end Go.Proofs.YtihndbkaoejnnaaGreatDoor.P
namespace Go.Proofs.YtihndbkaoejnnaaGreatDoor
open Go Go.RowKit Go.Proofs.YtihndbkaoejnnaaGreatDoor.P

/-- The numbers of an array of six. -/
def Six (w : World) (g : Nat) (L : List Int) : Prop := Box w g 281 (L.map (Value.int .i64)).toArray
theorem Six.store {w : World} {g : Nat} {L : List Int} (h : Six w g L) (k : Nat) (x : Int) : Six (w.setCell ⟨g, k, none⟩ (.int .i64 x)) g (L.set k x) := by
  have := Box.store h k (.int .i64 x)
  unfold Six
  rw [List.map_set]
  simpa using this
theorem Six.at_ {w : World} {g : Nat} {L : List Int} (h : Six w g L) {k : Nat} {x : Int} (hk : L[k]? = some x) : w.cell? ⟨g, k, none⟩ = some (.int .i64 x) := by
  rw [Box.cell h]
  simp [hk]

/-- What the loops of Flip keep. -/
def FlipInv (w : World) (a : Arr) (A : Option Addr) (ca : Nat) (D : Option Addr) (cd gs gp g m gat : Nat) (u t : List Nat) (Lp : List Int) (p : Nat) (b : List Nat) (wr : World) : Prop :=
  ∃ Dv La, P.Filled u t a.da p Dv ∧ Row wr m Dv ∧ SixAt La b ∧ Six wr gat La ∧ Box wr w.heap.size 25 #[.bool a.ch, .slice A t.length ca, .slice D a.da.length cd] ∧
    Box wr (w.heap.size + 1) 25 #[.bool false, .slice none 0 0, .slice none 0 0] ∧ Row wr gs (ints (flipSh u t)) ∧ Six wr gp Lp ∧
    Box wr g 25 #[.bool a.ch, .slice (some ⟨gs, 0, none⟩) t.length t.length, .slice (some ⟨m, 0, none⟩) a.da.length a.da.length] ∧ Below w.heap.size w wr
theorem FlipInv.drewN {w : World} {a : Arr} {A : Option Addr} {ca : Nat} {D : Option Addr} {cd gs gp g m gat : Nat} {u t : List Nat} {Lp : List Int} {p : Nat} {b : List Nat} {wr : World} (h : FlipInv w a A ca D cd gs gp g m gat u t Lp p b wr) (k : Nat) :
    FlipInv w a A ca D cd gs gp g m gat u t Lp p b (wr.drewN k) := by
  obtain ⟨Dv, La, h1, h2, h3, h4, h5, h6, h7, h8, h9, h10⟩ := h
  exact ⟨Dv, La, h1, h2, h3, h4, h5, h6, h7, h8, h9, h10.trans (below_draws _ _ _)⟩

theorem FlipInv.put {w : World} {a : Arr} {A : Option Addr} {ca : Nat} {D : Option Addr} {cd gs gp g m gat : Nat} {u t : List Nat} {Lp : List Int} {p : Nat} {b : List Nat} {wr : World} (h : FlipInv w a A ca D cd gs gp g m gat u t Lp p b wr)
    (hb : b.length ≤ 6) (h1 : w.heap.size + 2 ≤ gp) (h2 : gs < gp) (h3 : gp < g) (h4 : gp < m) (h5 : g < gat) (h6 : m < gat) (k x : Nat) : FlipInv w a A ca D cd gs gp g m gat u t Lp p (b.set k x) (wr.setCell ⟨gat, k, none⟩ (.int .i64 x)) := by
  obtain ⟨Dv, La, i1, i2, i3, i4, i5, i6, i7, i8, i9, i10⟩ := h
  exact ⟨Dv, La.set k (x : Int), i1, Box.far i2 (p := ⟨gat, k, none⟩) (by simp; omega) _, i3.set hb k x, i4.store k x, i5.far (p := ⟨gat, k, none⟩) (by simp; omega) _, i6.far (p := ⟨gat, k, none⟩) (by simp; omega) _,
    Box.far i7 (p := ⟨gat, k, none⟩) (by simp; omega) _, Box.far i8 (p := ⟨gat, k, none⟩) (by simp; omega) _, i9.far (p := ⟨gat, k, none⟩) (by simp; omega) _, i10.setCell (p := ⟨gat, k, none⟩) (by simp; omega) _⟩
theorem FlipInv.lay {w : World} {a : Arr} {A : Option Addr} {ca : Nat} {D : Option Addr} {cd gs gp g m gat : Nat} {u t : List Nat} {Lp : List Int} {p : Nat} {b : List Nat} {wr : World} (h : FlipInv w a A ca D cd gs gp g m gat u t Lp p b wr)
    (hu : Perm u) (hl : u.length = t.length) (hp : p < prod t) (h1 : w.heap.size + 2 ≤ gp) (h2 : gs < gp) (h3 : gp < g) (h4 : gp < m) (h5 : g < gat) (h6 : m < gat) (hgm : g ≠ m) {x : Int} (hx : a.da[p]? = some x) {q : Nat} (hq : q = flipTo u t p) :
    FlipInv w a A ca D cd gs gp g m gat u t Lp (p + 1) b (wr.setCell ⟨m, q, none⟩ (.int .i64 x)) := by
  subst hq
  obtain ⟨Dv, La, i1, i2, i3, i4, i5, i6, i7, i8, i9, i10⟩ := h
  exact ⟨Dv.set (flipTo u t p) x, La, i1.step hu hl hp hx, i2.store _ x, i3, Box.far i4 (p := ⟨m, flipTo u t p, none⟩) (by simp; omega) _, i5.far (p := ⟨m, flipTo u t p, none⟩) (by simp; omega) _, i6.far (p := ⟨m, flipTo u t p, none⟩) (by simp; omega) _,
    Box.far i7 (p := ⟨m, flipTo u t p, none⟩) (by simp; omega) _, Box.far i8 (p := ⟨m, flipTo u t p, none⟩) (by simp; omega) _, i9.far (p := ⟨m, flipTo u t p, none⟩) (by simp; omega) _, i10.setCell (p := ⟨m, flipTo u t p, none⟩) (by simp; omega) _⟩

set_option maxRecDepth 100000 in
set_option maxHeartbeats 4000000 in
theorem flip_new {vp v : Value} {a : Arr} {t u : List Nat} {w : World} (hp : IsInts w vp (ints u)) (ha : IsArr w v a) (h : Ok a t) (hu : Perm u) (hl : u.length = t.length) :
    Calls Tryz.prog 195 #[vp, v] w (GivesOkN (flip u a) w) := by
  obtain ⟨A, ca, D, cd, rfl, hs, hd⟩ := ha.open_
  obtain ⟨D0, cd0, eD, d1, d2, d3, d0, d4⟩ := id hd
  cases eD
  obtain ⟨B, cb, rfl, b1, b2, b3, EB, H1⟩ := hp.open_
  obtain ⟨A0, ca0, eA, a1, a2, a3, a0, a4⟩ := id hs
  cases eA
  have h6 := h.good.1
  have hN : a.da.length ≤ 4096 := by rw [h.len]; exact h.good.2.2
  have hsh : a.sh = ints t := h.sh
  have hsl : a.sh.length = t.length := by rw [hsh, length_ints]
  rw [hsh] at hs a4
  simp only [length_ints, hl, hsl] at b1 b3 H1 hs a1 a3 ⊢
  have hlen := h.len
  have hfl : (flipSh u t).length = t.length := by rw [flipSh_length, hl]
  have hax := fun W (hb : Below w.heap.size w W) => (axes_ok (w := W) (hs.mono hb) (H1.mono hb) h.good hu hl).mono (fun e w' ⟨g, he, h1, h2, h3⟩ => (⟨g, by rw [he, length_ints, hfl], h1, h2, h3⟩ : ∃ g, e = Ending.returned (.tuple #[.slice (some ⟨g, 0, none⟩) t.length t.length, .nilIface]) ∧ W.heap.size ≤ g ∧ Row w' g (ints (flipSh u t)) ∧ Below W.heap.size W w'))
  have hfg := flipSh_good hu hl h.good
  have HAX := Lib.hid hax
  have E4 := Lib.hid a4
  have D4 := Lib.hid d4
  have HFL := Lib.hid hfl
  have HFG := Lib.hid hfg
  have H := Lib.hid h
  have HU := Lib.hid hu
  have HL := Lib.hid hl
  have HLN := Lib.hid hlen
  have HSL := Lib.hid hsl
  have HSH := Lib.hid hsh
  have hck := check_ok (w := (w.alloc (.cells #[.bool a.ch, .slice A t.length ca, .slice D a.da.length cd] 25)).alloc (.cells #[.bool false, .slice none 0 0, .slice none 0 0] 25)) (by have := ha.mono (below_two w (.cells #[.bool a.ch, .slice A t.length ca, .slice D a.da.length cd] 25) (.cells #[.bool false, .slice none 0 0, .slice none 0 0] 25)); rwa [hsl] at this) h
  have HCK := Lib.hid hck
  clear hax a4 d4 hfl hfg h hu hl hlen hsh hsl a0 d0 hs hd ha hp hck
  go_enter Tryz.func195, Tryz.ntmps195
  go_wp2_with fail
  refine HCK.out.mono ?_
  rintro e w1 ⟨rfl, hb1⟩
  have bA := ((Box.new w 25 #[.bool a.ch, .slice A t.length ca, .slice D a.da.length cd]).alloc (.cells #[.bool false, .slice none 0 0, .slice none 0 0] 25)).below hb1
  have bR := (Box.new (w.alloc (.cells #[.bool a.ch, .slice A t.length ca, .slice D a.da.length cd] 25)) 25 #[.bool false, .slice none 0 0, .slice none 0 0]).below hb1
  rw [World.size_alloc] at bR
  have hbw1 := (below_two w (.cells #[.bool a.ch, .slice A t.length ca, .slice D a.da.length cd] 25) (.cells #[.bool false, .slice none 0 0, .slice none 0 0] 25)).trans (hb1.mono (below_two w _ _).size)
  obtain ⟨t0, t1, t2⟩ := bA.three
  have hz0 := bA.lt
  have hz1 := bR.lt
  clear hb1
  go_wp2_with fail
  refine (HAX.out _ hbw1).mono ?_
  rintro e w2 ⟨gs, rfl, hgs, bS, hb2⟩
  have bA := bA.below hb2
  have bR := bR.below hb2
  have hbw2 := hbw1.trans (hb2.mono hbw1.size)
  obtain ⟨t0, t1, t2⟩ := bA.three
  have hz0 := bA.lt
  have hz1 := bR.lt
  have hz2 := Box.lt bS
  clear hb2
  clear hbw1
  obtain ⟨gp, hgp⟩ : ∃ gp, gp = w2.heap.size := ⟨_, rfl⟩
  have bP : Six (w2.alloc (.cells #[.int .i64 0, .int .i64 0, .int .i64 0, .int .i64 0, .int .i64 0, .int .i64 0] 281)) w2.heap.size (List.replicate 6 0) := Box.new w2 281 _
  have bA1 := bA.alloc (.cells #[.int .i64 0, .int .i64 0, .int .i64 0, .int .i64 0, .int .i64 0, .int .i64 0] 281)
  have bR1 := bR.alloc (.cells #[.int .i64 0, .int .i64 0, .int .i64 0, .int .i64 0, .int .i64 0, .int .i64 0] 281)
  have bS1 : Row _ _ _ := Box.alloc bS (.cells #[.int .i64 0, .int .i64 0, .int .i64 0, .int .i64 0, .int .i64 0, .int .i64 0] 281)
  have hbw3 := hbw2.alloc hbw2.size (.cells #[.int .i64 0, .int .i64 0, .int .i64 0, .int .i64 0, .int .i64 0, .int .i64 0] 281)
  have hgpw : w.heap.size + 2 ≤ gp ∧ gs < gp := ⟨by omega, by omega⟩
  rw [← hgp] at bP
  go_wp2_with fail
  rw [← hgp]
  clear hgp
  clear bA bR bS hbw2 t0 t1 t2
  go_loopw [10, 11] (fun f i wr => ∃ (k : Nat) (m F : Int) (L : List Int), k ≤ t.length ∧ (k : Int) = m + 1 ∧ i = .int .i64 m ∧ f = .int .i64 F ∧ FarTo (flipSh u t) k F ∧ StepTo (flipSh u t) k L ∧ Six wr gp L ∧
      Box wr w.heap.size 25 #[.bool a.ch, .slice A t.length ca, .slice D a.da.length cd] ∧ Box wr (w.heap.size + 1) 25 #[.bool false, .slice none 0 0, .slice none 0 0] ∧ Row wr gs (ints (flipSh u t)) ∧ Below w.heap.size w wr) (fun _ i _ => (intOf i + 1).toNat)
  case atStart => exact ⟨t.length, _, 1, _, Nat.le_refl _, by omega, rfl, rfl, by rw [← HFL.out]; exact FarTo.start _, by rw [← HFL.out]; exact StepTo.start _, bP, bA1, bR1, bS1, hbw3⟩
  case round =>
    clear bP bA1 bR1 bS1 hbw3
    obtain ⟨k, m, F, L, hk, hkm, rfl, rfl, hF, hL, bP, bA, bR, bS, hbl⟩ := hrel
    have hzp := Box.lt bP
    have hzs := Box.lt bS
    rcases k with _ | k
    case succ =>
      obtain rfl : m = k := by omega
      have hk6 : k < 6 := by omega
      have hx := ints_get (s := flipSh u t) (k := k) (by rw [HFL.out]; omega)
      have hc := bS.at_ hx
      obtain ⟨z, hz⟩ : ∃ z, z = (flipSh u t).getD k 0 := ⟨_, rfl⟩
      rw [← hz] at hc
      have hfz := Box.frozen bP k
      obtain ⟨z1, hz1'⟩ : ∃ z, L[k]? = some z := ⟨_, List.getElem?_eq_getElem (show k < L.length by rw [hL.1]; exact hk6)⟩
      have hg1 := bP.at_ hz1'
      have HF := Lib.hid hF
      have HL' := Lib.hid hL
      have HZ := Lib.hid hz
      have hcs : (wr.setCell ⟨gp, k, none⟩ (.int .i64 F)).cell? ⟨gs, k, none⟩ = some (.int .i64 (z : Nat)) := cellS hc (by simp; omega)
      clear hF hL hz hx hz1' hkm
      go_wp2_with fail
      go_roundw
      case rel => exact ⟨k, (k : Int) - 1, _, _, by omega, by omega, rfl, rfl, FarTo.next HFG.out HF.out (by rw [HFL.out]; omega) (by rw [HZ.out]; omega), HL'.out.next HF.out hk6, bP.store k F, bA.far (p := ⟨gp, k, none⟩) (by simp; omega) _,
        bR.far (p := ⟨gp, k, none⟩) (by simp; omega) _, Box.far bS (p := ⟨gp, k, none⟩) (by simp; omega) _, hbl.setCell (p := ⟨gp, k, none⟩) (by simp; omega) _⟩
      case measure => simp [intOf]
    obtain rfl : m = -1 := by omega
    obtain ⟨t0, t1, t2⟩ := bA.three
    have hmk := run_make_list a.da.length (by omega)
    have hz0 := bA.lt
    have hz1 := bR.lt
    have HLp := Lib.hid hL
    have hwr := hbl.size
    clear hF hL hkm hk
    go_wp2_with fail
    have hbr0 := hbl
    have bA0 := bA
    have bR0 := bR
    have bS0 := bS
    have bP0 := bP
    clear bA bR bS bP
    clear hbl
    obtain ⟨wq, rfl⟩ : ∃ wq : World, wq = wr := ⟨_, rfl⟩
    refine wp_region_open (fun i v lo hi w' => match i with
      | 0 => v = .pointer (some ⟨w.heap.size, 0, none⟩)
      | 1 => v = .bool a.ch
      | 2 => v = .slice (some ⟨gs, 0, none⟩) t.length t.length
      | 3 => v = .pointer (some ⟨w.heap.size, 2, none⟩)
      | 4 => v = .slice D a.da.length cd
      | 5 => v = .int .i64 a.da.length
      | 6 => ∃ m, v = .slice (some ⟨m, 0, none⟩) a.da.length a.da.length ∧ Row w' m (List.replicate a.da.length 0) ∧ lo ≤ m ∧ m < hi ∧ gp + 1 ≤ lo
      | 7 => ∃ m, v = .agg #[.bool a.ch, .slice (some ⟨gs, 0, none⟩) t.length t.length, .slice (some ⟨m, 0, none⟩) a.da.length a.da.length] ∧ Row w' m (List.replicate a.da.length 0) ∧ gp + 1 ≤ m
      | 8 => ∃ g, v = .pointer (some ⟨g, 0, none⟩) ∧ Box w' g 25 #[.bool false, .slice none 0 0, .slice none 0 0] ∧ gp + 1 ≤ g
      | _ => True) (by kernel_rfl) (by kernel_rfl) (by kernel_rfl) ?hV ?step ?last
    case hV =>
      intro i v lo hi w1 w2 h hb
      match i, h with
      | 0, h => exact h
      | 1, h => exact h
      | 2, h => exact h
      | 3, h => exact h
      | 4, h => exact h
      | 5, h => exact h
      | 6, ⟨m, e, ho, hm, hl, hz⟩ => exact ⟨m, e, Box.below ho hb, hm, hl, hz⟩
      | 7, ⟨m, e, hr, hm⟩ => exact ⟨m, e, Box.below hr hb, hm⟩
      | 8, ⟨g, e, hx, hz⟩ => exact ⟨g, e, hx.below hb, hz⟩
      | i + 9, _ => trivial
    case step =>
      simp only [putAll, Act.put, List.setIfInBounds_toArray, List.set_cons_zero, List.set_cons_succ, Nat.reduceAdd, Nat.zero_add]
      intro i o ho hi uu lo up wr hbr hd hj K hK
      obtain ⟨hcw, hfw⟩ := bcell hbr
      match i, ho with
      | 0, ho =>
        simp only [List.getElem?_cons_zero, Option.some.injEq] at ho
        subst ho
        first | (simp [Region.binds] at hd; simp only [hd] at hK) | skip
        refine wpOp_step rfl fun K' hK' => ?_
        go_simp
        exact hK' _ _ (hK _ _ (Below.refl _ _) rfl)
      | 1, ho =>
        simp only [List.getElem?_cons_succ, List.getElem?_cons_zero, Option.some.injEq] at ho
        subst ho
        first | (simp [Region.binds] at hd; simp only [hd] at hK) | skip
        refine wpOp_step rfl fun K' hK' => ?_
        go_simp
        exact hK' _ _ (hK _ _ (Below.refl _ _) rfl)
      | 2, ho =>
        simp only [List.getElem?_cons_succ, List.getElem?_cons_zero, Option.some.injEq] at ho
        subst ho
        first | (simp [Region.binds] at hd; simp only [hd] at hK) | skip
        refine wpOp_step rfl fun K' hK' => ?_
        go_simp
        exact hK' _ _ (hK _ _ (Below.refl _ _) rfl)
      | 3, ho =>
        simp only [List.getElem?_cons_succ, List.getElem?_cons_zero, Option.some.injEq] at ho
        subst ho
        first | (simp [Region.binds] at hd; simp only [hd] at hK) | skip
        refine wpOp_step rfl fun K' hK' => ?_
        go_simp
        exact hK' _ _ (hK _ _ (Below.refl _ _) rfl)
      | 4, ho =>
        simp only [List.getElem?_cons_succ, List.getElem?_cons_zero, Option.some.injEq] at ho
        subst ho
        first | (simp [Region.binds] at hd; simp only [hd] at hK) | skip
        refine wpOp_step rfl fun K' hK' => ?_
        go_simp
        exact hK' _ _ (hK _ _ (Below.refl _ _) rfl)
      | 5, ho =>
        simp only [List.getElem?_cons_succ, List.getElem?_cons_zero, Option.some.injEq] at ho
        subst ho
        first | (simp [Region.binds] at hd; simp only [hd] at hK) | skip
        refine wpOp_step rfl fun K' hK' => ?_
        go_simp
        exact hK' _ _ (hK _ _ (Below.refl _ _) rfl)
      | 6, ho =>
        simp only [List.getElem?_cons_succ, List.getElem?_cons_zero, Option.some.injEq] at ho
        subst ho
        first | (simp [Region.binds] at hd; simp only [hd] at hK) | skip
        have hz := hbr.size
        try simp only [World.size_alloc] at hz
        refine wpOp_step rfl fun K' hK' => ?_
        go_simp
        exact hK' _ _ (hK _ _ (below_one _ _) ⟨_, rfl, Row.made _ _, Nat.le_refl _, by simp, by omega⟩)
      | 7, ho =>
        simp only [List.getElem?_cons_succ, List.getElem?_cons_zero, Option.some.injEq] at ho
        subst ho
        have h1 : uu 1 = .bool a.ch := hd ⟨1, .data⟩ (by simp) rfl
        have h2 : uu 2 = .slice (some ⟨gs, 0, none⟩) t.length t.length := hd ⟨2, .data⟩ (by simp) rfl
        obtain ⟨m, ed, od, md, ld, zd⟩ := hd ⟨6, .data⟩ (by simp) rfl
        dsimp only at od md ld zd
        simp only [h1, h2, ed] at hK
        refine wpOp_step rfl fun K' hK' => ?_
        go_simp
        exact hK' _ _ (hK _ _ (Below.refl _ _) ⟨m, rfl, od, by omega⟩)
      | 8, ho =>
        simp only [List.getElem?_cons_succ, List.getElem?_cons_zero, Option.some.injEq] at ho
        subst ho
        first | (simp [Region.binds] at hd; simp only [hd] at hK) | skip
        have hz := hbr.size
        try simp only [World.size_alloc] at hz
        refine wpOp_step rfl fun K' hK' => ?_
        go_simp
        exact hK' _ _ (hK _ _ (below_one _ _) ⟨_, rfl, Box.new _ _ _, by omega⟩)
      | i + 9, ho => simp at hi; omega
    case last =>
      simp only [putAll, Act.put, List.setIfInBounds_toArray, List.set_cons_zero, List.set_cons_succ, Nat.reduceAdd, Nat.zero_add]
      intro uu wr lo up hbr hv hj
      obtain ⟨m, e9, r8, m8⟩ := hv 7 (by simp)
      obtain ⟨g, e10, bg, hg⟩ := hv 8 (by simp)
      obtain ⟨g0, g1, g2⟩ := bg.three
      have gf := bg.frozen
      simp only [e9, e10]
      clear hv hj e9 e10
      refine wpOp_step rfl fun K' hK' => ?_
      go_simp
      refine hK' _ _ ?_
      have hbw := (hbr0).trans (hbr.mono (by have := hbr0.size; omega))
      have hgg := grownBy_three wr g (.bool a.ch) (.slice (some ⟨gs, 0, none⟩) t.length t.length) (.slice (some ⟨m, 0, none⟩) a.da.length a.da.length)
      have i1 := ((bg.store 0 (.bool a.ch)).store 1 (.slice (some ⟨gs, 0, none⟩) t.length t.length)).store 2 (.slice (some ⟨m, 0, none⟩) a.da.length a.da.length)
      simp only [List.setIfInBounds_toArray, List.set_cons_zero, List.set_cons_succ] at i1
      have hgm : g ≠ m := Box.apart bg r8 (by decide)
      have i2 : Row _ m _ := Box.grown r8 hgg (by intro e; injection e with e; exact hgm e)
      have i4 := Box.grown (Box.below bA0 hbr) hgg (by simp; omega)
      have i5 := Box.grown (Box.below bR0 hbr) hgg (by simp; omega)
      have i6 := Box.grown (Box.below bS0 hbr) hgg (by simp; omega)
      have i7 := Box.grown (Box.below bP0 hbr) hgg (by simp; omega)
      have iw := hbw.grown hgg hbw.size (fun j e => by cases e; omega)
      have hgl : g < (((wr.setCell ⟨g, 0, none⟩ (.bool a.ch)).setCell ⟨g, 1, none⟩ (.slice (some ⟨gs, 0, none⟩) t.length t.length)).setCell ⟨g, 2, none⟩ (.slice (some ⟨m, 0, none⟩) a.da.length a.da.length)).heap.size := i1.lt
      clear hbr hgg r8 bg g0 g1 g2 gf hbw hK' hbr0 bA0 bR0 bS0 bP0 hmk
      generalize (((wr.setCell ⟨g, 0, none⟩ (.bool a.ch)).setCell ⟨g, 1, none⟩ (.slice (some ⟨gs, 0, none⟩) t.length t.length)).setCell ⟨g, 2, none⟩ (.slice (some ⟨m, 0, none⟩) a.da.length a.da.length)) = W2 at i2 i4 i5 i6 i7 i1 iw hgl ⊢
      have hml : m < W2.heap.size := Box.lt i2
      have hgpl := Box.lt i7
      have hiw := iw.size
      obtain ⟨gat, hgat⟩ : ∃ gat, gat = W2.heap.size := ⟨_, rfl⟩
      have bT : Six (W2.alloc (.cells #[.int .i64 0, .int .i64 0, .int .i64 0, .int .i64 0, .int .i64 0, .int .i64 0] 281)) W2.heap.size (List.replicate 6 0) := Box.new W2 281 _
      rw [HLN.out] at i2
      have hinv : FlipInv w a A ca D cd gs gp g m gat u t L 0 (List.replicate t.length 0) (W2.alloc (.cells #[.int .i64 0, .int .i64 0, .int .i64 0, .int .i64 0, .int .i64 0, .int .i64 0] 281)) :=
        ⟨_, _, P.Filled.zero u t a.da, Box.alloc i2 _, SixAt.zero h6, by rw [hgat]; exact bT, i4.alloc _, i5.alloc _, Box.alloc i6 _, Box.alloc i7 _, i1.alloc _, iw.alloc iw.size _⟩
      have l0 : ∀ p b wx, FlipInv w a A ca D cd gs gp g m gat u t L p b wx → wx.cell? ⟨w.heap.size, 1, none⟩ = some (.slice A t.length ca) ∧ wx.cell? ⟨w.heap.size, 2, none⟩ = some (.slice D a.da.length cd) ∧ wx.cell? ⟨g, 2, none⟩ = some (.slice (some ⟨m, 0, none⟩) a.da.length a.da.length) := by
        rintro p b wx ⟨Dv, La, h1, h2, h3, h4, h5, h6, h7, h8, h9, h10⟩
        exact ⟨h5.three.2.1, h5.three.2.2, h9.three.2.2⟩
      have L0 := Lib.hid l0
      have Hinv := Lib.hid hinv
      have hord : w.heap.size + 2 ≤ gp ∧ gs < gp ∧ gp < g ∧ gp < m ∧ g < gat ∧ m < gat := ⟨by omega, by omega, by omega, by omega, by omega, by omega⟩
      have HO := Lib.hid hord
      have HGM := Lib.hid hgm
      obtain ⟨c0, c1, c2⟩ := l0 _ _ _ hinv
      obtain ⟨e0, e1, e2⟩ := i4.three
      clear i1 i2 i5 i6 i7 iw bT hinv l0 hgm m8 hg hgl hml hgpl hiw i4
      go_wp2_with fail
      rw [← hgat]
      clear hgat
      clear c0 c1 c2 e0 e1 e2
      go_loopw [64] (fun s wx => ∃ (p : Nat) (b : List Nat), p ≤ a.da.length ∧ s = .int .i64 p ∧ AtCell t p b ∧ FlipInv w a A ca D cd gs gp g m gat u t L p b wx) (fun s _ => a.da.length - (intOf s).toNat)
      case atStart => exact ⟨0, _, Nat.zero_le _, rfl, AtCell.zero t, Hinv.out⟩
      case round =>
        clear Hinv
        obtain ⟨p, b, hp, rfl, hat, hi⟩ := hrel
        rcases Nat.lt_or_ge p a.da.length with hlt | hge
        · obtain ⟨c0, c1, c2⟩ := L0.out _ _ _ hi
          have hpt : p < prod t := by rw [← HLN.out]; exact hlt
          obtain ⟨ad, x, rfl, hx, hal, hcx⟩ := Elems.later D4.out (by obtain ⟨Dv, La, k1, k2, k3, k4, k5, k6, k7, k8, k9, k10⟩ := hi; exact k10) hlt
          have HX := Lib.hid hx
          have HPT := Lib.hid hpt
          have HB := Lib.hid (hat.2 hpt)
          have Hi := Lib.hid hi
          clear hx hpt hat hi
          go_wp2_with fail
          obtain ⟨wo, rfl⟩ : ∃ wo : World, wo = wr := ⟨_, rfl⟩
          clear c0 c1 c2 hcx
          go_loopw [16, 71] (fun s i wx => ∃ j : Nat, j ≤ t.length ∧ i = .int .i64 j ∧ s = .int .i64 (flipSum u t (coords t p) j) ∧ FlipInv w a A ca (some ad) cd gs gp g m gat u t L p b wx) (fun _ i _ => t.length - (intOf i).toNat)
          case atStart => exact ⟨0, Nat.zero_le _, rfl, by simp [flipSum], Hi.out⟩
          case round =>
            obtain ⟨j, hj, rfl, rfl, hi⟩ := hrel
            rcases Nat.lt_or_ge j t.length with hjl | hjg
            · have Hi2 := Lib.hid hi
              obtain ⟨Dv, La, k1, k2, k3, k4, k5, k6, k7, k8, k9, k10⟩ := hi
              have hjb : j < b.length := by rw [HB.out, length_coords]; exact hjl
              have hc1 := k4.at_ (k3.2 j hjb)
              rw [HB.out] at hc1
              obtain ⟨ae, y, rfl, hy, hae, hcy⟩ := Elems.later EB k10 (k := j) (by rw [length_ints, HL.out]; exact hjl)
              obtain ⟨rfl, -⟩ := ints_getD hy
              have hpz : prod (flipSh u t) ≠ 0 := by rw [prod_perm (flipSh_perm HU.out HL.out)]; have := HPT.out; omega
              have huj : u.getD j 0 < t.length := by rw [← HL.out]; exact HU.out.lt (by rw [HL.out]; exact hjl)
              have hc2 := k8.at_ (HLp.out.2 hpz (u.getD j 0) (Nat.zero_le _) (by rw [HFL.out]; exact huj))
              have hsm := flipSum_lt HU.out HL.out (coords_inside HPT.out) (show j + 1 ≤ t.length by omega)
              have hsu := flipSum_succ u t (coords t p) j
              rw [hsu] at hsm
              obtain ⟨S, hS⟩ : ∃ S, S = flipSum u t (coords t p) j := ⟨_, rfl⟩
              obtain ⟨X, hX⟩ : ∃ X, X = (coords t p).getD j 0 := ⟨_, rfl⟩
              obtain ⟨U, hU⟩ : ∃ U, U = u.getD j 0 := ⟨_, rfl⟩
              obtain ⟨Y, hY⟩ : ∃ Y, Y = innerOf (flipSh u t) U := ⟨_, rfl⟩
              obtain ⟨Z, hZ⟩ : ∃ Z, Z = X * Y := ⟨_, rfl⟩
              rw [← hS, ← hX, ← hU, ← hY, ← hZ] at hsm
              rw [← hX] at hc1
              rw [← hU] at hcy huj
              rw [← hU, ← hY] at hc2
              have hsu' : flipSum u t (coords t p) (j + 1) = S + Z := by rw [hsu, ← hS, ← hX, ← hU, ← hY, ← hZ]
              have HSU := Lib.hid hsu'
              have hprod : (X : Int) * (Y : Int) = (Z : Int) := by rw [hZ]; simp
              have hsm' : S + Z ≤ 4096 := by have := HLN.out; omega
              have w1' : IntKind.i64.wrap (Z : Int) = (Z : Int) := IntWalk.i64_in _ (by omega)
              have w2' : IntKind.i64.wrap ((S : Int) + (Z : Int)) = (S : Int) + (Z : Int) := IntWalk.i64_in _ (by omega)
              have hu6 : U < 6 := by omega
              rw [← hS]
              clear hy hpz hsm hsu hsu' hS hX hU hY hZ k1 k2 k3 k4 k5 k6 k7 k8 k9 k10 hjb
              go_wp2_with fail
              go_quiet (fail)
              all_goals go_wp2_with fail
              go_roundw
              case rel => exact ⟨j + 1, by omega, by go_num, by rw [HSU.out]; go_num, Hi2.out.drewN _⟩
              case measure => simp [intOf]; omega
            · have hje : flipSum u t (coords t p) j = flipTo u t p := by
                have : j = t.length := by omega
                subst this
                exact flipSum_all HU.out HL.out (coords_inside HPT.out)
              have hto := flipTo_lt HU.out HL.out HPT.out
              rw [hje]
              obtain ⟨q, hq⟩ : ∃ q, q = flipTo u t p := ⟨_, rfl⟩
              rw [← hq] at hto
              rw [← HLN.out] at hto
              have HQ := Lib.hid hq
              rw [← hq]
              obtain ⟨c0, c1, c2⟩ := L0.out _ _ _ hi
              obtain ⟨o1, o2, o3, o4, o5, o6⟩ := HO.out
              have hlay := hi.lay HU.out HL.out HPT.out o1 o2 o3 o4 o5 o6 HGM.out HX.out hq
              obtain ⟨Dv, La, k1, k2, k3, k4, k5, k6, k7, k8, k9, k10⟩ := hi
              obtain ⟨z1, hz1'⟩ : ∃ z, Dv[q]? = some z := ⟨_, List.getElem?_eq_getElem (show q < Dv.length by rw [k1.1, ← HLN.out]; exact hto)⟩
              have hg1 := k2.at_ hz1'
              have hfz := Box.frozen k2 q
              have hlt2 := Box.lt k2
              have c1s : (wr.setCell ⟨m, q, none⟩ (.int .i64 x)).cell? ⟨w.heap.size, 1, none⟩ = some (.slice A t.length ca) := (L0.out _ _ _ hlay).1
              have Hlay := Lib.hid hlay
              clear hje hq k1 k2 k3 k4 k5 k6 k7 k8 k9 k10 hz1' hlay o1 o2 o3 o4 o5 o6
              go_wp2_with fail
              obtain ⟨wo2, hwo2⟩ : ∃ wo2 : World, wo2 = wr.setCell ⟨m, q, none⟩ (.int .i64 x) := ⟨_, rfl⟩
              rw [← hwo2]
              rw [← hwo2] at Hlay
              clear c0 c1 c2 hg1 hfz hlt2 c1s hwo2
              go_loopw [18] (fun s wx => ∃ (k : Nat) (mm : Int) (b' : List Nat), (k : Int) = mm + 1 ∧ k ≤ t.length ∧ s = .int .i64 mm ∧ Odo t (coords t p) k b' ∧ FlipInv w a A ca (some ad) cd gs gp g m gat u t L (p + 1) b' wx) (fun s _ => (intOf s + 1).toNat)
              case atStart => exact ⟨t.length, _, b, by omega, Nat.le_refl _, rfl, by rw [HB.out]; exact Odo.start (coords_inside HPT.out), Hlay.out⟩
              case round =>
                obtain ⟨k, mm, b', hkm, hk, rfl, ho, hi⟩ := hrel
                have hcin := coords_inside HPT.out
                have hbl' := ho.length hcin hk
                obtain ⟨c0, c1, c2⟩ := L0.out _ _ _ hi
                rcases k with _ | k
                case succ =>
                  obtain rfl : mm = k := by omega
                  have Hi3 := Lib.hid hi
                  obtain ⟨Dv, La, k1, k2, k3, k4, k5, k6, k7, k8, k9, k10⟩ := hi
                  have hkb : k < b'.length := by omega
                  have hc1 := k4.at_ (k3.2 k hkb)
                  have hget := ho.get hcin (by omega)
                  rw [List.getD_eq_getElem?_getD, hget, Option.getD_some] at hc1
                  have hclt := coords_lt HPT.out (show k < t.length by omega)
                  obtain ⟨ae, y, rfl, hy, hae, hcy⟩ := Elems.later E4.out k10 (k := k) (by rw [length_ints]; omega)
                  obtain ⟨rfl, -⟩ := ints_getD hy
                  obtain ⟨X, hX⟩ : ∃ X, X = (coords t p).getD k 0 := ⟨_, rfl⟩
                  obtain ⟨Y, hY⟩ : ∃ Y, Y = t.getD k 0 := ⟨_, rfl⟩
                  have hY4 : Y ≤ 4096 := by
                    rw [hY, getD_lt (by omega)]
                    exact H.out.good.2.1 _ (List.getElem_mem _)
                  rw [← hX] at hc1 hclt
                  rw [← hY] at hcy hclt
                  have hfz := Box.frozen k4 k
                  have hlt2 := Box.lt k4
                  have h6' : k < 6 := by omega
                  obtain ⟨o1, o2, o3, o4, o5, o6⟩ := HO.out
                  have hp1 := Hi3.out.put (by omega) o1 o2 o3 o4 o5 o6 k (X + 1)
                  have c1s := (L0.out _ _ _ hp1).1
                  have hcys : (wr.setCell ⟨gat, k, none⟩ (.int .i64 ((X + 1 : Nat) : Int))).cell? (ae.add k) = some (.int .i64 (Y : Nat)) := cellS hcy (by rw [addr_block_add]; simp; omega)
                  have hgs : (wr.setCell ⟨gat, k, none⟩ (.int .i64 ((X + 1 : Nat) : Int))).cell? ⟨gat, k, none⟩ = some (.int .i64 ((X + 1 : Nat) : Int)) := by
                    obtain ⟨Dw, Lw, -, -, q3, q4, -⟩ := hp1
                    have := q4.at_ (q3.2 k (by rw [List.length_set]; exact hkb))
                    rwa [getD_set hkb] at this
                  have hfs : (wr.setCell ⟨gat, k, none⟩ (.int .i64 ((X + 1 : Nat) : Int))).frozen? ⟨gat, k, none⟩ = false := by
                    obtain ⟨Dw, Lw, -, -, q3, q4, -⟩ := hp1
                    exact Box.frozen q4 k
                  have hfin0 : ∀ n, FlipInv w a (some ae) ca (some ad) cd gs gp g m gat u t L (p + 1) (b'.set k 0) (((wr.setCell ⟨gat, k, none⟩ (.int .i64 ((X + 1 : Nat) : Int))).drewN n).setCell ⟨gat, k, none⟩ (.int .i64 0)) := fun n => by
                    have := (hp1.drewN n).put (by rw [List.length_set]; omega) o1 o2 o3 o4 o5 o6 k 0
                    rwa [List.set_set] at this
                  have hls : gat < (wr.setCell ⟨gat, k, none⟩ (.int .i64 ((X + 1 : Nat) : Int))).heap.size := by simpa using hlt2
                  obtain ⟨w7, hw7⟩ : ∃ w7 : World, w7 = wr.setCell ⟨gat, k, none⟩ (.int .i64 ((X + 1 : Nat) : Int)) := ⟨_, rfl⟩
                  have HX' := Lib.hid hX
                  have HY' := Lib.hid hY
                  have HO' := Lib.hid ho
                  have Hp1 := Lib.hid hp1
                  have HF0 := Lib.hid hfin0
                  have hcast : ((X + 1 : Nat) : Int) = (X : Int) + 1 := by simp
                  rw [hcast] at c1s hcys hgs hfs hw7 hls
                  clear hy hget hX hY ho hp1 hfin0 k1 k2 k3 k4 k5 k6 k7 k8 k9 k10 hcin hkm hkb hbl' hcast
                  rcases Nat.lt_or_ge (X + 1) Y with hxy | hxy
                  · have hd : decide ((X : Int) + 1 < (Y : Int)) = true := by simp; omega
                    go_wp2_with fail
                    go_quiet (fail)
                    all_goals go_wp2_with fail
                    go_roundw
                    case rel => exact ⟨p + 1, b'.set k (X + 1), by omega, by go_num, by rw [HX'.out]; exact AtCell.next HPT.out (by omega) HO'.out (by rw [← HX'.out, ← HY'.out]; exact hxy), Hp1.out.drewN _⟩
                    case measure => simp [intOf]; omega
                  · have hd : decide ((X : Int) + 1 < (Y : Int)) = false := by simp; omega
                    go_wp2_with fail
                    go_quiet (fail)
                    all_goals go_wp2_with fail
                    go_roundw
                    case rel => exact ⟨k, (k : Int) - 1, b'.set k 0, by omega, by omega, rfl, HO'.out.step (coords_inside HPT.out) (by omega) (by rw [← HX'.out, ← HY'.out]; exact hxy), HF0.out _⟩
                    case measure => simp [intOf]
                · obtain rfl : mm = -1 := by omega
                  have Hi3 := Lib.hid hi
                  have HO' := Lib.hid ho
                  clear hi ho hkm hcin hbl'
                  go_wp2_with fail
                  go_roundw
                  case rel => exact ⟨p + 1, b', by omega, by go_num, AtCell.last HPT.out HO'.out, Hi3.out⟩
                  case measure => simp [intOf]; omega
        · have hpe : p = prod t := by have := HLN.out; omega
          obtain ⟨Dv, La, k1, k2, k3, k4, k5, k6, k7, k8, k9, k10⟩ := hi
          obtain ⟨e0, e1, e2⟩ := k9.three
          obtain ⟨f0, f1, f2⟩ := k6.three
          have ff := k6.frozen
          have hlr := k6.lt
          rw [hpe] at k1
          have hall := k1.all H.out HU.out HL.out
          have hl2 : a.da.length = Dv.length := by rw [k1.1, HLN.out]
          have HALL := Lib.hid hall
          have HL2 := Lib.hid hl2
          clear hpe k1 hall hl2 hat k3 k4 k5 k8
          go_wp2_with fail
          refine bodyPost_ret (v := .tuple #[.agg #[.bool a.ch, .slice (some ⟨gs, 0, none⟩) t.length t.length, .slice (some ⟨m, 0, none⟩) a.da.length a.da.length], .nilIface]) (by simp [results, Tryz.results195, go_sem, f0, f1, f2, e0, e1, e2, hlr]) rfl ?_
          have hgf := grownBy_three wr (w.heap.size + 1) (.bool a.ch) (.slice (some ⟨gs, 0, none⟩) t.length t.length) (.slice (some ⟨m, 0, none⟩) a.da.length a.da.length)
          obtain ⟨o1, o2, o3, o4, o5, o6⟩ := HO.out
          have r1 : Row _ gs (ints (flipSh u t)) := Box.grown k7 hgf (by simp; omega)
          have r2 : Row _ m Dv := Box.grown k2 hgf (by simp; omega)
          refine ⟨_, rfl, ?_, k10.grown hgf k10.size (fun j e => by cases e; omega), newV (block_from (by omega)) (block_from (by omega))⟩
          rw [← HALL.out]
          exact ⟨_, _, rfl, r1.isInts (by rw [length_ints, HFL.out]) (by omega), r2.isInts HL2.out (by omega)⟩

end Go.Proofs.YtihndbkaoejnnaaGreatDoor
