/- What the card TopProduct leans on: Worth, TopLaw, TopTwo, PlainOne, PrimOne, PrimTwo, PrimBoth, PlainIota. Conditions: none but those of its theorems. -/
import Derived.Test.YtihndbkaoejnnaaGreatDoorProductV
import Derived.Test.YtihndbkaoejnnaaGreatDoorProductAA
import Derived.Test.YtihndbkaoejnnaaGreatDoorProductO
import Derived.Test.YtihndbkaoejnnaaGreatDoorProductU
import Derived.Test.YtihndbkaoejnnaaGreatDoorProductR
import Derived.Test.YtihndbkaoejnnaaGreatDoorProductY
import Derived.Test.YtihndbkaoejnnaaGreatDoorProductG
set_option linter.unusedSimpArgs false
set_option linter.unusedVariables false
namespace Go.Proofs.YtihndbkaoejnnaaGreatDoor
open Go Go.RowKit Go.Proofs.YtihndbkaoejnnaaGreatDoor.P

/-- A text that is a line of this value. -/
structure LineOf (src : ByteArray) (bs : List Bd) (a : Arr) : Prop where
  short : src.size ≤ 900
  line : ∃ toks ns k, Lexes src 0 toks ∧ toks.length ≤ 199 ∧ Parsed toks ns ∧ Walked ns ∧ ValAt none bs ns 0 k a ∧ k ≤ 19999

set_option maxRecDepth 100000 in
set_option maxHeartbeats 4000000 in
theorem worth_any {w : World} {ws : Value} {bs : List Bd} {src : ByteArray} {a : Arr} (hst : Std w) (hws : WsAt w ws bs) (hok : WsOk bs) (hl : LineOf src bs a) :
    Calls Tryz.prog 17 #[ws, .string src] w fun e w' => ∃ v, e = .returned (.tuple #[v, .bool true]) ∧ IsArr w' v a ∧ Below w.heap.size w w' := by
  obtain ⟨hs, toks, ns, k, hlx, htl, hp, hwk, hV, hk⟩ := hl
  have hb0 := below_one w (.cells #[.bool false, .slice none 0 0, .slice none 0 0] 25)
  have hx4 := Box.new w 25 #[.bool false, .slice none 0 0, .slice none 0 0]
  have hmx := mixedZ
  have H := Lib.hid (And.intro hst (And.intro hws (And.intro hok (And.intro hs (And.intro hlx (And.intro htl (And.intro hp (And.intro hwk (And.intro hV hk)))))))))
  obtain ⟨N, hN⟩ : ∃ N, N = toks.length := ⟨_, rfl⟩
  have HN := Lib.hid hN
  obtain ⟨M, hM⟩ : ∃ M, M = ns.length := ⟨_, rfl⟩
  have HM := Lib.hid hM
  clear hst hws hok hs hlx htl hp hwk hV hk hN hM
  obtain ⟨A0, c0, rfl, -, -⟩ := id H.out.2.1
  go_enter Tryz.func17, Tryz.ntmps17
  go_wp2_with fail
  refine (read_any (H.out.1.below hb0) H.out.2.2.2.1 H.out.2.2.2.2.1 H.out.2.2.2.2.2.1).mono ?_
  rintro e w1 ⟨A1, c1, rfl, ho1, hb1⟩
  rw [← HN.out] at ho1 ⊢
  have HO1 := Lib.hid ho1
  have hbw1 := hb0.trans (hb1.mono hb0.size)
  have x1 := hx4.below hb1
  clear hb1 ho1 hx4 hb0
  go_wp2_with fail
  refine (parse_any (H.out.1.below hbw1) H.out.2.2.2.2.2.2.1 HN.out HO1.out).mono ?_
  rintro e w2 ⟨tv, rfl, ht2, hb2⟩
  obtain ⟨g, c2, rfl, hg, hnd⟩ := ht2.at_ (by have := H.out.2.2.2.2.2.2.2.1.head; obtain ⟨x, hx, -⟩ := this; exact (List.getElem?_eq_some_iff.1 hx).1) H.out.2.2.2.2.2.2.2.1.few
  have HND := Lib.hid hnd
  have hbw2 := hbw1.trans (hb2.mono hbw1.size)
  have x2 := x1.below hb2
  have HC := Lib.hid (value_any (f := 19999 - k) (F := 20000) (H.out.1.below hbw2) (H.out.2.1.below hbw2) H.out.2.2.1 (by have := H.out.1.low; have := hbw2.size; omega) HND.out H.out.2.2.2.2.2.2.2.1 H.out.2.2.2.2.2.2.2.2.1 (by have := H.out.2.2.2.2.2.2.2.2.2; omega) (by omega))
  rw [← HM.out] at HC ⊢
  clear hb2 ht2 hnd x1 hbw1
  go_wp2_with fail
  refine HC.out.mono ?_
  rintro e w3 ⟨v, rfl, hv, hb3⟩
  obtain ⟨A3, ca3, D3, cd3, rfl, -, -⟩ := hv.open_
  have HV := Lib.hid hv
  have x3 := x2.below hb3
  have hbw3 := hbw2.trans (hb3.mono hbw2.size)
  clear hb3 hv x2 hbw2 HC
  have x4 := x3.alloc (.cells #[.bool a.ch, .slice A3 a.sh.length ca3, .slice D3 a.da.length cd3] 25)
  obtain ⟨z0, z1, z2⟩ := x4.three
  have zf := x4.frozen
  have zl := x4.lt
  have HB4 := Lib.hid (hbw3.alloc hbw3.size (.cells #[.bool a.ch, .slice A3 a.sh.length ca3, .slice D3 a.da.length cd3] 25))
  have X4 := Lib.hid x4
  go_wp2_with fail
  go_region
  all_goals go_wp2_with fail
  refine bodyPost_ret (v := .tuple #[.agg #[.bool a.ch, .slice A3 a.sh.length ca3, .slice D3 a.da.length cd3], .bool true]) (by simp [results, Tryz.results17, go_sem, zl, z0, z1, z2]; first | done | rfl | exact ⟨rfl, rfl, rfl⟩) rfl ?_
  refine ⟨_, rfl, (IsArr.stored (IsArr.mono HV.out (below_one w3 (.cells #[.bool a.ch, .slice A3 a.sh.length ca3, .slice D3 a.da.length cd3] 25))) X4.out _ _ _).mono (Below.refl _ _).drew, ?_⟩
  exact (((HB4.out.setCell (p := ⟨w.heap.size, 0, none⟩) (Nat.le_refl _) _).setCell (p := ⟨w.heap.size, 1, none⟩) (Nat.le_refl _) _).setCell (p := ⟨w.heap.size, 2, none⟩) (Nat.le_refl _) _).drew

set_option maxRecDepth 100000 in
set_option maxHeartbeats 4000000 in
theorem tells_any {w : World} {ws va : Value} {bs : List Bd} {src : ByteArray} {a b : Arr} (hst : Std w) (hws : WsAt w ws bs) (hok : WsOk bs) (hl : LineOf src bs a) (hb : IsArr w va b) :
    Calls Tryz.prog 8 #[ws, .string src, va] w (TellsB (a = b) w) := by
  obtain ⟨A, ca, D, cd, rfl, -, -⟩ := hb.open_
  obtain ⟨A0, c0, rfl, -, -⟩ := id hws
  have hb0 := below_one w (.cells #[.bool b.ch, .slice A b.sh.length ca, .slice D b.da.length cd] 25)
  have hx5 := Box.new w 25 #[.bool b.ch, .slice A b.sh.length ca, .slice D b.da.length cd]
  have HC := Lib.hid (worth_any (hst.below hb0) (hws.below hb0) hok hl)
  have HB := Lib.hid hb
  clear hst hws hok hl hb
  go_enter Tryz.func8, Tryz.ntmps8
  go_wp2_with fail
  refine HC.out.mono ?_
  rintro e w1 ⟨v, rfl, hv, hb1⟩
  obtain ⟨A3, ca3, D3, cd3, rfl, -, -⟩ := hv.open_
  have HV := Lib.hid (hv.mono (below_one w1 (.cells #[.bool a.ch, .slice A3 a.sh.length ca3, .slice D3 a.da.length cd3] 25)))
  have x5 := (hx5.below hb1).alloc (.cells #[.bool a.ch, .slice A3 a.sh.length ca3, .slice D3 a.da.length cd3] 25)
  have hbw1 := (hb0.trans (hb1.mono hb0.size)).alloc (Nat.le_trans hb0.size hb1.size |> fun h => by have := hb0.size; have := hb1.size; omega) (.cells #[.bool a.ch, .slice A3 a.sh.length ca3, .slice D3 a.da.length cd3] 25)
  have HB1 := Lib.hid (HB.out.mono hbw1)
  obtain ⟨z0, z1, z2⟩ := x5.three
  have zl := x5.lt
  clear hb1 hv hx5 hb0
  go_wp2_with fail
  refine (array_any _ _ _ _ _ HV.out HB1.out).mono ?_
  rintro e w2 ⟨r, rfl, hr, hb2⟩
  have HR := Lib.hid hr
  have hbw2 := hbw1.trans (hb2.mono hbw1.size)
  clear hr hb2 x5 z0 z1 z2 zl
  cases r
  all_goals
    go_wp2_with fail
    go_ret
    exact ⟨_, rfl, by simpa using HR.out, hbw2⟩

end Go.Proofs.YtihndbkaoejnnaaGreatDoor

namespace Go.Proofs.YtihndbkaoejnnaaGreatDoor
open Go Go.RowKit Go.Proofs.YtihndbkaoejnnaaGreatDoor.P

theorem bind_any {w : World} {s : ByteArray} {b : Bool} {A D : Option Addr} {n c m d : Nat} : Calls Tryz.prog 13 #[.string s, .agg #[.bool b, .slice A n c, .slice D m d]] w fun e w' => e = .returned (.agg #[.string s, .bool b, .slice A n c, .slice D m d]) ∧ Below w.heap.size w w' := by
  go_enter Tryz.func13, Tryz.ntmps13
  go_wp2_with fail
  refine bodyPost_ret (v := .agg #[.string s, .bool b, .slice A n c, .slice D m d]) (by simp [results, Tryz.results13, go_sem]) rfl ?_
  exact ⟨rfl, below_two w _ _⟩

theorem wsAt_nil (w : World) : WsAt w (.slice none 0 0) [] := ⟨none, 0, rfl, Nat.le_refl _, fun i b h => by simp at h⟩
theorem wsOk_nil : WsOk [] := ⟨by simp, fun i b h => by simp at h, fun i b h => by simp at h, fun i b h => by simp at h⟩
theorem wsAt_one {w : World} {g c n m d : Nat} {s : ByteArray} {a : Arr} {A D : Option Addr} (hb : Box w g 35 #[.string s, .bool a.ch, .slice A n c, .slice D m d]) (ha : IsArr w (.agg #[.bool a.ch, .slice A n c, .slice D m d]) a) : WsAt w (.slice (some ⟨g, 0, none⟩) 1 1) [(s, a)] := by
  refine ⟨some ⟨g, 0, none⟩, 1, rfl, by simp, fun i b h => ?_⟩
  have hi := (List.getElem?_eq_some_iff.1 h).1
  simp at hi
  subst hi
  simp at h
  subst h
  exact ⟨g, rfl, hb.lt, _, _, hb.cell 0, hb.cell 1, hb.cell 2, hb.cell 3, ha.shapeOf, ha.dataOf⟩
theorem wsOk_one {s : ByteArray} {a : Arr} {t : List Nat} (hs : NameOk s) (ha : Ok a t) : WsOk [(s, a)] := by
  have key : ∀ (i : Nat) (b : Bd), [(s, a)][i]? = some b → i = 0 ∧ b = (s, a) := fun i b h => by
    have hi := (List.getElem?_eq_some_iff.1 h).1
    simp at hi
    subst hi
    simp at h
    exact ⟨rfl, h.symm⟩
  refine ⟨by simp, fun i b h => ?_, fun i b h => ?_, fun i b h => ?_⟩
  · obtain ⟨rfl, rfl⟩ := key i b h
    exact hs
  · obtain ⟨rfl, rfl⟩ := key i b h
    simp
  · obtain ⟨rfl, rfl⟩ := key i b h
    exact ⟨t, ha⟩
theorem bd_one (s : ByteArray) (a : Arr) : ∃ i, [(s, a)][i]? = some (s, a) ∧ ∀ x ∈ [(s, a)].take i, x.1 ≠ s := ⟨0, rfl, by simp⟩

/-- Of whatever, so much is true. -/
def TrueB (w : World) (e : Ending) (w' : World) : Prop := e = .returned (.bool true) ∧ Below w.heap.size w w'
theorem tells_true {w : World} {ws va : Value} {bs : List Bd} {src : ByteArray} {a b : Arr} (hst : Std w) (hws : WsAt w ws bs) (hok : WsOk bs) (hl : LineOf src bs a) (hb : IsArr w va b) (he : a = b) :
    Calls Tryz.prog 8 #[ws, .string src, va] w (TrueB w) := (tells_any hst hws hok hl hb).mono fun e w' ⟨r, h1, h2, h3⟩ => ⟨by rw [h1, h2.2 he], h3⟩

end Go.Proofs.YtihndbkaoejnnaaGreatDoor

namespace Go.Proofs.YtihndbkaoejnnaaGreatDoor
open Go Go.RowKit Go.Proofs.YtihndbkaoejnnaaGreatDoor.P

set_option maxRecDepth 100000 in
theorem num_is {w : World} {x : Int} : Calls Tryz.prog 9 #[.int .i64 x] w fun e w' => ∃ v, e = .returned v ∧ IsArr w' v ⟨false, [], [x]⟩ ∧ Below w.heap.size w w' := by
  have hx := (Box.new w 25 #[.bool false, .slice none 0 0, .slice none 0 0]).alloc (.cells #[.int .i64 x] 3)
  obtain ⟨z0, z1, z2⟩ := hx.three
  have zl := hx.lt
  clear hx
  go_enter Tryz.func9, Tryz.ntmps9
  go_wp2_with fail
  have z := (Box.new w 25 #[.bool false, .slice none 0 0, .slice (some ⟨w.heap.size + 1, 0, none⟩) 1 1]).alloc (.cells #[.int .i64 x] 3)
  obtain ⟨y0, y1, y2⟩ := z.three
  have yl := z.lt
  refine bodyPost_ret (v := .agg #[.bool false, .slice none 0 0, .slice (some ⟨w.heap.size + 1, 0, none⟩) 1 1]) (by simp [results, Tryz.results9, go_sem, y0, y1, y2, yl]; first | done | rfl | exact ⟨rfl, rfl, rfl⟩) rfl ?_
  exact ⟨_, rfl, ⟨_, _, rfl, isInts_nil _, by simpa using isInts_one (w.alloc (.cells #[.bool false, .slice none 0 0, .slice (some ⟨w.heap.size + 1, 0, none⟩) 1 1] 25)) x⟩, below_two w _ _⟩

end Go.Proofs.YtihndbkaoejnnaaGreatDoor

namespace Go.Proofs.YtihndbkaoejnnaaGreatDoor
open Go Go.RowKit Go.Proofs.YtihndbkaoejnnaaGreatDoor.P

/-- The plain function of one part answers this. -/
def PlainOne (f : Int) (a b : Arr) : Prop := ∀ (w : World) (v : Value), IsArr w v a → Calls Tryz.prog 150 #[.int .i64 f, v] w (GivesOkN b w)
theorem rank_one {a : Arr} {n : Nat} (h : Ok a [n]) : a.sh.length = 1 := by rw [h.sh]; rfl
end Go.Proofs.YtihndbkaoejnnaaGreatDoor

namespace Go.Proofs.YtihndbkaoejnnaaGreatDoor
open Go Go.RowKit Go.Proofs.YtihndbkaoejnnaaGreatDoor.P

theorem arrAt_new {w : World} {B : Nat} {S : Nat → Prop} {v : Value} {a : Arr} (h : IsArr w v a) (hn : NewV B v) (hS : ∀ x, S x → x < B) : ArrAt w S v a := by
  obtain ⟨A, ca, D, cd, rfl, h1, h2⟩ := h.open_
  obtain ⟨b, A', n, c, D', m, d, e, n1, n2⟩ := hn
  injection e with e
  injection e with e
  injection e with _ e
  injection e with e1 e
  injection e with e2 _
  rw [← e1] at n1
  rw [← e2] at n2
  refine ⟨A, ca, D, cd, rfl, h1, h2, fun ad e _ hs => ?_, fun ad e _ hs => ?_⟩
  · have := n1 ad.block (by rw [e]; rfl)
    have := hS _ hs
    omega
  · have := n2 ad.block (by rw [e]; rfl)
    have := hS _ hs
    omega

set_option maxRecDepth 100000 in
set_option maxHeartbeats 4000000 in
theorem one_plain {f : Int} {a b : Arr} (hE : arrErr a = 0) (hRK : a.sh.length = 0 ∨ a.sh.length = 1 ∨ a.sh.length = 2) (hK : ∀ W, Calls Tryz.prog 148 #[.agg #[.int .i64 0, .int .i64 f, .int .i64 0]] W (Yes W)) (hP : PlainOne f a b) : ActOne 0 f 0 a b := by
  have HE := Lib.hid hE
  have HK := Lib.hid hK
  have HP := Lib.hid hP
  have HRK := Lib.hid hRK
  clear hE hK hP hRK
  intro w S v hst hv hS
  have HSS := Lib.hid hS
  have ha := hv.isArr
  clear hv hS
  obtain ⟨A, ca, D, cd, rfl, -, -⟩ := ha.open_
  have hx2 := ((Box.new w 99 #[.int .i64 0, .int .i64 f, .int .i64 0]).alloc (.cells #[.bool a.ch, .slice A a.sh.length ca, .slice D a.da.length cd] 25)).alloc (.cells #[.bool false, .slice none 0 0, .slice none 0 0] 25)
  have hx3 := (Box.new (w.alloc (.cells #[.int .i64 0, .int .i64 f, .int .i64 0] 99)) 25 #[.bool a.ch, .slice A a.sh.length ca, .slice D a.da.length cd]).alloc (.cells #[.bool false, .slice none 0 0, .slice none 0 0] 25)
  have hx4 := Box.new ((w.alloc (.cells #[.int .i64 0, .int .i64 f, .int .i64 0] 99)).alloc (.cells #[.bool a.ch, .slice A a.sh.length ca, .slice D a.da.length cd] 25)) 25 #[.bool false, .slice none 0 0, .slice none 0 0]
  simp only [World.size_alloc] at hx3 hx4
  have hbw := below_three w (.cells #[.int .i64 0, .int .i64 f, .int .i64 0] 99) (.cells #[.bool a.ch, .slice A a.sh.length ca, .slice D a.da.length cd] 25) (.cells #[.bool false, .slice none 0 0, .slice none 0 0] 25)
  have HIN := Lib.hid ha
  clear ha
  go_enter Tryz.func124, Tryz.ntmps124
  go_wp2_with fail
  refine (HK.out _).mono ?_
  rintro e w1 ⟨rfl, hb1⟩
  have x2 := hx2.below hb1
  have x3 := hx3.below hb1
  have x4 := hx4.below hb1
  have hbw1 := hbw.trans (hb1.mono hbw.size)
  obtain ⟨u0, u1, u2⟩ := x3.three
  have ul := x3.lt
  have HA1 := Lib.hid (HIN.out.mono hbw1)
  clear hb1 hx2 hx3 hx4 hbw
  go_wp2_with fail
  refine (check_any _ a _ HA1.out).mono ?_
  rintro e w2 ⟨rfl, hb2⟩
  rw [HE.out]
  have y2 := x2.below hb2
  have y3 := x3.below hb2
  have y4 := x4.below hb2
  have hbw2 := hbw1.trans (hb2.mono hbw1.size)
  clear hb2 x2 x3 x4 u0 u1 u2 ul hbw1 HA1
  obtain ⟨u0, u1, u2⟩ := y3.three
  have ul := y3.lt
  have HA2 := Lib.hid (HIN.out.mono hbw2)
  simp only [errV_zero]
  go_wp2_with fail
  refine (last_any HRK.out).mono ?_
  rintro e w3 ⟨rfl, hb3⟩
  have z2 := y2.below hb3
  have z3 := y3.below hb3
  have z4 := y4.below hb3
  have hbw3 := hbw2.trans (hb3.mono hbw2.size)
  clear hb3 y2 y3 y4 u0 u1 u2 ul hbw2 HA2
  obtain ⟨u0, u1, u2⟩ := z3.three
  obtain ⟨v0, v1, v2⟩ := z2.three
  have ul := z3.lt
  have vl := z2.lt
  have HA3 := Lib.hid (HIN.out.mono hbw3)
  go_wp2_with fail
  refine (HP.out _ _ HA3.out).mono ?_
  rintro e w4 ⟨r, rfl, hr, hb4, hn⟩
  obtain ⟨A2, c2, D2, d2, rfl, -, -⟩ := hr.open_
  have HNV := Lib.hid (hn.low (B' := w.heap.size) hbw3.size)
  have HRA := Lib.hid hr
  have x5 := z4.below hb4
  have hbw4 := hbw3.trans (hb4.mono hbw3.size)
  obtain ⟨q0, q1, q2⟩ := x5.three
  have qf := x5.frozen
  have ql := x5.lt
  clear hb4 z2 z3 z4 u0 u1 u2 ul v0 v1 v2 vl hn hr hbw3 HA3
  go_wp2_with fail
  refine bodyPost_ret (v := .tuple #[.agg #[.bool b.ch, .slice A2 b.sh.length c2, .slice D2 b.da.length d2], .nilIface]) (by simp [results, Tryz.results124, go_sem, ql, q0, q1, q2]; first | done | rfl | exact ⟨rfl, rfl, rfl⟩) rfl ?_
  exact ⟨_, rfl, arrAt_new (HRA.out.stored x5 _ _ _) HNV.out HSS.out, by have := hbw4.size; go_grown⟩

set_option maxRecDepth 100000 in
set_option maxHeartbeats 4000000 in
theorem one_over {f : Int} {a b : Arr} {n : Nat} (h : Ok a [n]) (hK : ∀ W, Calls Tryz.prog 148 #[.agg #[.int .i64 1, .int .i64 f, .int .i64 0]] W (Yes W)) (hP : ∀ (W : World) (v : Value), IsArr W v a → Calls Tryz.prog 11 #[.int .i64 f, .int .i64 0, v] W (GivesOkN b W)) : ActOne 1 f 0 a b := by
  have HE := Lib.hid (arrErr_ok h)
  have HK := Lib.hid hK
  have HP := Lib.hid hP
  have HR := Lib.hid (rank_one h)
  clear hK hP h
  intro w S v hst hv hS
  have HSS := Lib.hid hS
  have ha := hv.isArr
  clear hv hS
  obtain ⟨A, ca, D, cd, rfl, -, -⟩ := ha.open_
  rw [show a.sh.length = 1 from HR.out] at ha ⊢
  have hx2 := ((Box.new w 99 #[.int .i64 1, .int .i64 f, .int .i64 0]).alloc (.cells #[.bool a.ch, .slice A 1 ca, .slice D a.da.length cd] 25)).alloc (.cells #[.bool false, .slice none 0 0, .slice none 0 0] 25)
  have hx3 := (Box.new (w.alloc (.cells #[.int .i64 1, .int .i64 f, .int .i64 0] 99)) 25 #[.bool a.ch, .slice A 1 ca, .slice D a.da.length cd]).alloc (.cells #[.bool false, .slice none 0 0, .slice none 0 0] 25)
  have hx4 := Box.new ((w.alloc (.cells #[.int .i64 1, .int .i64 f, .int .i64 0] 99)).alloc (.cells #[.bool a.ch, .slice A 1 ca, .slice D a.da.length cd] 25)) 25 #[.bool false, .slice none 0 0, .slice none 0 0]
  simp only [World.size_alloc] at hx3 hx4
  have hbw := below_three w (.cells #[.int .i64 1, .int .i64 f, .int .i64 0] 99) (.cells #[.bool a.ch, .slice A 1 ca, .slice D a.da.length cd] 25) (.cells #[.bool false, .slice none 0 0, .slice none 0 0] 25)
  have HIN := Lib.hid ha
  clear ha
  go_enter Tryz.func124, Tryz.ntmps124
  go_wp2_with fail
  refine (HK.out _).mono ?_
  rintro e w1 ⟨rfl, hb1⟩
  have x2 := hx2.below hb1
  have x3 := hx3.below hb1
  have x4 := hx4.below hb1
  have hbw1 := hbw.trans (hb1.mono hbw.size)
  obtain ⟨u0, u1, u2⟩ := x3.three
  have ul := x3.lt
  have HA1 := Lib.hid (HIN.out.mono hbw1)
  clear hb1 hx2 hx3 hx4 hbw
  go_wp2_with fail
  refine (check_any _ a _ HA1.out).mono ?_
  rintro e w2 ⟨rfl, hb2⟩
  rw [HE.out]
  have y2 := x2.below hb2
  have y3 := x3.below hb2
  have y4 := x4.below hb2
  have hbw2 := hbw1.trans (hb2.mono hbw1.size)
  clear hb2 x2 x3 x4 u0 u1 u2 ul hbw1 HA1
  obtain ⟨u0, u1, u2⟩ := y3.three
  have ul := y3.lt
  have HA2 := Lib.hid (HIN.out.mono hbw2)
  simp only [errV_zero]
  go_wp2_with fail
  refine (last_any (by omega)).mono ?_
  rintro e w3 ⟨rfl, hb3⟩
  have z2 := y2.below hb3
  have z3 := y3.below hb3
  have z4 := y4.below hb3
  have hbw3 := hbw2.trans (hb3.mono hbw2.size)
  clear hb3 y2 y3 y4 u0 u1 u2 ul hbw2 HA2
  obtain ⟨u0, u1, u2⟩ := z3.three
  obtain ⟨v0, v1, v2⟩ := z2.three
  have ul := z3.lt
  have vl := z2.lt
  have HA3 := Lib.hid (HIN.out.mono hbw3)
  go_wp2_with fail
  refine (HP.out _ _ HA3.out).mono ?_
  rintro e w4 ⟨r, rfl, hr, hb4, hn⟩
  obtain ⟨A2, c2, D2, d2, rfl, -, -⟩ := hr.open_
  have HNV := Lib.hid (hn.low (B' := w.heap.size) hbw3.size)
  have HRA := Lib.hid hr
  have x5 := z4.below hb4
  have hbw4 := hbw3.trans (hb4.mono hbw3.size)
  obtain ⟨q0, q1, q2⟩ := x5.three
  have qf := x5.frozen
  have ql := x5.lt
  clear hb4 z2 z3 z4 u0 u1 u2 ul v0 v1 v2 vl hn hr hbw3 HA3
  go_wp2_with fail
  refine bodyPost_ret (v := .tuple #[.agg #[.bool b.ch, .slice A2 b.sh.length c2, .slice D2 b.da.length d2], .nilIface]) (by simp [results, Tryz.results124, go_sem, ql, q0, q1, q2]; first | done | rfl | exact ⟨rfl, rfl, rfl⟩) rfl ?_
  exact ⟨_, rfl, arrAt_new (HRA.out.stored x5 _ _ _) HNV.out HSS.out, by have := hbw4.size; go_grown⟩

end Go.Proofs.YtihndbkaoejnnaaGreatDoor

namespace Go.Proofs.YtihndbkaoejnnaaGreatDoor
open Go Go.RowKit Go.Proofs.YtihndbkaoejnnaaGreatDoor.P

/-- What prim's functions of two parts answer. -/
def BothTwo (f : Int) (a1 a2 b : Arr) : Prop := ∀ (w : World) (v1 v2 : Value), IsArr w v1 a1 → IsArr w v2 a2 → Calls Tryz.prog 147 #[.int .i64 f, v1, v2] w (GivesOkN b w)
set_option maxRecDepth 100000 in
set_option maxHeartbeats 8000000 in
theorem two_both {f : Int} {a1 a2 b : Arr} (hE1 : arrErr a1 = 0) (hE2 : arrErr a2 = 0) (hf : f = 1 ∨ f = 2 ∨ f = 3 ∨ f = 8 ∨ f = 19 ∨ f = 24) (hK : ∀ W, Calls Tryz.prog 139 #[.agg #[.int .i64 0, .int .i64 f, .int .i64 0]] W (Yes W)) (hP : BothTwo f a1 a2 b) : ActTwo 0 f 0 a1 a2 b := by
  have HE1 := Lib.hid hE1
  have HE2 := Lib.hid hE2
  have HK := Lib.hid hK
  have HP := Lib.hid hP
  have hmx := mixedZ
  have HF := Lib.hid hf
  clear hE1 hE2 hK hP hf
  intro w S v1 v2 hst hv1 hv2 hS
  have HSS := Lib.hid hS
  have ha := hv1.isArr
  have hb := hv2.isArr
  clear hv1 hv2 hS
  obtain ⟨A, ca, D, cd, rfl, -, -⟩ := ha.open_
  obtain ⟨A', ca', D', cd', rfl, -, -⟩ := hb.open_
  have hx2 := (((Box.new w 99 #[.int .i64 0, .int .i64 f, .int .i64 0]).alloc (.cells #[.bool a1.ch, .slice A a1.sh.length ca, .slice D a1.da.length cd] 25)).alloc (.cells #[.bool a2.ch, .slice A' a2.sh.length ca', .slice D' a2.da.length cd'] 25)).alloc (.cells #[.bool false, .slice none 0 0, .slice none 0 0] 25)
  have hx3 := ((Box.new (w.alloc (.cells #[.int .i64 0, .int .i64 f, .int .i64 0] 99)) 25 #[.bool a1.ch, .slice A a1.sh.length ca, .slice D a1.da.length cd]).alloc (.cells #[.bool a2.ch, .slice A' a2.sh.length ca', .slice D' a2.da.length cd'] 25)).alloc (.cells #[.bool false, .slice none 0 0, .slice none 0 0] 25)
  have hx4 := (Box.new ((w.alloc (.cells #[.int .i64 0, .int .i64 f, .int .i64 0] 99)).alloc (.cells #[.bool a1.ch, .slice A a1.sh.length ca, .slice D a1.da.length cd] 25)) 25 #[.bool a2.ch, .slice A' a2.sh.length ca', .slice D' a2.da.length cd']).alloc (.cells #[.bool false, .slice none 0 0, .slice none 0 0] 25)
  have hx5 := Box.new (((w.alloc (.cells #[.int .i64 0, .int .i64 f, .int .i64 0] 99)).alloc (.cells #[.bool a1.ch, .slice A a1.sh.length ca, .slice D a1.da.length cd] 25)).alloc (.cells #[.bool a2.ch, .slice A' a2.sh.length ca', .slice D' a2.da.length cd'] 25)) 25 #[.bool false, .slice none 0 0, .slice none 0 0]
  simp only [World.size_alloc] at hx3 hx4 hx5
  have hbw := (below_three w (.cells #[.int .i64 0, .int .i64 f, .int .i64 0] 99) (.cells #[.bool a1.ch, .slice A a1.sh.length ca, .slice D a1.da.length cd] 25) (.cells #[.bool a2.ch, .slice A' a2.sh.length ca', .slice D' a2.da.length cd'] 25)).alloc (by simp; omega) (.cells #[.bool false, .slice none 0 0, .slice none 0 0] 25)
  have HINA := Lib.hid ha
  have HINB := Lib.hid hb
  clear ha hb
  have i0 : ∀ w, (Instr.index 209 (.agg #[.bool a1.ch, .slice A a1.sh.length ca, .slice D a1.da.length cd, .bool a2.ch, .slice A' a2.sh.length ca', .slice D' a2.da.length cd']) (.int .i64 0)).run Tryz.prog w = .ok (.agg #[.bool a1.ch, .slice A a1.sh.length ca, .slice D a1.da.length cd]) w := fun _ => by kernel_rfl
  have i1 : ∀ w, (Instr.index 209 (.agg #[.bool a1.ch, .slice A a1.sh.length ca, .slice D a1.da.length cd, .bool a2.ch, .slice A' a2.sh.length ca', .slice D' a2.da.length cd']) (.int .i64 1)).run Tryz.prog w = .ok (.agg #[.bool a2.ch, .slice A' a2.sh.length ca', .slice D' a2.da.length cd']) w := fun _ => by kernel_rfl
  go_enter Tryz.func123, Tryz.ntmps123
  go_wp2_with fail
  refine (HK.out _).mono ?_
  rintro e w1 ⟨rfl, hb1⟩
  have x2 := hx2.below hb1
  have x3 := hx3.below hb1
  have x4 := hx4.below hb1
  have x5 := hx5.below hb1
  have hbw1 := hbw.trans (hb1.mono hbw.size)
  obtain ⟨t0, t1, t2⟩ := x2.three
  obtain ⟨u0, u1, u2⟩ := x3.three
  obtain ⟨v0, v1, v2⟩ := x4.three
  have tl := x2.lt
  have ul := x3.lt
  have vl := x4.lt
  clear hb1 hx2 hx3 hx4 hx5 hbw
  go_wp2_with fail
  clear t0 t1 t2 u0 u1 u2 v0 v1 v2 tl ul vl
  go_loopw [38] (fun s wr => ∃ m : Nat, m ≤ 2 ∧ s = .int .i64 m ∧ Below w1.heap.size w1 wr) (fun s _ => 2 - (intOf s).toNat)
  case atStart => exact ⟨0, by omega, rfl, Below.refl _ _⟩
  case round =>
    obtain ⟨m, hm, rfl, hbl⟩ := hrel
    have y2 := x2.below hbl
    have y3 := x3.below hbl
    have y4 := x4.below hbl
    have y5 := x5.below hbl
    have hbw2 := hbw1.trans (hbl.mono hbw1.size)
    have HBL := Lib.hid hbl
    have HAW := Lib.hid (HINA.out.mono hbw2)
    have HBW := Lib.hid (HINB.out.mono hbw2)
    clear hbl
    rcases (show m = 0 ∨ m = 1 ∨ m = 2 by omega) with rfl | rfl | rfl
    · clear hm
      simp only [Int.ofNat_zero, Int.natCast_zero]
      go_wp2_with fail
      refine (check_any _ a1 _ (HAW.out.mono (below_one _ _))).mono ?_
      rintro e w3 ⟨rfl, hb3⟩
      rw [HE1.out]
      have hb4 := (below_one wr (.cells #[.bool a1.ch, .slice A a1.sh.length ca, .slice D a1.da.length cd] 25)).trans (hb3.mono (by simp))
      have HB4 := Lib.hid (HBL.out.trans (hb4.mono HBL.out.size))
      clear hb3 hb4 y2 y3 y4 y5 hbw2
      simp only [errV_zero]
      go_wp2_with fail
      go_roundw
      case rel => exact ⟨1, by omega, by go_num, HB4.out⟩
      case measure => simp [intOf]
    · clear hm
      simp only [Int.natCast_one]
      go_wp2_with fail
      refine (check_any _ a2 _ (HBW.out.mono (below_one _ _))).mono ?_
      rintro e w3 ⟨rfl, hb3⟩
      rw [HE2.out]
      have hb4 := (below_one wr (.cells #[.bool a2.ch, .slice A' a2.sh.length ca', .slice D' a2.da.length cd'] 25)).trans (hb3.mono (by simp))
      have HB4 := Lib.hid (HBL.out.trans (hb4.mono HBL.out.size))
      clear hb3 hb4 y2 y3 y4 y5 hbw2
      simp only [errV_zero]
      go_wp2_with fail
      go_roundw
      case rel => exact ⟨2, by omega, by go_num, HB4.out⟩
      case measure => simp [intOf]
    · clear hm i0 i1
      obtain ⟨t0, t1, t2⟩ := y2.three
      obtain ⟨u0, u1, u2⟩ := y3.three
      obtain ⟨v0, v1, v2⟩ := y4.three
      have tl := y2.lt
      have ul := y3.lt
      have vl := y4.lt
      clear x2 x3 x4 x5 hbw1 hmx
      rcases HF.out with rfl | rfl | rfl | rfl | rfl | rfl
      all_goals
        go_wp2_with fail
        refine (HP.out _ _ _ HAW.out HBW.out).mono ?_
        rintro e w4 ⟨r, rfl, hr, hb4, hn⟩
        obtain ⟨A2, c2, D2, d2, rfl, -, -⟩ := hr.open_
        have HNV := Lib.hid (hn.low (B' := w.heap.size) hbw2.size)
        have HRA := Lib.hid hr
        have x6 := y5.below hb4
        have hbw4 := hbw2.trans (hb4.mono hbw2.size)
        obtain ⟨q0, q1, q2⟩ := x6.three
        have qf := x6.frozen
        have ql := x6.lt
        clear hb4 y2 y3 y4 y5 t0 t1 t2 u0 u1 u2 v0 v1 v2 tl ul vl hn hr hbw2
        go_wp2_with fail
        refine bodyPost_ret (v := .tuple #[.agg #[.bool b.ch, .slice A2 b.sh.length c2, .slice D2 b.da.length d2], .nilIface]) (by simp [results, Tryz.results123, go_sem, ql, q0, q1, q2]; first | done | rfl | exact ⟨rfl, rfl, rfl⟩) rfl ?_
        exact ⟨_, rfl, arrAt_new (HRA.out.stored x6 _ _ _) HNV.out HSS.out, by have := hbw4.size; go_grown⟩

end Go.Proofs.YtihndbkaoejnnaaGreatDoor

namespace Go.Proofs.YtihndbkaoejnnaaGreatDoor
open Go Go.RowKit Go.Proofs.YtihndbkaoejnnaaGreatDoor.P

set_option maxRecDepth 100000 in
set_option maxHeartbeats 8000000 in
theorem both_cells {f : Int} {a1 a2 b : Arr} (hf : f = 1 ∨ f = 2 ∨ f = 3 ∨ f = 8) (hP : ∀ (W : World) (v1 v2 : Value), IsArr W v1 a1 → IsArr W v2 a2 → Calls Tryz.prog 191 #[.int .i64 f, v1, v2] W (GivesOkN b W)) : BothTwo f a1 a2 b := by
  have HP := Lib.hid hP
  clear hP
  intro w v1 v2 ha hb
  obtain ⟨A, ca, D, cd, rfl, -, -⟩ := ha.open_
  obtain ⟨A', ca', D', cd', rfl, -, -⟩ := hb.open_
  have hx3 := ((Box.new w 25 #[.bool a1.ch, .slice A a1.sh.length ca, .slice D a1.da.length cd]).alloc (.cells #[.bool a2.ch, .slice A' a2.sh.length ca', .slice D' a2.da.length cd'] 25)).alloc (.cells #[.bool false, .slice none 0 0, .slice none 0 0] 25)
  have hx4 := (Box.new (w.alloc (.cells #[.bool a1.ch, .slice A a1.sh.length ca, .slice D a1.da.length cd] 25)) 25 #[.bool a2.ch, .slice A' a2.sh.length ca', .slice D' a2.da.length cd']).alloc (.cells #[.bool false, .slice none 0 0, .slice none 0 0] 25)
  have hx5 := Box.new ((w.alloc (.cells #[.bool a1.ch, .slice A a1.sh.length ca, .slice D a1.da.length cd] 25)).alloc (.cells #[.bool a2.ch, .slice A' a2.sh.length ca', .slice D' a2.da.length cd'] 25)) 25 #[.bool false, .slice none 0 0, .slice none 0 0]
  simp only [World.size_alloc] at hx4 hx5
  have hbw := below_three w (.cells #[.bool a1.ch, .slice A a1.sh.length ca, .slice D a1.da.length cd] 25) (.cells #[.bool a2.ch, .slice A' a2.sh.length ca', .slice D' a2.da.length cd'] 25) (.cells #[.bool false, .slice none 0 0, .slice none 0 0] 25)
  have HAW := Lib.hid (ha.mono hbw)
  have HBW := Lib.hid (hb.mono hbw)
  obtain ⟨u0, u1, u2⟩ := hx3.three
  obtain ⟨v0, v1, v2⟩ := hx4.three
  clear ha hb
  rcases hf with rfl | rfl | rfl | rfl
  all_goals
    go_enter Tryz.func147, Tryz.ntmps147
    go_wp2_with fail
    refine (HP.out _ _ _ HAW.out HBW.out).mono ?_
    rintro e w4 ⟨r, rfl, hr, hb4, hn⟩
    obtain ⟨A2, c2, D2, d2, rfl, -, -⟩ := hr.open_
    have HNV := Lib.hid (hn.low (B' := w.heap.size) hbw.size)
    have HRA := Lib.hid hr
    have x6 := hx5.below hb4
    have hbw4 := hbw.trans (hb4.mono hbw.size)
    obtain ⟨q0, q1, q2⟩ := x6.three
    have qf := x6.frozen
    have ql := x6.lt
    clear hb4  u0 u1 u2 v0 v1 v2 hx3 hx4 hn hr
    go_wp2_with fail
    refine bodyPost_ret (v := .tuple #[.agg #[.bool b.ch, .slice A2 b.sh.length c2, .slice D2 b.da.length d2], .nilIface]) (by simp [results, Tryz.results147, go_sem, ql, q0, q1, q2]; first | done | rfl | exact ⟨rfl, rfl, rfl⟩) rfl ?_
    exact ⟨_, rfl, HRA.out.stored x6 _ _ _, by have := hbw4.size; go_grown, HNV.out⟩

end Go.Proofs.YtihndbkaoejnnaaGreatDoor

namespace Go.Proofs.YtihndbkaoejnnaaGreatDoor
open Go Go.RowKit Go.Proofs.YtihndbkaoejnnaaGreatDoor.P

set_option maxRecDepth 100000 in
set_option maxHeartbeats 4000000 in
theorem plain_iota {n : Nat} (hn4 : n ≤ 4096) : PlainOne 24 ⟨false, [], [(n : Int)]⟩ (firstNums n) := by
  have HIO := Lib.hid (fun W => iota_own n W hn4)
  have hHR : (⟨false, [], [(n : Int)]⟩ : Arr).sh.length = 0 := rfl
  intro w v ha
  obtain ⟨A, ca, D, cd, rfl, -, hd⟩ := ha.open_
  have HD := Lib.hid hd
  clear hd
  simp only [List.length_cons, List.length_nil, Nat.zero_add] at ha HD ⊢
  have hx3 := (Box.new w 25 #[.bool false, .slice A 0 ca, .slice D 1 cd]).alloc (.cells #[.bool false, .slice none 0 0, .slice none 0 0] 25)
  have hx4 := Box.new (w.alloc (.cells #[.bool false, .slice A 0 ca, .slice D 1 cd] 25)) 25 #[.bool false, .slice none 0 0, .slice none 0 0]
  rw [World.size_alloc] at hx4
  have hbw := below_two w (.cells #[.bool false, .slice A 0 ca, .slice D 1 cd] 25) (.cells #[.bool false, .slice none 0 0, .slice none 0 0] 25)
  obtain ⟨t0, t1, t2⟩ := hx3.three
  have HIN := Lib.hid ha
  clear ha
  go_enter Tryz.func150, Tryz.ntmps150
  go_wp2_with fail
  refine (last_any (by omega)).mono ?_
  rintro e w1 ⟨rfl, hb1⟩
  have x3 := hx3.below hb1
  have x4 := hx4.below hb1
  have hbw1 := hbw.trans (hb1.mono hbw.size)
  obtain ⟨u0, u1, u2⟩ := x3.three
  have ul := x3.lt
  have HA1 := Lib.hid (HIN.out.mono hbw1)
  clear hb1 hx3 hx4 t0 t1 t2 hbw
  go_wp2_with fail
  refine (numberP_any (show IsInts w1 (.slice D 1 cd) [(n : Int)] from HD.out.mono hbw1)).mono ?_
  rintro e w2 ⟨rfl, hb2⟩
  have x42 := x4.below hb2
  have hbw2 := hbw1.trans (hb2.mono hbw1.size)
  clear hb2 x4 u0 u1 u2 ul
  go_wp2_with fail
  refine (HIO.out _).mono ?_
  rintro e w3 ⟨S, cs, D3, cd3, rfl, ho1, ho2, hb3⟩
  have hIA : IsArr w3 (.agg #[.bool false, .slice S 1 cs, .slice D3 n cd3]) (firstNums n) := ⟨_, _, rfl, ho1.isInts, ho2.isInts⟩
  have HIA := Lib.hid hIA
  have HNV := Lib.hid (newV (b := false) (ho1.from_ hbw2.size) (ho2.from_ hbw2.size))
  have x43 := x42.below hb3
  have hbw3 := hbw2.trans (hb3.mono hbw2.size)
  obtain ⟨z0, z1, z2⟩ := x43.three
  have zf := x43.frozen
  have zl := x43.lt
  clear hb3 x42 ho1 ho2 hIA
  go_wp2_with fail
  refine bodyPost_ret (v := .tuple #[.agg #[.bool false, .slice S 1 cs, .slice D3 n cd3], .nilIface]) (by simp [results, Tryz.results150, go_sem, zl, z0, z1, z2]; first | done | rfl | exact ⟨rfl, rfl, rfl⟩) rfl ?_
  exact ⟨_, rfl, HIA.out.stored x43 _ _ _, by have := hbw3.size; go_grown, HNV.out⟩

end Go.Proofs.YtihndbkaoejnnaaGreatDoor
