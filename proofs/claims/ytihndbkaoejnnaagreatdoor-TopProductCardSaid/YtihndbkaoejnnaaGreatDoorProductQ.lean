/- What the card TopProduct leans on: EvalCheck. Conditions: none but those of its theorems. -/
import Derived.Test.YtihndbkaoejnnaaGreatDoorProductK
import Derived.Test.YtihndbkaoejnnaaGreatDoorProductP
import Derived.Test.YtihndbkaoejnnaaGreatDoorProductE
set_option linter.unusedSimpArgs false
set_option linter.unusedVariables false
namespace Go.Proofs.YtihndbkaoejnnaaGreatDoor
open Go Go.RowKit Go.Proofs.YtihndbkaoejnnaaGreatDoor.P

/-- A name, and the array that it stands for. -/
abbrev Bd := ByteArray × Arr
/-- The workspace's cells: each bind's name, its array. -/
def BindAt (w : World) (g o : Nat) (b : Bd) : Prop := ∃ s d, w.cell? ⟨g, o, none⟩ = some (.string b.1) ∧ w.cell? ⟨g, o + 1, none⟩ = some (.bool b.2.ch) ∧ w.cell? ⟨g, o + 2, none⟩ = some s ∧ w.cell? ⟨g, o + 3, none⟩ = some d ∧ IsInts w s b.2.sh ∧ IsInts w d b.2.da
theorem BindAt.below {w w' : World} {g o : Nat} {b : Bd} (h : BindAt w g o b) (hb : Below w.heap.size w w') : BindAt w' g o b := by
  obtain ⟨s, d, h0, h1, h2, h3, h4, h5⟩ := h
  have hl := World.block_lt_of_cell? w ⟨g, o, none⟩ h0
  exact ⟨s, d, (hb.cell (p := ⟨g, o, none⟩) hl).trans h0, (hb.cell (p := ⟨g, o + 1, none⟩) hl).trans h1, (hb.cell (p := ⟨g, o + 2, none⟩) hl).trans h2, (hb.cell (p := ⟨g, o + 3, none⟩) hl).trans h3, h4.mono hb, h5.mono hb⟩
/-- A workspace. -/
def WsAt (w : World) (v : Value) (bs : List Bd) : Prop := ∃ A c, v = .slice A bs.length c ∧ bs.length ≤ c ∧ ∀ (i : Nat) (b : Bd), bs[i]? = some b → ∃ g, A = some ⟨g, 0, none⟩ ∧ g < w.heap.size ∧ BindAt w g (i * 4) b
theorem WsAt.below {w w' : World} {v : Value} {bs : List Bd} (h : WsAt w v bs) (hb : Below w.heap.size w w') : WsAt w' v bs := by
  obtain ⟨A, c, e, hc, h⟩ := h
  exact ⟨A, c, e, hc, fun i b hi => by
    obtain ⟨g, e, hl, h1⟩ := h i b hi
    exact ⟨g, e, Nat.lt_of_lt_of_le hl hb.size, h1.below hb⟩⟩
/-- Nothing is wrong with these binds. -/
structure WsOk (bs : List Bd) : Prop where
  few : bs.length ≤ 20
  name : ∀ (i : Nat) (b : Bd), bs[i]? = some b → NameOk b.1
  once : ∀ (i : Nat) (b : Bd), bs[i]? = some b → ∀ x ∈ bs.take i, x.1 ≠ b.1
  ok : ∀ (i : Nat) (b : Bd), bs[i]? = some b → ∃ t, Ok b.2 t

theorem tabFind_none {s : ByteArray} {rows : List (ByteArray × Value)} {bs : List Bd} (h : rows.map (·.1) = bs.map (·.1)) (hn : ∀ x ∈ bs, x.1 ≠ s) : tabFind s rows = none := by
  induction rows generalizing bs with
  | nil => rfl
  | cons p l ih =>
    cases bs with
    | nil => simp at h
    | cons b r =>
      simp at h
      rw [tabFind, if_neg (fun e => hn b (by simp) (by rw [← h.1, e]))]
      exact ih h.2 (fun x hx => hn x (by simp [hx]))

theorem zero_int (w : World) : (zeroValue 3).run Tryz.prog w = .ok (.int .i64 0) w := by kernel_rfl

set_option maxRecDepth 100000 in
set_option maxHeartbeats 8000000 in
theorem evalCheck_any {v : Value} {bs : List Bd} {w : World} (hst : Std w) (hws : WsAt w v bs) (hok : WsOk bs) :
    Calls Tryz.prog 48 #[v] w fun e w' => e = .returned .nilIface ∧ Below w.heap.size w w' := by
  have hmk : ∀ w, (Instr.makeMap 122 none).run Tryz.prog w = .ok (.map (some w.heap.size)) (w.alloc (.map #[] 0)) := fun _ => by kernel_rfl
  obtain ⟨A, c, rfl, hnc, hbs⟩ := hws
  have HST := Lib.hid hst
  have HBS := Lib.hid hbs
  have HOK := Lib.hid hok
  obtain ⟨n, hn⟩ : ∃ n, n = bs.length := ⟨_, rfl⟩
  have hn20 : n ≤ 20 := by rw [hn]; exact hok.few
  rw [← hn] at hnc ⊢
  have HN := Lib.hid hn
  have hm0 := TabAt.made w
  have hb0 := below_one w (.map #[] 0)
  clear hst hbs hok hn
  go_enter Tryz.func48, Tryz.ntmps48
  go_wp2_with fail
  obtain ⟨W, hWe⟩ : ∃ W, W = w.alloc (.map #[] 0) := ⟨_, rfl⟩
  rw [← hWe] at hm0 hb0 ⊢
  clear hWe
  have HM0 := Lib.hid hm0
  have HB0 := Lib.hid hb0
  clear hm0 hb0
  go_loopw [18] (fun s18 wr => ∃ k : Nat, k ≤ n ∧ s18 = .int .i64 k ∧ Below w.heap.size w wr ∧ ∃ rows, TabAt wr w.heap.size rows ∧ rows.map (·.1) = (bs.take k).map (·.1)) (fun s18 _ => n - (intOf s18).toNat)
  case atStart => exact ⟨0, Nat.zero_le _, rfl, HB0.out, [], HM0.out, rfl⟩
  case round =>
    obtain ⟨k, hk, rfl, hbr, rows, htab, hrows⟩ := hrel
    have HBR := Lib.hid hbr
    have HTAB := Lib.hid htab
    have HROWS := Lib.hid hrows
    have hTl := htab.lt
    clear hbr htab hrows
    rcases Nat.lt_or_ge k n with hlt | hge
    · obtain ⟨⟨nm, a⟩, hb⟩ : ∃ b, bs[k]? = some b := ⟨bs[k]'(by rw [← HN.out]; exact hlt), List.getElem?_eq_getElem _⟩
      obtain ⟨g, rfl, hgl, hbd⟩ := HBS.out k _ hb
      obtain ⟨sv, dv, c0, c1, c2, c3, hsi, hdi⟩ := hbd.below HBR.out
      obtain ⟨sv', dv', -, -, e2, e3, hsw, hdw⟩ := hbd
      have x2 := ((bcell HBR.out).1 g (k * 4 + 2) hgl).trans e2
      have x3 := ((bcell HBR.out).1 g (k * 4 + 3) hgl).trans e3
      rw [x2] at c2
      rw [x3] at c3
      injection c2 with c2
      injection c3 with c3
      subst c2 c3
      have HSW := Lib.hid hsw
      have HDW := Lib.hid hdw
      obtain ⟨sA, sc, rfl, -⟩ := hsw
      obtain ⟨dA, dc, rfl, -⟩ := hdw
      have HNM := Lib.hid (HOK.out.name k _ hb)
      obtain ⟨t, hokt⟩ := HOK.out.ok k _ hb
      have hfind := tabFind_none HROWS.out (s := nm) (HOK.out.once k _ hb)
      have HOKT := Lib.hid hokt
      have HB := Lib.hid hb
      have HFIND := Lib.hid hfind
      have hgr : g < wr.heap.size := Nat.lt_of_lt_of_le hgl HBR.out.size
      simp only [] at c0 c1 x2 x3 HSW HDW
      have hck : ¬ c = k := by omega
      clear hb e2 e3 hokt hfind hsi hdi
      have k1 := (Box.new wr 35 #[.string nm, .bool a.ch, .slice sA a.sh.length sc, .slice dA a.da.length dc]).alloc (.cells #[.int .i64 3, .int .i64 0, .int .i64 0, .string nm, .int .i64 0] 113)
      have k2 := Box.new (wr.alloc (.cells #[.string nm, .bool a.ch, .slice sA a.sh.length sc, .slice dA a.da.length dc] 35)) 113 #[.int .i64 3, .int .i64 0, .int .i64 0, .string nm, .int .i64 0]
      have hbt := below_two wr (.cells #[.string nm, .bool a.ch, .slice sA a.sh.length sc, .slice dA a.da.length dc] 35) (.cells #[.int .i64 3, .int .i64 0, .int .i64 0, .string nm, .int .i64 0] 113)
      obtain ⟨W2, hW2⟩ : ∃ W2, W2 = (wr.alloc (.cells #[.string nm, .bool a.ch, .slice sA a.sh.length sc, .slice dA a.da.length dc] 35)).alloc (.cells #[.int .i64 3, .int .i64 0, .int .i64 0, .string nm, .int .i64 0] 113) := ⟨_, rfl⟩
      rw [← hW2] at k1 k2 hbt
      simp only [World.size_alloc] at k2
      have K1 := Lib.hid k1
      have HBT := Lib.hid hbt
      have hbW : Below w.heap.size w W2 := HBR.out.trans (hbt.mono HBR.out.size)
      have HCALL := Lib.hid (spell_one (t := ⟨3, 0, 0, nm, 0⟩) (b := wr.heap.size + 1) (o := 0) (c := 1) (HST.out.below hbW) ⟨k2.cell 0, k2.cell 1, k2.cell 2, k2.cell 3, k2.cell 4⟩ (Nat.le_refl _) (tokOk_name HNM.out))
      have HBW := Lib.hid hbW
      clear k1 k2 hbt hbW
      go_wp2_with fail
      rw [← hW2]
      refine HCALL.out.mono ?_
      rintro e w1 ⟨x, hx, rfl, hb2⟩
      have htab1 := (HTAB.out.below HBT.out).below hb2
      have hbx1 := K1.out.below hb2
      have hlk := run_lookup_tab (P := Tryz.prog) htab1 Tryz.underlying122 Tryz.underlying9 (zero_int w1) nm
      rw [HFIND.out] at hlk
      simp only [Option.getD_none, Option.isSome_none] at hlk
      obtain ⟨w2, hst2, htab2, hg2⟩ := run_store_tab (P := Tryz.prog) htab1 Tryz.underlying122 Tryz.underlying9 HFIND.out (.int .i64 k)
      have hbx2 := Box.grown hbx1 hg2 (by intro e; injection e; omega)
      have p0 := hbx1.cell 0
      have q1 := hbx2.cell 1
      have q2 := hbx2.cell 2
      have q3 := hbx2.cell 3
      have pl := hbx1.lt
      have ql := hbx2.lt
      have hbw2 : Below w.heap.size w w2 := (HBW.out.trans (hb2.mono HBW.out.size)).grown hg2 (HBW.out.trans (hb2.mono HBW.out.size)).size (fun k e => by injection e; omega)
      have HARR := Lib.hid (check_ok (w := w2) (v := .agg #[.bool a.ch, .slice sA a.sh.length sc, .slice dA a.da.length dc]) (a := a) ⟨_, _, rfl, HSW.out.mono hbw2, HDW.out.mono hbw2⟩ HOKT.out)
      have HBW2 := Lib.hid hbw2
      have HTAB2 := Lib.hid htab2
      clear htab1 hbx1 hbx2 htab2 hg2 hbw2 hb2
      go_wp2_with fail
      refine HARR.out.mono ?_
      rintro e w3 ⟨rfl, hb3⟩
      go_wp2_with fail
      go_roundw
      case rel =>
        refine ⟨k + 1, by omega, by go_num, HBW2.out.trans (hb3.mono HBW2.out.size), _, HTAB2.out.below hb3, ?_⟩
        rw [List.map_append, HROWS.out, List.take_add_one, HB.out]
        simp
      case measure => simp [intOf]; omega
    · go_wp2_with fail
      go_ret
      exact ⟨rfl, HBR.out⟩

end Go.Proofs.YtihndbkaoejnnaaGreatDoor
