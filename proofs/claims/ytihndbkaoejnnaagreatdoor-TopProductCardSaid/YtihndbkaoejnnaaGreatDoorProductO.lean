/- What the card TopProduct leans on: LexRead, LexFacts, LexProd. Conditions: none but those of its theorems. -/
import Derived.Defers
import Derived.Recover
import Derived.Test.YtihndbkaoejnnaaGreatDoorProductN
set_option linter.unusedSimpArgs false
set_option linter.unusedVariables false
namespace Go.Proofs.YtihndbkaoejnnaaGreatDoor
open Go Go.RowKit Go.Proofs.YtihndbkaoejnnaaGreatDoor.P

theorem readCatch_idle (p q r : Addr) (w : World) : CallsD Tryz.prog 42 #[.pointer (some p), .pointer (some q), .pointer (some r)] .returning w fun e u' w' => e = .returned (.tuple #[]) ∧ u' = .returning ∧ w' = w := by
  refine callsD_of_wpS Tryz.func42 rfl fun c₀ cs hu => ?_
  apply wpS_seq
  apply wpS_region
  simp [wpOpsS, go_sem, recoverD, hu, Tryz.ntmps42, Exit.thenS]
  refine wpS_of_wp ?_
  simp only [Array.replicate, List.replicate, List.setIfInBounds_toArray, List.set_cons_zero, List.set_cons_succ, List.append_toArray, List.cons_append, List.nil_append]
  go_wp2
  cases c₀
  simp_all [bodyPostS, results, Tryz.results42]

set_option maxHeartbeats 4000000 in
theorem read_any {w : World} {src : ByteArray} {toks : List Tok} (hst : Std w) (hs : src.size ≤ 900) (hl : Lexes src 0 toks) (hn : toks.length ≤ 199) :
    Calls Tryz.prog 32 #[.string src] w fun e w' => ∃ A c, e = .returned (.tuple #[.slice A toks.length c, .int .i64 0, .nilIface]) ∧ w'.ownsRow w.heap.size 113 5 (.slice A toks.length c) toks.length (tokCells toks) ∧ Below w.heap.size w w' := by
  have hmf : ∀ (fn : Fn) (first cap : Array Value) (w : World), (Instr.makeFunc fn first cap).run Tryz.prog w = .ok (.func fn first cap) w := fun _ _ _ _ => rfl
  have HST := Lib.hid hst
  have HL := Lib.hid hl
  have hlo := hst.low
  clear hst hl
  go_enter_defers Tryz.func32, Tryz.ntmps32
  go_wp2_with fail
  have hh4 : Below w.heap.size w ((((w.alloc (.cells #[.slice none 0 0] 62)).alloc (.cells #[.int .i64 0] 3)).alloc (.cells #[.nilIface] 29)).alloc (.cells #[.string src, .int .i64 0, .slice none 0 0] 85)) := (below_three w _ _ _).alloc (by simp; omega) _
  refine (all_any (R := w.heap.size + 1 + 1 + 1) (HST.out.below hh4) (by omega) (by have := Box.new (((w.alloc (.cells #[.slice none 0 0] 62)).alloc (.cells #[.int .i64 0] 3)).alloc (.cells #[.nilIface] 29)) 85 #[.string src, .int .i64 0, .slice none 0 0]; simp only [World.size_alloc] at this; exact this) hs HL.out hn).mono ?_
  rintro e w1 ⟨rfl, hg1, A, c, q, hr1, hown1⟩
  have x1 := (Box.new w 62 #[.slice none 0 0])
  have x2 := (Box.new (w.alloc (.cells #[.slice none 0 0] 62)) 3 #[.int .i64 0])
  have x3 := (Box.new ((w.alloc (.cells #[.slice none 0 0] 62)).alloc (.cells #[.int .i64 0] 3)) 29 #[.nilIface])
  simp only [World.size_alloc] at x2 x3
  have y1 := Box.grown (((x1.alloc (.cells #[.int .i64 0] 3)).alloc (.cells #[.nilIface] 29)).alloc (.cells #[.string src, .int .i64 0, .slice none 0 0] 85)) hg1 (by intro e; injection e with e; omega)
  have y2 := Box.grown ((x2.alloc (.cells #[.nilIface] 29)).alloc (.cells #[.string src, .int .i64 0, .slice none 0 0] 85)) hg1 (by intro e; injection e with e; omega)
  have y3 := Box.grown (x3.alloc (.cells #[.string src, .int .i64 0, .slice none 0 0] 85)) hg1 (by intro e; injection e with e; omega)
  have d1 := y1.one
  have d2 := y2.one
  have d3 := y3.one
  have f1 := y1.frozen 0
  have f2 := y2.frozen 0
  have f3 := y3.frozen 0
  have l1 := y1.lt
  have l2 := y2.lt
  have l3 := y3.lt
  obtain ⟨c0, c1, c2⟩ := Box.three hr1
  have HG := Lib.hid hg1
  have HO := Lib.hid hown1
  have HBW := Lib.hid hh4
  clear x1 x2 x3 hg1 hown1 hh4
  go_wp2_with fail
  refine leaves_cons (f := 42) (args := #[.pointer (some ⟨w.heap.size, 0, none⟩), .pointer (some ⟨w.heap.size + 1, 0, none⟩), .pointer (some ⟨w.heap.size + 1 + 1, 0, none⟩)]) (by simp) (by simp [go_sem]) ?_
  refine (readCatch_idle _ _ _ _).mono ?_
  rintro e u' w'' ⟨rfl, rfl, rfl⟩
  simp [Leaves, settle, results, Tryz.results32, go_sem, d1, d2, d3, f1, f2, f3, l1, l2, l3]
  have hs1 : w.heap.size + 1 + 1 + 1 + 1 ≤ w1.heap.size := by have := HG.out.size; simpa using this
  refine ⟨A, c, ⟨rfl, rfl⟩, ?_, ?_⟩
  · have hlow : ∀ b, b < w.heap.size + 4 → (Value.slice A toks.length c).ownBlock ≠ some b := fun b hb => ownsR_low HO.out (by simp; omega)
    exact ownsR_base (ownsR_away (ownsR_away (ownsR_away HO.out (hlow _ (by show w.heap.size < _; omega)) _) (hlow _ (by show w.heap.size + 1 < _; omega)) _) (hlow _ (by show w.heap.size + 1 + 1 < _; omega)) _) (by simp; omega)
  · exact ((((HBW.out).grown HG.out (by simp; omega) (fun k e => by injection e; omega)).setCell (by simp) _).setCell (by simp) _).setCell (by simp; omega) _

end Go.Proofs.YtihndbkaoejnnaaGreatDoor

namespace Go.Proofs.YtihndbkaoejnnaaGreatDoor
open Go Go.RowKit Go.Proofs.YtihndbkaoejnnaaGreatDoor.P

def byteAt (src : ByteArray) (k : Nat) : Int := ((src.data.toList.getD k 0).toNat : Int)
theorem byteAt_get {src : ByteArray} {k : Nat} (h : k < src.size) : byteAt src k = (src[k].toNat : Int) := by
  unfold byteAt
  rw [List.getD_eq_getElem?_getD, List.getElem?_eq_getElem (by simpa using h)]
  rfl
def runsB (p : Int → Bool) (src : ByteArray) (pos n : Nat) : Bool := decide (pos + n ≤ src.size) && ((List.range n).all (fun k => p (byteAt src (pos + k))) && (decide (src.size ≤ pos + n) || !p (byteAt src (pos + n))))
theorem runs_of {p : Int → Bool} {src : ByteArray} {pos n : Nat} (h : runsB p src pos n = true) : Runs p src pos n := by
  simp only [runsB, Bool.and_eq_true, decide_eq_true_eq, List.all_eq_true, List.mem_range, Bool.or_eq_true, Bool.not_eq_true'] at h
  obtain ⟨h1, h2, h3⟩ := h
  refine ⟨h1, fun k hk1 hk2 hk => ?_, fun hk => ?_⟩
  · have := h2 (k - pos) (by omega)
    rwa [show pos + (k - pos) = k by omega, byteAt_get hk] at this
  · rcases h3 with h3 | h3
    · omega
    · rwa [byteAt_get hk] at h3
def fnB (c : Int) (F : Nat) : Bool := decide (1 ≤ F) && (decide (F ≤ 34) && (decide (glyphR F = c) && (List.range (F - 1)).all fun j => !decide (glyphR ((1 : Nat) + (j : Nat)) = c)))
theorem fn_of {c : Int} {F : Nat} (h : fnB c F = true) : FnOf c F := by
  simp only [fnB, Bool.and_eq_true, decide_eq_true_eq, List.all_eq_true, List.mem_range, Bool.not_eq_true', decide_eq_false_iff_not] at h
  obtain ⟨h1, h2, h3, h4⟩ := h
  refine ⟨by omega, by omega, h3, fun j hj1 hj2 => ?_⟩
  have := h4 (j - 1).toNat (by omega)
  rwa [show ((1 : Nat) : Int) + ((j - 1).toNat : Int) = j by omega] at this
def noFnB (c : Int) : Bool := (List.range 34).all fun j => !decide (glyphR ((1 : Nat) + (j : Nat)) = c)
theorem noFn_of {c : Int} (h : noFnB c = true) : NoFn c := by
  simp only [noFnB, List.all_eq_true, List.mem_range, Bool.not_eq_true', decide_eq_false_iff_not] at h
  intro j hj1 hj2
  have := h (j - 1).toNat (by omega)
  rwa [show ((1 : Nat) : Int) + ((j - 1).toNat : Int) = j by omega] at this
def signB (c : Int) (K : Nat) : Bool := decide (5 ≤ K) && (decide (K ≤ 20) && (decide (signR K = c) && (List.range (K - 5)).all fun j => !decide (signR ((5 : Nat) + (j : Nat)) = c)))
theorem sign_of {c : Int} {K : Nat} (h : signB c K = true) : SignOf c K := by
  simp only [signB, Bool.and_eq_true, decide_eq_true_eq, List.all_eq_true, List.mem_range, Bool.not_eq_true', decide_eq_false_iff_not] at h
  obtain ⟨h1, h2, h3, h4⟩ := h
  refine ⟨by omega, by omega, h3, fun j hj1 hj2 => ?_⟩
  have := h4 (j - 5).toNat (by omega)
  rwa [show ((5 : Nat) : Int) + ((j - 5).toNat : Int) = j by omega] at this
def otherB (c : Nat) : Bool := (decide (128 ≤ c) || (!digB c && !letB c)) && (!decide (c = 175) && !decide (c = 39))
theorem other_of {c : Nat} (h : otherB c = true) : Other c := by
  simp only [otherB, Bool.and_eq_true, Bool.or_eq_true, decide_eq_true_eq, Bool.not_eq_true', decide_eq_false_iff_not] at h
  exact ⟨fun hc => by rcases h.1 with h1 | h1; omega; exact h1, h.2⟩

theorem at_glyph {src : ByteArray} {pos c k F : Nat} (hs : src.size ≤ 900) (h : (decide (pos + k ≤ src.size) && (decide (Lib.decodeGo (src.extract pos src.size) = (c, k)) && (otherB c && fnB c F))) = true) : WordAt src pos ⟨4, F, 0, ⟨#[]⟩, pos⟩ (pos + k) := by
  simp only [Bool.and_eq_true, decide_eq_true_eq] at h
  exact fun w R wv hst hr => word_glyph hst hr hs h.1 h.2.1 (other_of h.2.2.1) (fn_of h.2.2.2)
theorem at_sign {src : ByteArray} {pos c k K : Nat} (hs : src.size ≤ 900) (h : (decide (pos + k ≤ src.size) && (decide (Lib.decodeGo (src.extract pos src.size) = (c, k)) && (otherB c && (noFnB c && signB c K)))) = true) : WordAt src pos ⟨K, 0, 0, ⟨#[]⟩, pos⟩ (pos + k) := by
  simp only [Bool.and_eq_true, decide_eq_true_eq] at h
  exact fun w R wv hst hr => word_sign hst hr hs h.1 h.2.1 (other_of h.2.2.1) (noFn_of h.2.2.2.1) (sign_of h.2.2.2.2)
theorem at_number {src : ByteArray} {pos c k n : Nat} {v : Int} (hs : src.size ≤ 900) (hv : Lib.parseIntB 64 (src.extract pos (pos + n)).data.toList = .ok v) (h : (decide (Lib.decodeGo (src.extract pos src.size) = (c, k)) && (decide (c < 128) && (digB c && runsB digB src pos n))) = true) : WordAt src pos ⟨1, 0, v, ⟨#[]⟩, pos⟩ (pos + n) := by
  simp only [Bool.and_eq_true, decide_eq_true_eq] at h
  exact fun w R wv hst hr => word_number hst hr hs (Nat.le_trans (Nat.le_add_right pos n) (runs_of h.2.2.2).1) h.1 h.2.1 h.2.2.1 (runs_of h.2.2.2) hv
theorem at_name {src t : ByteArray} {pos c k n : Nat} (hs : src.size ≤ 900) (ht : src.extract pos (pos + n) = t) (h : (decide (pos + k ≤ src.size) && (decide (Lib.decodeGo (src.extract pos src.size) = (c, k)) && (decide (c < 128) && (!digB c && (letB c && (runsB inB src pos n && decide (n ≤ 12))))))) = true) : WordAt src pos ⟨3, 0, 0, t, pos⟩ (pos + n) := by
  simp only [Bool.and_eq_true, decide_eq_true_eq, Bool.not_eq_true'] at h
  subst ht
  exact fun w R wv hst hr => word_name hst hr hs h.1 h.2.1 h.2.2.1 h.2.2.2.1 h.2.2.2.2.1 (runs_of h.2.2.2.2.2.1) h.2.2.2.2.2.2
theorem lexes_more {src : ByteArray} {pos m q : Nat} {t : Tok} {ts : List Tok} (h : (runsB spB src pos m && (decide (pos + m < src.size) && (!Lib.hasPrefix (src.extract (pos + m) src.size).data.toList [226, 141, 157] && decide (q ≤ src.size)))) = true) (hw : WordAt src (pos + m) t q) (hl : Lexes src q ts) : Lexes src pos (t :: ts) := by
  simp only [Bool.and_eq_true, decide_eq_true_eq, Bool.not_eq_true'] at h
  exact .more pos m q t ts (runs_of h.1) h.2.1 h.2.2.1 hw h.2.2.2 hl
theorem lexes_done {src : ByteArray} {pos : Nat} (h : (runsB spB src pos 0 && decide (pos = src.size)) = true) : Lexes src pos [] := by
  simp only [Bool.and_eq_true, decide_eq_true_eq] at h
  exact .done pos 0 (runs_of h.1) h.2

end Go.Proofs.YtihndbkaoejnnaaGreatDoor

namespace Go.Proofs.YtihndbkaoejnnaaGreatDoor
open Go Go.RowKit Go.Proofs.YtihndbkaoejnnaaGreatDoor.P

/-- prod5 -/
abbrev line_prod5 : ByteArray := ⟨#[123, 226, 141, 181, 61, 48, 58, 49, 226, 139, 132, 226, 141, 181, 195, 151, 226, 136, 135, 226, 141, 181, 45, 49, 125, 53]⟩
abbrev toks_prod5 : List Tok := [⟨14, 0, 0, ⟨#[]⟩, 0⟩, ⟨19, 0, 0, ⟨#[]⟩, 1⟩, ⟨4, 8, 0, ⟨#[]⟩, 4⟩, ⟨1, 0, 0, ⟨#[]⟩, 5⟩, ⟨16, 0, 0, ⟨#[]⟩, 6⟩, ⟨1, 0, 1, ⟨#[]⟩, 7⟩, ⟨17, 0, 0, ⟨#[]⟩, 8⟩, ⟨19, 0, 0, ⟨#[]⟩, 11⟩, ⟨4, 3, 0, ⟨#[]⟩, 14⟩, ⟨20, 0, 0, ⟨#[]⟩, 16⟩, ⟨19, 0, 0, ⟨#[]⟩, 19⟩, ⟨4, 2, 0, ⟨#[]⟩, 22⟩, ⟨1, 0, 1, ⟨#[]⟩, 23⟩, ⟨15, 0, 0, ⟨#[]⟩, 24⟩, ⟨1, 0, 5, ⟨#[]⟩, 25⟩]
theorem lexes_prod5 : Lexes line_prod5 0 toks_prod5 := by
  refine lexes_more (m := 0) (q := 1) (by decide +kernel) (at_sign (c := 123) (k := 1) (K := 14) (by decide) (by decide +kernel)) ?_
  refine lexes_more (m := 0) (q := 4) (by decide +kernel) (at_sign (c := 9077) (k := 3) (K := 19) (by decide) (by decide +kernel)) ?_
  refine lexes_more (m := 0) (q := 5) (by decide +kernel) (at_glyph (c := 61) (k := 1) (F := 8) (by decide) (by decide +kernel)) ?_
  refine lexes_more (m := 0) (q := 6) (by decide +kernel) (at_number (c := 48) (k := 1) (n := 1) (by decide) (by decide +kernel) (by decide +kernel)) ?_
  refine lexes_more (m := 0) (q := 7) (by decide +kernel) (at_sign (c := 58) (k := 1) (K := 16) (by decide) (by decide +kernel)) ?_
  refine lexes_more (m := 0) (q := 8) (by decide +kernel) (at_number (c := 49) (k := 1) (n := 1) (by decide) (by decide +kernel) (by decide +kernel)) ?_
  refine lexes_more (m := 0) (q := 11) (by decide +kernel) (at_sign (c := 8900) (k := 3) (K := 17) (by decide) (by decide +kernel)) ?_
  refine lexes_more (m := 0) (q := 14) (by decide +kernel) (at_sign (c := 9077) (k := 3) (K := 19) (by decide) (by decide +kernel)) ?_
  refine lexes_more (m := 0) (q := 16) (by decide +kernel) (at_glyph (c := 215) (k := 2) (F := 3) (by decide) (by decide +kernel)) ?_
  refine lexes_more (m := 0) (q := 19) (by decide +kernel) (at_sign (c := 8711) (k := 3) (K := 20) (by decide) (by decide +kernel)) ?_
  refine lexes_more (m := 0) (q := 22) (by decide +kernel) (at_sign (c := 9077) (k := 3) (K := 19) (by decide) (by decide +kernel)) ?_
  refine lexes_more (m := 0) (q := 23) (by decide +kernel) (at_glyph (c := 45) (k := 1) (F := 2) (by decide) (by decide +kernel)) ?_
  refine lexes_more (m := 0) (q := 24) (by decide +kernel) (at_number (c := 49) (k := 1) (n := 1) (by decide) (by decide +kernel) (by decide +kernel)) ?_
  refine lexes_more (m := 0) (q := 25) (by decide +kernel) (at_sign (c := 125) (k := 1) (K := 15) (by decide) (by decide +kernel)) ?_
  refine lexes_more (m := 0) (q := 26) (by decide +kernel) (at_number (c := 53) (k := 1) (n := 1) (by decide) (by decide +kernel) (by decide +kernel)) ?_
  exact lexes_done (by decide +kernel)

/-- prodn -/
abbrev line_prodn : ByteArray := ⟨#[123, 226, 141, 181, 61, 48, 58, 49, 226, 139, 132, 226, 141, 181, 195, 151, 226, 136, 135, 226, 141, 181, 45, 49, 125, 110]⟩
abbrev toks_prodn : List Tok := [⟨14, 0, 0, ⟨#[]⟩, 0⟩, ⟨19, 0, 0, ⟨#[]⟩, 1⟩, ⟨4, 8, 0, ⟨#[]⟩, 4⟩, ⟨1, 0, 0, ⟨#[]⟩, 5⟩, ⟨16, 0, 0, ⟨#[]⟩, 6⟩, ⟨1, 0, 1, ⟨#[]⟩, 7⟩, ⟨17, 0, 0, ⟨#[]⟩, 8⟩, ⟨19, 0, 0, ⟨#[]⟩, 11⟩, ⟨4, 3, 0, ⟨#[]⟩, 14⟩, ⟨20, 0, 0, ⟨#[]⟩, 16⟩, ⟨19, 0, 0, ⟨#[]⟩, 19⟩, ⟨4, 2, 0, ⟨#[]⟩, 22⟩, ⟨1, 0, 1, ⟨#[]⟩, 23⟩, ⟨15, 0, 0, ⟨#[]⟩, 24⟩, ⟨3, 0, 0, ⟨#[110]⟩, 25⟩]
theorem lexes_prodn : Lexes line_prodn 0 toks_prodn := by
  refine lexes_more (m := 0) (q := 1) (by decide +kernel) (at_sign (c := 123) (k := 1) (K := 14) (by decide) (by decide +kernel)) ?_
  refine lexes_more (m := 0) (q := 4) (by decide +kernel) (at_sign (c := 9077) (k := 3) (K := 19) (by decide) (by decide +kernel)) ?_
  refine lexes_more (m := 0) (q := 5) (by decide +kernel) (at_glyph (c := 61) (k := 1) (F := 8) (by decide) (by decide +kernel)) ?_
  refine lexes_more (m := 0) (q := 6) (by decide +kernel) (at_number (c := 48) (k := 1) (n := 1) (by decide) (by decide +kernel) (by decide +kernel)) ?_
  refine lexes_more (m := 0) (q := 7) (by decide +kernel) (at_sign (c := 58) (k := 1) (K := 16) (by decide) (by decide +kernel)) ?_
  refine lexes_more (m := 0) (q := 8) (by decide +kernel) (at_number (c := 49) (k := 1) (n := 1) (by decide) (by decide +kernel) (by decide +kernel)) ?_
  refine lexes_more (m := 0) (q := 11) (by decide +kernel) (at_sign (c := 8900) (k := 3) (K := 17) (by decide) (by decide +kernel)) ?_
  refine lexes_more (m := 0) (q := 14) (by decide +kernel) (at_sign (c := 9077) (k := 3) (K := 19) (by decide) (by decide +kernel)) ?_
  refine lexes_more (m := 0) (q := 16) (by decide +kernel) (at_glyph (c := 215) (k := 2) (F := 3) (by decide) (by decide +kernel)) ?_
  refine lexes_more (m := 0) (q := 19) (by decide +kernel) (at_sign (c := 8711) (k := 3) (K := 20) (by decide) (by decide +kernel)) ?_
  refine lexes_more (m := 0) (q := 22) (by decide +kernel) (at_sign (c := 9077) (k := 3) (K := 19) (by decide) (by decide +kernel)) ?_
  refine lexes_more (m := 0) (q := 23) (by decide +kernel) (at_glyph (c := 45) (k := 1) (F := 2) (by decide) (by decide +kernel)) ?_
  refine lexes_more (m := 0) (q := 24) (by decide +kernel) (at_number (c := 49) (k := 1) (n := 1) (by decide) (by decide +kernel) (by decide +kernel)) ?_
  refine lexes_more (m := 0) (q := 25) (by decide +kernel) (at_sign (c := 125) (k := 1) (K := 15) (by decide) (by decide +kernel)) ?_
  refine lexes_more (m := 0) (q := 26) (by decide +kernel) (at_name (c := 110) (k := 1) (n := 1) (by decide) (by decide +kernel) (by decide +kernel)) ?_
  exact lexes_done (by decide +kernel)

/-- prodf -/
abbrev line_prodf : ByteArray := ⟨#[195, 151, 47, 49, 43, 226, 141, 179, 110]⟩
abbrev toks_prodf : List Tok := [⟨4, 3, 0, ⟨#[]⟩, 0⟩, ⟨4, 33, 0, ⟨#[]⟩, 2⟩, ⟨1, 0, 1, ⟨#[]⟩, 3⟩, ⟨4, 1, 0, ⟨#[]⟩, 4⟩, ⟨4, 24, 0, ⟨#[]⟩, 5⟩, ⟨3, 0, 0, ⟨#[110]⟩, 8⟩]
theorem lexes_prodf : Lexes line_prodf 0 toks_prodf := by
  refine lexes_more (m := 0) (q := 2) (by decide +kernel) (at_glyph (c := 215) (k := 2) (F := 3) (by decide) (by decide +kernel)) ?_
  refine lexes_more (m := 0) (q := 3) (by decide +kernel) (at_glyph (c := 47) (k := 1) (F := 33) (by decide) (by decide +kernel)) ?_
  refine lexes_more (m := 0) (q := 4) (by decide +kernel) (at_number (c := 49) (k := 1) (n := 1) (by decide) (by decide +kernel) (by decide +kernel)) ?_
  refine lexes_more (m := 0) (q := 5) (by decide +kernel) (at_glyph (c := 43) (k := 1) (F := 1) (by decide) (by decide +kernel)) ?_
  refine lexes_more (m := 0) (q := 8) (by decide +kernel) (at_glyph (c := 9075) (k := 3) (F := 24) (by decide) (by decide +kernel)) ?_
  refine lexes_more (m := 0) (q := 9) (by decide +kernel) (at_name (c := 110) (k := 1) (n := 1) (by decide) (by decide +kernel) (by decide +kernel)) ?_
  exact lexes_done (by decide +kernel)

end Go.Proofs.YtihndbkaoejnnaaGreatDoor
