/- The walk of each.One at Not, of zeros and ones. Conditions: none but these. -/
import Derived.Test.YtfemeaehpjajlaaFilledWalk
import Derived.Test.YtfemeaehpjajlaaCount
import Derived.Test.YtfemeaehpjajlaaMoved
import Derived.Test.YtfemeaehpjajlaaKeep
import Derived.Test.YtfemeaehpjajlaaHelp
import Derived.Laws.EntriesVeiled
namespace Go.Proofs.Ytfemeaehpjajlaa
open Go Go.RowKit Go.Proofs.Ytfemeaehpjajlaa.P

set_option maxRecDepth 100000 in
set_option maxHeartbeats 400000 in
theorem cell_not (x : Int) (w : World) (hx : x = 0 ∨ x = 1) : Calls Try.prog 75 #[.int .i64 17, .int .i64 x] w fun e w' => e = .returned (.tuple #[.int .i64 (1 - x), .nilIface]) ∧ w = w' := by
  rcases hx with rfl | rfl
  · go_enter Try.func75, Try.ntmps75
    go_wp2_with fail
    go_ret2
    exact ⟨rfl, rfl⟩
  · go_enter Try.func75, Try.ntmps75
    go_wp2_with fail
    go_ret2
    exact ⟨rfl, rfl⟩

set_option maxRecDepth 100000 in
set_option maxHeartbeats 400000 in
theorem one1_any (i : Nat) (x : Int) (bf ba : Nat) (a : Arr) (c0 s : Value) (D : Option Addr) (cd : Nat) (W : World) (hf : Box W bf 60 #[.int .i64 17]) (hb : Box W ba 24 #[c0, s, .slice D a.da.length cd])
    (he : Elems W D a.da) (hi : a.da[i]? = some x) (hx : x = 0 ∨ x = 1) :
    Calls Try.prog 77 (#[.int .i64 i] ++ #[.pointer (some ⟨bf, 0, none⟩), .pointer (some ⟨ba, 0, none⟩)]) W fun e W' => e = .returned (.tuple #[.int .i64 (1 - x), .nilIface]) ∧ Below W.heap.size W W' := by
  have c0 := hf.one
  obtain ⟨c1, c2, c3⟩ := hb.three
  have hil := (List.getElem?_eq_some_iff.1 hi).1
  obtain ⟨ad, e, hl, hc⟩ := he i x hi
  subst e
  have HX := Lib.hid hx
  clear hi hx he
  simp only [List.append_toArray, List.cons_append, List.nil_append]
  go_enter Try.func77, Try.ntmps77
  go_wp2_with fail
  go_quiet ((exact Calls.quiet_of_same (quiet_call (cell_not x _ HX.out))))
  all_goals go_wp2_with fail
  go_ret2
  exact ⟨rfl, below_draws _ _ _⟩

set_option maxRecDepth 100000 in
set_option maxHeartbeats 1000000 in
theorem each_not {v : Value} {a : Arr} {t : List Nat} {w : World} (ha : IsArr w v a) (h : Ok a t) (hch : a.ch = false) (hb : ∀ x ∈ a.da, x = 0 ∨ x = 1) :
    Calls Try.prog 50 #[.int .i64 17, v] w (GivesOk ⟨false, a.sh, others a.da⟩ w) := by
  obtain ⟨A, ca, D, cd, rfl, hs, hd⟩ := ha.open_
  rw [hch] at ha ⊢
  clear hch
  have HT := Lib.hid h
  have HB := Lib.hid hb
  have ED := Lib.hid hd.elems
  have hl4 : a.da.length ≤ 4096 := by rw [h.len]; exact h.good.2.2
  have bF0 := ((Box.new w 60 #[.int .i64 17]).alloc (.cells #[.bool false, .slice A a.sh.length ca, .slice D a.da.length cd] 24)).alloc (.cells #[.bool false, .slice none 0 0, .slice none 0 0] 24)
  have bA0 := (Box.new (w.alloc (.cells #[.int .i64 17] 60)) 24 #[.bool false, .slice A a.sh.length ca, .slice D a.da.length cd]).alloc (.cells #[.bool false, .slice none 0 0, .slice none 0 0] 24)
  have bR0 := Box.new ((w.alloc (.cells #[.int .i64 17] 60)).alloc (.cells #[.bool false, .slice A a.sh.length ca, .slice D a.da.length cd] 24)) 24 #[.bool false, .slice none 0 0, .slice none 0 0]
  simp only [World.size_alloc] at bA0 bR0
  have hb0 := below_three w (.cells #[.int .i64 17] 60) (.cells #[.bool false, .slice A a.sh.length ca, .slice D a.da.length cd] 24) (.cells #[.bool false, .slice none 0 0, .slice none 0 0] 24)
  have f0 := bF0.one
  obtain ⟨t0, t1, t2⟩ := bA0.three
  clear h hb
  go_enter Try.func50, Try.ntmps50
  go_wp2_with fail
  refine (cell_not 0 _ (.inl rfl)).mono ?_
  rintro e w1 ⟨rfl, rfl⟩
  go_wp2_with fail
  refine (check_ok (ha.mono hb0) HT.out).mono ?_
  rintro e w2 ⟨rfl, hb2⟩
  have bF := bF0.below hb2
  have bA := bA0.below hb2
  have bR := bR0.below hb2
  have hbw := hb0.trans (hb2.mono hb0.size)
  have HS := Lib.hid hs
  have HA := Lib.hid ha
  clear bF0 bA0 bR0 hb2 f0 t0 t1 t2 hs hd ha
  obtain ⟨t0, t1, t2⟩ := bA.three
  go_wp2_with fail
  refine (filled_any _ a.sh (others a.da) a.da.length 77 #[.pointer (some ⟨w.heap.size, 0, none⟩), .pointer (some ⟨w.heap.size + 1, 0, none⟩)] w2 (HS.out.mono hbw) hl4 (by rw [others_length]) (fun i x hx W hW => ?hF) (fun args W => by go_simp)).mono ?_
  case hF =>
    rw [others_at] at hx
    obtain ⟨y, hy, rfl⟩ := Option.map_eq_some_iff.1 hx
    exact one1_any i y w.heap.size (w.heap.size + 1) a _ _ D cd W (bF.below hW) (bA.below hW) (Elems.mono ED.out (hbw.trans (hW.mono hbw.size))) hy (HB.out y (List.mem_of_getElem? hy))
  rintro e w3 ⟨r, rfl, hr, hb3⟩
  obtain ⟨A3, c3, D3, d3, rfl, -, -⟩ := hr.open_
  have bR3 := bR.below hb3
  obtain ⟨z0, z1, z2⟩ := bR3.three
  have zf := bR3.frozen
  have zl := bR3.lt
  have hbw3 := hbw.trans (hb3.mono hbw.size)
  clear hb3 bF bA bR t0 t1 t2
  go_wp2_with fail
  refine bodyPost_ret (v := .tuple #[.agg #[.bool false, .slice A3 a.sh.length c3, .slice D3 (others a.da).length d3], .nilIface]) (by simp [results, Try.results50, go_sem, zl, z0, z1, z2]; first | done | rfl | exact ⟨rfl, rfl, rfl⟩) rfl ?_
  exact ⟨_, rfl, hr.stored bR3 _ _ _, by have := hbw3.size; go_grown⟩

end Go.Proofs.Ytfemeaehpjajlaa
