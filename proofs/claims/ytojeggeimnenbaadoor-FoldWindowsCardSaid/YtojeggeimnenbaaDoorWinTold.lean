/- What fold.Windows tells, errors and all. Conditions: none but these. -/
import Derived.Test.YtojeggeimnenbaaDoorAlongPlain
set_option linter.unusedSimpArgs false
set_option linter.unusedVariables false
namespace Go.Proofs.YtojeggeimnenbaaDoor
open Go Go.RowKit Go.Proofs.YtojeggeimnenbaaDoor.P
set_option maxRecDepth 100000 in
set_option maxHeartbeats 1000000 in
theorem windows_bad {v : Value} {a : Arr} {w : World} {f axis : Int} (n : Int) (ha : IsArr w v a) (h : foldErr f axis a ≠ 0) :
    Calls Tryd.prog 15 #[.int .i64 f, .int .i64 n, .int .i64 axis, v] w (Fails zeroArr (foldErr f axis a) w) := by
  obtain ⟨A, ca, D, cd, rfl, hs, hd⟩ := ha.open_
  have HAL := Lib.hid (falong_bad (f := f) (axis := axis) (w := ((w.alloc (.cells #[.int .i64 n] 3)).alloc (.cells #[.bool a.ch, .slice A a.sh.length ca, .slice D a.da.length cd] 25)).alloc (.cells #[.bool false, .slice none 0 0, .slice none 0 0] 25)) (ha.mono (below_three _ _ _ _)) h)
  obtain ⟨x, hx⟩ : ∃ x, x = foldErr f axis a := ⟨_, rfl⟩
  rw [← hx] at HAL ⊢
  clear ha hs hd h hx
  go_enter Tryd.func15, Tryd.ntmps15
  have bA0 := (Box.new (w.alloc (.cells #[.int .i64 n] 3)) 25 #[.bool a.ch, .slice A a.sh.length ca, .slice D a.da.length cd]).alloc (.cells #[.bool false, .slice none 0 0, .slice none 0 0] 25)
  have bR0 := Box.new ((w.alloc (.cells #[.int .i64 n] 3)).alloc (.cells #[.bool a.ch, .slice A a.sh.length ca, .slice D a.da.length cd] 25)) 25 #[.bool false, .slice none 0 0, .slice none 0 0]
  simp only [World.size_alloc] at bA0 bR0
  have hb0 := below_three w (.cells #[.int .i64 n] 3) (.cells #[.bool a.ch, .slice A a.sh.length ca, .slice D a.da.length cd] 25) (.cells #[.bool false, .slice none 0 0, .slice none 0 0] 25)
  obtain ⟨t0, t1, t2⟩ := bA0.three
  go_wp2_with fail
  refine HAL.out.mono ?_
  rintro e w1 ⟨rfl, hb1⟩
  have bR1 := bR0.below hb1
  have hbw1 := hb0.trans (hb1.mono hb0.size)
  clear bA0 bR0 hb0 hb1 t0 t1 t2
  have bR2 := bR1.alloc (.cells #[.int .i64 0, .int .i64 0, .int .i64 0] 57)
  have hbw2 := hbw1.alloc hbw1.size (.cells #[.int .i64 0, .int .i64 0, .int .i64 0] 57)
  obtain ⟨r0, r1, r2⟩ := bR1.three
  have rf := bR1.frozen
  have lR := bR1.lt
  have rf2 := bR2.frozen
  obtain ⟨r0', r1', r2'⟩ := bR2.three
  go_wp2_with fail
  have hg2 := grownBy_three w1 (w.heap.size + 1 + 1) (.bool false) (.slice none 0 0) (.slice none 0 0)
  have hz := (hbw1.grown hg2 hbw1.size (fun j e => by cases e; omega))
  have z := ((bR1.store 0 (.bool false)).store 1 (.slice none 0 0)).store 2 (.slice none 0 0)
  simp only [List.setIfInBounds_toArray, List.set_cons_zero, List.set_cons_succ] at z
  have z' := z.alloc (.cells #[.int .i64 0, .int .i64 0, .int .i64 0] 57)
  obtain ⟨z0, z1, z2⟩ := z'.three
  refine bodyPost_ret (v := .tuple #[zeroArr, .iface 26 (.int .i64 x)]) (by simp [results, Tryd.results15, go_sem, zeroArr, z0, z1, z2]) rfl ?_
  exact ⟨rfl, hz.alloc hz.size _⟩
theorem windows_told {v : Value} {a : Arr} {w : World} {f n axis : Int} (ha : IsArr w v a) (hw : Wf a.da) :
    Calls Tryd.prog 15 #[.int .i64 f, .int .i64 n, .int .i64 axis, v] w (Told (winLine f n axis a) (winFault f n axis a) w) := by
  by_cases hE : foldErr f axis a = 0
  · obtain ⟨t, k, h, rfl, hk, hc, hf⟩ := foldErr_zero hE
    refine (windows_ok n ha h hk hf hc hw).mono fun e w' h6 => ?_
    unfold winFault winLine
    rw [if_neg (fun h => h hE), h.nsh_eq, Int.toNat_natCast]
    rcases h6 with ⟨h7, h8⟩ | ⟨h7, h8, h9⟩
    · rw [if_pos h7]; exact .inr ⟨by decide, h8⟩
    · rw [if_neg (by omega)]
      rw [lineF_prods hk] at h9
      exact h9.told
  · refine (windows_bad n ha hE).mono fun e w' h6 => .inr ?_
    unfold winFault
    rw [if_pos hE]
    exact ⟨hE, h6⟩
end Go.Proofs.YtojeggeimnenbaaDoor
