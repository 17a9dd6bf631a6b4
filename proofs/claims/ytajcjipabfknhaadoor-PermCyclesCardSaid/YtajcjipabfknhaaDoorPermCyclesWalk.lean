/- The walk of the law PermCycles. Conditions: none. -/
import Derived.Test.YtajcjipabfknhaaDoorCycTold
import Derived.Test.YtajcjipabfknhaaDoorIntsSame
set_option linter.unusedSimpArgs false
set_option linter.unusedVariables false
namespace Go.Proofs.YtajcjipabfknhaaDoor
open Go Go.RowKit Go.Proofs.YtajcjipabfknhaaDoor.P

set_option maxRecDepth 100000 in
set_option maxHeartbeats 4000000 in
theorem permCycles_walk (v0 : Value) (p : List Int) (w : World) (hg : Laid0 w) (hp : IsInts w v0 p) :
    Calls Tryd.prog 5 #[v0] w (Says w) := by
  go_enter Tryd.func5, Tryd.ntmps5
  go_wp2_with fail
  refine (ofault_any _ p _ hp).mono ?_
  rintro e w0 ⟨rfl, rfl⟩
  have hbw2 := Below.refl w.heap.size w
  have T1 := fun W (h : Below w.heap.size w W) => cycles_told v0 p W (hp.mono h)
  have T2 := fun W (h : Below w.heap.size w W) => sign_told v0 p W (hp.mono h)
  have B1 := fun W (h : Below w.heap.size w W) c => rounds_told v0 p W (hp.mono h) c
  have B2 := fun W (h : Below w.heap.size w W) c => signed_told v0 p W (hp.mono h) c
  have hcn : ordErr p ≠ 0 → cansw p = [] := fun h => if_neg h
  have hsn : ordErr p ≠ 0 → sansw p = 0 := fun h => if_neg h
  obtain ⟨k, hk⟩ : ∃ k, k = ordErr p := ⟨_, rfl⟩
  obtain ⟨cs, hcs⟩ : ∃ cs, cs = cansw p := ⟨_, rfl⟩
  obtain ⟨sg, hsg⟩ : ∃ sg, sg = sansw p := ⟨_, rfl⟩
  rw [← hk, ← hcs] at T1
  rw [← hk, ← hsg] at T2
  rw [← hk, ← hcs] at B1
  rw [← hk, ← hsg] at B2
  rw [← hk, ← hcs] at hcn
  rw [← hk, ← hsg] at hsn
  rw [← hk]
  have T1 := Lib.hid T1
  have T2 := Lib.hid T2
  have B1 := Lib.hid B1
  have B2 := Lib.hid B2
  clear hk hcs hsg hp
  obtain ⟨w1, hw1⟩ : ∃ W, W = w := ⟨_, rfl⟩
  have hbw2 : Below w.heap.size w w1 := by rw [hw1]; exact hbw2
  rw [← hw1]
  clear hw1
  by_cases c1 : k = 0
  · have e1 : (k == 0) = true := by simp [c1]
    have HC := Lib.hid c1
    clear c1 hcn hsn
    go_wp2_with fail
    refine (B1.out _ hbw2 HC.out).mono ?_
    rintro e w2 ⟨rv, vs2, rfl, hv2, hl2, hb2⟩
    have hbw3 := hbw2.trans (hb2.mono hbw2.size)
    clear hb2 hbw2
    go_wp2_with fail
    refine (B2.out _ hbw3 HC.out).mono ?_
    rintro e w3 ⟨rfl, hb3⟩
    have hbw2 := hbw3.trans (hb3.mono hbw3.size)
    have hv2 := hv2.mono hb3
    have hl2 := hl2.imp fun v n xs h => Owns.below h hb3
    clear hb3 hbw3 e1
    go_wp2_with fail
    refine (T1.out _ hbw2).mono ?_
    rintro e w4 ⟨r4, vs4, rfl, hv4, hl4, hb4⟩
    have hbw4 := hbw2.trans (hb4.mono hbw2.size)
    have hv2 := hv2.mono hb4
    have hl2 := hl2.imp fun v n xs h => Owns.below h hb4
    obtain ⟨A4, c4, rfl, p1, p2, p3⟩ := hv4
    obtain ⟨A2, c2, rfl, q1, q2, q3⟩ := hv2
    have hP3 := Lib.hid p3
    have hQ3 := Lib.hid q3
    have HL4 := Lib.hid hl4
    have HL2 := Lib.hid hl2
    rw [hl4.1] at p1 ⊢
    rw [hl2.1] at q1 ⊢
    clear hl4 hl2 hb4 p3 q3
    obtain ⟨N, hN⟩ : ∃ N, N = cs.length := ⟨_, rfl⟩
    rw [← hN] at p1 q1 ⊢
    have HN := Lib.hid hN
    clear hN
    go_wp2_with fail
    refine (error_any k k _ (hg.mono hbw4)).mono ?_
    rintro e w5 ⟨r, rfl, hr, hb5⟩
    obtain rfl : r = true := hr.2 rfl
    clear hr
    have hbw5 := hbw4.trans (hb5.mono hbw4.size)
    have HB5 := Lib.hid hb5
    clear hb5
    go_wp2_with fail
    go_loopw [9] (fun si wr => ∃ i : Nat, i ≤ N ∧ si = .int .i64 i ∧ Below w5.heap.size w5 wr) (fun si _ => N - (intOf si).toNat)
    case atStart => exact ⟨0, Nat.zero_le _, rfl, Below.refl _ _⟩
    case round =>
      obtain ⟨i, hi, rfl, hbr⟩ := hrel
      rcases Nat.lt_or_ge i N with hlt | hge
      · have h4l : i < vs4.length := by rw [HL4.out.1, ← HN.out]; exact hlt
        have h2l : i < vs2.length := by rw [HL2.out.1, ← HN.out]; exact hlt
        have hcl : i < cs.length := by rw [← HN.out]; exact hlt
        have hb4r := HB5.out.trans (hbr.mono HB5.out.size)
        obtain ⟨ad4, rfl, ha4, hc4⟩ := hP3.out i vs4[i] (List.getElem?_eq_getElem h4l)
        obtain ⟨ad2, rfl, ha2, hc2⟩ := hQ3.out i vs2[i] (List.getElem?_eq_getElem h2l)
        have o4 := HL4.out.2 i _ _ (List.getElem?_eq_getElem h4l) (List.getElem?_eq_getElem hcl)
        have o2 := HL2.out.2 i _ _ (List.getElem?_eq_getElem h2l) (List.getElem?_eq_getElem hcl)
        generalize cs[i] = ci at o4 o2
        have hc4 := (hb4r.cell (p := ad4.add i) (by rw [addr_block_add]; exact ha4)).trans hc4
        have hc2 := (hb4r.cell (p := ad2.add i) (by rw [addr_block_add]; exact ha2)).trans hc2
        have i4 := (Owns.below o4 hb4r).isInts
        have i2 := (Owns.below o2 hb4r).isInts
        obtain ⟨D4, e4, s4, -⟩ := o4.form
        obtain ⟨D2, e2, s2, -⟩ := o2.form
        rw [s4] at hc4 i4
        rw [s2] at hc2 i2
        have HS := Lib.hid (fun n => ints_same _ _ _ (wr.drewN n) (i4.mono (below_draws _ _ _)) (i2.mono (below_draws _ _ _)))
        clear o4 o2 s4 s2 i4 i2
        go_wp2_with fail
        go_quiet ((exact Calls.quiet_of (HS.out _)))
        all_goals go_wp2_with fail
        go_roundw
        case rel => exact ⟨i + 1, by omega, by go_num, hbr.trans (below_draws _ _ _)⟩
        case measure => simp [intOf]; omega
      · obtain rfl : i = N := by omega
        have hbw6 := hbw5.trans (hbr.mono hbw5.size)
        go_wp2_with fail
        refine (T2.out _ hbw6).mono ?_
        rintro e w7 ⟨rfl, hb7⟩
        have hbw7 := hbw6.trans (hb7.mono hbw6.size)
        clear hb7
        go_wp2_with fail
        refine (error_any k k _ (hg.mono hbw7)).mono ?_
        rintro e w8 ⟨r, rfl, hr, hb8⟩
        obtain rfl : r = true := hr.2 rfl
        clear hr
        have hbw8 := hbw7.trans (hb8.mono hbw7.size)
        clear hb8
        go_wp2_with fail
        go_ret
        exact ⟨rfl, hbw8⟩
  · have e1 : (k == 0) = false := by simp [c1]
    have hs0 := hsn c1
    have HC0 := Lib.hid (hcn c1)
    clear hcn hsn
    subst hs0
    clear c1
    go_wp2_with fail
    refine (T1.out _ hbw2).mono ?_
    rintro e w4 ⟨r4, vs4, rfl, hv4, hl4, hb4⟩
    have hbw4 := hbw2.trans (hb4.mono hbw2.size)
    obtain ⟨A4, c4, rfl, p1, p2, p3⟩ := hv4
    have hP3 := Lib.hid p3
    have HL4 := Lib.hid hl4
    rw [hl4.1] at p1 ⊢
    clear hl4 hb4 p3
    obtain ⟨N, hN⟩ : ∃ N, N = cs.length := ⟨_, rfl⟩
    rw [← hN] at p1 ⊢
    have HN := Lib.hid hN
    have HN0 := Lib.hid (show N = 0 by rw [hN, HC0.out]; rfl)
    have e5 : ((N : Int) != 0) = false := by rw [HN0.out]; rfl
    clear hN
    go_wp2_with fail
    refine (error_any k k _ (hg.mono hbw4)).mono ?_
    rintro e w5 ⟨r, rfl, hr, hb5⟩
    obtain rfl : r = true := hr.2 rfl
    clear hr
    have hbw5 := hbw4.trans (hb5.mono hbw4.size)
    have HB5 := Lib.hid hb5
    clear hb5
    go_wp2_with fail
    go_loopw [9] (fun si wr => ∃ i : Nat, i ≤ N ∧ si = .int .i64 i ∧ Below w5.heap.size w5 wr) (fun si _ => N - (intOf si).toNat)
    case atStart => exact ⟨0, Nat.zero_le _, rfl, Below.refl _ _⟩
    case round =>
      obtain ⟨i, hi, rfl, hbr⟩ := hrel
      rcases Nat.lt_or_ge i N with hlt | hge
      · exact absurd hlt (by have := HN0.out; omega)
      · obtain rfl : i = N := by omega
        have hbw6 := hbw5.trans (hbr.mono hbw5.size)
        go_wp2_with fail
        refine (T2.out _ hbw6).mono ?_
        rintro e w7 ⟨rfl, hb7⟩
        have hbw7 := hbw6.trans (hb7.mono hbw6.size)
        clear hb7
        go_wp2_with fail
        refine (error_any k k _ (hg.mono hbw7)).mono ?_
        rintro e w8 ⟨r, rfl, hr, hb8⟩
        obtain rfl : r = true := hr.2 rfl
        clear hr
        have hbw8 := hbw7.trans (hb8.mono hbw7.size)
        clear hb8
        go_wp2_with fail
        go_ret
        exact ⟨rfl, hbw8⟩

end Go.Proofs.YtajcjipabfknhaaDoor
