/- The walk of the law RadixValues. Conditions: none. -/
import Derived.Test.YtajcjipabfknhaaDoorRefDigit
set_option linter.unusedSimpArgs false
set_option linter.unusedVariables false
namespace Go.Proofs.YtajcjipabfknhaaDoor
open Go Go.RowKit Go.Proofs.YtajcjipabfknhaaDoor.P

theorem digits_bad (v : Value) (bs : List Int) (n : Int) (w : World) (hb : IsInts w v bs) (hl : 4096 < bs.length) :
    Calls Tryd.prog 25 #[v, .int .i64 n] w (FailsInts 7 w) := by
  obtain ⟨A, c, rfl, c1, c2, c3, EB, H0⟩ := hb.open_
  have e1 : decide ((4096 : Int) < (bs.length : Int)) = true := by simp; omega
  have e2 : decide (4096 < bs.length) = true := by simpa using hl
  clear hb EB H0
  go_enter Tryd.func25, Tryd.ntmps25
  go_wp2_with fail
  refine bodyPost_ret (v := .tuple #[.slice none 0 0, .iface 23 (.int .i64 7)]) (by simp [results, Tryd.results25, go_sem]) rfl ?_
  exact ⟨rfl, Below.refl _ _⟩
theorem value_long (v1 v2 : Value) (bs ds : List Int) (w : World) (hb : IsInts w v1 bs) (hd : IsInts w v2 ds) (hl : 4096 < bs.length) :
    Calls Tryd.prog 27 #[v1, v2] w fun e w' => e = .returned (.tuple #[.int .i64 0, errV 7]) ∧ Below w.heap.size w w' := by
  obtain ⟨A, c, rfl, c1, c2, c3, EB, H0⟩ := hb.open_
  have e1 : decide ((4096 : Int) < (bs.length : Int)) = true := by simp; omega
  have e2 : decide (4096 < bs.length) = true := by simpa using hl
  clear hb EB H0 hd
  go_enter Tryd.func27, Tryd.ntmps27
  go_wp2_with fail
  refine bodyPost_ret (v := .tuple #[.int .i64 0, .iface 23 (.int .i64 7)]) (by simp [results, Tryd.results27, go_sem]) rfl ?_
  exact ⟨by rw [errV_ne (by decide)], Below.refl _ _⟩
theorem value_apart (v1 v2 : Value) (bs ds : List Int) (w : World) (hb : IsInts w v1 bs) (hd : IsInts w v2 ds) (hl : bs.length ≤ 4096) (hne : bs.length ≠ ds.length) :
    Calls Tryd.prog 27 #[v1, v2] w fun e w' => e = .returned (.tuple #[.int .i64 0, errV 4]) ∧ Below w.heap.size w w' := by
  obtain ⟨A, c, rfl, c1, c2, c3, EB, H0⟩ := hb.open_
  obtain ⟨A', c', rfl, c1', c2', c3', EB', H0'⟩ := hd.open_
  have e1 : decide ((4096 : Int) < (bs.length : Int)) = false := by simp; omega
  have e2 : decide (4096 < bs.length) = false := by simpa using hl
  have e3 : ((bs.length : Int) != (ds.length : Int)) = true := by simp; omega
  have e4 : ¬ bs.length = ds.length := hne
  clear hb EB H0 hd EB' H0' hne
  go_enter Tryd.func27, Tryd.ntmps27
  go_wp2_with fail
  refine bodyPost_ret (v := .tuple #[.int .i64 0, .iface 23 (.int .i64 4)]) (by simp [results, Tryd.results27, go_sem]) rfl ?_
  exact ⟨by rw [errV_ne (by decide)], Below.refl _ _⟩

set_option maxRecDepth 100000 in
set_option maxHeartbeats 8000000 in
theorem radixValues_walk (v0 : Value) (bs : List Int) (v1 : Value) (ds : List Int) (n : Int) (w : World) (hg : Laid0 w) (hb : IsInts w v0 bs) (hw : ∀ x ∈ bs, (Lit.int .i64 x).wf = true) (hd : IsInts w v1 ds) (hn : (Lit.int .i64 n).wf = true) :
    Calls Tryd.prog 6 #[v0, v1, .int .i64 n] w (Says w) := by
  have HB := Lib.hid hb
  have HD := Lib.hid hd
  have HW := Lib.hid hw
  have HN := Lib.hid (wf_range hn)
  obtain ⟨A, c, rfl, c1, c2, c3, EB, H0⟩ := hb.open_
  obtain ⟨A', c', rfl, c1', c2', c3', EB', H0'⟩ := hd.open_
  clear hb EB H0 hd EB' H0' hw hn
  go_enter Tryd.func6, Tryd.ntmps6
  by_cases hl : 4096 < bs.length
  · have e1 : decide ((4096 : Int) < (bs.length : Int)) = true := by simp; omega
    have e2 : decide (4096 < bs.length) = true := by simpa using hl
    have HL := Lib.hid hl
    clear hl
    go_wp2_with fail
    refine (digits_bad _ bs n _ HB.out HL.out).mono ?_
    rintro e w1 ⟨rfl, hb1⟩
    go_wp2_with fail
    refine ((show Calls _ _ _ _ _ from by have h := ints_yes 7 (.slice none 0 0) (.slice none 0 0) [] w1 (hg.mono hb1) (ints_none _) (ints_none _); rw [errV_ne (by decide)] at h; exact h)).mono ?_
    rintro e w2 ⟨rfl, hb2⟩
    have hbw2 := hb1.trans (hb2.mono hb1.size)
    clear hb1 hb2
    go_wp2_with fail
    refine (value_long _ _ bs ds _ (HB.out.mono hbw2) (HD.out.mono hbw2) HL.out).mono ?_
    rintro e w3 ⟨rfl, hb3⟩
    have hbw3 := hbw2.trans (hb3.mono hbw2.size)
    clear hbw2 hb3
    go_wp2_with fail
    refine (error_any 7 7 _ (hg.mono hbw3)).mono ?_
    rintro e w4 ⟨r, rfl, hr, hb4⟩
    obtain rfl : r = true := hr.2 rfl
    have hbw4 := hbw3.trans (hb4.mono hbw3.size)
    clear hr hb4 hbw3
    go_wp2_with fail
    go_ret
    exact ⟨rfl, hbw4⟩
  · have e1 : decide ((4096 : Int) < (bs.length : Int)) = false := by simp; omega
    have e2 : decide (4096 < bs.length) = false := by simpa using hl
    have HL := Lib.hid (show bs.length ≤ 4096 by omega)
    clear hl
    go_wp2_with fail
    refine (digited_ok bs n _ w HB.out HL.out HW.out HN.out).mono ?_
    rintro e w1 ⟨A1, c1, rfl, ho, hb1⟩
    have HO := Lib.hid ho.isInts
    clear ho
    go_wp2_with fail
    refine (digits_ok _ bs n _ (HB.out.mono hb1) HL.out).mono ?_
    rintro e w2 ⟨r2, rfl, hr2, hb2⟩
    have HO2 := Lib.hid (HO.out.mono hb2)
    have hbw2 := hb1.trans (hb2.mono hb1.size)
    have HI := Lib.hid (show Calls Tryd.prog 13 #[r2, .nilIface, .slice A1 (digs bs n).1.length c1, .int .i64 0] w2 fun e w' => e = .returned (.bool true) ∧ Below w2.heap.size w2 w' from ints_yes 0 _ _ (digs bs n).1 _ (hg.mono hbw2) hr2 HO2.out)
    clear hb1 hb2 hr2 HO HO2
    go_wp2_with fail
    refine HI.out.mono ?_
    rintro e w3 ⟨rfl, hb3⟩
    have hbw3 := hbw2.trans (hb3.mono hbw2.size)
    clear hbw2 hb3 HI
    by_cases hq : bs.length = ds.length
    · have e3 : ((bs.length : Int) != (ds.length : Int)) = false := by simp [hq]
      have e4 : (bs.length : Int) = (ds.length : Int) := by omega
      have HQ := Lib.hid hq
      have HV := Lib.hid (valued_ok _ _ bs ds w3 (HB.out.mono hbw3) (HD.out.mono hbw3) hq.symm)
      have HV2 := Lib.hid (value_ok _ _ bs ds w3 (HB.out.mono hbw3) (HD.out.mono hbw3) HL.out hq.symm)
      obtain ⟨V, hV⟩ : ∃ V, V = wrap64 (hv bs ds) := ⟨_, rfl⟩
      rw [← hV] at HV HV2
      clear hq hV
      go_wp2_with fail
      refine HV.out.mono ?_
      rintro e w4 ⟨rfl, rfl⟩
      go_wp2_with fail
      refine HV2.out.mono ?_
      rintro e w4 ⟨rfl, hb4⟩
      have hbw4 := hbw3.trans (hb4.mono hbw3.size)
      have HE := Lib.hid (show Calls Tryd.prog 9 #[.nilIface, .int .i64 0] w4 (TellsB ((0 : Int) = 0) w4) from error_any 0 0 _ (hg.mono hbw4))
      clear hb4 HV HV2
      go_wp2_with fail
      refine HE.out.mono ?_
      rintro e w5 ⟨r, rfl, hr, hb5⟩
      obtain rfl : r = true := hr.2 (by trivial)
      have hbw5 := hbw4.trans (hb5.mono hbw4.size)
      clear hr hb5 hbw3 hbw4 HE
      go_wp2_with fail
      go_ret
      exact ⟨rfl, hbw5⟩
    · have e3 : ((bs.length : Int) != (ds.length : Int)) = true := by simp; omega
      have e4 : ¬ bs.length = ds.length := hq
      have HQ := Lib.hid hq
      clear hq
      go_wp2_with fail
      refine (value_apart _ _ bs ds _ (HB.out.mono hbw3) (HD.out.mono hbw3) HL.out HQ.out).mono ?_
      rintro e w4 ⟨rfl, hb4⟩
      have hbw4 := hbw3.trans (hb4.mono hbw3.size)
      clear hb4 hbw3
      go_wp2_with fail
      refine (error_any 4 4 _ (hg.mono hbw4)).mono ?_
      rintro e w5 ⟨r, rfl, hr, hb5⟩
      obtain rfl : r = true := hr.2 rfl
      have hbw5 := hbw4.trans (hb5.mono hbw4.size)
      clear hr hb5 hbw4
      go_wp2_with fail
      go_ret
      exact ⟨rfl, hbw5⟩

end Go.Proofs.YtajcjipabfknhaaDoor
