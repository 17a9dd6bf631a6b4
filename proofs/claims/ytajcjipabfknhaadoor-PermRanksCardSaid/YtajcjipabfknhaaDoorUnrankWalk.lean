/- The walk of perm.Unrank. Conditions: none. -/
import Derived.StillTailTactics
import Derived.Test.YtajcjipabfknhaaDoorDelete
import Derived.Test.YtajcjipabfknhaaDoorLeft
import Derived.Test.YtajcjipabfknhaaDoorPermOps
set_option linter.unusedSimpArgs false
set_option linter.unusedVariables false
namespace Go.Proofs.YtajcjipabfknhaaDoor
open Go Go.RowKit Go.Proofs.YtajcjipabfknhaaDoor.P

theorem fac_wrap {i n : Nat} (h : i < n) (hn : n ≤ 12) : wrap64 (((fac i : Nat) : Int) * ((i : Int) + 1)) = ((fac (i + 1) : Nat) : Int) := by
  have h1 := fac_le (n := i + 1) (by omega)
  have e : ((fac i : Nat) : Int) * ((i : Int) + 1) = ((fac (i + 1) : Nat) : Int) := by
    simp only [fac]
    rw [Int.natCast_mul, Int.mul_comm]
    rfl
  rw [e]
  unfold wrap64
  omega
theorem fac_div (j : Nat) : fac (j + 1) / (j + 1) = fac j := by
  simp only [fac]
  exact Nat.mul_div_cancel_left _ (by omega)
theorem fac_quo {j : Nat} (h : j + 1 ≤ 12) : wrap64 (((fac (j + 1) : Nat) : Int) / ((j : Int) + 1)) = ((fac j : Nat) : Int) := by
  have h1 := fac_le (n := j) (by omega)
  have e : ((fac (j + 1) : Nat) : Int) / ((j : Int) + 1) = ((fac j : Nat) : Int) := by
    have e2 : ((j : Int) + 1) = ((j + 1 : Nat) : Int) := rfl
    rw [e2, ← Int.natCast_ediv, fac_div]
  rw [e]
  generalize fac j = z at *
  unfold wrap64
  omega
theorem nat_beq0 {f : Nat} (h : 0 < f) : ((f : Int) == 0) = false := by
  rw [beq_eq_false_iff_ne]
  omega
theorem quo_wrap {q f : Nat} (hq : q ≤ 479001600) : wrap64 ((q : Int) / (f : Int)) = ((q / f : Nat) : Int) := by
  have := Nat.div_le_self q f
  rw [← Int.natCast_ediv]
  generalize q / f = z at *
  unfold wrap64
  omega
theorem succ_wrap {d : Nat} (h : d ≤ 4096) : wrap64 ((d : Int) + 1) = (d : Int) + 1 := by
  unfold wrap64
  omega
theorem range_snoc (i : Nat) : ints (List.range i) ++ [(i : Int)] = ints (List.range (i + 1)) := by rw [List.range_succ]; simp [ints]

theorem ints_erase : ∀ (l : List Nat) (d : Nat), (ints l).eraseIdx d = ints (l.eraseIdx d)
  | [], d => by simp [ints]
  | x :: l, 0 => rfl
  | x :: l, d + 1 => by
    have := ints_erase l d
    simp only [ints, List.map_cons, List.eraseIdx_cons_succ] at this ⊢
    rw [this]

set_option maxRecDepth 100000 in
set_option maxHeartbeats 4000000 in
theorem unrank_ok (n K : Nat) (w : World) (hn : n ≤ 12) (hK : K < fac n) :
    Calls Tryd.prog 32 #[.int .i64 n, .int .i64 K] w (GivesInts (ints (unrank n K)) w) := by
  have g1 : decide ((12 : Int) < n) = false := by simp; omega
  have g2 : ¬ 12 < n := by omega
  go_enter Tryd.func32, Tryd.ntmps32
  go_wp2_with fail
  go_loopw [19, 6] (fun i a wr => ∃ k : Nat, k ≤ n ∧ i = .int .i64 k ∧ a = .int .i64 ((fac k : Nat) : Int) ∧ Below w.heap.size w wr) (fun i _ _ => n - (intOf i).toNat)
  case atStart => exact ⟨0, Nat.zero_le _, rfl, rfl, Below.refl _ _⟩
  case round =>
    obtain ⟨k, hk, rfl, rfl, hbl⟩ := hrel
    rcases Nat.lt_or_ge k n with hlt | hge
    · have hf := fac_wrap hlt hn
      have HF := Lib.hid hf
      clear hf
      go_wp2_with fail
      go_roundw
      case rel => exact ⟨k + 1, by omega, by go_num, congrArg _ HF.out, hbl⟩
      case measure => simp [intOf]; omega
    · have hkn : k = n := by omega
      subst hkn
      have g3 : decide (fac k ≤ K) = false := by simp; omega
      go_wp2_with fail
      go_loopw [36, 8] (fun i o wr => ∃ (i' : Nat) (A : Option Addr) (c : Nat), i' ≤ k ∧ i = .int .i64 i' ∧ o = .slice A i' c ∧ Owns wr w.heap.size (.slice A i' c) i' (ints (List.range i')) ∧ Below w.heap.size w wr) (fun i _ _ => k - (intOf i).toNat)
      case atStart => exact ⟨0, none, 0, Nat.zero_le _, rfl, rfl, Owns.nil _ _, hbl⟩
      case round =>
        clear hbl
        obtain ⟨i', A', c1, hi', rfl, rfl, hown, hbl⟩ := hrel
        rcases Nat.lt_or_ge i' k with hlt | hge
        · have hsz := hbl.size
          go_wp2_with (at_builtin; refine wpList_append_ints _ rfl rfl _ _ rfl w.heap.size i' _ (ints (List.range i')) rfl (hown.alloc _) (some ⟨wr.heap.size, 0, none⟩) 1 1 [(i' : Int)] rfl (by simp) (elems_new wr i') rfl (by omega) (by simp; omega) ?_; intro A2 c2 w1 hown1 hgrow hat)
          rw [range_snoc] at hown1
          have hb2 : Below w.heap.size w w1 := below_grown (hbl.alloc hsz _) (hown.alloc _) hgrow
          go_roundw
          case rel => exact ⟨i' + 1, A2, c2, by omega, by go_num, rfl, hown1, hb2⟩
          case measure => simp [intOf]; omega
        · have hik : i' = k := by omega
          subst hik
          go_wp2_with fail
          have h0 : unrank i' K = [] ++ P.decode (List.range i') (lds i' K) := rfl
          have H0 := Lib.hid h0
          clear h0
          go_loopw [11, 6, 8, 10, 1] (fun mv av lv ov kv wr => ∃ (m q : Nat) (lf o : List Nat) (A : Option Addr) (c : Nat) (A2 : Option Addr) (c2 : Nat), m ≤ i' ∧ mv = .int .i64 m ∧ av = .int .i64 ((fac m : Nat) : Int) ∧ lv = .slice A m c ∧ ov = .slice A2 (i' - m) c2 ∧ kv = .int .i64 q ∧ q < fac m ∧ lf.length = m ∧
              Owns wr w.heap.size (.slice A m c) m (ints lf) ∧ Owns wr w.heap.size (.slice A2 (i' - m) c2) (i' - m) (ints o) ∧ ((Value.slice A m c).ownBlock = none ∨ (Value.slice A m c).ownBlock ≠ (Value.slice A2 (i' - m) c2).ownBlock) ∧ unrank i' K = o ++ P.decode lf (lds m q) ∧ Below w.heap.size w wr)
            (fun mv _ _ _ _ _ => (intOf mv).toNat)
          case atStart =>
            refine ⟨i', K, List.range i', [], A', c1, none, 0, Nat.le_refl _, rfl, rfl, rfl, by rw [Nat.sub_self], rfl, hK, by simp, hown, by rw [Nat.sub_self]; exact Owns.nil _ _, ?_, H0.out, hbl⟩
            cases h : (Value.slice A' i' c1).ownBlock
            · exact .inl rfl
            · exact .inr (by simp [Value.ownBlock])
          case round =>
            clear hown hbl
            obtain ⟨m, q, lf, o, A, c, A2, c2, hm, rfl, rfl, rfl, rfl, rfl, hq, hlf, hown, hout, hne, hun, hbl⟩ := hrel
            have HUN := Lib.hid hun
            have HLF := Lib.hid hlf
            clear hun hlf
            rcases Nat.eq_zero_or_pos m with hz | hp
            · subst hz
              have ho : unrank i' K = o := by rw [HUN.out]; simp [lds, P.decode]
              have hi := hout.isInts
              rw [← ho] at hi
              rw [Nat.sub_zero] at hi ⊢
              have HI := Lib.hid hi
              clear hi ho hown hout hne
              go_wp2_with fail
              refine bodyPost_ret (v := .tuple #[.slice A2 i' c2, .nilIface]) (by simp [results, Tryd.results32, go_sem]) rfl ?_
              exact ⟨_, rfl, HI.out, hbl⟩
            · obtain ⟨j, rfl⟩ : ∃ j, m = j + 1 := ⟨m - 1, by omega⟩
              obtain ⟨g, rfl, hgB, hM⟩ := hown.mine (by omega)
              obtain ⟨f, hf⟩ : ∃ f, f = fac j := ⟨_, rfl⟩
              have hfp : 0 < f := by rw [hf]; exact fac_pos j
              have hfd := fac_quo (j := j) (by omega)
              rw [← hf] at hfd
              have hf0 : ¬ f = 0 := Nat.ne_of_gt hfp
              have hf1 := nat_beq0 hfp
              have hqs : q ≤ 479001600 := Nat.le_trans (Nat.le_of_lt hq) (fac_le (n := j + 1) (Nat.le_trans hm hn))
              have hqd := quo_wrap (f := f) hqs
              obtain ⟨d, hd⟩ : ∃ d, d = q / f := ⟨_, rfl⟩
              rw [← hd] at hqd
              have hdj : d < j + 1 := by
                rw [hd, hf]
                exact (Nat.div_lt_iff_lt_mul (fac_pos j)).2 hq
              obtain ⟨q2, hq2⟩ : ∃ q2, q2 = q % f := ⟨_, rfl⟩
              have hq2f : q2 < f := by rw [hq2]; exact Nat.mod_lt _ hfp
              have hqm : (q : Int) % (f : Int) = (q2 : Int) := by rw [hq2]; exact (Int.natCast_emod _ _).symm
              have hgx := hM.cell (k := d) (ints_get (by rw [HLF.out]; exact hdj))
              obtain ⟨x, hx⟩ : ∃ x, x = lf.getD d 0 := ⟨_, rfl⟩
              rw [← hx] at hgx
              have hglt := hM.lt
              have HF := Lib.hid hf
              have HD := Lib.hid hd
              have HX := Lib.hid hx
              have HQ2 := Lib.hid hq2
              have hsz := hbl.size
              clear hf hd hx hq2 hM hqs
              go_wp2_with (at_builtin; refine wpList_append_ints _ rfl rfl _ _ rfl w.heap.size (i' - (j + 1)) _ (ints o) rfl (hout.alloc _) (some ⟨wr.heap.size, 0, none⟩) 1 1 [(x : Int)] rfl (by simp) (elems_new wr x) rfl (by omega) (by simp; omega) ?_; intro A3 c3 w1 hown1 hgrow hat)
              have hneg : some g ≠ (Value.slice A2 (i' - (j + 1)) c2).ownBlock := by
                rcases hne with h | h
                · simp [Value.ownBlock] at h
                · simpa [Value.ownBlock] using h
              have hneg2 : some g ≠ (Value.slice A3 (i' - (j + 1) + 1) c3).ownBlock := by
                rcases hat with h | h
                · rw [h]; exact hneg
                · rw [h, World.size_alloc]
                  intro e
                  injection e with e
                  omega
              have hL1 : Owns w1 w.heap.size (.slice (some ⟨g, 0, none⟩) (j + 1) c) (j + 1) (ints lf) := (hown.alloc _).kept hgrow (.inr hneg)
              have hb1 : Below w.heap.size w w1 := below_grown (hbl.alloc hsz _) (hout.alloc _) hgrow
              have hL2 := hL1.drew
              have hO2 := hown1.drew
              have hb2 : Below w.heap.size w w1.drew := hb1.drew
              have HN2 := Lib.hid hneg2
              have HDJ := Lib.hid hdj
              clear hL1 hown1 hb1 hgrow hat hown hout hne hneg hneg2 hgx hglt hbl
              go_still_tail 8, (by kernel_rfl)
              change wpList _ _ _ _ _ w1.drew
              generalize w1.drew = wd at hL2 hO2 hb2 ⊢
              go_wp2_with fail
              rw [hqd, succ_wrap (d := d) (Nat.le_trans (Nat.le_of_lt_succ HDJ.out) (Nat.le_trans (Nat.le_of_succ_le hm) (Nat.le_trans hn (by decide))))]
              refine (delete_ok w.heap.size g (j + 1) c d (ints lf) _ hL2 HDJ.out).mono ?_
              rintro en w2 ⟨rfl, hL3, hgr⟩
              have hO3 := hO2.kept hgr (.inr HN2.out.symm)
              have hb3 : Below w.heap.size w w2 := hb2.grown hgr hb2.size (fun k e => by cases e; exact hgB)
              clear hgr hL2 hO2 hb2
              go_wp2_with fail
              go_roundw
              case rel =>
                have ej : i' - (j + 1) + 1 = i' - j := by have := hm; omega
                rw [ej] at hO3 ⊢
                refine ⟨j, q2, lf.eraseIdx d, o ++ [x], some ⟨g, 0, none⟩, c, A3, c3, Nat.le_of_succ_le hm, rfl, by rw [HF.out], rfl, rfl, congrArg _ hqm, by rw [← HF.out]; exact hq2f, ?_, ?_, ?_, ?_, ?_, hb3⟩
                · rw [List.length_eraseIdx_of_lt (by rw [HLF.out]; exact HDJ.out), HLF.out]; rfl
                · rw [← ints_erase]; exact hL3
                · have e : ints (o ++ [x]) = ints o ++ [(x : Int)] := by simp [ints]
                  rw [e]; exact hO3
                · refine .inr ?_
                  have := HN2.out
                  rw [ej] at this
                  simpa [Value.ownBlock] using this
                · rw [HUN.out, List.append_assoc]
                  simp only [lds, P.decode]
                  rw [← HF.out, ← HD.out, ← HX.out, ← HQ2.out]
                  rfl
              case measure => simp [intOf]

end Go.Proofs.YtajcjipabfknhaaDoor
