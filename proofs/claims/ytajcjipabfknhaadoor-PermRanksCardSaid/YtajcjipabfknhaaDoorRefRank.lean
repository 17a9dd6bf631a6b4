/- The walks of the references Factorial, Ranked, Unranked. Conditions: none. -/
import Derived.Test.YtajcjipabfknhaaDoorRefTurned
import Derived.Test.YtajcjipabfknhaaDoorRankPlain
import Derived.Test.YtajcjipabfknhaaDoorRankWalk
import Derived.Test.YtajcjipabfknhaaDoorUnrankWalk
set_option linter.unusedSimpArgs false
set_option linter.unusedVariables false
namespace Go.Proofs.YtajcjipabfknhaaDoor
open Go Go.RowKit Go.Proofs.YtajcjipabfknhaaDoor.P

theorem fac_top {n : Nat} (h : n ≤ 12) : fac n ≤ 479001600 := fac_le h

set_option maxHeartbeats 1000000 in
theorem fact_ok (n : Nat) (hn : n ≤ 12) (w : World) :
    Calls Tryd.prog 30 #[.int .i64 n] w fun e w' => e = .returned (.int .i64 (fac n : Nat)) ∧ w = w' := by
  go_enter Tryd.func30, Tryd.ntmps30
  go_wp2_with fail
  go_loop [3, 4] (fun sf si => ∃ k : Nat, 1 ≤ k ∧ (k ≤ n ∨ k = 1) ∧ sf = .int .i64 (fac k : Nat) ∧ si = .int .i64 ((k : Int) + 1)) (fun _ si => n + 1 - (intOf si).toNat)
  case atStart => exact ⟨1, Nat.le_refl _, .inr rfl, rfl, rfl⟩
  case round =>
    obtain ⟨k, hk1, hk, rfl, rfl⟩ := hrel
    rcases Nat.lt_or_ge k n with hlt | hge
    · have e1 : decide ((k : Int) + 1 ≤ (n : Int)) = true := by simp; omega
      have HF := Lib.hid (fac_wrap hlt hn)
      clear hk
      go_wp2_with fail
      go_round
      case rel => exact ⟨k + 1, by omega, .inl (by omega), congrArg _ HF.out, by go_num⟩
      case measure => simp [intOf]; omega
    · have e1 : decide ((k : Int) + 1 ≤ (n : Int)) = false := by simp; omega
      have HF := Lib.hid (show fac k = fac n by
        rcases hk with h | h
        · rw [show k = n by omega]
        · rcases Nat.eq_zero_or_pos n with h0 | h0
          · rw [h, h0]; rfl
          · rw [show k = n by omega])
      clear hk
      go_wp2_with fail
      go_ret
      exact ⟨by rw [← HF.out]; rfl, rfl⟩

theorem rk_mul_wrap {r c f : Nat} (h : r + c * f ≤ 479001600) : wrap64 ((r : Int) + wrap64 ((c : Int) * (f : Int))) = ((r + c * f : Nat) : Int) := by
  have e : (c : Int) * (f : Int) = ((c * f : Nat) : Int) := by simp
  rw [e]
  unfold wrap64
  omega

set_option maxRecDepth 100000 in
set_option maxHeartbeats 4000000 in
theorem ranked_ok (v : Value) (p : List Nat) (w : World) (h1 : IsInts w v (ints p)) (hp : Perm p) (hl : p.length ≤ 12) :
    Calls Tryd.prog 28 #[v] w fun e w' => e = .returned (.int .i64 (rank p : Nat)) ∧ Below w.heap.size w w' := by
  obtain ⟨A, ca, rfl, a1, a2, a3, EA, H0⟩ := h1.open_
  simp only [length_ints] at a1 a2 a3 EA H0 ⊢
  have HE := Lib.hid EA
  have HR := Lib.hid (rank_rk hp)
  have HB := Lib.hid (show rk p ≤ 479001600 by rw [← rank_rk hp]; exact Nat.le_trans (Nat.le_of_lt (rank_lt hp)) (fac_top hl))
  clear h1 hp EA H0
  go_enter Tryd.func28, Tryd.ntmps28
  go_wp2_with fail
  go_loopw [3, 4] (fun sr si wr => ∃ k r : Nat, k ≤ p.length ∧ si = .int .i64 k ∧ sr = .int .i64 r ∧ r + rk (p.drop k) = rk p ∧ Below w.heap.size w wr) (fun _ si _ => p.length - (intOf si).toNat)
  case atStart => exact ⟨0, 0, Nat.zero_le _, rfl, rfl, by simp, Below.refl _ _⟩
  case round =>
    obtain ⟨k, r, hk, rfl, rfl, hrk, hbl⟩ := hrel
    rcases Nat.lt_or_ge k p.length with hlt | hge
    · have HRK := Lib.hid hrk
      have HBL := Lib.hid hbl
      clear hrk hbl
      go_wp2_with fail
      obtain ⟨wo, rfl⟩ : ∃ wo : World, wo = wr := ⟨_, rfl⟩
      go_loopw [5, 6] (fun sc sj wr => ∃ j c : Nat, k + 1 ≤ j ∧ j ≤ p.length ∧ sj = .int .i64 j ∧ sc = .int .i64 c ∧ c = ((p.drop (k + 1)).take (j - (k + 1))).countP (fun y => decide (y < p.getD k 0)) ∧ c ≤ j ∧ Below w.heap.size w wr) (fun _ sj _ => p.length - (intOf sj).toNat)
      case atStart => exact ⟨k + 1, 0, Nat.le_refl _, hlt, by go_num, rfl, by simp, Nat.zero_le _, HBL.out⟩
      case round =>
        obtain ⟨j, c, hkj, hj, rfl, rfl, hc, hcj, hbl⟩ := hrel
        rcases Nat.lt_or_ge j p.length with hjl | hjg
        · obtain ⟨ad, x, rfl, hx, hal, hcx⟩ := Elems.later HE.out hbl (k := j) (by rw [length_ints]; exact hjl)
          obtain ⟨rfl, -⟩ := ints_getD hx
          obtain ⟨ae, y, rae, hy, hae, hcy⟩ := Elems.later HE.out hbl (k := k) (by rw [length_ints]; exact hlt)
          injection rae with rae
          subst rae
          obtain ⟨rfl, -⟩ := ints_getD hy
          have hcn := countP_next (p := p) (q := fun y => decide (y < p.getD k 0)) hkj hjl
          rw [← hc] at hcn
          obtain ⟨X, hX⟩ : ∃ X, X = p.getD j 0 := ⟨_, rfl⟩
          obtain ⟨Y, hY⟩ : ∃ Y, Y = p.getD k 0 := ⟨_, rfl⟩
          rw [← hX, ← hY] at hcn
          rw [← hX] at hcx
          rw [← hY] at hcy
          have HY := Lib.hid hY
          have HC := Lib.hid hcn
          have HBX := Lib.hid hbl
          clear hx hy hX hY hc hcn
          by_cases hxy : X < Y
          · have e1 : decide (X < Y) = true := by simpa using hxy
            have HC2 := Lib.hid (HC.out.trans (show c + (if decide (X < Y) = true then 1 else 0) = c + 1 by simp [hxy]))
            clear hxy hbl
            go_wp2_with fail
            go_quiet (fail)
            all_goals go_wp2_with fail
            go_roundw
            case rel => exact ⟨j + 1, c + 1, by omega, by omega, by go_num, by go_num, by rw [← HY.out, HC2.out], by omega, by first | exact HBX.out | exact HBX.out.trans (below_draws _ _ _)⟩
            case measure => simp [intOf]; omega
          · have e1 : decide (X < Y) = false := by simpa using hxy
            have HC2 := Lib.hid (HC.out.trans (show c + (if decide (X < Y) = true then 1 else 0) = c by simp [hxy]))
            clear hxy hbl
            go_wp2_with fail
            go_quiet (fail)
            all_goals go_wp2_with fail
            go_roundw
            case rel => exact ⟨j + 1, c, by omega, by omega, by go_num, by rfl, by rw [← HY.out, HC2.out], by omega, by first | exact HBX.out | exact HBX.out.trans (below_draws _ _ _)⟩
            case measure => simp [intOf]; omega
        · obtain rfl : j = p.length := by omega
          rw [countP_all] at hc
          have hrd := rk_drop (p := p) hlt
          rw [← hc] at hrd
          have hm12 : p.length - 1 - k ≤ 12 := by omega
          have HCALL := Lib.hid (fact_ok (p.length - 1 - k) hm12 wr)
          obtain ⟨F, hF⟩ : ∃ F, F = fac (p.length - 1 - k) := ⟨_, rfl⟩
          rw [← hF] at hrd HCALL
          have HRD := Lib.hid (show (r + c * F) + rk (p.drop (k + 1)) = rk p by rw [← HRK.out, hrd]; omega)
          have HWR := Lib.hid (rk_mul_wrap (r := r) (c := c) (f := F) (by have := HRD.out; have := HB.out; omega))
          clear hc hrd hF hm12
          go_wp2_with fail
          rw [show (p.length : Int) - 1 - (k : Int) = ((p.length - 1 - k : Nat) : Int) by omega]
          refine (HCALL.out).mono ?_
          rintro e w2 ⟨rfl, rfl⟩
          go_wp2_with fail
          go_roundw
          case rel => exact ⟨k + 1, r + c * F, by omega, by go_num, by rw [← HWR.out], HRD.out, hbl⟩
          case measure => simp [intOf]; omega
    · obtain rfl : k = p.length := by omega
      have HF := Lib.hid (show r = rank p by rw [HR.out, ← hrk, List.drop_length]; simp [rk])
      clear hrk
      go_wp2_with fail
      go_ret
      exact ⟨by rw [← HF.out]; rfl, hbl⟩

/-- The block of a list of marks. -/
def BRow (w : World) (g : Nat) (L : List Bool) : Prop := Box w g 4 (L.map Value.bool).toArray
theorem BRow.store {w : World} {g : Nat} {L : List Bool} (h : BRow w g L) (k : Nat) (x : Bool) : BRow (w.setCell ⟨g, k, none⟩ (.bool x)) g (L.set k x) := by
  have := Box.store h k (.bool x)
  unfold BRow
  rw [List.map_set]
  simpa using this
theorem BRow.at_ {w : World} {g : Nat} {L : List Bool} (h : BRow w g L) {k : Nat} {x : Bool} (hk : L[k]? = some x) : w.cell? ⟨g, k, none⟩ = some (.bool x) := by
  rw [Box.cell h]
  simp [hk]
theorem BRow.made (w : World) (n : Nat) : BRow (w.alloc (.cells (madeCells #[.bool false] n) 4)) w.heap.size (List.replicate n false) := by
  have e : madeCells #[.bool false] n = ((List.replicate n false).map Value.bool).toArray := by
    apply Array.ext
    · simp [madeCells]
    · intro i h1 h2
      simp [madeCells, Nat.mod_one]
  unfold BRow
  rw [← e]
  exact Box.new w _ _
theorem bool_info : (Tryd.prog.info? 4).map (fun i => (i.zero, i.size, i.bytes)) = some (some (.bool false), 1, 1) := by kernel_rfl
theorem run_make_bools (n : Nat) (hn : n ≤ 35184372088832) (w : World) :
    (Instr.makeSlice 66 (.int .i64 n) (.int .i64 n)).run Tryd.prog w = .ok (.slice (some ⟨w.heap.size, 0, none⟩) n n) (w.alloc (.cells (madeCells #[.bool false] n) 4)) := by
  obtain ⟨i0, hi, hz0, hz1, hz2⟩ := info_parts bool_info
  have hr := run_make (P := Tryd.prog) w 66 4 i0 (.bool false) Tryd.underlying66 hi hz0 .i64 .i64 n n (by omega) (by omega) (by rw [hz2]; omega) (by omega)
  rw [hz1] at hr
  simp only [Int.toNat_natCast, Nat.mul_one] at hr
  exact hr

set_option maxRecDepth 100000 in
set_option maxHeartbeats 4000000 in
theorem unranked_ok (n K : Nat) (w : World) (hn : n ≤ 12) (hK : K < fac n) :
    Calls Tryd.prog 31 #[.int .i64 n, .int .i64 K] w (GivesL (ints (unrank n K)) w) := by
  have hmk := run_make_bools n (by omega)
  have HR := Lib.hid (BRow.made w n)
  have HB := Lib.hid (below_one w (.cells (madeCells #[.bool false] n) 4))
  have HS := Lib.hid (UnTo.start hK)
  have hft := fac_top hn
  clear hK
  go_enter Tryd.func31, Tryd.ntmps31
  go_wp2_with fail
  clear hmk
  go_loopw [1, 5, 7] (fun sk so si wr => ∃ (i Kc : Nat) (U : List Bool) (O : List Nat) (A2 : Option Addr) (c2 : Nat), UnTo n K i U O Kc ∧ sk = .int .i64 Kc ∧ so = .slice A2 i c2 ∧ si = .int .i64 i ∧ Owns wr (w.heap.size + 1) so i (ints O) ∧ BRow wr w.heap.size U ∧ Below w.heap.size w wr) (fun _ _ si _ => n - (intOf si).toNat)
  case atStart => exact ⟨0, K, _, [], none, 0, HS.out, rfl, rfl, rfl, Owns.nil _ _, HR.out, HB.out⟩
  case round =>
    obtain ⟨i, Kc, U, O, A2, c2, hU, rfl, rfl, rfl, ho, hbr, hbl⟩ := hrel
    have hi := hU.2.1
    have hKf := hU.2.2.2.1
    have hft2 := fac_top (n := n - i) (by omega)
    rcases Nat.lt_or_ge i n with hlt | hge
    · have hm12 : n - 1 - i ≤ 12 := by omega
      have hft3 := fac_top hm12
      have HCALL := Lib.hid (fact_ok (n - 1 - i) hm12 wr)
      obtain ⟨F, hF⟩ : ∃ F, F = fac (n - 1 - i) := ⟨_, rfl⟩
      rw [← hF] at hft3 HCALL
      have HF := Lib.hid hF
      have HU := Lib.hid hU
      have HO := Lib.hid ho
      have HBR := Lib.hid hbr
      have HBL := Lib.hid hbl
      have hKt : Kc ≤ 479001600 := by omega
      clear hU ho hbr hbl hKf hft2 hF hm12
      go_wp2_with fail
      rw [show (n : Int) - 1 - (i : Int) = ((n - 1 - i : Nat) : Int) by omega]
      refine (HCALL.out).mono ?_
      rintro e w2 ⟨rfl, rfl⟩
      clear HCALL
      go_wp2_with fail
      obtain ⟨wo, rfl⟩ : ∃ wo : World, wo = wr := ⟨_, rfl⟩
      go_loopw [1, 5, 9] (fun sk so sc wr => ∃ c Kd : Nat, c ≤ n ∧ sc = .int .i64 c ∧ so = .slice A2 i c2 ∧ sk = .int .i64 Kd ∧ Kd + leftTo U c * F = Kc ∧ Owns wr (w.heap.size + 1) (.slice A2 i c2) i (ints O) ∧ BRow wr w.heap.size U ∧ Below w.heap.size w wr) (fun _ _ sc _ => n - (intOf sc).toNat)
      case atStart => exact ⟨0, Kc, Nat.zero_le _, rfl, rfl, rfl, by rw [leftTo_zero]; omega, HO.out, HBR.out, HBL.out⟩
      case round =>
        obtain ⟨c, Kd, hc, rfl, rfl, rfl, hKd, ho, hbr, hbl⟩ := hrel
        rcases Nat.lt_or_ge c n with hcl | hcg
        · have hUl : c < U.length := by rw [HU.out.1]; exact hcl
          obtain ⟨u, hu⟩ : ∃ u, u = U.getD c true := ⟨_, rfl⟩
          have hcc := hbr.at_ (show U[c]? = some u by rw [hu, List.getD_eq_getElem?_getD, List.getElem?_eq_getElem hUl]; rfl)
          have hcf := Box.frozen hbr c
          have hlw := Box.lt hbr
          have HUU := Lib.hid hu
          cases u with
          | true =>
            have HKD := Lib.hid (show Kd + leftTo U (c + 1) * F = Kc by rw [leftTo_used HUU.out.symm]; exact hKd)
            clear hu hKd
            go_wp2_with fail
            go_roundw
            case rel => exact ⟨c + 1, Kd, by omega, by go_num, rfl, rfl, HKD.out, ho, hbr, hbl⟩
            case measure => simp [intOf]; omega
          | false =>
            by_cases hkf : Kd < F
            · have e1 : decide (Kd < F) = true := by simpa using hkf
              have HN := Lib.hid (HU.out.next hlt hcl HUU.out.symm (show leftTo U c * fac (n - 1 - i) ≤ Kc by rw [← HF.out]; omega) (show Kc - leftTo U c * fac (n - 1 - i) < fac (n - 1 - i) by rw [← HF.out]; omega))
              have HKK := Lib.hid (show Kc - leftTo U c * fac (n - 1 - i) = Kd by rw [← HF.out]; omega)
              have hst := hbr.store c true
              have hos := ho.setCell (p := ⟨w.heap.size, c, none⟩) (fun e => by have := (ho.lt e).1; simp at this; omega) (.bool true)
              have hbs := hbl.setCell (p := ⟨w.heap.size, c, none⟩) (by simp) (.bool true)
              have hszs := hbs.size
              have HST := Lib.hid hst
              clear hu hKd hkf hst
              go_wp2_with (at_builtin; refine wpList_append_ints _ rfl rfl _ _ rfl (w.heap.size + 1) i _ (ints O) rfl (hos.alloc _) (some ⟨wr.heap.size, 0, none⟩) 1 1 [(c : Int)] rfl (by simp) (by simpa using elems_new (wr.setCell ⟨w.heap.size, c, none⟩ (.bool true)) c) rfl (by omega) (by simp; omega) ?_; intro A4 c4 w4 hown4 hgrow4 hat4)
              go_roundw
              case rel =>
                refine ⟨i + 1, Kd, U.set c true, O ++ [c], A4, c4, by rw [← HKK.out]; exact HN.out, rfl, rfl, by go_num, by simpa [ints] using hown4, ?_, ?_⟩
                · exact Box.grown (Box.alloc HST.out _) hgrow4 (fun e => by have := (ho.lt e).1; omega)
                · exact (hbs.alloc hbs.size _).grown hgrow4 (by simp; omega) (fun _ e => by have := (hos.lt e).1; omega)
              case measure => simp [intOf]; omega
            · have e1 : decide (Kd < F) = false := by simpa using hkf
              have HKD := Lib.hid (show (Kd - F) + leftTo U (c + 1) * F = Kc by rw [leftTo_free HUU.out.symm, Nat.add_mul, Nat.one_mul]; omega)
              have hsub : wrap64 ((Kd : Int) - (F : Int)) = ((Kd - F : Nat) : Int) := by unfold wrap64; omega
              have HSUB := Lib.hid hsub
              have hkd : Kd ≤ 479001600 := by omega
              have hkf2 : F ≤ Kd := by omega
              clear hu hKd hkf hsub
              go_wp2_with fail
              go_roundw
              case rel => exact ⟨c + 1, Kd - F, by omega, by go_num, rfl, by go_num, HKD.out, ho, hbr, hbl⟩
              case measure => simp [intOf]; omega
        · exfalso
          obtain rfl : c = n := by omega
          have h5 := HU.out.some hlt
          rw [← HF.out] at h5
          omega
    · obtain rfl : i = n := by omega
      have HD := Lib.hid hU.done
      clear hU hKf hft2
      go_wp2_with fail
      go_ret
      exact ⟨_, rfl, by rw [HD.out]; exact ho.isInts, hbl⟩

end Go.Proofs.YtajcjipabfknhaaDoor
