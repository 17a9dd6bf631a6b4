/- The walk of perm.Power. Conditions: none. -/
import Derived.Test.YtajcjipabfknhaaDoorInvIn
import Derived.Test.YtajcjipabfknhaaDoorSignWalk
set_option linter.unusedSimpArgs false
set_option linter.unusedVariables false
namespace Go.Proofs.YtajcjipabfknhaaDoor
open Go Go.RowKit Go.Shelf Go.Proofs.YtajcjipabfknhaaDoor.P

attribute [local go_sem] Oper.semAt_some

/-- As far as these numbers, a list has the power's. -/
def PowTo (p : List Nat) (K : Int) (D : List Nat) (R : List Int) : Prop := ∀ x, x ∈ D → R[x]? = some (((pwr p K).getD x 0 : Nat) : Int)

theorem PowTo.nil (p : List Nat) (K : Int) (R : List Int) : PowTo p K [] R := fun x h => by simp at h
theorem PowTo.add {p : List Nat} {K : Int} {D : List Nat} {R : List Int} (h : PowTo p K D R) {a : Nat} (ha : a < R.length) : PowTo p K (D ++ [a]) (R.set a (((pwr p K).getD a 0 : Nat) : Int)) := fun x hx => by
  by_cases e : a = x
  · subst e
    rw [List.getElem?_set_self ha]
  · rw [List.getElem?_set_ne e]
    refine h x ?_
    rcases List.mem_append.1 hx with hx | hx
    · exact hx
    · simp at hx; exact absurd hx.symm e
theorem PowTo.all {p : List Nat} {K : Int} {D : List Nat} {R : List Int} (h : PowTo p K D R) (hD : ∀ x, x < p.length → x ∈ D) (hl : R.length = p.length) : R = ints (pwr p K) := by
  apply List.ext_getElem?
  intro x
  rcases Nat.lt_or_ge x p.length with h1 | h1
  · rw [h x (hD x h1), ints_get (by rw [pwr_length]; exact h1)]
  · rw [List.getElem?_eq_none (by omega), List.getElem?_eq_none (by rw [length_ints, pwr_length]; exact h1)]
theorem Turns.cell {M : Nat → Obj → Prop} {W W' : World} (ht : Turns M W W') {a : Addr} {v : Value} (h : W.cell? a = some v) (hm : ∀ o, ¬ M a.block o) : W'.cell? a = some v := by
  obtain ⟨o, ho, -⟩ := cell_cells h
  rw [World.cell?_of_block ((ht.same _ _ ho (hm o)).trans ho.symm)]
  exact h

set_option maxRecDepth 100000 in
set_option maxHeartbeats 4000000 in
theorem power_in (F : Fence) (n : Nat) (hF : F = Fence.wide) (hn : 3 ≤ n) (v : Value) (K : Int) (p : List Nat) (w : World) (h1 : IsInts w v (ints p)) (hp : Perm p) (hl : p.length ≤ 4096) :
    CallsIn F n Tryd.prog 18 #[v, .int .i64 K] w (GivesInts (ints (pwr p K)) w) := by
  obtain ⟨A, c, rfl, c1, c2, c3, EA, H0⟩ := h1.open_
  have o1 := ordErr_ok hp hl
  simp only [length_ints] at c1 c3 H0 ⊢
  have O1 := Lib.hid o1
  have HP := Lib.hid hp
  clear h1 o1 hp
  have hro : F.round = none := by rw [hF]; rfl
  have hfn : ∀ k, F.fn k := fun k => by rw [hF]; trivial
  have hf80 := hfn 41
  have hf53 := hfn 35
  have hf52 := hfn 10
  have hf25 := hfn 18
  have hn1 : 1 ≤ n := by omega
  have hchk : CallsIn F (n - 1) Tryd.prog 10 #[.slice A p.length c] (w.alloc (.cells #[.int .i64 K] 3)) fun e w' => e = .returned .nilIface ∧ Below (w.alloc (.cells #[.int .i64 K] 3)).heap.size (w.alloc (.cells #[.int .i64 K] 3)) w' := by
    rw [hF]; exact callsIn_wide.2 (pcheck_ok _ _ _ (H0.mono (below_one w _)) O1.out)
  clear hF H0 hfn
  refine callsIn_of_wp_marks Tryd.func18 rfl hf25 ?_ hro
  simp only [Tryd.ntmps18, List.size_toArray, List.length_cons, List.length_nil, Nat.reduceAdd, Nat.reduceSub, Array.replicate_succ, Array.replicate_zero, List.push_toArray, List.append_toArray, List.nil_append, List.cons_append]
  gi_wp2_with fail
  refine hchk.mono ?_
  rintro e w1 ⟨rfl, hb1⟩
  clear hchk
  have bK := (Box.new w 3 #[.int .i64 K]).below hb1
  have hmk := run_make_list p.length (by omega)
  have hro1 := Row.made w1 p.length
  gi_wp2_with fail
  refine (rounds_in F (n - 1) hf53 hro A p.length c _).mono ?_
  rintro e w2 ⟨rfl, rfl⟩
  gi_wp2_with fail
  have bR : Row (((w1.alloc (.cells (madeCells #[.int .i64 0] p.length) 3)).alloc (.cells #[.slice (some ⟨w1.heap.size, 0, none⟩) p.length p.length] 22)).alloc (.cells #[.slice A p.length c] 22)) w1.heap.size (List.replicate p.length 0) := Box.alloc (Box.alloc hro1 _) _
  have bO := (Box.new (w1.alloc (.cells (madeCells #[.int .i64 0] p.length) 3)) 22 #[.slice (some ⟨w1.heap.size, 0, none⟩) p.length p.length]).alloc (.cells #[.slice A p.length c] 22)
  have bP := Box.new ((w1.alloc (.cells (madeCells #[.int .i64 0] p.length) 3)).alloc (.cells #[.slice (some ⟨w1.heap.size, 0, none⟩) p.length p.length] 22)) 22 #[.slice A p.length c]
  have bK2 := ((bK.alloc (.cells (madeCells #[.int .i64 0] p.length) 3)).alloc (.cells #[.slice (some ⟨w1.heap.size, 0, none⟩) p.length p.length] 22)).alloc (.cells #[.slice A p.length c] 22)
  simp only [World.size_alloc] at bO bP
  have hb1' := (below_one w (.cells #[.int .i64 K] 3)).trans (hb1.mono (below_one w _).size)
  have hs1 := hb1'.size
  have hs2 : w.heap.size < w1.heap.size := by have := hb1.size; simp at this; omega
  have hbw : Below w.heap.size w (((w1.alloc (.cells (madeCells #[.int .i64 0] p.length) 3)).alloc (.cells #[.slice (some ⟨w1.heap.size, 0, none⟩) p.length p.length] 22)).alloc (.cells #[.slice A p.length c] 22)) := ((hb1'.alloc hs1 _).alloc (by simp; omega) _).alloc (by simp; omega) _
  clear hro1 bK hb1 hb1' hmk
  refine wp_range (α := Cyc) hro hn1 (gf := 41) (lb := #[.pointer (some ⟨w1.heap.size + 1 + 1, 0, none⟩)]) rfl hf80 (enters_of Tryd.func41 (by kernel_rfl) rfl) (encs := fun x : Cyc => #[x.1]) (fun _ => rfl)
    (It := ItC) (M := fun k _ => k = w1.heap.size) (fun k o hk hm => by simp at hk; omega) (Pr := PrC p (w1.heap.size + 3)) (S := SC p) (Sp := fun _ => True)
    ?seq (fun pre x W1 W2 h ht => h.turns ht)
    (fun pre W => (∃ R : List Int, Row W w1.heap.size R ∧ R.length = p.length ∧ PowTo p K (pre.map Prod.snd).flatten R) ∧ Box W (w1.heap.size + 1) 22 #[.slice (some ⟨w1.heap.size, 0, none⟩) p.length p.length] ∧ Box W w.heap.size 3 #[.int .i64 K] ∧ Rounds p (pre.map Prod.snd) ∧ Below w.heap.size w W)
    (fun _ _ _ => False) ?hI (fun _ _ _ _ h _ => h) ?h0
    (fun x => { tmps := #[.slice A p.length c, .int .i64 K, undef, .pointer (some ⟨w.heap.size, 0, none⟩), .slice none 0 0, .nilIface, .nilIface, .pointer (some ⟨w1.heap.size + 1, 0, none⟩), x.1, undef, undef, undef, .slice A p.length c, .nilIface, .nilIface, .bool false, undef, .slice A p.length c,
      .int .i64 p.length, .slice (some ⟨w1.heap.size, 0, none⟩) p.length p.length, .slice A p.length c, .func (.func 41) #[] #[.pointer (some ⟨w1.heap.size + 1 + 1, 0, none⟩)], x.1, undef, undef, undef, undef, undef, undef, undef, undef, undef, undef, undef, undef, undef, undef, undef, undef, undef, undef, undef, undef, undef, undef, undef, undef, undef, undef, undef, undef], defers := [] }) ?assign ?body ?done ?stop
  case seq =>
    intro l J Jx W hW hlt hle hJ _ hY h0
    simp at hle
    have hWs := hW.size
    simp at hWs
    exact rounds1_in F (n - 1) hf80 hro (by omega) w A c p HP.out hl EA c1 c2 (w1.heap.size + 1 + 1) l _ J Jx W (hbw.trans (hW.mono (by simp; omega))) (bP.below hW) hlt (by omega) (by omega)
      (fun k o (hk : k = w1.heap.size) => ⟨by omega, by omega, fun h => by omega⟩) hJ (fun pre x W1 hj hp => hY pre x W1 hj (hp.lower (by omega))) h0
  case hI =>
    rintro s W1 W2 ⟨⟨R, hR, hRl, hRp⟩, hO, hK, hRo, hB⟩ ht
    refine ⟨⟨R, Box.turns hR ht fun h => by have := h.1; simp at this; omega, hRl, hRp⟩, hO.turns ht fun h => by have := h.1; simp at this; omega, hK.turns ht fun h => by have := h.1; simp at this; omega, hRo,
      hB.trans (ht.below hB.size fun k o hk _ h => by have := h.1; simp at this; omega)⟩
  case h0 => exact ⟨⟨_, bR, by simp, PowTo.nil _ _ _⟩, bO, bK2, Rounds.nil p, hbw⟩
  case assign =>
    intro l x W Kk hK
    gi_wp2
    exact hK
  case body =>
    rintro l pre ⟨v, cy⟩ W ⟨⟨R, hR, hRl, hRp⟩, hO, hKb, hRo, hB⟩ ⟨⟨hi, hfr⟩, hrd, -, hnew⟩
    dsimp only at hi hfr hrd hnew ⊢
    obtain ⟨A', c', rfl, hv1, hv2, hv3, hEl, -⟩ := hi.open_
    obtain ⟨A'', c'', efr, hfr⟩ := hfr
    injection efr with efr1 _ _
    subst efr1
    simp only [length_ints] at hv1 hv3 ⊢
    have hKc := hKb.one
    have hKz := hKb.lt
    have hcl : 1 ≤ cy.length := by obtain ⟨i, _, h1, _⟩ := hrd; exact h1
    have hc0 : ((cy.length : Int) == 0) = false := by
      rw [beq_eq_false_iff_ne]
      omega
    have hcne : ¬ cy = [] := fun e => by rw [e] at hcl; simp at hcl
    have hcne2 : ¬ cy.length = 0 := by omega
    have hR2 : Rounds p ((pre ++ [(Value.slice A' cy.length c', cy)]).map Prod.snd) := by rw [List.map_append]; exact hRo.add hrd hnew
    have HRD := Lib.hid hrd
    have HR2 := Lib.hid hR2
    have HRP := Lib.hid hRp
    have HFR := Lib.hid hfr
    clear hrd hR2 hnew hi hRp hRo hfr
    gi_wp2_with fail
    have hT1 := Int.lt_tmod_of_pos K (show (0 : Int) < cy.length by omega)
    have hT2 := Int.tmod_lt_of_pos K (show (0 : Int) < cy.length by omega)
    obtain ⟨T, hT⟩ : ∃ T, T = K.tmod cy.length := ⟨_, rfl⟩
    rw [← hT] at hT1 hT2 ⊢
    have HTT := Lib.hid hT
    clear hT
    have hlen4 : cy.length ≤ 4096 := by
      obtain ⟨_, _, _, _, _, hn⟩ := HRD.out
      have := List.Nodup.length_le_of_subset hn (l₂ := List.range p.length) fun x hx => by simpa using HRD.out.lt HP.out hx
      rw [List.length_range] at this
      omega
    gi_loopw [29] (fun i wr => ∃ (k : Nat) (R : List Int), k ≤ cy.length ∧ i = .int .i64 k ∧ Row wr w1.heap.size R ∧ R.length = p.length ∧ PowTo p K ((pre.map Prod.snd).flatten ++ cy.take k) R ∧ Turns (fun k _ => k = w1.heap.size) W wr)
      (fun i _ => cy.length - (intOf i).toNat)
    case atStart => exact ⟨0, R, Nat.zero_le _, rfl, hR, hRl, by simpa using HRP.out, Turns.refl _ _⟩
    case round =>
      clear hR hRl
      obtain ⟨k, R, hk, rfl, hR, hRl, hRp, ht⟩ := hrel
      have hO' := hO.turns ht (by omega)
      have hOc := hO'.one
      have hOz := hO'.lt
      have HRp := Lib.hid hRp
      clear hRp
      rcases Nat.lt_or_ge k cy.length with hlt | hge
      · obtain ⟨ad, x, rfl, hx, hal, hcx⟩ := hEl.at_ (k := k) (by rw [length_ints]; exact hlt)
        obtain ⟨hx1, -⟩ := ints_getD hx
        obtain ⟨r, hr, hre, hrv, hr0⟩ := round_pwr HP.out HRD.out K hlt
        rw [← HTT.out] at hre hr0
        obtain ⟨ae, y, hae, hy, -, hcy⟩ := hEl.at_ (k := r) (by rw [length_ints]; exact hr)
        obtain rfl : ad = ae := by injection hae
        obtain ⟨hy1, -⟩ := ints_getD hy
        have hadn : ad.block ≠ w1.heap.size := by have := HFR.out ad rfl; omega
        have hcx' := ht.cell hcx (fun o => by rw [addr_block_add]; exact hadn)
        have hcy' := ht.cell hcy (fun o => by rw [addr_block_add]; exact hadn)
        have hxl : cy.getD k 0 < p.length := HRD.out.lt HP.out (by rw [getD_lt hlt]; exact List.getElem_mem hlt)
        obtain ⟨a, ha⟩ : ∃ a, a = cy.getD k 0 := ⟨_, rfl⟩
        rw [← ha] at hxl
        rw [hx1, ← ha] at hcx'
        obtain ⟨z, hz⟩ : ∃ z, R[a]? = some z := ⟨_, List.getElem?_eq_getElem (show a < R.length by omega)⟩
        have hgc := Row.at_ hR hz
        have hgf := Box.frozen hR
        have hgl := Box.lt hR
        have hw1 : wrap64 (k + T) = k + T := by unfold wrap64; omega
        have hw2 : wrap64 (k + T + cy.length) = k + T + cy.length := by unfold wrap64; omega
        have hB1 : (0 : Int) ≤ ((k : Int) + T + cy.length).tmod cy.length := by omega
        have hB2 : ((k : Int) + T + cy.length).tmod cy.length < cy.length := by omega
        have hB3 : (((k : Int) + T + cy.length).tmod cy.length).toNat = r := by omega
        have hC1 : (0 : Int) ≤ (wrap64 (wrap64 ((k : Int) + T) + cy.length)).tmod cy.length := by rw [hw1, hw2]; omega
        have hC2 : (wrap64 (wrap64 ((k : Int) + T) + cy.length)).tmod cy.length < cy.length := by rw [hw1, hw2]; omega
        have hC3 : ((wrap64 (wrap64 ((k : Int) + T) + cy.length)).tmod cy.length).toNat = r := by rw [hw1, hw2]; omega
        have HA := Lib.hid ha
        have HX := Lib.hid hx
        have HY1 := Lib.hid hy1
        have HRV := Lib.hid hrv
        clear hx hy hx1 hy1 hrv hcx hcy hae hz ha
        gi_wp2_with fail
        obtain ⟨V, hV⟩ : ∃ V : Nat → Value → Prop, V = fun i v => match i with
            | 0 => v = .slice (some ⟨w1.heap.size, 0, none⟩) p.length p.length
            | 1 => v = .int .i64 a
            | 2 => v = .slice (some ad) cy.length c'
            | 3 => v = .int .i64 k
            | 4 => v = .int .i64 T
            | 5 => v = .int .i64 (k + T)
            | 6 => v = .slice (some ad) cy.length c'
            | 7 => v = .int .i64 cy.length
            | 8 => v = .int .i64 (k + T + cy.length)
            | 9 => v = .slice (some ad) cy.length c'
            | 10 => v = .int .i64 cy.length
            | 11 => v = .int .i64 r
            | 12 => v = .pointer (some (ad.add r))
            | 13 => v = .int .i64 y
            | 14 => v = .pointer (some ⟨w1.heap.size, a, none⟩)
            | _ => True := ⟨_, rfl⟩
        have hV0 : ∀ v, V 0 v ↔ v = .slice (some ⟨w1.heap.size, 0, none⟩) p.length p.length := fun _ => by subst hV; rfl
        have hV1 : ∀ v, V 1 v ↔ v = .int .i64 a := fun _ => by subst hV; rfl
        have hV2 : ∀ v, V 2 v ↔ v = .slice (some ad) cy.length c' := fun _ => by subst hV; rfl
        have hV3 : ∀ v, V 3 v ↔ v = .int .i64 k := fun _ => by subst hV; rfl
        have hV4 : ∀ v, V 4 v ↔ v = .int .i64 T := fun _ => by subst hV; rfl
        have hV5 : ∀ v, V 5 v ↔ v = .int .i64 (k + T) := fun _ => by subst hV; rfl
        have hV6 : ∀ v, V 6 v ↔ v = .slice (some ad) cy.length c' := fun _ => by subst hV; rfl
        have hV7 : ∀ v, V 7 v ↔ v = .int .i64 cy.length := fun _ => by subst hV; rfl
        have hV8 : ∀ v, V 8 v ↔ v = .int .i64 (k + T + cy.length) := fun _ => by subst hV; rfl
        have hV9 : ∀ v, V 9 v ↔ v = .slice (some ad) cy.length c' := fun _ => by subst hV; rfl
        have hV10 : ∀ v, V 10 v ↔ v = .int .i64 cy.length := fun _ => by subst hV; rfl
        have hV11 : ∀ v, V 11 v ↔ v = .int .i64 r := fun _ => by subst hV; rfl
        have hV12 : ∀ v, V 12 v ↔ v = .pointer (some (ad.add r)) := fun _ => by subst hV; rfl
        have hV13 : ∀ v, V 13 v ↔ v = .int .i64 y := fun _ => by subst hV; rfl
        have hV14 : ∀ v, V 14 v ↔ v = .pointer (some ⟨w1.heap.size, a, none⟩) := fun _ => by subst hV; rfl
        have hV15 : ∀ v, V 15 v := fun _ => by subst hV; trivial
        clear hV
        have hboth : ∀ wx, (wx = wr.drew ∨ wx = wr.drew.setCell ⟨w1.heap.size, a, none⟩ (.int .i64 y)) → wx.cell? ⟨w1.heap.size + 1, 0, none⟩ = some (.slice (some ⟨w1.heap.size, 0, none⟩) p.length p.length) ∧ wx.cell? (ad.add r) = some (.int .i64 y) := fun wx h => by
          rcases h with rfl | rfl
          · exact ⟨hOc, hcy'⟩
          · exact ⟨((Turns.setCell (W := wr.drew) (M := fun k _ => k = w1.heap.size) hR rfl _).cell hOc (fun o => by simp)), ((Turns.setCell (W := wr.drew) (M := fun k _ => k = w1.heap.size) hR rfl _).cell hcy' (fun o => by rw [addr_block_add]; exact hadn))⟩
        refine wpIn_region_inv (fun done u wx => (∀ j, done j = true → V j (u j)) ∧ ((done 15 = false ∧ wx = wr.drew) ∨ (done 15 = true ∧ wx = wr.drew.setCell ⟨w1.heap.size, a, none⟩ (.int .i64 y)))) (by kernel_rfl) (by kernel_rfl) (by kernel_rfl) ?start ?step ?fin
        case start => exact fun u => ⟨(fun j h => by cases h), .inl ⟨rfl, rfl⟩⟩
        case step =>
          simp only [putAll, Act.put, List.setIfInBounds_toArray, List.set_cons_zero, List.set_cons_succ, Nat.reduceAdd, Nat.zero_add]
          intro i o ho done u wx hnd hdep hI Kk hKk
          obtain ⟨hv, hw⟩ := hI
          have hcs := hboth wx (by rcases hw with h | h; exact .inl h.2; exact .inr h.2)
          obtain ⟨hcs1, hcs2⟩ := hcs
          have keep : ∀ v, V i v → i ≠ 15 → (∀ j, did done i j = true → V j (upd u i v j)) ∧ ((did done i 15 = false ∧ wx = wr.drew) ∨ (did done i 15 = true ∧ wx = wr.drew.setCell ⟨w1.heap.size, a, none⟩ (.int .i64 y))) := fun v hvv hne => by
            refine ⟨fun j hj => ?_, by rw [did_other _ (Ne.symm hne)]; exact hw⟩
            by_cases e : j = i
            · rw [e, upd_same]; exact hvv
            · rw [did_other _ e] at hj; rw [upd_other _ _ e]; exact hv j hj
          match i, ho with
          | 0, ho =>
            simp only [List.getElem?_cons_zero, Option.some.injEq] at ho
            subst ho
            simp only [Act.put, List.setIfInBounds_toArray, List.set_cons_zero, List.set_cons_succ] at hKk
            refine opIn_step rfl rfl (op_yields (v := .slice (some ⟨w1.heap.size, 0, none⟩) p.length p.length) (w' := wx) (fun c h => by cases h) (by simp [Oper.about, go_sem]) ?_ (hKk _ _ (keep _ ((hV0 _).2 rfl) (by omega))))
            go_simp
          | 1, ho =>
            simp only [List.getElem?_cons_succ, List.getElem?_cons_zero, Option.some.injEq] at ho
            subst ho
            simp only [Act.put, List.setIfInBounds_toArray, List.set_cons_zero, List.set_cons_succ] at hKk
            refine opIn_step rfl rfl (op_yields (v := .int .i64 a) (w' := wx) (fun c h => by cases h) (by simp [Oper.about, go_sem]) ?_ (hKk _ _ (keep _ ((hV1 _).2 rfl) (by omega))))
            skip
            go_simp
          | 2, ho =>
            simp only [List.getElem?_cons_succ, List.getElem?_cons_zero, Option.some.injEq] at ho
            subst ho
            simp only [Act.put, List.setIfInBounds_toArray, List.set_cons_zero, List.set_cons_succ] at hKk
            refine opIn_step rfl rfl (op_yields (v := .slice (some ad) cy.length c') (w' := wx) (fun c h => by cases h) (by simp [Oper.about, go_sem]) ?_ (hKk _ _ (keep _ ((hV2 _).2 rfl) (by omega))))
            skip
            go_simp
          | 3, ho =>
            simp only [List.getElem?_cons_succ, List.getElem?_cons_zero, Option.some.injEq] at ho
            subst ho
            simp only [Act.put, List.setIfInBounds_toArray, List.set_cons_zero, List.set_cons_succ] at hKk
            refine opIn_step rfl rfl (op_yields (v := .int .i64 k) (w' := wx) (fun c h => by cases h) (by simp [Oper.about, go_sem]) ?_ (hKk _ _ (keep _ ((hV3 _).2 rfl) (by omega))))
            skip
            go_simp
          | 4, ho =>
            simp only [List.getElem?_cons_succ, List.getElem?_cons_zero, Option.some.injEq] at ho
            subst ho
            simp only [Act.put, List.setIfInBounds_toArray, List.set_cons_zero, List.set_cons_succ] at hKk
            refine opIn_step rfl rfl (op_yields (v := .int .i64 T) (w' := wx) (fun c h => by cases h) (by simp [Oper.about, go_sem]) ?_ (hKk _ _ (keep _ ((hV4 _).2 rfl) (by omega))))
            skip
            go_simp
          | 5, ho =>
            simp only [List.getElem?_cons_succ, List.getElem?_cons_zero, Option.some.injEq] at ho
            subst ho
            simp only [Act.put, List.setIfInBounds_toArray, List.set_cons_zero, List.set_cons_succ] at hKk
            have e3 := (hV3 _).1 (hv 3 (hdep ⟨3, .data⟩ (by simp) rfl))
            have e4 := (hV4 _).1 (hv 4 (hdep ⟨4, .data⟩ (by simp) rfl))
            refine opIn_step rfl rfl (op_yields (v := .int .i64 (k + T)) (w' := wx) (fun c h => by cases h) (by simp [Oper.about, go_sem]) ?_ (hKk _ _ (keep _ ((hV5 _).2 rfl) (by omega))))
            skip
            go_simp
            simp [IntKind.wrap, IntKind.bits, IntKind.signed]
            omega
          | 6, ho =>
            simp only [List.getElem?_cons_succ, List.getElem?_cons_zero, Option.some.injEq] at ho
            subst ho
            simp only [Act.put, List.setIfInBounds_toArray, List.set_cons_zero, List.set_cons_succ] at hKk
            refine opIn_step rfl rfl (op_yields (v := .slice (some ad) cy.length c') (w' := wx) (fun c h => by cases h) (by simp [Oper.about, go_sem]) ?_ (hKk _ _ (keep _ ((hV6 _).2 rfl) (by omega))))
            skip
            go_simp
          | 7, ho =>
            simp only [List.getElem?_cons_succ, List.getElem?_cons_zero, Option.some.injEq] at ho
            subst ho
            simp only [Act.put, List.setIfInBounds_toArray, List.set_cons_zero, List.set_cons_succ] at hKk
            have e6 := (hV6 _).1 (hv 6 (hdep ⟨6, .data⟩ (by simp) rfl))
            refine opIn_step rfl rfl (op_yields (v := .int .i64 cy.length) (w' := wx) (fun c h => by cases h) (by simp [Oper.about, go_sem]) ?_ (hKk _ _ (keep _ ((hV7 _).2 rfl) (by omega))))
            skip
            go_simp
          | 8, ho =>
            simp only [List.getElem?_cons_succ, List.getElem?_cons_zero, Option.some.injEq] at ho
            subst ho
            simp only [Act.put, List.setIfInBounds_toArray, List.set_cons_zero, List.set_cons_succ] at hKk
            have e5 := (hV5 _).1 (hv 5 (hdep ⟨5, .data⟩ (by simp) rfl))
            have e7 := (hV7 _).1 (hv 7 (hdep ⟨7, .data⟩ (by simp) rfl))
            refine opIn_step rfl rfl (op_yields (v := .int .i64 (k + T + cy.length)) (w' := wx) (fun c h => by cases h) (by simp [Oper.about, go_sem]) ?_ (hKk _ _ (keep _ ((hV8 _).2 rfl) (by omega))))
            skip
            go_simp
            simp [IntKind.wrap, IntKind.bits, IntKind.signed]
            omega
          | 9, ho =>
            simp only [List.getElem?_cons_succ, List.getElem?_cons_zero, Option.some.injEq] at ho
            subst ho
            simp only [Act.put, List.setIfInBounds_toArray, List.set_cons_zero, List.set_cons_succ] at hKk
            refine opIn_step rfl rfl (op_yields (v := .slice (some ad) cy.length c') (w' := wx) (fun c h => by cases h) (by simp [Oper.about, go_sem]) ?_ (hKk _ _ (keep _ ((hV9 _).2 rfl) (by omega))))
            skip
            go_simp
          | 10, ho =>
            simp only [List.getElem?_cons_succ, List.getElem?_cons_zero, Option.some.injEq] at ho
            subst ho
            simp only [Act.put, List.setIfInBounds_toArray, List.set_cons_zero, List.set_cons_succ] at hKk
            have e9 := (hV9 _).1 (hv 9 (hdep ⟨9, .data⟩ (by simp) rfl))
            refine opIn_step rfl rfl (op_yields (v := .int .i64 cy.length) (w' := wx) (fun c h => by cases h) (by simp [Oper.about, go_sem]) ?_ (hKk _ _ (keep _ ((hV10 _).2 rfl) (by omega))))
            skip
            go_simp
          | 11, ho =>
            simp only [List.getElem?_cons_succ, List.getElem?_cons_zero, Option.some.injEq] at ho
            subst ho
            simp only [Act.put, List.setIfInBounds_toArray, List.set_cons_zero, List.set_cons_succ] at hKk
            have e8 := (hV8 _).1 (hv 8 (hdep ⟨8, .data⟩ (by simp) rfl))
            have e10 := (hV10 _).1 (hv 10 (hdep ⟨10, .data⟩ (by simp) rfl))
            refine opIn_step rfl rfl (op_yields (v := .int .i64 r) (w' := wx) (fun c h => by cases h) (by simp [Oper.about, go_sem]) ?_ (hKk _ _ (keep _ ((hV11 _).2 rfl) (by omega))))
            skip
            go_simp
          | 12, ho =>
            simp only [List.getElem?_cons_succ, List.getElem?_cons_zero, Option.some.injEq] at ho
            subst ho
            simp only [Act.put, List.setIfInBounds_toArray, List.set_cons_zero, List.set_cons_succ] at hKk
            have e2 := (hV2 _).1 (hv 2 (hdep ⟨2, .data⟩ (by simp) rfl))
            have e11 := (hV11 _).1 (hv 11 (hdep ⟨11, .data⟩ (by simp) rfl))
            refine opIn_step rfl rfl (op_yields (v := .pointer (some (ad.add r))) (w' := wx) (fun c h => by cases h) (by simp [Oper.about, go_sem]) ?_ (hKk _ _ (keep _ ((hV12 _).2 rfl) (by omega))))
            go_simp
          | 13, ho =>
            simp only [List.getElem?_cons_succ, List.getElem?_cons_zero, Option.some.injEq] at ho
            subst ho
            simp only [Act.put, List.setIfInBounds_toArray, List.set_cons_zero, List.set_cons_succ] at hKk
            have e12 := (hV12 _).1 (hv 12 (hdep ⟨12, .data⟩ (by simp) rfl))
            refine opIn_step rfl rfl (op_yields (v := .int .i64 y) (w' := wx) (fun c h => by cases h) (by simp [Oper.about, go_sem]) ?_ (hKk _ _ (keep _ ((hV13 _).2 rfl) (by omega))))
            skip
            go_simp
          | 14, ho =>
            simp only [List.getElem?_cons_succ, List.getElem?_cons_zero, Option.some.injEq] at ho
            subst ho
            simp only [Act.put, List.setIfInBounds_toArray, List.set_cons_zero, List.set_cons_succ] at hKk
            have e0 := (hV0 _).1 (hv 0 (hdep ⟨0, .data⟩ (by simp) rfl))
            have e1 := (hV1 _).1 (hv 1 (hdep ⟨1, .data⟩ (by simp) rfl))
            refine opIn_step rfl rfl (op_yields (v := .pointer (some ⟨w1.heap.size, a, none⟩)) (w' := wx) (fun c h => by cases h) (by simp [Oper.about, go_sem]) ?_ (hKk _ _ (keep _ ((hV14 _).2 rfl) (by omega))))
            skip
            go_simp
          | 15, ho =>
            simp only [List.getElem?_cons_succ, List.getElem?_cons_zero, Option.some.injEq] at ho
            subst ho
            simp only [Act.put, List.setIfInBounds_toArray, List.set_cons_zero, List.set_cons_succ] at hKk
            have e14 := (hV14 _).1 (hv 14 (hdep ⟨14, .data⟩ (by simp) rfl))
            have e13 := (hV13 _).1 (hv 13 (hdep ⟨13, .data⟩ (by simp) rfl))
            refine opIn_step rfl rfl (op_skips (w' := wr.drew.setCell ⟨w1.heap.size, a, none⟩ (.int .i64 y)) (fun c h => by cases h) (by simp [Oper.about, go_sem]) ?_ (hKk undef _ ?_))
            · have hwx : wx = wr.drew := by rcases hw with h | h; exact h.2; rw [hnd] at h; cases h.1
              subst hwx
              have hgc2 : wr.drew.cell? ⟨w1.heap.size, a, none⟩ = some (.int .i64 z) := hgc
              have hgf2 : wr.drew.frozen? ⟨w1.heap.size, a, none⟩ = false := hgf a
              rw [e14, e13]
              go_simp
            · refine ⟨fun j hj => ?_, .inr ⟨did_same _ _, rfl⟩⟩
              by_cases e : j = 15
              · rw [e]; exact hV15 _
              · rw [did_other _ e] at hj; rw [upd_other _ _ e]; exact hv j hj
          | i + 16, ho => simp at ho
        case fin =>
          simp only [putAll, Act.put, List.setIfInBounds_toArray, List.set_cons_zero, List.set_cons_succ, Nat.reduceAdd, Nat.zero_add]
          intro done u wx hd hI
          obtain ⟨hv, hw⟩ := hI
          have hwx : wx = wr.drew.setCell ⟨w1.heap.size, a, none⟩ (.int .i64 y) := by
            rcases hw with h | h
            · rw [hd 15 (by simp)] at h; cases h.1
            · exact h.2
          subst hwx
          have e0 := (hV0 _).1 (hv 0 (hd 0 (by simp)))
          have e1 := (hV1 _).1 (hv 1 (hd 1 (by simp)))
          have e2 := (hV2 _).1 (hv 2 (hd 2 (by simp)))
          have e3 := (hV3 _).1 (hv 3 (hd 3 (by simp)))
          have e4 := (hV4 _).1 (hv 4 (hd 4 (by simp)))
          have e5 := (hV5 _).1 (hv 5 (hd 5 (by simp)))
          have e6 := (hV6 _).1 (hv 6 (hd 6 (by simp)))
          have e7 := (hV7 _).1 (hv 7 (hd 7 (by simp)))
          have e8 := (hV8 _).1 (hv 8 (hd 8 (by simp)))
          have e9 := (hV9 _).1 (hv 9 (hd 9 (by simp)))
          have e10 := (hV10 _).1 (hv 10 (hd 10 (by simp)))
          have e11 := (hV11 _).1 (hv 11 (hd 11 (by simp)))
          have e12 := (hV12 _).1 (hv 12 (hd 12 (by simp)))
          have e13 := (hV13 _).1 (hv 13 (hd 13 (by simp)))
          have e14 := (hV14 _).1 (hv 14 (hd 14 (by simp)))
          rw [e0, e1, e2, e3, e4, e5, e6, e7, e8, e9, e10, e11, e12, e13, e14]
          gi_wp2_with fail
          go_roundw
          case rel =>
            refine ⟨k + 1, R.set a y, by omega, by go_num, Row.store (w := wr) hR a y, by simp [hRl], ?_, ht.trans ((Turns.setCell (W := wr) (M := fun k _ => k = w1.heap.size) hR rfl _).trans (Turns.drewN _ 1))⟩
            have e1 : cy.take (k + 1) = cy.take k ++ [a] := by
              rw [List.take_add_one, List.getElem?_eq_getElem hlt, HA.out, getD_lt hlt]
              rfl
            rw [e1, ← List.append_assoc, HY1.out, HRV.out, ← HA.out]
            exact HRp.out.add (by omega)
          case measure => simp [intOf]; omega
      · have hkk : k = cy.length := by omega
        subst hkk
        gi_wp2_with fail
        have hfl : ((pre ++ [(Value.slice A' cy.length c', cy)]).map Prod.snd).flatten = (pre.map Prod.snd).flatten ++ cy := by simp
        refine ⟨ht, ⟨R, hR, hRl, ?_⟩, hO', hKb.turns ht (by omega), HR2.out, hB.trans (ht.below hB.size fun i o hi _ h => by omega)⟩
        rw [hfl]
        have := HRp.out
        rwa [List.take_length] at this
  case done =>
    rintro D ys W hD hS ⟨⟨R, hR, hRl, hRp⟩, hO, hKb, hRo, hB⟩ hK
    have hOc := hO.one
    have hOz := hO.lt
    have hfin := hRp.all hS.2 hRl
    have hin := Row.isInts hR hRl.symm (by omega)
    rw [hfin] at hin
    have HIN := Lib.hid hin
    clear hfin hin hRp hR
    gi_wp2
    refine ⟨by simp, .inl ⟨_, _, rfl, run_takeDeferred hK, ?_⟩⟩
    have hbl := belowK_b (n₀ := W.heap.size) (w := W) (Nat.le_refl _) W D
    have hp1 : Below w.heap.size W (W.putObj D (.deferred none)) := belowK_b (w := w) (Nat.le_refl _) W D _ _ (by simp at hD; omega) hK rfl rfl
    refine ⟨.tuple #[.slice (some ⟨w1.heap.size, 0, none⟩) p.length p.length, .nilIface], by simp [results, Tryd.results18, go_sem], _, rfl, ?_, hB.trans hp1⟩
    exact HIN.out.turns (B := 0) (Turns.putObj _ hK ⟨Nat.zero_le _, rfl⟩)
  case stop =>
    rintro D c pre W _ _ h _
    exact h.elim

theorem power_ok (v : Value) (K : Int) (p : List Nat) (w : World) (h1 : IsInts w v (ints p)) (hp : Perm p) (hl : p.length ≤ 4096) :
    Calls Tryd.prog 18 #[v, .int .i64 K] w (GivesInts (ints (pwr p K)) w) :=
  callsIn_wide.1 (power_in Fence.wide 3 rfl (Nat.le_refl _) v K p w h1 hp hl)

set_option maxHeartbeats 1000000 in
theorem power_bad (v : Value) (K : Int) (p : List Int) (w : World) (h1 : IsInts w v p) (h : ordErr p ≠ 0) :
    Calls Tryd.prog 18 #[v, .int .i64 K] w (FailsInts (ordErr p) w) := by
  obtain ⟨A, ca, rfl, a1, a2, a3, -, H0⟩ := h1.open_
  have C1 := Lib.hid h
  clear h1 h
  go_enter Tryd.func18, Tryd.ntmps18
  go_wp2_with fail
  refine (pcheck_bad _ _ _ (H0.mono (below_one w _)) C1.out).mono ?_
  rintro en w1 ⟨rfl, hb1⟩
  have hbw := (below_one w _).trans (hb1.mono (below_one w _).size)
  go_wp2_with fail
  refine bodyPost_ret (v := .tuple #[.slice none 0 0, .iface 23 (.int .i64 (ordErr p))]) (by simp [results, Tryd.results18, go_sem]) rfl ?_
  exact ⟨rfl, by go_grown⟩

end Go.Proofs.YtajcjipabfknhaaDoor
