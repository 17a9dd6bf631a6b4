/- What is done cell by cell does not see where: the plain law. Conditions: none but these. -/
import Derived.Test.YtojeggeimnenbaaDoorEachAll
import Derived.Test.YtojeggeimnenbaaDoorGround
import Derived.Test.YtojeggeimnenbaaDoorFlipWalk
set_option linter.unusedSimpArgs false
set_option linter.unusedVariables false
namespace Go.Proofs.YtojeggeimnenbaaDoor.P
open Go Go.RowKit
/-- Two arrays of one shape, put together. -/
def zipA (f : Int) (a b : Arr) : Arr := ⟨false, a.sh, (List.range a.da.length).map fun i => cellV a.ch b.ch f (a.da.getD i 0) (b.da.getD i 0)⟩
def ZipFine (f : Int) (a b : Arr) : Prop := eachErr f a b = 0 ∧ ∀ i, i < a.da.length → cellE a.ch b.ch f (a.da.getD i 0) (b.da.getD i 0) = 0
theorem eachErr_zero {f : Int} {a b : Arr} (h : eachErr f a b = 0) : twoE f 0 1 = 0 ∧ (∃ t, Ok a t) ∧ (∃ t, Ok b t) ∧ ¬ (f ≠ 8 ∧ f ≠ 9 ∧ (a.ch = true ∨ b.ch = true)) := by
  unfold eachErr at h
  by_cases h0 : twoE f 0 1 ≠ 0
  · rw [if_pos h0] at h; exact absurd h h0
  rw [if_neg h0] at h
  by_cases h1 : arrErr a ≠ 0
  · rw [if_pos h1] at h; exact absurd h h1
  rw [if_neg h1] at h
  by_cases h2 : arrErr b ≠ 0
  · rw [if_pos h2] at h; exact absurd h h2
  rw [if_neg h2] at h
  refine ⟨by simpa using h0, ok_of_arrErr (by simpa using h1), ok_of_arrErr (by simpa using h2), fun hd => ?_⟩
  simp only [if_pos hd] at h
  split at h
  · omega
  · split at h
    · omega
    · split at h <;> omega
theorem eachErr_like {f : Int} {a b : Arr} {t : List Nat} (h0 : twoE f 0 1 = 0) (ha : Ok a t) (hb : Ok b t) (hd : ¬ (f ≠ 8 ∧ f ≠ 9 ∧ (a.ch = true ∨ b.ch = true))) : eachErr f a b = 0 := by
  unfold eachErr
  rw [if_neg (fun h => h h0), if_neg (fun h => h (arrErr_ok ha)), if_neg (fun h => h (arrErr_ok hb)), if_neg (show ¬ a.sh.length ≠ b.sh.length by rw [ha.sh, hb.sh]; simp), if_neg (show ¬ a.sh ≠ b.sh by rw [ha.sh, hb.sh]; simp), if_neg hd]
  simp
theorem zipA_ok {f : Int} {a b : Arr} {t : List Nat} (h : Ok a t) : Ok (zipA f a b) t :=
  ⟨h.sh, h.good, by show ((List.range a.da.length).map _).length = _; rw [List.length_map, List.length_range]; exact h.len, fun e => by cases e⟩
theorem zipA_cell {f : Int} {a b : Arr} {t ix : List Nat} (ha : Ok a t) (hb : Ok b t) (hi : Inside t ix) : (zipA f a b).cell ix = cellV a.ch b.ch f (a.cell ix) (b.cell ix) := by
  have hp : place t ix < a.da.length := by rw [ha.len]; exact place_lt hi
  show (zipA f a b).da.getD (place (zipA f a b).nsh ix) 0 = cellV a.ch b.ch f (a.da.getD (place a.nsh ix) 0) (b.da.getD (place b.nsh ix) 0)
  rw [(zipA_ok (f := f) (b := b) ha).nsh_eq, ha.nsh_eq, hb.nsh_eq]
  show ((List.range a.da.length).map fun i => cellV a.ch b.ch f (a.da.getD i 0) (b.da.getD i 0)).getD (place t ix) 0 = _
  rw [List.getD_eq_getElem?_getD, List.getElem?_map, List.getElem?_range hp]
  rfl
theorem zip_fine_cell {f : Int} {a b : Arr} {t ix : List Nat} (ha : Ok a t) (hb : Ok b t) (h : ZipFine f a b) (hi : Inside t ix) : cellE a.ch b.ch f (a.cell ix) (b.cell ix) = 0 := by
  have hp : place t ix < a.da.length := by rw [ha.len]; exact place_lt hi
  show cellE a.ch b.ch f (a.da.getD (place a.nsh ix) 0) (b.da.getD (place b.nsh ix) 0) = 0
  rw [ha.nsh_eq, hb.nsh_eq]
  exact h.2 _ hp
/-- The cells of one array, told through others' places. -/
theorem zip_moved {f : Int} {a b A B C : Arr} {t s : List Nat} {φ : List Nat → List Nat} (ha : Ok a t) (hb : Ok b t) (hz : ZipFine f a b) (hA : Ok A s) (hB : Ok B s) (hC : Ok C s) (hca : A.ch = a.ch) (hcb : B.ch = b.ch) (hcc : C.ch = false)
    (hφ : ∀ ix, Inside s ix → Inside t (φ ix)) (eA : ∀ ix, Inside s ix → A.cell ix = a.cell (φ ix)) (eB : ∀ ix, Inside s ix → B.cell ix = b.cell (φ ix)) (eC : ∀ ix, Inside s ix → C.cell ix = (zipA f a b).cell (φ ix)) :
    ZipFine f A B ∧ zipA f A B = C := by
  obtain ⟨h0, -, -, hd⟩ := eachErr_zero hz.1
  refine ⟨⟨eachErr_like h0 hA hB (by rw [hca, hcb]; exact hd), fun i hi => ?_⟩, ?_⟩
  · have hi' : i < prod s := by rw [← hA.len]; exact hi
    have hin := coords_inside hi'
    have e1 := zip_fine_cell ha hb hz (hφ _ hin)
    rw [← eA _ hin, ← eB _ hin, ← hca, ← hcb] at e1
    have e2 : A.cell (coords s i) = A.da.getD i 0 := by show A.da.getD (place A.nsh (coords s i)) 0 = _; rw [hA.nsh_eq, place_coords hi']
    have e3 : B.cell (coords s i) = B.da.getD i 0 := by show B.da.getD (place B.nsh (coords s i)) 0 = _; rw [hB.nsh_eq, place_coords hi']
    rw [e2, e3] at e1
    exact e1
  · refine Ok.ext (zipA_ok hA) hC (by rw [hcc]; rfl) fun ix hi => ?_
    rw [zipA_cell hA hB hi, eC ix hi, zipA_cell ha hb (hφ ix hi), eA ix hi, eB ix hi, hca, hcb]
theorem zip_pull {f : Int} {a b : Arr} {t : List Nat} {k : Nat} {g : Nat → Nat} (ha : Ok a t) (hb : Ok b t) (hz : ZipFine f a b) (hk : k < t.length) (hg : ∀ i, i < t.getD k 0 → g i < t.getD k 0) :
    ZipFine f (pull k g a) (pull k g b) ∧ zipA f (pull k g a) (pull k g b) = pull k g (zipA f a b) := by
  have hc := zipA_ok (f := f) (b := b) ha
  refine zip_moved (φ := fun ix => ix.set k (g (ix.getD k 0))) ha hb hz (pull_ok ha hg) (pull_ok hb hg) (pull_ok hc hg) rfl rfl rfl (fun ix hi => inside_pull hi hk hg) (fun ix hi => ?_) (fun ix hi => ?_) (fun ix hi => ?_)
  · exact pull_cell (by rw [ha.nsh_eq]; exact hi)
  · exact pull_cell (by rw [hb.nsh_eq]; exact hi)
  · exact pull_cell (by rw [hc.nsh_eq]; exact hi)
theorem zip_rev {f : Int} {a b : Arr} {t : List Nat} {k : Nat} (ha : Ok a t) (hb : Ok b t) (hz : ZipFine f a b) (hk : k < t.length) : ZipFine f (rev k a) (rev k b) ∧ zipA f (rev k a) (rev k b) = rev k (zipA f a b) := by
  have hc := zipA_ok (f := f) (b := b) ha
  unfold rev
  rw [ha.nsh_eq, hb.nsh_eq, hc.nsh_eq]
  exact zip_pull ha hb hz hk fun i hi => rev_lt hi
theorem zip_rot {f : Int} {a b : Arr} {t : List Nat} {k : Nat} {n : Int} (ha : Ok a t) (hb : Ok b t) (hz : ZipFine f a b) (hk : k < t.length) : ZipFine f (rot n k a) (rot n k b) ∧ zipA f (rot n k a) (rot n k b) = rot n k (zipA f a b) := by
  have hc := zipA_ok (f := f) (b := b) ha
  unfold rot
  rw [ha.nsh_eq, hb.nsh_eq, hc.nsh_eq]
  exact zip_pull ha hb hz hk fun i hi => rot_lt hi
theorem zip_flip {f : Int} {a b : Arr} {t u : List Nat} (ha : Ok a t) (hb : Ok b t) (hz : ZipFine f a b) (hu : Perm u) (hl : u.length = t.length) : ZipFine f (flip u a) (flip u b) ∧ zipA f (flip u a) (flip u b) = flip u (zipA f a b) := by
  have hc := zipA_ok (f := f) (b := b) ha
  refine zip_moved (φ := fun ix => aft ix u) ha hb hz (flip_ok ha hu hl) (flip_ok hb hu hl) (flip_ok hc hu hl) rfl rfl rfl (fun ix hi => aft_inside hu hl hi) (fun ix hi => ?_) (fun ix hi => ?_) (fun ix hi => ?_)
  · unfold flip; rw [ha.nsh_eq]; exact tab_cell hi
  · unfold flip; rw [hb.nsh_eq]; exact tab_cell hi
  · unfold flip; rw [hc.nsh_eq]; exact tab_cell hi
theorem wf_tab {a : Arr} {c : Bool} {s : List Nat} {φ : List Nat → List Nat} (hw : Wf a.da) : Wf (tab c s fun ix => a.cell (φ ix)).da := by
  intro x hx
  unfold tab at hx
  obtain ⟨p, -, rfl⟩ := List.mem_map.1 hx
  show (Lit.int .i64 (a.da.getD (place a.nsh (φ (coords s p))) 0)).wf = true
  rw [List.getD_eq_getElem?_getD]
  cases e : a.da[place a.nsh (φ (coords s p))]? with
  | none => decide
  | some y => exact hw _ (List.mem_of_getElem? e)
theorem wf_rev {a : Arr} {k : Nat} (hw : Wf a.da) : Wf (rev k a).da := wf_tab hw
theorem wf_rot {a : Arr} {k : Nat} {n : Int} (hw : Wf a.da) : Wf (rot n k a).da := wf_tab hw
theorem wf_flip {a : Arr} {u : List Nat} (hw : Wf a.da) : Wf (flip u a).da := wf_tab hw
end Go.Proofs.YtojeggeimnenbaaDoor.P
namespace Go.Proofs.YtojeggeimnenbaaDoor
open Go Go.RowKit Go.Proofs.YtojeggeimnenbaaDoor.P
theorem FillTells.zip {f : Int} {a b : Arr} {t : List Nat} {w : World} {e : Ending} {w' : World} (ha : Ok a t) (hb : Ok b t)
    (h : FillTells (fun i => cellV a.ch b.ch f (oneAt a b i) (twoAt a b i)) (fun i => cellE a.ch b.ch f (oneAt a b i) (twoAt a b i)) (fitN a b) (fitSh a b) w e w') :
    FillTells (fun i => cellV a.ch b.ch f (a.da.getD i 0) (b.da.getD i 0)) (fun i => cellE a.ch b.ch f (a.da.getD i 0) (b.da.getD i 0)) a.da.length a.sh w e w' := by
  have hsh : a.sh = b.sh := by rw [ha.sh, hb.sh]
  have hn : a.da.length = b.da.length := by rw [ha.len, hb.len]
  have e1 : fitSh a b = a.sh := by unfold fitSh; rw [hsh]; simp
  have e2 : fitN a b = a.da.length := by unfold fitN; rw [hn]; simp
  have e3 : ∀ i, i < a.da.length → oneAt a b i = a.da.getD i 0 ∧ twoAt a b i = b.da.getD i 0 := fun i hi => by
    unfold oneAt twoAt
    by_cases h0 : a.sh.length = 0
    · have ht : t = [] := List.length_eq_zero_iff.1 (by rw [← length_ints, ← ha.sh]; exact h0)
      have : i = 0 := by have := ha.len; rw [ht] at this; simp [prod] at this; omega
      subst this
      simp [h0]
    · rw [if_neg h0, if_neg h0, if_neg (by rw [← hsh]; exact h0)]
      exact ⟨rfl, rfl⟩
  rw [e1, e2] at h
  rcases h with ⟨h1, h2⟩ | ⟨i, hi, hm, hne, h2⟩
  · refine .inl ⟨fun i hi => by have := h1 i hi; simp only [(e3 i hi).1, (e3 i hi).2] at this; exact this, ?_⟩
    rw [List.map_congr_left (fun i hi => by simp only [(e3 i (List.mem_range.1 hi)).1, (e3 i (List.mem_range.1 hi)).2] : ∀ i ∈ List.range a.da.length, cellV a.ch b.ch f (oneAt a b i) (twoAt a b i) = cellV a.ch b.ch f (a.da.getD i 0) (b.da.getD i 0))] at h2
    exact h2
  · refine .inr ⟨i, hi, fun j hj => ?_, ?_, ?_⟩
    · have := hm j hj; simp only [(e3 j (by omega)).1, (e3 j (by omega)).2] at this; exact this
    · simp only [(e3 i hi).1, (e3 i hi).2] at hne; exact hne
    · simp only [(e3 i hi).1, (e3 i hi).2] at h2; exact h2
theorem each_zip {va vb : Value} {a b : Arr} {t : List Nat} {w : World} {f : Int} (ha : IsArr w va a) (hb : IsArr w vb b) (hwb : Wf b.da) (hoa : Ok a t) (hob : Ok b t) (hz : ZipFine f a b) :
    Calls Tryd.prog 23 #[.int .i64 f, va, vb] w (GivesOk (zipA f a b) w) := by
  refine (each_told ha hb hwb).mono fun e w' h => ?_
  rcases h with ⟨h1, -⟩ | ⟨-, h2⟩
  · exact absurd hz.1 h1
  · rcases h2.zip hoa hob with ⟨-, h3⟩ | ⟨i, hi, -, hne, -⟩
    · exact h3
    · exact absurd (hz.2 i hi) hne
end Go.Proofs.YtojeggeimnenbaaDoor
