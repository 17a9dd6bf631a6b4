/- What seek.Nub, Meet and Without tell. Conditions: none. -/
import Derived.Test.YtlkeipgpckkhbaaDoorNubBad
import Derived.Test.YtlkeipgpckkhbaaDoorMeetBad
namespace Go.Proofs.YtlkeipgpckkhbaaDoor
open Go Go.RowKit Go.Proofs.YtlkeipgpckkhbaaDoor.P

theorem nub_told {v : Value} {a : Arr} {w : World} (ha : IsArr w v a) (hw : Wf a.da) : Calls Tryd.prog 12 #[v] w (Told (nub a) (nubErr a) w) := by
  by_cases h : nubErr a = 0
  · exact (nub_gives ha hw h).mono fun e w' p => .inl ⟨h, p⟩
  · exact (nub_bad ha h).mono fun e w' p => .inr ⟨h, p⟩
theorem meet_told {va vb : Value} {a b : Arr} {w : World} (ha : IsArr w va a) (hb : IsArr w vb b) (hwa : Wf a.da) (hwb : Wf b.da) : Calls Tryd.prog 15 #[va, vb] w (Told (meet a b) (pairErr a b) w) := by
  by_cases h : pairErr a b = 0
  · refine (meet_gives ha hb hwa hwb h).mono fun e w' p => .inl ⟨h, ?_⟩
    unfold meet
    rw [← sel_filter]
    exact p
  · exact (meet_bad ha hb h).mono fun e w' p => .inr ⟨h, p⟩
theorem without_told {va vb : Value} {a b : Arr} {w : World} (ha : IsArr w va a) (hb : IsArr w vb b) (hwa : Wf a.da) (hwb : Wf b.da) : Calls Tryd.prog 14 #[va, vb] w (Told (without a b) (pairErr a b) w) := by
  by_cases h : pairErr a b = 0
  · refine (without_gives ha hb hwa hwb h).mono fun e w' p => .inl ⟨h, ?_⟩
    unfold without
    rw [← sel_filter]
    exact p
  · exact (without_bad ha hb h).mono fun e w' p => .inr ⟨h, p⟩

end Go.Proofs.YtlkeipgpckkhbaaDoor
