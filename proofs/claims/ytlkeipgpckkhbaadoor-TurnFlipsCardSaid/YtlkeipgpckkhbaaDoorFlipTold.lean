/- turn.Flip: an answer or an error. Conditions: none. -/
import Derived.Test.YtlkeipgpckkhbaaDoorFlipWalk
import Derived.Test.YtlkeipgpckkhbaaDoorRefFlipped
namespace Go.Proofs.YtlkeipgpckkhbaaDoor
open Go Go.RowKit Go.Proofs.YtlkeipgpckkhbaaDoor.P
theorem flip_told {vp v : Value} {p : List Int} {a : Arr} {w : World} (hp : IsInts w vp p) (ha : IsArr w v a) :
    Calls Tryd.prog 10 #[vp, v] w (Told (P.flip (p.map Int.toNat) a) (flipErr p a) w) := by
  by_cases h : flipErr p a = 0
  · obtain ⟨t, u, ht, rfl, hu, hl⟩ := flipErr_zero h
    rw [ints_back]
    exact (flip_ok' hp ha ht hu hl).mono fun e w' q => .inl ⟨h, q⟩
  · exact (flip_bad hp ha h).mono fun e w' q => .inr ⟨h, q⟩
end Go.Proofs.YtlkeipgpckkhbaaDoor
