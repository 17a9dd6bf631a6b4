/- What the card TopProduct leans on: TopRow. Conditions: none but those of its theorems. -/
import Derived.Test.YtihndbkaoejnnaaGreatDoorCards
import Derived.Test.YtihndbkaoejnnaaGreatDoorTie
import Derived.ChangeSame
import Derived.ChangeVars
import Derived.JoinedOf
import Derived.LaidLaws
import Derived.PinnedBridge
import Derived.Lay
import Derived.LaidOnce
import Derived.SevenTiedAt
import Derived.Test.YtihndbkaoejnnaaGreatDoorProductD
import Derived.Test.YtihndbkaoejnnaaGreatDoorProductF
import Derived.Test.YtihndbkaoejnnaaGreatDoorProductI
set_option linter.unusedSimpArgs false
set_option linter.unusedVariables false
namespace Go.Proofs.YtihndbkaoejnnaaGreatDoor
open Go Go.ChangeShapes Go.WideShapes Go.RowKit

/-- What these rows list. -/
def topLaid : List (String × DataW Unit) := [("math/bits.deBruijn32tab", Rows.laid_math_bits_deBruijn32tab), ("math/bits.deBruijn64tab", Rows.laid_math_bits_deBruijn64tab), ("internal/strconv.uint64pow10", Rows.laid_internal_strconv_uint64pow10), ("unicode/utf8.acceptRanges", Rows.laid_unicode_utf8_acceptRanges), ("strconv.ErrRange", Rows.laid_strconv_ErrRange), ("strconv.ErrSyntax", Rows.laid_strconv_ErrSyntax), ("unicode/utf8.first", Rows.laid_unicode_utf8_first)]

theorem accept_is : (Rows.laid_unicode_utf8_acceptRanges : DataW Unit) = Lib.acceptData := by kernel_rfl
theorem pow10_is : (Rows.laid_internal_strconv_uint64pow10 : DataW Unit) = Lib.tabData .u64 Lib.pow10Tab := by kernel_rfl
theorem first_is : Rows.laid_unicode_utf8_first = Lib.firstData := Pinned.utf8First_eq
theorem top_extra : U8Extra Tryz.prog Tryz.lays197_ren := ⟨by kernel_rfl, by kernel_rfl, by kernel_rfl, by kernel_rfl, by kernel_rfl, by kernel_rfl, by kernel_rfl⟩

theorem std_of_laid {W : World} (h : laidMet Tryz.prog topLaid W) : Std W := by
  have h1 : Lib.VarReads Tryz.prog W "unicode/utf8.first" Lib.firstData := first_is ▸ Lib.laidMet.reads h (by simp [topLaid])
  have h2 : Lib.VarReads Tryz.prog W "unicode/utf8.acceptRanges" Lib.acceptData := accept_is ▸ Lib.laidMet.reads h (by simp [topLaid])
  have h3 : Lib.VarReads Tryz.prog W "internal/strconv.uint64pow10" (Lib.tabData .u64 Lib.pow10Tab) := pow10_is ▸ Lib.laidMet.reads h (by simp [topLaid])
  have hu : Lib.Utf8Tabs 0 1 W := utf8Tabs_of_reads (ρ := Tryz.lays197_ren) { Tryz.lays197 with } top_extra h1 h2
  obtain ⟨g, t, cs, fuel, p, hg, hty, hvar, hd⟩ := h3
  obtain rfl := Option.some.inj (pow10_at.symm.trans hg)
  obtain rfl := Option.some.inj ((show (Tryz.prog.globals[5]?).map (·.type) = some 258 by kernel_rfl).symm.trans hty)
  have hcs := Lib.cells_of_tab Tryz.underlying258 Tryz.underlying222 (by kernel_rfl) (by kernel_rfl) hd
  have ht : Lib.TabIs Tryz.prog W "internal/strconv.uint64pow10" .u64 Lib.pow10Tab := by
    unfold Lib.TabIs
    rw [hvar, ← hcs]
  refine ⟨hu, ht, ?_⟩
  have hc := ht.cell pow10_at 0 (by decide)
  exact World.block_lt_of_cell? W _ hc

end Go.Proofs.YtihndbkaoejnnaaGreatDoor
