/-
  What the two tables of unicode/utf8 hold when a call begins, out of the row's list of variables.
-/
import Derived.Test.YtpgcepfecmkkaaaDoorRows
import Derived.Test.YtpgcepfecmkkaaaDoorShelf
import Derived.Lib.LaidU8
import Derived.Lib.LaidU8T
import Derived.PinnedBridge
import Derived.MakeChecks
import Derived.LaidMore
namespace Go.Proofs.YtpgcepfecmkkaaaDoor
open Go.Shelf Go.Lib
theorem accept_is : (Rows.laid_unicode_utf8_acceptRanges : DataW Unit) = acceptData := by kernel_rfl
theorem tabs_of {W : World} (h : laidMetH Tryd.prog [("unicode/utf8.acceptRanges", Rows.laid_unicode_utf8_acceptRanges), ("unicode/utf8.first", Rows.laid_unicode_utf8_first)] W) : Lib.Utf8Tabs 0 1 W := by
  rw [MakeChecks.laidMetH_plain _ _ _ (by kernel_rfl)] at h
  have e1 : VarReads Tryd.prog W "unicode/utf8.acceptRanges" acceptData := accept_is ▸ laidMet.reads h (.head _)
  have e2 : VarReads Tryd.prog W "unicode/utf8.first" firstData := Pinned.utf8First_eq ▸ laidMet.reads h (.tail _ (.head _))
  exact utf8Tabs_of_readsT (U8Types.of260 Tryd.lays260) ⟨by kernel_rfl, by kernel_rfl, by kernel_rfl, by kernel_rfl, by kernel_rfl, by kernel_rfl, by kernel_rfl⟩ e2 e1
end Go.Proofs.YtpgcepfecmkkaaaDoor
