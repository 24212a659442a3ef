/- The table of powers of ten, out of the row's list. -/
import Derived.Test.YtpbdlmjfjkfphaaDoorRows
import Derived.Test.YtpbdlmjfjkfphaaDoorFmt
import Derived.Lib.LaidTab
import Derived.Stop.LaidErr
import Derived.LaidMore
namespace Go.Proofs.YtpbdlmjfjkfphaaDoor
open Go.RowKit

theorem size_of_wf {s : ByteArray} (h : s.size ≤ maxLen) : s.size ≤ 9223372036854775807 := by unfold maxLen at h; omega
theorem own : ownKnob Tryd.prog.godebug = none := by kernel_rfl
theorem gPow : (Tryd.prog.globalNamed "internal/strconv.uint64pow10").isSome = true := by kernel_rfl
theorem pow_data {H : Type} : (Rows.laid_internal_strconv_uint64pow10 : DataW H) = Lib.tabData .u64 Lib.pow10Tab := rfl
theorem tab_of_laid {W : World} (h : laidMetH Tryd.prog Rows.natRingRow.laid W) : Tab W := by
  rw [MakeChecks.laidMetH_plain _ _ _ (by kernel_rfl)] at h
  have h2 := (show laidMet Tryd.prog [("math/bits.deBruijn32tab", Rows.laid_math_bits_deBruijn32tab), ("math/bits.deBruijn64tab", Rows.laid_math_bits_deBruijn64tab), ("internal/strconv.uint64pow10", Lib.tabData .u64 Lib.pow10Tab), ("strconv.ErrRange", Rows.laid_strconv_ErrRange), ("strconv.ErrSyntax", Rows.laid_strconv_ErrSyntax)] W from h).tail.tail
  obtain ⟨g, hg⟩ := Option.isSome_iff_exists.1 gPow
  exact Lib.tabIs_of_head hg (by obtain rfl : g = (Tryd.prog.globalNamed "internal/strconv.uint64pow10").get gPow := by simp [hg]
                                 kernel_rfl) Tryd.underlying104 Tryd.underlying65 (by kernel_rfl) (by kernel_rfl) h2
end Go.Proofs.YtpbdlmjfjkfphaaDoor
