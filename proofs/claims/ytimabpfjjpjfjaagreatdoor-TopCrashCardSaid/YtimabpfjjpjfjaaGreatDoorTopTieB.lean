/- What the tie of the listed variables needs: what is stored, in order. -/
import Derived.Test.YtimabpfjjpjfjaaGreatDoorRows
import Derived.LaidByTextLater
namespace Go.Proofs.YtimabpfjjpjfjaaGreatDoor
open Go
theorem t_n : varsNamedLaterB Tryz.prog (varsId Tryz.prog) [("internal/strconv.uint64pow10", Rows.laid_internal_strconv_uint64pow10), ("math/bits.deBruijn32tab", Rows.laid_math_bits_deBruijn32tab), ("math/bits.deBruijn64tab", Rows.laid_math_bits_deBruijn64tab), ("escheat/console.forms", Rows.laid_escheat_console_forms), ("strconv.ErrSyntax", Rows.laid_strconv_ErrSyntax), ("strconv.ErrRange", Rows.laid_strconv_ErrRange), ("unicode/utf8.acceptRanges", Rows.laid_unicode_utf8_acceptRanges), ("escheat/op.fields", Rows.laid_escheat_op_fields)] = true := by kernel_rfl
end Go.Proofs.YtimabpfjjpjfjaaGreatDoor
