/- What the tie of the listed variables needs: their rows lie apart. -/
import Derived.Test.YtimabpfjjpjfjaaGreatDoorRows
import Derived.LaidByTextLater
namespace Go.Proofs.YtimabpfjjpjfjaaGreatDoor
open Go
theorem t_2 : ∀ os tape, (DataW.laidRun Tryz.prog (varsWorld Tryz.prog 400 (varsId Tryz.prog) os tape).memory 8 (([("internal/strconv.uint64pow10", Rows.laid_internal_strconv_uint64pow10), ("math/bits.deBruijn32tab", Rows.laid_math_bits_deBruijn32tab), ("math/bits.deBruijn64tab", Rows.laid_math_bits_deBruijn64tab), ("escheat/console.forms", Rows.laid_escheat_console_forms), ("strconv.ErrSyntax", Rows.laid_strconv_ErrSyntax), ("strconv.ErrRange", Rows.laid_strconv_ErrRange), ("unicode/utf8.acceptRanges", Rows.laid_unicode_utf8_acceptRanges), ("escheat/op.fields", Rows.laid_escheat_op_fields)] : List (String × DataW Unit)).map (·.1))).map (fun x => decide x.2.Nodup && laidRowsB Tryz.prog (varsWorld Tryz.prog 400 (varsId Tryz.prog) os tape).memory x.2) = some true := fun _ _ => by kernel_rfl
end Go.Proofs.YtimabpfjjpjfjaaGreatDoor
