/- What the tie of the listed variables needs: words, kinds. -/
import Derived.Test.YtimabpfjjpjfjaaGreatDoorRows
import Derived.LaidByTextLater
namespace Go.Proofs.YtimabpfjjpjfjaaGreatDoor
open Go
theorem t_w : Tryz.prog.worded (varsWordLater true) = true := by kernel_rfl
theorem t_w2 : Tryz.prog.worded (varsWordLater !true) = false := by kernel_rfl
theorem t_r : Tryz.prog.worded rootWordLater = true := by kernel_rfl
theorem t_g : (Tryz.prog.funcNamed "gosem.cut.vars").isSome = true := by kernel_rfl
theorem t_k : (([("internal/strconv.uint64pow10", Rows.laid_internal_strconv_uint64pow10), ("math/bits.deBruijn32tab", Rows.laid_math_bits_deBruijn32tab), ("math/bits.deBruijn64tab", Rows.laid_math_bits_deBruijn64tab), ("escheat/console.forms", Rows.laid_escheat_console_forms), ("strconv.ErrSyntax", Rows.laid_strconv_ErrSyntax), ("strconv.ErrRange", Rows.laid_strconv_ErrRange), ("unicode/utf8.acceptRanges", Rows.laid_unicode_utf8_acceptRanges), ("escheat/op.fields", Rows.laid_escheat_op_fields)] : List (String × DataW Unit)).map fun x => Tryz.prog.kindOfLater x.1) = ([.data, .data, .data, .data, .sentinel, .sentinel, .data, .data] : List LaidKind).map some := by kernel_rfl
end Go.Proofs.YtimabpfjjpjfjaaGreatDoor
