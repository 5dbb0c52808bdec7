/- The tie of the listed variables, of its facts; the row's tie. -/
import Derived.Test.YtimabpfjjpjfjaaGreatDoorTopTieA
import Derived.Test.YtimabpfjjpjfjaaGreatDoorTopTieB
import Derived.Test.YtimabpfjjpjfjaaGreatDoorTopTieC
import Derived.Test.YtimabpfjjpjfjaaGreatDoorTopTieD
import Derived.Test.YtimabpfjjpjfjaaGreatDoorTopTieE
import Derived.SevenTiedAt
namespace Go.Proofs.YtimabpfjjpjfjaaGreatDoor
open Go
theorem t_pin : Tryz.pinned.checked.prog.pinnedFits "unicode/utf8.first" = true := by kernel_rfl
theorem t_own : Tryz.pinned.checked.prog.headLifts.contains "ownunsafe" = false := by kernel_rfl
theorem t_fits : Tryz.pinned.checked.prog.listedFits [("internal/strconv.uint64pow10", Rows.laid_internal_strconv_uint64pow10), ("math/bits.deBruijn32tab", Rows.laid_math_bits_deBruijn32tab), ("math/bits.deBruijn64tab", Rows.laid_math_bits_deBruijn64tab), ("escheat/console.forms", Rows.laid_escheat_console_forms), ("strconv.ErrSyntax", Rows.laid_strconv_ErrSyntax), ("strconv.ErrRange", Rows.laid_strconv_ErrRange), ("unicode/utf8.first", Rows.laid_unicode_utf8_first), ("unicode/utf8.acceptRanges", Rows.laid_unicode_utf8_acceptRanges), ("escheat/op.fields", Rows.laid_escheat_op_fields)] = true := by
  unfold Program.listedFits
  rw [t_own]
  kernel_rfl
theorem t_tie : Tryz.prog.laidByTextLater [("internal/strconv.uint64pow10", Rows.laid_internal_strconv_uint64pow10), ("math/bits.deBruijn32tab", Rows.laid_math_bits_deBruijn32tab), ("math/bits.deBruijn64tab", Rows.laid_math_bits_deBruijn64tab), ("escheat/console.forms", Rows.laid_escheat_console_forms), ("strconv.ErrSyntax", Rows.laid_strconv_ErrSyntax), ("strconv.ErrRange", Rows.laid_strconv_ErrRange), ("unicode/utf8.acceptRanges", Rows.laid_unicode_utf8_acceptRanges), ("escheat/op.fields", Rows.laid_escheat_op_fields)] [.data, .data, .data, .data, .sentinel, .sentinel, .data, .data] true :=
  Program.laidByTextLater_by_run 400 8 t_w t_w2 t_r t_k t_g t_n t_d t_1 t_2
theorem t_row : Rows.topCrashRow.laidByTextAt .later Tryz.pinned [.data, .data, .data, .data, .sentinel, .sentinel, .pinned, .data, .data] true :=
  OpenClaim.laidByTextAt_pinned rfl rfl t_tie rfl rfl rfl rfl (fun y hy _e => by
    simp only [Rows.topCrashRow, List.zip_cons_cons, List.zip_nil_right, List.mem_cons, List.mem_nil_iff, or_false] at hy
    rcases hy with rfl | rfl | rfl | rfl | rfl | rfl | rfl | rfl | rfl
    · cases _e
    · cases _e
    · cases _e
    · cases _e
    · cases _e
    · cases _e
    · exact ⟨t_pin, by kernel_rfl⟩
    · cases _e
    · cases _e) t_fits
end Go.Proofs.YtimabpfjjpjfjaaGreatDoor
