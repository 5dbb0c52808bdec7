/- What the row says of the program: what it reaches. -/
import Derived.Test.YtimabpfjjpjfjaaGreatDoorTopFaA
namespace Go.Proofs.YtimabpfjjpjfjaaGreatDoor.topCrash
set_option maxRecDepth 100000
set_option linter.all false
open Go
theorem cJ6 : J6 Tryz.prog 3 Tryz.f3 Rows.topCrashSpec Rows.topCrashRow = true := by kernel_rfl
theorem cJ7 : J7 Tryz.prog 3 Tryz.f3 Rows.topCrashSpec Rows.topCrashRow = true := by kernel_rfl
theorem cJ8 : J8 Tryz.prog 3 Tryz.f3 Rows.topCrashSpec Rows.topCrashRow = true := by kernel_rfl
theorem cJ9 : J9 Tryz.prog 3 Tryz.f3 Rows.topCrashSpec Rows.topCrashRow = true := by kernel_rfl
end Go.Proofs.YtimabpfjjpjfjaaGreatDoor.topCrash
