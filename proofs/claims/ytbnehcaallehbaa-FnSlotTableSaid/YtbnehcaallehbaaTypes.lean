/- The types of this program whose cells are all integers; the table's row of each element type. -/
import Derived.Test.YtbnehcaallehbaaChecked
import Derived.Test.YtbnehcaallehbaaOpen
namespace Go.Proofs.Ytbnehcaallehbaa
set_option linter.unusedVariables false
set_option linter.unusedSimpArgs false
open Go.RowKit

theorem int_info : (Try.prog.info? 3).map (fun i => (i.zero, i.size, i.bytes)) = some (some (.int .i64 0), 1, 8) := by kernel_rfl
theorem allInts_lawsHost : AllInts Try.prog 84 := allInts_struct Try.underlying84 (by kernel_rfl) (by
  intro f hf
  simp at hf
  rcases hf with rfl | rfl | rfl <;> exact allInts_int Try.underlying3)
end Go.Proofs.Ytbnehcaallehbaa
