/- The types of this program whose cells are all integers; the table's row of each element type. -/
import Derived.Test.YtpbpddggmlgkdaaChecked
import Derived.Test.YtpbpddggmlgkdaaOpen
namespace Go.Proofs.Ytpbpddggmlgkdaa
set_option linter.unusedVariables false
set_option linter.unusedSimpArgs false
open Go.RowKit

theorem int_info : (Try.prog.info? 3).map (fun i => (i.zero, i.size, i.bytes)) = some (some (.int .i64 0), 1, 8) := by kernel_rfl
theorem allInts_lawsFlow : AllInts Try.prog 62 := allInts_struct Try.underlying62 (by kernel_rfl) (by
  intro f hf
  simp at hf
  rcases hf with rfl | rfl | rfl | rfl | rfl <;> exact allInts_int Try.underlying3)
theorem allInts_lawsHost : AllInts Try.prog 75 := allInts_struct Try.underlying75 (by kernel_rfl) (by
  intro f hf
  simp at hf
  rcases hf with rfl | rfl | rfl <;> exact allInts_int Try.underlying3)
theorem allInts_lawsEntry : AllInts Try.prog 115 := allInts_struct Try.underlying115 (by kernel_rfl) (by
  intro f hf
  simp at hf
  rcases hf with rfl | rfl | rfl
  · exact allInts_lawsFlow
  · exact allInts_int Try.underlying3
  · exact allInts_int Try.underlying3)
end Go.Proofs.Ytpbpddggmlgkdaa
