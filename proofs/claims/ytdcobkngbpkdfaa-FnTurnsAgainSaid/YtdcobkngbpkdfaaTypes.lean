/- The types of this program whose cells are all integers; the table's row of each element type. -/
import Derived.Test.YtdcobkngbpkdfaaChecked
import Derived.Test.YtdcobkngbpkdfaaOpen
namespace Go.Proofs.Ytdcobkngbpkdfaa
set_option linter.unusedVariables false
set_option linter.unusedSimpArgs false
open Go.RowKit

theorem int_info : (Try.prog.info? 3).map (fun i => (i.zero, i.size, i.bytes)) = some (some (.int .i64 0), 1, 8) := by kernel_rfl
theorem allInts_lawsFlow : AllInts Try.prog 53 := allInts_struct Try.underlying53 (by kernel_rfl) (by
  intro f hf
  simp at hf
  rcases hf with rfl | rfl | rfl | rfl | rfl <;> exact allInts_int Try.underlying3)
theorem allInts_lawsHost : AllInts Try.prog 79 := allInts_struct Try.underlying79 (by kernel_rfl) (by
  intro f hf
  simp at hf
  rcases hf with rfl | rfl | rfl <;> exact allInts_int Try.underlying3)
theorem allInts_lawsEntry : AllInts Try.prog 103 := allInts_struct Try.underlying103 (by kernel_rfl) (by
  intro f hf
  simp at hf
  rcases hf with rfl | rfl | rfl
  · exact allInts_lawsFlow
  · exact allInts_int Try.underlying3
  · exact allInts_int Try.underlying3)
end Go.Proofs.Ytdcobkngbpkdfaa
