/- The types of this program whose cells are all integers; the table's row of each element type. -/
import Derived.Test.YtecknackloolgaaChecked
import Derived.Test.YtecknackloolgaaOpen
namespace Go.Proofs.Ytecknackloolgaa
open Go.RowKit

theorem int_info : (Try.prog.info? 3).map (fun i => (i.zero, i.size, i.bytes)) = some (some (.int .i64 0), 1, 8) := by kernel_rfl
theorem allInts_lawsFlow : AllInts Try.prog 107 := allInts_struct Try.underlying107 (by kernel_rfl) (by
  intro f hf
  simp at hf
  rcases hf with rfl | rfl | rfl | rfl | rfl <;> exact allInts_int Try.underlying3)
theorem allInts_lawsHost : AllInts Try.prog 87 := allInts_struct Try.underlying87 (by kernel_rfl) (by
  intro f hf
  simp at hf
  rcases hf with rfl | rfl | rfl <;> exact allInts_int Try.underlying3)
theorem allInts_lawsEntry : AllInts Try.prog 109 := allInts_struct Try.underlying109 (by kernel_rfl) (by
  intro f hf
  simp at hf
  rcases hf with rfl | rfl | rfl
  · exact allInts_lawsFlow
  · exact allInts_int Try.underlying3
  · exact allInts_int Try.underlying3)
end Go.Proofs.Ytecknackloolgaa
