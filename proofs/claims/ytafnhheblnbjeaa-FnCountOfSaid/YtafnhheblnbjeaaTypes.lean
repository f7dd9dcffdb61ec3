/- The types of this program whose cells are all integers; the table's row of each element type. -/
import Derived.Test.YtafnhheblnbjeaaChecked
import Derived.Test.YtafnhheblnbjeaaOpen
namespace Go.Proofs.Ytafnhheblnbjeaa
open Go.RowKit

theorem int_info : (Try.prog.info? 3).map (fun i => (i.zero, i.size, i.bytes)) = some (some (.int .i64 0), 1, 8) := by kernel_rfl
theorem allInts_lawsFlow : AllInts Try.prog 26 := allInts_struct Try.underlying26 (by kernel_rfl) (by
  intro f hf
  simp at hf
  rcases hf with rfl | rfl | rfl | rfl | rfl <;> exact allInts_int Try.underlying3)
end Go.Proofs.Ytafnhheblnbjeaa
