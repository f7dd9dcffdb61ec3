/- The types of this program whose cells are all integers; the table's row of each element type. -/
import Derived.Test.YtecimocclmjpdaaChecked
import Derived.Test.YtecimocclmjpdaaOpen
namespace Go.Proofs.Ytecimocclmjpdaa
open Go.RowKit

theorem int_info : (Try.prog.info? 3).map (fun i => (i.zero, i.size, i.bytes)) = some (some (.int .i64 0), 1, 8) := by kernel_rfl
theorem allInts_lawsFlow : AllInts Try.prog 54 := allInts_struct Try.underlying54 (by kernel_rfl) (by
  intro f hf
  simp at hf
  rcases hf with rfl | rfl | rfl | rfl | rfl <;> exact allInts_int Try.underlying3)
theorem allInts_lawsHost : AllInts Try.prog 72 := allInts_struct Try.underlying72 (by kernel_rfl) (by
  intro f hf
  simp at hf
  rcases hf with rfl | rfl | rfl <;> exact allInts_int Try.underlying3)
theorem allInts_lawsPoint : AllInts Try.prog 68 := allInts_struct Try.underlying68 (by kernel_rfl) (by
  intro f hf
  simp at hf
  rcases hf with rfl | rfl <;> exact allInts_int Try.underlying3)
end Go.Proofs.Ytecimocclmjpdaa
