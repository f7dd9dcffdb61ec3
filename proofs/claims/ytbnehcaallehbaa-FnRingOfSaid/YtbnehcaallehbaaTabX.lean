/- Tables copied and compared. -/
import Derived.Test.YtbnehcaallehbaaTabV
import Derived.Test.YtbnehcaallehbaaDrawR
import Derived.Lib.SmallJoins
namespace Go.Proofs.Ytbnehcaallehbaa
set_option linter.unusedVariables false
set_option linter.unusedSimpArgs false
open Go.RowKit Go.Sort Go.Maps Go.ChangeShapes Go.WideShapes Go.Joins Go.Deep

theorem entry_info : (Try.prog.info? 50).map (fun i => (i.zero, i.size, i.bytes)) = some (some (.agg #[.int .i64 0, .int .i64 0, .int .i64 0, .int .i64 0, .int .i64 0, .int .i64 0, .int .i64 0]), 7, 56) := by kernel_rfl

end Go.Proofs.Ytbnehcaallehbaa
