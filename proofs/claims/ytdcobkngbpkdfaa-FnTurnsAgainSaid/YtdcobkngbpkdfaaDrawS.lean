/- Draws of a pool, a number and a state. -/
import Derived.Test.YtdcobkngbpkdfaaDrawK
import Derived.Test.YtdcobkngbpkdfaaDrawJ
namespace Go.Proofs.Ytdcobkngbpkdfaa
set_option linter.unusedVariables false
set_option linter.unusedSimpArgs false
open Go.RowKit

def pIntZ (v : Value) (_ : World) : Prop := ∃ z : Int, v = .int .i64 z
theorem kept_intZ (R : Nat) : Kept R pIntZ := fun _ _ _ _ h => h
end Go.Proofs.Ytdcobkngbpkdfaa
