/- The host with the fewest flows for its weight. -/
import Derived.Test.YtbnehcaallehbaaTot
import Derived.Test.YtbnehcaallehbaaInts
namespace Go.Proofs.Ytbnehcaallehbaa
set_option linter.unusedVariables false
set_option linter.unusedSimpArgs false
open Go.RowKit

/-- Is b fewer for its weight than a, by the flows? -/
def fewB (fs : List Int) (a b : Hst) : Bool := decide (a.num < 0) || decide ((fs.count b.num : Int) * a.wt < (fs.count a.num : Int) * b.wt)
def fewL (fs : List Int) (l : List Hst) : Hst := l.foldl (fun a b => if fewB fs a b = true then b else a) ⟨-1, 0, 0⟩
def fewZ (hs : List Hst) (fs : List Int) : Int := if poolB hs = true then (fewL fs (ups hs)).num else -1
theorem fewZ_no {hs : List Hst} {fs : List Int} (h : poolB hs = false) : fewZ hs fs = -1 := by simp [fewZ, h]
theorem fewZ_yes {hs : List Hst} {fs : List Int} (h : poolB hs = true) : fewZ hs fs = (fewL fs (ups hs)).num := by simp [fewZ, h]
theorem fewL_take {fs : List Int} {l : List Hst} {k : Nat} {x : Hst} (hx : l[k]? = some x) : fewL fs (l.take (k + 1)) = if fewB fs (fewL fs (l.take k)) x = true then x else fewL fs (l.take k) := by
  unfold fewL
  rw [List.take_add_one, hx]
  simp
theorem fewL_snoc (fs : List Int) (l : List Hst) (x : Hst) : fewL fs (l ++ [x]) = if fewB fs (fewL fs l) x = true then x else fewL fs l := by
  unfold fewL
  rw [List.foldl_append]
  rfl
theorem mul_bd {a b : Int} (h0 : 0 ≤ a) (h1 : a ≤ 1048576) (g0 : 0 ≤ b) (g1 : b ≤ 5) : 0 ≤ a * b ∧ a * b ≤ 5242880 := by
  have := Int.mul_nonneg h0 g0
  have h2 := Int.mul_le_mul h1 g1 g0 (by omega)
  omega

end Go.Proofs.Ytbnehcaallehbaa
