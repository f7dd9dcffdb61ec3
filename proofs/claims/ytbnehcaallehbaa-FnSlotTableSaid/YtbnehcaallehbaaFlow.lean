/- Flows by value: the test, the turn, the copy, the comparison. -/
import Derived.Test.YtbnehcaallehbaaIn
namespace Go.Proofs.Ytbnehcaallehbaa
set_option linter.unusedVariables false
set_option linter.unusedSimpArgs false
open Go.RowKit

def flowB (a b c d k : Int) : Bool := inB a 0 255 && inB c 0 255 && inB b 0 999 && inB d 0 999 && inB k 1 2
def flowEq (a b c d k a' b' c' d' k' : Int) : Bool := decide (a = a' ∧ b = b' ∧ c = c' ∧ d = d' ∧ k = k')

theorem flowValid_impl (a b c d k : Int) (w : World) :
    Calls Try.prog 55 #[.agg #[.int .i64 a, .int .i64 b, .int .i64 c, .int .i64 d, .int .i64 k]] w fun e w' => e = .returned (.bool (flowB a b c d k)) ∧ New w w' := by
  go_enter Try.func55, Try.ntmps55
  go_wp2_with (go_at_call 76; refine (in_any _ _ _ _).mono ?_; rintro e w' ⟨rfl, rfl⟩)
  all_goals
    go_ret
    exact ⟨by simp [flowB, *], (by repeat (first | with_reducible assumption | with_reducible exact New.refl _ | with_reducible refine New.alloc ?_ _ | with_reducible refine New.drew ?_ | with_reducible refine New.drewN ?_ _ | refine New.setCell ?_ (by first | (simp; done) | omega | (simp; omega)) _ | with_reducible refine New.trans ?_ (by with_reducible assumption)))⟩
theorem flowValid_spec (a b c d k : Int) (w : World) :
    Calls Try.prog 78 #[.agg #[.int .i64 a, .int .i64 b, .int .i64 c, .int .i64 d, .int .i64 k]] w fun e w' => e = .returned (.bool (flowB a b c d k)) ∧ New w w' := by
  go_enter Try.func78, Try.ntmps78
  go_wp2_with (go_at_call 79; refine (l1In_any _ _ _ _).mono ?_; rintro e w' ⟨rfl, rfl⟩)
  all_goals
    go_ret
    exact ⟨by simp [flowB, *], (by repeat (first | with_reducible assumption | with_reducible exact New.refl _ | with_reducible refine New.alloc ?_ _ | with_reducible refine New.drew ?_ | with_reducible refine New.drewN ?_ _ | refine New.setCell ?_ (by first | (simp; done) | omega | (simp; omega)) _ | with_reducible refine New.trans ?_ (by with_reducible assumption)))⟩
theorem alive_any (w : World) : Calls Try.prog 19 #[] w fun e w' => e = .returned (.bool true) ∧ New w w' := by
  go_enter Try.func19, Try.ntmps19
  go_wp2_with (go_at_call 55; refine (flowValid_impl _ _ _ _ _ _).mono ?_; rintro e w1 ⟨rfl, hb⟩; have hcell := New.cells hb; have hfroz := New.marks hb; have hlts := New.lts hb; have hsz := New.le hb; try simp only [World.size_alloc] at hsz)
  go_ret
  exact ⟨rfl, (by repeat (first | with_reducible assumption | with_reducible exact New.refl _ | with_reducible refine New.alloc ?_ _ | with_reducible refine New.drew ?_ | with_reducible refine New.drewN ?_ _ | refine New.setCell ?_ (by first | (simp; done) | omega | (simp; omega)) _ | with_reducible refine New.trans ?_ (by with_reducible assumption)))⟩
end Go.Proofs.Ytbnehcaallehbaa
