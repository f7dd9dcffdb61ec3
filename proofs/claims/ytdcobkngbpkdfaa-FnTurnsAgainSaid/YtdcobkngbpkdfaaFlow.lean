/- Flows by value: the test, the turn, the copy, the comparison. -/
import Derived.Test.YtdcobkngbpkdfaaIn
namespace Go.Proofs.Ytdcobkngbpkdfaa
set_option linter.unusedVariables false
set_option linter.unusedSimpArgs false
open Go.RowKit

def flowB (a b c d k : Int) : Bool := inB a 0 255 && inB c 0 255 && inB b 0 999 && inB d 0 999 && inB k 1 2
def flowEq (a b c d k a' b' c' d' k' : Int) : Bool := decide (a = a' ∧ b = b' ∧ c = c' ∧ d = d' ∧ k = k')

theorem flowValid_impl (a b c d k : Int) (w : World) :
    Calls Try.prog 61 #[.agg #[.int .i64 a, .int .i64 b, .int .i64 c, .int .i64 d, .int .i64 k]] w fun e w' => e = .returned (.bool (flowB a b c d k)) ∧ New w w' := by
  go_enter Try.func61, Try.ntmps61
  go_wp2_with (go_at_call 77; refine (in_any _ _ _ _).mono ?_; rintro e w' ⟨rfl, rfl⟩)
  all_goals
    go_ret
    exact ⟨by simp [flowB, *], (by repeat (first | with_reducible assumption | with_reducible exact New.refl _ | with_reducible refine New.alloc ?_ _ | with_reducible refine New.drew ?_ | with_reducible refine New.drewN ?_ _ | refine New.setCell ?_ (by first | (simp; done) | omega | (simp; omega)) _ | with_reducible refine New.trans ?_ (by with_reducible assumption)))⟩
theorem flowValid_spec (a b c d k : Int) (w : World) :
    Calls Try.prog 91 #[.agg #[.int .i64 a, .int .i64 b, .int .i64 c, .int .i64 d, .int .i64 k]] w fun e w' => e = .returned (.bool (flowB a b c d k)) ∧ New w w' := by
  go_enter Try.func91, Try.ntmps91
  go_wp2_with (go_at_call 63; refine (l1In_any _ _ _ _).mono ?_; rintro e w' ⟨rfl, rfl⟩)
  all_goals
    go_ret
    exact ⟨by simp [flowB, *], (by repeat (first | with_reducible assumption | with_reducible exact New.refl _ | with_reducible refine New.alloc ?_ _ | with_reducible refine New.drew ?_ | with_reducible refine New.drewN ?_ _ | refine New.setCell ?_ (by first | (simp; done) | omega | (simp; omega)) _ | with_reducible refine New.trans ?_ (by with_reducible assumption)))⟩
theorem toFlow_any (a b c d k : Int) (w : World) :
    Calls Try.prog 36 #[.agg #[.int .i64 a, .int .i64 b, .int .i64 c, .int .i64 d, .int .i64 k]] w fun e w' => e = .returned (.agg #[.int .i64 a, .int .i64 b, .int .i64 c, .int .i64 d, .int .i64 k]) ∧ New w w' := by
  go_enter Try.func36, Try.ntmps36
  go_wp2_with fail
  exact bodyPost_ret (v := .agg #[.int .i64 a, .int .i64 b, .int .i64 c, .int .i64 d, .int .i64 k]) (by simp [results, Try.results36, go_sem]) rfl ⟨rfl, (by repeat (first | with_reducible assumption | with_reducible exact New.refl _ | with_reducible refine New.alloc ?_ _ | with_reducible refine New.drew ?_ | with_reducible refine New.drewN ?_ _ | refine New.setCell ?_ (by first | (simp; done) | omega | (simp; omega)) _ | with_reducible refine New.trans ?_ (by with_reducible assumption)))⟩
theorem eqFlow_any (a b c d k a' b' c' d' k' : Int) (w : World) :
    Calls Try.prog 103 #[.agg #[.int .i64 a, .int .i64 b, .int .i64 c, .int .i64 d, .int .i64 k], .agg #[.int .i64 a', .int .i64 b', .int .i64 c', .int .i64 d', .int .i64 k']] w fun e w' => e = .returned (.bool (flowEq a b c d k a' b' c' d' k')) ∧ New w w' := by
  go_enter Try.func103, Try.ntmps103
  go_wp2_with fail
  all_goals
    go_ret
    exact ⟨by simp_all [flowEq], (by repeat (first | with_reducible assumption | with_reducible exact New.refl _ | with_reducible refine New.alloc ?_ _ | with_reducible refine New.drew ?_ | with_reducible refine New.drewN ?_ _ | refine New.setCell ?_ (by first | (simp; done) | omega | (simp; omega)) _ | with_reducible refine New.trans ?_ (by with_reducible assumption)))⟩
theorem alive_any (w : World) : Calls Try.prog 18 #[] w fun e w' => e = .returned (.bool true) ∧ New w w' := by
  go_enter Try.func18, Try.ntmps18
  go_wp2_with (go_at_call 61; refine (flowValid_impl _ _ _ _ _ _).mono ?_; rintro e w1 ⟨rfl, hb⟩; have hcell := New.cells hb; have hfroz := New.marks hb; have hlts := New.lts hb; have hsz := New.le hb; try simp only [World.size_alloc] at hsz)
  go_ret
  exact ⟨rfl, (by repeat (first | with_reducible assumption | with_reducible exact New.refl _ | with_reducible refine New.alloc ?_ _ | with_reducible refine New.drew ?_ | with_reducible refine New.drewN ?_ _ | refine New.setCell ?_ (by first | (simp; done) | omega | (simp; omega)) _ | with_reducible refine New.trans ?_ (by with_reducible assumption)))⟩
end Go.Proofs.Ytdcobkngbpkdfaa
