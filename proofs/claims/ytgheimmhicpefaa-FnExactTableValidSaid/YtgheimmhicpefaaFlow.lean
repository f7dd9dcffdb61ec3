/- Flows by value: the test, the turn, the copy, the comparison. -/
import Derived.Test.YtgheimmhicpefaaIn
namespace Go.Proofs.Ytgheimmhicpefaa
set_option linter.unusedVariables false
set_option linter.unusedSimpArgs false
open Go.RowKit

def flowB (a b c d k : Int) : Bool := inB a 0 255 && inB c 0 255 && inB b 0 999 && inB d 0 999 && inB k 1 2
def flowEq (a b c d k a' b' c' d' k' : Int) : Bool := decide (a = a' ∧ b = b' ∧ c = c' ∧ d = d' ∧ k = k')

theorem flowValid_impl (a b c d k : Int) (w : World) :
    Calls Try.prog 43 #[.agg #[.int .i64 a, .int .i64 b, .int .i64 c, .int .i64 d, .int .i64 k]] w fun e w' => e = .returned (.bool (flowB a b c d k)) ∧ New w w' := by
  go_enter Try.func43, Try.ntmps43
  go_wp2_with (go_at_call 53; refine (in_any _ _ _ _).mono ?_; rintro e w' ⟨rfl, rfl⟩)
  all_goals
    go_ret
    exact ⟨by simp [flowB, *], (by repeat (first | with_reducible assumption | with_reducible exact New.refl _ | with_reducible refine New.alloc ?_ _ | with_reducible refine New.drew ?_ | with_reducible refine New.drewN ?_ _ | refine New.setCell ?_ (by first | (simp; done) | omega | (simp; omega)) _ | with_reducible refine New.trans ?_ (by with_reducible assumption)))⟩
theorem flowValid_spec (a b c d k : Int) (w : World) :
    Calls Try.prog 14 #[.agg #[.int .i64 a, .int .i64 b, .int .i64 c, .int .i64 d, .int .i64 k]] w fun e w' => e = .returned (.bool (flowB a b c d k)) ∧ New w w' := by
  go_enter Try.func14, Try.ntmps14
  go_wp2_with (go_at_call 45; refine (l1In_any _ _ _ _).mono ?_; rintro e w' ⟨rfl, rfl⟩)
  all_goals
    go_ret
    exact ⟨by simp [flowB, *], (by repeat (first | with_reducible assumption | with_reducible exact New.refl _ | with_reducible refine New.alloc ?_ _ | with_reducible refine New.drew ?_ | with_reducible refine New.drewN ?_ _ | refine New.setCell ?_ (by first | (simp; done) | omega | (simp; omega)) _ | with_reducible refine New.trans ?_ (by with_reducible assumption)))⟩
theorem toFlow_any (a b c d k : Int) (w : World) :
    Calls Try.prog 69 #[.agg #[.int .i64 a, .int .i64 b, .int .i64 c, .int .i64 d, .int .i64 k]] w fun e w' => e = .returned (.agg #[.int .i64 a, .int .i64 b, .int .i64 c, .int .i64 d, .int .i64 k]) ∧ New w w' := by
  go_enter Try.func69, Try.ntmps69
  go_wp2_with fail
  exact bodyPost_ret (v := .agg #[.int .i64 a, .int .i64 b, .int .i64 c, .int .i64 d, .int .i64 k]) (by simp [results, Try.results69, go_sem]) rfl ⟨rfl, (by repeat (first | with_reducible assumption | with_reducible exact New.refl _ | with_reducible refine New.alloc ?_ _ | with_reducible refine New.drew ?_ | with_reducible refine New.drewN ?_ _ | refine New.setCell ?_ (by first | (simp; done) | omega | (simp; omega)) _ | with_reducible refine New.trans ?_ (by with_reducible assumption)))⟩
theorem turned_any (a b c d k : Int) (w : World) :
    Calls Try.prog 44 #[.agg #[.int .i64 a, .int .i64 b, .int .i64 c, .int .i64 d, .int .i64 k]] w fun e w' => e = .returned (.agg #[.int .i64 c, .int .i64 d, .int .i64 a, .int .i64 b, .int .i64 k]) ∧ New w w' := by
  go_enter Try.func44, Try.ntmps44
  go_wp2_with fail
  exact bodyPost_ret (v := .agg #[.int .i64 c, .int .i64 d, .int .i64 a, .int .i64 b, .int .i64 k]) (by simp [results, Try.results44, go_sem]) rfl ⟨rfl, (by repeat (first | with_reducible assumption | with_reducible exact New.refl _ | with_reducible refine New.alloc ?_ _ | with_reducible refine New.drew ?_ | with_reducible refine New.drewN ?_ _ | refine New.setCell ?_ (by first | (simp; done) | omega | (simp; omega)) _ | with_reducible refine New.trans ?_ (by with_reducible assumption)))⟩
theorem eqFlow_any (a b c d k a' b' c' d' k' : Int) (w : World) :
    Calls Try.prog 70 #[.agg #[.int .i64 a, .int .i64 b, .int .i64 c, .int .i64 d, .int .i64 k], .agg #[.int .i64 a', .int .i64 b', .int .i64 c', .int .i64 d', .int .i64 k']] w fun e w' => e = .returned (.bool (flowEq a b c d k a' b' c' d' k')) ∧ New w w' := by
  go_enter Try.func70, Try.ntmps70
  go_wp2_with fail
  all_goals
    go_ret
    exact ⟨by simp_all [flowEq], (by repeat (first | with_reducible assumption | with_reducible exact New.refl _ | with_reducible refine New.alloc ?_ _ | with_reducible refine New.drew ?_ | with_reducible refine New.drewN ?_ _ | refine New.setCell ?_ (by first | (simp; done) | omega | (simp; omega)) _ | with_reducible refine New.trans ?_ (by with_reducible assumption)))⟩
theorem turnFlow_impl (a b c d k : Int) (w : World) :
    Calls Try.prog 12 #[.agg #[.int .i64 a, .int .i64 b, .int .i64 c, .int .i64 d, .int .i64 k]] w fun e w' => e = .returned (if flowB a b c d k = true then .agg #[.int .i64 c, .int .i64 d, .int .i64 a, .int .i64 b, .int .i64 k] else .agg #[.int .i64 0, .int .i64 0, .int .i64 0, .int .i64 0, .int .i64 0]) ∧ New w w' := by
  cases hB : flowB a b c d k <;>
  go_enter Try.func12, Try.ntmps12 <;>
  go_wp2_with (first | (go_at_call 43; refine (flowValid_impl _ _ _ _ _ _).mono ?_; rintro e w1 ⟨rfl, hb⟩; have hcell := New.cells hb; have hfroz := New.marks hb; have hlts := New.lts hb; have hsz := New.le hb; try simp only [World.size_alloc] at hsz) | (go_at_call 44; refine (turned_any _ _ _ _ _ _).mono ?_; rintro e w1 ⟨rfl, hb⟩; have hcell := New.cells hb; have hfroz := New.marks hb; have hlts := New.lts hb; have hsz := New.le hb; try simp only [World.size_alloc] at hsz))
  · exact bodyPost_ret (v := .agg #[.int .i64 0, .int .i64 0, .int .i64 0, .int .i64 0, .int .i64 0]) (by simp [results, Try.results12, go_sem, *, ↓IntWalk.iteOmega]) rfl ⟨rfl, (by repeat (first | with_reducible assumption | with_reducible exact New.refl _ | with_reducible refine New.alloc ?_ _ | with_reducible refine New.drew ?_ | with_reducible refine New.drewN ?_ _ | refine New.setCell ?_ (by first | (simp; done) | omega | (simp; omega)) _ | with_reducible refine New.trans ?_ (by with_reducible assumption)))⟩
  · exact bodyPost_ret (v := .agg #[.int .i64 c, .int .i64 d, .int .i64 a, .int .i64 b, .int .i64 k]) (by simp [results, Try.results12, go_sem, *, ↓IntWalk.iteOmega]) rfl ⟨rfl, (by repeat (first | with_reducible assumption | with_reducible exact New.refl _ | with_reducible refine New.alloc ?_ _ | with_reducible refine New.drew ?_ | with_reducible refine New.drewN ?_ _ | refine New.setCell ?_ (by first | (simp; done) | omega | (simp; omega)) _ | with_reducible refine New.trans ?_ (by with_reducible assumption)))⟩
theorem turnFlow_spec (a b c d k : Int) (w : World) :
    Calls Try.prog 13 #[.agg #[.int .i64 a, .int .i64 b, .int .i64 c, .int .i64 d, .int .i64 k]] w fun e w' => e = .returned (if flowB a b c d k = true then .agg #[.int .i64 c, .int .i64 d, .int .i64 a, .int .i64 b, .int .i64 k] else .agg #[.int .i64 0, .int .i64 0, .int .i64 0, .int .i64 0, .int .i64 0]) ∧ New w w' := by
  cases hB : flowB a b c d k <;>
  go_enter Try.func13, Try.ntmps13 <;>
  go_wp2_with (first | (go_at_call 14; refine (flowValid_spec _ _ _ _ _ _).mono ?_; rintro e w1 ⟨rfl, hb⟩; have hcell := New.cells hb; have hfroz := New.marks hb; have hlts := New.lts hb; have hsz := New.le hb; try simp only [World.size_alloc] at hsz))
  · exact bodyPost_ret (v := .agg #[.int .i64 0, .int .i64 0, .int .i64 0, .int .i64 0, .int .i64 0]) (by simp [results, Try.results13, go_sem, *, ↓IntWalk.iteOmega]) rfl ⟨rfl, (by repeat (first | with_reducible assumption | with_reducible exact New.refl _ | with_reducible refine New.alloc ?_ _ | with_reducible refine New.drew ?_ | with_reducible refine New.drewN ?_ _ | refine New.setCell ?_ (by first | (simp; done) | omega | (simp; omega)) _ | with_reducible refine New.trans ?_ (by with_reducible assumption)))⟩
  · exact bodyPost_ret (v := .agg #[.int .i64 c, .int .i64 d, .int .i64 a, .int .i64 b, .int .i64 k]) (by simp [results, Try.results13, go_sem, *, ↓IntWalk.iteOmega]) rfl ⟨rfl, (by repeat (first | with_reducible assumption | with_reducible exact New.refl _ | with_reducible refine New.alloc ?_ _ | with_reducible refine New.drew ?_ | with_reducible refine New.drewN ?_ _ | refine New.setCell ?_ (by first | (simp; done) | omega | (simp; omega)) _ | with_reducible refine New.trans ?_ (by with_reducible assumption)))⟩
theorem alive_any (w : World) : Calls Try.prog 15 #[] w fun e w' => e = .returned (.bool true) ∧ New w w' := by
  go_enter Try.func15, Try.ntmps15
  go_wp2_with (go_at_call 43; refine (flowValid_impl _ _ _ _ _ _).mono ?_; rintro e w1 ⟨rfl, hb⟩; have hcell := New.cells hb; have hfroz := New.marks hb; have hlts := New.lts hb; have hsz := New.le hb; try simp only [World.size_alloc] at hsz)
  go_ret
  exact ⟨rfl, (by repeat (first | with_reducible assumption | with_reducible exact New.refl _ | with_reducible refine New.alloc ?_ _ | with_reducible refine New.drew ?_ | with_reducible refine New.drewN ?_ _ | refine New.setCell ?_ (by first | (simp; done) | omega | (simp; omega)) _ | with_reducible refine New.trans ?_ (by with_reducible assumption)))⟩
end Go.Proofs.Ytgheimmhicpefaa
