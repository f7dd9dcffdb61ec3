/- Laws on flows and hashes: the program's FlowValid, TurnFlow, FlowHash, EvenHash, JumpBucket, MixNumbers return what the reference returns. -/
import Derived.Test.YtecimocclmjpdaaInts
import Derived.Test.YtecimocclmjpdaaMix
namespace Go.Proofs.Ytecimocclmjpdaa
open Go.RowKit

theorem walk_FnExactEvenHash (a b c d k : Int) (w : World) (_h : (Lit.int .i64 a).wf = true ∧ (Lit.int .i64 b).wf = true ∧ (Lit.int .i64 c).wf = true ∧ (Lit.int .i64 d).wf = true ∧ (Lit.int .i64 k).wf = true) :
    Calls Try.prog 9 #[.agg #[.int .i64 a, .int .i64 b, .int .i64 c, .int .i64 d, .int .i64 k]] w fun e w' => e = .returned (.bool true) ∧ New w w' := by
  go_enter Try.func9, Try.ntmps9
  go_wp2_with (first | (go_at_call 40; refine (toFlow_any _ _ _ _ _ _).mono ?_; rintro e w1 ⟨rfl, hb⟩; have hcell := New.cells hb; have hfroz := New.marks hb; have hsz := New.le hb; try simp only [World.size_alloc] at hsz) | (go_at_call 39; refine (evenHash_spec _ _ _ _ _ _).mono ?_; rintro e w1 ⟨rfl, hb⟩; have hcell := New.cells hb; have hfroz := New.marks hb; have hsz := New.le hb; try simp only [World.size_alloc] at hsz) | (go_at_call 41; refine (evenHash_impl _ _ _ _ _ _).mono ?_; rintro e w1 ⟨rfl, hb⟩; have hcell := New.cells hb; have hfroz := New.marks hb; have hsz := New.le hb; try simp only [World.size_alloc] at hsz))
  all_goals
    go_ret
    exact ⟨rfl, (by repeat (first | with_reducible assumption | with_reducible exact New.refl _ | with_reducible refine New.alloc ?_ _ | with_reducible refine New.drew ?_ | with_reducible refine New.drewN ?_ _ | refine New.setCell ?_ (by first | (simp; done) | omega | (simp; omega)) _ | with_reducible refine New.trans ?_ (by with_reducible assumption)))⟩
end Go.Proofs.Ytecimocclmjpdaa
