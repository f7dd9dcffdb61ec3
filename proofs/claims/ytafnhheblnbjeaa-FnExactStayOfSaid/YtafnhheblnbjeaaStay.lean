/- The table of stays, and the laws FnExactConstants, FnExactStayOf. -/
import Derived.Test.YtafnhheblnbjeaaIn
namespace Go.Proofs.Ytafnhheblnbjeaa
open Go.RowKit

def stayZ (s : Int) : Int := if s = 0 then 30 else if s = 1 then 1000 else if s = 2 then 60 else if s = 3 then 10 else -1
theorem stay_cases (s : Int) : (s = 0 ∨ s = 1 ∨ s = 2 ∨ s = 3) ∨ inB s 0 3 = false := by
  cases h : inB s 0 3
  · exact .inr rfl
  · rw [inB_true] at h; exact .inl (by omega)
theorem stay_none {s : Int} (h : inB s 0 3 = false) : stayZ s = -1 := by
  rw [inB_false] at h
  unfold stayZ
  rw [if_neg (by omega), if_neg (by omega), if_neg (by omega), if_neg (by omega)]
theorem stayOf_impl (s : Int) (w : World) : Calls Try.prog 16 #[.int .i64 s] w fun e w' => e = .returned (.int .i64 (stayZ s)) ∧ New w w' := by
  rcases stay_cases s with (rfl | rfl | rfl | rfl) | h
  all_goals
    go_enter Try.func16, Try.ntmps16
    go_wp2_with (go_at_call 41; refine (in_any _ _ _ _).mono ?_; rintro e w' ⟨rfl, rfl⟩; try simp only [show inB 0 0 3 = true from rfl, show inB 1 0 3 = true from rfl, show inB 2 0 3 = true from rfl, show inB 3 0 3 = true from rfl])
    go_ret
    first | exact ⟨rfl, (by repeat (first | with_reducible assumption | with_reducible exact New.refl _ | with_reducible refine New.alloc ?_ _ | with_reducible refine New.drew ?_ | with_reducible refine New.drewN ?_ _ | refine New.setCell ?_ (by first | (simp; done) | omega | (simp; omega)) _ | with_reducible refine New.trans ?_ (by with_reducible assumption)))⟩ | exact ⟨by rw [stay_none h]; rfl, (by repeat (first | with_reducible assumption | with_reducible exact New.refl _ | with_reducible refine New.alloc ?_ _ | with_reducible refine New.drew ?_ | with_reducible refine New.drewN ?_ _ | refine New.setCell ?_ (by first | (simp; done) | omega | (simp; omega)) _ | with_reducible refine New.trans ?_ (by with_reducible assumption)))⟩
theorem stayOf_spec (s : Int) (w : World) : Calls Try.prog 15 #[.int .i64 s] w fun e w' => e = .returned (.int .i64 (stayZ s)) ∧ New w w' := by
  rcases stay_cases s with (rfl | rfl | rfl | rfl) | h
  all_goals
    go_enter Try.func15, Try.ntmps15
    go_wp2_with (go_at_call 40; refine (l1In_any _ _ _ _).mono ?_; rintro e w' ⟨rfl, rfl⟩; try simp only [show inB 0 0 3 = true from rfl, show inB 1 0 3 = true from rfl, show inB 2 0 3 = true from rfl, show inB 3 0 3 = true from rfl])
    go_ret
    first | exact ⟨rfl, (by repeat (first | with_reducible assumption | with_reducible exact New.refl _ | with_reducible refine New.alloc ?_ _ | with_reducible refine New.drew ?_ | with_reducible refine New.drewN ?_ _ | refine New.setCell ?_ (by first | (simp; done) | omega | (simp; omega)) _ | with_reducible refine New.trans ?_ (by with_reducible assumption)))⟩ | exact ⟨by rw [stay_none h]; rfl, (by repeat (first | with_reducible assumption | with_reducible exact New.refl _ | with_reducible refine New.alloc ?_ _ | with_reducible refine New.drew ?_ | with_reducible refine New.drewN ?_ _ | refine New.setCell ?_ (by first | (simp; done) | omega | (simp; omega)) _ | with_reducible refine New.trans ?_ (by with_reducible assumption)))⟩
theorem walk_FnExactStayOf (s : Int) (w : World) (_h : (Lit.int .i64 s).wf = true) : Calls Try.prog 4 #[.int .i64 s] w fun e w' => e = .returned (.bool true) ∧ New w w' := by
  go_enter Try.func4, Try.ntmps4
  go_wp2_with (first | (go_at_call 16; refine (stayOf_impl _ _).mono ?_; rintro e w1 ⟨rfl, hb⟩; have hcell := New.cells hb; have hfroz := New.marks hb; have hsz := New.le hb; try simp only [World.size_alloc] at hsz) | (go_at_call 15; refine (stayOf_spec _ _).mono ?_; rintro e w1 ⟨rfl, hb⟩; have hcell := New.cells hb; have hfroz := New.marks hb; have hsz := New.le hb; try simp only [World.size_alloc] at hsz))
  go_ret
  exact ⟨rfl, (by repeat (first | with_reducible assumption | with_reducible exact New.refl _ | with_reducible refine New.alloc ?_ _ | with_reducible refine New.drew ?_ | with_reducible refine New.drewN ?_ _ | refine New.setCell ?_ (by first | (simp; done) | omega | (simp; omega)) _ | with_reducible refine New.trans ?_ (by with_reducible assumption)))⟩
theorem walk_FnExactConstants (w : World) : Calls Try.prog 3 #[] w fun e w' => e = .returned (.bool true) ∧ New w w' := by
  go_enter Try.func3, Try.ntmps3
  go_wp2_with fail
  go_ret
  exact ⟨rfl, (by repeat (first | with_reducible assumption | with_reducible exact New.refl _ | with_reducible refine New.alloc ?_ _ | with_reducible refine New.drew ?_ | with_reducible refine New.drewN ?_ _ | refine New.setCell ?_ (by first | (simp; done) | omega | (simp; omega)) _ | with_reducible refine New.trans ?_ (by with_reducible assumption)))⟩
end Go.Proofs.Ytafnhheblnbjeaa
