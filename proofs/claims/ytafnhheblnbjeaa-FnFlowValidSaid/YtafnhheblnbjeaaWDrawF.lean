/- Laws on drawn flows: FnFlowValid, FnTurnFlow, FnFlowHash, FnEvenHash. -/
import Derived.Test.YtafnhheblnbjeaaDrawF
import Derived.Test.YtafnhheblnbjeaaMix
namespace Go.Proofs.Ytafnhheblnbjeaa
open Go.RowKit

theorem flowB_bad (a b c d : Int) : flowB a b c d 3 = false := by simp [flowB, inB]
theorem flowB_swap (a b c d k : Int) : flowB c d a b k = flowB a b c d k := by
  cases h : flowB a b c d k
  · cases h' : flowB c d a b k
    · rfl
    · rw [flowB_turn h'] at h; exact h
  · exact flowB_turn h

theorem walk_FnFlowValid (A : Option Addr) (n c : Nat) (zs : List Int) (w : World) (H : ArgInts .u8 w A n c 1 zs) :
    Calls Try.prog 12 #[.slice A n c] w fun e w' => e = .returned (.bool true) ∧ New w w' := by
  have hc := CodeArg.of H
  have hm := hc.2.1
  unfold maxLen at hm
  clear H
  by_cases hbig : 1048576 < n
  · go_enter Try.func12, Try.ntmps12
    go_wp2_with fail
    go_ret
    exact ⟨rfl, (by repeat (first | with_reducible assumption | with_reducible exact New.refl _ | with_reducible refine New.alloc ?_ _ | with_reducible refine New.drew ?_ | with_reducible refine New.drewN ?_ _ | refine New.setCell ?_ (by first | (simp; done) | omega | (simp; omega)) _ | with_reducible refine New.trans ?_ (by with_reducible assumption)))⟩
  go_enter Try.func12, Try.ntmps12
  go_wp2_with fail
  refine (DrawFlowValid_any A n c zs _ hc).mono ?_
  rintro e w1 ⟨v, rfl, ⟨x0, x1, x2, x3, x4, rfl, _⟩, b1⟩
  have hb1 := flowB_bad x0 x1 x2 x3
  have hb2 := flowB_swap x0 x1 x2 x3 x4
  have HB1 := Lib.hid hb1
  have HB2 := Lib.hid hb2
  clear hb1 hb2 hc
  cases hB : flowB x0 x1 x2 x3 x4
  all_goals
    go_wp2_with fail
    refine (flowValid_impl _ _ _ _ _ _).mono ?_
    rintro e w2 ⟨rfl, b2⟩
    rw [hB]
    have hc2 := New.cells b2; have hf2 := New.marks b2; have hz2 := New.le b2; try simp only [World.size_alloc, World.size_setCell] at hz2
    try have z2_0_0 : w.heap.size < w2.heap.size := by omega
    try have z2_0_1 : w.heap.size + 1 < w2.heap.size := by omega
    try have z2_0_2 : w.heap.size + 2 < w2.heap.size := by omega
    try have z2_1_0 : w1.heap.size < w2.heap.size := by omega
    try have z2_1_1 : w1.heap.size + 1 < w2.heap.size := by omega
    try have z2_1_2 : w1.heap.size + 2 < w2.heap.size := by omega
    go_wp2_with fail
    refine (flowValid_spec _ _ _ _ _ _).mono ?_
    rintro e w3 ⟨rfl, b3⟩
    rw [hB]
    have hc3 := New.cells b3; have hf3 := New.marks b3; have hz3 := New.le b3; try simp only [World.size_alloc, World.size_setCell] at hz3
    try have z3_0_0 : w.heap.size < w3.heap.size := by omega
    try have z3_0_1 : w.heap.size + 1 < w3.heap.size := by omega
    try have z3_0_2 : w.heap.size + 2 < w3.heap.size := by omega
    try have z3_1_0 : w1.heap.size < w3.heap.size := by omega
    try have z3_1_1 : w1.heap.size + 1 < w3.heap.size := by omega
    try have z3_1_2 : w1.heap.size + 2 < w3.heap.size := by omega
    try have z3_2_0 : w2.heap.size < w3.heap.size := by omega
    try have z3_2_1 : w2.heap.size + 1 < w3.heap.size := by omega
    try have z3_2_2 : w2.heap.size + 2 < w3.heap.size := by omega
    go_wp2_with fail
    refine (flowValid_impl _ _ _ _ _ _).mono ?_
    rintro e w4 ⟨rfl, b4⟩
    rw [HB1.out]
    have hc4 := New.cells b4; have hf4 := New.marks b4; have hz4 := New.le b4; try simp only [World.size_alloc, World.size_setCell] at hz4
    try have z4_0_0 : w.heap.size < w4.heap.size := by omega
    try have z4_0_1 : w.heap.size + 1 < w4.heap.size := by omega
    try have z4_0_2 : w.heap.size + 2 < w4.heap.size := by omega
    try have z4_1_0 : w1.heap.size < w4.heap.size := by omega
    try have z4_1_1 : w1.heap.size + 1 < w4.heap.size := by omega
    try have z4_1_2 : w1.heap.size + 2 < w4.heap.size := by omega
    try have z4_2_0 : w2.heap.size < w4.heap.size := by omega
    try have z4_2_1 : w2.heap.size + 1 < w4.heap.size := by omega
    try have z4_2_2 : w2.heap.size + 2 < w4.heap.size := by omega
    try have z4_3_0 : w3.heap.size < w4.heap.size := by omega
    try have z4_3_1 : w3.heap.size + 1 < w4.heap.size := by omega
    try have z4_3_2 : w3.heap.size + 2 < w4.heap.size := by omega
    go_wp2_with fail
    refine (flowValid_impl _ _ _ _ _ _).mono ?_
    rintro e w5 ⟨rfl, b5⟩
    rw [HB2.out, hB]
    have hc5 := New.cells b5; have hf5 := New.marks b5; have hz5 := New.le b5; try simp only [World.size_alloc, World.size_setCell] at hz5
    try have z5_0_0 : w.heap.size < w5.heap.size := by omega
    try have z5_0_1 : w.heap.size + 1 < w5.heap.size := by omega
    try have z5_0_2 : w.heap.size + 2 < w5.heap.size := by omega
    try have z5_1_0 : w1.heap.size < w5.heap.size := by omega
    try have z5_1_1 : w1.heap.size + 1 < w5.heap.size := by omega
    try have z5_1_2 : w1.heap.size + 2 < w5.heap.size := by omega
    try have z5_2_0 : w2.heap.size < w5.heap.size := by omega
    try have z5_2_1 : w2.heap.size + 1 < w5.heap.size := by omega
    try have z5_2_2 : w2.heap.size + 2 < w5.heap.size := by omega
    try have z5_3_0 : w3.heap.size < w5.heap.size := by omega
    try have z5_3_1 : w3.heap.size + 1 < w5.heap.size := by omega
    try have z5_3_2 : w3.heap.size + 2 < w5.heap.size := by omega
    try have z5_4_0 : w4.heap.size < w5.heap.size := by omega
    try have z5_4_1 : w4.heap.size + 1 < w5.heap.size := by omega
    try have z5_4_2 : w4.heap.size + 2 < w5.heap.size := by omega
    go_wp2_with fail
    refine (alive_any _).mono ?_
    rintro e w6 ⟨rfl, b6⟩
    have hc6 := New.cells b6; have hf6 := New.marks b6; have hz6 := New.le b6; try simp only [World.size_alloc, World.size_setCell] at hz6
    try have z6_0_0 : w.heap.size < w6.heap.size := by omega
    try have z6_0_1 : w.heap.size + 1 < w6.heap.size := by omega
    try have z6_0_2 : w.heap.size + 2 < w6.heap.size := by omega
    try have z6_1_0 : w1.heap.size < w6.heap.size := by omega
    try have z6_1_1 : w1.heap.size + 1 < w6.heap.size := by omega
    try have z6_1_2 : w1.heap.size + 2 < w6.heap.size := by omega
    try have z6_2_0 : w2.heap.size < w6.heap.size := by omega
    try have z6_2_1 : w2.heap.size + 1 < w6.heap.size := by omega
    try have z6_2_2 : w2.heap.size + 2 < w6.heap.size := by omega
    try have z6_3_0 : w3.heap.size < w6.heap.size := by omega
    try have z6_3_1 : w3.heap.size + 1 < w6.heap.size := by omega
    try have z6_3_2 : w3.heap.size + 2 < w6.heap.size := by omega
    try have z6_4_0 : w4.heap.size < w6.heap.size := by omega
    try have z6_4_1 : w4.heap.size + 1 < w6.heap.size := by omega
    try have z6_4_2 : w4.heap.size + 2 < w6.heap.size := by omega
    try have z6_5_0 : w5.heap.size < w6.heap.size := by omega
    try have z6_5_1 : w5.heap.size + 1 < w6.heap.size := by omega
    try have z6_5_2 : w5.heap.size + 2 < w6.heap.size := by omega
    go_wp2_with fail
    go_ret
    exact ⟨rfl, (by repeat (first | with_reducible assumption | with_reducible exact New.refl _ | with_reducible refine New.alloc ?_ _ | with_reducible refine New.drew ?_ | with_reducible refine New.drewN ?_ _ | refine New.setCell ?_ (by first | (simp; done) | omega | (simp; omega)) _ | with_reducible refine New.trans ?_ (by with_reducible assumption)))⟩
end Go.Proofs.Ytafnhheblnbjeaa
