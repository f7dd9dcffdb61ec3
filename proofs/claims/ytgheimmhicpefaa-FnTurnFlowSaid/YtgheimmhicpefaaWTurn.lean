/- The law FnTurnFlow. -/
import Derived.Test.YtgheimmhicpefaaDrawF
import Derived.Test.YtgheimmhicpefaaFlow
import Derived.Test.YtgheimmhicpefaaQb
import Derived.Test.YtgheimmhicpefaaMix
namespace Go.Proofs.Ytgheimmhicpefaa
set_option linter.unusedVariables false
set_option linter.unusedSimpArgs false
open Go.RowKit Go.Sort

set_option maxRecDepth 100000 in
theorem walk_FnTurnFlow (A : Option Addr) (n c : Nat) (zs : List Int) (w : World) (H : ArgInts .u8 w A n c 1 zs) :
    Calls Try.prog 3 #[.slice A n c] w fun e w' => e = .returned (.bool true) ∧ New w w' := by
  have hc := CodeArg.of H
  have hm := hc.2.1
  unfold maxLen at hm
  clear H
  by_cases hbig : 1048576 < n
  · go_enter Try.func3, Try.ntmps3
    go_wp2_with fail
    go_ret
    exact ⟨rfl, (by repeat (first | with_reducible assumption | with_reducible exact New.refl _ | with_reducible refine New.alloc ?_ _ | with_reducible refine New.drew ?_ | with_reducible refine New.drewN ?_ _ | refine New.setCell ?_ (by first | (simp; done) | omega | (simp; omega)) _ | with_reducible refine New.trans ?_ (by with_reducible assumption)))⟩
  go_enter Try.func3, Try.ntmps3
  go_wp2_with fail
  refine (DrawTurnFlow_any A n c zs _ hc).mono ?_
  rintro e w1 ⟨v, rfl, ⟨x0, x1, x2, x3, x4, rfl, _⟩, b1⟩
  have hgr := gr_cells
  cases hB : flowB x0 x1 x2 x3 x4
  · skip
    go_wp2_with fail
    refine (turnFlow_impl _ _ _ _ _ _).mono ?_
    rintro e w2 ⟨rfl, b2⟩
    rw [if_neg (by rw [hB]; decide)]
    have hc2 := New.cells b2; have hf2 := New.marks b2; have hz2 := New.le b2; try simp only [World.size_alloc, World.size_setCell] at hz2
    try have z2_0_0 : w.heap.size < w2.heap.size := by omega
    try have z2_0_1 : w.heap.size + 1 < w2.heap.size := by omega
    try have z2_0_2 : w.heap.size + 2 < w2.heap.size := by omega
    try have z2_1_0 : w1.heap.size < w2.heap.size := by omega
    try have z2_1_1 : w1.heap.size + 1 < w2.heap.size := by omega
    try have z2_1_2 : w1.heap.size + 2 < w2.heap.size := by omega
    go_wp2_with fail
    refine wp_region_qb (by kernel_rfl) (by kernel_rfl) ?_
    repeat (quiet_step ((exact gr_call ((turnFlow_spec x0 x1 x2 x3 x4 _).mono fun _ _ h => by rw [if_neg (by rw [hB]; decide)] at h; exact h))))
    refine wpQuiet_nil ?_
    intro w3 b3
    have hc3 := New.cells b3; have hf3 := New.marks b3; have hz3 := New.le b3; try simp only [World.size_alloc, World.size_setCell] at hz3
    try have z3_0_0 : w.heap.size < w3.heap.size := by omega
    try have z3_0_1 : w.heap.size + 1 < w3.heap.size := by omega
    try have z3_0_2 : w.heap.size + 2 < w3.heap.size := by omega
    try have z3_1_0 : w1.heap.size < w3.heap.size := by omega
    try have z3_1_1 : w1.heap.size + 1 < w3.heap.size := by omega
    try have z3_1_2 : w1.heap.size + 2 < w3.heap.size := by omega
    try have z3_2_0 : w2.heap.size < w3.heap.size := by omega
    try have z3_2_1 : w2.heap.size + 1 < w3.heap.size := by omega
    try have z3_2_2 : w2.heap.size + 2 < w3.heap.size := by omega
    go_wp2_with fail
    refine (flowValid_spec _ _ _ _ _ _).mono ?_
    rintro e w4 ⟨rfl, b4⟩
    rw [hB]
    have hc4 := New.cells b4; have hf4 := New.marks b4; have hz4 := New.le b4; try simp only [World.size_alloc, World.size_setCell] at hz4
    try have z4_0_0 : w.heap.size < w4.heap.size := by omega
    try have z4_0_1 : w.heap.size + 1 < w4.heap.size := by omega
    try have z4_0_2 : w.heap.size + 2 < w4.heap.size := by omega
    try have z4_1_0 : w1.heap.size < w4.heap.size := by omega
    try have z4_1_1 : w1.heap.size + 1 < w4.heap.size := by omega
    try have z4_1_2 : w1.heap.size + 2 < w4.heap.size := by omega
    try have z4_2_0 : w2.heap.size < w4.heap.size := by omega
    try have z4_2_1 : w2.heap.size + 1 < w4.heap.size := by omega
    try have z4_2_2 : w2.heap.size + 2 < w4.heap.size := by omega
    try have z4_3_0 : w3.heap.size < w4.heap.size := by omega
    try have z4_3_1 : w3.heap.size + 1 < w4.heap.size := by omega
    try have z4_3_2 : w3.heap.size + 2 < w4.heap.size := by omega
    go_wp2_with fail
    refine (alive_any _).mono ?_
    rintro e w5 ⟨rfl, b5⟩
    have hc5 := New.cells b5; have hf5 := New.marks b5; have hz5 := New.le b5; try simp only [World.size_alloc, World.size_setCell] at hz5
    try have z5_0_0 : w.heap.size < w5.heap.size := by omega
    try have z5_0_1 : w.heap.size + 1 < w5.heap.size := by omega
    try have z5_0_2 : w.heap.size + 2 < w5.heap.size := by omega
    try have z5_1_0 : w1.heap.size < w5.heap.size := by omega
    try have z5_1_1 : w1.heap.size + 1 < w5.heap.size := by omega
    try have z5_1_2 : w1.heap.size + 2 < w5.heap.size := by omega
    try have z5_2_0 : w2.heap.size < w5.heap.size := by omega
    try have z5_2_1 : w2.heap.size + 1 < w5.heap.size := by omega
    try have z5_2_2 : w2.heap.size + 2 < w5.heap.size := by omega
    try have z5_3_0 : w3.heap.size < w5.heap.size := by omega
    try have z5_3_1 : w3.heap.size + 1 < w5.heap.size := by omega
    try have z5_3_2 : w3.heap.size + 2 < w5.heap.size := by omega
    try have z5_4_0 : w4.heap.size < w5.heap.size := by omega
    try have z5_4_1 : w4.heap.size + 1 < w5.heap.size := by omega
    try have z5_4_2 : w4.heap.size + 2 < w5.heap.size := by omega
    go_wp2_with fail
    go_ret
    exact ⟨rfl, (by repeat (first | with_reducible assumption | with_reducible exact New.refl _ | with_reducible refine New.alloc ?_ _ | with_reducible refine New.drew ?_ | with_reducible refine New.drewN ?_ _ | refine New.setCell ?_ (by first | (simp; done) | omega | (simp; omega)) _ | with_reducible refine New.trans ?_ (by with_reducible assumption)))⟩
  · have hT := flowB_turn hB
    go_wp2_with fail
    refine (turnFlow_impl _ _ _ _ _ _).mono ?_
    rintro e w2 ⟨rfl, b2⟩
    rw [if_pos hB]
    have hc2 := New.cells b2; have hf2 := New.marks b2; have hz2 := New.le b2; try simp only [World.size_alloc, World.size_setCell] at hz2
    try have z2_0_0 : w.heap.size < w2.heap.size := by omega
    try have z2_0_1 : w.heap.size + 1 < w2.heap.size := by omega
    try have z2_0_2 : w.heap.size + 2 < w2.heap.size := by omega
    try have z2_1_0 : w1.heap.size < w2.heap.size := by omega
    try have z2_1_1 : w1.heap.size + 1 < w2.heap.size := by omega
    try have z2_1_2 : w1.heap.size + 2 < w2.heap.size := by omega
    go_wp2_with fail
    refine wp_region_qb (by kernel_rfl) (by kernel_rfl) ?_
    repeat (quiet_step ((exact gr_call ((turnFlow_spec x0 x1 x2 x3 x4 _).mono fun _ _ h => by rw [if_pos hB] at h; exact h))))
    refine wpQuiet_nil ?_
    intro w3 b3
    have hc3 := New.cells b3; have hf3 := New.marks b3; have hz3 := New.le b3; try simp only [World.size_alloc, World.size_setCell] at hz3
    try have z3_0_0 : w.heap.size < w3.heap.size := by omega
    try have z3_0_1 : w.heap.size + 1 < w3.heap.size := by omega
    try have z3_0_2 : w.heap.size + 2 < w3.heap.size := by omega
    try have z3_1_0 : w1.heap.size < w3.heap.size := by omega
    try have z3_1_1 : w1.heap.size + 1 < w3.heap.size := by omega
    try have z3_1_2 : w1.heap.size + 2 < w3.heap.size := by omega
    try have z3_2_0 : w2.heap.size < w3.heap.size := by omega
    try have z3_2_1 : w2.heap.size + 1 < w3.heap.size := by omega
    try have z3_2_2 : w2.heap.size + 2 < w3.heap.size := by omega
    go_wp2_with fail
    refine (flowValid_spec _ _ _ _ _ _).mono ?_
    rintro e w4 ⟨rfl, b4⟩
    rw [hB]
    have hc4 := New.cells b4; have hf4 := New.marks b4; have hz4 := New.le b4; try simp only [World.size_alloc, World.size_setCell] at hz4
    try have z4_0_0 : w.heap.size < w4.heap.size := by omega
    try have z4_0_1 : w.heap.size + 1 < w4.heap.size := by omega
    try have z4_0_2 : w.heap.size + 2 < w4.heap.size := by omega
    try have z4_1_0 : w1.heap.size < w4.heap.size := by omega
    try have z4_1_1 : w1.heap.size + 1 < w4.heap.size := by omega
    try have z4_1_2 : w1.heap.size + 2 < w4.heap.size := by omega
    try have z4_2_0 : w2.heap.size < w4.heap.size := by omega
    try have z4_2_1 : w2.heap.size + 1 < w4.heap.size := by omega
    try have z4_2_2 : w2.heap.size + 2 < w4.heap.size := by omega
    try have z4_3_0 : w3.heap.size < w4.heap.size := by omega
    try have z4_3_1 : w3.heap.size + 1 < w4.heap.size := by omega
    try have z4_3_2 : w3.heap.size + 2 < w4.heap.size := by omega
    go_wp2_with fail
    refine wp_region_qb (by kernel_rfl) (by kernel_rfl) ?_
    repeat (quiet_step ((exact gr_call ((turnFlow_impl x2 x3 x0 x1 x4 _).mono fun _ _ h => by rw [if_pos hT] at h; exact h))))
    refine wpQuiet_nil ?_
    intro w5 b5
    have hc5 := New.cells b5; have hf5 := New.marks b5; have hz5 := New.le b5; try simp only [World.size_alloc, World.size_setCell] at hz5
    try have z5_0_0 : w.heap.size < w5.heap.size := by omega
    try have z5_0_1 : w.heap.size + 1 < w5.heap.size := by omega
    try have z5_0_2 : w.heap.size + 2 < w5.heap.size := by omega
    try have z5_1_0 : w1.heap.size < w5.heap.size := by omega
    try have z5_1_1 : w1.heap.size + 1 < w5.heap.size := by omega
    try have z5_1_2 : w1.heap.size + 2 < w5.heap.size := by omega
    try have z5_2_0 : w2.heap.size < w5.heap.size := by omega
    try have z5_2_1 : w2.heap.size + 1 < w5.heap.size := by omega
    try have z5_2_2 : w2.heap.size + 2 < w5.heap.size := by omega
    try have z5_3_0 : w3.heap.size < w5.heap.size := by omega
    try have z5_3_1 : w3.heap.size + 1 < w5.heap.size := by omega
    try have z5_3_2 : w3.heap.size + 2 < w5.heap.size := by omega
    try have z5_4_0 : w4.heap.size < w5.heap.size := by omega
    try have z5_4_1 : w4.heap.size + 1 < w5.heap.size := by omega
    try have z5_4_2 : w4.heap.size + 2 < w5.heap.size := by omega
    go_wp2_with fail
    go_ret
    exact ⟨rfl, (by repeat (first | with_reducible assumption | with_reducible exact New.refl _ | with_reducible refine New.alloc ?_ _ | with_reducible refine New.drew ?_ | with_reducible refine New.drewN ?_ _ | refine New.setCell ?_ (by first | (simp; done) | omega | (simp; omega)) _ | with_reducible refine New.trans ?_ (by with_reducible assumption)))⟩
end Go.Proofs.Ytgheimmhicpefaa
