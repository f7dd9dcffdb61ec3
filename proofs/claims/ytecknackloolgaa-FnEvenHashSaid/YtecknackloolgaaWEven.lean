/- The law FnEvenHash. -/
import Derived.Test.YtecknackloolgaaDrawF
import Derived.Test.YtecknackloolgaaMix
namespace Go.Proofs.Ytecknackloolgaa
open Go.RowKit

theorem walk_FnEvenHash (A : Option Addr) (n c : Nat) (zs : List Int) (w : World) (H : ArgInts .u8 w A n c 1 zs) :
    Calls Try.prog 7 #[.slice A n c] w fun e w' => e = .returned (.bool true) ∧ New w w' := by
  have hc := CodeArg.of H
  have hm := hc.2.1
  unfold maxLen at hm
  clear H
  by_cases hbig : 1048576 < n
  · go_enter Try.func7, Try.ntmps7
    go_wp2_with fail
    go_ret
    exact ⟨rfl, (by repeat (first | with_reducible assumption | with_reducible exact New.refl _ | with_reducible refine New.alloc ?_ _ | with_reducible refine New.drew ?_ | with_reducible refine New.drewN ?_ _ | refine New.setCell ?_ (by first | (simp; done) | omega | (simp; omega)) _ | with_reducible refine New.trans ?_ (by with_reducible assumption)))⟩
  go_enter Try.func7, Try.ntmps7
  go_wp2_with fail
  refine (DrawEvenHash_any A n c zs _ hc).mono ?_
  rintro e w1 ⟨v, rfl, ⟨x0, x1, x2, x3, x4, rfl, _⟩, b1⟩
  obtain ⟨E, hE⟩ : ∃ E, evenZ x0 x1 x2 x3 x4 = E := ⟨_, rfl⟩
  have HE := Lib.hid hE
  cases hB : flowB x0 x1 x2 x3 x4
  · have hE1 : E = -1 := by rw [← hE]; exact evenZ_no hB
    subst hE1
    clear hE hB hc
    go_wp2_with fail
    refine (evenHash_impl _ _ _ _ _ _).mono ?_
    rintro e w2 ⟨rfl, b2⟩
    rw [HE.out]
    have hc2 := New.cells b2; have hf2 := New.marks b2; have hz2 := New.le b2; try simp only [World.size_alloc, World.size_setCell] at hz2
    try have z2_0_0 : w.heap.size < w2.heap.size := by omega
    try have z2_0_1 : w.heap.size + 1 < w2.heap.size := by omega
    try have z2_0_2 : w.heap.size + 2 < w2.heap.size := by omega
    try have z2_1_0 : w1.heap.size < w2.heap.size := by omega
    try have z2_1_1 : w1.heap.size + 1 < w2.heap.size := by omega
    try have z2_1_2 : w1.heap.size + 2 < w2.heap.size := by omega
    go_wp2_with fail
    refine (evenHash_spec _ _ _ _ _ _).mono ?_
    rintro e w3 ⟨rfl, b3⟩
    rw [HE.out]
    have hc3 := New.cells b3; have hf3 := New.marks b3; have hz3 := New.le b3; try simp only [World.size_alloc, World.size_setCell] at hz3
    try have z3_0_0 : w.heap.size < w3.heap.size := by omega
    try have z3_0_1 : w.heap.size + 1 < w3.heap.size := by omega
    try have z3_0_2 : w.heap.size + 2 < w3.heap.size := by omega
    try have z3_1_0 : w1.heap.size < w3.heap.size := by omega
    try have z3_1_1 : w1.heap.size + 1 < w3.heap.size := by omega
    try have z3_1_2 : w1.heap.size + 2 < w3.heap.size := by omega
    try have z3_2_0 : w2.heap.size < w3.heap.size := by omega
    try have z3_2_1 : w2.heap.size + 1 < w3.heap.size := by omega
    try have z3_2_2 : w2.heap.size + 2 < w3.heap.size := by omega
    go_wp2_with fail
    refine (alive_any _).mono ?_
    rintro e w4 ⟨rfl, b4⟩
    have hc4 := New.cells b4; have hf4 := New.marks b4; have hz4 := New.le b4; try simp only [World.size_alloc, World.size_setCell] at hz4
    try have z4_0_0 : w.heap.size < w4.heap.size := by omega
    try have z4_0_1 : w.heap.size + 1 < w4.heap.size := by omega
    try have z4_0_2 : w.heap.size + 2 < w4.heap.size := by omega
    try have z4_1_0 : w1.heap.size < w4.heap.size := by omega
    try have z4_1_1 : w1.heap.size + 1 < w4.heap.size := by omega
    try have z4_1_2 : w1.heap.size + 2 < w4.heap.size := by omega
    try have z4_2_0 : w2.heap.size < w4.heap.size := by omega
    try have z4_2_1 : w2.heap.size + 1 < w4.heap.size := by omega
    try have z4_2_2 : w2.heap.size + 2 < w4.heap.size := by omega
    try have z4_3_0 : w3.heap.size < w4.heap.size := by omega
    try have z4_3_1 : w3.heap.size + 1 < w4.heap.size := by omega
    try have z4_3_2 : w3.heap.size + 2 < w4.heap.size := by omega
    go_wp2_with fail
    go_ret
    exact ⟨rfl, (by repeat (first | with_reducible assumption | with_reducible exact New.refl _ | with_reducible refine New.alloc ?_ _ | with_reducible refine New.drew ?_ | with_reducible refine New.drewN ?_ _ | refine New.setCell ?_ (by first | (simp; done) | omega | (simp; omega)) _ | with_reducible refine New.trans ?_ (by with_reducible assumption)))⟩
  · have hE0 : 0 ≤ E := by rw [← hE]; exact evenZ_nonneg hB
    have hEn : decide (E < 0) = false := by simp; omega
    have hT : evenZ x2 x3 x0 x1 x4 = E := by rw [← hE]; exact evenZ_turn hB
    have HT := Lib.hid hT
    have hOf := evenZ_of hB
    rw [hE] at hOf
    have HO := Lib.hid hOf
    have HB := Lib.hid hB
    obtain ⟨G, hG⟩ : ∃ G, flowHashZ x0 x1 x2 x3 x4 = G := ⟨_, rfl⟩
    have HG := Lib.hid hG
    clear hE hB hc hT hOf hG
    by_cases hGE : G = E
    · subst hGE
      go_wp2_with fail
      refine (evenHash_impl _ _ _ _ _ _).mono ?_
      rintro e w2 ⟨rfl, b2⟩
      rw [HE.out]
      have hc2 := New.cells b2; have hf2 := New.marks b2; have hz2 := New.le b2; try simp only [World.size_alloc, World.size_setCell] at hz2
      try have z2_0_0 : w.heap.size < w2.heap.size := by omega
      try have z2_0_1 : w.heap.size + 1 < w2.heap.size := by omega
      try have z2_0_2 : w.heap.size + 2 < w2.heap.size := by omega
      try have z2_1_0 : w1.heap.size < w2.heap.size := by omega
      try have z2_1_1 : w1.heap.size + 1 < w2.heap.size := by omega
      try have z2_1_2 : w1.heap.size + 2 < w2.heap.size := by omega
      go_wp2_with fail
      refine (evenHash_spec _ _ _ _ _ _).mono ?_
      rintro e w3 ⟨rfl, b3⟩
      rw [HE.out]
      have hc3 := New.cells b3; have hf3 := New.marks b3; have hz3 := New.le b3; try simp only [World.size_alloc, World.size_setCell] at hz3
      try have z3_0_0 : w.heap.size < w3.heap.size := by omega
      try have z3_0_1 : w.heap.size + 1 < w3.heap.size := by omega
      try have z3_0_2 : w.heap.size + 2 < w3.heap.size := by omega
      try have z3_1_0 : w1.heap.size < w3.heap.size := by omega
      try have z3_1_1 : w1.heap.size + 1 < w3.heap.size := by omega
      try have z3_1_2 : w1.heap.size + 2 < w3.heap.size := by omega
      try have z3_2_0 : w2.heap.size < w3.heap.size := by omega
      try have z3_2_1 : w2.heap.size + 1 < w3.heap.size := by omega
      try have z3_2_2 : w2.heap.size + 2 < w3.heap.size := by omega
      go_wp2_with fail
      refine (turnFlow_impl _ _ _ _ _ _).mono ?_
      rintro e w4 ⟨rfl, b4⟩
      rw [if_pos HB.out]
      have hc4 := New.cells b4; have hf4 := New.marks b4; have hz4 := New.le b4; try simp only [World.size_alloc, World.size_setCell] at hz4
      try have z4_0_0 : w.heap.size < w4.heap.size := by omega
      try have z4_0_1 : w.heap.size + 1 < w4.heap.size := by omega
      try have z4_0_2 : w.heap.size + 2 < w4.heap.size := by omega
      try have z4_1_0 : w1.heap.size < w4.heap.size := by omega
      try have z4_1_1 : w1.heap.size + 1 < w4.heap.size := by omega
      try have z4_1_2 : w1.heap.size + 2 < w4.heap.size := by omega
      try have z4_2_0 : w2.heap.size < w4.heap.size := by omega
      try have z4_2_1 : w2.heap.size + 1 < w4.heap.size := by omega
      try have z4_2_2 : w2.heap.size + 2 < w4.heap.size := by omega
      try have z4_3_0 : w3.heap.size < w4.heap.size := by omega
      try have z4_3_1 : w3.heap.size + 1 < w4.heap.size := by omega
      try have z4_3_2 : w3.heap.size + 2 < w4.heap.size := by omega
      go_wp2_with fail
      refine (evenHash_impl _ _ _ _ _ _).mono ?_
      rintro e w5 ⟨rfl, b5⟩
      rw [HT.out]
      have hc5 := New.cells b5; have hf5 := New.marks b5; have hz5 := New.le b5; try simp only [World.size_alloc, World.size_setCell] at hz5
      try have z5_0_0 : w.heap.size < w5.heap.size := by omega
      try have z5_0_1 : w.heap.size + 1 < w5.heap.size := by omega
      try have z5_0_2 : w.heap.size + 2 < w5.heap.size := by omega
      try have z5_1_0 : w1.heap.size < w5.heap.size := by omega
      try have z5_1_1 : w1.heap.size + 1 < w5.heap.size := by omega
      try have z5_1_2 : w1.heap.size + 2 < w5.heap.size := by omega
      try have z5_2_0 : w2.heap.size < w5.heap.size := by omega
      try have z5_2_1 : w2.heap.size + 1 < w5.heap.size := by omega
      try have z5_2_2 : w2.heap.size + 2 < w5.heap.size := by omega
      try have z5_3_0 : w3.heap.size < w5.heap.size := by omega
      try have z5_3_1 : w3.heap.size + 1 < w5.heap.size := by omega
      try have z5_3_2 : w3.heap.size + 2 < w5.heap.size := by omega
      try have z5_4_0 : w4.heap.size < w5.heap.size := by omega
      try have z5_4_1 : w4.heap.size + 1 < w5.heap.size := by omega
      try have z5_4_2 : w4.heap.size + 2 < w5.heap.size := by omega
      go_wp2_with fail
      refine (flowHash_impl _ _ _ _ _ _).mono ?_
      rintro e w6 ⟨rfl, b6⟩
      rw [HG.out]
      have hc6 := New.cells b6; have hf6 := New.marks b6; have hz6 := New.le b6; try simp only [World.size_alloc, World.size_setCell] at hz6
      try have z6_0_0 : w.heap.size < w6.heap.size := by omega
      try have z6_0_1 : w.heap.size + 1 < w6.heap.size := by omega
      try have z6_0_2 : w.heap.size + 2 < w6.heap.size := by omega
      try have z6_1_0 : w1.heap.size < w6.heap.size := by omega
      try have z6_1_1 : w1.heap.size + 1 < w6.heap.size := by omega
      try have z6_1_2 : w1.heap.size + 2 < w6.heap.size := by omega
      try have z6_2_0 : w2.heap.size < w6.heap.size := by omega
      try have z6_2_1 : w2.heap.size + 1 < w6.heap.size := by omega
      try have z6_2_2 : w2.heap.size + 2 < w6.heap.size := by omega
      try have z6_3_0 : w3.heap.size < w6.heap.size := by omega
      try have z6_3_1 : w3.heap.size + 1 < w6.heap.size := by omega
      try have z6_3_2 : w3.heap.size + 2 < w6.heap.size := by omega
      try have z6_4_0 : w4.heap.size < w6.heap.size := by omega
      try have z6_4_1 : w4.heap.size + 1 < w6.heap.size := by omega
      try have z6_4_2 : w4.heap.size + 2 < w6.heap.size := by omega
      try have z6_5_0 : w5.heap.size < w6.heap.size := by omega
      try have z6_5_1 : w5.heap.size + 1 < w6.heap.size := by omega
      try have z6_5_2 : w5.heap.size + 2 < w6.heap.size := by omega
      go_wp2_with fail
      go_ret
      exact ⟨rfl, (by repeat (first | with_reducible assumption | with_reducible exact New.refl _ | with_reducible refine New.alloc ?_ _ | with_reducible refine New.drew ?_ | with_reducible refine New.drewN ?_ _ | refine New.setCell ?_ (by first | (simp; done) | omega | (simp; omega)) _ | with_reducible refine New.trans ?_ (by with_reducible assumption)))⟩
    · have hGb : (E == G) = false := by simp; omega
      have HK := Lib.hid (show flowHashZ x2 x3 x0 x1 x4 = E by
        rcases HO.out with h | h
        · exact absurd (h.trans HG.out).symm hGE
        · exact h.symm)
      go_wp2_with fail
      refine (evenHash_impl _ _ _ _ _ _).mono ?_
      rintro e w2 ⟨rfl, b2⟩
      rw [HE.out]
      have hc2 := New.cells b2; have hf2 := New.marks b2; have hz2 := New.le b2; try simp only [World.size_alloc, World.size_setCell] at hz2
      try have z2_0_0 : w.heap.size < w2.heap.size := by omega
      try have z2_0_1 : w.heap.size + 1 < w2.heap.size := by omega
      try have z2_0_2 : w.heap.size + 2 < w2.heap.size := by omega
      try have z2_1_0 : w1.heap.size < w2.heap.size := by omega
      try have z2_1_1 : w1.heap.size + 1 < w2.heap.size := by omega
      try have z2_1_2 : w1.heap.size + 2 < w2.heap.size := by omega
      go_wp2_with fail
      refine (evenHash_spec _ _ _ _ _ _).mono ?_
      rintro e w3 ⟨rfl, b3⟩
      rw [HE.out]
      have hc3 := New.cells b3; have hf3 := New.marks b3; have hz3 := New.le b3; try simp only [World.size_alloc, World.size_setCell] at hz3
      try have z3_0_0 : w.heap.size < w3.heap.size := by omega
      try have z3_0_1 : w.heap.size + 1 < w3.heap.size := by omega
      try have z3_0_2 : w.heap.size + 2 < w3.heap.size := by omega
      try have z3_1_0 : w1.heap.size < w3.heap.size := by omega
      try have z3_1_1 : w1.heap.size + 1 < w3.heap.size := by omega
      try have z3_1_2 : w1.heap.size + 2 < w3.heap.size := by omega
      try have z3_2_0 : w2.heap.size < w3.heap.size := by omega
      try have z3_2_1 : w2.heap.size + 1 < w3.heap.size := by omega
      try have z3_2_2 : w2.heap.size + 2 < w3.heap.size := by omega
      go_wp2_with fail
      refine (turnFlow_impl _ _ _ _ _ _).mono ?_
      rintro e w4 ⟨rfl, b4⟩
      rw [if_pos HB.out]
      have hc4 := New.cells b4; have hf4 := New.marks b4; have hz4 := New.le b4; try simp only [World.size_alloc, World.size_setCell] at hz4
      try have z4_0_0 : w.heap.size < w4.heap.size := by omega
      try have z4_0_1 : w.heap.size + 1 < w4.heap.size := by omega
      try have z4_0_2 : w.heap.size + 2 < w4.heap.size := by omega
      try have z4_1_0 : w1.heap.size < w4.heap.size := by omega
      try have z4_1_1 : w1.heap.size + 1 < w4.heap.size := by omega
      try have z4_1_2 : w1.heap.size + 2 < w4.heap.size := by omega
      try have z4_2_0 : w2.heap.size < w4.heap.size := by omega
      try have z4_2_1 : w2.heap.size + 1 < w4.heap.size := by omega
      try have z4_2_2 : w2.heap.size + 2 < w4.heap.size := by omega
      try have z4_3_0 : w3.heap.size < w4.heap.size := by omega
      try have z4_3_1 : w3.heap.size + 1 < w4.heap.size := by omega
      try have z4_3_2 : w3.heap.size + 2 < w4.heap.size := by omega
      go_wp2_with fail
      refine (evenHash_impl _ _ _ _ _ _).mono ?_
      rintro e w5 ⟨rfl, b5⟩
      rw [HT.out]
      have hc5 := New.cells b5; have hf5 := New.marks b5; have hz5 := New.le b5; try simp only [World.size_alloc, World.size_setCell] at hz5
      try have z5_0_0 : w.heap.size < w5.heap.size := by omega
      try have z5_0_1 : w.heap.size + 1 < w5.heap.size := by omega
      try have z5_0_2 : w.heap.size + 2 < w5.heap.size := by omega
      try have z5_1_0 : w1.heap.size < w5.heap.size := by omega
      try have z5_1_1 : w1.heap.size + 1 < w5.heap.size := by omega
      try have z5_1_2 : w1.heap.size + 2 < w5.heap.size := by omega
      try have z5_2_0 : w2.heap.size < w5.heap.size := by omega
      try have z5_2_1 : w2.heap.size + 1 < w5.heap.size := by omega
      try have z5_2_2 : w2.heap.size + 2 < w5.heap.size := by omega
      try have z5_3_0 : w3.heap.size < w5.heap.size := by omega
      try have z5_3_1 : w3.heap.size + 1 < w5.heap.size := by omega
      try have z5_3_2 : w3.heap.size + 2 < w5.heap.size := by omega
      try have z5_4_0 : w4.heap.size < w5.heap.size := by omega
      try have z5_4_1 : w4.heap.size + 1 < w5.heap.size := by omega
      try have z5_4_2 : w4.heap.size + 2 < w5.heap.size := by omega
      go_wp2_with fail
      refine (flowHash_impl _ _ _ _ _ _).mono ?_
      rintro e w6 ⟨rfl, b6⟩
      rw [HG.out]
      have hc6 := New.cells b6; have hf6 := New.marks b6; have hz6 := New.le b6; try simp only [World.size_alloc, World.size_setCell] at hz6
      try have z6_0_0 : w.heap.size < w6.heap.size := by omega
      try have z6_0_1 : w.heap.size + 1 < w6.heap.size := by omega
      try have z6_0_2 : w.heap.size + 2 < w6.heap.size := by omega
      try have z6_1_0 : w1.heap.size < w6.heap.size := by omega
      try have z6_1_1 : w1.heap.size + 1 < w6.heap.size := by omega
      try have z6_1_2 : w1.heap.size + 2 < w6.heap.size := by omega
      try have z6_2_0 : w2.heap.size < w6.heap.size := by omega
      try have z6_2_1 : w2.heap.size + 1 < w6.heap.size := by omega
      try have z6_2_2 : w2.heap.size + 2 < w6.heap.size := by omega
      try have z6_3_0 : w3.heap.size < w6.heap.size := by omega
      try have z6_3_1 : w3.heap.size + 1 < w6.heap.size := by omega
      try have z6_3_2 : w3.heap.size + 2 < w6.heap.size := by omega
      try have z6_4_0 : w4.heap.size < w6.heap.size := by omega
      try have z6_4_1 : w4.heap.size + 1 < w6.heap.size := by omega
      try have z6_4_2 : w4.heap.size + 2 < w6.heap.size := by omega
      try have z6_5_0 : w5.heap.size < w6.heap.size := by omega
      try have z6_5_1 : w5.heap.size + 1 < w6.heap.size := by omega
      try have z6_5_2 : w5.heap.size + 2 < w6.heap.size := by omega
      go_wp2_with fail
      refine (turnFlow_impl _ _ _ _ _ _).mono ?_
      rintro e w7 ⟨rfl, b7⟩
      rw [if_pos HB.out]
      have hc7 := New.cells b7; have hf7 := New.marks b7; have hz7 := New.le b7; try simp only [World.size_alloc, World.size_setCell] at hz7
      try have z7_0_0 : w.heap.size < w7.heap.size := by omega
      try have z7_0_1 : w.heap.size + 1 < w7.heap.size := by omega
      try have z7_0_2 : w.heap.size + 2 < w7.heap.size := by omega
      try have z7_1_0 : w1.heap.size < w7.heap.size := by omega
      try have z7_1_1 : w1.heap.size + 1 < w7.heap.size := by omega
      try have z7_1_2 : w1.heap.size + 2 < w7.heap.size := by omega
      try have z7_2_0 : w2.heap.size < w7.heap.size := by omega
      try have z7_2_1 : w2.heap.size + 1 < w7.heap.size := by omega
      try have z7_2_2 : w2.heap.size + 2 < w7.heap.size := by omega
      try have z7_3_0 : w3.heap.size < w7.heap.size := by omega
      try have z7_3_1 : w3.heap.size + 1 < w7.heap.size := by omega
      try have z7_3_2 : w3.heap.size + 2 < w7.heap.size := by omega
      try have z7_4_0 : w4.heap.size < w7.heap.size := by omega
      try have z7_4_1 : w4.heap.size + 1 < w7.heap.size := by omega
      try have z7_4_2 : w4.heap.size + 2 < w7.heap.size := by omega
      try have z7_5_0 : w5.heap.size < w7.heap.size := by omega
      try have z7_5_1 : w5.heap.size + 1 < w7.heap.size := by omega
      try have z7_5_2 : w5.heap.size + 2 < w7.heap.size := by omega
      try have z7_6_0 : w6.heap.size < w7.heap.size := by omega
      try have z7_6_1 : w6.heap.size + 1 < w7.heap.size := by omega
      try have z7_6_2 : w6.heap.size + 2 < w7.heap.size := by omega
      go_wp2_with fail
      refine (flowHash_impl _ _ _ _ _ _).mono ?_
      rintro e w8 ⟨rfl, b8⟩
      rw [HK.out]
      have hc8 := New.cells b8; have hf8 := New.marks b8; have hz8 := New.le b8; try simp only [World.size_alloc, World.size_setCell] at hz8
      try have z8_0_0 : w.heap.size < w8.heap.size := by omega
      try have z8_0_1 : w.heap.size + 1 < w8.heap.size := by omega
      try have z8_0_2 : w.heap.size + 2 < w8.heap.size := by omega
      try have z8_1_0 : w1.heap.size < w8.heap.size := by omega
      try have z8_1_1 : w1.heap.size + 1 < w8.heap.size := by omega
      try have z8_1_2 : w1.heap.size + 2 < w8.heap.size := by omega
      try have z8_2_0 : w2.heap.size < w8.heap.size := by omega
      try have z8_2_1 : w2.heap.size + 1 < w8.heap.size := by omega
      try have z8_2_2 : w2.heap.size + 2 < w8.heap.size := by omega
      try have z8_3_0 : w3.heap.size < w8.heap.size := by omega
      try have z8_3_1 : w3.heap.size + 1 < w8.heap.size := by omega
      try have z8_3_2 : w3.heap.size + 2 < w8.heap.size := by omega
      try have z8_4_0 : w4.heap.size < w8.heap.size := by omega
      try have z8_4_1 : w4.heap.size + 1 < w8.heap.size := by omega
      try have z8_4_2 : w4.heap.size + 2 < w8.heap.size := by omega
      try have z8_5_0 : w5.heap.size < w8.heap.size := by omega
      try have z8_5_1 : w5.heap.size + 1 < w8.heap.size := by omega
      try have z8_5_2 : w5.heap.size + 2 < w8.heap.size := by omega
      try have z8_6_0 : w6.heap.size < w8.heap.size := by omega
      try have z8_6_1 : w6.heap.size + 1 < w8.heap.size := by omega
      try have z8_6_2 : w6.heap.size + 2 < w8.heap.size := by omega
      try have z8_7_0 : w7.heap.size < w8.heap.size := by omega
      try have z8_7_1 : w7.heap.size + 1 < w8.heap.size := by omega
      try have z8_7_2 : w7.heap.size + 2 < w8.heap.size := by omega
      go_wp2_with fail
      go_ret
      exact ⟨rfl, (by repeat (first | with_reducible assumption | with_reducible exact New.refl _ | with_reducible refine New.alloc ?_ _ | with_reducible refine New.drew ?_ | with_reducible refine New.drewN ?_ _ | refine New.setCell ?_ (by first | (simp; done) | omega | (simp; omega)) _ | with_reducible refine New.trans ?_ (by with_reducible assumption)))⟩
end Go.Proofs.Ytecknackloolgaa
