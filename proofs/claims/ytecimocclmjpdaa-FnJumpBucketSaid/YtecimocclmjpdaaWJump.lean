/- The law FnJumpBucket. -/
import Derived.Test.YtecimocclmjpdaaDrawJ
import Derived.Test.YtecimocclmjpdaaMix
import Derived.Test.YtecimocclmjpdaaFlow
namespace Go.Proofs.Ytecimocclmjpdaa
open Go.RowKit

theorem jumpAt_bd (key : Int) : ∀ m : Nat, 0 ≤ jumpAt key m ∧ (1 ≤ m → jumpAt key m < m)
  | 0 => by simp [jumpAt]
  | m + 1 => by
    have ih := jumpAt_bd key m
    unfold jumpAt
    split
    · omega
    · refine ⟨ih.1, fun _ => ?_⟩
      by_cases hm : 1 ≤ m
      · have := ih.2 hm; omega
      · obtain rfl : m = 0 := by omega
        simp [jumpAt]
theorem jumpAt_next (key : Int) (m : Nat) : jumpAt key (m + 1) = jumpAt key m ∨ jumpAt key (m + 1) = m := by
  rw [jumpAt]
  split
  · exact .inr rfl
  · exact .inl rfl
theorem jumpZ_no {key many : Int} (h : (inB key 0 1000002 && inB many 1 50) = false) : jumpZ key many = -1 := by simp [jumpZ, h]
theorem jumpZ_yes {key many : Int} (h : (inB key 0 1000002 && inB many 1 50) = true) : jumpZ key many = jumpAt key many.toNat := by simp [jumpZ, h]
theorem walk_FnJumpBucket (A : Option Addr) (n c : Nat) (zs : List Int) (w : World) (H : ArgInts .u8 w A n c 1 zs) :
    Calls Try.prog 12 #[.slice A n c] w fun e w' => e = .returned (.bool true) ∧ New w w' := by
  have hc := CodeArg.of H
  have hm := hc.2.1
  unfold maxLen at hm
  clear H
  by_cases hbig : 1048576 < n
  · go_enter Try.func12, Try.ntmps12
    go_wp2_with fail
    go_ret
    exact ⟨rfl, (by repeat (first | with_reducible assumption | with_reducible exact New.refl _ | with_reducible refine New.alloc ?_ _ | with_reducible refine New.drew ?_ | with_reducible refine New.drewN ?_ _ | refine New.setCell ?_ (by first | (simp; done) | omega | (simp; omega)) _ | with_reducible refine New.trans ?_ (by with_reducible assumption)))⟩
  go_enter Try.func12, Try.ntmps12
  go_wp2_with fail
  refine (DrawJumpBucket_any A n c zs _ hc).mono ?_
  rintro e w1 ⟨x, y, rfl, x0, x1, y0, y1, b1⟩
  obtain ⟨J, hJ⟩ : ∃ J, jumpZ x y = J := ⟨_, rfl⟩
  have HJ := Lib.hid hJ
  cases hB : (inB x 0 1000002 && inB y 1 50)
  · have hE1 : J = -1 := by rw [← hJ]; exact jumpZ_no hB
    subst hE1
    clear hJ hB hc
    go_wp2_with fail
    refine (jumpBucket_impl _ _ _).mono ?_
    rintro e w2 ⟨rfl, b2⟩
    rw [HJ.out]
    have hc2 := New.cells b2; have hf2 := New.marks b2; have hz2 := New.le b2; try simp only [World.size_alloc, World.size_setCell] at hz2
    try have z2_0_0 : w.heap.size < w2.heap.size := by omega
    try have z2_0_1 : w.heap.size + 1 < w2.heap.size := by omega
    try have z2_0_2 : w.heap.size + 2 < w2.heap.size := by omega
    try have z2_1_0 : w1.heap.size < w2.heap.size := by omega
    try have z2_1_1 : w1.heap.size + 1 < w2.heap.size := by omega
    try have z2_1_2 : w1.heap.size + 2 < w2.heap.size := by omega
    go_wp2_with fail
    refine (jumpBucket_spec _ _ _).mono ?_
    rintro e w3 ⟨rfl, b3⟩
    rw [HJ.out]
    have hc3 := New.cells b3; have hf3 := New.marks b3; have hz3 := New.le b3; try simp only [World.size_alloc, World.size_setCell] at hz3
    try have z3_0_0 : w.heap.size < w3.heap.size := by omega
    try have z3_0_1 : w.heap.size + 1 < w3.heap.size := by omega
    try have z3_0_2 : w.heap.size + 2 < w3.heap.size := by omega
    try have z3_1_0 : w1.heap.size < w3.heap.size := by omega
    try have z3_1_1 : w1.heap.size + 1 < w3.heap.size := by omega
    try have z3_1_2 : w1.heap.size + 2 < w3.heap.size := by omega
    try have z3_2_0 : w2.heap.size < w3.heap.size := by omega
    try have z3_2_1 : w2.heap.size + 1 < w3.heap.size := by omega
    try have z3_2_2 : w2.heap.size + 2 < w3.heap.size := by omega
    go_wp2_with fail
    refine (alive_any _).mono ?_
    rintro e w4 ⟨rfl, b4⟩
    have hc4 := New.cells b4; have hf4 := New.marks b4; have hz4 := New.le b4; try simp only [World.size_alloc, World.size_setCell] at hz4
    try have z4_0_0 : w.heap.size < w4.heap.size := by omega
    try have z4_0_1 : w.heap.size + 1 < w4.heap.size := by omega
    try have z4_0_2 : w.heap.size + 2 < w4.heap.size := by omega
    try have z4_1_0 : w1.heap.size < w4.heap.size := by omega
    try have z4_1_1 : w1.heap.size + 1 < w4.heap.size := by omega
    try have z4_1_2 : w1.heap.size + 2 < w4.heap.size := by omega
    try have z4_2_0 : w2.heap.size < w4.heap.size := by omega
    try have z4_2_1 : w2.heap.size + 1 < w4.heap.size := by omega
    try have z4_2_2 : w2.heap.size + 2 < w4.heap.size := by omega
    try have z4_3_0 : w3.heap.size < w4.heap.size := by omega
    try have z4_3_1 : w3.heap.size + 1 < w4.heap.size := by omega
    try have z4_3_2 : w3.heap.size + 2 < w4.heap.size := by omega
    go_wp2_with fail
    go_ret
    exact ⟨rfl, (by repeat (first | with_reducible assumption | with_reducible exact New.refl _ | with_reducible refine New.alloc ?_ _ | with_reducible refine New.drew ?_ | with_reducible refine New.drewN ?_ _ | refine New.setCell ?_ (by first | (simp; done) | omega | (simp; omega)) _ | with_reducible refine New.trans ?_ (by with_reducible assumption)))⟩
  · have hxy : inB x 0 1000002 = true ∧ inB y 1 50 = true := by simpa using hB
    have hy := inB_true.1 hxy.2
    obtain ⟨M, rfl⟩ := Int.eq_ofNat_of_zero_le y0
    have hz := jumpZ_yes hB
    rw [hJ, Int.toNat_natCast] at hz
    have hbd := jumpAt_bd x M
    rw [← hz] at hbd
    have hJ0 : 0 ≤ J := hbd.1
    have hJM : J < M := hbd.2 (by omega)
    have hJn : decide (J < 0) = false := by simp; omega
    have hJ1 : (J == -1) = false := by simp; omega
    by_cases hM : M = 50
    · subst hM
      have HK := Lib.hid (show jumpZ x 51 = -1 from jumpZ_no (by simp [inB]))
      have HJ2 : Hid (jumpZ x 50 = J) := Lib.hid (by simpa using hJ)
      clear hJ hB hc hxy hz hbd hy
      go_wp2_with fail
      refine (jumpBucket_impl _ _ _).mono ?_
      rintro e w2 ⟨rfl, b2⟩
      rw [HJ2.out]
      have hc2 := New.cells b2; have hf2 := New.marks b2; have hz2 := New.le b2; try simp only [World.size_alloc, World.size_setCell] at hz2
      try have z2_0_0 : w.heap.size < w2.heap.size := by omega
      try have z2_0_1 : w.heap.size + 1 < w2.heap.size := by omega
      try have z2_0_2 : w.heap.size + 2 < w2.heap.size := by omega
      try have z2_1_0 : w1.heap.size < w2.heap.size := by omega
      try have z2_1_1 : w1.heap.size + 1 < w2.heap.size := by omega
      try have z2_1_2 : w1.heap.size + 2 < w2.heap.size := by omega
      go_wp2_with fail
      refine (jumpBucket_spec _ _ _).mono ?_
      rintro e w3 ⟨rfl, b3⟩
      rw [HJ2.out]
      have hc3 := New.cells b3; have hf3 := New.marks b3; have hz3 := New.le b3; try simp only [World.size_alloc, World.size_setCell] at hz3
      try have z3_0_0 : w.heap.size < w3.heap.size := by omega
      try have z3_0_1 : w.heap.size + 1 < w3.heap.size := by omega
      try have z3_0_2 : w.heap.size + 2 < w3.heap.size := by omega
      try have z3_1_0 : w1.heap.size < w3.heap.size := by omega
      try have z3_1_1 : w1.heap.size + 1 < w3.heap.size := by omega
      try have z3_1_2 : w1.heap.size + 2 < w3.heap.size := by omega
      try have z3_2_0 : w2.heap.size < w3.heap.size := by omega
      try have z3_2_1 : w2.heap.size + 1 < w3.heap.size := by omega
      try have z3_2_2 : w2.heap.size + 2 < w3.heap.size := by omega
      go_wp2_with fail
      refine (jumpBucket_impl _ _ _).mono ?_
      rintro e w4 ⟨rfl, b4⟩
      rw [HK.out]
      have hc4 := New.cells b4; have hf4 := New.marks b4; have hz4 := New.le b4; try simp only [World.size_alloc, World.size_setCell] at hz4
      try have z4_0_0 : w.heap.size < w4.heap.size := by omega
      try have z4_0_1 : w.heap.size + 1 < w4.heap.size := by omega
      try have z4_0_2 : w.heap.size + 2 < w4.heap.size := by omega
      try have z4_1_0 : w1.heap.size < w4.heap.size := by omega
      try have z4_1_1 : w1.heap.size + 1 < w4.heap.size := by omega
      try have z4_1_2 : w1.heap.size + 2 < w4.heap.size := by omega
      try have z4_2_0 : w2.heap.size < w4.heap.size := by omega
      try have z4_2_1 : w2.heap.size + 1 < w4.heap.size := by omega
      try have z4_2_2 : w2.heap.size + 2 < w4.heap.size := by omega
      try have z4_3_0 : w3.heap.size < w4.heap.size := by omega
      try have z4_3_1 : w3.heap.size + 1 < w4.heap.size := by omega
      try have z4_3_2 : w3.heap.size + 2 < w4.heap.size := by omega
      go_wp2_with fail
      go_ret
      exact ⟨rfl, (by repeat (first | with_reducible assumption | with_reducible exact New.refl _ | with_reducible refine New.alloc ?_ _ | with_reducible refine New.drew ?_ | with_reducible refine New.drewN ?_ _ | refine New.setCell ?_ (by first | (simp; done) | omega | (simp; omega)) _ | with_reducible refine New.trans ?_ (by with_reducible assumption)))⟩
    · have hB2 : (inB x 0 1000002 && inB ((M : Int) + 1) 1 50) = true := by
        rw [hxy.1]
        simp [inB]
        omega
      have hz2 := jumpZ_yes hB2
      rw [show ((M : Int) + 1).toNat = M + 1 by omega] at hz2
      have hMb : ((M : Int) == 50) = false := by simp; omega
      rcases jumpAt_next x M with h1 | h1
      · have HK := Lib.hid (show jumpZ x ((M : Int) + 1) = J by rw [hz2, h1, ← hz])
        clear hJ hB hc hxy hz hbd hy hB2 hz2 h1
        go_wp2_with fail
        refine (jumpBucket_impl _ _ _).mono ?_
        rintro e w2 ⟨rfl, b2⟩
        rw [HJ.out]
        have hc2 := New.cells b2; have hf2 := New.marks b2; have hz2 := New.le b2; try simp only [World.size_alloc, World.size_setCell] at hz2
        try have z2_0_0 : w.heap.size < w2.heap.size := by omega
        try have z2_0_1 : w.heap.size + 1 < w2.heap.size := by omega
        try have z2_0_2 : w.heap.size + 2 < w2.heap.size := by omega
        try have z2_1_0 : w1.heap.size < w2.heap.size := by omega
        try have z2_1_1 : w1.heap.size + 1 < w2.heap.size := by omega
        try have z2_1_2 : w1.heap.size + 2 < w2.heap.size := by omega
        go_wp2_with fail
        refine (jumpBucket_spec _ _ _).mono ?_
        rintro e w3 ⟨rfl, b3⟩
        rw [HJ.out]
        have hc3 := New.cells b3; have hf3 := New.marks b3; have hz3 := New.le b3; try simp only [World.size_alloc, World.size_setCell] at hz3
        try have z3_0_0 : w.heap.size < w3.heap.size := by omega
        try have z3_0_1 : w.heap.size + 1 < w3.heap.size := by omega
        try have z3_0_2 : w.heap.size + 2 < w3.heap.size := by omega
        try have z3_1_0 : w1.heap.size < w3.heap.size := by omega
        try have z3_1_1 : w1.heap.size + 1 < w3.heap.size := by omega
        try have z3_1_2 : w1.heap.size + 2 < w3.heap.size := by omega
        try have z3_2_0 : w2.heap.size < w3.heap.size := by omega
        try have z3_2_1 : w2.heap.size + 1 < w3.heap.size := by omega
        try have z3_2_2 : w2.heap.size + 2 < w3.heap.size := by omega
        go_wp2_with fail
        refine (jumpBucket_impl _ _ _).mono ?_
        rintro e w4 ⟨rfl, b4⟩
        rw [HK.out]
        have hc4 := New.cells b4; have hf4 := New.marks b4; have hz4 := New.le b4; try simp only [World.size_alloc, World.size_setCell] at hz4
        try have z4_0_0 : w.heap.size < w4.heap.size := by omega
        try have z4_0_1 : w.heap.size + 1 < w4.heap.size := by omega
        try have z4_0_2 : w.heap.size + 2 < w4.heap.size := by omega
        try have z4_1_0 : w1.heap.size < w4.heap.size := by omega
        try have z4_1_1 : w1.heap.size + 1 < w4.heap.size := by omega
        try have z4_1_2 : w1.heap.size + 2 < w4.heap.size := by omega
        try have z4_2_0 : w2.heap.size < w4.heap.size := by omega
        try have z4_2_1 : w2.heap.size + 1 < w4.heap.size := by omega
        try have z4_2_2 : w2.heap.size + 2 < w4.heap.size := by omega
        try have z4_3_0 : w3.heap.size < w4.heap.size := by omega
        try have z4_3_1 : w3.heap.size + 1 < w4.heap.size := by omega
        try have z4_3_2 : w3.heap.size + 2 < w4.heap.size := by omega
        go_wp2_with fail
        go_ret
        exact ⟨rfl, (by repeat (first | with_reducible assumption | with_reducible exact New.refl _ | with_reducible refine New.alloc ?_ _ | with_reducible refine New.drew ?_ | with_reducible refine New.drewN ?_ _ | refine New.setCell ?_ (by first | (simp; done) | omega | (simp; omega)) _ | with_reducible refine New.trans ?_ (by with_reducible assumption)))⟩
      · have HK := Lib.hid (show jumpZ x ((M : Int) + 1) = M by rw [hz2, h1])
        have hM1 : ((M : Int) == -1) = false := by first | (simp; done) | (simp; omega)
        have hMJ : ((M : Int) == J) = false := by simp; omega
        clear hJ hB hc hxy hz hbd hy hB2 hz2 h1
        go_wp2_with fail
        refine (jumpBucket_impl _ _ _).mono ?_
        rintro e w2 ⟨rfl, b2⟩
        rw [HJ.out]
        have hc2 := New.cells b2; have hf2 := New.marks b2; have hz2 := New.le b2; try simp only [World.size_alloc, World.size_setCell] at hz2
        try have z2_0_0 : w.heap.size < w2.heap.size := by omega
        try have z2_0_1 : w.heap.size + 1 < w2.heap.size := by omega
        try have z2_0_2 : w.heap.size + 2 < w2.heap.size := by omega
        try have z2_1_0 : w1.heap.size < w2.heap.size := by omega
        try have z2_1_1 : w1.heap.size + 1 < w2.heap.size := by omega
        try have z2_1_2 : w1.heap.size + 2 < w2.heap.size := by omega
        go_wp2_with fail
        refine (jumpBucket_spec _ _ _).mono ?_
        rintro e w3 ⟨rfl, b3⟩
        rw [HJ.out]
        have hc3 := New.cells b3; have hf3 := New.marks b3; have hz3 := New.le b3; try simp only [World.size_alloc, World.size_setCell] at hz3
        try have z3_0_0 : w.heap.size < w3.heap.size := by omega
        try have z3_0_1 : w.heap.size + 1 < w3.heap.size := by omega
        try have z3_0_2 : w.heap.size + 2 < w3.heap.size := by omega
        try have z3_1_0 : w1.heap.size < w3.heap.size := by omega
        try have z3_1_1 : w1.heap.size + 1 < w3.heap.size := by omega
        try have z3_1_2 : w1.heap.size + 2 < w3.heap.size := by omega
        try have z3_2_0 : w2.heap.size < w3.heap.size := by omega
        try have z3_2_1 : w2.heap.size + 1 < w3.heap.size := by omega
        try have z3_2_2 : w2.heap.size + 2 < w3.heap.size := by omega
        go_wp2_with fail
        refine (jumpBucket_impl _ _ _).mono ?_
        rintro e w4 ⟨rfl, b4⟩
        rw [HK.out]
        have hc4 := New.cells b4; have hf4 := New.marks b4; have hz4 := New.le b4; try simp only [World.size_alloc, World.size_setCell] at hz4
        try have z4_0_0 : w.heap.size < w4.heap.size := by omega
        try have z4_0_1 : w.heap.size + 1 < w4.heap.size := by omega
        try have z4_0_2 : w.heap.size + 2 < w4.heap.size := by omega
        try have z4_1_0 : w1.heap.size < w4.heap.size := by omega
        try have z4_1_1 : w1.heap.size + 1 < w4.heap.size := by omega
        try have z4_1_2 : w1.heap.size + 2 < w4.heap.size := by omega
        try have z4_2_0 : w2.heap.size < w4.heap.size := by omega
        try have z4_2_1 : w2.heap.size + 1 < w4.heap.size := by omega
        try have z4_2_2 : w2.heap.size + 2 < w4.heap.size := by omega
        try have z4_3_0 : w3.heap.size < w4.heap.size := by omega
        try have z4_3_1 : w3.heap.size + 1 < w4.heap.size := by omega
        try have z4_3_2 : w3.heap.size + 2 < w4.heap.size := by omega
        go_wp2_with fail
        go_ret
        exact ⟨rfl, (by repeat (first | with_reducible assumption | with_reducible exact New.refl _ | with_reducible refine New.alloc ?_ _ | with_reducible refine New.drew ?_ | with_reducible refine New.drewN ?_ _ | refine New.setCell ?_ (by first | (simp; done) | omega | (simp; omega)) _ | with_reducible refine New.trans ?_ (by with_reducible assumption)))⟩
end Go.Proofs.Ytecimocclmjpdaa
