/- Laws on drawn flows and on orders of slots: FnFlowHash, FnSlotOrder. -/
import Derived.Test.YtecimocclmjpdaaDrawF
import Derived.Test.YtecimocclmjpdaaDrawN
import Derived.Test.YtecimocclmjpdaaMix
import Derived.Test.YtecimocclmjpdaaSlot
import Derived.Test.YtecimocclmjpdaaInts
namespace Go.Proofs.Ytecimocclmjpdaa
open Go.RowKit

theorem walk_FnFlowHash (A : Option Addr) (n c : Nat) (zs : List Int) (w : World) (H : ArgInts .u8 w A n c 1 zs) :
    Calls Try.prog 13 #[.slice A n c] w fun e w' => e = .returned (.bool true) ∧ New w w' := by
  have hc := CodeArg.of H
  have hm := hc.2.1
  unfold maxLen at hm
  clear H
  by_cases hbig : 1048576 < n
  · go_enter Try.func13, Try.ntmps13
    go_wp2_with fail
    go_ret
    exact ⟨rfl, (by repeat (first | with_reducible assumption | with_reducible exact New.refl _ | with_reducible refine New.alloc ?_ _ | with_reducible refine New.drew ?_ | with_reducible refine New.drewN ?_ _ | refine New.setCell ?_ (by first | (simp; done) | omega | (simp; omega)) _ | with_reducible refine New.trans ?_ (by with_reducible assumption)))⟩
  go_enter Try.func13, Try.ntmps13
  go_wp2_with fail
  refine (DrawFlowHash_any A n c zs _ hc).mono ?_
  rintro e w1 ⟨v, rfl, ⟨x0, x1, x2, x3, x4, rfl, _⟩, b1⟩
  obtain ⟨F, hF⟩ : ∃ F, flowHashZ x0 x1 x2 x3 x4 = F := ⟨_, rfl⟩
  have HF := Lib.hid hF
  cases hB : flowB x0 x1 x2 x3 x4
  · have hF1 : F = -1 := by rw [← hF]; exact flowHashZ_no hB
    subst hF1
    clear hF hB hc
    go_wp2_with fail
    refine (flowHash_impl _ _ _ _ _ _).mono ?_
    rintro e w2 ⟨rfl, b2⟩
    rw [HF.out]
    have hc2 := New.cells b2; have hf2 := New.marks b2; have hz2 := New.le b2; try simp only [World.size_alloc, World.size_setCell] at hz2
    try have z2_0_0 : w.heap.size < w2.heap.size := by omega
    try have z2_0_1 : w.heap.size + 1 < w2.heap.size := by omega
    try have z2_0_2 : w.heap.size + 2 < w2.heap.size := by omega
    try have z2_1_0 : w1.heap.size < w2.heap.size := by omega
    try have z2_1_1 : w1.heap.size + 1 < w2.heap.size := by omega
    try have z2_1_2 : w1.heap.size + 2 < w2.heap.size := by omega
    go_wp2_with fail
    refine (flowHash_spec _ _ _ _ _ _).mono ?_
    rintro e w3 ⟨rfl, b3⟩
    rw [HF.out]
    have hc3 := New.cells b3; have hf3 := New.marks b3; have hz3 := New.le b3; try simp only [World.size_alloc, World.size_setCell] at hz3
    try have z3_0_0 : w.heap.size < w3.heap.size := by omega
    try have z3_0_1 : w.heap.size + 1 < w3.heap.size := by omega
    try have z3_0_2 : w.heap.size + 2 < w3.heap.size := by omega
    try have z3_1_0 : w1.heap.size < w3.heap.size := by omega
    try have z3_1_1 : w1.heap.size + 1 < w3.heap.size := by omega
    try have z3_1_2 : w1.heap.size + 2 < w3.heap.size := by omega
    try have z3_2_0 : w2.heap.size < w3.heap.size := by omega
    try have z3_2_1 : w2.heap.size + 1 < w3.heap.size := by omega
    try have z3_2_2 : w2.heap.size + 2 < w3.heap.size := by omega
    go_wp2_with fail
    refine (alive_any _).mono ?_
    rintro e w4 ⟨rfl, b4⟩
    have hc4 := New.cells b4; have hf4 := New.marks b4; have hz4 := New.le b4; try simp only [World.size_alloc, World.size_setCell] at hz4
    try have z4_0_0 : w.heap.size < w4.heap.size := by omega
    try have z4_0_1 : w.heap.size + 1 < w4.heap.size := by omega
    try have z4_0_2 : w.heap.size + 2 < w4.heap.size := by omega
    try have z4_1_0 : w1.heap.size < w4.heap.size := by omega
    try have z4_1_1 : w1.heap.size + 1 < w4.heap.size := by omega
    try have z4_1_2 : w1.heap.size + 2 < w4.heap.size := by omega
    try have z4_2_0 : w2.heap.size < w4.heap.size := by omega
    try have z4_2_1 : w2.heap.size + 1 < w4.heap.size := by omega
    try have z4_2_2 : w2.heap.size + 2 < w4.heap.size := by omega
    try have z4_3_0 : w3.heap.size < w4.heap.size := by omega
    try have z4_3_1 : w3.heap.size + 1 < w4.heap.size := by omega
    try have z4_3_2 : w3.heap.size + 2 < w4.heap.size := by omega
    go_wp2_with fail
    go_ret
    exact ⟨rfl, (by repeat (first | with_reducible assumption | with_reducible exact New.refl _ | with_reducible refine New.alloc ?_ _ | with_reducible refine New.drew ?_ | with_reducible refine New.drewN ?_ _ | refine New.setCell ?_ (by first | (simp; done) | omega | (simp; omega)) _ | with_reducible refine New.trans ?_ (by with_reducible assumption)))⟩
  · have hF0 : 0 ≤ F := by rw [← hF]; exact flowHashZ_nonneg hB
    have hFm : mixZ [x0, x1, x2, x3, x4] = F := by rw [← hF]; simp [flowHashZ, hB]
    have HM := Lib.hid hFm
    have hFn : decide (F < 0) = false := by simp; omega
    clear hF hB hc hFm
    go_wp2_with fail
    refine (flowHash_impl _ _ _ _ _ _).mono ?_
    rintro e w2 ⟨rfl, b2⟩
    rw [HF.out]
    have hc2 := New.cells b2; have hf2 := New.marks b2; have hz2 := New.le b2; try simp only [World.size_alloc, World.size_setCell] at hz2
    try have z2_0_0 : w.heap.size < w2.heap.size := by omega
    try have z2_0_1 : w.heap.size + 1 < w2.heap.size := by omega
    try have z2_0_2 : w.heap.size + 2 < w2.heap.size := by omega
    try have z2_1_0 : w1.heap.size < w2.heap.size := by omega
    try have z2_1_1 : w1.heap.size + 1 < w2.heap.size := by omega
    try have z2_1_2 : w1.heap.size + 2 < w2.heap.size := by omega
    go_wp2_with fail
    refine (flowHash_spec _ _ _ _ _ _).mono ?_
    rintro e w3 ⟨rfl, b3⟩
    rw [HF.out]
    have hc3 := New.cells b3; have hf3 := New.marks b3; have hz3 := New.le b3; try simp only [World.size_alloc, World.size_setCell] at hz3
    try have z3_0_0 : w.heap.size < w3.heap.size := by omega
    try have z3_0_1 : w.heap.size + 1 < w3.heap.size := by omega
    try have z3_0_2 : w.heap.size + 2 < w3.heap.size := by omega
    try have z3_1_0 : w1.heap.size < w3.heap.size := by omega
    try have z3_1_1 : w1.heap.size + 1 < w3.heap.size := by omega
    try have z3_1_2 : w1.heap.size + 2 < w3.heap.size := by omega
    try have z3_2_0 : w2.heap.size < w3.heap.size := by omega
    try have z3_2_1 : w2.heap.size + 1 < w3.heap.size := by omega
    try have z3_2_2 : w2.heap.size + 2 < w3.heap.size := by omega
    go_wp2_with fail
    refine (mixNumbers_impl _ 5 5 [x0, x1, x2, x3, x4] _ rfl (by unfold maxLen; omega) (Ints.built _ _ _)).mono ?_
    rintro e w' ⟨rfl, rfl⟩
    rw [HM.out]
    go_wp2_with fail
    go_ret
    exact ⟨rfl, (by repeat (first | with_reducible assumption | with_reducible exact New.refl _ | with_reducible refine New.alloc ?_ _ | with_reducible refine New.drew ?_ | with_reducible refine New.drewN ?_ _ | refine New.setCell ?_ (by first | (simp; done) | omega | (simp; omega)) _ | with_reducible refine New.trans ?_ (by with_reducible assumption)))⟩
/-- Steps of S round 31 places come to each once. -/
theorem ord_inv (a x S : Int) (hS : 1 ≤ S ∧ S ≤ 30) (hx : 0 ≤ x ∧ x ≤ 30) : ∃ i : Nat, i < 31 ∧ ∀ j : Nat, j < 31 → ((a + (j : Int) * S) % 31 = x ↔ j = i) := by
  have : S = 1 ∨ S = 2 ∨ S = 3 ∨ S = 4 ∨ S = 5 ∨ S = 6 ∨ S = 7 ∨ S = 8 ∨ S = 9 ∨ S = 10 ∨ S = 11 ∨ S = 12 ∨ S = 13 ∨ S = 14 ∨ S = 15 ∨ S = 16 ∨ S = 17 ∨ S = 18 ∨ S = 19 ∨ S = 20 ∨ S = 21 ∨ S = 22 ∨ S = 23 ∨ S = 24 ∨ S = 25 ∨ S = 26 ∨ S = 27 ∨ S = 28 ∨ S = 29 ∨ S = 30 := by omega
  rcases this with rfl | rfl | rfl | rfl | rfl | rfl | rfl | rfl | rfl | rfl | rfl | rfl | rfl | rfl | rfl | rfl | rfl | rfl | rfl | rfl | rfl | rfl | rfl | rfl | rfl | rfl | rfl | rfl | rfl | rfl
  · exact ⟨(((x - a) * 1) % 31).toNat, by omega, fun j hj => by omega⟩
  · exact ⟨(((x - a) * 16) % 31).toNat, by omega, fun j hj => by omega⟩
  · exact ⟨(((x - a) * 21) % 31).toNat, by omega, fun j hj => by omega⟩
  · exact ⟨(((x - a) * 8) % 31).toNat, by omega, fun j hj => by omega⟩
  · exact ⟨(((x - a) * 25) % 31).toNat, by omega, fun j hj => by omega⟩
  · exact ⟨(((x - a) * 26) % 31).toNat, by omega, fun j hj => by omega⟩
  · exact ⟨(((x - a) * 9) % 31).toNat, by omega, fun j hj => by omega⟩
  · exact ⟨(((x - a) * 4) % 31).toNat, by omega, fun j hj => by omega⟩
  · exact ⟨(((x - a) * 7) % 31).toNat, by omega, fun j hj => by omega⟩
  · exact ⟨(((x - a) * 28) % 31).toNat, by omega, fun j hj => by omega⟩
  · exact ⟨(((x - a) * 17) % 31).toNat, by omega, fun j hj => by omega⟩
  · exact ⟨(((x - a) * 13) % 31).toNat, by omega, fun j hj => by omega⟩
  · exact ⟨(((x - a) * 12) % 31).toNat, by omega, fun j hj => by omega⟩
  · exact ⟨(((x - a) * 20) % 31).toNat, by omega, fun j hj => by omega⟩
  · exact ⟨(((x - a) * 29) % 31).toNat, by omega, fun j hj => by omega⟩
  · exact ⟨(((x - a) * 2) % 31).toNat, by omega, fun j hj => by omega⟩
  · exact ⟨(((x - a) * 11) % 31).toNat, by omega, fun j hj => by omega⟩
  · exact ⟨(((x - a) * 19) % 31).toNat, by omega, fun j hj => by omega⟩
  · exact ⟨(((x - a) * 18) % 31).toNat, by omega, fun j hj => by omega⟩
  · exact ⟨(((x - a) * 14) % 31).toNat, by omega, fun j hj => by omega⟩
  · exact ⟨(((x - a) * 3) % 31).toNat, by omega, fun j hj => by omega⟩
  · exact ⟨(((x - a) * 24) % 31).toNat, by omega, fun j hj => by omega⟩
  · exact ⟨(((x - a) * 27) % 31).toNat, by omega, fun j hj => by omega⟩
  · exact ⟨(((x - a) * 22) % 31).toNat, by omega, fun j hj => by omega⟩
  · exact ⟨(((x - a) * 5) % 31).toNat, by omega, fun j hj => by omega⟩
  · exact ⟨(((x - a) * 6) % 31).toNat, by omega, fun j hj => by omega⟩
  · exact ⟨(((x - a) * 23) % 31).toNat, by omega, fun j hj => by omega⟩
  · exact ⟨(((x - a) * 10) % 31).toNat, by omega, fun j hj => by omega⟩
  · exact ⟨(((x - a) * 15) % 31).toNat, by omega, fun j hj => by omega⟩
  · exact ⟨(((x - a) * 30) % 31).toNat, by omega, fun j hj => by omega⟩
theorem count_range {f : Nat → Int} {x : Int} {i : Nat} (h : ∀ j, j < 31 → (f j = x ↔ j = i)) : ∀ n, n ≤ 31 → ((List.range n).map f).count x = if i < n then 1 else 0
  | 0, _ => by simp
  | n + 1, hn => by
    rw [List.range_succ, List.map_append, List.count_append, count_range h n (by omega)]
    have hx := h n (by omega)
    by_cases hni : n = i
    · subst hni
      simp [hx.2 rfl]
    · have hne : ¬ f n = x := fun e => hni (hx.1 e)
      simp [hne]
      by_cases hlt : i < n
      · rw [if_pos hlt, if_pos (by omega)]
      · rw [if_neg hlt, if_neg (by omega)]
theorem ordTo_count (N : Int) (hN : inB N 0 30 = true) (k : Nat) (hk : k < 31) : (ordTo N 31).count (k : Int) = 1 := by
  have h2 := mixZ_nonneg (zs := [N, 2]) (by simp) (by
    intro z hz
    simp at hz
    have := inB_true.1 hN
    rcases hz with rfl | rfl <;> omega)
  obtain ⟨i, hi, h⟩ := ord_inv (mixZ [N, 1]) k (1 + mixZ [N, 2] % 30) (by omega) (by omega)
  unfold ordTo
  rw [count_range (f := ordAt N) (i := i) (fun j hj => by unfold ordAt; exact h j hj) 31 (Nat.le_refl _), if_pos hi]
set_option maxRecDepth 100000 in
theorem walk_FnSlotOrder (A : Option Addr) (n c : Nat) (zs : List Int) (w : World) (H : ArgInts .u8 w A n c 1 zs) :
    Calls Try.prog 14 #[.slice A n c] w fun e w' => e = .returned (.bool true) ∧ New w w' := by
  have hc := CodeArg.of H
  have hm := hc.2.1
  unfold maxLen at hm
  clear H
  by_cases hbig : 1048576 < n
  · go_enter Try.func14, Try.ntmps14
    go_wp2_with fail
    go_ret
    exact ⟨rfl, (by repeat (first | with_reducible assumption | with_reducible exact New.refl _ | with_reducible refine New.alloc ?_ _ | with_reducible refine New.drew ?_ | with_reducible refine New.drewN ?_ _ | refine New.setCell ?_ (by first | (simp; done) | omega | (simp; omega)) _ | with_reducible refine New.trans ?_ (by with_reducible assumption)))⟩
  go_enter Try.func14, Try.ntmps14
  go_wp2_with fail
  refine (DrawSlotOrder_any A n c zs _ hc).mono ?_
  rintro e w1 ⟨N, rfl, N0, N1, b1⟩
  clear hc
  obtain ⟨us, hus⟩ : ∃ us, us = orderZ N := ⟨_, rfl⟩
  obtain ⟨m, hm2⟩ : ∃ m, us.length = m := ⟨_, rfl⟩
  have SP : Hid (∀ w, Calls Try.prog 34 #[.int .i64 N] w (RetRow 3 1 w m us)) := Lib.hid fun w => by rw [← hm2, hus]; exact slotOrder_spec N w
  have IM : Hid (∀ w, Calls Try.prog 35 #[.int .i64 N] w (RetRow 3 1 w m us)) := Lib.hid fun w => by rw [← hm2, hus]; exact slotOrder_impl N w
  have HM := Lib.hid hm2
  have HU := Lib.hid hus
  clear hm2 hus
  go_wp2_with fail
  refine (IM.out _).mono ?_
  rintro e w2 ⟨A2, c2, rfl, nc2, cm2, o2, b2⟩
  have B2 := b1.trans b2
  go_wp2_with fail
  refine (SP.out _).mono ?_
  rintro e w3 ⟨A3, c3, rfl, nc3, cm3, o3, b3⟩
  have B3 := B2.trans b3
  cases hV : inB N 0 30
  · have hz := HU.out
    rw [orderZ_no hV] at hz
    have hmz : m = 0 := by rw [← HM.out, hz]; rfl
    subst hmz
    have hmml : (0 : Nat) ≤ maxLen := by unfold maxLen; omega
    have hN : N < 0 ∨ (0 ≤ N ∧ 30 < N) := by
      have := hV
      unfold inB at this
      simp at this
      omega
    go_wp2_with fail
    refine (sameInts_any A2 A3 0 c2 0 c3 us us _ HM.out HM.out hmml hmml (o2.ints.new b3) o3.ints).mono ?_
    rintro e w4 ⟨rfl, b4⟩
    simp only [decide_true]
    have B4 := B3.trans b4
    rcases hN with h0 | ⟨h0, h1⟩
    · go_wp2_with fail
      refine (alive_any _).mono ?_
      rintro e w5 ⟨rfl, b5⟩
      go_wp2_with fail
      go_ret
      exact ⟨rfl, B4.trans b5⟩
    · have h2 : decide (N < 0) = false := by simp; omega
      go_wp2_with fail
      refine (alive_any _).mono ?_
      rintro e w5 ⟨rfl, b5⟩
      go_wp2_with fail
      go_ret
      exact ⟨rfl, B4.trans b5⟩
  · have hz := HU.out
    rw [orderZ_yes hV] at hz
    have hmz : m = 31 := by rw [← HM.out, hz, ordTo_len]
    subst hmz
    have hmml : (31 : Nat) ≤ maxLen := by unfold maxLen; omega
    have HCnt : Hid (∀ k : Nat, k < 31 → us.count (k : Int) = 1) := Lib.hid fun k hk => by rw [hz]; exact ordTo_count N hV k hk
    clear hz hV
    go_wp2_with fail
    refine (sameInts_any A2 A3 31 c2 31 c3 us us _ HM.out HM.out hmml hmml (o2.ints.new b3) o3.ints).mono ?_
    rintro e w4 ⟨rfl, b4⟩
    simp only [decide_true]
    have B4 := B3.trans b4
    have I4 := (o2.ints.new b3).new b4
    clear o2 o3
    go_wp2_with fail
    go_loopw [5] (fun i wr => ∃ k : Nat, k ≤ 31 ∧ i = .int .i64 k ∧ New w4 wr) (fun i _ => 31 - (intOf i).toNat)
    case atStart => exact ⟨0, by omega, rfl, New.refl _⟩
    case round =>
      obtain ⟨k, hk, rfl, hnew⟩ := hrel
      by_cases hlt : k < 31
      · have HC := Lib.hid (HCnt.out k hlt)
        go_wp2_with fail
        refine (countOf_impl A2 31 c2 us k _ HM.out hmml (I4.new hnew)).mono ?_
        rintro e w' ⟨rfl, rfl⟩
        rw [HC.out]
        go_wp2_with fail
        go_roundw
        case rel => exact ⟨k + 1, by omega, by go_num, hnew⟩
        case measure => simp [intOf]; omega
      · obtain rfl : k = 31 := by omega
        go_wp2_with fail
        go_ret
        exact ⟨rfl, B4.trans hnew⟩
end Go.Proofs.Ytecimocclmjpdaa
