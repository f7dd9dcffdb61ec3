/- Laws on drawn pools: FnTotalWeight, FnHostsUp, FnSetState. -/
import Derived.Test.YtgheimmhicpefaaDrawS
import Derived.Test.YtgheimmhicpefaaPlain
import Derived.Test.YtgheimmhicpefaaFlow
import Derived.Test.YtgheimmhicpefaaQb
import Derived.Test.YtgheimmhicpefaaInts
namespace Go.Proofs.Ytgheimmhicpefaa
set_option linter.unusedVariables false
set_option linter.unusedSimpArgs false
open Go.RowKit Go.Sort

theorem flat_take : ∀ (hs : List Hst) (k : Nat), (flat hs).take (k * 3) = flat (hs.take k)
  | _, 0 => by simp [flat]
  | [], k + 1 => by simp [flat]
  | h :: t, k + 1 => by rw [show (k + 1) * 3 = k * 3 + 1 + 1 + 1 from by omega]; simp [flat, flat_take t k]
theorem flat_drop : ∀ (hs : List Hst) (k : Nat), (flat hs).drop (k * 3) = flat (hs.drop k)
  | _, 0 => by simp
  | [], k + 1 => by simp [flat]
  | h :: t, k + 1 => by rw [show (k + 1) * 3 = k * 3 + 1 + 1 + 1 from by omega]; simp [flat, flat_drop t k]
theorem ints_take {w : World} {A : Option Addr} {zs : List Int} (h : Ints w A zs) (k : Nat) : Ints w A (zs.take k) := by
  intro hn
  obtain ⟨b, o, hA, hc⟩ := h (by simp at hn; omega)
  refine ⟨b, o, hA, fun j hj => ?_⟩
  have hjk : j < k ∧ j < zs.length := by simp at hj; omega
  rw [hc j hjk.2]
  simp [List.getD_eq_getElem?_getD, List.getElem?_take, hjk.1]
theorem ints_drop0 {w : World} {g o : Nat} {zs : List Int} (h : Ints w (some ⟨g, o, none⟩) zs) (k : Nat) : Ints w (some ⟨g, o + k, none⟩) (zs.drop k) := by
  intro hn
  obtain ⟨b', o', hA, hc⟩ := h (by simp at hn; omega)
  obtain ⟨rfl, rfl⟩ : g = b' ∧ o = o' := by simpa using hA
  refine ⟨g, o + k, rfl, fun j hj => ?_⟩
  have hjk : k + j < zs.length := by simp at hj; omega
  rw [Nat.add_assoc, hc (k + j) hjk]
  simp [List.getD_eq_getElem?_getD, List.getElem?_drop]
theorem poolB_nil : poolB [] = true := rfl
theorem totZ_nil : totZ [] = 0 := rfl
theorem hosts_take {w : World} {A : Option Addr} {hs : List Hst} (h : Ints w A (flat hs)) (k : Nat) : Ints w A (flat (hs.take k)) := by
  rw [← flat_take]; exact ints_take h _
theorem hosts_drop {w : World} {g : Nat} {hs : List Hst} (h : Ints w (some ⟨g, 0, none⟩) (flat hs)) (k : Nat) : Ints w (some ⟨g, k * 3, none⟩) (flat (hs.drop k)) := by
  rw [← flat_drop]; simpa using ints_drop0 h (k * 3)
theorem samePool_same (A A' : Option Addr) (n c c' : Nat) (hs : List Hst) (w : World) (hn : hs.length = n) (hm : n ≤ maxLen) (h : Ints w A (flat hs)) (h' : Ints w A' (flat hs)) :
    Calls Try.prog 34 #[.slice A n c, .slice A' n c'] w fun e w' => e = .returned (.bool true) ∧ New w w' := by
  unfold maxLen at hm
  have HN := Lib.hid hn
  clear hn
  have hgr := gr_cells
  go_enter Try.func34, Try.ntmps34
  go_wp2_with fail
  go_loopw [5] (fun i wr => ∃ k : Nat, k ≤ n ∧ i = .int .i64 k ∧ New w wr) (fun i _ => n - (intOf i).toNat)
  case atStart => exact ⟨0, Nat.zero_le _, rfl, New.refl _⟩
  case round =>
    obtain ⟨k, hk, rfl, hnew⟩ := hrel
    by_cases hlt : k < n
    · obtain ⟨b, o, x, rfl, hx, hb, c0, c1, c2⟩ := hosts_at (h.new hnew) (k := k) (by rw [HN.out]; exact hlt)
      obtain ⟨b', o', x', rfl, hx', hb', d0, d1, d2⟩ := hosts_at (h'.new hnew) (k := k) (by rw [HN.out]; exact hlt)
      obtain rfl : x = x' := by rw [hx] at hx'; exact Option.some.inj hx'
      clear hx hx'
      obtain ⟨x0, x1, x2⟩ := x
      simp only at c0 c1 c2 d0 d1 d2
      have hki : (k : Int) < (n : Int) := by omega
      go_wp2_with fail
      refine wp_region_qb (by kernel_rfl) (by kernel_rfl) ?_
      repeat (quiet_step ((fail)))
      refine wpQuiet_nil ?_
      intro w3 b3
      have hc3 := New.cells b3; have hf3 := New.marks b3; have hz3 := New.le b3; try simp only [World.size_alloc, World.size_setCell] at hz3
      try have z3_0_0 : w.heap.size < w3.heap.size := by omega
      try have z3_0_1 : w.heap.size + 1 < w3.heap.size := by omega
      try have z3_0_2 : w.heap.size + 2 < w3.heap.size := by omega
      try have z3_1_0 : w1.heap.size < w3.heap.size := by omega
      try have z3_1_1 : w1.heap.size + 1 < w3.heap.size := by omega
      try have z3_1_2 : w1.heap.size + 2 < w3.heap.size := by omega
      try have z3_2_0 : w2.heap.size < w3.heap.size := by omega
      try have z3_2_1 : w2.heap.size + 1 < w3.heap.size := by omega
      try have z3_2_2 : w2.heap.size + 2 < w3.heap.size := by omega
      go_wp2_with fail
      go_roundw
      case rel => exact ⟨k + 1, by omega, by go_num, hnew.trans b3⟩
      case measure => simp [intOf]; omega
    · obtain rfl : k = n := by omega
      go_wp2_with fail
      go_ret
      exact ⟨rfl, hnew⟩
set_option maxRecDepth 100000 in
set_option maxHeartbeats 2000000 in
theorem walk_FnTotalWeight (A : Option Addr) (n c : Nat) (zs : List Int) (w : World) (H : ArgInts .u8 w A n c 1 zs) :
    Calls Try.prog 5 #[.slice A n c] w fun e w' => e = .returned (.bool true) ∧ New w w' := by
  have hc := CodeArg.of H
  have hm := hc.2.1
  unfold maxLen at hm
  clear H
  by_cases hbig : 1048576 < n
  · go_enter Try.func5, Try.ntmps5
    go_wp2_with fail
    go_ret
    exact ⟨rfl, (by repeat (first | with_reducible assumption | with_reducible exact New.refl _ | with_reducible refine New.alloc ?_ _ | with_reducible refine New.drew ?_ | with_reducible refine New.drewN ?_ _ | refine New.setCell ?_ (by first | (simp; done) | omega | (simp; omega)) _ | with_reducible refine New.trans ?_ (by with_reducible assumption)))⟩
  go_enter Try.func5, Try.ntmps5
  go_wp2_with fail
  refine (DrawTotalWeight_any A n c zs _ hc).mono ?_
  rintro e w1 ⟨A', c', hs, rfl, l7, lc, cm, hpl, hI, b1⟩
  obtain ⟨k, hk⟩ : ∃ k, hs.length = k := ⟨_, rfl⟩
  rw [hk] at l7 lc ⊢
  have HK := Lib.hid hk
  have hml : k ≤ maxLen := by unfold maxLen; omega
  clear hk hc
  cases hP : poolB hs
  · have HT := Lib.hid (totZ_no hP)
    go_wp2_with fail
    refine (totalWeight_impl A' k c' hs _ HK.out (by omega) hI).mono ?_
    rintro e w2 ⟨rfl, b2⟩
    rw [HT.out]
    have hc2 := New.cells b2; have hf2 := New.marks b2; have hz2 := New.le b2; try simp only [World.size_alloc, World.size_setCell] at hz2
    try have z2_0_0 : w.heap.size < w2.heap.size := by omega
    try have z2_0_1 : w.heap.size + 1 < w2.heap.size := by omega
    try have z2_0_2 : w.heap.size + 2 < w2.heap.size := by omega
    try have z2_1_0 : w1.heap.size < w2.heap.size := by omega
    try have z2_1_1 : w1.heap.size + 1 < w2.heap.size := by omega
    try have z2_1_2 : w1.heap.size + 2 < w2.heap.size := by omega
    have I2 := hI.new b2
    go_wp2_with fail
    refine (totalWeight_spec A' k c' hs _ HK.out (by omega) I2).mono ?_
    rintro e w3 ⟨rfl, b3⟩
    rw [HT.out]
    have hc3 := New.cells b3; have hf3 := New.marks b3; have hz3 := New.le b3; try simp only [World.size_alloc, World.size_setCell] at hz3
    try have z3_0_0 : w.heap.size < w3.heap.size := by omega
    try have z3_0_1 : w.heap.size + 1 < w3.heap.size := by omega
    try have z3_0_2 : w.heap.size + 2 < w3.heap.size := by omega
    try have z3_1_0 : w1.heap.size < w3.heap.size := by omega
    try have z3_1_1 : w1.heap.size + 1 < w3.heap.size := by omega
    try have z3_1_2 : w1.heap.size + 2 < w3.heap.size := by omega
    try have z3_2_0 : w2.heap.size < w3.heap.size := by omega
    try have z3_2_1 : w2.heap.size + 1 < w3.heap.size := by omega
    try have z3_2_2 : w2.heap.size + 2 < w3.heap.size := by omega
    have I3 := I2.new b3
    go_wp2_with fail
    refine (poolValid_impl A' k c' hs _ HK.out hml I3).mono ?_
    rintro e w4 ⟨rfl, b4⟩
    rw [hP]
    have hc4 := New.cells b4; have hf4 := New.marks b4; have hz4 := New.le b4; try simp only [World.size_alloc, World.size_setCell] at hz4
    try have z4_0_0 : w.heap.size < w4.heap.size := by omega
    try have z4_0_1 : w.heap.size + 1 < w4.heap.size := by omega
    try have z4_0_2 : w.heap.size + 2 < w4.heap.size := by omega
    try have z4_1_0 : w1.heap.size < w4.heap.size := by omega
    try have z4_1_1 : w1.heap.size + 1 < w4.heap.size := by omega
    try have z4_1_2 : w1.heap.size + 2 < w4.heap.size := by omega
    try have z4_2_0 : w2.heap.size < w4.heap.size := by omega
    try have z4_2_1 : w2.heap.size + 1 < w4.heap.size := by omega
    try have z4_2_2 : w2.heap.size + 2 < w4.heap.size := by omega
    try have z4_3_0 : w3.heap.size < w4.heap.size := by omega
    try have z4_3_1 : w3.heap.size + 1 < w4.heap.size := by omega
    try have z4_3_2 : w3.heap.size + 2 < w4.heap.size := by omega
    go_wp2_with fail
    refine (alive_any _).mono ?_
    rintro e w5 ⟨rfl, b5⟩
    have hc5 := New.cells b5; have hf5 := New.marks b5; have hz5 := New.le b5; try simp only [World.size_alloc, World.size_setCell] at hz5
    try have z5_0_0 : w.heap.size < w5.heap.size := by omega
    try have z5_0_1 : w.heap.size + 1 < w5.heap.size := by omega
    try have z5_0_2 : w.heap.size + 2 < w5.heap.size := by omega
    try have z5_1_0 : w1.heap.size < w5.heap.size := by omega
    try have z5_1_1 : w1.heap.size + 1 < w5.heap.size := by omega
    try have z5_1_2 : w1.heap.size + 2 < w5.heap.size := by omega
    try have z5_2_0 : w2.heap.size < w5.heap.size := by omega
    try have z5_2_1 : w2.heap.size + 1 < w5.heap.size := by omega
    try have z5_2_2 : w2.heap.size + 2 < w5.heap.size := by omega
    try have z5_3_0 : w3.heap.size < w5.heap.size := by omega
    try have z5_3_1 : w3.heap.size + 1 < w5.heap.size := by omega
    try have z5_3_2 : w3.heap.size + 2 < w5.heap.size := by omega
    try have z5_4_0 : w4.heap.size < w5.heap.size := by omega
    try have z5_4_1 : w4.heap.size + 1 < w5.heap.size := by omega
    try have z5_4_2 : w4.heap.size + 2 < w5.heap.size := by omega
    go_wp2_with fail
    go_ret
    exact ⟨rfl, (by repeat (first | with_reducible assumption | with_reducible exact New.refl _ | with_reducible refine New.alloc ?_ _ | with_reducible refine New.drew ?_ | with_reducible refine New.drewN ?_ _ | refine New.setCell ?_ (by first | (simp; done) | omega | (simp; omega)) _ | with_reducible refine New.trans ?_ (by with_reducible assumption)))⟩
  by_cases hk0 : k = 0
  · subst hk0
    obtain rfl : hs = [] := List.eq_nil_of_length_eq_zero HK.out
    unfold maxLen at cm
    have hq : ∀ w' : World, Ints w' A' (flat []) := fun _ => IntsK.nil
    rcases hpl with rfl | ⟨g, rfl⟩
    · skip
      go_wp2_with fail
      refine (totalWeight_impl _ 0 c' [] _ rfl (by omega) IntsK.nil).mono ?_
      rintro e w2 ⟨rfl, b2⟩
      rw [totZ_nil]
      have hc2 := New.cells b2; have hf2 := New.marks b2; have hz2 := New.le b2; try simp only [World.size_alloc, World.size_setCell] at hz2
      try have z2_0_0 : w.heap.size < w2.heap.size := by omega
      try have z2_0_1 : w.heap.size + 1 < w2.heap.size := by omega
      try have z2_0_2 : w.heap.size + 2 < w2.heap.size := by omega
      try have z2_1_0 : w1.heap.size < w2.heap.size := by omega
      try have z2_1_1 : w1.heap.size + 1 < w2.heap.size := by omega
      try have z2_1_2 : w1.heap.size + 2 < w2.heap.size := by omega
      go_wp2_with fail
      refine (totalWeight_spec _ 0 c' [] _ rfl (by omega) IntsK.nil).mono ?_
      rintro e w3 ⟨rfl, b3⟩
      rw [totZ_nil]
      have hc3 := New.cells b3; have hf3 := New.marks b3; have hz3 := New.le b3; try simp only [World.size_alloc, World.size_setCell] at hz3
      try have z3_0_0 : w.heap.size < w3.heap.size := by omega
      try have z3_0_1 : w.heap.size + 1 < w3.heap.size := by omega
      try have z3_0_2 : w.heap.size + 2 < w3.heap.size := by omega
      try have z3_1_0 : w1.heap.size < w3.heap.size := by omega
      try have z3_1_1 : w1.heap.size + 1 < w3.heap.size := by omega
      try have z3_1_2 : w1.heap.size + 2 < w3.heap.size := by omega
      try have z3_2_0 : w2.heap.size < w3.heap.size := by omega
      try have z3_2_1 : w2.heap.size + 1 < w3.heap.size := by omega
      try have z3_2_2 : w2.heap.size + 2 < w3.heap.size := by omega
      go_wp2_with fail
      refine (poolValid_impl _ 0 c' [] _ rfl hml IntsK.nil).mono ?_
      rintro e w4 ⟨rfl, b4⟩
      rw [poolB_nil]
      have hc4 := New.cells b4; have hf4 := New.marks b4; have hz4 := New.le b4; try simp only [World.size_alloc, World.size_setCell] at hz4
      try have z4_0_0 : w.heap.size < w4.heap.size := by omega
      try have z4_0_1 : w.heap.size + 1 < w4.heap.size := by omega
      try have z4_0_2 : w.heap.size + 2 < w4.heap.size := by omega
      try have z4_1_0 : w1.heap.size < w4.heap.size := by omega
      try have z4_1_1 : w1.heap.size + 1 < w4.heap.size := by omega
      try have z4_1_2 : w1.heap.size + 2 < w4.heap.size := by omega
      try have z4_2_0 : w2.heap.size < w4.heap.size := by omega
      try have z4_2_1 : w2.heap.size + 1 < w4.heap.size := by omega
      try have z4_2_2 : w2.heap.size + 2 < w4.heap.size := by omega
      try have z4_3_0 : w3.heap.size < w4.heap.size := by omega
      try have z4_3_1 : w3.heap.size + 1 < w4.heap.size := by omega
      try have z4_3_2 : w3.heap.size + 2 < w4.heap.size := by omega
      go_wp2_with fail
      clear hc2 hf2 hc3 hf3 hc4 hf4
      obtain ⟨FF, hFF⟩ : ∃ FF, FF = factAt [pVal (.slice (none) 0 c'), pVal (.int .i64 ((0 : Nat) : Int)), pRow 0 (flat []), pVal (.int .i64 0), pVal (.slice (none) 0 c'), pVal (.int .i64 ((0 : Nat) : Int)), pRow 0 (flat []), pVal (.int .i64 0), pVal (.int .i64 0), pVal (.int .i64 0), pVal (.bool true), pVal (.bool true), pVal (.int .i64 0), pVal (.slice (none) 0 c'), pRow 0 [], pVal (.int .i64 0), pVal (.bool true), pVal (.bool true), pVal (.bool true)] := ⟨_, rfl⟩
      have HFF := Lib.hid hFF
      clear hFF
      refine wp_region_tail 19 (by kernel_rfl) (by kernel_rfl) (by kernel_rfl) (by decide) (LrI w4) FF New (by rw [HFF.out]; exact factAt_keptN (by
          intro P hP
          simp only [List.mem_cons, List.not_mem_nil, or_false] at hP
          rcases hP with rfl | rfl | rfl | rfl | rfl | rfl | rfl | rfl | rfl | rfl | rfl | rfl | rfl | rfl | rfl | rfl | rfl | rfl | rfl
          · exact keptN_val _
          · exact keptN_val _
          · exact keptN_row _ _
          · exact keptN_val _
          · exact keptN_val _
          · exact keptN_val _
          · exact keptN_row _ _
          · exact keptN_val _
          · exact keptN_val _
          · exact keptN_val _
          · exact keptN_val _
          · exact keptN_val _
          · exact keptN_val _
          · exact keptN_val _
          · exact keptN_row _ _
          · exact keptN_val _
          · exact keptN_val _
          · exact keptN_val _
          · exact keptN_val _
          )) (New.drew (New.refl _)) ?_ ?_
      · refine ⟨?_, ?_, ?_, ?_, ?_, ?_, ?_, ?_, ?_, ?_, ?_, ?_, ?_, ?_, ?_, ?_, ?_, ?_, ?_, trivial⟩
        · -- 0: Op.move t3
          intro vs kq wq hI hF
          have hI : New w4 wq := hI
          clear hF
          simp only [fillTo, dstOf, List.getElem?_toArray, List.getElem?_cons_zero, List.getElem?_cons_succ, Option.bind_some, Act.put, List.setIfInBounds_toArray, List.set_cons_zero, List.set_cons_succ]
          go_wp2_with fail
          exact ⟨_, rfl, hI, New.refl _, by rw [HFF.out]; exact rfl⟩
        · -- 1: Op.move t5
          intro vs kq wq hI hF
          have hI : New w4 wq := hI
          clear hF
          simp only [fillTo, dstOf, List.getElem?_toArray, List.getElem?_cons_zero, List.getElem?_cons_succ, Option.bind_some, Act.put, List.setIfInBounds_toArray, List.set_cons_zero, List.set_cons_succ]
          go_wp2_with fail
          exact ⟨_, rfl, hI, New.refl _, by rw [HFF.out]; exact rfl⟩
        · -- 2: Op.slice 33 t28 none (some t29) none
          intro vs kq wq hI hF
          have hI : New w4 wq := hI
          have f0 : pVal (.slice (none) 0 c') (vs 0) wq := (by have h := hF 0 (by rfl); rw [HFF.out] at h; exact h)
          unfold pVal at f0
          have f1 : pVal (.int .i64 ((0 : Nat) : Int)) (vs 1) wq := (by have h := hF 1 (by rfl); rw [HFF.out] at h; exact h)
          unfold pVal at f1
          clear hF
          simp only [fillTo, dstOf, List.getElem?_toArray, List.getElem?_cons_zero, List.getElem?_cons_succ, Option.bind_some, Act.put, List.setIfInBounds_toArray, List.set_cons_zero, List.set_cons_succ, f0, f1]
          clear f0 f1
          go_wp2_with fail
          all_goals exact ⟨_, rfl, hI, New.refl _, by rw [HFF.out]; exact ⟨_, _, rfl, Nat.zero_le _, by unfold maxLen; omega, IntsK.nil⟩⟩
        · -- 3: Op.call { value (Operand.func 20), args := #[t30], argTypes 
          intro vs kq wq hI hF
          have hI : New w4 wq := hI
          have f2 : pRow 0 (flat []) (vs 2) wq := (by have h := hF 2 (by rfl); rw [HFF.out] at h; exact h)
          refine Shut.out ?_
          obtain ⟨A2, c2, f2, nc2, cm2, I2⟩ := f2
          refine Shut.mk ?_
          clear hF
          simp only [fillTo, dstOf, List.getElem?_toArray, List.getElem?_cons_zero, List.getElem?_cons_succ, Option.bind_some, Act.put, List.setIfInBounds_toArray, List.set_cons_zero, List.set_cons_succ, f2]
          clear f2
          go_wp2_with fail
          refine (totalWeight_impl _ 0 _ [] _ rfl (by omega) I2).mono ?_
          rintro e w' ⟨rfl, hb⟩
          rw [totZ_nil]
          go_wp2_with fail
          exact ⟨_, rfl, New.trans hI hb, hb, by rw [HFF.out]; exact rfl⟩
        · -- 4: Op.move t3
          intro vs kq wq hI hF
          have hI : New w4 wq := hI
          clear hF
          simp only [fillTo, dstOf, List.getElem?_toArray, List.getElem?_cons_zero, List.getElem?_cons_succ, Option.bind_some, Act.put, List.setIfInBounds_toArray, List.set_cons_zero, List.set_cons_succ]
          go_wp2_with fail
          exact ⟨_, rfl, hI, New.refl _, by rw [HFF.out]; exact rfl⟩
        · -- 5: Op.move t5
          intro vs kq wq hI hF
          have hI : New w4 wq := hI
          clear hF
          simp only [fillTo, dstOf, List.getElem?_toArray, List.getElem?_cons_zero, List.getElem?_cons_succ, Option.bind_some, Act.put, List.setIfInBounds_toArray, List.set_cons_zero, List.set_cons_succ]
          go_wp2_with fail
          exact ⟨_, rfl, hI, New.refl _, by rw [HFF.out]; exact rfl⟩
        · -- 6: Op.slice 33 t32 (some t33) none none
          intro vs kq wq hI hF
          have hI : New w4 wq := hI
          have f4 : pVal (.slice (none) 0 c') (vs 4) wq := (by have h := hF 4 (by rfl); rw [HFF.out] at h; exact h)
          unfold pVal at f4
          have f5 : pVal (.int .i64 ((0 : Nat) : Int)) (vs 5) wq := (by have h := hF 5 (by rfl); rw [HFF.out] at h; exact h)
          unfold pVal at f5
          clear hF
          simp only [fillTo, dstOf, List.getElem?_toArray, List.getElem?_cons_zero, List.getElem?_cons_succ, Option.bind_some, Act.put, List.setIfInBounds_toArray, List.set_cons_zero, List.set_cons_succ, f4, f5]
          clear f4 f5
          go_wp2_with fail
          all_goals exact ⟨_, rfl, hI, New.refl _, by rw [HFF.out]; exact ⟨_, _, rfl, Nat.zero_le _, by unfold maxLen; omega, IntsK.nil⟩⟩
        · -- 7: Op.call { value (Operand.func 20), args := #[t34], argTypes 
          intro vs kq wq hI hF
          have hI : New w4 wq := hI
          have f6 : pRow 0 (flat []) (vs 6) wq := (by have h := hF 6 (by rfl); rw [HFF.out] at h; exact h)
          refine Shut.out ?_
          obtain ⟨A6, c6, f6, nc6, cm6, I6⟩ := f6
          refine Shut.mk ?_
          clear hF
          simp only [fillTo, dstOf, List.getElem?_toArray, List.getElem?_cons_zero, List.getElem?_cons_succ, Option.bind_some, Act.put, List.setIfInBounds_toArray, List.set_cons_zero, List.set_cons_succ, f6]
          clear f6
          go_wp2_with fail
          refine (totalWeight_impl _ 0 _ [] _ rfl (by omega) I6).mono ?_
          rintro e w' ⟨rfl, hb⟩
          rw [totZ_nil]
          go_wp2_with fail
          exact ⟨_, rfl, New.trans hI hb, hb, by rw [HFF.out]; exact rfl⟩
        · -- 8: Op.binOp BinOp.add 3 t31 t35 3
          intro vs kq wq hI hF
          have hI : New w4 wq := hI
          have f3 : pVal (.int .i64 0) (vs 3) wq := (by have h := hF 3 (by rfl); rw [HFF.out] at h; exact h)
          unfold pVal at f3
          have f7 : pVal (.int .i64 0) (vs 7) wq := (by have h := hF 7 (by rfl); rw [HFF.out] at h; exact h)
          unfold pVal at f7
          clear hF
          simp only [fillTo, dstOf, List.getElem?_toArray, List.getElem?_cons_zero, List.getElem?_cons_succ, Option.bind_some, Act.put, List.setIfInBounds_toArray, List.set_cons_zero, List.set_cons_succ, f3, f7]
          clear f3 f7
          go_wp2_with fail
          exact ⟨_, rfl, hI, New.refl _, by rw [HFF.out]; exact rfl⟩
        · -- 9: Op.move t4
          intro vs kq wq hI hF
          have hI : New w4 wq := hI
          clear hF
          simp only [fillTo, dstOf, List.getElem?_toArray, List.getElem?_cons_zero, List.getElem?_cons_succ, Option.bind_some, Act.put, List.setIfInBounds_toArray, List.set_cons_zero, List.set_cons_succ]
          go_wp2_with fail
          exact ⟨_, rfl, hI, New.refl _, by rw [HFF.out]; exact rfl⟩
        · -- 10: Op.binOp BinOp.eql 3 t36 t37 3
          intro vs kq wq hI hF
          have hI : New w4 wq := hI
          have f8 : pVal (.int .i64 0) (vs 8) wq := (by have h := hF 8 (by rfl); rw [HFF.out] at h; exact h)
          unfold pVal at f8
          have f9 : pVal (.int .i64 0) (vs 9) wq := (by have h := hF 9 (by rfl); rw [HFF.out] at h; exact h)
          unfold pVal at f9
          clear hF
          simp only [fillTo, dstOf, List.getElem?_toArray, List.getElem?_cons_zero, List.getElem?_cons_succ, Option.bind_some, Act.put, List.setIfInBounds_toArray, List.set_cons_zero, List.set_cons_succ, f8, f9]
          clear f8 f9
          go_wp2_with fail
          exact ⟨_, rfl, hI, New.refl _, by rw [HFF.out]; exact rfl⟩
        · -- 11: Op.move t38
          intro vs kq wq hI hF
          have hI : New w4 wq := hI
          have f10 : pVal (.bool true) (vs 10) wq := (by have h := hF 10 (by rfl); rw [HFF.out] at h; exact h)
          unfold pVal at f10
          clear hF
          simp only [fillTo, dstOf, List.getElem?_toArray, List.getElem?_cons_zero, List.getElem?_cons_succ, Option.bind_some, Act.put, List.setIfInBounds_toArray, List.set_cons_zero, List.set_cons_succ, f10]
          clear f10
          go_wp2_with fail
          exact ⟨_, rfl, hI, New.refl _, by rw [HFF.out]; exact rfl⟩
        · -- 12: Op.move t4   [guarded: some (11, true)]
          intro vs kq wq hI hF
          have hI : New w4 wq := hI
          have f11 : pVal (.bool true) (vs 11) wq := (by have h := hF 11 (by rfl); rw [HFF.out] at h; exact h)
          unfold pVal at f11
          clear hF
          simp only [fillTo, dstOf, List.getElem?_toArray, List.getElem?_cons_zero, List.getElem?_cons_succ, Option.bind_some, Act.put, List.setIfInBounds_toArray, List.set_cons_zero, List.set_cons_succ, f11]
          clear f11
          go_wp2_with fail
          exact ⟨_, rfl, hI, New.refl _, by rw [HFF.out]; exact rfl⟩
        · -- 13: Op.move t3   [guarded: some (11, true)]
          intro vs kq wq hI hF
          have hI : New w4 wq := hI
          have f11 : pVal (.bool true) (vs 11) wq := (by have h := hF 11 (by rfl); rw [HFF.out] at h; exact h)
          unfold pVal at f11
          clear hF
          simp only [fillTo, dstOf, List.getElem?_toArray, List.getElem?_cons_zero, List.getElem?_cons_succ, Option.bind_some, Act.put, List.setIfInBounds_toArray, List.set_cons_zero, List.set_cons_succ, f11]
          clear f11
          go_wp2_with fail
          exact ⟨_, rfl, hI, New.refl _, by rw [HFF.out]; exact rfl⟩
        · -- 14: Op.call { value (Operand.func 23), args := #[t41], argTypes 
          intro vs kq wq hI hF
          have hI : New w4 wq := hI
          have f13 : pVal (.slice (none) 0 c') (vs 13) wq := (by have h := hF 13 (by rfl); rw [HFF.out] at h; exact h)
          unfold pVal at f13
          have f11 : pVal (.bool true) (vs 11) wq := (by have h := hF 11 (by rfl); rw [HFF.out] at h; exact h)
          unfold pVal at f11
          clear hF
          simp only [fillTo, dstOf, List.getElem?_toArray, List.getElem?_cons_zero, List.getElem?_cons_succ, Option.bind_some, Act.put, List.setIfInBounds_toArray, List.set_cons_zero, List.set_cons_succ, f13, f11]
          clear f13 f11
          go_wp2_with fail
          refine (hostsUp_impl _ 0 c' [] _ rfl (by omega) IntsK.nil).mono ?_
          rintro e w' ⟨A14, c14, rfl, nc14, cm14, o14, hb⟩
          go_wp2_with fail
          exact ⟨_, rfl, New.trans hI hb, hb, by rw [HFF.out]; exact ⟨_, _, rfl, nc14, cm14, o14.ints⟩⟩
        · -- 15: Op.call { builtin len, args := #[t42], argTypes := #[30] }  
          intro vs kq wq hI hF
          have hI : New w4 wq := hI
          have f14 : pRow 0 [] (vs 14) wq := (by have h := hF 14 (by rfl); rw [HFF.out] at h; exact h)
          refine Shut.out ?_
          obtain ⟨A14, c14, f14, nc14, cm14, I14⟩ := f14
          refine Shut.mk ?_
          have f11 : pVal (.bool true) (vs 11) wq := (by have h := hF 11 (by rfl); rw [HFF.out] at h; exact h)
          unfold pVal at f11
          clear hF
          simp only [fillTo, dstOf, List.getElem?_toArray, List.getElem?_cons_zero, List.getElem?_cons_succ, Option.bind_some, Act.put, List.setIfInBounds_toArray, List.set_cons_zero, List.set_cons_succ, f14, f11]
          clear f14 f11
          go_wp2_with fail
          exact ⟨_, rfl, hI, New.refl _, by rw [HFF.out]; exact rfl⟩
        · -- 16: Op.binOp BinOp.geq 3 t40 t43 3   [guarded: some (11, true)]
          intro vs kq wq hI hF
          have hI : New w4 wq := hI
          have f12 : pVal (.int .i64 0) (vs 12) wq := (by have h := hF 12 (by rfl); rw [HFF.out] at h; exact h)
          unfold pVal at f12
          have f15 : pVal (.int .i64 0) (vs 15) wq := (by have h := hF 15 (by rfl); rw [HFF.out] at h; exact h)
          unfold pVal at f15
          have f11 : pVal (.bool true) (vs 11) wq := (by have h := hF 11 (by rfl); rw [HFF.out] at h; exact h)
          unfold pVal at f11
          clear hF
          simp only [fillTo, dstOf, List.getElem?_toArray, List.getElem?_cons_zero, List.getElem?_cons_succ, Option.bind_some, Act.put, List.setIfInBounds_toArray, List.set_cons_zero, List.set_cons_succ, f12, f15, f11]
          clear f12 f15 f11
          go_wp2_with fail
          exact ⟨_, rfl, hI, New.refl _, by rw [HFF.out]; exact rfl⟩
        · -- 17: Op.pick t39 t44 (const (Value.bool false))
          intro vs kq wq hI hF
          have hI : New w4 wq := hI
          have f11 : pVal (.bool true) (vs 11) wq := (by have h := hF 11 (by rfl); rw [HFF.out] at h; exact h)
          unfold pVal at f11
          have f16 : pVal (.bool true) (vs 16) wq := (by have h := hF 16 (by rfl); rw [HFF.out] at h; exact h)
          unfold pVal at f16
          clear hF
          simp only [fillTo, dstOf, List.getElem?_toArray, List.getElem?_cons_zero, List.getElem?_cons_succ, Option.bind_some, Act.put, List.setIfInBounds_toArray, List.set_cons_zero, List.set_cons_succ, f11, f16]
          clear f11 f16
          go_wp2_with fail
          exact ⟨_, rfl, hI, New.refl _, by rw [HFF.out]; exact rfl⟩
        · -- 18: Op.assign t45
          intro vs kq wq hI hF
          have hI : New w4 wq := hI
          have f17 : pVal (.bool true) (vs 17) wq := (by have h := hF 17 (by rfl); rw [HFF.out] at h; exact h)
          unfold pVal at f17
          clear hF
          simp only [fillTo, dstOf, List.getElem?_toArray, List.getElem?_cons_zero, List.getElem?_cons_succ, Option.bind_some, Act.put, List.setIfInBounds_toArray, List.set_cons_zero, List.set_cons_succ, f17]
          clear f17
          go_wp2_with fail
          exact ⟨_, rfl, hI, New.refl _, by rw [HFF.out]; exact rfl⟩
      · intro vs kq w5 hI hF
        have f18 : pVal (.bool true) (vs 18) w5 := (by have h := hF 18 (by omega); rw [HFF.out] at h; exact h)
        unfold pVal at f18
        have hI : New w4 w5 := hI
        clear hF
        simp only [fillTo, dstOf, List.getElem?_toArray, List.getElem?_cons_zero, List.getElem?_cons_succ, Option.bind_some, Act.put, List.setIfInBounds_toArray, List.set_cons_zero, List.set_cons_succ, List.drop_succ_cons, List.drop_zero, f18]
        go_wp2_with fail
        go_ret
        exact ⟨rfl, (by repeat (first | with_reducible assumption | with_reducible exact New.refl _ | with_reducible refine New.alloc ?_ _ | with_reducible refine New.drew ?_ | with_reducible refine New.drewN ?_ _ | refine New.setCell ?_ (by first | (simp; done) | omega | (simp; omega)) _ | with_reducible refine New.trans ?_ (by with_reducible assumption)))⟩
    · skip
      go_wp2_with fail
      refine (totalWeight_impl _ 0 c' [] _ rfl (by omega) IntsK.nil).mono ?_
      rintro e w2 ⟨rfl, b2⟩
      rw [totZ_nil]
      have hc2 := New.cells b2; have hf2 := New.marks b2; have hz2 := New.le b2; try simp only [World.size_alloc, World.size_setCell] at hz2
      try have z2_0_0 : w.heap.size < w2.heap.size := by omega
      try have z2_0_1 : w.heap.size + 1 < w2.heap.size := by omega
      try have z2_0_2 : w.heap.size + 2 < w2.heap.size := by omega
      try have z2_1_0 : w1.heap.size < w2.heap.size := by omega
      try have z2_1_1 : w1.heap.size + 1 < w2.heap.size := by omega
      try have z2_1_2 : w1.heap.size + 2 < w2.heap.size := by omega
      go_wp2_with fail
      refine (totalWeight_spec _ 0 c' [] _ rfl (by omega) IntsK.nil).mono ?_
      rintro e w3 ⟨rfl, b3⟩
      rw [totZ_nil]
      have hc3 := New.cells b3; have hf3 := New.marks b3; have hz3 := New.le b3; try simp only [World.size_alloc, World.size_setCell] at hz3
      try have z3_0_0 : w.heap.size < w3.heap.size := by omega
      try have z3_0_1 : w.heap.size + 1 < w3.heap.size := by omega
      try have z3_0_2 : w.heap.size + 2 < w3.heap.size := by omega
      try have z3_1_0 : w1.heap.size < w3.heap.size := by omega
      try have z3_1_1 : w1.heap.size + 1 < w3.heap.size := by omega
      try have z3_1_2 : w1.heap.size + 2 < w3.heap.size := by omega
      try have z3_2_0 : w2.heap.size < w3.heap.size := by omega
      try have z3_2_1 : w2.heap.size + 1 < w3.heap.size := by omega
      try have z3_2_2 : w2.heap.size + 2 < w3.heap.size := by omega
      go_wp2_with fail
      refine (poolValid_impl _ 0 c' [] _ rfl hml IntsK.nil).mono ?_
      rintro e w4 ⟨rfl, b4⟩
      rw [poolB_nil]
      have hc4 := New.cells b4; have hf4 := New.marks b4; have hz4 := New.le b4; try simp only [World.size_alloc, World.size_setCell] at hz4
      try have z4_0_0 : w.heap.size < w4.heap.size := by omega
      try have z4_0_1 : w.heap.size + 1 < w4.heap.size := by omega
      try have z4_0_2 : w.heap.size + 2 < w4.heap.size := by omega
      try have z4_1_0 : w1.heap.size < w4.heap.size := by omega
      try have z4_1_1 : w1.heap.size + 1 < w4.heap.size := by omega
      try have z4_1_2 : w1.heap.size + 2 < w4.heap.size := by omega
      try have z4_2_0 : w2.heap.size < w4.heap.size := by omega
      try have z4_2_1 : w2.heap.size + 1 < w4.heap.size := by omega
      try have z4_2_2 : w2.heap.size + 2 < w4.heap.size := by omega
      try have z4_3_0 : w3.heap.size < w4.heap.size := by omega
      try have z4_3_1 : w3.heap.size + 1 < w4.heap.size := by omega
      try have z4_3_2 : w3.heap.size + 2 < w4.heap.size := by omega
      go_wp2_with fail
      clear hc2 hf2 hc3 hf3 hc4 hf4
      obtain ⟨FF, hFF⟩ : ∃ FF, FF = factAt [pVal (.slice (some ⟨g, 0, none⟩) 0 c'), pVal (.int .i64 ((0 : Nat) : Int)), pRow 0 (flat []), pVal (.int .i64 0), pVal (.slice (some ⟨g, 0, none⟩) 0 c'), pVal (.int .i64 ((0 : Nat) : Int)), pRow 0 (flat []), pVal (.int .i64 0), pVal (.int .i64 0), pVal (.int .i64 0), pVal (.bool true), pVal (.bool true), pVal (.int .i64 0), pVal (.slice (some ⟨g, 0, none⟩) 0 c'), pRow 0 [], pVal (.int .i64 0), pVal (.bool true), pVal (.bool true), pVal (.bool true)] := ⟨_, rfl⟩
      have HFF := Lib.hid hFF
      clear hFF
      refine wp_region_tail 19 (by kernel_rfl) (by kernel_rfl) (by kernel_rfl) (by decide) (LrI w4) FF New (by rw [HFF.out]; exact factAt_keptN (by
          intro P hP
          simp only [List.mem_cons, List.not_mem_nil, or_false] at hP
          rcases hP with rfl | rfl | rfl | rfl | rfl | rfl | rfl | rfl | rfl | rfl | rfl | rfl | rfl | rfl | rfl | rfl | rfl | rfl | rfl
          · exact keptN_val _
          · exact keptN_val _
          · exact keptN_row _ _
          · exact keptN_val _
          · exact keptN_val _
          · exact keptN_val _
          · exact keptN_row _ _
          · exact keptN_val _
          · exact keptN_val _
          · exact keptN_val _
          · exact keptN_val _
          · exact keptN_val _
          · exact keptN_val _
          · exact keptN_val _
          · exact keptN_row _ _
          · exact keptN_val _
          · exact keptN_val _
          · exact keptN_val _
          · exact keptN_val _
          )) (New.drew (New.refl _)) ?_ ?_
      · refine ⟨?_, ?_, ?_, ?_, ?_, ?_, ?_, ?_, ?_, ?_, ?_, ?_, ?_, ?_, ?_, ?_, ?_, ?_, ?_, trivial⟩
        · -- 0: Op.move t3
          intro vs kq wq hI hF
          have hI : New w4 wq := hI
          clear hF
          simp only [fillTo, dstOf, List.getElem?_toArray, List.getElem?_cons_zero, List.getElem?_cons_succ, Option.bind_some, Act.put, List.setIfInBounds_toArray, List.set_cons_zero, List.set_cons_succ]
          go_wp2_with fail
          exact ⟨_, rfl, hI, New.refl _, by rw [HFF.out]; exact rfl⟩
        · -- 1: Op.move t5
          intro vs kq wq hI hF
          have hI : New w4 wq := hI
          clear hF
          simp only [fillTo, dstOf, List.getElem?_toArray, List.getElem?_cons_zero, List.getElem?_cons_succ, Option.bind_some, Act.put, List.setIfInBounds_toArray, List.set_cons_zero, List.set_cons_succ]
          go_wp2_with fail
          exact ⟨_, rfl, hI, New.refl _, by rw [HFF.out]; exact rfl⟩
        · -- 2: Op.slice 33 t28 none (some t29) none
          intro vs kq wq hI hF
          have hI : New w4 wq := hI
          have f0 : pVal (.slice (some ⟨g, 0, none⟩) 0 c') (vs 0) wq := (by have h := hF 0 (by rfl); rw [HFF.out] at h; exact h)
          unfold pVal at f0
          have f1 : pVal (.int .i64 ((0 : Nat) : Int)) (vs 1) wq := (by have h := hF 1 (by rfl); rw [HFF.out] at h; exact h)
          unfold pVal at f1
          clear hF
          simp only [fillTo, dstOf, List.getElem?_toArray, List.getElem?_cons_zero, List.getElem?_cons_succ, Option.bind_some, Act.put, List.setIfInBounds_toArray, List.set_cons_zero, List.set_cons_succ, f0, f1]
          clear f0 f1
          go_wp2_with fail
          all_goals exact ⟨_, rfl, hI, New.refl _, by rw [HFF.out]; exact ⟨_, _, rfl, Nat.zero_le _, by unfold maxLen; omega, IntsK.nil⟩⟩
        · -- 3: Op.call { value (Operand.func 20), args := #[t30], argTypes 
          intro vs kq wq hI hF
          have hI : New w4 wq := hI
          have f2 : pRow 0 (flat []) (vs 2) wq := (by have h := hF 2 (by rfl); rw [HFF.out] at h; exact h)
          refine Shut.out ?_
          obtain ⟨A2, c2, f2, nc2, cm2, I2⟩ := f2
          refine Shut.mk ?_
          clear hF
          simp only [fillTo, dstOf, List.getElem?_toArray, List.getElem?_cons_zero, List.getElem?_cons_succ, Option.bind_some, Act.put, List.setIfInBounds_toArray, List.set_cons_zero, List.set_cons_succ, f2]
          clear f2
          go_wp2_with fail
          refine (totalWeight_impl _ 0 _ [] _ rfl (by omega) I2).mono ?_
          rintro e w' ⟨rfl, hb⟩
          rw [totZ_nil]
          go_wp2_with fail
          exact ⟨_, rfl, New.trans hI hb, hb, by rw [HFF.out]; exact rfl⟩
        · -- 4: Op.move t3
          intro vs kq wq hI hF
          have hI : New w4 wq := hI
          clear hF
          simp only [fillTo, dstOf, List.getElem?_toArray, List.getElem?_cons_zero, List.getElem?_cons_succ, Option.bind_some, Act.put, List.setIfInBounds_toArray, List.set_cons_zero, List.set_cons_succ]
          go_wp2_with fail
          exact ⟨_, rfl, hI, New.refl _, by rw [HFF.out]; exact rfl⟩
        · -- 5: Op.move t5
          intro vs kq wq hI hF
          have hI : New w4 wq := hI
          clear hF
          simp only [fillTo, dstOf, List.getElem?_toArray, List.getElem?_cons_zero, List.getElem?_cons_succ, Option.bind_some, Act.put, List.setIfInBounds_toArray, List.set_cons_zero, List.set_cons_succ]
          go_wp2_with fail
          exact ⟨_, rfl, hI, New.refl _, by rw [HFF.out]; exact rfl⟩
        · -- 6: Op.slice 33 t32 (some t33) none none
          intro vs kq wq hI hF
          have hI : New w4 wq := hI
          have f4 : pVal (.slice (some ⟨g, 0, none⟩) 0 c') (vs 4) wq := (by have h := hF 4 (by rfl); rw [HFF.out] at h; exact h)
          unfold pVal at f4
          have f5 : pVal (.int .i64 ((0 : Nat) : Int)) (vs 5) wq := (by have h := hF 5 (by rfl); rw [HFF.out] at h; exact h)
          unfold pVal at f5
          clear hF
          simp only [fillTo, dstOf, List.getElem?_toArray, List.getElem?_cons_zero, List.getElem?_cons_succ, Option.bind_some, Act.put, List.setIfInBounds_toArray, List.set_cons_zero, List.set_cons_succ, f4, f5]
          clear f4 f5
          go_wp2_with fail
          all_goals exact ⟨_, rfl, hI, New.refl _, by rw [HFF.out]; exact ⟨_, _, rfl, Nat.zero_le _, by unfold maxLen; omega, IntsK.nil⟩⟩
        · -- 7: Op.call { value (Operand.func 20), args := #[t34], argTypes 
          intro vs kq wq hI hF
          have hI : New w4 wq := hI
          have f6 : pRow 0 (flat []) (vs 6) wq := (by have h := hF 6 (by rfl); rw [HFF.out] at h; exact h)
          refine Shut.out ?_
          obtain ⟨A6, c6, f6, nc6, cm6, I6⟩ := f6
          refine Shut.mk ?_
          clear hF
          simp only [fillTo, dstOf, List.getElem?_toArray, List.getElem?_cons_zero, List.getElem?_cons_succ, Option.bind_some, Act.put, List.setIfInBounds_toArray, List.set_cons_zero, List.set_cons_succ, f6]
          clear f6
          go_wp2_with fail
          refine (totalWeight_impl _ 0 _ [] _ rfl (by omega) I6).mono ?_
          rintro e w' ⟨rfl, hb⟩
          rw [totZ_nil]
          go_wp2_with fail
          exact ⟨_, rfl, New.trans hI hb, hb, by rw [HFF.out]; exact rfl⟩
        · -- 8: Op.binOp BinOp.add 3 t31 t35 3
          intro vs kq wq hI hF
          have hI : New w4 wq := hI
          have f3 : pVal (.int .i64 0) (vs 3) wq := (by have h := hF 3 (by rfl); rw [HFF.out] at h; exact h)
          unfold pVal at f3
          have f7 : pVal (.int .i64 0) (vs 7) wq := (by have h := hF 7 (by rfl); rw [HFF.out] at h; exact h)
          unfold pVal at f7
          clear hF
          simp only [fillTo, dstOf, List.getElem?_toArray, List.getElem?_cons_zero, List.getElem?_cons_succ, Option.bind_some, Act.put, List.setIfInBounds_toArray, List.set_cons_zero, List.set_cons_succ, f3, f7]
          clear f3 f7
          go_wp2_with fail
          exact ⟨_, rfl, hI, New.refl _, by rw [HFF.out]; exact rfl⟩
        · -- 9: Op.move t4
          intro vs kq wq hI hF
          have hI : New w4 wq := hI
          clear hF
          simp only [fillTo, dstOf, List.getElem?_toArray, List.getElem?_cons_zero, List.getElem?_cons_succ, Option.bind_some, Act.put, List.setIfInBounds_toArray, List.set_cons_zero, List.set_cons_succ]
          go_wp2_with fail
          exact ⟨_, rfl, hI, New.refl _, by rw [HFF.out]; exact rfl⟩
        · -- 10: Op.binOp BinOp.eql 3 t36 t37 3
          intro vs kq wq hI hF
          have hI : New w4 wq := hI
          have f8 : pVal (.int .i64 0) (vs 8) wq := (by have h := hF 8 (by rfl); rw [HFF.out] at h; exact h)
          unfold pVal at f8
          have f9 : pVal (.int .i64 0) (vs 9) wq := (by have h := hF 9 (by rfl); rw [HFF.out] at h; exact h)
          unfold pVal at f9
          clear hF
          simp only [fillTo, dstOf, List.getElem?_toArray, List.getElem?_cons_zero, List.getElem?_cons_succ, Option.bind_some, Act.put, List.setIfInBounds_toArray, List.set_cons_zero, List.set_cons_succ, f8, f9]
          clear f8 f9
          go_wp2_with fail
          exact ⟨_, rfl, hI, New.refl _, by rw [HFF.out]; exact rfl⟩
        · -- 11: Op.move t38
          intro vs kq wq hI hF
          have hI : New w4 wq := hI
          have f10 : pVal (.bool true) (vs 10) wq := (by have h := hF 10 (by rfl); rw [HFF.out] at h; exact h)
          unfold pVal at f10
          clear hF
          simp only [fillTo, dstOf, List.getElem?_toArray, List.getElem?_cons_zero, List.getElem?_cons_succ, Option.bind_some, Act.put, List.setIfInBounds_toArray, List.set_cons_zero, List.set_cons_succ, f10]
          clear f10
          go_wp2_with fail
          exact ⟨_, rfl, hI, New.refl _, by rw [HFF.out]; exact rfl⟩
        · -- 12: Op.move t4   [guarded: some (11, true)]
          intro vs kq wq hI hF
          have hI : New w4 wq := hI
          have f11 : pVal (.bool true) (vs 11) wq := (by have h := hF 11 (by rfl); rw [HFF.out] at h; exact h)
          unfold pVal at f11
          clear hF
          simp only [fillTo, dstOf, List.getElem?_toArray, List.getElem?_cons_zero, List.getElem?_cons_succ, Option.bind_some, Act.put, List.setIfInBounds_toArray, List.set_cons_zero, List.set_cons_succ, f11]
          clear f11
          go_wp2_with fail
          exact ⟨_, rfl, hI, New.refl _, by rw [HFF.out]; exact rfl⟩
        · -- 13: Op.move t3   [guarded: some (11, true)]
          intro vs kq wq hI hF
          have hI : New w4 wq := hI
          have f11 : pVal (.bool true) (vs 11) wq := (by have h := hF 11 (by rfl); rw [HFF.out] at h; exact h)
          unfold pVal at f11
          clear hF
          simp only [fillTo, dstOf, List.getElem?_toArray, List.getElem?_cons_zero, List.getElem?_cons_succ, Option.bind_some, Act.put, List.setIfInBounds_toArray, List.set_cons_zero, List.set_cons_succ, f11]
          clear f11
          go_wp2_with fail
          exact ⟨_, rfl, hI, New.refl _, by rw [HFF.out]; exact rfl⟩
        · -- 14: Op.call { value (Operand.func 23), args := #[t41], argTypes 
          intro vs kq wq hI hF
          have hI : New w4 wq := hI
          have f13 : pVal (.slice (some ⟨g, 0, none⟩) 0 c') (vs 13) wq := (by have h := hF 13 (by rfl); rw [HFF.out] at h; exact h)
          unfold pVal at f13
          have f11 : pVal (.bool true) (vs 11) wq := (by have h := hF 11 (by rfl); rw [HFF.out] at h; exact h)
          unfold pVal at f11
          clear hF
          simp only [fillTo, dstOf, List.getElem?_toArray, List.getElem?_cons_zero, List.getElem?_cons_succ, Option.bind_some, Act.put, List.setIfInBounds_toArray, List.set_cons_zero, List.set_cons_succ, f13, f11]
          clear f13 f11
          go_wp2_with fail
          refine (hostsUp_impl _ 0 c' [] _ rfl (by omega) IntsK.nil).mono ?_
          rintro e w' ⟨A14, c14, rfl, nc14, cm14, o14, hb⟩
          go_wp2_with fail
          exact ⟨_, rfl, New.trans hI hb, hb, by rw [HFF.out]; exact ⟨_, _, rfl, nc14, cm14, o14.ints⟩⟩
        · -- 15: Op.call { builtin len, args := #[t42], argTypes := #[30] }  
          intro vs kq wq hI hF
          have hI : New w4 wq := hI
          have f14 : pRow 0 [] (vs 14) wq := (by have h := hF 14 (by rfl); rw [HFF.out] at h; exact h)
          refine Shut.out ?_
          obtain ⟨A14, c14, f14, nc14, cm14, I14⟩ := f14
          refine Shut.mk ?_
          have f11 : pVal (.bool true) (vs 11) wq := (by have h := hF 11 (by rfl); rw [HFF.out] at h; exact h)
          unfold pVal at f11
          clear hF
          simp only [fillTo, dstOf, List.getElem?_toArray, List.getElem?_cons_zero, List.getElem?_cons_succ, Option.bind_some, Act.put, List.setIfInBounds_toArray, List.set_cons_zero, List.set_cons_succ, f14, f11]
          clear f14 f11
          go_wp2_with fail
          exact ⟨_, rfl, hI, New.refl _, by rw [HFF.out]; exact rfl⟩
        · -- 16: Op.binOp BinOp.geq 3 t40 t43 3   [guarded: some (11, true)]
          intro vs kq wq hI hF
          have hI : New w4 wq := hI
          have f12 : pVal (.int .i64 0) (vs 12) wq := (by have h := hF 12 (by rfl); rw [HFF.out] at h; exact h)
          unfold pVal at f12
          have f15 : pVal (.int .i64 0) (vs 15) wq := (by have h := hF 15 (by rfl); rw [HFF.out] at h; exact h)
          unfold pVal at f15
          have f11 : pVal (.bool true) (vs 11) wq := (by have h := hF 11 (by rfl); rw [HFF.out] at h; exact h)
          unfold pVal at f11
          clear hF
          simp only [fillTo, dstOf, List.getElem?_toArray, List.getElem?_cons_zero, List.getElem?_cons_succ, Option.bind_some, Act.put, List.setIfInBounds_toArray, List.set_cons_zero, List.set_cons_succ, f12, f15, f11]
          clear f12 f15 f11
          go_wp2_with fail
          exact ⟨_, rfl, hI, New.refl _, by rw [HFF.out]; exact rfl⟩
        · -- 17: Op.pick t39 t44 (const (Value.bool false))
          intro vs kq wq hI hF
          have hI : New w4 wq := hI
          have f11 : pVal (.bool true) (vs 11) wq := (by have h := hF 11 (by rfl); rw [HFF.out] at h; exact h)
          unfold pVal at f11
          have f16 : pVal (.bool true) (vs 16) wq := (by have h := hF 16 (by rfl); rw [HFF.out] at h; exact h)
          unfold pVal at f16
          clear hF
          simp only [fillTo, dstOf, List.getElem?_toArray, List.getElem?_cons_zero, List.getElem?_cons_succ, Option.bind_some, Act.put, List.setIfInBounds_toArray, List.set_cons_zero, List.set_cons_succ, f11, f16]
          clear f11 f16
          go_wp2_with fail
          exact ⟨_, rfl, hI, New.refl _, by rw [HFF.out]; exact rfl⟩
        · -- 18: Op.assign t45
          intro vs kq wq hI hF
          have hI : New w4 wq := hI
          have f17 : pVal (.bool true) (vs 17) wq := (by have h := hF 17 (by rfl); rw [HFF.out] at h; exact h)
          unfold pVal at f17
          clear hF
          simp only [fillTo, dstOf, List.getElem?_toArray, List.getElem?_cons_zero, List.getElem?_cons_succ, Option.bind_some, Act.put, List.setIfInBounds_toArray, List.set_cons_zero, List.set_cons_succ, f17]
          clear f17
          go_wp2_with fail
          exact ⟨_, rfl, hI, New.refl _, by rw [HFF.out]; exact rfl⟩
      · intro vs kq w5 hI hF
        have f18 : pVal (.bool true) (vs 18) w5 := (by have h := hF 18 (by omega); rw [HFF.out] at h; exact h)
        unfold pVal at f18
        have hI : New w4 w5 := hI
        clear hF
        simp only [fillTo, dstOf, List.getElem?_toArray, List.getElem?_cons_zero, List.getElem?_cons_succ, Option.bind_some, Act.put, List.setIfInBounds_toArray, List.set_cons_zero, List.set_cons_succ, List.drop_succ_cons, List.drop_zero, f18]
        go_wp2_with fail
        go_ret
        exact ⟨rfl, (by repeat (first | with_reducible assumption | with_reducible exact New.refl _ | with_reducible refine New.alloc ?_ _ | with_reducible refine New.drew ?_ | with_reducible refine New.drewN ?_ _ | refine New.setCell ?_ (by first | (simp; done) | omega | (simp; omega)) _ | with_reducible refine New.trans ?_ (by with_reducible assumption)))⟩
  have hkp : 0 < k := by omega
  obtain ⟨S, hS⟩ : ∃ S, totZ hs = S := ⟨_, rfl⟩
  have hSb := totZ_bd hs
  rw [hS] at hSb
  obtain ⟨hS0, hS1⟩ := hSb
  obtain ⟨h, hh⟩ : ∃ h : Nat, k / 2 = h := ⟨_, rfl⟩
  have hhk : h ≤ k := by omega
  have hspl := totZ_split hP h
  obtain ⟨S1, e1⟩ : ∃ S1, totZ (hs.take h) = S1 := ⟨_, rfl⟩
  obtain ⟨S2, e2⟩ : ∃ S2, totZ (hs.drop h) = S2 := ⟨_, rfl⟩
  have hb1 := totZ_bd (hs.take h)
  have hb2 := totZ_bd (hs.drop h)
  rw [e1] at hb1 hspl
  rw [e2] at hb2 hspl
  rw [hS] at hspl
  obtain ⟨q1, q2⟩ := hb1
  obtain ⟨q3, q4⟩ := hb2
  have HS1 := Lib.hid e1
  have HS2 := Lib.hid e2
  have HS := Lib.hid hS
  obtain ⟨us, hus⟩ : ∃ us, us = upNums hs := ⟨_, rfl⟩
  obtain ⟨m, hm2⟩ : ∃ m, us.length = m := ⟨_, rfl⟩
  have hge := upNums_le_totZ hP
  rw [← hus, hm2, hS] at hge
  have hmk : m ≤ 6 := by rw [← hm2, hus]; exact (upNums_len hs).1
  have hsum : S1 + S2 = S := hspl
  have hH : (k : Int) / 2 = (h : Int) := by omega
  have HH := Lib.hid hH
  clear hH e1 e2 hS hspl
  obtain ⟨g, rfl⟩ : ∃ g, A' = some ⟨g, 0, none⟩ := by
    rcases hpl with rfl | h0
    · obtain ⟨b, o, hA, _⟩ := hI (by rw [flat_len, HK.out]; omega)
      cases hA
    · exact h0
  have hhc : h < c' := by omega
  clear hpl
  · have HU : Hid (∀ w, Ints w (some ⟨g, 0, none⟩) (flat hs) → Calls Try.prog 23 #[.slice (some ⟨g, 0, none⟩) k c'] w (RetRow 3 1 w m us)) := Lib.hid fun w h => by
      rw [← hm2, hus]; exact hostsUp_impl _ k c' hs w HK.out (by omega) h
    clear hus hm2
    go_wp2_with fail
    refine (totalWeight_impl _ k c' hs _ HK.out (by omega) hI).mono ?_
    rintro e w2 ⟨rfl, b2⟩
    rw [HS.out]
    have hc2 := New.cells b2; have hf2 := New.marks b2; have hz2 := New.le b2; try simp only [World.size_alloc, World.size_setCell] at hz2
    try have z2_0_0 : w.heap.size < w2.heap.size := by omega
    try have z2_0_1 : w.heap.size + 1 < w2.heap.size := by omega
    try have z2_0_2 : w.heap.size + 2 < w2.heap.size := by omega
    try have z2_1_0 : w1.heap.size < w2.heap.size := by omega
    try have z2_1_1 : w1.heap.size + 1 < w2.heap.size := by omega
    try have z2_1_2 : w1.heap.size + 2 < w2.heap.size := by omega
    have I2 := hI.new b2
    go_wp2_with fail
    refine (totalWeight_spec _ k c' hs _ HK.out (by omega) I2).mono ?_
    rintro e w3 ⟨rfl, b3⟩
    rw [HS.out]
    have hc3 := New.cells b3; have hf3 := New.marks b3; have hz3 := New.le b3; try simp only [World.size_alloc, World.size_setCell] at hz3
    try have z3_0_0 : w.heap.size < w3.heap.size := by omega
    try have z3_0_1 : w.heap.size + 1 < w3.heap.size := by omega
    try have z3_0_2 : w.heap.size + 2 < w3.heap.size := by omega
    try have z3_1_0 : w1.heap.size < w3.heap.size := by omega
    try have z3_1_1 : w1.heap.size + 1 < w3.heap.size := by omega
    try have z3_1_2 : w1.heap.size + 2 < w3.heap.size := by omega
    try have z3_2_0 : w2.heap.size < w3.heap.size := by omega
    try have z3_2_1 : w2.heap.size + 1 < w3.heap.size := by omega
    try have z3_2_2 : w2.heap.size + 2 < w3.heap.size := by omega
    have I3 := I2.new b3
    go_wp2_with fail
    refine (poolValid_impl _ k c' hs _ HK.out hml I3).mono ?_
    rintro e w4 ⟨rfl, b4⟩
    rw [hP]
    have hc4 := New.cells b4; have hf4 := New.marks b4; have hz4 := New.le b4; try simp only [World.size_alloc, World.size_setCell] at hz4
    try have z4_0_0 : w.heap.size < w4.heap.size := by omega
    try have z4_0_1 : w.heap.size + 1 < w4.heap.size := by omega
    try have z4_0_2 : w.heap.size + 2 < w4.heap.size := by omega
    try have z4_1_0 : w1.heap.size < w4.heap.size := by omega
    try have z4_1_1 : w1.heap.size + 1 < w4.heap.size := by omega
    try have z4_1_2 : w1.heap.size + 2 < w4.heap.size := by omega
    try have z4_2_0 : w2.heap.size < w4.heap.size := by omega
    try have z4_2_1 : w2.heap.size + 1 < w4.heap.size := by omega
    try have z4_2_2 : w2.heap.size + 2 < w4.heap.size := by omega
    try have z4_3_0 : w3.heap.size < w4.heap.size := by omega
    try have z4_3_1 : w3.heap.size + 1 < w4.heap.size := by omega
    try have z4_3_2 : w3.heap.size + 2 < w4.heap.size := by omega
    have HI4 := Lib.hid (I3.new b4)
    clear I2 I3 hI
    go_wp2_with fail
    rw [HH.out]
    clear hc2 hf2 hc3 hf3 hc4 hf4
    obtain ⟨FF, hFF⟩ : ∃ FF, FF = factAt [pVal (.slice (some ⟨g, 0, none⟩) k c'), pVal (.int .i64 (h : Int)), pVal (.slice (some ⟨g, 0, none⟩) h c'), pVal (.int .i64 S1), pVal (.slice (some ⟨g, 0, none⟩) k c'), pVal (.int .i64 (h : Int)), pRow (k - h) (flat (hs.drop h)), pVal (.int .i64 S2), pVal (.int .i64 S), pVal (.int .i64 S), pVal (.bool true), pVal (.bool true), pVal (.int .i64 S), pVal (.slice (some ⟨g, 0, none⟩) k c'), pRow m us, pVal (.int .i64 m), pVal (.bool true), pVal (.bool true), pVal (.bool true)] := ⟨_, rfl⟩
    have HFF := Lib.hid hFF
    clear hFF
    refine wp_region_tail 19 (by kernel_rfl) (by kernel_rfl) (by kernel_rfl) (by decide) (LrI w4) FF New (by rw [HFF.out]; exact factAt_keptN (by
        intro P hP
        simp only [List.mem_cons, List.not_mem_nil, or_false] at hP
        rcases hP with rfl | rfl | rfl | rfl | rfl | rfl | rfl | rfl | rfl | rfl | rfl | rfl | rfl | rfl | rfl | rfl | rfl | rfl | rfl
        · exact keptN_val _
        · exact keptN_val _
        · exact keptN_val _
        · exact keptN_val _
        · exact keptN_val _
        · exact keptN_val _
        · exact keptN_row _ _
        · exact keptN_val _
        · exact keptN_val _
        · exact keptN_val _
        · exact keptN_val _
        · exact keptN_val _
        · exact keptN_val _
        · exact keptN_val _
        · exact keptN_row _ _
        · exact keptN_val _
        · exact keptN_val _
        · exact keptN_val _
        · exact keptN_val _
        )) (New.drew (New.refl _)) ?_ ?_
    · refine ⟨?_, ?_, ?_, ?_, ?_, ?_, ?_, ?_, ?_, ?_, ?_, ?_, ?_, ?_, ?_, ?_, ?_, ?_, ?_, trivial⟩
      · -- 0: Op.move t3
        intro vs kq wq hI hF
        have hI : New w4 wq := hI
        clear hF
        simp only [fillTo, dstOf, List.getElem?_toArray, List.getElem?_cons_zero, List.getElem?_cons_succ, Option.bind_some, Act.put, List.setIfInBounds_toArray, List.set_cons_zero, List.set_cons_succ]
        go_wp2_with fail
        exact ⟨_, rfl, hI, New.refl _, by rw [HFF.out]; exact rfl⟩
      · -- 1: Op.move t5
        intro vs kq wq hI hF
        have hI : New w4 wq := hI
        clear hF
        simp only [fillTo, dstOf, List.getElem?_toArray, List.getElem?_cons_zero, List.getElem?_cons_succ, Option.bind_some, Act.put, List.setIfInBounds_toArray, List.set_cons_zero, List.set_cons_succ]
        go_wp2_with fail
        exact ⟨_, rfl, hI, New.refl _, by rw [HFF.out]; exact rfl⟩
      · -- 2: Op.slice 33 t28 none (some t29) none
        intro vs kq wq hI hF
        have hI : New w4 wq := hI
        have f0 : pVal (.slice (some ⟨g, 0, none⟩) k c') (vs 0) wq := (by have h := hF 0 (by rfl); rw [HFF.out] at h; exact h)
        unfold pVal at f0
        have f1 : pVal (.int .i64 (h : Int)) (vs 1) wq := (by have h := hF 1 (by rfl); rw [HFF.out] at h; exact h)
        unfold pVal at f1
        clear hF
        simp only [fillTo, dstOf, List.getElem?_toArray, List.getElem?_cons_zero, List.getElem?_cons_succ, Option.bind_some, Act.put, List.setIfInBounds_toArray, List.set_cons_zero, List.set_cons_succ, f0, f1]
        clear f0 f1
        go_wp2_with fail
        exact ⟨_, rfl, hI, New.refl _, by rw [HFF.out]; exact rfl⟩
      · -- 3: Op.call { value (Operand.func 20), args := #[t30], argTypes 
        intro vs kq wq hI hF
        have hI : New w4 wq := hI
        have f2 : pVal (.slice (some ⟨g, 0, none⟩) h c') (vs 2) wq := (by have h := hF 2 (by rfl); rw [HFF.out] at h; exact h)
        unfold pVal at f2
        clear hF
        simp only [fillTo, dstOf, List.getElem?_toArray, List.getElem?_cons_zero, List.getElem?_cons_succ, Option.bind_some, Act.put, List.setIfInBounds_toArray, List.set_cons_zero, List.set_cons_succ, f2]
        clear f2
        go_wp2_with fail
        refine (totalWeight_impl (some ⟨g, 0, none⟩) h c' (hs.take h) _ (by rw [List.length_take, HK.out]; omega) (by omega) (hosts_take (HI4.out.new hI) h)).mono ?_
        rintro e w' ⟨rfl, hb⟩
        rw [HS1.out]
        go_wp2_with fail
        exact ⟨_, rfl, New.trans hI hb, hb, by rw [HFF.out]; exact rfl⟩
      · -- 4: Op.move t3
        intro vs kq wq hI hF
        have hI : New w4 wq := hI
        clear hF
        simp only [fillTo, dstOf, List.getElem?_toArray, List.getElem?_cons_zero, List.getElem?_cons_succ, Option.bind_some, Act.put, List.setIfInBounds_toArray, List.set_cons_zero, List.set_cons_succ]
        go_wp2_with fail
        exact ⟨_, rfl, hI, New.refl _, by rw [HFF.out]; exact rfl⟩
      · -- 5: Op.move t5
        intro vs kq wq hI hF
        have hI : New w4 wq := hI
        clear hF
        simp only [fillTo, dstOf, List.getElem?_toArray, List.getElem?_cons_zero, List.getElem?_cons_succ, Option.bind_some, Act.put, List.setIfInBounds_toArray, List.set_cons_zero, List.set_cons_succ]
        go_wp2_with fail
        exact ⟨_, rfl, hI, New.refl _, by rw [HFF.out]; exact rfl⟩
      · -- 6: Op.slice 33 t32 (some t33) none none
        intro vs kq wq hI hF
        have hI : New w4 wq := hI
        have f4 : pVal (.slice (some ⟨g, 0, none⟩) k c') (vs 4) wq := (by have h := hF 4 (by rfl); rw [HFF.out] at h; exact h)
        unfold pVal at f4
        have f5 : pVal (.int .i64 (h : Int)) (vs 5) wq := (by have h := hF 5 (by rfl); rw [HFF.out] at h; exact h)
        unfold pVal at f5
        clear hF
        simp only [fillTo, dstOf, List.getElem?_toArray, List.getElem?_cons_zero, List.getElem?_cons_succ, Option.bind_some, Act.put, List.setIfInBounds_toArray, List.set_cons_zero, List.set_cons_succ, f4, f5]
        clear f4 f5
        go_wp2_with fail
        exact ⟨_, rfl, hI, New.refl _, by rw [HFF.out]; exact ⟨_, _, rfl, by omega, Nat.le_trans (Nat.sub_le _ _) cm, hosts_drop (HI4.out.new hI) h⟩⟩
      · -- 7: Op.call { value (Operand.func 20), args := #[t34], argTypes 
        intro vs kq wq hI hF
        have hI : New w4 wq := hI
        have f6 : pRow (k - h) (flat (hs.drop h)) (vs 6) wq := (by have h := hF 6 (by rfl); rw [HFF.out] at h; exact h)
        refine Shut.out ?_
        obtain ⟨A6, c6, f6, nc6, cm6, I6⟩ := f6
        refine Shut.mk ?_
        clear hF
        simp only [fillTo, dstOf, List.getElem?_toArray, List.getElem?_cons_zero, List.getElem?_cons_succ, Option.bind_some, Act.put, List.setIfInBounds_toArray, List.set_cons_zero, List.set_cons_succ, f6]
        clear f6
        go_wp2_with fail
        refine (totalWeight_impl _ (k - h) _ (hs.drop h) _ (by rw [List.length_drop, HK.out]) (by omega) I6).mono ?_
        rintro e w' ⟨rfl, hb⟩
        rw [HS2.out]
        go_wp2_with fail
        exact ⟨_, rfl, New.trans hI hb, hb, by rw [HFF.out]; exact rfl⟩
      · -- 8: Op.binOp BinOp.add 3 t31 t35 3
        intro vs kq wq hI hF
        have hI : New w4 wq := hI
        have f3 : pVal (.int .i64 S1) (vs 3) wq := (by have h := hF 3 (by rfl); rw [HFF.out] at h; exact h)
        unfold pVal at f3
        have f7 : pVal (.int .i64 S2) (vs 7) wq := (by have h := hF 7 (by rfl); rw [HFF.out] at h; exact h)
        unfold pVal at f7
        clear hF
        simp only [fillTo, dstOf, List.getElem?_toArray, List.getElem?_cons_zero, List.getElem?_cons_succ, Option.bind_some, Act.put, List.setIfInBounds_toArray, List.set_cons_zero, List.set_cons_succ, f3, f7]
        clear f3 f7
        go_wp2_with fail
        exact ⟨_, rfl, hI, New.refl _, by rw [HFF.out]; exact rfl⟩
      · -- 9: Op.move t4
        intro vs kq wq hI hF
        have hI : New w4 wq := hI
        clear hF
        simp only [fillTo, dstOf, List.getElem?_toArray, List.getElem?_cons_zero, List.getElem?_cons_succ, Option.bind_some, Act.put, List.setIfInBounds_toArray, List.set_cons_zero, List.set_cons_succ]
        go_wp2_with fail
        exact ⟨_, rfl, hI, New.refl _, by rw [HFF.out]; exact rfl⟩
      · -- 10: Op.binOp BinOp.eql 3 t36 t37 3
        intro vs kq wq hI hF
        have hI : New w4 wq := hI
        have f8 : pVal (.int .i64 S) (vs 8) wq := (by have h := hF 8 (by rfl); rw [HFF.out] at h; exact h)
        unfold pVal at f8
        have f9 : pVal (.int .i64 S) (vs 9) wq := (by have h := hF 9 (by rfl); rw [HFF.out] at h; exact h)
        unfold pVal at f9
        clear hF
        simp only [fillTo, dstOf, List.getElem?_toArray, List.getElem?_cons_zero, List.getElem?_cons_succ, Option.bind_some, Act.put, List.setIfInBounds_toArray, List.set_cons_zero, List.set_cons_succ, f8, f9]
        clear f8 f9
        go_wp2_with fail
        exact ⟨_, rfl, hI, New.refl _, by rw [HFF.out]; exact rfl⟩
      · -- 11: Op.move t38
        intro vs kq wq hI hF
        have hI : New w4 wq := hI
        have f10 : pVal (.bool true) (vs 10) wq := (by have h := hF 10 (by rfl); rw [HFF.out] at h; exact h)
        unfold pVal at f10
        clear hF
        simp only [fillTo, dstOf, List.getElem?_toArray, List.getElem?_cons_zero, List.getElem?_cons_succ, Option.bind_some, Act.put, List.setIfInBounds_toArray, List.set_cons_zero, List.set_cons_succ, f10]
        clear f10
        go_wp2_with fail
        exact ⟨_, rfl, hI, New.refl _, by rw [HFF.out]; exact rfl⟩
      · -- 12: Op.move t4   [guarded: some (11, true)]
        intro vs kq wq hI hF
        have hI : New w4 wq := hI
        have f11 : pVal (.bool true) (vs 11) wq := (by have h := hF 11 (by rfl); rw [HFF.out] at h; exact h)
        unfold pVal at f11
        clear hF
        simp only [fillTo, dstOf, List.getElem?_toArray, List.getElem?_cons_zero, List.getElem?_cons_succ, Option.bind_some, Act.put, List.setIfInBounds_toArray, List.set_cons_zero, List.set_cons_succ, f11]
        clear f11
        go_wp2_with fail
        exact ⟨_, rfl, hI, New.refl _, by rw [HFF.out]; exact rfl⟩
      · -- 13: Op.move t3   [guarded: some (11, true)]
        intro vs kq wq hI hF
        have hI : New w4 wq := hI
        have f11 : pVal (.bool true) (vs 11) wq := (by have h := hF 11 (by rfl); rw [HFF.out] at h; exact h)
        unfold pVal at f11
        clear hF
        simp only [fillTo, dstOf, List.getElem?_toArray, List.getElem?_cons_zero, List.getElem?_cons_succ, Option.bind_some, Act.put, List.setIfInBounds_toArray, List.set_cons_zero, List.set_cons_succ, f11]
        clear f11
        go_wp2_with fail
        exact ⟨_, rfl, hI, New.refl _, by rw [HFF.out]; exact rfl⟩
      · -- 14: Op.call { value (Operand.func 23), args := #[t41], argTypes 
        intro vs kq wq hI hF
        have hI : New w4 wq := hI
        have f13 : pVal (.slice (some ⟨g, 0, none⟩) k c') (vs 13) wq := (by have h := hF 13 (by rfl); rw [HFF.out] at h; exact h)
        unfold pVal at f13
        have f11 : pVal (.bool true) (vs 11) wq := (by have h := hF 11 (by rfl); rw [HFF.out] at h; exact h)
        unfold pVal at f11
        clear hF
        simp only [fillTo, dstOf, List.getElem?_toArray, List.getElem?_cons_zero, List.getElem?_cons_succ, Option.bind_some, Act.put, List.setIfInBounds_toArray, List.set_cons_zero, List.set_cons_succ, f13, f11]
        clear f13 f11
        go_wp2_with fail
        refine (HU.out _ (HI4.out.new hI)).mono ?_
        rintro e w' ⟨A14, c14, rfl, nc14, cm14, o14, hb⟩
        go_wp2_with fail
        exact ⟨_, rfl, New.trans hI hb, hb, by rw [HFF.out]; exact ⟨_, _, rfl, nc14, cm14, o14.ints⟩⟩
      · -- 15: Op.call { builtin len, args := #[t42], argTypes := #[30] }  
        intro vs kq wq hI hF
        have hI : New w4 wq := hI
        have f14 : pRow m us (vs 14) wq := (by have h := hF 14 (by rfl); rw [HFF.out] at h; exact h)
        refine Shut.out ?_
        obtain ⟨A14, c14, f14, nc14, cm14, I14⟩ := f14
        refine Shut.mk ?_
        have f11 : pVal (.bool true) (vs 11) wq := (by have h := hF 11 (by rfl); rw [HFF.out] at h; exact h)
        unfold pVal at f11
        clear hF
        simp only [fillTo, dstOf, List.getElem?_toArray, List.getElem?_cons_zero, List.getElem?_cons_succ, Option.bind_some, Act.put, List.setIfInBounds_toArray, List.set_cons_zero, List.set_cons_succ, f14, f11]
        clear f14 f11
        go_wp2_with fail
        exact ⟨_, rfl, hI, New.refl _, by rw [HFF.out]; exact rfl⟩
      · -- 16: Op.binOp BinOp.geq 3 t40 t43 3   [guarded: some (11, true)]
        intro vs kq wq hI hF
        have hI : New w4 wq := hI
        have f12 : pVal (.int .i64 S) (vs 12) wq := (by have h := hF 12 (by rfl); rw [HFF.out] at h; exact h)
        unfold pVal at f12
        have f15 : pVal (.int .i64 m) (vs 15) wq := (by have h := hF 15 (by rfl); rw [HFF.out] at h; exact h)
        unfold pVal at f15
        have f11 : pVal (.bool true) (vs 11) wq := (by have h := hF 11 (by rfl); rw [HFF.out] at h; exact h)
        unfold pVal at f11
        clear hF
        simp only [fillTo, dstOf, List.getElem?_toArray, List.getElem?_cons_zero, List.getElem?_cons_succ, Option.bind_some, Act.put, List.setIfInBounds_toArray, List.set_cons_zero, List.set_cons_succ, f12, f15, f11]
        clear f12 f15 f11
        go_wp2_with fail
        exact ⟨_, rfl, hI, New.refl _, by rw [HFF.out]; exact rfl⟩
      · -- 17: Op.pick t39 t44 (const (Value.bool false))
        intro vs kq wq hI hF
        have hI : New w4 wq := hI
        have f11 : pVal (.bool true) (vs 11) wq := (by have h := hF 11 (by rfl); rw [HFF.out] at h; exact h)
        unfold pVal at f11
        have f16 : pVal (.bool true) (vs 16) wq := (by have h := hF 16 (by rfl); rw [HFF.out] at h; exact h)
        unfold pVal at f16
        clear hF
        simp only [fillTo, dstOf, List.getElem?_toArray, List.getElem?_cons_zero, List.getElem?_cons_succ, Option.bind_some, Act.put, List.setIfInBounds_toArray, List.set_cons_zero, List.set_cons_succ, f11, f16]
        clear f11 f16
        go_wp2_with fail
        exact ⟨_, rfl, hI, New.refl _, by rw [HFF.out]; exact rfl⟩
      · -- 18: Op.assign t45
        intro vs kq wq hI hF
        have hI : New w4 wq := hI
        have f17 : pVal (.bool true) (vs 17) wq := (by have h := hF 17 (by rfl); rw [HFF.out] at h; exact h)
        unfold pVal at f17
        clear hF
        simp only [fillTo, dstOf, List.getElem?_toArray, List.getElem?_cons_zero, List.getElem?_cons_succ, Option.bind_some, Act.put, List.setIfInBounds_toArray, List.set_cons_zero, List.set_cons_succ, f17]
        clear f17
        go_wp2_with fail
        exact ⟨_, rfl, hI, New.refl _, by rw [HFF.out]; exact rfl⟩
    · intro vs kq w5 hI hF
      have f18 : pVal (.bool true) (vs 18) w5 := (by have h := hF 18 (by omega); rw [HFF.out] at h; exact h)
      unfold pVal at f18
      have hI : New w4 w5 := hI
      clear hF
      simp only [fillTo, dstOf, List.getElem?_toArray, List.getElem?_cons_zero, List.getElem?_cons_succ, Option.bind_some, Act.put, List.setIfInBounds_toArray, List.set_cons_zero, List.set_cons_succ, List.drop_succ_cons, List.drop_zero, f18]
      go_wp2_with fail
      go_ret
      exact ⟨rfl, (by repeat (first | with_reducible assumption | with_reducible exact New.refl _ | with_reducible refine New.alloc ?_ _ | with_reducible refine New.drew ?_ | with_reducible refine New.drewN ?_ _ | refine New.setCell ?_ (by first | (simp; done) | omega | (simp; omega)) _ | with_reducible refine New.trans ?_ (by with_reducible assumption)))⟩
end Go.Proofs.Ytgheimmhicpefaa
