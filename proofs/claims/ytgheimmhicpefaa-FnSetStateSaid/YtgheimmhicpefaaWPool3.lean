/- Laws on drawn pools: FnHostsUp, FnSetState. -/
import Derived.Test.YtgheimmhicpefaaWPool2
namespace Go.Proofs.Ytgheimmhicpefaa
set_option linter.unusedVariables false
set_option linter.unusedSimpArgs false
open Go.RowKit Go.Sort

set_option maxRecDepth 100000 in
set_option maxHeartbeats 600000 in
theorem walk_FnHostsUp (A : Option Addr) (n c : Nat) (zs : List Int) (w : World) (H : ArgInts .u8 w A n c 1 zs) :
    Calls Try.prog 7 #[.slice A n c] w fun e w' => e = .returned (.bool true) ∧ New w w' := by
  have hc := CodeArg.of H
  have hm := hc.2.1
  unfold maxLen at hm
  clear H
  have hgr := gr_cells
  by_cases hbig : 1048576 < n
  · go_enter Try.func7, Try.ntmps7
    go_wp2_with fail
    go_ret
    exact ⟨rfl, (by repeat (first | with_reducible assumption | with_reducible exact New.refl _ | with_reducible refine New.alloc ?_ _ | with_reducible refine New.drew ?_ | with_reducible refine New.drewN ?_ _ | refine New.setCell ?_ (by first | (simp; done) | omega | (simp; omega)) _ | with_reducible refine New.trans ?_ (by with_reducible assumption)))⟩
  go_enter Try.func7, Try.ntmps7
  go_wp2_with fail
  refine (DrawHostsUp_any A n c zs _ hc).mono ?_
  rintro e w1 ⟨A', c', hs, rfl, l7, lc, cm, hpl, hI, b1⟩
  obtain ⟨K, hK⟩ : ∃ K, hs.length = K := ⟨_, rfl⟩
  rw [hK] at l7 lc ⊢
  have HK := Lib.hid hK
  have hml : K ≤ maxLen := by unfold maxLen; omega
  obtain ⟨us, hus⟩ : ∃ us, us = upNums hs := ⟨_, rfl⟩
  obtain ⟨m, hm2⟩ : ∃ m, us.length = m := ⟨_, rfl⟩
  have hul := upNums_len hs
  rw [← hus, hm2, hK] at hul
  obtain ⟨hm6, hmK⟩ := hul
  have hmml : m ≤ maxLen := by unfold maxLen; omega
  have HM := Lib.hid hm2
  have IM : Hid (∀ w, Ints w A' (flat hs) → Calls Try.prog 23 #[.slice A' K c'] w (RetRow 3 1 w m us)) := Lib.hid fun w h => by
    rw [← hm2, hus]; exact hostsUp_impl _ K c' hs w hK (by omega) h
  have SP : Hid (∀ w, Ints w A' (flat hs) → Calls Try.prog 29 #[.slice A' K c'] w (RetRow 3 1 w m us)) := Lib.hid fun w h => by
    rw [← hm2, hus]; exact hostsUp_spec _ K c' hs w hK (by omega) h
  have HU := Lib.hid hus
  clear hus hm2 hK hc hpl
  go_wp2_with fail
  refine (IM.out _ hI).mono ?_
  rintro e w2 ⟨A2, c2, rfl, nc2, cm2, o2, b2⟩
  have B2 := b1.trans b2
  have I2 := hI.new b2
  go_wp2_with fail
  refine (SP.out _ I2).mono ?_
  rintro e w3 ⟨A3, c3, rfl, nc3, cm3, o3, b3⟩
  have B3 := B2.trans b3
  have I3 := I2.new b3
  go_wp2_with fail
  refine (sameInts_any A2 A3 m c2 m c3 us us _ HM.out HM.out hmml hmml (o2.ints.new b3) o3.ints).mono ?_
  rintro e w4 ⟨rfl, b4⟩
  simp only [decide_true]
  have B4 := B3.trans b4
  have I4 := I3.new b4
  have X4 := (o2.ints.new b3).new b4
  clear o2 o3 hI I2 I3 b1 b2 b3 b4 B2 B3
  go_wp2_with fail
  go_loopw [5] (fun i wr => ∃ k : Nat, k ≤ m ∧ i = .int .i64 k ∧ New w4 wr) (fun i _ => m - (intOf i).toNat)
  case atStart => exact ⟨0, Nat.zero_le _, rfl, New.refl _⟩
  case round =>
    obtain ⟨k, hk, rfl, hnew⟩ := hrel
    have Xr := X4.new hnew
    have Ir := I4.new hnew
    by_cases hlt : k < m
    · obtain ⟨b, o, z, rfl, hz, hb, c0⟩ := Xr.elem (k := k) (by rw [HM.out]; exact hlt)
      have HZ := Lib.hid (show stateZ hs z = 1 by rw [HU.out] at hz; exact upNums_state hz)
      have hki : (k : Int) < (m : Int) := by omega
      by_cases hk0 : k = 0
      · subst hk0
        simp only [Nat.add_zero] at c0
        clear hz
        go_wp2_with fail
        refine wp_region_qb (by kernel_rfl) (by kernel_rfl) ?_
        repeat (go_big_quiet_step ((exact gr_call ((hostState_impl A' K c' hs z _ HK.out hml (Ir.new (gr_new _ _ _))).mono fun _ _ h => by rw [HZ.out] at h; exact h))))
        with_reducible refine wpQuiet_nil ?_
        intro w5 b5
        have hc5 := New.cells b5; have hf5 := New.marks b5; have hz5 := New.le b5; try simp only [World.size_alloc, World.size_setCell] at hz5
        try have z5_0_0 : w.heap.size < w5.heap.size := by omega
        try have z5_0_1 : w.heap.size + 1 < w5.heap.size := by omega
        try have z5_0_2 : w.heap.size + 2 < w5.heap.size := by omega
        try have z5_1_0 : w1.heap.size < w5.heap.size := by omega
        try have z5_1_1 : w1.heap.size + 1 < w5.heap.size := by omega
        try have z5_1_2 : w1.heap.size + 2 < w5.heap.size := by omega
        try have z5_2_0 : w2.heap.size < w5.heap.size := by omega
        try have z5_2_1 : w2.heap.size + 1 < w5.heap.size := by omega
        try have z5_2_2 : w2.heap.size + 2 < w5.heap.size := by omega
        try have z5_3_0 : w3.heap.size < w5.heap.size := by omega
        try have z5_3_1 : w3.heap.size + 1 < w5.heap.size := by omega
        try have z5_3_2 : w3.heap.size + 2 < w5.heap.size := by omega
        try have z5_4_0 : w4.heap.size < w5.heap.size := by omega
        try have z5_4_1 : w4.heap.size + 1 < w5.heap.size := by omega
        try have z5_4_2 : w4.heap.size + 2 < w5.heap.size := by omega
        go_wp2_with fail
        go_roundw
        case rel => exact ⟨1, by omega, by go_num, hnew.trans b5⟩
        case measure => simp [intOf]; omega
      · have hkp : 0 < k := by omega
        obtain ⟨b', o', y, hA', hy, hb', d0⟩ := Xr.elem (k := k - 1) (by rw [HM.out]; omega)
        obtain ⟨rfl, rfl⟩ : b = b' ∧ o = o' := by simpa using hA'
        have hyz : y < z := by rw [HU.out] at hy hz; exact upNums_asc hkp hy hz
        have hle : decide (z ≤ y) = false := by simp; omega
        have hd : decide ((0 : Int) < (k : Int)) = true := by simp; omega
        clear hz hy hA' hyz
        go_wp2_with fail
        refine wp_region_qb (by kernel_rfl) (by kernel_rfl) ?_
        repeat (go_big_quiet_step ((exact gr_call ((hostState_impl A' K c' hs z _ HK.out hml (Ir.new (gr_new _ _ _))).mono fun _ _ h => by rw [HZ.out] at h; exact h))))
        with_reducible refine wpQuiet_nil ?_
        intro w5 b5
        have hc5 := New.cells b5; have hf5 := New.marks b5; have hz5 := New.le b5; try simp only [World.size_alloc, World.size_setCell] at hz5
        try have z5_0_0 : w.heap.size < w5.heap.size := by omega
        try have z5_0_1 : w.heap.size + 1 < w5.heap.size := by omega
        try have z5_0_2 : w.heap.size + 2 < w5.heap.size := by omega
        try have z5_1_0 : w1.heap.size < w5.heap.size := by omega
        try have z5_1_1 : w1.heap.size + 1 < w5.heap.size := by omega
        try have z5_1_2 : w1.heap.size + 2 < w5.heap.size := by omega
        try have z5_2_0 : w2.heap.size < w5.heap.size := by omega
        try have z5_2_1 : w2.heap.size + 1 < w5.heap.size := by omega
        try have z5_2_2 : w2.heap.size + 2 < w5.heap.size := by omega
        try have z5_3_0 : w3.heap.size < w5.heap.size := by omega
        try have z5_3_1 : w3.heap.size + 1 < w5.heap.size := by omega
        try have z5_3_2 : w3.heap.size + 2 < w5.heap.size := by omega
        try have z5_4_0 : w4.heap.size < w5.heap.size := by omega
        try have z5_4_1 : w4.heap.size + 1 < w5.heap.size := by omega
        try have z5_4_2 : w4.heap.size + 2 < w5.heap.size := by omega
        go_wp2_with fail
        go_roundw
        case rel => exact ⟨k + 1, by omega, by go_num, hnew.trans b5⟩
        case measure => simp [intOf]; omega
    · obtain rfl : k = m := by omega
      have B5 := B4.trans hnew
      go_wp2_with fail
      refine (alive_any _).mono ?_
      rintro e w5 ⟨rfl, b5⟩
      go_wp2_with fail
      go_ret
      exact ⟨rfl, B5.trans b5⟩
set_option maxRecDepth 100000 in
set_option maxHeartbeats 600000 in
theorem walk_FnSetState (A : Option Addr) (n c : Nat) (zs : List Int) (w : World) (H : ArgInts .u8 w A n c 1 zs) :
    Calls Try.prog 8 #[.slice A n c] w fun e w' => e = .returned (.bool true) ∧ New w w' := by
  have hc := CodeArg.of H
  have hm := hc.2.1
  unfold maxLen at hm
  clear H
  have hgr := gr_cells
  by_cases hbig : 1048576 < n
  · go_enter Try.func8, Try.ntmps8
    go_wp2_with fail
    go_ret
    exact ⟨rfl, (by repeat (first | with_reducible assumption | with_reducible exact New.refl _ | with_reducible refine New.alloc ?_ _ | with_reducible refine New.drew ?_ | with_reducible refine New.drewN ?_ _ | refine New.setCell ?_ (by first | (simp; done) | omega | (simp; omega)) _ | with_reducible refine New.trans ?_ (by with_reducible assumption)))⟩
  go_enter Try.func8, Try.ntmps8
  go_wp2_with fail
  refine (DrawSetState_any A n c zs _ hc).mono ?_
  rintro e w1 ⟨A', c', hs, N, st, rfl, l7, lc, cm, hpl, hI, b1⟩
  obtain ⟨K, hK⟩ : ∃ K, hs.length = K := ⟨_, rfl⟩
  rw [hK] at l7 lc ⊢
  have HK := Lib.hid hK
  have hml : K ≤ maxLen := by unfold maxLen; omega
  obtain ⟨us, hus⟩ : ∃ us, us = setH hs N st := ⟨_, rfl⟩
  obtain ⟨m, hm2⟩ : ∃ m, us.length = m := ⟨_, rfl⟩
  obtain ⟨bb, hbb⟩ : ∃ bb, bb = okS hs N st := ⟨_, rfl⟩
  have hul := setH_len hs N st
  rw [← hus, hm2] at hul
  have hmml : m ≤ maxLen := by unfold maxLen; omega
  have HM := Lib.hid hm2
  have IM : Hid (∀ w, Ints w A' (flat hs) → Calls Try.prog 32 #[.slice A' K c', .int .i64 N, .int .i64 st] w (RetHB w m us bb)) := Lib.hid fun w h => by
    rw [← hm2, hus, hbb]; exact setState_impl _ K c' hs N st w hK (by omega) h
  have SP : Hid (∀ w, Ints w A' (flat hs) → Calls Try.prog 33 #[.slice A' K c', .int .i64 N, .int .i64 st] w (RetHB w m us bb)) := Lib.hid fun w h => by
    rw [← hm2, hus, hbb]; exact setState_spec _ K c' hs N st w hK (by omega) h
  have HU := Lib.hid hus
  have HB := Lib.hid hbb
  clear hus hm2 hK hc hpl hbb
  go_wp2_with fail
  refine (IM.out _ hI).mono ?_
  rintro e w2 ⟨A2, c2, rfl, nc2, cm2, o2, b2⟩
  have B2 := b1.trans b2
  have I2 := hI.new b2
  go_wp2_with fail
  refine (SP.out _ I2).mono ?_
  rintro e w3 ⟨A3, c3, rfl, nc3, cm3, o3, b3⟩
  have B3 := B2.trans b3
  have I3 := I2.new b3
  have X3 := o2.ints.new b3
  have Y3 := o3.ints
  clear o2 o3 hI I2 b1 b2 b3 B2
  cases bb
  · have hz : us = [] := by rw [HU.out]; exact setH_no HB.out.symm
    have hmz : m = 0 := by rw [← HM.out, hz]; rfl
    subst hmz
    go_wp2_with fail
    refine (samePool_same A2 A3 0 c2 c3 us _ HM.out hmml X3 Y3).mono ?_
    rintro e w4 ⟨rfl, b4⟩
    have B4 := B3.trans b4
    go_wp2_with fail
    refine (alive_any _).mono ?_
    rintro e w5 ⟨rfl, b5⟩
    go_wp2_with fail
    go_ret
    exact ⟨rfl, B4.trans b5⟩
  · have hok : okS hs N st = true := HB.out.symm
    have hmK : m = K := by rw [← HM.out, HU.out, setH_length hok, HK.out]
    subst hmK
    have hself := setH_self hok
    rw [← HU.out] at hself
    have HS := Lib.hid hself
    have hpool := setH_pool hok
    rw [← HU.out] at hpool
    have HP := Lib.hid hpool
    have hother : ∀ (i : Nat) (x : Hst), hs[i]? = some x → x.num ≠ N → stateZ us x.num = x.st := fun i x hx hN => by rw [HU.out]; exact setH_other hok hx hN
    have HO := Lib.hid hother
    clear hself hpool hother hok
    go_wp2_with fail
    refine (samePool_same A2 A3 m c2 c3 us _ HM.out hmml X3 Y3).mono ?_
    rintro e w4 ⟨rfl, b4⟩
    have B4 := B3.trans b4
    have I4 := I3.new b4
    have X4 := X3.new b4
    clear I3 X3 Y3 B3 b4
    go_wp2_with fail
    go_loopw [10] (fun i wr => ∃ k : Nat, k ≤ m ∧ i = .int .i64 k ∧ New w4 wr) (fun i _ => m - (intOf i).toNat)
    case atStart => exact ⟨0, Nat.zero_le _, rfl, New.refl _⟩
    case round =>
      obtain ⟨k, hk, rfl, hnew⟩ := hrel
      have Xr := X4.new hnew
      have Ir := I4.new hnew
      by_cases hlt : k < m
      · obtain ⟨b, o, x, rfl, hx, hb, c0, c1, c2'⟩ := hosts_at Ir (k := k) (by rw [HK.out]; exact hlt)
        have hki : (k : Int) < (m : Int) := by omega
        have HX := Lib.hid hx
        clear hx
        obtain ⟨x0, x1, x2⟩ := x
        simp only at c0 c1 c2'
        by_cases hN : x0 = N
        · have hN' : (x0 == N) = true := by simpa using hN
          subst hN
          go_wp2_with fail
          refine wp_region_qb (by kernel_rfl) (by kernel_rfl) ?_
          repeat (go_big_quiet_step ((fail)))
          with_reducible refine wpQuiet_nil ?_
          intro w5 b5
          have hc5 := New.cells b5; have hf5 := New.marks b5; have hz5 := New.le b5; try simp only [World.size_alloc, World.size_setCell] at hz5
          try have z5_0_0 : w.heap.size < w5.heap.size := by omega
          try have z5_0_1 : w.heap.size + 1 < w5.heap.size := by omega
          try have z5_0_2 : w.heap.size + 2 < w5.heap.size := by omega
          try have z5_1_0 : w1.heap.size < w5.heap.size := by omega
          try have z5_1_1 : w1.heap.size + 1 < w5.heap.size := by omega
          try have z5_1_2 : w1.heap.size + 2 < w5.heap.size := by omega
          try have z5_2_0 : w2.heap.size < w5.heap.size := by omega
          try have z5_2_1 : w2.heap.size + 1 < w5.heap.size := by omega
          try have z5_2_2 : w2.heap.size + 2 < w5.heap.size := by omega
          try have z5_3_0 : w3.heap.size < w5.heap.size := by omega
          try have z5_3_1 : w3.heap.size + 1 < w5.heap.size := by omega
          try have z5_3_2 : w3.heap.size + 2 < w5.heap.size := by omega
          try have z5_4_0 : w4.heap.size < w5.heap.size := by omega
          try have z5_4_1 : w4.heap.size + 1 < w5.heap.size := by omega
          try have z5_4_2 : w4.heap.size + 2 < w5.heap.size := by omega
          go_wp2_with fail
          go_roundw
          case rel => exact ⟨k + 1, by omega, by go_num, hnew.trans b5⟩
          case measure => simp [intOf]; omega
        · have hN' : (x0 == N) = false := by simpa using hN
          have HZ := Lib.hid (HO.out k _ HX.out hN)
          have hN1 : decide (x0 = N) = false := by simpa using hN
          have hN2 : (x0 != N) = true := by simpa using hN
          go_wp2_with fail
          refine wp_region_qb (by kernel_rfl) (by kernel_rfl) ?_
          repeat (go_big_quiet_step ((exact gr_call ((hostState_impl A2 m c2 us x0 _ HM.out hml (Xr.new (gr_new _ _ _))).mono fun _ _ h => by rw [HZ.out] at h; exact h))))
          with_reducible refine wpQuiet_nil ?_
          intro w5 b5
          have hc5 := New.cells b5; have hf5 := New.marks b5; have hz5 := New.le b5; try simp only [World.size_alloc, World.size_setCell] at hz5
          try have z5_0_0 : w.heap.size < w5.heap.size := by omega
          try have z5_0_1 : w.heap.size + 1 < w5.heap.size := by omega
          try have z5_0_2 : w.heap.size + 2 < w5.heap.size := by omega
          try have z5_1_0 : w1.heap.size < w5.heap.size := by omega
          try have z5_1_1 : w1.heap.size + 1 < w5.heap.size := by omega
          try have z5_1_2 : w1.heap.size + 2 < w5.heap.size := by omega
          try have z5_2_0 : w2.heap.size < w5.heap.size := by omega
          try have z5_2_1 : w2.heap.size + 1 < w5.heap.size := by omega
          try have z5_2_2 : w2.heap.size + 2 < w5.heap.size := by omega
          try have z5_3_0 : w3.heap.size < w5.heap.size := by omega
          try have z5_3_1 : w3.heap.size + 1 < w5.heap.size := by omega
          try have z5_3_2 : w3.heap.size + 2 < w5.heap.size := by omega
          try have z5_4_0 : w4.heap.size < w5.heap.size := by omega
          try have z5_4_1 : w4.heap.size + 1 < w5.heap.size := by omega
          try have z5_4_2 : w4.heap.size + 2 < w5.heap.size := by omega
          go_wp2_with fail
          go_roundw
          case rel => exact ⟨k + 1, by omega, by go_num, hnew.trans b5⟩
          case measure => simp [intOf]; omega
      · obtain rfl : k = m := by omega
        have B5 := B4.trans hnew
        go_wp2_with fail
        refine (poolValid_impl A2 k c2 us _ HM.out hml Xr).mono ?_
        rintro e w5 ⟨rfl, b5⟩
        rw [HP.out]
        go_wp2_with fail
        refine (hostState_impl A2 k c2 us N _ HM.out hml (Xr.new b5)).mono ?_
        rintro e w6 ⟨rfl, b6⟩
        rw [HS.out]
        go_wp2_with fail
        go_ret
        exact ⟨rfl, (B5.trans b5).trans b6⟩
end Go.Proofs.Ytgheimmhicpefaa
