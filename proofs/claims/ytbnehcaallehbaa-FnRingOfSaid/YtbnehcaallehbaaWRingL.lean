/- The law FnRingOf. -/
import Derived.Test.YtbnehcaallehbaaRingI
import Derived.Test.YtbnehcaallehbaaWRing
import Derived.Test.YtbnehcaallehbaaPlain
namespace Go.Proofs.Ytbnehcaallehbaa
set_option linter.unusedVariables false
set_option linter.unusedSimpArgs false
open Go.RowKit Go.Sort

theorem ringP_tot (hs : List Hst) : ((ringP hs).length : Int) = 3 * totZ hs := by
  cases h : poolB hs
  · rw [ringP_no h, totZ_no h]; rfl
  · exact ringP_len h
theorem ringP_up {hs : List Hst} {p : Pnt} (h : p ∈ ringP hs) : stateZ hs p.to = 1 := by
  obtain ⟨hP, _, x, hx, e⟩ := ringP_mem h
  rw [e, stateZ_in hP (ups_mem hx)]
  exact ups_st hx
theorem ringP_asc {hs : List Hst} {j : Nat} {p q : Pnt} (hp : (ringP hs)[j]? = some p) (hq : (ringP hs)[j + 1]? = some q) : ¬ q.at_ < p.at_ := by
  obtain ⟨h1, rfl⟩ := List.getElem?_eq_some_iff.1 hp
  obtain ⟨h2, rfl⟩ := List.getElem?_eq_some_iff.1 hq
  have := List.pairwise_iff_getElem.1 (ringP_sorted hs) j (j + 1) h1 h2 (by omega)
  simp only [gtP, decide_eq_false_iff_not] at this
  omega
set_option maxRecDepth 100000 in
set_option maxHeartbeats 4000000 in
theorem walk_FnRingOf (A : Option Addr) (n c : Nat) (zs : List Int) (w : World) (H : ArgInts .u8 w A n c 1 zs) :
    Calls Try.prog 3 #[.slice A n c] w fun e w' => e = .returned (.bool true) ∧ New w w' := by
  have hc := CodeArg.of H
  have hm := hc.2.1
  have hgr := gr_cells
  unfold maxLen at hm
  clear H
  by_cases hbig : 1048576 < n
  · go_enter Try.func3, Try.ntmps3
    go_wp2_with fail
    go_ret
    exact ⟨rfl, (by repeat (first | with_reducible assumption | with_reducible exact New.refl _ | with_reducible refine New.alloc ?_ _ | with_reducible refine New.drew ?_ | with_reducible refine New.drewN ?_ _ | refine New.setCell ?_ (by first | (simp; done) | omega | (simp; omega)) _ | with_reducible refine New.trans ?_ (by with_reducible assumption)))⟩
  go_enter Try.func3, Try.ntmps3
  go_wp2_with fail
  refine (DrawRingOf_any A n c zs _ hc).mono ?_
  rintro e w1 ⟨A1, c1, hs, rfl, l7, lc1, cm1, _, hI, b1⟩
  obtain ⟨m, hmm⟩ : ∃ m, hs.length = m := ⟨_, rfl⟩
  rw [hmm] at l7 lc1 ⊢
  have HM := Lib.hid hmm
  have HI := Lib.hid hI
  have hml : m ≤ maxLen := by unfold maxLen; omega
  clear hmm hI hc
  have hps90 := ringP_short hs
  obtain ⟨M, hM⟩ : ∃ M, (ringP hs).length = M := ⟨_, rfl⟩
  rw [hM] at hps90
  obtain ⟨T, hT⟩ : ∃ T, totZ hs = T := ⟨_, rfl⟩
  have hMT : (M : Int) = 3 * T := by rw [← hM, ← hT]; exact ringP_tot hs
  have hTb := totZ_bd hs
  rw [hT] at hTb
  have HMM := Lib.hid hM
  have HT := Lib.hid hT
  clear hM hT
  go_wp2_with fail
  refine (ringOf_impl A1 m c1 hs _ HM.out (by omega) HI.out).mono ?_
  rintro e w2 ⟨A2, c2, rfl, lc2, cm2, o2, b2⟩
  rw [HMM.out] at lc2 o2 ⊢
  go_wp2_with fail
  refine (ringOf_spec A1 m c1 hs _ HM.out (by omega) (HI.out.new b2)).mono ?_
  rintro e w3 ⟨A3, c3, rfl, lc3, cm3, o3, b3⟩
  rw [HMM.out] at lc3 o3 ⊢
  have HX := Lib.hid (o2.ints.new b3)
  have HY := Lib.hid o3.ints
  have HP := Lib.hid ((HI.out.new b2).new b3)
  have hN3 := (b1.trans b2).trans b3
  clear o2 o3 b1 b2 b3
  go_wp2_with fail
  go_loopw [6] (fun i wr => ∃ k : Nat, k ≤ M ∧ i = .int .i64 k ∧ New w3 wr) (fun i _ => M - (intOf i).toNat)
  case atStart => exact ⟨0, Nat.zero_le _, rfl, New.refl _⟩
  case round =>
    obtain ⟨k, hk, rfl, hnew⟩ := hrel
    by_cases hlt : k < M
    · have hlti : (k : Int) < (M : Int) := by omega
      obtain ⟨bx, ox, p, rfl, hp, hbx, x0, x1⟩ := points_at (HX.out.new hnew) (k := k) (by rw [HMM.out]; exact hlt)
      obtain ⟨by_, oy, p', rfl, hp', hby, y0, y1⟩ := points_at (HY.out.new hnew) (k := k) (by rw [HMM.out]; exact hlt)
      obtain rfl := Option.some.inj (hp.symm.trans hp')
      have HST := Lib.hid (ringP_up (List.mem_of_getElem? hp))
      have HPW := Lib.hid (HP.out.new hnew)
      obtain ⟨q0, q1⟩ := p
      simp only at x0 x1 y0 y1 HST
      rcases Nat.eq_zero_or_pos k with hk0 | hk0
      · subst hk0
        clear hp hp'
        simp only [Nat.zero_mul, Nat.add_zero] at x0 x1 y0 y1
        go_wp2_with fail
        refine wp_region_qb (by kernel_rfl) (by kernel_rfl) ?_
        repeat (go_big_quiet_step ((exact gr_call ((hostState_impl A1 m c1 hs q1 _ HM.out hml (HPW.out.new (gr_new _ _ _))).mono fun _ _ h => by rw [HST.out] at h; exact h))))
        with_reducible refine wpQuiet_nil ?_
        intro w5 b5
        have hc5 := New.cells b5; have hf5 := New.marks b5; have hz5 := New.le b5; try simp only [World.size_alloc, World.size_setCell] at hz5
        try have z5_0_0 : w.heap.size < w5.heap.size := by omega
        try have z5_0_1 : w.heap.size + 1 < w5.heap.size := by omega
        try have z5_0_2 : w.heap.size + 2 < w5.heap.size := by omega
        try have z5_1_0 : w1.heap.size < w5.heap.size := by omega
        try have z5_1_1 : w1.heap.size + 1 < w5.heap.size := by omega
        try have z5_1_2 : w1.heap.size + 2 < w5.heap.size := by omega
        try have z5_2_0 : w2.heap.size < w5.heap.size := by omega
        try have z5_2_1 : w2.heap.size + 1 < w5.heap.size := by omega
        try have z5_2_2 : w2.heap.size + 2 < w5.heap.size := by omega
        try have z5_3_0 : w3.heap.size < w5.heap.size := by omega
        try have z5_3_1 : w3.heap.size + 1 < w5.heap.size := by omega
        try have z5_3_2 : w3.heap.size + 2 < w5.heap.size := by omega
        try have z5_4_0 : w4.heap.size < w5.heap.size := by omega
        try have z5_4_1 : w4.heap.size + 1 < w5.heap.size := by omega
        try have z5_4_2 : w4.heap.size + 2 < w5.heap.size := by omega
        go_wp2_with fail
        go_roundw
        case rel => exact ⟨1, by omega, by go_num, hnew.trans b5⟩
        case measure => simp [intOf]; omega
      · obtain ⟨j, rfl⟩ : ∃ j, k = j + 1 := ⟨k - 1, by omega⟩
        obtain ⟨b', o', r, hbo, hr, _, z0, _⟩ := points_at (HX.out.new hnew) (k := j) (by rw [HMM.out]; omega)
        obtain ⟨rfl, rfl⟩ : bx = b' ∧ ox = o' := by simpa using hbo
        obtain ⟨r0, r1⟩ := r
        simp only at z0
        have hasc : decide (q0 < r0) = false := by simpa using ringP_asc hr hp
        have hkp : (0 : Int) < ((j + 1 : Nat) : Int) := by omega
        have hjm : (j : Int) < (M : Int) := by omega
        clear hp hp' hr hbo
        go_wp2_with fail
        refine wp_region_qb (by kernel_rfl) (by kernel_rfl) ?_
        repeat (go_big_quiet_step ((exact gr_call ((hostState_impl A1 m c1 hs q1 _ HM.out hml (HPW.out.new (gr_new _ _ _))).mono fun _ _ h => by rw [HST.out] at h; exact h))))
        with_reducible refine wpQuiet_nil ?_
        intro w5 b5
        have hc5 := New.cells b5; have hf5 := New.marks b5; have hz5 := New.le b5; try simp only [World.size_alloc, World.size_setCell] at hz5
        try have z5_0_0 : w.heap.size < w5.heap.size := by omega
        try have z5_0_1 : w.heap.size + 1 < w5.heap.size := by omega
        try have z5_0_2 : w.heap.size + 2 < w5.heap.size := by omega
        try have z5_1_0 : w1.heap.size < w5.heap.size := by omega
        try have z5_1_1 : w1.heap.size + 1 < w5.heap.size := by omega
        try have z5_1_2 : w1.heap.size + 2 < w5.heap.size := by omega
        try have z5_2_0 : w2.heap.size < w5.heap.size := by omega
        try have z5_2_1 : w2.heap.size + 1 < w5.heap.size := by omega
        try have z5_2_2 : w2.heap.size + 2 < w5.heap.size := by omega
        try have z5_3_0 : w3.heap.size < w5.heap.size := by omega
        try have z5_3_1 : w3.heap.size + 1 < w5.heap.size := by omega
        try have z5_3_2 : w3.heap.size + 2 < w5.heap.size := by omega
        try have z5_4_0 : w4.heap.size < w5.heap.size := by omega
        try have z5_4_1 : w4.heap.size + 1 < w5.heap.size := by omega
        try have z5_4_2 : w4.heap.size + 2 < w5.heap.size := by omega
        go_wp2_with fail
        go_roundw
        case rel => exact ⟨j + 1 + 1, by omega, by go_num, hnew.trans b5⟩
        case measure => simp [intOf]; omega
    · obtain rfl : k = M := by omega
      have hkT : ((k : Int) == 3 * T) = true := by simpa using hMT
      go_wp2_with fail
      refine (totalWeight_impl A1 m c1 hs _ HM.out (by omega) (HP.out.new hnew)).mono ?_
      rintro e w5 ⟨rfl, b5⟩
      rw [HT.out]
      go_wp2_with fail
      refine (alive_any _).mono ?_
      rintro e w6 ⟨rfl, b6⟩
      go_wp2_with fail
      go_ret
      exact ⟨rfl, hN3.trans ((hnew.trans b5).trans b6)⟩
end Go.Proofs.Ytbnehcaallehbaa
