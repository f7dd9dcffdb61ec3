/- Laws on turns: FnTurnsOf, FnTurnsAgain. -/
import Derived.Test.YtdcobkngbpkdfaaTurnsS
import Derived.Test.YtdcobkngbpkdfaaFair
import Derived.Test.YtdcobkngbpkdfaaDrawT
import Derived.Test.YtdcobkngbpkdfaaWPool2
namespace Go.Proofs.Ytdcobkngbpkdfaa
set_option linter.unusedVariables false
set_option linter.unusedSimpArgs false
open Go.RowKit Go.Sort

theorem totZ_ups {hs : List Hst} (h : 0 < totZ hs) : poolB hs = true ∧ 0 < (ups hs).length := by
  cases hp : poolB hs
  · rw [totZ_no hp] at h; omega
  · refine ⟨rfl, ?_⟩
    rw [totZ_yes hp] at h
    rcases hu : ups hs with _ | ⟨x, t⟩
    · rw [hu] at h; simp [sumW] at h
    · simp
theorem turnsB_mk {hs : List Hst} {z : Int} (hp : poolB hs = true) (h0 : 0 < (ups hs).length) (h1 : 0 ≤ z ∧ z ≤ 60) : turnsB hs z = true := by
  simp only [turnsB, hp, Bool.and_eq_true, decide_eq_true_eq, inB_true]
  exact ⟨⟨trivial, h0⟩, h1⟩
set_option maxRecDepth 100000 in
set_option maxHeartbeats 1000000 in
theorem walk_FnTurnsAgain (A : Option Addr) (n c : Nat) (zs : List Int) (w : World) (H : ArgInts .u8 w A n c 1 zs) :
    Calls Try.prog 6 #[.slice A n c] w fun e w' => e = .returned (.bool true) ∧ New w w' := by
  have hc := CodeArg.of H
  have hm := hc.2.1
  unfold maxLen at hm
  clear H
  have hgr := gr_cells
  by_cases hbig : 1048576 < n
  · go_enter Try.func6, Try.ntmps6
    go_wp2_with fail
    go_ret
    exact ⟨rfl, (by repeat (first | with_reducible assumption | with_reducible exact New.refl _ | with_reducible refine New.alloc ?_ _ | with_reducible refine New.drew ?_ | with_reducible refine New.drewN ?_ _ | refine New.setCell ?_ (by first | (simp; done) | omega | (simp; omega)) _ | with_reducible refine New.trans ?_ (by with_reducible assumption)))⟩
  go_enter Try.func6, Try.ntmps6
  go_wp2_with fail
  refine (DrawTurnsOf_any A n c zs _ hc).mono ?_
  rintro e w1 ⟨A', c', hs, many, rfl, l7, lc, cm, hpl, hI, z0, z1, b1⟩
  obtain ⟨K, hK⟩ : ∃ K, hs.length = K := ⟨_, rfl⟩
  rw [hK] at l7 lc ⊢
  have HK := Lib.hid hK
  have hml : K ≤ maxLen := by unfold maxLen; omega
  obtain ⟨us, hus⟩ : ∃ us, us = turnsZ hs many := ⟨_, rfl⟩
  obtain ⟨m, hm2⟩ : ∃ m, us.length = m := ⟨_, rfl⟩
  have hul := turnsZ_len hs many
  rw [← hus, hm2] at hul
  have hmml : m ≤ maxLen := by unfold maxLen; omega
  have HM := Lib.hid hm2
  have IM : Hid (∀ w, Ints w A' (flat hs) → Calls Try.prog 31 #[.slice A' K c', .int .i64 many] w (RetRow 3 1 w m us)) := Lib.hid fun w h => by
    rw [← hm2, hus]; exact turns_impl _ K c' hs many w hK (by omega) h
  have SP : Hid (∀ w, Ints w A' (flat hs) → Calls Try.prog 33 #[.slice A' K c', .int .i64 many] w (RetRow 3 1 w m us)) := Lib.hid fun w h => by
    rw [← hm2, hus]; exact turns_spec _ K c' hs many w hK (by omega) h
  have HU := Lib.hid hus
  clear hus hm2 hK hc hpl
  go_wp2_with fail
  refine (IM.out _ hI).mono ?_
  rintro e w2 ⟨A2, c2, rfl, nc2, cm2, o2, b2⟩
  have B2 := b1.trans b2
  have I2 := hI.new b2
  go_wp2_with fail
  refine (SP.out _ I2).mono ?_
  rintro e w3 ⟨A3, c3, rfl, nc3, cm3, o3, b3⟩
  have B3 := B2.trans b3
  have I3 := I2.new b3
  go_wp2_with fail
  refine (sameInts_any A2 A3 m c2 m c3 us us _ HM.out HM.out hmml hmml (o2.ints.new b3) o3.ints).mono ?_
  rintro e w4 ⟨rfl, b4⟩
  simp only [decide_true]
  have HB4 := Lib.hid (B3.trans b4)
  have HI4 := Lib.hid (I3.new b4)
  have HO4 := Lib.hid ((o2.new b3).new b4)
  clear o2 o3 hI I2 I3 b1 b2 b3 b4 B2 B3
  obtain ⟨T, hT⟩ : ∃ T, totZ hs = T := ⟨_, rfl⟩
  have hTb := totZ_bd hs
  rw [hT] at hTb
  obtain ⟨hT0, hT1⟩ := hTb
  have HT := Lib.hid hT
  obtain ⟨vs2, hv2⟩ : ∃ vs2, vs2 = turnsZ hs (2 * T) := ⟨_, rfl⟩
  obtain ⟨m2, hm2⟩ : ∃ m2, vs2.length = m2 := ⟨_, rfl⟩
  have IM2 : Hid (∀ w, Ints w A' (flat hs) → Calls Try.prog 31 #[.slice A' K c', .int .i64 (2 * T)] w (RetRow 3 1 w m2 vs2)) := Lib.hid fun w h => by
    rw [← hm2, hv2]; exact turns_impl _ K c' hs (2 * T) w HK.out (by omega) h
  have HM2 := Lib.hid hm2
  have HV2 := Lib.hid hv2
  clear hT hv2 hm2
  go_wp2_with fail
  refine (totalWeight_impl A' K c' hs _ HK.out (by omega) HI4.out).mono ?_
  rintro e w5 ⟨rfl, b5⟩
  rw [HT.out]
  go_wp2_with fail
  refine (IM2.out _ (HI4.out.new b5)).mono ?_
  rintro e w6 ⟨A6, c6, rfl, nc6, cm6, o6, b6⟩
  have HB6 := Lib.hid ((HB4.out.trans b5).trans b6)
  by_cases hTz : T = 0
  · subst hTz
    have hv : vs2 = [] := by
      rw [HV2.out]
      refine turnsZ_no ?_
      cases hb : turnsB hs (2 * 0)
      · rfl
      · exfalso
        simp only [turnsB, Bool.and_eq_true, decide_eq_true_eq] at hb
        have := (fair_of hb.1.1 hb.1.2).tpos
        rw [HT.out] at this
        omega
    have hm0 : m2 = 0 := by rw [← HM2.out, hv]; rfl
    subst hm0
    clear hv
    go_wp2_with fail
    refine wp_region_qb (by kernel_rfl) (by kernel_rfl) ?_
    repeat (go_big_quiet_step ((fail)))
    with_reducible refine wpQuiet_nil ?_
    intro w7 b7
    have hc7 := New.cells b7; have hf7 := New.marks b7; have hz7 := New.le b7; try simp only [World.size_alloc, World.size_setCell] at hz7
    try have z7_0_0 : w.heap.size < w7.heap.size := by omega
    try have z7_0_1 : w.heap.size + 1 < w7.heap.size := by omega
    try have z7_0_2 : w.heap.size + 2 < w7.heap.size := by omega
    try have z7_1_0 : w1.heap.size < w7.heap.size := by omega
    try have z7_1_1 : w1.heap.size + 1 < w7.heap.size := by omega
    try have z7_1_2 : w1.heap.size + 2 < w7.heap.size := by omega
    try have z7_2_0 : w2.heap.size < w7.heap.size := by omega
    try have z7_2_1 : w2.heap.size + 1 < w7.heap.size := by omega
    try have z7_2_2 : w2.heap.size + 2 < w7.heap.size := by omega
    try have z7_3_0 : w3.heap.size < w7.heap.size := by omega
    try have z7_3_1 : w3.heap.size + 1 < w7.heap.size := by omega
    try have z7_3_2 : w3.heap.size + 2 < w7.heap.size := by omega
    try have z7_4_0 : w4.heap.size < w7.heap.size := by omega
    try have z7_4_1 : w4.heap.size + 1 < w7.heap.size := by omega
    try have z7_4_2 : w4.heap.size + 2 < w7.heap.size := by omega
    try have z7_5_0 : w5.heap.size < w7.heap.size := by omega
    try have z7_5_1 : w5.heap.size + 1 < w7.heap.size := by omega
    try have z7_5_2 : w5.heap.size + 2 < w7.heap.size := by omega
    try have z7_6_0 : w6.heap.size < w7.heap.size := by omega
    try have z7_6_1 : w6.heap.size + 1 < w7.heap.size := by omega
    try have z7_6_2 : w6.heap.size + 2 < w7.heap.size := by omega
    go_wp2_with fail
    go_ret
    exact ⟨rfl, HB6.out.trans b7⟩
  · have hTp : 0 < T := by omega
    obtain ⟨hp, h0⟩ := totZ_ups (hs := hs) (by rw [HT.out]; exact hTp)
    obtain ⟨Tn, rfl⟩ := Int.eq_ofNat_of_zero_le hT0
    have hf := fair_of hp h0
    rw [HT.out] at hf
    obtain ⟨uu, huu⟩ : ∃ uu, uu = ups hs := ⟨_, rfl⟩
    rw [← huu] at hf
    obtain ⟨T, hTe⟩ : ∃ T : Int, T = (Tn : Int) := ⟨_, rfl⟩
    rw [← hTe] at hf
    have hv : vs2 = turnsTo uu T (Tn + Tn) := by
      rw [HV2.out, turnsZ_yes (turnsB_mk hp h0 (by omega)), HT.out, ← huu, ← hTe, show (2 * T).toNat = Tn + Tn by omega]
    have hm22 : Tn + Tn = m2 := by rw [← HM2.out, hv, turnsTo_len]
    have h2 : 2 * (Tn : Int) = (m2 : Int) := by omega
    have hTml : Tn ≤ maxLen := by unfold maxLen; omega
    have htk : vs2.take Tn = turnsTo uu T Tn := by rw [hv, turnsTo_take _ _ (by omega)]
    have hdr : vs2.drop Tn = turnsTo uu T Tn := by
      have := hf.halves
      rw [hTe, Int.toNat_natCast, ← hTe] at this
      rw [hv, this]
    obtain ⟨g, rfl, _⟩ := o6.at_ (by rw [HM2.out]; omega)
    have HX := Lib.hid o6.ints
    have HX1 : Hid (∀ w', Ints w' (some ⟨g, 0, none⟩) vs2 → Ints w' (some ⟨g, 0, none⟩) (turnsTo uu T Tn)) := Lib.hid fun w' h => by rw [← htk]; exact ints_take h Tn
    have HX2 : Hid (∀ w', Ints w' (some ⟨g, 0, none⟩) vs2 → Ints w' (some ⟨g, Tn, none⟩) (turnsTo uu T Tn)) := Lib.hid fun w' h => by rw [← hdr]; simpa using ints_drop0 h Tn
    have hTnb : ((Tn : Int) == 0) = false := by simp; omega
    have hTm2 : Tn < c6 := by omega
    have hTm4 : m2 - Tn = Tn := by omega
    have hTm5 : Tn ≤ c6 - Tn := by omega
    have hTm3 : Tn ≤ m2 := by omega
    clear hv htk hdr hf huu hp h0 o6 hTe
    go_wp2_with fail
    obtain ⟨FF, hFF⟩ : ∃ FF, FF = factAt [pVal (.slice (some ⟨g, 0, none⟩) m2 c6), pVal (.int .i64 (m2 : Int)), pVal (.int .i64 (Tn : Int)), pVal (.int .i64 (m2 : Int)), pVal (.bool false), pVal (.bool false), pVal (.int .i64 (Tn : Int)), pVal (.bool false), pVal (.bool false), pVal (.bool false), pVal (.slice (some ⟨g, 0, none⟩) m2 c6), pVal (.int .i64 (Tn : Int)), pVal (.slice (some ⟨g, 0, none⟩) Tn c6), pVal (.slice (some ⟨g, 0, none⟩) m2 c6), pVal (.int .i64 (Tn : Int)), pRow Tn (turnsTo uu T Tn), pVal (.bool true), pVal (.bool true), pVal (.bool true), pVal (.bool true), pVal (.bool true), pVal (.bool true)] := ⟨_, rfl⟩
    have HFF := Lib.hid hFF
    clear hFF
    refine wp_region_tail 22 (by kernel_rfl) (by kernel_rfl) (by kernel_rfl) (by decide) (LrI w6) FF New (by rw [HFF.out]; exact factAt_keptN (by
        intro P hP
        simp only [List.mem_cons, List.not_mem_nil, or_false] at hP
        rcases hP with rfl | rfl | rfl | rfl | rfl | rfl | rfl | rfl | rfl | rfl | rfl | rfl | rfl | rfl | rfl | rfl | rfl | rfl | rfl | rfl | rfl | rfl
        · exact keptN_val _
        · exact keptN_val _
        · exact keptN_val _
        · exact keptN_val _
        · exact keptN_val _
        · exact keptN_val _
        · exact keptN_val _
        · exact keptN_val _
        · exact keptN_val _
        · exact keptN_val _
        · exact keptN_val _
        · exact keptN_val _
        · exact keptN_val _
        · exact keptN_val _
        · exact keptN_val _
        · exact keptN_row _ _
        · exact keptN_val _
        · exact keptN_val _
        · exact keptN_val _
        · exact keptN_val _
        · exact keptN_val _
        · exact keptN_val _
        )) (New.drew (New.refl _)) ?_ ?_
    · refine ⟨?_, ?_, ?_, ?_, ?_, ?_, ?_, ?_, ?_, ?_, ?_, ?_, ?_, ?_, ?_, ?_, ?_, ?_, ?_, ?_, ?_, ?_, trivial⟩
      · -- 0: Op.move t7
        intro vs kq wq hI hF
        have hI : New w6 wq := hI
        clear hF
        simp only [fillTo, dstOf, List.getElem?_toArray, List.getElem?_cons_zero, List.getElem?_cons_succ, Option.bind_some, Act.put, List.setIfInBounds_toArray, List.set_cons_zero, List.set_cons_succ]
        go_wp2_with fail
        exact ⟨_, rfl, hI, New.refl _, by rw [HFF.out]; exact rfl⟩
      · -- 1: Op.call { builtin len, args := #[t31], argTypes := #[23] }
        intro vs kq wq hI hF
        have hI : New w6 wq := hI
        have f0 : pVal (.slice (some ⟨g, 0, none⟩) m2 c6) (vs 0) wq := (by have h := hF 0 (by rfl); rw [HFF.out] at h; exact h)
        unfold pVal at f0
        clear hF
        simp only [fillTo, dstOf, List.getElem?_toArray, List.getElem?_cons_zero, List.getElem?_cons_succ, Option.bind_some, Act.put, List.setIfInBounds_toArray, List.set_cons_zero, List.set_cons_succ, f0]
        clear f0
        go_wp2_with fail
        exact ⟨_, rfl, hI, New.refl _, by rw [HFF.out]; exact rfl⟩
      · -- 2: Op.move t6
        intro vs kq wq hI hF
        have hI : New w6 wq := hI
        clear hF
        simp only [fillTo, dstOf, List.getElem?_toArray, List.getElem?_cons_zero, List.getElem?_cons_succ, Option.bind_some, Act.put, List.setIfInBounds_toArray, List.set_cons_zero, List.set_cons_succ]
        go_wp2_with fail
        exact ⟨_, rfl, hI, New.refl _, by rw [HFF.out]; exact rfl⟩
      · -- 3: Op.binOp BinOp.mul 3 (const (2:i64)) t33 3
        intro vs kq wq hI hF
        have hI : New w6 wq := hI
        have f2 : pVal (.int .i64 (Tn : Int)) (vs 2) wq := (by have h := hF 2 (by rfl); rw [HFF.out] at h; exact h)
        unfold pVal at f2
        clear hF
        simp only [fillTo, dstOf, List.getElem?_toArray, List.getElem?_cons_zero, List.getElem?_cons_succ, Option.bind_some, Act.put, List.setIfInBounds_toArray, List.set_cons_zero, List.set_cons_succ, f2]
        clear f2
        go_wp2_with fail
        exact ⟨_, rfl, hI, New.refl _, by rw [HFF.out]; exact rfl⟩
      · -- 4: Op.binOp BinOp.neq 3 t32 t34 3
        intro vs kq wq hI hF
        have hI : New w6 wq := hI
        have f1 : pVal (.int .i64 (m2 : Int)) (vs 1) wq := (by have h := hF 1 (by rfl); rw [HFF.out] at h; exact h)
        unfold pVal at f1
        have f3 : pVal (.int .i64 (m2 : Int)) (vs 3) wq := (by have h := hF 3 (by rfl); rw [HFF.out] at h; exact h)
        unfold pVal at f3
        clear hF
        simp only [fillTo, dstOf, List.getElem?_toArray, List.getElem?_cons_zero, List.getElem?_cons_succ, Option.bind_some, Act.put, List.setIfInBounds_toArray, List.set_cons_zero, List.set_cons_succ, f1, f3]
        clear f1 f3
        go_wp2_with fail
        exact ⟨_, rfl, hI, New.refl _, by rw [HFF.out]; exact rfl⟩
      · -- 5: Op.move t35
        intro vs kq wq hI hF
        have hI : New w6 wq := hI
        have f4 : pVal (.bool false) (vs 4) wq := (by have h := hF 4 (by rfl); rw [HFF.out] at h; exact h)
        unfold pVal at f4
        clear hF
        simp only [fillTo, dstOf, List.getElem?_toArray, List.getElem?_cons_zero, List.getElem?_cons_succ, Option.bind_some, Act.put, List.setIfInBounds_toArray, List.set_cons_zero, List.set_cons_succ, f4]
        clear f4
        go_wp2_with fail
        exact ⟨_, rfl, hI, New.refl _, by rw [HFF.out]; exact rfl⟩
      · -- 6: Op.move t6   [guarded: some (5, false)]
        intro vs kq wq hI hF
        have hI : New w6 wq := hI
        have f5 : pVal (.bool false) (vs 5) wq := (by have h := hF 5 (by rfl); rw [HFF.out] at h; exact h)
        unfold pVal at f5
        clear hF
        simp only [fillTo, dstOf, List.getElem?_toArray, List.getElem?_cons_zero, List.getElem?_cons_succ, Option.bind_some, Act.put, List.setIfInBounds_toArray, List.set_cons_zero, List.set_cons_succ, f5]
        clear f5
        go_wp2_with fail
        exact ⟨_, rfl, hI, New.refl _, by rw [HFF.out]; exact rfl⟩
      · -- 7: Op.binOp BinOp.eql 3 t37 (const (0:i64)) 3   [guarded: some 
        intro vs kq wq hI hF
        have hI : New w6 wq := hI
        have f6 : pVal (.int .i64 (Tn : Int)) (vs 6) wq := (by have h := hF 6 (by rfl); rw [HFF.out] at h; exact h)
        unfold pVal at f6
        have f5 : pVal (.bool false) (vs 5) wq := (by have h := hF 5 (by rfl); rw [HFF.out] at h; exact h)
        unfold pVal at f5
        clear hF
        simp only [fillTo, dstOf, List.getElem?_toArray, List.getElem?_cons_zero, List.getElem?_cons_succ, Option.bind_some, Act.put, List.setIfInBounds_toArray, List.set_cons_zero, List.set_cons_succ, f6, f5]
        clear f6 f5
        go_wp2_with fail
        exact ⟨_, rfl, hI, New.refl _, by rw [HFF.out]; exact rfl⟩
      · -- 8: Op.pick t36 (const (Value.bool true)) t38
        intro vs kq wq hI hF
        have hI : New w6 wq := hI
        have f5 : pVal (.bool false) (vs 5) wq := (by have h := hF 5 (by rfl); rw [HFF.out] at h; exact h)
        unfold pVal at f5
        have f7 : pVal (.bool false) (vs 7) wq := (by have h := hF 7 (by rfl); rw [HFF.out] at h; exact h)
        unfold pVal at f7
        clear hF
        simp only [fillTo, dstOf, List.getElem?_toArray, List.getElem?_cons_zero, List.getElem?_cons_succ, Option.bind_some, Act.put, List.setIfInBounds_toArray, List.set_cons_zero, List.set_cons_succ, f5, f7]
        clear f5 f7
        go_wp2_with fail
        exact ⟨_, rfl, hI, New.refl _, by rw [HFF.out]; exact rfl⟩
      · -- 9: Op.move t39
        intro vs kq wq hI hF
        have hI : New w6 wq := hI
        have f8 : pVal (.bool false) (vs 8) wq := (by have h := hF 8 (by rfl); rw [HFF.out] at h; exact h)
        unfold pVal at f8
        clear hF
        simp only [fillTo, dstOf, List.getElem?_toArray, List.getElem?_cons_zero, List.getElem?_cons_succ, Option.bind_some, Act.put, List.setIfInBounds_toArray, List.set_cons_zero, List.set_cons_succ, f8]
        clear f8
        go_wp2_with fail
        exact ⟨_, rfl, hI, New.refl _, by rw [HFF.out]; exact rfl⟩
      · -- 10: Op.move t7   [guarded: some (9, false)]
        intro vs kq wq hI hF
        have hI : New w6 wq := hI
        have f9 : pVal (.bool false) (vs 9) wq := (by have h := hF 9 (by rfl); rw [HFF.out] at h; exact h)
        unfold pVal at f9
        clear hF
        simp only [fillTo, dstOf, List.getElem?_toArray, List.getElem?_cons_zero, List.getElem?_cons_succ, Option.bind_some, Act.put, List.setIfInBounds_toArray, List.set_cons_zero, List.set_cons_succ, f9]
        clear f9
        go_wp2_with fail
        exact ⟨_, rfl, hI, New.refl _, by rw [HFF.out]; exact rfl⟩
      · -- 11: Op.move t6   [guarded: some (9, false)]
        intro vs kq wq hI hF
        have hI : New w6 wq := hI
        have f9 : pVal (.bool false) (vs 9) wq := (by have h := hF 9 (by rfl); rw [HFF.out] at h; exact h)
        unfold pVal at f9
        clear hF
        simp only [fillTo, dstOf, List.getElem?_toArray, List.getElem?_cons_zero, List.getElem?_cons_succ, Option.bind_some, Act.put, List.setIfInBounds_toArray, List.set_cons_zero, List.set_cons_succ, f9]
        clear f9
        go_wp2_with fail
        exact ⟨_, rfl, hI, New.refl _, by rw [HFF.out]; exact rfl⟩
      · -- 12: Op.slice 23 t41 none (some t42) none   [guarded: some (9, fa
        intro vs kq wq hI hF
        have hI : New w6 wq := hI
        have f10 : pVal (.slice (some ⟨g, 0, none⟩) m2 c6) (vs 10) wq := (by have h := hF 10 (by rfl); rw [HFF.out] at h; exact h)
        unfold pVal at f10
        have f11 : pVal (.int .i64 (Tn : Int)) (vs 11) wq := (by have h := hF 11 (by rfl); rw [HFF.out] at h; exact h)
        unfold pVal at f11
        have f9 : pVal (.bool false) (vs 9) wq := (by have h := hF 9 (by rfl); rw [HFF.out] at h; exact h)
        unfold pVal at f9
        clear hF
        simp only [fillTo, dstOf, List.getElem?_toArray, List.getElem?_cons_zero, List.getElem?_cons_succ, Option.bind_some, Act.put, List.setIfInBounds_toArray, List.set_cons_zero, List.set_cons_succ, f10, f11, f9]
        clear f10 f11 f9
        go_wp2_with fail
        exact ⟨_, rfl, hI, New.refl _, by rw [HFF.out]; exact rfl⟩
      · -- 13: Op.move t7   [guarded: some (9, false)]
        intro vs kq wq hI hF
        have hI : New w6 wq := hI
        have f9 : pVal (.bool false) (vs 9) wq := (by have h := hF 9 (by rfl); rw [HFF.out] at h; exact h)
        unfold pVal at f9
        clear hF
        simp only [fillTo, dstOf, List.getElem?_toArray, List.getElem?_cons_zero, List.getElem?_cons_succ, Option.bind_some, Act.put, List.setIfInBounds_toArray, List.set_cons_zero, List.set_cons_succ, f9]
        clear f9
        go_wp2_with fail
        exact ⟨_, rfl, hI, New.refl _, by rw [HFF.out]; exact rfl⟩
      · -- 14: Op.move t6   [guarded: some (9, false)]
        intro vs kq wq hI hF
        have hI : New w6 wq := hI
        have f9 : pVal (.bool false) (vs 9) wq := (by have h := hF 9 (by rfl); rw [HFF.out] at h; exact h)
        unfold pVal at f9
        clear hF
        simp only [fillTo, dstOf, List.getElem?_toArray, List.getElem?_cons_zero, List.getElem?_cons_succ, Option.bind_some, Act.put, List.setIfInBounds_toArray, List.set_cons_zero, List.set_cons_succ, f9]
        clear f9
        go_wp2_with fail
        exact ⟨_, rfl, hI, New.refl _, by rw [HFF.out]; exact rfl⟩
      · -- 15: Op.slice 23 t44 (some t45) none none   [guarded: some (9, fa
        intro vs kq wq hI hF
        have hI : New w6 wq := hI
        have f13 : pVal (.slice (some ⟨g, 0, none⟩) m2 c6) (vs 13) wq := (by have h := hF 13 (by rfl); rw [HFF.out] at h; exact h)
        unfold pVal at f13
        have f14 : pVal (.int .i64 (Tn : Int)) (vs 14) wq := (by have h := hF 14 (by rfl); rw [HFF.out] at h; exact h)
        unfold pVal at f14
        have f9 : pVal (.bool false) (vs 9) wq := (by have h := hF 9 (by rfl); rw [HFF.out] at h; exact h)
        unfold pVal at f9
        clear hF
        simp only [fillTo, dstOf, List.getElem?_toArray, List.getElem?_cons_zero, List.getElem?_cons_succ, Option.bind_some, Act.put, List.setIfInBounds_toArray, List.set_cons_zero, List.set_cons_succ, f13, f14, f9]
        clear f13 f14 f9
        go_wp2_with fail
        exact ⟨_, rfl, hI, New.refl _, by rw [HFF.out]; exact ⟨_, _, rfl, hTm5, Nat.le_trans (Nat.sub_le _ _) cm6, HX2.out _ (HX.out.new hI)⟩⟩
      · -- 16: Op.call { value (Operand.func 32), args := #[t43, t46], argT
        intro vs kq wq hI hF
        have hI : New w6 wq := hI
        have f12 : pVal (.slice (some ⟨g, 0, none⟩) Tn c6) (vs 12) wq := (by have h := hF 12 (by rfl); rw [HFF.out] at h; exact h)
        unfold pVal at f12
        have f15 : pRow Tn (turnsTo uu T Tn) (vs 15) wq := (by have h := hF 15 (by rfl); rw [HFF.out] at h; exact h)
        refine Shut.out ?_
        obtain ⟨A15, c15, f15, nc15, cm15, I15⟩ := f15
        refine Shut.mk ?_
        have f9 : pVal (.bool false) (vs 9) wq := (by have h := hF 9 (by rfl); rw [HFF.out] at h; exact h)
        unfold pVal at f9
        clear hF
        simp only [fillTo, dstOf, List.getElem?_toArray, List.getElem?_cons_zero, List.getElem?_cons_succ, Option.bind_some, Act.put, List.setIfInBounds_toArray, List.set_cons_zero, List.set_cons_succ, f12, f15, f9]
        clear f12 f15 f9
        go_wp2_with fail
        refine (sameInts_any (some ⟨g, 0, none⟩) A15 Tn c6 Tn c15 (turnsTo uu T Tn) (turnsTo uu T Tn) _ (turnsTo_len _ _ _) (turnsTo_len _ _ _) hTml hTml (HX1.out _ (HX.out.new hI)) I15).mono ?_
        rintro e w' ⟨rfl, hb⟩
        simp only [decide_true]
        go_wp2_with fail
        exact ⟨_, rfl, New.trans hI hb, hb, by rw [HFF.out]; exact rfl⟩
      · -- 17: Op.move t47   [guarded: some (9, false)]
        intro vs kq wq hI hF
        have hI : New w6 wq := hI
        have f16 : pVal (.bool true) (vs 16) wq := (by have h := hF 16 (by rfl); rw [HFF.out] at h; exact h)
        unfold pVal at f16
        have f9 : pVal (.bool false) (vs 9) wq := (by have h := hF 9 (by rfl); rw [HFF.out] at h; exact h)
        unfold pVal at f9
        clear hF
        simp only [fillTo, dstOf, List.getElem?_toArray, List.getElem?_cons_zero, List.getElem?_cons_succ, Option.bind_some, Act.put, List.setIfInBounds_toArray, List.set_cons_zero, List.set_cons_succ, f16, f9]
        clear f16 f9
        go_wp2_with fail
        exact ⟨_, rfl, hI, New.refl _, by rw [HFF.out]; exact rfl⟩
      · -- 18: Op.call { value (Operand.func 18), args := #[], argTypes := 
        intro vs kq wq hI hF
        have hI : New w6 wq := hI
        have f17 : pVal (.bool true) (vs 17) wq := (by have h := hF 17 (by rfl); rw [HFF.out] at h; exact h)
        unfold pVal at f17
        clear hF
        simp only [fillTo, dstOf, List.getElem?_toArray, List.getElem?_cons_zero, List.getElem?_cons_succ, Option.bind_some, Act.put, List.setIfInBounds_toArray, List.set_cons_zero, List.set_cons_succ, f17]
        clear f17
        go_wp2_with fail
        refine (alive_any _).mono ?_
        rintro e w' ⟨rfl, hb⟩
        go_wp2_with fail
        exact ⟨_, rfl, New.trans hI hb, hb, by rw [HFF.out]; exact rfl⟩
      · -- 19: Op.pick t48 t49 (const (Value.bool false))   [guarded: some 
        intro vs kq wq hI hF
        have hI : New w6 wq := hI
        have f17 : pVal (.bool true) (vs 17) wq := (by have h := hF 17 (by rfl); rw [HFF.out] at h; exact h)
        unfold pVal at f17
        have f18 : pVal (.bool true) (vs 18) wq := (by have h := hF 18 (by rfl); rw [HFF.out] at h; exact h)
        unfold pVal at f18
        have f9 : pVal (.bool false) (vs 9) wq := (by have h := hF 9 (by rfl); rw [HFF.out] at h; exact h)
        unfold pVal at f9
        clear hF
        simp only [fillTo, dstOf, List.getElem?_toArray, List.getElem?_cons_zero, List.getElem?_cons_succ, Option.bind_some, Act.put, List.setIfInBounds_toArray, List.set_cons_zero, List.set_cons_succ, f17, f18, f9]
        clear f17 f18 f9
        go_wp2_with fail
        exact ⟨_, rfl, hI, New.refl _, by rw [HFF.out]; exact rfl⟩
      · -- 20: Op.pick t40 (const (Value.bool true)) t50
        intro vs kq wq hI hF
        have hI : New w6 wq := hI
        have f9 : pVal (.bool false) (vs 9) wq := (by have h := hF 9 (by rfl); rw [HFF.out] at h; exact h)
        unfold pVal at f9
        have f19 : pVal (.bool true) (vs 19) wq := (by have h := hF 19 (by rfl); rw [HFF.out] at h; exact h)
        unfold pVal at f19
        clear hF
        simp only [fillTo, dstOf, List.getElem?_toArray, List.getElem?_cons_zero, List.getElem?_cons_succ, Option.bind_some, Act.put, List.setIfInBounds_toArray, List.set_cons_zero, List.set_cons_succ, f9, f19]
        clear f9 f19
        go_wp2_with fail
        exact ⟨_, rfl, hI, New.refl _, by rw [HFF.out]; exact rfl⟩
      · -- 21: Op.assign t51
        intro vs kq wq hI hF
        have hI : New w6 wq := hI
        have f20 : pVal (.bool true) (vs 20) wq := (by have h := hF 20 (by rfl); rw [HFF.out] at h; exact h)
        unfold pVal at f20
        clear hF
        simp only [fillTo, dstOf, List.getElem?_toArray, List.getElem?_cons_zero, List.getElem?_cons_succ, Option.bind_some, Act.put, List.setIfInBounds_toArray, List.set_cons_zero, List.set_cons_succ, f20]
        clear f20
        go_wp2_with fail
        exact ⟨_, rfl, hI, New.refl _, by rw [HFF.out]; exact rfl⟩
    · intro vs kq w7 hI hF
      have f21 : pVal (.bool true) (vs 21) w7 := (by have h := hF 21 (by omega); rw [HFF.out] at h; exact h)
      unfold pVal at f21
      have hI : New w6 w7 := hI
      clear hF
      simp only [fillTo, dstOf, List.getElem?_toArray, List.getElem?_cons_zero, List.getElem?_cons_succ, Option.bind_some, Act.put, List.setIfInBounds_toArray, List.set_cons_zero, List.set_cons_succ, List.drop_succ_cons, List.drop_zero, f21]
      go_wp2_with fail
      go_ret
      exact ⟨rfl, HB6.out.trans hI⟩
set_option maxRecDepth 100000 in
set_option maxHeartbeats 1000000 in
theorem walk_FnTurnsOf (A : Option Addr) (n c : Nat) (zs : List Int) (w : World) (H : ArgInts .u8 w A n c 1 zs) :
    Calls Try.prog 9 #[.slice A n c] w fun e w' => e = .returned (.bool true) ∧ New w w' := by
  have hc := CodeArg.of H
  have hm := hc.2.1
  unfold maxLen at hm
  clear H
  have hgr := gr_cells
  by_cases hbig : 1048576 < n
  · go_enter Try.func9, Try.ntmps9
    go_wp2_with fail
    go_ret
    exact ⟨rfl, (by repeat (first | with_reducible assumption | with_reducible exact New.refl _ | with_reducible refine New.alloc ?_ _ | with_reducible refine New.drew ?_ | with_reducible refine New.drewN ?_ _ | refine New.setCell ?_ (by first | (simp; done) | omega | (simp; omega)) _ | with_reducible refine New.trans ?_ (by with_reducible assumption)))⟩
  go_enter Try.func9, Try.ntmps9
  go_wp2_with fail
  refine (DrawTurnsOf_any A n c zs _ hc).mono ?_
  rintro e w1 ⟨A', c', hs, many, rfl, l7, lc, cm, hpl, hI, z0, z1, b1⟩
  obtain ⟨K, hK⟩ : ∃ K, hs.length = K := ⟨_, rfl⟩
  rw [hK] at l7 lc ⊢
  have HK := Lib.hid hK
  have hml : K ≤ maxLen := by unfold maxLen; omega
  obtain ⟨us, hus⟩ : ∃ us, us = turnsZ hs many := ⟨_, rfl⟩
  obtain ⟨m, hm2⟩ : ∃ m, us.length = m := ⟨_, rfl⟩
  have hul := turnsZ_len hs many
  rw [← hus, hm2] at hul
  have hmml : m ≤ maxLen := by unfold maxLen; omega
  have HM := Lib.hid hm2
  have IM : Hid (∀ w, Ints w A' (flat hs) → Calls Try.prog 31 #[.slice A' K c', .int .i64 many] w (RetRow 3 1 w m us)) := Lib.hid fun w h => by
    rw [← hm2, hus]; exact turns_impl _ K c' hs many w hK (by omega) h
  have SP : Hid (∀ w, Ints w A' (flat hs) → Calls Try.prog 33 #[.slice A' K c', .int .i64 many] w (RetRow 3 1 w m us)) := Lib.hid fun w h => by
    rw [← hm2, hus]; exact turns_spec _ K c' hs many w hK (by omega) h
  have HU := Lib.hid hus
  clear hus hm2 hK hc hpl
  go_wp2_with fail
  refine (IM.out _ hI).mono ?_
  rintro e w2 ⟨A2, c2, rfl, nc2, cm2, o2, b2⟩
  have B2 := b1.trans b2
  have I2 := hI.new b2
  go_wp2_with fail
  refine (SP.out _ I2).mono ?_
  rintro e w3 ⟨A3, c3, rfl, nc3, cm3, o3, b3⟩
  have B3 := B2.trans b3
  have I3 := I2.new b3
  go_wp2_with fail
  refine (sameInts_any A2 A3 m c2 m c3 us us _ HM.out HM.out hmml hmml (o2.ints.new b3) o3.ints).mono ?_
  rintro e w4 ⟨rfl, b4⟩
  simp only [decide_true]
  have HB4 := Lib.hid (B3.trans b4)
  have HI4 := Lib.hid (I3.new b4)
  have HO4 := Lib.hid ((o2.new b3).new b4)
  clear o2 o3 hI I2 I3 b1 b2 b3 b4 B2 B3
  by_cases hm0 : m = 0
  · subst hm0
    go_wp2_with fail
    refine (alive_any _).mono ?_
    rintro e w5 ⟨rfl, b5⟩
    go_wp2_with fail
    go_ret
    exact ⟨rfl, HB4.out.trans b5⟩
  have hmp : 0 < m := by omega
  have hmb : ((m : Int) == 0) = false := by simp; omega
  have hB : turnsB hs many = true := by
    cases hb : turnsB hs many
    · exfalso
      have h1 := HM.out
      rw [HU.out, turnsZ_no hb] at h1
      exact hm0 h1.symm
    · rfl
  have hB' := hB
  simp only [turnsB, Bool.and_eq_true, decide_eq_true_eq, inB_true] at hB'
  obtain ⟨⟨hp, h0⟩, hk0, hk1⟩ := hB'
  obtain ⟨M, rfl⟩ := Int.eq_ofNat_of_zero_le hk0
  obtain ⟨T, hT⟩ : ∃ T, totZ hs = T := ⟨_, rfl⟩
  have hTb := totZ_bd hs
  rw [hT] at hTb
  obtain ⟨hT0, hT1⟩ := hTb
  obtain ⟨Tn, rfl⟩ := Int.eq_ofNat_of_zero_le hT0
  have HT := Lib.hid hT
  obtain ⟨T, hTe⟩ : ∃ T : Int, T = (Tn : Int) := ⟨_, rfl⟩
  obtain ⟨uu, huu⟩ : ∃ uu, uu = ups hs := ⟨_, rfl⟩
  have hus : us = turnsTo uu T M := by rw [HU.out, turnsZ_yes hB, hT, ← huu, ← hTe, Int.toNat_natCast]
  have hmM : m = M := by rw [← HM.out, hus, turnsTo_len]
  subst hmM
  have hall : turnsZ hs (Tn : Int) = turnsTo uu T Tn := by rw [turnsZ_yes (turnsB_mk hp h0 (by omega)), hT, ← huu, Int.toNat_natCast, ← hTe]
  have hcnt : ∀ y ∈ hs, ((turnsTo uu T Tn).count y.num : Int) = if y.st = 1 then y.wt else 0 := fun y hy => by
    have := turns_count hp h0 hy
    rw [hT, ← huu, Int.toNat_natCast, ← hTe] at this
    exact this
  obtain ⟨H, hH⟩ : ∃ H : Nat, m / 2 = H := ⟨_, rfl⟩
  have hHi : (m : Int) / 2 = (H : Int) := by omega
  have hhalf : turnsZ hs (H : Int) = turnsTo uu T H := by rw [turnsZ_yes (turnsB_mk hp h0 (by omega)), hT, ← huu, ← hTe, Int.toNat_natCast]
  have IMT : Hid (∀ w, Ints w A' (flat hs) → Calls Try.prog 31 #[.slice A' K c', .int .i64 (Tn : Int)] w (RetRow 3 1 w Tn (turnsTo uu T Tn))) := Lib.hid fun w h => by
    have := turns_impl A' K c' hs (Tn : Int) w HK.out (by omega) h
    rw [hall, turnsTo_len] at this
    exact this
  have IMH : Hid (∀ w, Ints w A' (flat hs) → Calls Try.prog 31 #[.slice A' K c', .int .i64 (H : Int)] w (RetRow 3 1 w H (turnsTo uu T H))) := Lib.hid fun w h => by
    have := turns_impl A' K c' hs (H : Int) w HK.out (by omega) h
    rw [hhalf, turnsTo_len] at this
    exact this
  have htk : us.take H = turnsTo uu T H := by rw [hus, turnsTo_take _ _ (by omega)]
  have HCNT := Lib.hid hcnt
  have hHml : H ≤ maxLen := by unfold maxLen; omega
  have hTml : Tn ≤ maxLen := by unfold maxLen; omega
  obtain ⟨g, rfl, _⟩ := HO4.out.at_ (by rw [HM.out]; exact hmp)
  have HX4 := Lib.hid HO4.out.ints
  have HXH : Hid (∀ w', Ints w' (some ⟨g, 0, none⟩) us → Ints w' (some ⟨g, 0, none⟩) (turnsTo uu T H)) := Lib.hid fun w' h => by rw [← htk]; exact ints_take h H
  have hHm : H ≤ m := by omega
  clear hB hp h0 hT hTe huu hus hall hcnt hhalf htk hk0 hk1
  go_wp2_with fail
  refine (totalWeight_impl A' K c' hs _ HK.out (by omega) HI4.out).mono ?_
  rintro e w5 ⟨rfl, b5⟩
  rw [HT.out]
  go_wp2_with fail
  refine (IMT.out _ (HI4.out.new b5)).mono ?_
  rintro e w6 ⟨A6, c6, rfl, nc6, cm6, o6, b6⟩
  have HB6 := Lib.hid ((HB4.out.trans b5).trans b6)
  have HI6 := Lib.hid ((HI4.out.new b5).new b6)
  have HX6 := Lib.hid ((HX4.out.new b5).new b6)
  have HA6 := Lib.hid o6.ints
  clear b5 b6 o6
  go_wp2_with fail
  go_loopw [7, 8] (fun i v wr => ∃ k : Nat, k ≤ K ∧ i = .int .i64 k ∧ New w6 wr) (fun i _ _ => K - (intOf i).toNat)
  case atStart => exact ⟨0, Nat.zero_le _, rfl, New.refl _⟩
  case round =>
    obtain ⟨k, hk, rfl, hnew⟩ := hrel
    have HIr := Lib.hid (HI6.out.new hnew)
    have HXr := Lib.hid (HX6.out.new hnew)
    have HAr := Lib.hid (HA6.out.new hnew)
    by_cases hlt : k < K
    · obtain ⟨b, o, y, rfl, hy, hb, c0, c1, c2'⟩ := hosts_at HIr.out (k := k) (by rw [HK.out]; exact hlt)
      have hki : (k : Int) < (K : Int) := by omega
      have hyc := HCNT.out y (List.mem_of_getElem? hy)
      obtain ⟨y0, y1, y2⟩ := y
      simp only at c0 c1 c2' hyc
      clear hy
      by_cases hup : y2 = 1
      · subst hup
        rw [if_pos rfl] at hyc
        have HC := Lib.hid hyc
        clear hyc
        go_wp2_with fail
        refine (countOf_impl A6 Tn c6 (turnsTo uu T Tn) y0 _ (turnsTo_len _ _ _) hTml HAr.out).mono ?_
        rintro e w' ⟨rfl, rfl⟩
        rw [HC.out]
        go_wp2_with fail
        go_roundw
        case rel => exact ⟨k + 1, by omega, by go_num, hnew⟩
        case measure => simp [intOf]; omega
      · have hup' : (y2 == 1) = false := by simpa using hup
        rw [if_neg hup] at hyc
        have HC := Lib.hid hyc
        clear hyc
        go_wp2_with fail
        refine (countOf_impl A6 Tn c6 (turnsTo uu T Tn) y0 _ (turnsTo_len _ _ _) hTml HAr.out).mono ?_
        rintro e w' ⟨rfl, rfl⟩
        rw [HC.out]
        go_wp2_with fail
        go_roundw
        case rel => exact ⟨k + 1, by omega, by go_num, hnew⟩
        case measure => simp [intOf]; omega
    · obtain rfl : k = K := by omega
      have HW := Lib.hid (HB6.out.trans hnew)
      go_wp2_with fail
      obtain ⟨FF, hFF⟩ : ∃ FF, FF = factAt [pVal (.slice (some ⟨g, 0, none⟩) m c2), pVal (.int .i64 (m : Int)), pVal (.int .i64 (m : Int)), pVal (.bool true), pVal (.bool true), pVal (.slice A' k c'), pVal (.int .i64 (m : Int)), pVal (.int .i64 (H : Int)), pRow H (turnsTo uu T H), pVal (.slice (some ⟨g, 0, none⟩) m c2), pVal (.int .i64 (m : Int)), pVal (.int .i64 (H : Int)), pVal (.slice (some ⟨g, 0, none⟩) H c2), pVal (.bool true), pVal (.bool true), pVal (.bool true)] := ⟨_, rfl⟩
      have HFF := Lib.hid hFF
      clear hFF
      refine wp_region_tail 16 (by kernel_rfl) (by kernel_rfl) (by kernel_rfl) (by decide) (LrI wr) FF New (by rw [HFF.out]; exact factAt_keptN (by
          intro P hP
          simp only [List.mem_cons, List.not_mem_nil, or_false] at hP
          rcases hP with rfl | rfl | rfl | rfl | rfl | rfl | rfl | rfl | rfl | rfl | rfl | rfl | rfl | rfl | rfl | rfl
          · exact keptN_val _
          · exact keptN_val _
          · exact keptN_val _
          · exact keptN_val _
          · exact keptN_val _
          · exact keptN_val _
          · exact keptN_val _
          · exact keptN_val _
          · exact keptN_row _ _
          · exact keptN_val _
          · exact keptN_val _
          · exact keptN_val _
          · exact keptN_val _
          · exact keptN_val _
          · exact keptN_val _
          · exact keptN_val _
          )) (New.drew (New.refl _)) ?_ ?_
      · refine ⟨?_, ?_, ?_, ?_, ?_, ?_, ?_, ?_, ?_, ?_, ?_, ?_, ?_, ?_, ?_, ?_, trivial⟩
        · -- 0: Op.move t5
          intro vs kq wq hI hF
          have hI : New wr wq := hI
          clear hF
          simp only [fillTo, dstOf, List.getElem?_toArray, List.getElem?_cons_zero, List.getElem?_cons_succ, Option.bind_some, Act.put, List.setIfInBounds_toArray, List.set_cons_zero, List.set_cons_succ]
          go_wp2_with fail
          exact ⟨_, rfl, hI, New.refl _, by rw [HFF.out]; exact rfl⟩
        · -- 1: Op.call { builtin len, args := #[t60], argTypes := #[23] }
          intro vs kq wq hI hF
          have hI : New wr wq := hI
          have f0 : pVal (.slice (some ⟨g, 0, none⟩) m c2) (vs 0) wq := (by have h := hF 0 (by rfl); rw [HFF.out] at h; exact h)
          unfold pVal at f0
          clear hF
          simp only [fillTo, dstOf, List.getElem?_toArray, List.getElem?_cons_zero, List.getElem?_cons_succ, Option.bind_some, Act.put, List.setIfInBounds_toArray, List.set_cons_zero, List.set_cons_succ, f0]
          clear f0
          go_wp2_with fail
          exact ⟨_, rfl, hI, New.refl _, by rw [HFF.out]; exact rfl⟩
        · -- 2: Op.move t4
          intro vs kq wq hI hF
          have hI : New wr wq := hI
          clear hF
          simp only [fillTo, dstOf, List.getElem?_toArray, List.getElem?_cons_zero, List.getElem?_cons_succ, Option.bind_some, Act.put, List.setIfInBounds_toArray, List.set_cons_zero, List.set_cons_succ]
          go_wp2_with fail
          exact ⟨_, rfl, hI, New.refl _, by rw [HFF.out]; exact rfl⟩
        · -- 3: Op.binOp BinOp.eql 3 t61 t62 3
          intro vs kq wq hI hF
          have hI : New wr wq := hI
          have f1 : pVal (.int .i64 (m : Int)) (vs 1) wq := (by have h := hF 1 (by rfl); rw [HFF.out] at h; exact h)
          unfold pVal at f1
          have f2 : pVal (.int .i64 (m : Int)) (vs 2) wq := (by have h := hF 2 (by rfl); rw [HFF.out] at h; exact h)
          unfold pVal at f2
          clear hF
          simp only [fillTo, dstOf, List.getElem?_toArray, List.getElem?_cons_zero, List.getElem?_cons_succ, Option.bind_some, Act.put, List.setIfInBounds_toArray, List.set_cons_zero, List.set_cons_succ, f1, f2]
          clear f1 f2
          go_wp2_with fail
          exact ⟨_, rfl, hI, New.refl _, by rw [HFF.out]; exact rfl⟩
        · -- 4: Op.move t63
          intro vs kq wq hI hF
          have hI : New wr wq := hI
          have f3 : pVal (.bool true) (vs 3) wq := (by have h := hF 3 (by rfl); rw [HFF.out] at h; exact h)
          unfold pVal at f3
          clear hF
          simp only [fillTo, dstOf, List.getElem?_toArray, List.getElem?_cons_zero, List.getElem?_cons_succ, Option.bind_some, Act.put, List.setIfInBounds_toArray, List.set_cons_zero, List.set_cons_succ, f3]
          clear f3
          go_wp2_with fail
          exact ⟨_, rfl, hI, New.refl _, by rw [HFF.out]; exact rfl⟩
        · -- 5: Op.move t3   [guarded: some (4, true)]
          intro vs kq wq hI hF
          have hI : New wr wq := hI
          have f4 : pVal (.bool true) (vs 4) wq := (by have h := hF 4 (by rfl); rw [HFF.out] at h; exact h)
          unfold pVal at f4
          clear hF
          simp only [fillTo, dstOf, List.getElem?_toArray, List.getElem?_cons_zero, List.getElem?_cons_succ, Option.bind_some, Act.put, List.setIfInBounds_toArray, List.set_cons_zero, List.set_cons_succ, f4]
          clear f4
          go_wp2_with fail
          exact ⟨_, rfl, hI, New.refl _, by rw [HFF.out]; exact rfl⟩
        · -- 6: Op.move t4   [guarded: some (4, true)]
          intro vs kq wq hI hF
          have hI : New wr wq := hI
          have f4 : pVal (.bool true) (vs 4) wq := (by have h := hF 4 (by rfl); rw [HFF.out] at h; exact h)
          unfold pVal at f4
          clear hF
          simp only [fillTo, dstOf, List.getElem?_toArray, List.getElem?_cons_zero, List.getElem?_cons_succ, Option.bind_some, Act.put, List.setIfInBounds_toArray, List.set_cons_zero, List.set_cons_succ, f4]
          clear f4
          go_wp2_with fail
          exact ⟨_, rfl, hI, New.refl _, by rw [HFF.out]; exact rfl⟩
        · -- 7: Op.binOp BinOp.quo 3 t66 (const (2:i64)) 3   [guarded: some 
          intro vs kq wq hI hF
          have hI : New wr wq := hI
          have f6 : pVal (.int .i64 (m : Int)) (vs 6) wq := (by have h := hF 6 (by rfl); rw [HFF.out] at h; exact h)
          unfold pVal at f6
          have f4 : pVal (.bool true) (vs 4) wq := (by have h := hF 4 (by rfl); rw [HFF.out] at h; exact h)
          unfold pVal at f4
          clear hF
          simp only [fillTo, dstOf, List.getElem?_toArray, List.getElem?_cons_zero, List.getElem?_cons_succ, Option.bind_some, Act.put, List.setIfInBounds_toArray, List.set_cons_zero, List.set_cons_succ, f6, f4]
          clear f6 f4
          go_wp2_with fail
          exact ⟨_, rfl, hI, New.refl _, by rw [HFF.out]; exact rfl⟩
        · -- 8: Op.call { value (Operand.func 31), args := #[t65, t67], argT
          intro vs kq wq hI hF
          have hI : New wr wq := hI
          have f5 : pVal (.slice A' k c') (vs 5) wq := (by have h := hF 5 (by rfl); rw [HFF.out] at h; exact h)
          unfold pVal at f5
          have f7 : pVal (.int .i64 (H : Int)) (vs 7) wq := (by have h := hF 7 (by rfl); rw [HFF.out] at h; exact h)
          unfold pVal at f7
          have f4 : pVal (.bool true) (vs 4) wq := (by have h := hF 4 (by rfl); rw [HFF.out] at h; exact h)
          unfold pVal at f4
          clear hF
          simp only [fillTo, dstOf, List.getElem?_toArray, List.getElem?_cons_zero, List.getElem?_cons_succ, Option.bind_some, Act.put, List.setIfInBounds_toArray, List.set_cons_zero, List.set_cons_succ, f5, f7, f4]
          clear f5 f7 f4
          go_wp2_with fail
          refine (IMH.out _ (HIr.out.new hI)).mono ?_
          rintro e w' ⟨A14, c14, rfl, nc14, cm14, o14, hb⟩
          go_wp2_with fail
          exact ⟨_, rfl, New.trans hI hb, hb, by rw [HFF.out]; exact ⟨_, _, rfl, nc14, cm14, o14.ints⟩⟩
        · -- 9: Op.move t5   [guarded: some (4, true)]
          intro vs kq wq hI hF
          have hI : New wr wq := hI
          have f4 : pVal (.bool true) (vs 4) wq := (by have h := hF 4 (by rfl); rw [HFF.out] at h; exact h)
          unfold pVal at f4
          clear hF
          simp only [fillTo, dstOf, List.getElem?_toArray, List.getElem?_cons_zero, List.getElem?_cons_succ, Option.bind_some, Act.put, List.setIfInBounds_toArray, List.set_cons_zero, List.set_cons_succ, f4]
          clear f4
          go_wp2_with fail
          exact ⟨_, rfl, hI, New.refl _, by rw [HFF.out]; exact rfl⟩
        · -- 10: Op.move t4   [guarded: some (4, true)]
          intro vs kq wq hI hF
          have hI : New wr wq := hI
          have f4 : pVal (.bool true) (vs 4) wq := (by have h := hF 4 (by rfl); rw [HFF.out] at h; exact h)
          unfold pVal at f4
          clear hF
          simp only [fillTo, dstOf, List.getElem?_toArray, List.getElem?_cons_zero, List.getElem?_cons_succ, Option.bind_some, Act.put, List.setIfInBounds_toArray, List.set_cons_zero, List.set_cons_succ, f4]
          clear f4
          go_wp2_with fail
          exact ⟨_, rfl, hI, New.refl _, by rw [HFF.out]; exact rfl⟩
        · -- 11: Op.binOp BinOp.quo 3 t70 (const (2:i64)) 3   [guarded: some 
          intro vs kq wq hI hF
          have hI : New wr wq := hI
          have f10 : pVal (.int .i64 (m : Int)) (vs 10) wq := (by have h := hF 10 (by rfl); rw [HFF.out] at h; exact h)
          unfold pVal at f10
          have f4 : pVal (.bool true) (vs 4) wq := (by have h := hF 4 (by rfl); rw [HFF.out] at h; exact h)
          unfold pVal at f4
          clear hF
          simp only [fillTo, dstOf, List.getElem?_toArray, List.getElem?_cons_zero, List.getElem?_cons_succ, Option.bind_some, Act.put, List.setIfInBounds_toArray, List.set_cons_zero, List.set_cons_succ, f10, f4]
          clear f10 f4
          go_wp2_with fail
          exact ⟨_, rfl, hI, New.refl _, by rw [HFF.out]; exact rfl⟩
        · -- 12: Op.slice 23 t69 none (some t71) none   [guarded: some (4, tr
          intro vs kq wq hI hF
          have hI : New wr wq := hI
          have f9 : pVal (.slice (some ⟨g, 0, none⟩) m c2) (vs 9) wq := (by have h := hF 9 (by rfl); rw [HFF.out] at h; exact h)
          unfold pVal at f9
          have f11 : pVal (.int .i64 (H : Int)) (vs 11) wq := (by have h := hF 11 (by rfl); rw [HFF.out] at h; exact h)
          unfold pVal at f11
          have f4 : pVal (.bool true) (vs 4) wq := (by have h := hF 4 (by rfl); rw [HFF.out] at h; exact h)
          unfold pVal at f4
          clear hF
          simp only [fillTo, dstOf, List.getElem?_toArray, List.getElem?_cons_zero, List.getElem?_cons_succ, Option.bind_some, Act.put, List.setIfInBounds_toArray, List.set_cons_zero, List.set_cons_succ, f9, f11, f4]
          clear f9 f11 f4
          go_wp2_with fail
          exact ⟨_, rfl, hI, New.refl _, by rw [HFF.out]; exact rfl⟩
        · -- 13: Op.call { value (Operand.func 32), args := #[t68, t72], argT
          intro vs kq wq hI hF
          have hI : New wr wq := hI
          have f8 : pRow H (turnsTo uu T H) (vs 8) wq := (by have h := hF 8 (by rfl); rw [HFF.out] at h; exact h)
          refine Shut.out ?_
          obtain ⟨A8, c8, f8, nc8, cm8, I8⟩ := f8
          refine Shut.mk ?_
          have f12 : pVal (.slice (some ⟨g, 0, none⟩) H c2) (vs 12) wq := (by have h := hF 12 (by rfl); rw [HFF.out] at h; exact h)
          unfold pVal at f12
          have f4 : pVal (.bool true) (vs 4) wq := (by have h := hF 4 (by rfl); rw [HFF.out] at h; exact h)
          unfold pVal at f4
          clear hF
          simp only [fillTo, dstOf, List.getElem?_toArray, List.getElem?_cons_zero, List.getElem?_cons_succ, Option.bind_some, Act.put, List.setIfInBounds_toArray, List.set_cons_zero, List.set_cons_succ, f8, f12, f4]
          clear f8 f12 f4
          go_wp2_with fail
          refine (sameInts_any A8 (some ⟨g, 0, none⟩) H c8 H c2 (turnsTo uu T H) (turnsTo uu T H) _ (turnsTo_len _ _ _) (turnsTo_len _ _ _) hHml hHml I8 (HXH.out _ (HXr.out.new hI))).mono ?_
          rintro e w' ⟨rfl, hb⟩
          simp only [decide_true]
          go_wp2_with fail
          exact ⟨_, rfl, New.trans hI hb, hb, by rw [HFF.out]; exact rfl⟩
        · -- 14: Op.pick t64 t73 (const (Value.bool false))
          intro vs kq wq hI hF
          have hI : New wr wq := hI
          have f4 : pVal (.bool true) (vs 4) wq := (by have h := hF 4 (by rfl); rw [HFF.out] at h; exact h)
          unfold pVal at f4
          have f13 : pVal (.bool true) (vs 13) wq := (by have h := hF 13 (by rfl); rw [HFF.out] at h; exact h)
          unfold pVal at f13
          clear hF
          simp only [fillTo, dstOf, List.getElem?_toArray, List.getElem?_cons_zero, List.getElem?_cons_succ, Option.bind_some, Act.put, List.setIfInBounds_toArray, List.set_cons_zero, List.set_cons_succ, f4, f13]
          clear f4 f13
          go_wp2_with fail
          exact ⟨_, rfl, hI, New.refl _, by rw [HFF.out]; exact rfl⟩
        · -- 15: Op.assign t74
          intro vs kq wq hI hF
          have hI : New wr wq := hI
          have f14 : pVal (.bool true) (vs 14) wq := (by have h := hF 14 (by rfl); rw [HFF.out] at h; exact h)
          unfold pVal at f14
          clear hF
          simp only [fillTo, dstOf, List.getElem?_toArray, List.getElem?_cons_zero, List.getElem?_cons_succ, Option.bind_some, Act.put, List.setIfInBounds_toArray, List.set_cons_zero, List.set_cons_succ, f14]
          clear f14
          go_wp2_with fail
          exact ⟨_, rfl, hI, New.refl _, by rw [HFF.out]; exact rfl⟩
      · intro vs kq w7 hI hF
        have f15 : pVal (.bool true) (vs 15) w7 := (by have h := hF 15 (by omega); rw [HFF.out] at h; exact h)
        unfold pVal at f15
        have hI : New wr w7 := hI
        clear hF
        simp only [fillTo, dstOf, List.getElem?_toArray, List.getElem?_cons_zero, List.getElem?_cons_succ, Option.bind_some, Act.put, List.setIfInBounds_toArray, List.set_cons_zero, List.set_cons_succ, List.drop_succ_cons, List.drop_zero, f15]
        go_wp2_with fail
        go_ret
        exact ⟨rfl, HW.out.trans hI⟩
end Go.Proofs.Ytdcobkngbpkdfaa
