/- The law FnExactChooseHost. -/
import Derived.Test.YtpbpddggmlgkdaaChoose
import Derived.Test.YtpbpddggmlgkdaaTabX
import Derived.Test.YtpbpddggmlgkdaaHosts
namespace Go.Proofs.Ytpbpddggmlgkdaa
set_option linter.unusedVariables false
set_option linter.unusedSimpArgs false
open Go.RowKit Go.Sort

def pTab (n : Nat) (x y : Int) (es : List Ent) (v : Value) (w : World) : Prop := ∃ A c, v = .agg #[.int .i64 x, .int .i64 y, .slice A n c] ∧ n ≤ c ∧ c ≤ maxLen ∧ Ints w A (flatE es)
theorem keptN_tab (n : Nat) (x y : Int) (es : List Ent) : KeptN (pTab n x y es) := fun _ _ _ hb ⟨A, c, h1, h2, h3, h4⟩ => ⟨A, c, h1, h2, h3, h4.new hb⟩
set_option maxRecDepth 100000 in
set_option maxHeartbeats 3000000 in
theorem walk_FnExactChooseHost (A : Option Addr) (n c : Nat) (zs : List Int) (x y : Int) (A' : Option Addr) (n' c' : Nat) (zs' : List Int) (fa fb fc fd fk : Int) (w : World) (H : ArgInts .i64 w A n c 3 zs) (_hx : (Lit.int .i64 x).wf = true) (_hy : (Lit.int .i64 y).wf = true) (HA : ArgInts .i64 w A' n' c' 7 zs')
    (_hf : (Lit.int .i64 fa).wf = true ∧ (Lit.int .i64 fb).wf = true ∧ (Lit.int .i64 fc).wf = true ∧ (Lit.int .i64 fd).wf = true ∧ (Lit.int .i64 fk).wf = true) :
    Calls Try.prog 9 #[.slice A n c, .agg #[.int .i64 x, .int .i64 y, .slice A' n' c'], .agg #[.int .i64 fa, .int .i64 fb, .int .i64 fc, .int .i64 fd, .int .i64 fk]] w fun e w' => e = .returned (.bool true) ∧ New w w' := by
  obtain ⟨hs, rfl, hlen⟩ := hosts_of H
  obtain ⟨es, rfl, hlen'⟩ := ents_of HA
  have hgr := gr_cells
  have HH := Lib.hid H.2.2.2.2
  have HE := Lib.hid HA.2.2.2.2
  have hml : n ≤ maxLen := Nat.le_trans H.1 H.2.1
  have hmL : n' ≤ maxLen := Nat.le_trans HA.1 HA.2.1
  have hm1 := hml
  have hm2 := hmL
  unfold maxLen at hm1 hm2
  have HN := Lib.hid hlen
  have HL := Lib.hid hlen'
  clear hlen hlen' H HA _hx _hy _hf
  by_cases hbig : 1048576 < n
  · have HZ := Lib.hid (show (if (1048576 : Int) < (n : Int) then (-1 : Int) else 1048576 - n) = -1 by rw [if_pos (by omega)])
    go_enter Try.func9, Try.ntmps9
    go_wp2_with fail
    refine (szHostS_any A n c 1048576 _ hml (by omega) (by omega)).mono ?_
    rintro e w' ⟨rfl, rfl⟩
    rw [HZ.out]
    go_wp2_with fail
    go_ret
    exact ⟨rfl, (by repeat (first | with_reducible assumption | with_reducible exact New.refl _ | with_reducible refine New.alloc ?_ _ | with_reducible refine New.drew ?_ | with_reducible refine New.drewN ?_ _ | refine New.setCell ?_ (by first | (simp; done) | omega | (simp; omega)) _ | with_reducible refine New.trans ?_ (by with_reducible assumption)))⟩
  have HZ := Lib.hid (show (if (1048576 : Int) < (n : Int) then (-1 : Int) else 1048576 - n) = 1048576 - n by rw [if_neg (by omega)])
  have hq : decide ((1048576 : Int) - n < 0) = false := by simp; omega
  by_cases hbig' : 1048576 - n < n'
  · have HZ' := Lib.hid (show (if (1048576 : Int) - n < (n' : Int) then (-1 : Int) else 1048576 - n - n') = -1 by rw [if_pos (by omega)])
    go_enter Try.func9, Try.ntmps9
    go_wp2_with fail
    refine (szHostS_any A n c 1048576 _ hml (by omega) (by omega)).mono ?_
    rintro e w' ⟨rfl, rfl⟩
    rw [HZ.out]
    go_wp2_with fail
    refine (szTable_any x y A' n' c' (1048576 - n) _ hmL (by omega) (by omega)).mono ?_
    rintro e w1 ⟨rfl, b1⟩
    rw [HZ'.out]
    have hc1 := New.cells b1; have hf1 := New.marks b1; have hz1 := New.le b1; try simp only [World.size_alloc, World.size_setCell] at hz1
    try have z1_0_0 : w.heap.size < w1.heap.size := by omega
    try have z1_0_1 : w.heap.size + 1 < w1.heap.size := by omega
    try have z1_0_2 : w.heap.size + 2 < w1.heap.size := by omega
    go_wp2_with fail
    go_ret
    exact ⟨rfl, (by repeat (first | with_reducible assumption | with_reducible exact New.refl _ | with_reducible refine New.alloc ?_ _ | with_reducible refine New.drew ?_ | with_reducible refine New.drewN ?_ _ | refine New.setCell ?_ (by first | (simp; done) | omega | (simp; omega)) _ | with_reducible refine New.trans ?_ (by with_reducible assumption)))⟩
  have HZ' := Lib.hid (show (if (1048576 : Int) - n < (n' : Int) then (-1 : Int) else 1048576 - n - n') = 1048576 - n - n' by rw [if_neg (by omega)])
  have hq' : decide ((1048576 : Int) - n - n' < 0) = false := by simp; omega
  obtain ⟨Z, hZ⟩ : ∃ Z, chooseZ hs x y es fa fb fc fd fk = Z := ⟨_, rfl⟩
  have HB := Lib.hid hZ
  clear hZ
  go_enter Try.func9, Try.ntmps9
  go_wp2_with fail
  refine (szHostS_any A n c 1048576 _ hml (by omega) (by omega)).mono ?_
  rintro e w' ⟨rfl, rfl⟩
  rw [HZ.out]
  go_wp2_with fail
  refine (szTable_any x y A' n' c' (1048576 - n) _ hmL (by omega) (by omega)).mono ?_
  rintro e w1 ⟨rfl, b1⟩
  rw [HZ'.out]
  have hc1 := New.cells b1; have hf1 := New.marks b1; have hz1 := New.le b1; try simp only [World.size_alloc, World.size_setCell] at hz1
  try have z1_0_0 : w.heap.size < w1.heap.size := by omega
  try have z1_0_1 : w.heap.size + 1 < w1.heap.size := by omega
  try have z1_0_2 : w.heap.size + 2 < w1.heap.size := by omega
  have HW1 := Lib.hid (show New w w1 from (by repeat (first | with_reducible assumption | with_reducible exact New.refl _ | with_reducible refine New.alloc ?_ _ | with_reducible refine New.drew ?_ | with_reducible refine New.drewN ?_ _ | refine New.setCell ?_ (by first | (simp; done) | omega | (simp; omega)) _ | with_reducible refine New.trans ?_ (by with_reducible assumption))))
  go_wp2_with fail
  obtain ⟨FF, hFF⟩ : ∃ FF, FF = factAt [pVal (.slice A n c), pRow n (flat hs), pVal (.agg #[.int .i64 x, .int .i64 y, .slice A' n' c']), pTab n' x y es, pVal (.agg #[.int .i64 fa, .int .i64 fb, .int .i64 fc, .int .i64 fd, .int .i64 fk]), pVal (.agg #[.int .i64 fa, .int .i64 fb, .int .i64 fc, .int .i64 fd, .int .i64 fk]), pVal (.int .i64 Z), pVal (.int .i64 Z)] := ⟨_, rfl⟩
  have HFF := Lib.hid hFF
  clear hFF
  refine wp_region_tail 8 (by kernel_rfl) (by kernel_rfl) (by kernel_rfl) (by decide) (LrI w1) FF New (by rw [HFF.out]; exact factAt_keptN (by
      intro P hP
      simp only [List.mem_cons, List.not_mem_nil, or_false] at hP
      rcases hP with rfl | rfl | rfl | rfl | rfl | rfl | rfl | rfl
      · exact keptN_val _
      · exact keptN_row _ _
      · exact keptN_val _
      · exact keptN_tab _ _ _ _
      · exact keptN_val _
      · exact keptN_val _
      · exact keptN_val _
      · exact keptN_val _
      )) (New.drew (New.refl _)) ?_ ?_
  · refine ⟨?_, ?_, ?_, ?_, ?_, ?_, ?_, ?_, trivial⟩
    · -- 0: Op.move t0
      intro vs kq wq hI hF
      have hI : New w1 wq := hI
      clear hF
      simp only [fillTo, dstOf, List.getElem?_toArray, List.getElem?_cons_zero, List.getElem?_cons_succ, Option.bind_some, Act.put, List.setIfInBounds_toArray, List.set_cons_zero, List.set_cons_succ]
      go_wp2_with fail
      exact ⟨_, rfl, hI, New.refl _, by rw [HFF.out]; exact rfl⟩
    · -- 1: Op.call { value (Operand.func 14), args := #[t22], argTypes 
      intro vs kq wq hI hF
      have hI : New w1 wq := hI
      have f0 : pVal (.slice A n c) (vs 0) wq := (by have h := hF 0 (by rfl); rw [HFF.out] at h; exact h)
      unfold pVal at f0
      clear hF
      simp only [fillTo, dstOf, List.getElem?_toArray, List.getElem?_cons_zero, List.getElem?_cons_succ, Option.bind_some, Act.put, List.setIfInBounds_toArray, List.set_cons_zero, List.set_cons_succ, f0]
      clear f0
      go_wp2_with fail
      refine (toHostS_any A n c hs _ HN.out (by omega) (HH.out.new (New.trans HW1.out hI))).mono ?_
      rintro e w' ⟨A6, c6, rfl, nc6, cm6, o6, hb⟩
      go_wp2_with fail
      exact ⟨_, rfl, New.trans hI hb, hb, by rw [HFF.out]; exact ⟨A6, c6, rfl, nc6, cm6, o6.ints⟩⟩
    · -- 2: Op.load 61 t4
      intro vs kq wq hI hF
      have hI : New w1 wq := hI
      clear hF
      simp only [fillTo, dstOf, List.getElem?_toArray, List.getElem?_cons_zero, List.getElem?_cons_succ, Option.bind_some, Act.put, List.setIfInBounds_toArray, List.set_cons_zero, List.set_cons_succ]
      have hcq := New.cells hI; have hzq := New.le hI
      go_wp2_with fail
      exact ⟨_, rfl, hI, New.refl _, by rw [HFF.out]; exact rfl⟩
    · -- 3: Op.call { value (Operand.func 42), args := #[t24], argTypes 
      intro vs kq wq hI hF
      have hI : New w1 wq := hI
      have f2 : pVal (.agg #[.int .i64 x, .int .i64 y, .slice A' n' c']) (vs 2) wq := (by have h := hF 2 (by rfl); rw [HFF.out] at h; exact h)
      unfold pVal at f2
      clear hF
      simp only [fillTo, dstOf, List.getElem?_toArray, List.getElem?_cons_zero, List.getElem?_cons_succ, Option.bind_some, Act.put, List.setIfInBounds_toArray, List.set_cons_zero, List.set_cons_succ, f2]
      clear f2
      go_wp2_with fail
      refine (toTable_any x y A' n' c' es _ HL.out (by omega) (HE.out.new (New.trans HW1.out hI))).mono ?_
      rintro e w' ⟨A6, c6, rfl, nc6, cm6, o6, hb⟩
      go_wp2_with fail
      exact ⟨_, rfl, New.trans hI hb, hb, by rw [HFF.out]; exact ⟨A6, c6, rfl, nc6, cm6, o6.ints⟩⟩
    · -- 4: Op.load 62 t5
      intro vs kq wq hI hF
      have hI : New w1 wq := hI
      clear hF
      simp only [fillTo, dstOf, List.getElem?_toArray, List.getElem?_cons_zero, List.getElem?_cons_succ, Option.bind_some, Act.put, List.setIfInBounds_toArray, List.set_cons_zero, List.set_cons_succ]
      have hcq := New.cells hI; have hzq := New.le hI
      go_wp2_with fail
      exact ⟨_, rfl, hI, New.refl _, by rw [HFF.out]; exact rfl⟩
    · -- 5: Op.call { value (Operand.func 43), args := #[t26], argTypes 
      intro vs kq wq hI hF
      have hI : New w1 wq := hI
      have f4 : pVal (.agg #[.int .i64 fa, .int .i64 fb, .int .i64 fc, .int .i64 fd, .int .i64 fk]) (vs 4) wq := (by have h := hF 4 (by rfl); rw [HFF.out] at h; exact h)
      unfold pVal at f4
      clear hF
      simp only [fillTo, dstOf, List.getElem?_toArray, List.getElem?_cons_zero, List.getElem?_cons_succ, Option.bind_some, Act.put, List.setIfInBounds_toArray, List.set_cons_zero, List.set_cons_succ, f4]
      clear f4
      go_wp2_with fail
      refine (toFlow_any fa fb fc fd fk _).mono ?_
      rintro e w' ⟨rfl, hb⟩
      go_wp2_with fail
      exact ⟨_, rfl, New.trans hI hb, hb, by rw [HFF.out]; exact rfl⟩
    · -- 6: Op.call { value (Operand.func 34), args := #[t23, t25, t27],
      intro vs kq wq hI hF
      have hI : New w1 wq := hI
      have f1 : pRow n (flat hs) (vs 1) wq := (by have h := hF 1 (by rfl); rw [HFF.out] at h; exact h)
      refine Shut.out ?_
      obtain ⟨A1, c1, f1, nc1, cm1, I1⟩ := f1
      refine Shut.mk ?_
      have f3 : pTab n' x y es (vs 3) wq := (by have h := hF 3 (by rfl); rw [HFF.out] at h; exact h)
      refine Shut.out ?_
      obtain ⟨A3, c3, f3, nc3, cm3, I3⟩ := f3
      refine Shut.mk ?_
      have f5 : pVal (.agg #[.int .i64 fa, .int .i64 fb, .int .i64 fc, .int .i64 fd, .int .i64 fk]) (vs 5) wq := (by have h := hF 5 (by rfl); rw [HFF.out] at h; exact h)
      unfold pVal at f5
      clear hF
      simp only [fillTo, dstOf, List.getElem?_toArray, List.getElem?_cons_zero, List.getElem?_cons_succ, Option.bind_some, Act.put, List.setIfInBounds_toArray, List.set_cons_zero, List.set_cons_succ, f1, f3, f5]
      clear f1 f3 f5
      go_wp2_with fail
      refine (choose_spec A1 n c1 hs x y A3 n' c3 es fa fb fc fd fk _ HN.out (by omega) I1 HL.out nc3 (by omega) I3).mono ?_
      rintro e w' ⟨rfl, hb⟩
      rw [HB.out]
      go_wp2_with fail
      exact ⟨_, rfl, New.trans hI hb, hb, by rw [HFF.out]; exact rfl⟩
    · -- 7: Op.assign t28
      intro vs kq wq hI hF
      have hI : New w1 wq := hI
      have f6 : pVal (.int .i64 Z) (vs 6) wq := (by have h := hF 6 (by rfl); rw [HFF.out] at h; exact h)
      unfold pVal at f6
      clear hF
      simp only [fillTo, dstOf, List.getElem?_toArray, List.getElem?_cons_zero, List.getElem?_cons_succ, Option.bind_some, Act.put, List.setIfInBounds_toArray, List.set_cons_zero, List.set_cons_succ, f6]
      clear f6
      go_wp2_with fail
      exact ⟨_, rfl, hI, New.refl _, by rw [HFF.out]; exact rfl⟩
  intro vs kq w3 hI hF
  have f7 : pVal (.int .i64 Z) (vs 7) w3 := (by have h := hF 7 (by omega); rw [HFF.out] at h; exact h)
  unfold pVal at f7
  have b3 : New w1 w3 := hI
  clear hF hI HFF FF
  simp only [fillTo, dstOf, List.getElem?_toArray, List.getElem?_cons_zero, List.getElem?_cons_succ, Option.bind_some, Act.put, List.setIfInBounds_toArray, List.set_cons_zero, List.set_cons_succ, List.drop_succ_cons, List.drop_zero, f7]
  clear f7
  have hc3 := New.cells b3; have hf3 := New.marks b3; have hz3 := New.le b3; try simp only [World.size_alloc, World.size_setCell] at hz3
  try have z3_0_0 : w.heap.size < w3.heap.size := by omega
  try have z3_0_1 : w.heap.size + 1 < w3.heap.size := by omega
  try have z3_0_2 : w.heap.size + 2 < w3.heap.size := by omega
  try have z3_1_0 : w1.heap.size < w3.heap.size := by omega
  try have z3_1_1 : w1.heap.size + 1 < w3.heap.size := by omega
  try have z3_1_2 : w1.heap.size + 2 < w3.heap.size := by omega
  try have z3_2_0 : w2.heap.size < w3.heap.size := by omega
  try have z3_2_1 : w2.heap.size + 1 < w3.heap.size := by omega
  try have z3_2_2 : w2.heap.size + 2 < w3.heap.size := by omega
  go_wp2_with fail
  refine (toHostS_any A n c hs _ HN.out (by omega) (HH.out.new (by repeat (first | with_reducible assumption | with_reducible exact New.refl _ | with_reducible refine New.alloc ?_ _ | with_reducible refine New.drew ?_ | with_reducible refine New.drewN ?_ _ | refine New.setCell ?_ (by first | (simp; done) | omega | (simp; omega)) _ | with_reducible refine New.trans ?_ (by with_reducible assumption))))).mono ?_
  rintro e w4 ⟨A4, c4, rfl, nc4, cm4, o4, b4⟩
  have hc4 := New.cells b4; have hf4 := New.marks b4; have hz4 := New.le b4; try simp only [World.size_alloc, World.size_setCell] at hz4
  try have z4_0_0 : w.heap.size < w4.heap.size := by omega
  try have z4_0_1 : w.heap.size + 1 < w4.heap.size := by omega
  try have z4_0_2 : w.heap.size + 2 < w4.heap.size := by omega
  try have z4_1_0 : w1.heap.size < w4.heap.size := by omega
  try have z4_1_1 : w1.heap.size + 1 < w4.heap.size := by omega
  try have z4_1_2 : w1.heap.size + 2 < w4.heap.size := by omega
  try have z4_2_0 : w2.heap.size < w4.heap.size := by omega
  try have z4_2_1 : w2.heap.size + 1 < w4.heap.size := by omega
  try have z4_2_2 : w2.heap.size + 2 < w4.heap.size := by omega
  try have z4_3_0 : w3.heap.size < w4.heap.size := by omega
  try have z4_3_1 : w3.heap.size + 1 < w4.heap.size := by omega
  try have z4_3_2 : w3.heap.size + 2 < w4.heap.size := by omega
  have HI4 := Lib.hid o4.ints
  clear o4
  go_wp2_with fail
  refine (toTable_any x y A' n' c' es _ HL.out (by omega) (HE.out.new (by repeat (first | with_reducible assumption | with_reducible exact New.refl _ | with_reducible refine New.alloc ?_ _ | with_reducible refine New.drew ?_ | with_reducible refine New.drewN ?_ _ | refine New.setCell ?_ (by first | (simp; done) | omega | (simp; omega)) _ | with_reducible refine New.trans ?_ (by with_reducible assumption))))).mono ?_
  rintro e w5 ⟨A5, c5, rfl, nc5, cm5, o5, b5⟩
  have hc5 := New.cells b5; have hf5 := New.marks b5; have hz5 := New.le b5; try simp only [World.size_alloc, World.size_setCell] at hz5
  try have z5_0_0 : w.heap.size < w5.heap.size := by omega
  try have z5_0_1 : w.heap.size + 1 < w5.heap.size := by omega
  try have z5_0_2 : w.heap.size + 2 < w5.heap.size := by omega
  try have z5_1_0 : w1.heap.size < w5.heap.size := by omega
  try have z5_1_1 : w1.heap.size + 1 < w5.heap.size := by omega
  try have z5_1_2 : w1.heap.size + 2 < w5.heap.size := by omega
  try have z5_2_0 : w2.heap.size < w5.heap.size := by omega
  try have z5_2_1 : w2.heap.size + 1 < w5.heap.size := by omega
  try have z5_2_2 : w2.heap.size + 2 < w5.heap.size := by omega
  try have z5_3_0 : w3.heap.size < w5.heap.size := by omega
  try have z5_3_1 : w3.heap.size + 1 < w5.heap.size := by omega
  try have z5_3_2 : w3.heap.size + 2 < w5.heap.size := by omega
  try have z5_4_0 : w4.heap.size < w5.heap.size := by omega
  try have z5_4_1 : w4.heap.size + 1 < w5.heap.size := by omega
  try have z5_4_2 : w4.heap.size + 2 < w5.heap.size := by omega
  have HI5 := Lib.hid o5.ints
  clear o5
  go_wp2_with fail
  refine wp_region_qb (by kernel_rfl) (by kernel_rfl) ?_
  repeat (go_big_quiet_step ((first | with_reducible exact gr_call (toFlow_any fa fb fc fd fk _) | with_reducible exact gr_call ((choose_impl A4 n c4 hs x y A5 n' c5 es fa fb fc fd fk _ HN.out (by omega) (((HI4.out.new b5).alloc _).new (gr_new _ _ _)) HL.out nc5 (by omega) ((HI5.out.alloc _).new (gr_new _ _ _))).mono fun _ _ h => by rw [HB.out] at h; exact h))))
  with_reducible refine wpQuiet_nil ?_
  intro w6 b6
  have hc6 := New.cells b6; have hf6 := New.marks b6; have hz6 := New.le b6; try simp only [World.size_alloc, World.size_setCell] at hz6
  try have z6_0_0 : w.heap.size < w6.heap.size := by omega
  try have z6_0_1 : w.heap.size + 1 < w6.heap.size := by omega
  try have z6_0_2 : w.heap.size + 2 < w6.heap.size := by omega
  try have z6_1_0 : w1.heap.size < w6.heap.size := by omega
  try have z6_1_1 : w1.heap.size + 1 < w6.heap.size := by omega
  try have z6_1_2 : w1.heap.size + 2 < w6.heap.size := by omega
  try have z6_2_0 : w2.heap.size < w6.heap.size := by omega
  try have z6_2_1 : w2.heap.size + 1 < w6.heap.size := by omega
  try have z6_2_2 : w2.heap.size + 2 < w6.heap.size := by omega
  try have z6_3_0 : w3.heap.size < w6.heap.size := by omega
  try have z6_3_1 : w3.heap.size + 1 < w6.heap.size := by omega
  try have z6_3_2 : w3.heap.size + 2 < w6.heap.size := by omega
  try have z6_4_0 : w4.heap.size < w6.heap.size := by omega
  try have z6_4_1 : w4.heap.size + 1 < w6.heap.size := by omega
  try have z6_4_2 : w4.heap.size + 2 < w6.heap.size := by omega
  try have z6_5_0 : w5.heap.size < w6.heap.size := by omega
  try have z6_5_1 : w5.heap.size + 1 < w6.heap.size := by omega
  try have z6_5_2 : w5.heap.size + 2 < w6.heap.size := by omega
  have HW6 := Lib.hid (show New w w6 from (by repeat (first | with_reducible assumption | with_reducible exact New.refl _ | with_reducible refine New.alloc ?_ _ | with_reducible refine New.drew ?_ | with_reducible refine New.drewN ?_ _ | refine New.setCell ?_ (by first | (simp; done) | omega | (simp; omega)) _ | with_reducible refine New.trans ?_ (by with_reducible assumption))))
  have HI6 := Lib.hid (HI4.out.new (show New w4 w6 from (by repeat (first | with_reducible assumption | with_reducible exact New.refl _ | with_reducible refine New.alloc ?_ _ | with_reducible refine New.drew ?_ | with_reducible refine New.drewN ?_ _ | refine New.setCell ?_ (by first | (simp; done) | omega | (simp; omega)) _ | with_reducible refine New.trans ?_ (by with_reducible assumption)))))
  have HJ6 := Lib.hid (HI5.out.new (show New w5 w6 from (by repeat (first | with_reducible assumption | with_reducible exact New.refl _ | with_reducible refine New.alloc ?_ _ | with_reducible refine New.drew ?_ | with_reducible refine New.drewN ?_ _ | refine New.setCell ?_ (by first | (simp; done) | omega | (simp; omega)) _ | with_reducible refine New.trans ?_ (by with_reducible assumption)))))
  go_wp2_with fail
  refine (toHostS_any A n c hs _ HN.out (by omega) (HH.out.new (by repeat (first | with_reducible assumption | with_reducible exact New.refl _ | with_reducible refine New.alloc ?_ _ | with_reducible refine New.drew ?_ | with_reducible refine New.drewN ?_ _ | refine New.setCell ?_ (by first | (simp; done) | omega | (simp; omega)) _ | with_reducible refine New.trans ?_ (by with_reducible assumption))))).mono ?_
  rintro e w7 ⟨A7, c7, rfl, nc7, cm7, o7, b7⟩
  have hc7 := New.cells b7; have hf7 := New.marks b7; have hz7 := New.le b7; try simp only [World.size_alloc, World.size_setCell] at hz7
  try have z7_0_0 : w.heap.size < w7.heap.size := by omega
  try have z7_0_1 : w.heap.size + 1 < w7.heap.size := by omega
  try have z7_0_2 : w.heap.size + 2 < w7.heap.size := by omega
  try have z7_1_0 : w1.heap.size < w7.heap.size := by omega
  try have z7_1_1 : w1.heap.size + 1 < w7.heap.size := by omega
  try have z7_1_2 : w1.heap.size + 2 < w7.heap.size := by omega
  try have z7_2_0 : w2.heap.size < w7.heap.size := by omega
  try have z7_2_1 : w2.heap.size + 1 < w7.heap.size := by omega
  try have z7_2_2 : w2.heap.size + 2 < w7.heap.size := by omega
  try have z7_3_0 : w3.heap.size < w7.heap.size := by omega
  try have z7_3_1 : w3.heap.size + 1 < w7.heap.size := by omega
  try have z7_3_2 : w3.heap.size + 2 < w7.heap.size := by omega
  try have z7_4_0 : w4.heap.size < w7.heap.size := by omega
  try have z7_4_1 : w4.heap.size + 1 < w7.heap.size := by omega
  try have z7_4_2 : w4.heap.size + 2 < w7.heap.size := by omega
  try have z7_5_0 : w5.heap.size < w7.heap.size := by omega
  try have z7_5_1 : w5.heap.size + 1 < w7.heap.size := by omega
  try have z7_5_2 : w5.heap.size + 2 < w7.heap.size := by omega
  try have z7_6_0 : w6.heap.size < w7.heap.size := by omega
  try have z7_6_1 : w6.heap.size + 1 < w7.heap.size := by omega
  try have z7_6_2 : w6.heap.size + 2 < w7.heap.size := by omega
  have HI7 := Lib.hid o7.ints
  clear o7
  go_wp2_with fail
  refine (eqHostS_same A4 A7 n c4 c7 hs _ HN.out hml (HI6.out.new b7) HI7.out).mono ?_
  rintro e w8 ⟨rfl, b8⟩
  have hc8 := New.cells b8; have hf8 := New.marks b8; have hz8 := New.le b8; try simp only [World.size_alloc, World.size_setCell] at hz8
  try have z8_0_0 : w.heap.size < w8.heap.size := by omega
  try have z8_0_1 : w.heap.size + 1 < w8.heap.size := by omega
  try have z8_0_2 : w.heap.size + 2 < w8.heap.size := by omega
  try have z8_1_0 : w1.heap.size < w8.heap.size := by omega
  try have z8_1_1 : w1.heap.size + 1 < w8.heap.size := by omega
  try have z8_1_2 : w1.heap.size + 2 < w8.heap.size := by omega
  try have z8_2_0 : w2.heap.size < w8.heap.size := by omega
  try have z8_2_1 : w2.heap.size + 1 < w8.heap.size := by omega
  try have z8_2_2 : w2.heap.size + 2 < w8.heap.size := by omega
  try have z8_3_0 : w3.heap.size < w8.heap.size := by omega
  try have z8_3_1 : w3.heap.size + 1 < w8.heap.size := by omega
  try have z8_3_2 : w3.heap.size + 2 < w8.heap.size := by omega
  try have z8_4_0 : w4.heap.size < w8.heap.size := by omega
  try have z8_4_1 : w4.heap.size + 1 < w8.heap.size := by omega
  try have z8_4_2 : w4.heap.size + 2 < w8.heap.size := by omega
  try have z8_5_0 : w5.heap.size < w8.heap.size := by omega
  try have z8_5_1 : w5.heap.size + 1 < w8.heap.size := by omega
  try have z8_5_2 : w5.heap.size + 2 < w8.heap.size := by omega
  try have z8_6_0 : w6.heap.size < w8.heap.size := by omega
  try have z8_6_1 : w6.heap.size + 1 < w8.heap.size := by omega
  try have z8_6_2 : w6.heap.size + 2 < w8.heap.size := by omega
  try have z8_7_0 : w7.heap.size < w8.heap.size := by omega
  try have z8_7_1 : w7.heap.size + 1 < w8.heap.size := by omega
  try have z8_7_2 : w7.heap.size + 2 < w8.heap.size := by omega
  have HW8 := Lib.hid (show New w w8 from (HW6.out.trans b7).trans b8)
  have HI8 := Lib.hid ((HJ6.out.new b7).new b8)
  go_wp2_with fail
  obtain ⟨FF, hFF⟩ : ∃ FF, FF = factAt [pVal (.agg #[.int .i64 x, .int .i64 y, .slice A5 n' c5]), pVal (.agg #[.int .i64 x, .int .i64 y, .slice A' n' c']), pTab n' x y es, pVal (.bool true), pVal (.bool false)] := ⟨_, rfl⟩
  have HFF := Lib.hid hFF
  clear hFF
  refine wp_region_tail 5 (by kernel_rfl) (by kernel_rfl) (by kernel_rfl) (by decide) (LrI w8) FF New (by rw [HFF.out]; exact factAt_keptN (by
      intro P hP
      simp only [List.mem_cons, List.not_mem_nil, or_false] at hP
      rcases hP with rfl | rfl | rfl | rfl | rfl
      · exact keptN_val _
      · exact keptN_val _
      · exact keptN_tab _ _ _ _
      · exact keptN_val _
      · exact keptN_val _
      )) (New.drew (New.refl _)) ?_ ?_
  · refine ⟨?_, ?_, ?_, ?_, ?_, trivial⟩
    · -- 0: Op.load 46 t10
      intro vs kq wq hI hF
      have hI : New w8 wq := hI
      clear hF
      simp only [fillTo, dstOf, List.getElem?_toArray, List.getElem?_cons_zero, List.getElem?_cons_succ, Option.bind_some, Act.put, List.setIfInBounds_toArray, List.set_cons_zero, List.set_cons_succ]
      have hcq := New.cells hI; have hzq := New.le hI
      go_wp2_with fail
      exact ⟨_, rfl, hI, New.refl _, by rw [HFF.out]; exact rfl⟩
    · -- 1: Op.load 61 t4
      intro vs kq wq hI hF
      have hI : New w8 wq := hI
      clear hF
      simp only [fillTo, dstOf, List.getElem?_toArray, List.getElem?_cons_zero, List.getElem?_cons_succ, Option.bind_some, Act.put, List.setIfInBounds_toArray, List.set_cons_zero, List.set_cons_succ]
      have hcq := New.cells hI; have hzq := New.le hI
      go_wp2_with fail
      exact ⟨_, rfl, hI, New.refl _, by rw [HFF.out]; exact rfl⟩
    · -- 2: Op.call { value (Operand.func 42), args := #[t47], argTypes 
      intro vs kq wq hI hF
      have hI : New w8 wq := hI
      have f1 : pVal (.agg #[.int .i64 x, .int .i64 y, .slice A' n' c']) (vs 1) wq := (by have h := hF 1 (by rfl); rw [HFF.out] at h; exact h)
      unfold pVal at f1
      clear hF
      simp only [fillTo, dstOf, List.getElem?_toArray, List.getElem?_cons_zero, List.getElem?_cons_succ, Option.bind_some, Act.put, List.setIfInBounds_toArray, List.set_cons_zero, List.set_cons_succ, f1]
      clear f1
      go_wp2_with fail
      refine (toTable_any x y A' n' c' es _ HL.out (by omega) (HE.out.new (New.trans HW8.out hI))).mono ?_
      rintro e w' ⟨A6, c6, rfl, nc6, cm6, o6, hb⟩
      go_wp2_with fail
      exact ⟨_, rfl, New.trans hI hb, hb, by rw [HFF.out]; exact ⟨A6, c6, rfl, nc6, cm6, o6.ints⟩⟩
    · -- 3: Op.call { value (Operand.func 44), args := #[t46, t48], argT
      intro vs kq wq hI hF
      have hI : New w8 wq := hI
      have f0 : pVal (.agg #[.int .i64 x, .int .i64 y, .slice A5 n' c5]) (vs 0) wq := (by have h := hF 0 (by rfl); rw [HFF.out] at h; exact h)
      unfold pVal at f0
      have f2 : pTab n' x y es (vs 2) wq := (by have h := hF 2 (by rfl); rw [HFF.out] at h; exact h)
      refine Shut.out ?_
      obtain ⟨A2, c2, f2, nc2, cm2, I2⟩ := f2
      refine Shut.mk ?_
      clear hF
      simp only [fillTo, dstOf, List.getElem?_toArray, List.getElem?_cons_zero, List.getElem?_cons_succ, Option.bind_some, Act.put, List.setIfInBounds_toArray, List.set_cons_zero, List.set_cons_succ, f0, f2]
      clear f0 f2
      go_wp2_with fail
      refine (eqTable_same x y A5 A2 n' c5 c2 es _ HL.out hmL (HI8.out.new hI) I2).mono ?_
      rintro e w' ⟨rfl, hb⟩
      go_wp2_with fail
      exact ⟨_, rfl, New.trans hI hb, hb, by rw [HFF.out]; exact rfl⟩
    · -- 4: Op.unOp UnOp.not 4 t49
      intro vs kq wq hI hF
      have hI : New w8 wq := hI
      have f3 : pVal (.bool true) (vs 3) wq := (by have h := hF 3 (by rfl); rw [HFF.out] at h; exact h)
      unfold pVal at f3
      clear hF
      simp only [fillTo, dstOf, List.getElem?_toArray, List.getElem?_cons_zero, List.getElem?_cons_succ, Option.bind_some, Act.put, List.setIfInBounds_toArray, List.set_cons_zero, List.set_cons_succ, f3]
      clear f3
      go_wp2_with fail
      exact ⟨_, rfl, hI, New.refl _, by rw [HFF.out]; exact rfl⟩
  · intro vs kq w9 hI hF
    have f4 : pVal (.bool false) (vs 4) w9 := (by have h := hF 4 (by omega); rw [HFF.out] at h; exact h)
    unfold pVal at f4
    have hI : New w8 w9 := hI
    clear hF
    simp only [fillTo, dstOf, List.getElem?_toArray, List.getElem?_cons_zero, List.getElem?_cons_succ, Option.bind_some, Act.put, List.setIfInBounds_toArray, List.set_cons_zero, List.set_cons_succ, List.drop_succ_cons, List.drop_zero, f4]
    go_wp2_with fail
    go_ret
    exact ⟨rfl, HW8.out.trans hI⟩
end Go.Proofs.Ytpbpddggmlgkdaa
