/- The laws FnExactFlowsOn, FnExactFindFlow. -/
import Derived.Test.YtdcobkngbpkdfaaFind
import Derived.Test.YtdcobkngbpkdfaaTabX
namespace Go.Proofs.Ytdcobkngbpkdfaa
set_option linter.unusedVariables false
set_option linter.unusedSimpArgs false
open Go.RowKit Go.Sort

def pTab (n : Nat) (x y : Int) (es : List Ent) (v : Value) (w : World) : Prop := ∃ A c, v = .agg #[.int .i64 x, .int .i64 y, .slice A n c] ∧ n ≤ c ∧ c ≤ maxLen ∧ Ints w A (flatE es)
theorem keptN_tab (n : Nat) (x y : Int) (es : List Ent) : KeptN (pTab n x y es) := fun _ _ _ hb ⟨A, c, h1, h2, h3, h4⟩ => ⟨A, c, h1, h2, h3, h4.new hb⟩
set_option maxRecDepth 100000 in
set_option maxHeartbeats 2000000 in
theorem walk_FnExactFlowsOn (x y : Int) (A : Option Addr) (n c : Nat) (zs : List Int) (H : Int) (w : World) (_hx : (Lit.int .i64 x).wf = true) (_hy : (Lit.int .i64 y).wf = true) (HA : ArgInts .i64 w A n c 7 zs) (_hH : (Lit.int .i64 H).wf = true) :
    Calls Try.prog 5 #[.agg #[.int .i64 x, .int .i64 y, .slice A n c], .int .i64 H] w fun e w' => e = .returned (.bool true) ∧ New w w' := by
  obtain ⟨es, rfl, hlen⟩ := ents_of HA
  have h := HA.2.2.2.2
  have hgr := gr_cells
  have hml : n ≤ maxLen := Nat.le_trans HA.1 HA.2.1
  have hm' := hml
  unfold maxLen at hm'
  have HL := Lib.hid hlen
  clear hlen HA
  by_cases hbig : 1048576 < n
  · have HZ := Lib.hid (show (if (1048576 : Int) < (n : Int) then (-1 : Int) else 1048576 - n) = -1 by rw [if_pos (by omega)])
    go_enter Try.func5, Try.ntmps5
    go_wp2_with fail
    refine (szTable_any x y A n c 1048576 _ hml (by omega) (by omega)).mono ?_
    rintro e w1 ⟨rfl, b1⟩
    rw [HZ.out]
    have hc1 := New.cells b1; have hf1 := New.marks b1; have hz1 := New.le b1; try simp only [World.size_alloc, World.size_setCell] at hz1
    try have z1_0_0 : w.heap.size < w1.heap.size := by omega
    try have z1_0_1 : w.heap.size + 1 < w1.heap.size := by omega
    try have z1_0_2 : w.heap.size + 2 < w1.heap.size := by omega
    go_wp2_with fail
    go_ret
    exact ⟨rfl, (by repeat (first | with_reducible assumption | with_reducible exact New.refl _ | with_reducible refine New.alloc ?_ _ | with_reducible refine New.drew ?_ | with_reducible refine New.drewN ?_ _ | refine New.setCell ?_ (by first | (simp; done) | omega | (simp; omega)) _ | with_reducible refine New.trans ?_ (by with_reducible assumption)))⟩
  have HZ := Lib.hid (show (if (1048576 : Int) < (n : Int) then (-1 : Int) else 1048576 - n) = 1048576 - n by rw [if_neg (by omega)])
  have hq : decide ((1048576 : Int) - n < 0) = false := by simp; omega
  obtain ⟨Z, hZ⟩ : ∃ Z, flowsZ x y es H = Z := ⟨_, rfl⟩
  have HB := Lib.hid hZ
  have HH := Lib.hid h
  clear hZ h
  go_enter Try.func5, Try.ntmps5
  go_wp2_with fail
  refine (szTable_any x y A n c 1048576 _ hml (by omega) (by omega)).mono ?_
  rintro e w1 ⟨rfl, b1⟩
  rw [HZ.out]
  have hc1 := New.cells b1; have hf1 := New.marks b1; have hz1 := New.le b1; try simp only [World.size_alloc, World.size_setCell] at hz1
  try have z1_0_0 : w.heap.size < w1.heap.size := by omega
  try have z1_0_1 : w.heap.size + 1 < w1.heap.size := by omega
  try have z1_0_2 : w.heap.size + 2 < w1.heap.size := by omega
  go_wp2_with fail
  refine (toTable_any x y A n c es _ HL.out (by omega) (HH.out.new (by repeat (first | with_reducible assumption | with_reducible exact New.refl _ | with_reducible refine New.alloc ?_ _ | with_reducible refine New.drew ?_ | with_reducible refine New.drewN ?_ _ | refine New.setCell ?_ (by first | (simp; done) | omega | (simp; omega)) _ | with_reducible refine New.trans ?_ (by with_reducible assumption))))).mono ?_
  rintro e w2 ⟨A2, c2, rfl, nc2, cm2, o2, b2⟩
  have hc2 := New.cells b2; have hf2 := New.marks b2; have hz2 := New.le b2; try simp only [World.size_alloc, World.size_setCell] at hz2
  try have z2_0_0 : w.heap.size < w2.heap.size := by omega
  try have z2_0_1 : w.heap.size + 1 < w2.heap.size := by omega
  try have z2_0_2 : w.heap.size + 2 < w2.heap.size := by omega
  try have z2_1_0 : w1.heap.size < w2.heap.size := by omega
  try have z2_1_1 : w1.heap.size + 1 < w2.heap.size := by omega
  try have z2_1_2 : w1.heap.size + 2 < w2.heap.size := by omega
  go_wp2_with fail
  refine (flowsOn_spec x y A2 n c2 es H _ HL.out nc2 (by omega) o2.ints).mono ?_
  rintro e w3 ⟨rfl, b3⟩
  have hc3 := New.cells b3; have hf3 := New.marks b3; have hz3 := New.le b3; try simp only [World.size_alloc, World.size_setCell] at hz3
  try have z3_0_0 : w.heap.size < w3.heap.size := by omega
  try have z3_0_1 : w.heap.size + 1 < w3.heap.size := by omega
  try have z3_0_2 : w.heap.size + 2 < w3.heap.size := by omega
  try have z3_1_0 : w1.heap.size < w3.heap.size := by omega
  try have z3_1_1 : w1.heap.size + 1 < w3.heap.size := by omega
  try have z3_1_2 : w1.heap.size + 2 < w3.heap.size := by omega
  try have z3_2_0 : w2.heap.size < w3.heap.size := by omega
  try have z3_2_1 : w2.heap.size + 1 < w3.heap.size := by omega
  try have z3_2_2 : w2.heap.size + 2 < w3.heap.size := by omega
  rw [HB.out]
  clear o2
  go_wp2_with fail
  refine (toTable_any x y A n c es _ HL.out (by omega) (HH.out.new (by repeat (first | with_reducible assumption | with_reducible exact New.refl _ | with_reducible refine New.alloc ?_ _ | with_reducible refine New.drew ?_ | with_reducible refine New.drewN ?_ _ | refine New.setCell ?_ (by first | (simp; done) | omega | (simp; omega)) _ | with_reducible refine New.trans ?_ (by with_reducible assumption))))).mono ?_
  rintro e w4 ⟨A4, c4, rfl, nc4, cm4, o4, b4⟩
  have hc4 := New.cells b4; have hf4 := New.marks b4; have hz4 := New.le b4; try simp only [World.size_alloc, World.size_setCell] at hz4
  try have z4_0_0 : w.heap.size < w4.heap.size := by omega
  try have z4_0_1 : w.heap.size + 1 < w4.heap.size := by omega
  try have z4_0_2 : w.heap.size + 2 < w4.heap.size := by omega
  try have z4_1_0 : w1.heap.size < w4.heap.size := by omega
  try have z4_1_1 : w1.heap.size + 1 < w4.heap.size := by omega
  try have z4_1_2 : w1.heap.size + 2 < w4.heap.size := by omega
  try have z4_2_0 : w2.heap.size < w4.heap.size := by omega
  try have z4_2_1 : w2.heap.size + 1 < w4.heap.size := by omega
  try have z4_2_2 : w2.heap.size + 2 < w4.heap.size := by omega
  try have z4_3_0 : w3.heap.size < w4.heap.size := by omega
  try have z4_3_1 : w3.heap.size + 1 < w4.heap.size := by omega
  try have z4_3_2 : w3.heap.size + 2 < w4.heap.size := by omega
  have I4 := o4.ints
  have HI4 := Lib.hid I4
  clear o4 I4
  go_wp2_with fail
  refine (flowsOn_impl x y A4 n c4 es H _ HL.out (by omega) (HI4.out.new (by repeat (first | with_reducible assumption | with_reducible exact New.refl _ | with_reducible refine New.alloc ?_ _ | with_reducible refine New.drew ?_ | with_reducible refine New.drewN ?_ _ | refine New.setCell ?_ (by first | (simp; done) | omega | (simp; omega)) _ | with_reducible refine New.trans ?_ (by with_reducible assumption))))).mono ?_
  rintro e w5 ⟨rfl, b5⟩
  have hc5 := New.cells b5; have hf5 := New.marks b5; have hz5 := New.le b5; try simp only [World.size_alloc, World.size_setCell] at hz5
  try have z5_0_0 : w.heap.size < w5.heap.size := by omega
  try have z5_0_1 : w.heap.size + 1 < w5.heap.size := by omega
  try have z5_0_2 : w.heap.size + 2 < w5.heap.size := by omega
  try have z5_1_0 : w1.heap.size < w5.heap.size := by omega
  try have z5_1_1 : w1.heap.size + 1 < w5.heap.size := by omega
  try have z5_1_2 : w1.heap.size + 2 < w5.heap.size := by omega
  try have z5_2_0 : w2.heap.size < w5.heap.size := by omega
  try have z5_2_1 : w2.heap.size + 1 < w5.heap.size := by omega
  try have z5_2_2 : w2.heap.size + 2 < w5.heap.size := by omega
  try have z5_3_0 : w3.heap.size < w5.heap.size := by omega
  try have z5_3_1 : w3.heap.size + 1 < w5.heap.size := by omega
  try have z5_3_2 : w3.heap.size + 2 < w5.heap.size := by omega
  try have z5_4_0 : w4.heap.size < w5.heap.size := by omega
  try have z5_4_1 : w4.heap.size + 1 < w5.heap.size := by omega
  try have z5_4_2 : w4.heap.size + 2 < w5.heap.size := by omega
  rw [HB.out]
  have HO4 := Lib.hid (HI4.out.new (show New w4 w5 from (by repeat (first | with_reducible assumption | with_reducible exact New.refl _ | with_reducible refine New.alloc ?_ _ | with_reducible refine New.drew ?_ | with_reducible refine New.drewN ?_ _ | refine New.setCell ?_ (by first | (simp; done) | omega | (simp; omega)) _ | with_reducible refine New.trans ?_ (by with_reducible assumption)))))
  have HW5 := Lib.hid (show New w w5 from (by repeat (first | with_reducible assumption | with_reducible exact New.refl _ | with_reducible refine New.alloc ?_ _ | with_reducible refine New.drew ?_ | with_reducible refine New.drewN ?_ _ | refine New.setCell ?_ (by first | (simp; done) | omega | (simp; omega)) _ | with_reducible refine New.trans ?_ (by with_reducible assumption))))
  go_wp2_with fail
  obtain ⟨FF, hFF⟩ : ∃ FF, FF = factAt [pVal (.agg #[.int .i64 x, .int .i64 y, .slice A4 n c4]), pVal (.agg #[.int .i64 x, .int .i64 y, .slice A n c]), pTab n x y es, pVal (.bool true), pVal (.bool false)] := ⟨_, rfl⟩
  have HFF := Lib.hid hFF
  clear hFF
  refine wp_region_tail 5 (by kernel_rfl) (by kernel_rfl) (by kernel_rfl) (by decide) (LrI w5) FF New (by rw [HFF.out]; exact factAt_keptN (by
      intro P hP
      simp only [List.mem_cons, List.not_mem_nil, or_false] at hP
      rcases hP with rfl | rfl | rfl | rfl | rfl
      · exact keptN_val _
      · exact keptN_val _
      · exact keptN_tab _ _ _ _
      · exact keptN_val _
      · exact keptN_val _
      )) (New.drew (New.refl _)) ?_ ?_
  · refine ⟨?_, ?_, ?_, ?_, ?_, trivial⟩
    · -- 0: Op.load 43 t7
      intro vs kq wq hI hF
      have hI : New w5 wq := hI
      clear hF
      simp only [fillTo, dstOf, List.getElem?_toArray, List.getElem?_cons_zero, List.getElem?_cons_succ, Option.bind_some, Act.put, List.setIfInBounds_toArray, List.set_cons_zero, List.set_cons_succ]
      have hcq := New.cells hI; have hzq := New.le hI
      go_wp2_with fail
      exact ⟨_, rfl, hI, New.refl _, by rw [HFF.out]; exact rfl⟩
    · -- 1: Op.load 38 t2
      intro vs kq wq hI hF
      have hI : New w5 wq := hI
      clear hF
      simp only [fillTo, dstOf, List.getElem?_toArray, List.getElem?_cons_zero, List.getElem?_cons_succ, Option.bind_some, Act.put, List.setIfInBounds_toArray, List.set_cons_zero, List.set_cons_succ]
      have hcq := New.cells hI; have hzq := New.le hI
      go_wp2_with fail
      exact ⟨_, rfl, hI, New.refl _, by rw [HFF.out]; exact rfl⟩
    · -- 2: Op.call { value (Operand.func 27), args := #[t27], argTypes 
      intro vs kq wq hI hF
      have hI : New w5 wq := hI
      have f1 : pVal (.agg #[.int .i64 x, .int .i64 y, .slice A n c]) (vs 1) wq := (by have h := hF 1 (by rfl); rw [HFF.out] at h; exact h)
      unfold pVal at f1
      clear hF
      simp only [fillTo, dstOf, List.getElem?_toArray, List.getElem?_cons_zero, List.getElem?_cons_succ, Option.bind_some, Act.put, List.setIfInBounds_toArray, List.set_cons_zero, List.set_cons_succ, f1]
      clear f1
      go_wp2_with fail
      refine (toTable_any x y A n c es _ HL.out (by omega) (HH.out.new (New.trans HW5.out hI))).mono ?_
      rintro e w' ⟨A6, c6, rfl, nc6, cm6, o6, hb⟩
      go_wp2_with fail
      exact ⟨_, rfl, New.trans hI hb, hb, by rw [HFF.out]; exact ⟨A6, c6, rfl, nc6, cm6, o6.ints⟩⟩
    · -- 3: Op.call { value (Operand.func 29), args := #[t26, t28], argT
      intro vs kq wq hI hF
      have hI : New w5 wq := hI
      have f0 : pVal (.agg #[.int .i64 x, .int .i64 y, .slice A4 n c4]) (vs 0) wq := (by have h := hF 0 (by rfl); rw [HFF.out] at h; exact h)
      unfold pVal at f0
      have f2 : pTab n x y es (vs 2) wq := (by have h := hF 2 (by rfl); rw [HFF.out] at h; exact h)
      refine Shut.out ?_
      obtain ⟨A2, c2, f2, nc2, cm2, I2⟩ := f2
      refine Shut.mk ?_
      clear hF
      simp only [fillTo, dstOf, List.getElem?_toArray, List.getElem?_cons_zero, List.getElem?_cons_succ, Option.bind_some, Act.put, List.setIfInBounds_toArray, List.set_cons_zero, List.set_cons_succ, f0, f2]
      clear f0 f2
      go_wp2_with fail
      refine (eqTable_same x y A4 A2 n c4 c2 es _ HL.out hml (HO4.out.new hI) I2).mono ?_
      rintro e w' ⟨rfl, hb⟩
      go_wp2_with fail
      exact ⟨_, rfl, New.trans hI hb, hb, by rw [HFF.out]; exact rfl⟩
    · -- 4: Op.unOp UnOp.not 4 t29
      intro vs kq wq hI hF
      have hI : New w5 wq := hI
      have f3 : pVal (.bool true) (vs 3) wq := (by have h := hF 3 (by rfl); rw [HFF.out] at h; exact h)
      unfold pVal at f3
      clear hF
      simp only [fillTo, dstOf, List.getElem?_toArray, List.getElem?_cons_zero, List.getElem?_cons_succ, Option.bind_some, Act.put, List.setIfInBounds_toArray, List.set_cons_zero, List.set_cons_succ, f3]
      clear f3
      go_wp2_with fail
      exact ⟨_, rfl, hI, New.refl _, by rw [HFF.out]; exact rfl⟩
  · intro vs kq w6 hI hF
    have f4 : pVal (.bool false) (vs 4) w6 := (by have h := hF 4 (by omega); rw [HFF.out] at h; exact h)
    unfold pVal at f4
    have hI : New w5 w6 := hI
    clear hF
    simp only [fillTo, dstOf, List.getElem?_toArray, List.getElem?_cons_zero, List.getElem?_cons_succ, Option.bind_some, Act.put, List.setIfInBounds_toArray, List.set_cons_zero, List.set_cons_succ, List.drop_succ_cons, List.drop_zero, f4]
    go_wp2_with fail
    go_ret
    exact ⟨rfl, HW5.out.trans hI⟩
set_option maxRecDepth 100000 in
set_option maxHeartbeats 2000000 in
theorem walk_FnExactFindFlow (x y : Int) (A : Option Addr) (n c : Nat) (zs : List Int) (fa fb fc fd fk : Int) (w : World) (_hx : (Lit.int .i64 x).wf = true) (_hy : (Lit.int .i64 y).wf = true) (HA : ArgInts .i64 w A n c 7 zs) (_hf : (Lit.int .i64 fa).wf = true ∧ (Lit.int .i64 fb).wf = true ∧ (Lit.int .i64 fc).wf = true ∧ (Lit.int .i64 fd).wf = true ∧ (Lit.int .i64 fk).wf = true) :
    Calls Try.prog 7 #[.agg #[.int .i64 x, .int .i64 y, .slice A n c], .agg #[.int .i64 fa, .int .i64 fb, .int .i64 fc, .int .i64 fd, .int .i64 fk]] w fun e w' => e = .returned (.bool true) ∧ New w w' := by
  obtain ⟨es, rfl, hlen⟩ := ents_of HA
  have h := HA.2.2.2.2
  have hgr := gr_cells
  have hml : n ≤ maxLen := Nat.le_trans HA.1 HA.2.1
  have hm' := hml
  unfold maxLen at hm'
  have HL := Lib.hid hlen
  clear hlen HA
  by_cases hbig : 1048576 < n
  · have HZ := Lib.hid (show (if (1048576 : Int) < (n : Int) then (-1 : Int) else 1048576 - n) = -1 by rw [if_pos (by omega)])
    go_enter Try.func7, Try.ntmps7
    go_wp2_with fail
    refine (szTable_any x y A n c 1048576 _ hml (by omega) (by omega)).mono ?_
    rintro e w1 ⟨rfl, b1⟩
    rw [HZ.out]
    have hc1 := New.cells b1; have hf1 := New.marks b1; have hz1 := New.le b1; try simp only [World.size_alloc, World.size_setCell] at hz1
    try have z1_0_0 : w.heap.size < w1.heap.size := by omega
    try have z1_0_1 : w.heap.size + 1 < w1.heap.size := by omega
    try have z1_0_2 : w.heap.size + 2 < w1.heap.size := by omega
    go_wp2_with fail
    go_ret
    exact ⟨rfl, (by repeat (first | with_reducible assumption | with_reducible exact New.refl _ | with_reducible refine New.alloc ?_ _ | with_reducible refine New.drew ?_ | with_reducible refine New.drewN ?_ _ | refine New.setCell ?_ (by first | (simp; done) | omega | (simp; omega)) _ | with_reducible refine New.trans ?_ (by with_reducible assumption)))⟩
  have HZ := Lib.hid (show (if (1048576 : Int) < (n : Int) then (-1 : Int) else 1048576 - n) = 1048576 - n by rw [if_neg (by omega)])
  have hq : decide ((1048576 : Int) - n < 0) = false := by simp; omega
  obtain ⟨Z, hZ⟩ : ∃ Z, findZ x y es fa fb fc fd fk = Z := ⟨_, rfl⟩
  have HB := Lib.hid hZ
  have HH := Lib.hid h
  clear hZ h
  go_enter Try.func7, Try.ntmps7
  go_wp2_with fail
  refine (szTable_any x y A n c 1048576 _ hml (by omega) (by omega)).mono ?_
  rintro e w1 ⟨rfl, b1⟩
  rw [HZ.out]
  have hc1 := New.cells b1; have hf1 := New.marks b1; have hz1 := New.le b1; try simp only [World.size_alloc, World.size_setCell] at hz1
  try have z1_0_0 : w.heap.size < w1.heap.size := by omega
  try have z1_0_1 : w.heap.size + 1 < w1.heap.size := by omega
  try have z1_0_2 : w.heap.size + 2 < w1.heap.size := by omega
  have HW1 := Lib.hid (show New w w1 from (by repeat (first | with_reducible assumption | with_reducible exact New.refl _ | with_reducible refine New.alloc ?_ _ | with_reducible refine New.drew ?_ | with_reducible refine New.drewN ?_ _ | refine New.setCell ?_ (by first | (simp; done) | omega | (simp; omega)) _ | with_reducible refine New.trans ?_ (by with_reducible assumption))))
  go_wp2_with fail
  obtain ⟨FF, hFF⟩ : ∃ FF, FF = factAt [pVal (.agg #[.int .i64 x, .int .i64 y, .slice A n c]), pTab n x y es, pVal (.agg #[.int .i64 fa, .int .i64 fb, .int .i64 fc, .int .i64 fd, .int .i64 fk]), pVal (.agg #[.int .i64 fa, .int .i64 fb, .int .i64 fc, .int .i64 fd, .int .i64 fk]), pVal (.int .i64 Z), pVal (.int .i64 Z)] := ⟨_, rfl⟩
  have HFF := Lib.hid hFF
  clear hFF
  refine wp_region_tail 6 (by kernel_rfl) (by kernel_rfl) (by kernel_rfl) (by decide) (LrI w1) FF New (by rw [HFF.out]; exact factAt_keptN (by
      intro P hP
      simp only [List.mem_cons, List.not_mem_nil, or_false] at hP
      rcases hP with rfl | rfl | rfl | rfl | rfl | rfl
      · exact keptN_val _
      · exact keptN_tab _ _ _ _
      · exact keptN_val _
      · exact keptN_val _
      · exact keptN_val _
      · exact keptN_val _
      )) (New.drew (New.refl _)) ?_ ?_
  · refine ⟨?_, ?_, ?_, ?_, ?_, ?_, trivial⟩
    · -- 0: Op.load 38 t2
      intro vs kq wq hI hF
      have hI : New w1 wq := hI
      clear hF
      simp only [fillTo, dstOf, List.getElem?_toArray, List.getElem?_cons_zero, List.getElem?_cons_succ, Option.bind_some, Act.put, List.setIfInBounds_toArray, List.set_cons_zero, List.set_cons_succ]
      have hcq := New.cells hI; have hzq := New.le hI
      go_wp2_with fail
      exact ⟨_, rfl, hI, New.refl _, by rw [HFF.out]; exact rfl⟩
    · -- 1: Op.call { value (Operand.func 27), args := #[t14], argTypes 
      intro vs kq wq hI hF
      have hI : New w1 wq := hI
      have f0 : pVal (.agg #[.int .i64 x, .int .i64 y, .slice A n c]) (vs 0) wq := (by have h := hF 0 (by rfl); rw [HFF.out] at h; exact h)
      unfold pVal at f0
      clear hF
      simp only [fillTo, dstOf, List.getElem?_toArray, List.getElem?_cons_zero, List.getElem?_cons_succ, Option.bind_some, Act.put, List.setIfInBounds_toArray, List.set_cons_zero, List.set_cons_succ, f0]
      clear f0
      go_wp2_with fail
      refine (toTable_any x y A n c es _ HL.out (by omega) (HH.out.new (New.trans HW1.out hI))).mono ?_
      rintro e w' ⟨A6, c6, rfl, nc6, cm6, o6, hb⟩
      go_wp2_with fail
      exact ⟨_, rfl, New.trans hI hb, hb, by rw [HFF.out]; exact ⟨A6, c6, rfl, nc6, cm6, o6.ints⟩⟩
    · -- 2: Op.load 53 t3
      intro vs kq wq hI hF
      have hI : New w1 wq := hI
      clear hF
      simp only [fillTo, dstOf, List.getElem?_toArray, List.getElem?_cons_zero, List.getElem?_cons_succ, Option.bind_some, Act.put, List.setIfInBounds_toArray, List.set_cons_zero, List.set_cons_succ]
      have hcq := New.cells hI; have hzq := New.le hI
      go_wp2_with fail
      exact ⟨_, rfl, hI, New.refl _, by rw [HFF.out]; exact rfl⟩
    · -- 3: Op.call { value (Operand.func 36), args := #[t16], argTypes 
      intro vs kq wq hI hF
      have hI : New w1 wq := hI
      have f2 : pVal (.agg #[.int .i64 fa, .int .i64 fb, .int .i64 fc, .int .i64 fd, .int .i64 fk]) (vs 2) wq := (by have h := hF 2 (by rfl); rw [HFF.out] at h; exact h)
      unfold pVal at f2
      clear hF
      simp only [fillTo, dstOf, List.getElem?_toArray, List.getElem?_cons_zero, List.getElem?_cons_succ, Option.bind_some, Act.put, List.setIfInBounds_toArray, List.set_cons_zero, List.set_cons_succ, f2]
      clear f2
      go_wp2_with fail
      refine (toFlow_any fa fb fc fd fk _).mono ?_
      rintro e w' ⟨rfl, hb⟩
      go_wp2_with fail
      exact ⟨_, rfl, New.trans hI hb, hb, by rw [HFF.out]; exact rfl⟩
    · -- 4: Op.call { value (Operand.func 35), args := #[t15, t17], argT
      intro vs kq wq hI hF
      have hI : New w1 wq := hI
      have f1 : pTab n x y es (vs 1) wq := (by have h := hF 1 (by rfl); rw [HFF.out] at h; exact h)
      refine Shut.out ?_
      obtain ⟨A1, c1, f1, nc1, cm1, I1⟩ := f1
      refine Shut.mk ?_
      have f3 : pVal (.agg #[.int .i64 fa, .int .i64 fb, .int .i64 fc, .int .i64 fd, .int .i64 fk]) (vs 3) wq := (by have h := hF 3 (by rfl); rw [HFF.out] at h; exact h)
      unfold pVal at f3
      clear hF
      simp only [fillTo, dstOf, List.getElem?_toArray, List.getElem?_cons_zero, List.getElem?_cons_succ, Option.bind_some, Act.put, List.setIfInBounds_toArray, List.set_cons_zero, List.set_cons_succ, f1, f3]
      clear f1 f3
      go_wp2_with fail
      refine (findFlow_spec x y A1 n c1 es fa fb fc fd fk _ HL.out nc1 (by omega) I1).mono ?_
      rintro e w' ⟨rfl, hb⟩
      rw [HB.out]
      go_wp2_with fail
      exact ⟨_, rfl, New.trans hI hb, hb, by rw [HFF.out]; exact rfl⟩
    · -- 5: Op.assign t18
      intro vs kq wq hI hF
      have hI : New w1 wq := hI
      have f4 : pVal (.int .i64 Z) (vs 4) wq := (by have h := hF 4 (by rfl); rw [HFF.out] at h; exact h)
      unfold pVal at f4
      clear hF
      simp only [fillTo, dstOf, List.getElem?_toArray, List.getElem?_cons_zero, List.getElem?_cons_succ, Option.bind_some, Act.put, List.setIfInBounds_toArray, List.set_cons_zero, List.set_cons_succ, f4]
      clear f4
      go_wp2_with fail
      exact ⟨_, rfl, hI, New.refl _, by rw [HFF.out]; exact rfl⟩
  intro vs kq w3 hI hF
  have f5 : pVal (.int .i64 Z) (vs 5) w3 := (by have h := hF 5 (by omega); rw [HFF.out] at h; exact h)
  unfold pVal at f5
  have b3 : New w1 w3 := hI
  clear hF hI HFF FF
  simp only [fillTo, dstOf, List.getElem?_toArray, List.getElem?_cons_zero, List.getElem?_cons_succ, Option.bind_some, Act.put, List.setIfInBounds_toArray, List.set_cons_zero, List.set_cons_succ, List.drop_succ_cons, List.drop_zero, f5]
  clear f5
  have hc3 := New.cells b3; have hf3 := New.marks b3; have hz3 := New.le b3; try simp only [World.size_alloc, World.size_setCell] at hz3
  try have z3_0_0 : w.heap.size < w3.heap.size := by omega
  try have z3_0_1 : w.heap.size + 1 < w3.heap.size := by omega
  try have z3_0_2 : w.heap.size + 2 < w3.heap.size := by omega
  try have z3_1_0 : w1.heap.size < w3.heap.size := by omega
  try have z3_1_1 : w1.heap.size + 1 < w3.heap.size := by omega
  try have z3_1_2 : w1.heap.size + 2 < w3.heap.size := by omega
  try have z3_2_0 : w1.heap.size < w3.heap.size := by omega
  try have z3_2_1 : w1.heap.size + 1 < w3.heap.size := by omega
  try have z3_2_2 : w1.heap.size + 2 < w3.heap.size := by omega
  go_wp2_with fail
  refine (toTable_any x y A n c es _ HL.out (by omega) (HH.out.new (by repeat (first | with_reducible assumption | with_reducible exact New.refl _ | with_reducible refine New.alloc ?_ _ | with_reducible refine New.drew ?_ | with_reducible refine New.drewN ?_ _ | refine New.setCell ?_ (by first | (simp; done) | omega | (simp; omega)) _ | with_reducible refine New.trans ?_ (by with_reducible assumption))))).mono ?_
  rintro e w4 ⟨A4, c4, rfl, nc4, cm4, o4, b4⟩
  have hc4 := New.cells b4; have hf4 := New.marks b4; have hz4 := New.le b4; try simp only [World.size_alloc, World.size_setCell] at hz4
  try have z4_0_0 : w.heap.size < w4.heap.size := by omega
  try have z4_0_1 : w.heap.size + 1 < w4.heap.size := by omega
  try have z4_0_2 : w.heap.size + 2 < w4.heap.size := by omega
  try have z4_1_0 : w1.heap.size < w4.heap.size := by omega
  try have z4_1_1 : w1.heap.size + 1 < w4.heap.size := by omega
  try have z4_1_2 : w1.heap.size + 2 < w4.heap.size := by omega
  try have z4_2_0 : w1.heap.size < w4.heap.size := by omega
  try have z4_2_1 : w1.heap.size + 1 < w4.heap.size := by omega
  try have z4_2_2 : w1.heap.size + 2 < w4.heap.size := by omega
  try have z4_3_0 : w3.heap.size < w4.heap.size := by omega
  try have z4_3_1 : w3.heap.size + 1 < w4.heap.size := by omega
  try have z4_3_2 : w3.heap.size + 2 < w4.heap.size := by omega
  have I4 := o4.ints
  have HI4 := Lib.hid I4
  clear o4 I4
  go_wp2_with fail
  refine wp_region_qb (by kernel_rfl) (by kernel_rfl) ?_
  repeat (go_big_quiet_step ((first | with_reducible exact gr_call (toFlow_any fa fb fc fd fk _) | with_reducible exact gr_call ((findFlow_impl x y A4 n c4 es fa fb fc fd fk _ HL.out (by omega) ((HI4.out.alloc _).new (gr_new _ _ _))).mono fun _ _ h => by rw [HB.out] at h; exact h))))
  with_reducible refine wpQuiet_nil ?_
  intro w5 b5
  have hc5 := New.cells b5; have hf5 := New.marks b5; have hz5 := New.le b5; try simp only [World.size_alloc, World.size_setCell] at hz5
  try have z5_0_0 : w.heap.size < w5.heap.size := by omega
  try have z5_0_1 : w.heap.size + 1 < w5.heap.size := by omega
  try have z5_0_2 : w.heap.size + 2 < w5.heap.size := by omega
  try have z5_1_0 : w1.heap.size < w5.heap.size := by omega
  try have z5_1_1 : w1.heap.size + 1 < w5.heap.size := by omega
  try have z5_1_2 : w1.heap.size + 2 < w5.heap.size := by omega
  try have z5_2_0 : w2.heap.size < w5.heap.size := by omega
  try have z5_2_1 : w2.heap.size + 1 < w5.heap.size := by omega
  try have z5_2_2 : w2.heap.size + 2 < w5.heap.size := by omega
  try have z5_3_0 : w3.heap.size < w5.heap.size := by omega
  try have z5_3_1 : w3.heap.size + 1 < w5.heap.size := by omega
  try have z5_3_2 : w3.heap.size + 2 < w5.heap.size := by omega
  try have z5_4_0 : w4.heap.size < w5.heap.size := by omega
  try have z5_4_1 : w4.heap.size + 1 < w5.heap.size := by omega
  try have z5_4_2 : w4.heap.size + 2 < w5.heap.size := by omega
  have HO4 := Lib.hid (HI4.out.new (show New w4 w5 from (by repeat (first | with_reducible assumption | with_reducible exact New.refl _ | with_reducible refine New.alloc ?_ _ | with_reducible refine New.drew ?_ | with_reducible refine New.drewN ?_ _ | refine New.setCell ?_ (by first | (simp; done) | omega | (simp; omega)) _ | with_reducible refine New.trans ?_ (by with_reducible assumption)))))
  have HW5 := Lib.hid (show New w w5 from (by repeat (first | with_reducible assumption | with_reducible exact New.refl _ | with_reducible refine New.alloc ?_ _ | with_reducible refine New.drew ?_ | with_reducible refine New.drewN ?_ _ | refine New.setCell ?_ (by first | (simp; done) | omega | (simp; omega)) _ | with_reducible refine New.trans ?_ (by with_reducible assumption))))
  go_wp2_with fail
  obtain ⟨FF, hFF⟩ : ∃ FF, FF = factAt [pVal (.agg #[.int .i64 x, .int .i64 y, .slice A4 n c4]), pVal (.agg #[.int .i64 x, .int .i64 y, .slice A n c]), pTab n x y es, pVal (.bool true), pVal (.bool false)] := ⟨_, rfl⟩
  have HFF := Lib.hid hFF
  clear hFF
  refine wp_region_tail 5 (by kernel_rfl) (by kernel_rfl) (by kernel_rfl) (by decide) (LrI w5) FF New (by rw [HFF.out]; exact factAt_keptN (by
      intro P hP
      simp only [List.mem_cons, List.not_mem_nil, or_false] at hP
      rcases hP with rfl | rfl | rfl | rfl | rfl
      · exact keptN_val _
      · exact keptN_val _
      · exact keptN_tab _ _ _ _
      · exact keptN_val _
      · exact keptN_val _
      )) (New.drew (New.refl _)) ?_ ?_
  · refine ⟨?_, ?_, ?_, ?_, ?_, trivial⟩
    · -- 0: Op.load 43 t7
      intro vs kq wq hI hF
      have hI : New w5 wq := hI
      clear hF
      simp only [fillTo, dstOf, List.getElem?_toArray, List.getElem?_cons_zero, List.getElem?_cons_succ, Option.bind_some, Act.put, List.setIfInBounds_toArray, List.set_cons_zero, List.set_cons_succ]
      have hcq := New.cells hI; have hzq := New.le hI
      go_wp2_with fail
      exact ⟨_, rfl, hI, New.refl _, by rw [HFF.out]; exact rfl⟩
    · -- 1: Op.load 38 t2
      intro vs kq wq hI hF
      have hI : New w5 wq := hI
      clear hF
      simp only [fillTo, dstOf, List.getElem?_toArray, List.getElem?_cons_zero, List.getElem?_cons_succ, Option.bind_some, Act.put, List.setIfInBounds_toArray, List.set_cons_zero, List.set_cons_succ]
      have hcq := New.cells hI; have hzq := New.le hI
      go_wp2_with fail
      exact ⟨_, rfl, hI, New.refl _, by rw [HFF.out]; exact rfl⟩
    · -- 2: Op.call { value (Operand.func 27), args := #[t29], argTypes 
      intro vs kq wq hI hF
      have hI : New w5 wq := hI
      have f1 : pVal (.agg #[.int .i64 x, .int .i64 y, .slice A n c]) (vs 1) wq := (by have h := hF 1 (by rfl); rw [HFF.out] at h; exact h)
      unfold pVal at f1
      clear hF
      simp only [fillTo, dstOf, List.getElem?_toArray, List.getElem?_cons_zero, List.getElem?_cons_succ, Option.bind_some, Act.put, List.setIfInBounds_toArray, List.set_cons_zero, List.set_cons_succ, f1]
      clear f1
      go_wp2_with fail
      refine (toTable_any x y A n c es _ HL.out (by omega) (HH.out.new (New.trans HW5.out hI))).mono ?_
      rintro e w' ⟨A6, c6, rfl, nc6, cm6, o6, hb⟩
      go_wp2_with fail
      exact ⟨_, rfl, New.trans hI hb, hb, by rw [HFF.out]; exact ⟨A6, c6, rfl, nc6, cm6, o6.ints⟩⟩
    · -- 3: Op.call { value (Operand.func 29), args := #[t28, t30], argT
      intro vs kq wq hI hF
      have hI : New w5 wq := hI
      have f0 : pVal (.agg #[.int .i64 x, .int .i64 y, .slice A4 n c4]) (vs 0) wq := (by have h := hF 0 (by rfl); rw [HFF.out] at h; exact h)
      unfold pVal at f0
      have f2 : pTab n x y es (vs 2) wq := (by have h := hF 2 (by rfl); rw [HFF.out] at h; exact h)
      refine Shut.out ?_
      obtain ⟨A2, c2, f2, nc2, cm2, I2⟩ := f2
      refine Shut.mk ?_
      clear hF
      simp only [fillTo, dstOf, List.getElem?_toArray, List.getElem?_cons_zero, List.getElem?_cons_succ, Option.bind_some, Act.put, List.setIfInBounds_toArray, List.set_cons_zero, List.set_cons_succ, f0, f2]
      clear f0 f2
      go_wp2_with fail
      refine (eqTable_same x y A4 A2 n c4 c2 es _ HL.out hml (HO4.out.new hI) I2).mono ?_
      rintro e w' ⟨rfl, hb⟩
      go_wp2_with fail
      exact ⟨_, rfl, New.trans hI hb, hb, by rw [HFF.out]; exact rfl⟩
    · -- 4: Op.unOp UnOp.not 4 t31
      intro vs kq wq hI hF
      have hI : New w5 wq := hI
      have f3 : pVal (.bool true) (vs 3) wq := (by have h := hF 3 (by rfl); rw [HFF.out] at h; exact h)
      unfold pVal at f3
      clear hF
      simp only [fillTo, dstOf, List.getElem?_toArray, List.getElem?_cons_zero, List.getElem?_cons_succ, Option.bind_some, Act.put, List.setIfInBounds_toArray, List.set_cons_zero, List.set_cons_succ, f3]
      clear f3
      go_wp2_with fail
      exact ⟨_, rfl, hI, New.refl _, by rw [HFF.out]; exact rfl⟩
  · intro vs kq w6 hI hF
    have f4 : pVal (.bool false) (vs 4) w6 := (by have h := hF 4 (by omega); rw [HFF.out] at h; exact h)
    unfold pVal at f4
    have hI : New w5 w6 := hI
    clear hF
    simp only [fillTo, dstOf, List.getElem?_toArray, List.getElem?_cons_zero, List.getElem?_cons_succ, Option.bind_some, Act.put, List.setIfInBounds_toArray, List.set_cons_zero, List.set_cons_succ, List.drop_succ_cons, List.drop_zero, f4]
    go_wp2_with fail
    go_ret
    exact ⟨rfl, HW5.out.trans hI⟩
end Go.Proofs.Ytdcobkngbpkdfaa
