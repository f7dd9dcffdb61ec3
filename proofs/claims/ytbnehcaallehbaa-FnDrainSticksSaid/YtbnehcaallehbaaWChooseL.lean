/- The laws FnChooseHost, FnDrainSticks. -/
import Derived.Test.YtbnehcaallehbaaDrawTb
import Derived.Test.YtbnehcaallehbaaChoose
import Derived.Test.YtbnehcaallehbaaPlain2
namespace Go.Proofs.Ytbnehcaallehbaa
set_option linter.unusedVariables false
set_option linter.unusedSimpArgs false
open Go.RowKit Go.Sort

set_option maxRecDepth 100000 in
set_option maxHeartbeats 2000000 in
theorem walk_FnChooseHost (A : Option Addr) (n c : Nat) (zs : List Int) (w : World) (H : ArgInts .u8 w A n c 1 zs) :
    Calls Try.prog 12 #[.slice A n c] w fun e w' => e = .returned (.bool true) ∧ New w w' := by
  have hc := CodeArg.of H
  have hm := hc.2.1
  unfold maxLen at hm
  clear H
  by_cases hbig : 1048576 < n
  · go_enter Try.func12, Try.ntmps12
    go_wp2_with fail
    go_ret
    exact ⟨rfl, (by repeat (first | with_reducible assumption | with_reducible exact New.refl _ | with_reducible refine New.alloc ?_ _ | with_reducible refine New.drew ?_ | with_reducible refine New.drewN ?_ _ | refine New.setCell ?_ (by first | (simp; done) | omega | (simp; omega)) _ | with_reducible refine New.trans ?_ (by with_reducible assumption)))⟩
  go_enter Try.func12, Try.ntmps12
  go_wp2_with fail
  refine (DrawChooseHost_any A n c zs _ hc).mono ?_
  rintro e w1 ⟨A2, m2, c2, hs, v, fa, fb, fc, fd, fk, rfl, hm2, hm7, hmc, hcm2, hIH, ⟨sz, st, A1, n1, c1, es, rfl, hn8, hnc, hcm, hel, _, hI⟩, b1⟩
  obtain ⟨Z, hZ⟩ : ∃ Z, chooseZ hs sz st es fa fb fc fd fk = Z := ⟨_, rfl⟩
  have HZ := Lib.hid hZ
  have HM := Lib.hid hm2
  have HH := Lib.hid hIH
  have HEL := Lib.hid hel
  have HI := Lib.hid hI
  have hz1 := New.le b1
  have hmm : m2 ≤ maxLen := by unfold maxLen; omega
  clear hm2 hIH hel hI hc
  cases hP : poolB hs
  · skip
    obtain rfl : Z = -1 := by rw [← hZ]; exact chooseZ_no (by simp [hP])
    clear hZ
    go_wp2_with fail
    refine (choose_impl A2 m2 c2 hs sz st A1 n1 c1 es fa fb fc fd fk _ HM.out (by omega) (HH.out.new (by repeat (first | with_reducible assumption | with_reducible exact New.refl _ | with_reducible refine New.alloc ?_ _ | with_reducible refine New.drew ?_ | with_reducible refine New.drewN ?_ _ | refine New.setCell ?_ (by first | (simp; done) | omega | (simp; omega)) _ | with_reducible refine New.trans ?_ (by with_reducible assumption)))) HEL.out hnc (by omega) (HI.out.new (by repeat (first | with_reducible assumption | with_reducible exact New.refl _ | with_reducible refine New.alloc ?_ _ | with_reducible refine New.drew ?_ | with_reducible refine New.drewN ?_ _ | refine New.setCell ?_ (by first | (simp; done) | omega | (simp; omega)) _ | with_reducible refine New.trans ?_ (by with_reducible assumption))))).mono ?_
    rintro e w2 ⟨rfl, b2⟩
    rw [HZ.out]
    have hc2 := New.cells b2; have hf2 := New.marks b2; have hz2 := New.le b2; try simp only [World.size_alloc, World.size_setCell] at hz2
    try have z2_0_0 : w.heap.size < w2.heap.size := by omega
    try have z2_0_1 : w.heap.size + 1 < w2.heap.size := by omega
    try have z2_0_2 : w.heap.size + 2 < w2.heap.size := by omega
    try have z2_1_0 : w1.heap.size < w2.heap.size := by omega
    try have z2_1_1 : w1.heap.size + 1 < w2.heap.size := by omega
    try have z2_1_2 : w1.heap.size + 2 < w2.heap.size := by omega
    go_wp2_with fail
    refine (choose_spec A2 m2 c2 hs sz st A1 n1 c1 es fa fb fc fd fk _ HM.out (by omega) (HH.out.new (by repeat (first | with_reducible assumption | with_reducible exact New.refl _ | with_reducible refine New.alloc ?_ _ | with_reducible refine New.drew ?_ | with_reducible refine New.drewN ?_ _ | refine New.setCell ?_ (by first | (simp; done) | omega | (simp; omega)) _ | with_reducible refine New.trans ?_ (by with_reducible assumption)))) HEL.out hnc (by omega) (HI.out.new (by repeat (first | with_reducible assumption | with_reducible exact New.refl _ | with_reducible refine New.alloc ?_ _ | with_reducible refine New.drew ?_ | with_reducible refine New.drewN ?_ _ | refine New.setCell ?_ (by first | (simp; done) | omega | (simp; omega)) _ | with_reducible refine New.trans ?_ (by with_reducible assumption))))).mono ?_
    rintro e w3 ⟨rfl, b3⟩
    rw [HZ.out]
    have hc3 := New.cells b3; have hf3 := New.marks b3; have hz3 := New.le b3; try simp only [World.size_alloc, World.size_setCell] at hz3
    try have z3_0_0 : w.heap.size < w3.heap.size := by omega
    try have z3_0_1 : w.heap.size + 1 < w3.heap.size := by omega
    try have z3_0_2 : w.heap.size + 2 < w3.heap.size := by omega
    try have z3_1_0 : w1.heap.size < w3.heap.size := by omega
    try have z3_1_1 : w1.heap.size + 1 < w3.heap.size := by omega
    try have z3_1_2 : w1.heap.size + 2 < w3.heap.size := by omega
    try have z3_2_0 : w2.heap.size < w3.heap.size := by omega
    try have z3_2_1 : w2.heap.size + 1 < w3.heap.size := by omega
    try have z3_2_2 : w2.heap.size + 2 < w3.heap.size := by omega
    go_wp2_with fail
    refine (poolValid_impl A2 m2 c2 hs _ HM.out hmm (HH.out.new (by repeat (first | with_reducible assumption | with_reducible exact New.refl _ | with_reducible refine New.alloc ?_ _ | with_reducible refine New.drew ?_ | with_reducible refine New.drewN ?_ _ | refine New.setCell ?_ (by first | (simp; done) | omega | (simp; omega)) _ | with_reducible refine New.trans ?_ (by with_reducible assumption))))).mono ?_
    rintro e w4 ⟨rfl, b4⟩
    rw [hP]
    have hc4 := New.cells b4; have hf4 := New.marks b4; have hz4 := New.le b4; try simp only [World.size_alloc, World.size_setCell] at hz4
    try have z4_0_0 : w.heap.size < w4.heap.size := by omega
    try have z4_0_1 : w.heap.size + 1 < w4.heap.size := by omega
    try have z4_0_2 : w.heap.size + 2 < w4.heap.size := by omega
    try have z4_1_0 : w1.heap.size < w4.heap.size := by omega
    try have z4_1_1 : w1.heap.size + 1 < w4.heap.size := by omega
    try have z4_1_2 : w1.heap.size + 2 < w4.heap.size := by omega
    try have z4_2_0 : w2.heap.size < w4.heap.size := by omega
    try have z4_2_1 : w2.heap.size + 1 < w4.heap.size := by omega
    try have z4_2_2 : w2.heap.size + 2 < w4.heap.size := by omega
    try have z4_3_0 : w3.heap.size < w4.heap.size := by omega
    try have z4_3_1 : w3.heap.size + 1 < w4.heap.size := by omega
    try have z4_3_2 : w3.heap.size + 2 < w4.heap.size := by omega
    go_wp2_with fail
    refine (alive_any _).mono ?_
    rintro e w5 ⟨rfl, b5⟩
    have hc5 := New.cells b5; have hf5 := New.marks b5; have hz5 := New.le b5; try simp only [World.size_alloc, World.size_setCell] at hz5
    try have z5_0_0 : w.heap.size < w5.heap.size := by omega
    try have z5_0_1 : w.heap.size + 1 < w5.heap.size := by omega
    try have z5_0_2 : w.heap.size + 2 < w5.heap.size := by omega
    try have z5_1_0 : w1.heap.size < w5.heap.size := by omega
    try have z5_1_1 : w1.heap.size + 1 < w5.heap.size := by omega
    try have z5_1_2 : w1.heap.size + 2 < w5.heap.size := by omega
    try have z5_2_0 : w2.heap.size < w5.heap.size := by omega
    try have z5_2_1 : w2.heap.size + 1 < w5.heap.size := by omega
    try have z5_2_2 : w2.heap.size + 2 < w5.heap.size := by omega
    try have z5_3_0 : w3.heap.size < w5.heap.size := by omega
    try have z5_3_1 : w3.heap.size + 1 < w5.heap.size := by omega
    try have z5_3_2 : w3.heap.size + 2 < w5.heap.size := by omega
    try have z5_4_0 : w4.heap.size < w5.heap.size := by omega
    try have z5_4_1 : w4.heap.size + 1 < w5.heap.size := by omega
    try have z5_4_2 : w4.heap.size + 2 < w5.heap.size := by omega
    go_wp2_with fail
    go_ret
    exact ⟨rfl, (by repeat (first | with_reducible assumption | with_reducible exact New.refl _ | with_reducible refine New.alloc ?_ _ | with_reducible refine New.drew ?_ | with_reducible refine New.drewN ?_ _ | refine New.setCell ?_ (by first | (simp; done) | omega | (simp; omega)) _ | with_reducible refine New.trans ?_ (by with_reducible assumption)))⟩
  cases hT : tabB sz st es
  · skip
    obtain rfl : Z = -1 := by rw [← hZ]; exact chooseZ_no (by simp [hT])
    clear hZ
    go_wp2_with fail
    refine (choose_impl A2 m2 c2 hs sz st A1 n1 c1 es fa fb fc fd fk _ HM.out (by omega) (HH.out.new (by repeat (first | with_reducible assumption | with_reducible exact New.refl _ | with_reducible refine New.alloc ?_ _ | with_reducible refine New.drew ?_ | with_reducible refine New.drewN ?_ _ | refine New.setCell ?_ (by first | (simp; done) | omega | (simp; omega)) _ | with_reducible refine New.trans ?_ (by with_reducible assumption)))) HEL.out hnc (by omega) (HI.out.new (by repeat (first | with_reducible assumption | with_reducible exact New.refl _ | with_reducible refine New.alloc ?_ _ | with_reducible refine New.drew ?_ | with_reducible refine New.drewN ?_ _ | refine New.setCell ?_ (by first | (simp; done) | omega | (simp; omega)) _ | with_reducible refine New.trans ?_ (by with_reducible assumption))))).mono ?_
    rintro e w2 ⟨rfl, b2⟩
    rw [HZ.out]
    have hc2 := New.cells b2; have hf2 := New.marks b2; have hz2 := New.le b2; try simp only [World.size_alloc, World.size_setCell] at hz2
    try have z2_0_0 : w.heap.size < w2.heap.size := by omega
    try have z2_0_1 : w.heap.size + 1 < w2.heap.size := by omega
    try have z2_0_2 : w.heap.size + 2 < w2.heap.size := by omega
    try have z2_1_0 : w1.heap.size < w2.heap.size := by omega
    try have z2_1_1 : w1.heap.size + 1 < w2.heap.size := by omega
    try have z2_1_2 : w1.heap.size + 2 < w2.heap.size := by omega
    go_wp2_with fail
    refine (choose_spec A2 m2 c2 hs sz st A1 n1 c1 es fa fb fc fd fk _ HM.out (by omega) (HH.out.new (by repeat (first | with_reducible assumption | with_reducible exact New.refl _ | with_reducible refine New.alloc ?_ _ | with_reducible refine New.drew ?_ | with_reducible refine New.drewN ?_ _ | refine New.setCell ?_ (by first | (simp; done) | omega | (simp; omega)) _ | with_reducible refine New.trans ?_ (by with_reducible assumption)))) HEL.out hnc (by omega) (HI.out.new (by repeat (first | with_reducible assumption | with_reducible exact New.refl _ | with_reducible refine New.alloc ?_ _ | with_reducible refine New.drew ?_ | with_reducible refine New.drewN ?_ _ | refine New.setCell ?_ (by first | (simp; done) | omega | (simp; omega)) _ | with_reducible refine New.trans ?_ (by with_reducible assumption))))).mono ?_
    rintro e w3 ⟨rfl, b3⟩
    rw [HZ.out]
    have hc3 := New.cells b3; have hf3 := New.marks b3; have hz3 := New.le b3; try simp only [World.size_alloc, World.size_setCell] at hz3
    try have z3_0_0 : w.heap.size < w3.heap.size := by omega
    try have z3_0_1 : w.heap.size + 1 < w3.heap.size := by omega
    try have z3_0_2 : w.heap.size + 2 < w3.heap.size := by omega
    try have z3_1_0 : w1.heap.size < w3.heap.size := by omega
    try have z3_1_1 : w1.heap.size + 1 < w3.heap.size := by omega
    try have z3_1_2 : w1.heap.size + 2 < w3.heap.size := by omega
    try have z3_2_0 : w2.heap.size < w3.heap.size := by omega
    try have z3_2_1 : w2.heap.size + 1 < w3.heap.size := by omega
    try have z3_2_2 : w2.heap.size + 2 < w3.heap.size := by omega
    go_wp2_with fail
    refine (poolValid_impl A2 m2 c2 hs _ HM.out hmm (HH.out.new (by repeat (first | with_reducible assumption | with_reducible exact New.refl _ | with_reducible refine New.alloc ?_ _ | with_reducible refine New.drew ?_ | with_reducible refine New.drewN ?_ _ | refine New.setCell ?_ (by first | (simp; done) | omega | (simp; omega)) _ | with_reducible refine New.trans ?_ (by with_reducible assumption))))).mono ?_
    rintro e w4 ⟨rfl, b4⟩
    rw [hP]
    have hc4 := New.cells b4; have hf4 := New.marks b4; have hz4 := New.le b4; try simp only [World.size_alloc, World.size_setCell] at hz4
    try have z4_0_0 : w.heap.size < w4.heap.size := by omega
    try have z4_0_1 : w.heap.size + 1 < w4.heap.size := by omega
    try have z4_0_2 : w.heap.size + 2 < w4.heap.size := by omega
    try have z4_1_0 : w1.heap.size < w4.heap.size := by omega
    try have z4_1_1 : w1.heap.size + 1 < w4.heap.size := by omega
    try have z4_1_2 : w1.heap.size + 2 < w4.heap.size := by omega
    try have z4_2_0 : w2.heap.size < w4.heap.size := by omega
    try have z4_2_1 : w2.heap.size + 1 < w4.heap.size := by omega
    try have z4_2_2 : w2.heap.size + 2 < w4.heap.size := by omega
    try have z4_3_0 : w3.heap.size < w4.heap.size := by omega
    try have z4_3_1 : w3.heap.size + 1 < w4.heap.size := by omega
    try have z4_3_2 : w3.heap.size + 2 < w4.heap.size := by omega
    go_wp2_with fail
    refine (tableValid_impl sz st A1 n1 c1 es _ HEL.out (by omega) (HI.out.new (by repeat (first | with_reducible assumption | with_reducible exact New.refl _ | with_reducible refine New.alloc ?_ _ | with_reducible refine New.drew ?_ | with_reducible refine New.drewN ?_ _ | refine New.setCell ?_ (by first | (simp; done) | omega | (simp; omega)) _ | with_reducible refine New.trans ?_ (by with_reducible assumption))))).mono ?_
    rintro e w5 ⟨rfl, b5⟩
    rw [hT]
    have hc5 := New.cells b5; have hf5 := New.marks b5; have hz5 := New.le b5; try simp only [World.size_alloc, World.size_setCell] at hz5
    try have z5_0_0 : w.heap.size < w5.heap.size := by omega
    try have z5_0_1 : w.heap.size + 1 < w5.heap.size := by omega
    try have z5_0_2 : w.heap.size + 2 < w5.heap.size := by omega
    try have z5_1_0 : w1.heap.size < w5.heap.size := by omega
    try have z5_1_1 : w1.heap.size + 1 < w5.heap.size := by omega
    try have z5_1_2 : w1.heap.size + 2 < w5.heap.size := by omega
    try have z5_2_0 : w2.heap.size < w5.heap.size := by omega
    try have z5_2_1 : w2.heap.size + 1 < w5.heap.size := by omega
    try have z5_2_2 : w2.heap.size + 2 < w5.heap.size := by omega
    try have z5_3_0 : w3.heap.size < w5.heap.size := by omega
    try have z5_3_1 : w3.heap.size + 1 < w5.heap.size := by omega
    try have z5_3_2 : w3.heap.size + 2 < w5.heap.size := by omega
    try have z5_4_0 : w4.heap.size < w5.heap.size := by omega
    try have z5_4_1 : w4.heap.size + 1 < w5.heap.size := by omega
    try have z5_4_2 : w4.heap.size + 2 < w5.heap.size := by omega
    go_wp2_with fail
    refine (alive_any _).mono ?_
    rintro e w6 ⟨rfl, b6⟩
    have hc6 := New.cells b6; have hf6 := New.marks b6; have hz6 := New.le b6; try simp only [World.size_alloc, World.size_setCell] at hz6
    try have z6_0_0 : w.heap.size < w6.heap.size := by omega
    try have z6_0_1 : w.heap.size + 1 < w6.heap.size := by omega
    try have z6_0_2 : w.heap.size + 2 < w6.heap.size := by omega
    try have z6_1_0 : w1.heap.size < w6.heap.size := by omega
    try have z6_1_1 : w1.heap.size + 1 < w6.heap.size := by omega
    try have z6_1_2 : w1.heap.size + 2 < w6.heap.size := by omega
    try have z6_2_0 : w2.heap.size < w6.heap.size := by omega
    try have z6_2_1 : w2.heap.size + 1 < w6.heap.size := by omega
    try have z6_2_2 : w2.heap.size + 2 < w6.heap.size := by omega
    try have z6_3_0 : w3.heap.size < w6.heap.size := by omega
    try have z6_3_1 : w3.heap.size + 1 < w6.heap.size := by omega
    try have z6_3_2 : w3.heap.size + 2 < w6.heap.size := by omega
    try have z6_4_0 : w4.heap.size < w6.heap.size := by omega
    try have z6_4_1 : w4.heap.size + 1 < w6.heap.size := by omega
    try have z6_4_2 : w4.heap.size + 2 < w6.heap.size := by omega
    try have z6_5_0 : w5.heap.size < w6.heap.size := by omega
    try have z6_5_1 : w5.heap.size + 1 < w6.heap.size := by omega
    try have z6_5_2 : w5.heap.size + 2 < w6.heap.size := by omega
    go_wp2_with fail
    go_ret
    exact ⟨rfl, (by repeat (first | with_reducible assumption | with_reducible exact New.refl _ | with_reducible refine New.alloc ?_ _ | with_reducible refine New.drew ?_ | with_reducible refine New.drewN ?_ _ | refine New.setCell ?_ (by first | (simp; done) | omega | (simp; omega)) _ | with_reducible refine New.trans ?_ (by with_reducible assumption)))⟩
  cases hF : flowB fa fb fc fd fk
  · skip
    obtain rfl : Z = -1 := by rw [← hZ]; exact chooseZ_no (by simp [hF])
    clear hZ
    go_wp2_with fail
    refine (choose_impl A2 m2 c2 hs sz st A1 n1 c1 es fa fb fc fd fk _ HM.out (by omega) (HH.out.new (by repeat (first | with_reducible assumption | with_reducible exact New.refl _ | with_reducible refine New.alloc ?_ _ | with_reducible refine New.drew ?_ | with_reducible refine New.drewN ?_ _ | refine New.setCell ?_ (by first | (simp; done) | omega | (simp; omega)) _ | with_reducible refine New.trans ?_ (by with_reducible assumption)))) HEL.out hnc (by omega) (HI.out.new (by repeat (first | with_reducible assumption | with_reducible exact New.refl _ | with_reducible refine New.alloc ?_ _ | with_reducible refine New.drew ?_ | with_reducible refine New.drewN ?_ _ | refine New.setCell ?_ (by first | (simp; done) | omega | (simp; omega)) _ | with_reducible refine New.trans ?_ (by with_reducible assumption))))).mono ?_
    rintro e w2 ⟨rfl, b2⟩
    rw [HZ.out]
    have hc2 := New.cells b2; have hf2 := New.marks b2; have hz2 := New.le b2; try simp only [World.size_alloc, World.size_setCell] at hz2
    try have z2_0_0 : w.heap.size < w2.heap.size := by omega
    try have z2_0_1 : w.heap.size + 1 < w2.heap.size := by omega
    try have z2_0_2 : w.heap.size + 2 < w2.heap.size := by omega
    try have z2_1_0 : w1.heap.size < w2.heap.size := by omega
    try have z2_1_1 : w1.heap.size + 1 < w2.heap.size := by omega
    try have z2_1_2 : w1.heap.size + 2 < w2.heap.size := by omega
    go_wp2_with fail
    refine (choose_spec A2 m2 c2 hs sz st A1 n1 c1 es fa fb fc fd fk _ HM.out (by omega) (HH.out.new (by repeat (first | with_reducible assumption | with_reducible exact New.refl _ | with_reducible refine New.alloc ?_ _ | with_reducible refine New.drew ?_ | with_reducible refine New.drewN ?_ _ | refine New.setCell ?_ (by first | (simp; done) | omega | (simp; omega)) _ | with_reducible refine New.trans ?_ (by with_reducible assumption)))) HEL.out hnc (by omega) (HI.out.new (by repeat (first | with_reducible assumption | with_reducible exact New.refl _ | with_reducible refine New.alloc ?_ _ | with_reducible refine New.drew ?_ | with_reducible refine New.drewN ?_ _ | refine New.setCell ?_ (by first | (simp; done) | omega | (simp; omega)) _ | with_reducible refine New.trans ?_ (by with_reducible assumption))))).mono ?_
    rintro e w3 ⟨rfl, b3⟩
    rw [HZ.out]
    have hc3 := New.cells b3; have hf3 := New.marks b3; have hz3 := New.le b3; try simp only [World.size_alloc, World.size_setCell] at hz3
    try have z3_0_0 : w.heap.size < w3.heap.size := by omega
    try have z3_0_1 : w.heap.size + 1 < w3.heap.size := by omega
    try have z3_0_2 : w.heap.size + 2 < w3.heap.size := by omega
    try have z3_1_0 : w1.heap.size < w3.heap.size := by omega
    try have z3_1_1 : w1.heap.size + 1 < w3.heap.size := by omega
    try have z3_1_2 : w1.heap.size + 2 < w3.heap.size := by omega
    try have z3_2_0 : w2.heap.size < w3.heap.size := by omega
    try have z3_2_1 : w2.heap.size + 1 < w3.heap.size := by omega
    try have z3_2_2 : w2.heap.size + 2 < w3.heap.size := by omega
    go_wp2_with fail
    refine (poolValid_impl A2 m2 c2 hs _ HM.out hmm (HH.out.new (by repeat (first | with_reducible assumption | with_reducible exact New.refl _ | with_reducible refine New.alloc ?_ _ | with_reducible refine New.drew ?_ | with_reducible refine New.drewN ?_ _ | refine New.setCell ?_ (by first | (simp; done) | omega | (simp; omega)) _ | with_reducible refine New.trans ?_ (by with_reducible assumption))))).mono ?_
    rintro e w4 ⟨rfl, b4⟩
    rw [hP]
    have hc4 := New.cells b4; have hf4 := New.marks b4; have hz4 := New.le b4; try simp only [World.size_alloc, World.size_setCell] at hz4
    try have z4_0_0 : w.heap.size < w4.heap.size := by omega
    try have z4_0_1 : w.heap.size + 1 < w4.heap.size := by omega
    try have z4_0_2 : w.heap.size + 2 < w4.heap.size := by omega
    try have z4_1_0 : w1.heap.size < w4.heap.size := by omega
    try have z4_1_1 : w1.heap.size + 1 < w4.heap.size := by omega
    try have z4_1_2 : w1.heap.size + 2 < w4.heap.size := by omega
    try have z4_2_0 : w2.heap.size < w4.heap.size := by omega
    try have z4_2_1 : w2.heap.size + 1 < w4.heap.size := by omega
    try have z4_2_2 : w2.heap.size + 2 < w4.heap.size := by omega
    try have z4_3_0 : w3.heap.size < w4.heap.size := by omega
    try have z4_3_1 : w3.heap.size + 1 < w4.heap.size := by omega
    try have z4_3_2 : w3.heap.size + 2 < w4.heap.size := by omega
    go_wp2_with fail
    refine (tableValid_impl sz st A1 n1 c1 es _ HEL.out (by omega) (HI.out.new (by repeat (first | with_reducible assumption | with_reducible exact New.refl _ | with_reducible refine New.alloc ?_ _ | with_reducible refine New.drew ?_ | with_reducible refine New.drewN ?_ _ | refine New.setCell ?_ (by first | (simp; done) | omega | (simp; omega)) _ | with_reducible refine New.trans ?_ (by with_reducible assumption))))).mono ?_
    rintro e w5 ⟨rfl, b5⟩
    rw [hT]
    have hc5 := New.cells b5; have hf5 := New.marks b5; have hz5 := New.le b5; try simp only [World.size_alloc, World.size_setCell] at hz5
    try have z5_0_0 : w.heap.size < w5.heap.size := by omega
    try have z5_0_1 : w.heap.size + 1 < w5.heap.size := by omega
    try have z5_0_2 : w.heap.size + 2 < w5.heap.size := by omega
    try have z5_1_0 : w1.heap.size < w5.heap.size := by omega
    try have z5_1_1 : w1.heap.size + 1 < w5.heap.size := by omega
    try have z5_1_2 : w1.heap.size + 2 < w5.heap.size := by omega
    try have z5_2_0 : w2.heap.size < w5.heap.size := by omega
    try have z5_2_1 : w2.heap.size + 1 < w5.heap.size := by omega
    try have z5_2_2 : w2.heap.size + 2 < w5.heap.size := by omega
    try have z5_3_0 : w3.heap.size < w5.heap.size := by omega
    try have z5_3_1 : w3.heap.size + 1 < w5.heap.size := by omega
    try have z5_3_2 : w3.heap.size + 2 < w5.heap.size := by omega
    try have z5_4_0 : w4.heap.size < w5.heap.size := by omega
    try have z5_4_1 : w4.heap.size + 1 < w5.heap.size := by omega
    try have z5_4_2 : w4.heap.size + 2 < w5.heap.size := by omega
    go_wp2_with fail
    refine (flowValid_impl fa fb fc fd fk _).mono ?_
    rintro e w6 ⟨rfl, b6⟩
    rw [hF]
    have hc6 := New.cells b6; have hf6 := New.marks b6; have hz6 := New.le b6; try simp only [World.size_alloc, World.size_setCell] at hz6
    try have z6_0_0 : w.heap.size < w6.heap.size := by omega
    try have z6_0_1 : w.heap.size + 1 < w6.heap.size := by omega
    try have z6_0_2 : w.heap.size + 2 < w6.heap.size := by omega
    try have z6_1_0 : w1.heap.size < w6.heap.size := by omega
    try have z6_1_1 : w1.heap.size + 1 < w6.heap.size := by omega
    try have z6_1_2 : w1.heap.size + 2 < w6.heap.size := by omega
    try have z6_2_0 : w2.heap.size < w6.heap.size := by omega
    try have z6_2_1 : w2.heap.size + 1 < w6.heap.size := by omega
    try have z6_2_2 : w2.heap.size + 2 < w6.heap.size := by omega
    try have z6_3_0 : w3.heap.size < w6.heap.size := by omega
    try have z6_3_1 : w3.heap.size + 1 < w6.heap.size := by omega
    try have z6_3_2 : w3.heap.size + 2 < w6.heap.size := by omega
    try have z6_4_0 : w4.heap.size < w6.heap.size := by omega
    try have z6_4_1 : w4.heap.size + 1 < w6.heap.size := by omega
    try have z6_4_2 : w4.heap.size + 2 < w6.heap.size := by omega
    try have z6_5_0 : w5.heap.size < w6.heap.size := by omega
    try have z6_5_1 : w5.heap.size + 1 < w6.heap.size := by omega
    try have z6_5_2 : w5.heap.size + 2 < w6.heap.size := by omega
    go_wp2_with fail
    refine (alive_any _).mono ?_
    rintro e w7 ⟨rfl, b7⟩
    have hc7 := New.cells b7; have hf7 := New.marks b7; have hz7 := New.le b7; try simp only [World.size_alloc, World.size_setCell] at hz7
    try have z7_0_0 : w.heap.size < w7.heap.size := by omega
    try have z7_0_1 : w.heap.size + 1 < w7.heap.size := by omega
    try have z7_0_2 : w.heap.size + 2 < w7.heap.size := by omega
    try have z7_1_0 : w1.heap.size < w7.heap.size := by omega
    try have z7_1_1 : w1.heap.size + 1 < w7.heap.size := by omega
    try have z7_1_2 : w1.heap.size + 2 < w7.heap.size := by omega
    try have z7_2_0 : w2.heap.size < w7.heap.size := by omega
    try have z7_2_1 : w2.heap.size + 1 < w7.heap.size := by omega
    try have z7_2_2 : w2.heap.size + 2 < w7.heap.size := by omega
    try have z7_3_0 : w3.heap.size < w7.heap.size := by omega
    try have z7_3_1 : w3.heap.size + 1 < w7.heap.size := by omega
    try have z7_3_2 : w3.heap.size + 2 < w7.heap.size := by omega
    try have z7_4_0 : w4.heap.size < w7.heap.size := by omega
    try have z7_4_1 : w4.heap.size + 1 < w7.heap.size := by omega
    try have z7_4_2 : w4.heap.size + 2 < w7.heap.size := by omega
    try have z7_5_0 : w5.heap.size < w7.heap.size := by omega
    try have z7_5_1 : w5.heap.size + 1 < w7.heap.size := by omega
    try have z7_5_2 : w5.heap.size + 2 < w7.heap.size := by omega
    try have z7_6_0 : w6.heap.size < w7.heap.size := by omega
    try have z7_6_1 : w6.heap.size + 1 < w7.heap.size := by omega
    try have z7_6_2 : w6.heap.size + 2 < w7.heap.size := by omega
    go_wp2_with fail
    go_ret
    exact ⟨rfl, (by repeat (first | with_reducible assumption | with_reducible exact New.refl _ | with_reducible refine New.alloc ?_ _ | with_reducible refine New.drew ?_ | with_reducible refine New.drewN ?_ _ | refine New.setCell ?_ (by first | (simp; done) | omega | (simp; omega)) _ | with_reducible refine New.trans ?_ (by with_reducible assumption)))⟩
  have hV : (poolB hs && tabB sz st es && flowB fa fb fc fd fk) = true := by simp [hP, hT, hF]
  obtain ⟨O, hO⟩ : ∃ O, findZ sz st es fa fb fc fd fk = O := ⟨_, rfl⟩
  have HO := Lib.hid hO
  obtain ⟨S, hS⟩ : ∃ S, stateZ hs O = S := ⟨_, rfl⟩
  have HS := Lib.hid hS
  have HP := Lib.hid hP
  have HT := Lib.hid hT
  have HFL := Lib.hid hF
  by_cases hold : 0 ≤ O ∧ S ≠ 0
  · obtain ⟨h0, h1⟩ := hold
    obtain rfl : Z = O := by rw [← hZ, ← hO]; exact chooseZ_old hV (by rw [hO]; exact h0) (by rw [hO, hS]; exact h1)
    have hne : (S != 0) = true := by simpa using h1
    clear hZ hO hS hP hT hF hV
    go_wp2_with fail
    refine (choose_impl A2 m2 c2 hs sz st A1 n1 c1 es fa fb fc fd fk _ HM.out (by omega) (HH.out.new (by repeat (first | with_reducible assumption | with_reducible exact New.refl _ | with_reducible refine New.alloc ?_ _ | with_reducible refine New.drew ?_ | with_reducible refine New.drewN ?_ _ | refine New.setCell ?_ (by first | (simp; done) | omega | (simp; omega)) _ | with_reducible refine New.trans ?_ (by with_reducible assumption)))) HEL.out hnc (by omega) (HI.out.new (by repeat (first | with_reducible assumption | with_reducible exact New.refl _ | with_reducible refine New.alloc ?_ _ | with_reducible refine New.drew ?_ | with_reducible refine New.drewN ?_ _ | refine New.setCell ?_ (by first | (simp; done) | omega | (simp; omega)) _ | with_reducible refine New.trans ?_ (by with_reducible assumption))))).mono ?_
    rintro e w2 ⟨rfl, b2⟩
    rw [HZ.out]
    have hc2 := New.cells b2; have hf2 := New.marks b2; have hz2 := New.le b2; try simp only [World.size_alloc, World.size_setCell] at hz2
    try have z2_0_0 : w.heap.size < w2.heap.size := by omega
    try have z2_0_1 : w.heap.size + 1 < w2.heap.size := by omega
    try have z2_0_2 : w.heap.size + 2 < w2.heap.size := by omega
    try have z2_1_0 : w1.heap.size < w2.heap.size := by omega
    try have z2_1_1 : w1.heap.size + 1 < w2.heap.size := by omega
    try have z2_1_2 : w1.heap.size + 2 < w2.heap.size := by omega
    go_wp2_with fail
    refine (choose_spec A2 m2 c2 hs sz st A1 n1 c1 es fa fb fc fd fk _ HM.out (by omega) (HH.out.new (by repeat (first | with_reducible assumption | with_reducible exact New.refl _ | with_reducible refine New.alloc ?_ _ | with_reducible refine New.drew ?_ | with_reducible refine New.drewN ?_ _ | refine New.setCell ?_ (by first | (simp; done) | omega | (simp; omega)) _ | with_reducible refine New.trans ?_ (by with_reducible assumption)))) HEL.out hnc (by omega) (HI.out.new (by repeat (first | with_reducible assumption | with_reducible exact New.refl _ | with_reducible refine New.alloc ?_ _ | with_reducible refine New.drew ?_ | with_reducible refine New.drewN ?_ _ | refine New.setCell ?_ (by first | (simp; done) | omega | (simp; omega)) _ | with_reducible refine New.trans ?_ (by with_reducible assumption))))).mono ?_
    rintro e w3 ⟨rfl, b3⟩
    rw [HZ.out]
    have hc3 := New.cells b3; have hf3 := New.marks b3; have hz3 := New.le b3; try simp only [World.size_alloc, World.size_setCell] at hz3
    try have z3_0_0 : w.heap.size < w3.heap.size := by omega
    try have z3_0_1 : w.heap.size + 1 < w3.heap.size := by omega
    try have z3_0_2 : w.heap.size + 2 < w3.heap.size := by omega
    try have z3_1_0 : w1.heap.size < w3.heap.size := by omega
    try have z3_1_1 : w1.heap.size + 1 < w3.heap.size := by omega
    try have z3_1_2 : w1.heap.size + 2 < w3.heap.size := by omega
    try have z3_2_0 : w2.heap.size < w3.heap.size := by omega
    try have z3_2_1 : w2.heap.size + 1 < w3.heap.size := by omega
    try have z3_2_2 : w2.heap.size + 2 < w3.heap.size := by omega
    go_wp2_with fail
    refine (poolValid_impl A2 m2 c2 hs _ HM.out hmm (HH.out.new (by repeat (first | with_reducible assumption | with_reducible exact New.refl _ | with_reducible refine New.alloc ?_ _ | with_reducible refine New.drew ?_ | with_reducible refine New.drewN ?_ _ | refine New.setCell ?_ (by first | (simp; done) | omega | (simp; omega)) _ | with_reducible refine New.trans ?_ (by with_reducible assumption))))).mono ?_
    rintro e w4 ⟨rfl, b4⟩
    rw [HP.out]
    have hc4 := New.cells b4; have hf4 := New.marks b4; have hz4 := New.le b4; try simp only [World.size_alloc, World.size_setCell] at hz4
    try have z4_0_0 : w.heap.size < w4.heap.size := by omega
    try have z4_0_1 : w.heap.size + 1 < w4.heap.size := by omega
    try have z4_0_2 : w.heap.size + 2 < w4.heap.size := by omega
    try have z4_1_0 : w1.heap.size < w4.heap.size := by omega
    try have z4_1_1 : w1.heap.size + 1 < w4.heap.size := by omega
    try have z4_1_2 : w1.heap.size + 2 < w4.heap.size := by omega
    try have z4_2_0 : w2.heap.size < w4.heap.size := by omega
    try have z4_2_1 : w2.heap.size + 1 < w4.heap.size := by omega
    try have z4_2_2 : w2.heap.size + 2 < w4.heap.size := by omega
    try have z4_3_0 : w3.heap.size < w4.heap.size := by omega
    try have z4_3_1 : w3.heap.size + 1 < w4.heap.size := by omega
    try have z4_3_2 : w3.heap.size + 2 < w4.heap.size := by omega
    go_wp2_with fail
    refine (tableValid_impl sz st A1 n1 c1 es _ HEL.out (by omega) (HI.out.new (by repeat (first | with_reducible assumption | with_reducible exact New.refl _ | with_reducible refine New.alloc ?_ _ | with_reducible refine New.drew ?_ | with_reducible refine New.drewN ?_ _ | refine New.setCell ?_ (by first | (simp; done) | omega | (simp; omega)) _ | with_reducible refine New.trans ?_ (by with_reducible assumption))))).mono ?_
    rintro e w5 ⟨rfl, b5⟩
    rw [HT.out]
    have hc5 := New.cells b5; have hf5 := New.marks b5; have hz5 := New.le b5; try simp only [World.size_alloc, World.size_setCell] at hz5
    try have z5_0_0 : w.heap.size < w5.heap.size := by omega
    try have z5_0_1 : w.heap.size + 1 < w5.heap.size := by omega
    try have z5_0_2 : w.heap.size + 2 < w5.heap.size := by omega
    try have z5_1_0 : w1.heap.size < w5.heap.size := by omega
    try have z5_1_1 : w1.heap.size + 1 < w5.heap.size := by omega
    try have z5_1_2 : w1.heap.size + 2 < w5.heap.size := by omega
    try have z5_2_0 : w2.heap.size < w5.heap.size := by omega
    try have z5_2_1 : w2.heap.size + 1 < w5.heap.size := by omega
    try have z5_2_2 : w2.heap.size + 2 < w5.heap.size := by omega
    try have z5_3_0 : w3.heap.size < w5.heap.size := by omega
    try have z5_3_1 : w3.heap.size + 1 < w5.heap.size := by omega
    try have z5_3_2 : w3.heap.size + 2 < w5.heap.size := by omega
    try have z5_4_0 : w4.heap.size < w5.heap.size := by omega
    try have z5_4_1 : w4.heap.size + 1 < w5.heap.size := by omega
    try have z5_4_2 : w4.heap.size + 2 < w5.heap.size := by omega
    go_wp2_with fail
    refine (flowValid_impl fa fb fc fd fk _).mono ?_
    rintro e w6 ⟨rfl, b6⟩
    rw [HFL.out]
    have hc6 := New.cells b6; have hf6 := New.marks b6; have hz6 := New.le b6; try simp only [World.size_alloc, World.size_setCell] at hz6
    try have z6_0_0 : w.heap.size < w6.heap.size := by omega
    try have z6_0_1 : w.heap.size + 1 < w6.heap.size := by omega
    try have z6_0_2 : w.heap.size + 2 < w6.heap.size := by omega
    try have z6_1_0 : w1.heap.size < w6.heap.size := by omega
    try have z6_1_1 : w1.heap.size + 1 < w6.heap.size := by omega
    try have z6_1_2 : w1.heap.size + 2 < w6.heap.size := by omega
    try have z6_2_0 : w2.heap.size < w6.heap.size := by omega
    try have z6_2_1 : w2.heap.size + 1 < w6.heap.size := by omega
    try have z6_2_2 : w2.heap.size + 2 < w6.heap.size := by omega
    try have z6_3_0 : w3.heap.size < w6.heap.size := by omega
    try have z6_3_1 : w3.heap.size + 1 < w6.heap.size := by omega
    try have z6_3_2 : w3.heap.size + 2 < w6.heap.size := by omega
    try have z6_4_0 : w4.heap.size < w6.heap.size := by omega
    try have z6_4_1 : w4.heap.size + 1 < w6.heap.size := by omega
    try have z6_4_2 : w4.heap.size + 2 < w6.heap.size := by omega
    try have z6_5_0 : w5.heap.size < w6.heap.size := by omega
    try have z6_5_1 : w5.heap.size + 1 < w6.heap.size := by omega
    try have z6_5_2 : w5.heap.size + 2 < w6.heap.size := by omega
    go_wp2_with fail
    refine (findFlow_impl sz st A1 n1 c1 es fa fb fc fd fk _ HEL.out (by omega) (HI.out.new (by repeat (first | with_reducible assumption | with_reducible exact New.refl _ | with_reducible refine New.alloc ?_ _ | with_reducible refine New.drew ?_ | with_reducible refine New.drewN ?_ _ | refine New.setCell ?_ (by first | (simp; done) | omega | (simp; omega)) _ | with_reducible refine New.trans ?_ (by with_reducible assumption))))).mono ?_
    rintro e w7 ⟨rfl, b7⟩
    rw [HO.out]
    have hc7 := New.cells b7; have hf7 := New.marks b7; have hz7 := New.le b7; try simp only [World.size_alloc, World.size_setCell] at hz7
    try have z7_0_0 : w.heap.size < w7.heap.size := by omega
    try have z7_0_1 : w.heap.size + 1 < w7.heap.size := by omega
    try have z7_0_2 : w.heap.size + 2 < w7.heap.size := by omega
    try have z7_1_0 : w1.heap.size < w7.heap.size := by omega
    try have z7_1_1 : w1.heap.size + 1 < w7.heap.size := by omega
    try have z7_1_2 : w1.heap.size + 2 < w7.heap.size := by omega
    try have z7_2_0 : w2.heap.size < w7.heap.size := by omega
    try have z7_2_1 : w2.heap.size + 1 < w7.heap.size := by omega
    try have z7_2_2 : w2.heap.size + 2 < w7.heap.size := by omega
    try have z7_3_0 : w3.heap.size < w7.heap.size := by omega
    try have z7_3_1 : w3.heap.size + 1 < w7.heap.size := by omega
    try have z7_3_2 : w3.heap.size + 2 < w7.heap.size := by omega
    try have z7_4_0 : w4.heap.size < w7.heap.size := by omega
    try have z7_4_1 : w4.heap.size + 1 < w7.heap.size := by omega
    try have z7_4_2 : w4.heap.size + 2 < w7.heap.size := by omega
    try have z7_5_0 : w5.heap.size < w7.heap.size := by omega
    try have z7_5_1 : w5.heap.size + 1 < w7.heap.size := by omega
    try have z7_5_2 : w5.heap.size + 2 < w7.heap.size := by omega
    try have z7_6_0 : w6.heap.size < w7.heap.size := by omega
    try have z7_6_1 : w6.heap.size + 1 < w7.heap.size := by omega
    try have z7_6_2 : w6.heap.size + 2 < w7.heap.size := by omega
    go_wp2_with fail
    refine (hostState_impl A2 m2 c2 hs Z _ HM.out hmm (HH.out.new (by repeat (first | with_reducible assumption | with_reducible exact New.refl _ | with_reducible refine New.alloc ?_ _ | with_reducible refine New.drew ?_ | with_reducible refine New.drewN ?_ _ | refine New.setCell ?_ (by first | (simp; done) | omega | (simp; omega)) _ | with_reducible refine New.trans ?_ (by with_reducible assumption))))).mono ?_
    rintro e w8 ⟨rfl, b8⟩
    rw [HS.out]
    have hc8 := New.cells b8; have hf8 := New.marks b8; have hz8 := New.le b8; try simp only [World.size_alloc, World.size_setCell] at hz8
    try have z8_0_0 : w.heap.size < w8.heap.size := by omega
    try have z8_0_1 : w.heap.size + 1 < w8.heap.size := by omega
    try have z8_0_2 : w.heap.size + 2 < w8.heap.size := by omega
    try have z8_1_0 : w1.heap.size < w8.heap.size := by omega
    try have z8_1_1 : w1.heap.size + 1 < w8.heap.size := by omega
    try have z8_1_2 : w1.heap.size + 2 < w8.heap.size := by omega
    try have z8_2_0 : w2.heap.size < w8.heap.size := by omega
    try have z8_2_1 : w2.heap.size + 1 < w8.heap.size := by omega
    try have z8_2_2 : w2.heap.size + 2 < w8.heap.size := by omega
    try have z8_3_0 : w3.heap.size < w8.heap.size := by omega
    try have z8_3_1 : w3.heap.size + 1 < w8.heap.size := by omega
    try have z8_3_2 : w3.heap.size + 2 < w8.heap.size := by omega
    try have z8_4_0 : w4.heap.size < w8.heap.size := by omega
    try have z8_4_1 : w4.heap.size + 1 < w8.heap.size := by omega
    try have z8_4_2 : w4.heap.size + 2 < w8.heap.size := by omega
    try have z8_5_0 : w5.heap.size < w8.heap.size := by omega
    try have z8_5_1 : w5.heap.size + 1 < w8.heap.size := by omega
    try have z8_5_2 : w5.heap.size + 2 < w8.heap.size := by omega
    try have z8_6_0 : w6.heap.size < w8.heap.size := by omega
    try have z8_6_1 : w6.heap.size + 1 < w8.heap.size := by omega
    try have z8_6_2 : w6.heap.size + 2 < w8.heap.size := by omega
    try have z8_7_0 : w7.heap.size < w8.heap.size := by omega
    try have z8_7_1 : w7.heap.size + 1 < w8.heap.size := by omega
    try have z8_7_2 : w7.heap.size + 2 < w8.heap.size := by omega
    go_wp2_with fail
    go_ret
    exact ⟨rfl, (by repeat (first | with_reducible assumption | with_reducible exact New.refl _ | with_reducible refine New.alloc ?_ _ | with_reducible refine New.drew ?_ | with_reducible refine New.drewN ?_ _ | refine New.setCell ?_ (by first | (simp; done) | omega | (simp; omega)) _ | with_reducible refine New.trans ?_ (by with_reducible assumption)))⟩
  · obtain ⟨K, hK⟩ : ∃ K, flowHashZ fa fb fc fd fk = K := ⟨_, rfl⟩
    have HK := Lib.hid hK
    have hR : rvZ hs K = Z := by rw [← hZ, ← hK]; exact (chooseZ_new hV (by rw [hO, hS]; exact hold)).symm
    have HR := Lib.hid hR
    obtain ⟨S2, hS2⟩ : ∃ S2, stateZ hs Z = S2 := ⟨_, rfl⟩
    have HS2 := Lib.hid hS2
    have hcase : Z < 0 ∨ (0 ≤ Z ∧ S2 = 1) := by
      rcases Int.lt_or_le Z 0 with h | h
      · exact .inl h
      · refine .inr ⟨h, ?_⟩
        rw [← hS2, ← hR]
        exact rv_up (by rw [hR]; exact h)
    clear hS2 hR hK hZ hO hS hP hT hF hV
    by_cases h0 : 0 ≤ O
    · have hS0 : S = 0 := by
        rcases Decidable.em (S = 0) with h | h
        · exact h
        · exact absurd ⟨h0, h⟩ hold
      have hne : (S != 0) = false := by simpa using hS0
      clear hold
      rcases hcase with hn | ⟨hn, h1⟩
      · have hnd : decide (Z < 0) = true := by simpa using hn
        go_wp2_with fail
        refine (choose_impl A2 m2 c2 hs sz st A1 n1 c1 es fa fb fc fd fk _ HM.out (by omega) (HH.out.new (by repeat (first | with_reducible assumption | with_reducible exact New.refl _ | with_reducible refine New.alloc ?_ _ | with_reducible refine New.drew ?_ | with_reducible refine New.drewN ?_ _ | refine New.setCell ?_ (by first | (simp; done) | omega | (simp; omega)) _ | with_reducible refine New.trans ?_ (by with_reducible assumption)))) HEL.out hnc (by omega) (HI.out.new (by repeat (first | with_reducible assumption | with_reducible exact New.refl _ | with_reducible refine New.alloc ?_ _ | with_reducible refine New.drew ?_ | with_reducible refine New.drewN ?_ _ | refine New.setCell ?_ (by first | (simp; done) | omega | (simp; omega)) _ | with_reducible refine New.trans ?_ (by with_reducible assumption))))).mono ?_
        rintro e w2 ⟨rfl, b2⟩
        rw [HZ.out]
        have hc2 := New.cells b2; have hf2 := New.marks b2; have hz2 := New.le b2; try simp only [World.size_alloc, World.size_setCell] at hz2
        try have z2_0_0 : w.heap.size < w2.heap.size := by omega
        try have z2_0_1 : w.heap.size + 1 < w2.heap.size := by omega
        try have z2_0_2 : w.heap.size + 2 < w2.heap.size := by omega
        try have z2_1_0 : w1.heap.size < w2.heap.size := by omega
        try have z2_1_1 : w1.heap.size + 1 < w2.heap.size := by omega
        try have z2_1_2 : w1.heap.size + 2 < w2.heap.size := by omega
        go_wp2_with fail
        refine (choose_spec A2 m2 c2 hs sz st A1 n1 c1 es fa fb fc fd fk _ HM.out (by omega) (HH.out.new (by repeat (first | with_reducible assumption | with_reducible exact New.refl _ | with_reducible refine New.alloc ?_ _ | with_reducible refine New.drew ?_ | with_reducible refine New.drewN ?_ _ | refine New.setCell ?_ (by first | (simp; done) | omega | (simp; omega)) _ | with_reducible refine New.trans ?_ (by with_reducible assumption)))) HEL.out hnc (by omega) (HI.out.new (by repeat (first | with_reducible assumption | with_reducible exact New.refl _ | with_reducible refine New.alloc ?_ _ | with_reducible refine New.drew ?_ | with_reducible refine New.drewN ?_ _ | refine New.setCell ?_ (by first | (simp; done) | omega | (simp; omega)) _ | with_reducible refine New.trans ?_ (by with_reducible assumption))))).mono ?_
        rintro e w3 ⟨rfl, b3⟩
        rw [HZ.out]
        have hc3 := New.cells b3; have hf3 := New.marks b3; have hz3 := New.le b3; try simp only [World.size_alloc, World.size_setCell] at hz3
        try have z3_0_0 : w.heap.size < w3.heap.size := by omega
        try have z3_0_1 : w.heap.size + 1 < w3.heap.size := by omega
        try have z3_0_2 : w.heap.size + 2 < w3.heap.size := by omega
        try have z3_1_0 : w1.heap.size < w3.heap.size := by omega
        try have z3_1_1 : w1.heap.size + 1 < w3.heap.size := by omega
        try have z3_1_2 : w1.heap.size + 2 < w3.heap.size := by omega
        try have z3_2_0 : w2.heap.size < w3.heap.size := by omega
        try have z3_2_1 : w2.heap.size + 1 < w3.heap.size := by omega
        try have z3_2_2 : w2.heap.size + 2 < w3.heap.size := by omega
        go_wp2_with fail
        refine (poolValid_impl A2 m2 c2 hs _ HM.out hmm (HH.out.new (by repeat (first | with_reducible assumption | with_reducible exact New.refl _ | with_reducible refine New.alloc ?_ _ | with_reducible refine New.drew ?_ | with_reducible refine New.drewN ?_ _ | refine New.setCell ?_ (by first | (simp; done) | omega | (simp; omega)) _ | with_reducible refine New.trans ?_ (by with_reducible assumption))))).mono ?_
        rintro e w4 ⟨rfl, b4⟩
        rw [HP.out]
        have hc4 := New.cells b4; have hf4 := New.marks b4; have hz4 := New.le b4; try simp only [World.size_alloc, World.size_setCell] at hz4
        try have z4_0_0 : w.heap.size < w4.heap.size := by omega
        try have z4_0_1 : w.heap.size + 1 < w4.heap.size := by omega
        try have z4_0_2 : w.heap.size + 2 < w4.heap.size := by omega
        try have z4_1_0 : w1.heap.size < w4.heap.size := by omega
        try have z4_1_1 : w1.heap.size + 1 < w4.heap.size := by omega
        try have z4_1_2 : w1.heap.size + 2 < w4.heap.size := by omega
        try have z4_2_0 : w2.heap.size < w4.heap.size := by omega
        try have z4_2_1 : w2.heap.size + 1 < w4.heap.size := by omega
        try have z4_2_2 : w2.heap.size + 2 < w4.heap.size := by omega
        try have z4_3_0 : w3.heap.size < w4.heap.size := by omega
        try have z4_3_1 : w3.heap.size + 1 < w4.heap.size := by omega
        try have z4_3_2 : w3.heap.size + 2 < w4.heap.size := by omega
        go_wp2_with fail
        refine (tableValid_impl sz st A1 n1 c1 es _ HEL.out (by omega) (HI.out.new (by repeat (first | with_reducible assumption | with_reducible exact New.refl _ | with_reducible refine New.alloc ?_ _ | with_reducible refine New.drew ?_ | with_reducible refine New.drewN ?_ _ | refine New.setCell ?_ (by first | (simp; done) | omega | (simp; omega)) _ | with_reducible refine New.trans ?_ (by with_reducible assumption))))).mono ?_
        rintro e w5 ⟨rfl, b5⟩
        rw [HT.out]
        have hc5 := New.cells b5; have hf5 := New.marks b5; have hz5 := New.le b5; try simp only [World.size_alloc, World.size_setCell] at hz5
        try have z5_0_0 : w.heap.size < w5.heap.size := by omega
        try have z5_0_1 : w.heap.size + 1 < w5.heap.size := by omega
        try have z5_0_2 : w.heap.size + 2 < w5.heap.size := by omega
        try have z5_1_0 : w1.heap.size < w5.heap.size := by omega
        try have z5_1_1 : w1.heap.size + 1 < w5.heap.size := by omega
        try have z5_1_2 : w1.heap.size + 2 < w5.heap.size := by omega
        try have z5_2_0 : w2.heap.size < w5.heap.size := by omega
        try have z5_2_1 : w2.heap.size + 1 < w5.heap.size := by omega
        try have z5_2_2 : w2.heap.size + 2 < w5.heap.size := by omega
        try have z5_3_0 : w3.heap.size < w5.heap.size := by omega
        try have z5_3_1 : w3.heap.size + 1 < w5.heap.size := by omega
        try have z5_3_2 : w3.heap.size + 2 < w5.heap.size := by omega
        try have z5_4_0 : w4.heap.size < w5.heap.size := by omega
        try have z5_4_1 : w4.heap.size + 1 < w5.heap.size := by omega
        try have z5_4_2 : w4.heap.size + 2 < w5.heap.size := by omega
        go_wp2_with fail
        refine (flowValid_impl fa fb fc fd fk _).mono ?_
        rintro e w6 ⟨rfl, b6⟩
        rw [HFL.out]
        have hc6 := New.cells b6; have hf6 := New.marks b6; have hz6 := New.le b6; try simp only [World.size_alloc, World.size_setCell] at hz6
        try have z6_0_0 : w.heap.size < w6.heap.size := by omega
        try have z6_0_1 : w.heap.size + 1 < w6.heap.size := by omega
        try have z6_0_2 : w.heap.size + 2 < w6.heap.size := by omega
        try have z6_1_0 : w1.heap.size < w6.heap.size := by omega
        try have z6_1_1 : w1.heap.size + 1 < w6.heap.size := by omega
        try have z6_1_2 : w1.heap.size + 2 < w6.heap.size := by omega
        try have z6_2_0 : w2.heap.size < w6.heap.size := by omega
        try have z6_2_1 : w2.heap.size + 1 < w6.heap.size := by omega
        try have z6_2_2 : w2.heap.size + 2 < w6.heap.size := by omega
        try have z6_3_0 : w3.heap.size < w6.heap.size := by omega
        try have z6_3_1 : w3.heap.size + 1 < w6.heap.size := by omega
        try have z6_3_2 : w3.heap.size + 2 < w6.heap.size := by omega
        try have z6_4_0 : w4.heap.size < w6.heap.size := by omega
        try have z6_4_1 : w4.heap.size + 1 < w6.heap.size := by omega
        try have z6_4_2 : w4.heap.size + 2 < w6.heap.size := by omega
        try have z6_5_0 : w5.heap.size < w6.heap.size := by omega
        try have z6_5_1 : w5.heap.size + 1 < w6.heap.size := by omega
        try have z6_5_2 : w5.heap.size + 2 < w6.heap.size := by omega
        go_wp2_with fail
        refine (findFlow_impl sz st A1 n1 c1 es fa fb fc fd fk _ HEL.out (by omega) (HI.out.new (by repeat (first | with_reducible assumption | with_reducible exact New.refl _ | with_reducible refine New.alloc ?_ _ | with_reducible refine New.drew ?_ | with_reducible refine New.drewN ?_ _ | refine New.setCell ?_ (by first | (simp; done) | omega | (simp; omega)) _ | with_reducible refine New.trans ?_ (by with_reducible assumption))))).mono ?_
        rintro e w7 ⟨rfl, b7⟩
        rw [HO.out]
        have hc7 := New.cells b7; have hf7 := New.marks b7; have hz7 := New.le b7; try simp only [World.size_alloc, World.size_setCell] at hz7
        try have z7_0_0 : w.heap.size < w7.heap.size := by omega
        try have z7_0_1 : w.heap.size + 1 < w7.heap.size := by omega
        try have z7_0_2 : w.heap.size + 2 < w7.heap.size := by omega
        try have z7_1_0 : w1.heap.size < w7.heap.size := by omega
        try have z7_1_1 : w1.heap.size + 1 < w7.heap.size := by omega
        try have z7_1_2 : w1.heap.size + 2 < w7.heap.size := by omega
        try have z7_2_0 : w2.heap.size < w7.heap.size := by omega
        try have z7_2_1 : w2.heap.size + 1 < w7.heap.size := by omega
        try have z7_2_2 : w2.heap.size + 2 < w7.heap.size := by omega
        try have z7_3_0 : w3.heap.size < w7.heap.size := by omega
        try have z7_3_1 : w3.heap.size + 1 < w7.heap.size := by omega
        try have z7_3_2 : w3.heap.size + 2 < w7.heap.size := by omega
        try have z7_4_0 : w4.heap.size < w7.heap.size := by omega
        try have z7_4_1 : w4.heap.size + 1 < w7.heap.size := by omega
        try have z7_4_2 : w4.heap.size + 2 < w7.heap.size := by omega
        try have z7_5_0 : w5.heap.size < w7.heap.size := by omega
        try have z7_5_1 : w5.heap.size + 1 < w7.heap.size := by omega
        try have z7_5_2 : w5.heap.size + 2 < w7.heap.size := by omega
        try have z7_6_0 : w6.heap.size < w7.heap.size := by omega
        try have z7_6_1 : w6.heap.size + 1 < w7.heap.size := by omega
        try have z7_6_2 : w6.heap.size + 2 < w7.heap.size := by omega
        go_wp2_with fail
        refine (hostState_impl A2 m2 c2 hs O _ HM.out hmm (HH.out.new (by repeat (first | with_reducible assumption | with_reducible exact New.refl _ | with_reducible refine New.alloc ?_ _ | with_reducible refine New.drew ?_ | with_reducible refine New.drewN ?_ _ | refine New.setCell ?_ (by first | (simp; done) | omega | (simp; omega)) _ | with_reducible refine New.trans ?_ (by with_reducible assumption))))).mono ?_
        rintro e w8 ⟨rfl, b8⟩
        rw [HS.out]
        have hc8 := New.cells b8; have hf8 := New.marks b8; have hz8 := New.le b8; try simp only [World.size_alloc, World.size_setCell] at hz8
        try have z8_0_0 : w.heap.size < w8.heap.size := by omega
        try have z8_0_1 : w.heap.size + 1 < w8.heap.size := by omega
        try have z8_0_2 : w.heap.size + 2 < w8.heap.size := by omega
        try have z8_1_0 : w1.heap.size < w8.heap.size := by omega
        try have z8_1_1 : w1.heap.size + 1 < w8.heap.size := by omega
        try have z8_1_2 : w1.heap.size + 2 < w8.heap.size := by omega
        try have z8_2_0 : w2.heap.size < w8.heap.size := by omega
        try have z8_2_1 : w2.heap.size + 1 < w8.heap.size := by omega
        try have z8_2_2 : w2.heap.size + 2 < w8.heap.size := by omega
        try have z8_3_0 : w3.heap.size < w8.heap.size := by omega
        try have z8_3_1 : w3.heap.size + 1 < w8.heap.size := by omega
        try have z8_3_2 : w3.heap.size + 2 < w8.heap.size := by omega
        try have z8_4_0 : w4.heap.size < w8.heap.size := by omega
        try have z8_4_1 : w4.heap.size + 1 < w8.heap.size := by omega
        try have z8_4_2 : w4.heap.size + 2 < w8.heap.size := by omega
        try have z8_5_0 : w5.heap.size < w8.heap.size := by omega
        try have z8_5_1 : w5.heap.size + 1 < w8.heap.size := by omega
        try have z8_5_2 : w5.heap.size + 2 < w8.heap.size := by omega
        try have z8_6_0 : w6.heap.size < w8.heap.size := by omega
        try have z8_6_1 : w6.heap.size + 1 < w8.heap.size := by omega
        try have z8_6_2 : w6.heap.size + 2 < w8.heap.size := by omega
        try have z8_7_0 : w7.heap.size < w8.heap.size := by omega
        try have z8_7_1 : w7.heap.size + 1 < w8.heap.size := by omega
        try have z8_7_2 : w7.heap.size + 2 < w8.heap.size := by omega
        go_wp2_with fail
        refine (flowHash_impl fa fb fc fd fk _).mono ?_
        rintro e w9 ⟨rfl, b9⟩
        rw [HK.out]
        have hc9 := New.cells b9; have hf9 := New.marks b9; have hz9 := New.le b9; try simp only [World.size_alloc, World.size_setCell] at hz9
        try have z9_0_0 : w.heap.size < w9.heap.size := by omega
        try have z9_0_1 : w.heap.size + 1 < w9.heap.size := by omega
        try have z9_0_2 : w.heap.size + 2 < w9.heap.size := by omega
        try have z9_1_0 : w1.heap.size < w9.heap.size := by omega
        try have z9_1_1 : w1.heap.size + 1 < w9.heap.size := by omega
        try have z9_1_2 : w1.heap.size + 2 < w9.heap.size := by omega
        try have z9_2_0 : w2.heap.size < w9.heap.size := by omega
        try have z9_2_1 : w2.heap.size + 1 < w9.heap.size := by omega
        try have z9_2_2 : w2.heap.size + 2 < w9.heap.size := by omega
        try have z9_3_0 : w3.heap.size < w9.heap.size := by omega
        try have z9_3_1 : w3.heap.size + 1 < w9.heap.size := by omega
        try have z9_3_2 : w3.heap.size + 2 < w9.heap.size := by omega
        try have z9_4_0 : w4.heap.size < w9.heap.size := by omega
        try have z9_4_1 : w4.heap.size + 1 < w9.heap.size := by omega
        try have z9_4_2 : w4.heap.size + 2 < w9.heap.size := by omega
        try have z9_5_0 : w5.heap.size < w9.heap.size := by omega
        try have z9_5_1 : w5.heap.size + 1 < w9.heap.size := by omega
        try have z9_5_2 : w5.heap.size + 2 < w9.heap.size := by omega
        try have z9_6_0 : w6.heap.size < w9.heap.size := by omega
        try have z9_6_1 : w6.heap.size + 1 < w9.heap.size := by omega
        try have z9_6_2 : w6.heap.size + 2 < w9.heap.size := by omega
        try have z9_7_0 : w7.heap.size < w9.heap.size := by omega
        try have z9_7_1 : w7.heap.size + 1 < w9.heap.size := by omega
        try have z9_7_2 : w7.heap.size + 2 < w9.heap.size := by omega
        try have z9_8_0 : w8.heap.size < w9.heap.size := by omega
        try have z9_8_1 : w8.heap.size + 1 < w9.heap.size := by omega
        try have z9_8_2 : w8.heap.size + 2 < w9.heap.size := by omega
        go_wp2_with fail
        refine (rvHost_impl A2 m2 c2 hs K _ HM.out (by omega) (HH.out.new (by repeat (first | with_reducible assumption | with_reducible exact New.refl _ | with_reducible refine New.alloc ?_ _ | with_reducible refine New.drew ?_ | with_reducible refine New.drewN ?_ _ | refine New.setCell ?_ (by first | (simp; done) | omega | (simp; omega)) _ | with_reducible refine New.trans ?_ (by with_reducible assumption))))).mono ?_
        rintro e w10 ⟨rfl, b10⟩
        rw [HR.out]
        have hc10 := New.cells b10; have hf10 := New.marks b10; have hz10 := New.le b10; try simp only [World.size_alloc, World.size_setCell] at hz10
        try have z10_0_0 : w.heap.size < w10.heap.size := by omega
        try have z10_0_1 : w.heap.size + 1 < w10.heap.size := by omega
        try have z10_0_2 : w.heap.size + 2 < w10.heap.size := by omega
        try have z10_1_0 : w1.heap.size < w10.heap.size := by omega
        try have z10_1_1 : w1.heap.size + 1 < w10.heap.size := by omega
        try have z10_1_2 : w1.heap.size + 2 < w10.heap.size := by omega
        try have z10_2_0 : w2.heap.size < w10.heap.size := by omega
        try have z10_2_1 : w2.heap.size + 1 < w10.heap.size := by omega
        try have z10_2_2 : w2.heap.size + 2 < w10.heap.size := by omega
        try have z10_3_0 : w3.heap.size < w10.heap.size := by omega
        try have z10_3_1 : w3.heap.size + 1 < w10.heap.size := by omega
        try have z10_3_2 : w3.heap.size + 2 < w10.heap.size := by omega
        try have z10_4_0 : w4.heap.size < w10.heap.size := by omega
        try have z10_4_1 : w4.heap.size + 1 < w10.heap.size := by omega
        try have z10_4_2 : w4.heap.size + 2 < w10.heap.size := by omega
        try have z10_5_0 : w5.heap.size < w10.heap.size := by omega
        try have z10_5_1 : w5.heap.size + 1 < w10.heap.size := by omega
        try have z10_5_2 : w5.heap.size + 2 < w10.heap.size := by omega
        try have z10_6_0 : w6.heap.size < w10.heap.size := by omega
        try have z10_6_1 : w6.heap.size + 1 < w10.heap.size := by omega
        try have z10_6_2 : w6.heap.size + 2 < w10.heap.size := by omega
        try have z10_7_0 : w7.heap.size < w10.heap.size := by omega
        try have z10_7_1 : w7.heap.size + 1 < w10.heap.size := by omega
        try have z10_7_2 : w7.heap.size + 2 < w10.heap.size := by omega
        try have z10_8_0 : w8.heap.size < w10.heap.size := by omega
        try have z10_8_1 : w8.heap.size + 1 < w10.heap.size := by omega
        try have z10_8_2 : w8.heap.size + 2 < w10.heap.size := by omega
        try have z10_9_0 : w9.heap.size < w10.heap.size := by omega
        try have z10_9_1 : w9.heap.size + 1 < w10.heap.size := by omega
        try have z10_9_2 : w9.heap.size + 2 < w10.heap.size := by omega
        go_wp2_with fail
        go_ret
        exact ⟨rfl, (by repeat (first | with_reducible assumption | with_reducible exact New.refl _ | with_reducible refine New.alloc ?_ _ | with_reducible refine New.drew ?_ | with_reducible refine New.drewN ?_ _ | refine New.setCell ?_ (by first | (simp; done) | omega | (simp; omega)) _ | with_reducible refine New.trans ?_ (by with_reducible assumption)))⟩
      · subst h1
        have hnd : decide (Z < 0) = false := by simp; omega
        go_wp2_with fail
        refine (choose_impl A2 m2 c2 hs sz st A1 n1 c1 es fa fb fc fd fk _ HM.out (by omega) (HH.out.new (by repeat (first | with_reducible assumption | with_reducible exact New.refl _ | with_reducible refine New.alloc ?_ _ | with_reducible refine New.drew ?_ | with_reducible refine New.drewN ?_ _ | refine New.setCell ?_ (by first | (simp; done) | omega | (simp; omega)) _ | with_reducible refine New.trans ?_ (by with_reducible assumption)))) HEL.out hnc (by omega) (HI.out.new (by repeat (first | with_reducible assumption | with_reducible exact New.refl _ | with_reducible refine New.alloc ?_ _ | with_reducible refine New.drew ?_ | with_reducible refine New.drewN ?_ _ | refine New.setCell ?_ (by first | (simp; done) | omega | (simp; omega)) _ | with_reducible refine New.trans ?_ (by with_reducible assumption))))).mono ?_
        rintro e w2 ⟨rfl, b2⟩
        rw [HZ.out]
        have hc2 := New.cells b2; have hf2 := New.marks b2; have hz2 := New.le b2; try simp only [World.size_alloc, World.size_setCell] at hz2
        try have z2_0_0 : w.heap.size < w2.heap.size := by omega
        try have z2_0_1 : w.heap.size + 1 < w2.heap.size := by omega
        try have z2_0_2 : w.heap.size + 2 < w2.heap.size := by omega
        try have z2_1_0 : w1.heap.size < w2.heap.size := by omega
        try have z2_1_1 : w1.heap.size + 1 < w2.heap.size := by omega
        try have z2_1_2 : w1.heap.size + 2 < w2.heap.size := by omega
        go_wp2_with fail
        refine (choose_spec A2 m2 c2 hs sz st A1 n1 c1 es fa fb fc fd fk _ HM.out (by omega) (HH.out.new (by repeat (first | with_reducible assumption | with_reducible exact New.refl _ | with_reducible refine New.alloc ?_ _ | with_reducible refine New.drew ?_ | with_reducible refine New.drewN ?_ _ | refine New.setCell ?_ (by first | (simp; done) | omega | (simp; omega)) _ | with_reducible refine New.trans ?_ (by with_reducible assumption)))) HEL.out hnc (by omega) (HI.out.new (by repeat (first | with_reducible assumption | with_reducible exact New.refl _ | with_reducible refine New.alloc ?_ _ | with_reducible refine New.drew ?_ | with_reducible refine New.drewN ?_ _ | refine New.setCell ?_ (by first | (simp; done) | omega | (simp; omega)) _ | with_reducible refine New.trans ?_ (by with_reducible assumption))))).mono ?_
        rintro e w3 ⟨rfl, b3⟩
        rw [HZ.out]
        have hc3 := New.cells b3; have hf3 := New.marks b3; have hz3 := New.le b3; try simp only [World.size_alloc, World.size_setCell] at hz3
        try have z3_0_0 : w.heap.size < w3.heap.size := by omega
        try have z3_0_1 : w.heap.size + 1 < w3.heap.size := by omega
        try have z3_0_2 : w.heap.size + 2 < w3.heap.size := by omega
        try have z3_1_0 : w1.heap.size < w3.heap.size := by omega
        try have z3_1_1 : w1.heap.size + 1 < w3.heap.size := by omega
        try have z3_1_2 : w1.heap.size + 2 < w3.heap.size := by omega
        try have z3_2_0 : w2.heap.size < w3.heap.size := by omega
        try have z3_2_1 : w2.heap.size + 1 < w3.heap.size := by omega
        try have z3_2_2 : w2.heap.size + 2 < w3.heap.size := by omega
        go_wp2_with fail
        refine (poolValid_impl A2 m2 c2 hs _ HM.out hmm (HH.out.new (by repeat (first | with_reducible assumption | with_reducible exact New.refl _ | with_reducible refine New.alloc ?_ _ | with_reducible refine New.drew ?_ | with_reducible refine New.drewN ?_ _ | refine New.setCell ?_ (by first | (simp; done) | omega | (simp; omega)) _ | with_reducible refine New.trans ?_ (by with_reducible assumption))))).mono ?_
        rintro e w4 ⟨rfl, b4⟩
        rw [HP.out]
        have hc4 := New.cells b4; have hf4 := New.marks b4; have hz4 := New.le b4; try simp only [World.size_alloc, World.size_setCell] at hz4
        try have z4_0_0 : w.heap.size < w4.heap.size := by omega
        try have z4_0_1 : w.heap.size + 1 < w4.heap.size := by omega
        try have z4_0_2 : w.heap.size + 2 < w4.heap.size := by omega
        try have z4_1_0 : w1.heap.size < w4.heap.size := by omega
        try have z4_1_1 : w1.heap.size + 1 < w4.heap.size := by omega
        try have z4_1_2 : w1.heap.size + 2 < w4.heap.size := by omega
        try have z4_2_0 : w2.heap.size < w4.heap.size := by omega
        try have z4_2_1 : w2.heap.size + 1 < w4.heap.size := by omega
        try have z4_2_2 : w2.heap.size + 2 < w4.heap.size := by omega
        try have z4_3_0 : w3.heap.size < w4.heap.size := by omega
        try have z4_3_1 : w3.heap.size + 1 < w4.heap.size := by omega
        try have z4_3_2 : w3.heap.size + 2 < w4.heap.size := by omega
        go_wp2_with fail
        refine (tableValid_impl sz st A1 n1 c1 es _ HEL.out (by omega) (HI.out.new (by repeat (first | with_reducible assumption | with_reducible exact New.refl _ | with_reducible refine New.alloc ?_ _ | with_reducible refine New.drew ?_ | with_reducible refine New.drewN ?_ _ | refine New.setCell ?_ (by first | (simp; done) | omega | (simp; omega)) _ | with_reducible refine New.trans ?_ (by with_reducible assumption))))).mono ?_
        rintro e w5 ⟨rfl, b5⟩
        rw [HT.out]
        have hc5 := New.cells b5; have hf5 := New.marks b5; have hz5 := New.le b5; try simp only [World.size_alloc, World.size_setCell] at hz5
        try have z5_0_0 : w.heap.size < w5.heap.size := by omega
        try have z5_0_1 : w.heap.size + 1 < w5.heap.size := by omega
        try have z5_0_2 : w.heap.size + 2 < w5.heap.size := by omega
        try have z5_1_0 : w1.heap.size < w5.heap.size := by omega
        try have z5_1_1 : w1.heap.size + 1 < w5.heap.size := by omega
        try have z5_1_2 : w1.heap.size + 2 < w5.heap.size := by omega
        try have z5_2_0 : w2.heap.size < w5.heap.size := by omega
        try have z5_2_1 : w2.heap.size + 1 < w5.heap.size := by omega
        try have z5_2_2 : w2.heap.size + 2 < w5.heap.size := by omega
        try have z5_3_0 : w3.heap.size < w5.heap.size := by omega
        try have z5_3_1 : w3.heap.size + 1 < w5.heap.size := by omega
        try have z5_3_2 : w3.heap.size + 2 < w5.heap.size := by omega
        try have z5_4_0 : w4.heap.size < w5.heap.size := by omega
        try have z5_4_1 : w4.heap.size + 1 < w5.heap.size := by omega
        try have z5_4_2 : w4.heap.size + 2 < w5.heap.size := by omega
        go_wp2_with fail
        refine (flowValid_impl fa fb fc fd fk _).mono ?_
        rintro e w6 ⟨rfl, b6⟩
        rw [HFL.out]
        have hc6 := New.cells b6; have hf6 := New.marks b6; have hz6 := New.le b6; try simp only [World.size_alloc, World.size_setCell] at hz6
        try have z6_0_0 : w.heap.size < w6.heap.size := by omega
        try have z6_0_1 : w.heap.size + 1 < w6.heap.size := by omega
        try have z6_0_2 : w.heap.size + 2 < w6.heap.size := by omega
        try have z6_1_0 : w1.heap.size < w6.heap.size := by omega
        try have z6_1_1 : w1.heap.size + 1 < w6.heap.size := by omega
        try have z6_1_2 : w1.heap.size + 2 < w6.heap.size := by omega
        try have z6_2_0 : w2.heap.size < w6.heap.size := by omega
        try have z6_2_1 : w2.heap.size + 1 < w6.heap.size := by omega
        try have z6_2_2 : w2.heap.size + 2 < w6.heap.size := by omega
        try have z6_3_0 : w3.heap.size < w6.heap.size := by omega
        try have z6_3_1 : w3.heap.size + 1 < w6.heap.size := by omega
        try have z6_3_2 : w3.heap.size + 2 < w6.heap.size := by omega
        try have z6_4_0 : w4.heap.size < w6.heap.size := by omega
        try have z6_4_1 : w4.heap.size + 1 < w6.heap.size := by omega
        try have z6_4_2 : w4.heap.size + 2 < w6.heap.size := by omega
        try have z6_5_0 : w5.heap.size < w6.heap.size := by omega
        try have z6_5_1 : w5.heap.size + 1 < w6.heap.size := by omega
        try have z6_5_2 : w5.heap.size + 2 < w6.heap.size := by omega
        go_wp2_with fail
        refine (findFlow_impl sz st A1 n1 c1 es fa fb fc fd fk _ HEL.out (by omega) (HI.out.new (by repeat (first | with_reducible assumption | with_reducible exact New.refl _ | with_reducible refine New.alloc ?_ _ | with_reducible refine New.drew ?_ | with_reducible refine New.drewN ?_ _ | refine New.setCell ?_ (by first | (simp; done) | omega | (simp; omega)) _ | with_reducible refine New.trans ?_ (by with_reducible assumption))))).mono ?_
        rintro e w7 ⟨rfl, b7⟩
        rw [HO.out]
        have hc7 := New.cells b7; have hf7 := New.marks b7; have hz7 := New.le b7; try simp only [World.size_alloc, World.size_setCell] at hz7
        try have z7_0_0 : w.heap.size < w7.heap.size := by omega
        try have z7_0_1 : w.heap.size + 1 < w7.heap.size := by omega
        try have z7_0_2 : w.heap.size + 2 < w7.heap.size := by omega
        try have z7_1_0 : w1.heap.size < w7.heap.size := by omega
        try have z7_1_1 : w1.heap.size + 1 < w7.heap.size := by omega
        try have z7_1_2 : w1.heap.size + 2 < w7.heap.size := by omega
        try have z7_2_0 : w2.heap.size < w7.heap.size := by omega
        try have z7_2_1 : w2.heap.size + 1 < w7.heap.size := by omega
        try have z7_2_2 : w2.heap.size + 2 < w7.heap.size := by omega
        try have z7_3_0 : w3.heap.size < w7.heap.size := by omega
        try have z7_3_1 : w3.heap.size + 1 < w7.heap.size := by omega
        try have z7_3_2 : w3.heap.size + 2 < w7.heap.size := by omega
        try have z7_4_0 : w4.heap.size < w7.heap.size := by omega
        try have z7_4_1 : w4.heap.size + 1 < w7.heap.size := by omega
        try have z7_4_2 : w4.heap.size + 2 < w7.heap.size := by omega
        try have z7_5_0 : w5.heap.size < w7.heap.size := by omega
        try have z7_5_1 : w5.heap.size + 1 < w7.heap.size := by omega
        try have z7_5_2 : w5.heap.size + 2 < w7.heap.size := by omega
        try have z7_6_0 : w6.heap.size < w7.heap.size := by omega
        try have z7_6_1 : w6.heap.size + 1 < w7.heap.size := by omega
        try have z7_6_2 : w6.heap.size + 2 < w7.heap.size := by omega
        go_wp2_with fail
        refine (hostState_impl A2 m2 c2 hs O _ HM.out hmm (HH.out.new (by repeat (first | with_reducible assumption | with_reducible exact New.refl _ | with_reducible refine New.alloc ?_ _ | with_reducible refine New.drew ?_ | with_reducible refine New.drewN ?_ _ | refine New.setCell ?_ (by first | (simp; done) | omega | (simp; omega)) _ | with_reducible refine New.trans ?_ (by with_reducible assumption))))).mono ?_
        rintro e w8 ⟨rfl, b8⟩
        rw [HS.out]
        have hc8 := New.cells b8; have hf8 := New.marks b8; have hz8 := New.le b8; try simp only [World.size_alloc, World.size_setCell] at hz8
        try have z8_0_0 : w.heap.size < w8.heap.size := by omega
        try have z8_0_1 : w.heap.size + 1 < w8.heap.size := by omega
        try have z8_0_2 : w.heap.size + 2 < w8.heap.size := by omega
        try have z8_1_0 : w1.heap.size < w8.heap.size := by omega
        try have z8_1_1 : w1.heap.size + 1 < w8.heap.size := by omega
        try have z8_1_2 : w1.heap.size + 2 < w8.heap.size := by omega
        try have z8_2_0 : w2.heap.size < w8.heap.size := by omega
        try have z8_2_1 : w2.heap.size + 1 < w8.heap.size := by omega
        try have z8_2_2 : w2.heap.size + 2 < w8.heap.size := by omega
        try have z8_3_0 : w3.heap.size < w8.heap.size := by omega
        try have z8_3_1 : w3.heap.size + 1 < w8.heap.size := by omega
        try have z8_3_2 : w3.heap.size + 2 < w8.heap.size := by omega
        try have z8_4_0 : w4.heap.size < w8.heap.size := by omega
        try have z8_4_1 : w4.heap.size + 1 < w8.heap.size := by omega
        try have z8_4_2 : w4.heap.size + 2 < w8.heap.size := by omega
        try have z8_5_0 : w5.heap.size < w8.heap.size := by omega
        try have z8_5_1 : w5.heap.size + 1 < w8.heap.size := by omega
        try have z8_5_2 : w5.heap.size + 2 < w8.heap.size := by omega
        try have z8_6_0 : w6.heap.size < w8.heap.size := by omega
        try have z8_6_1 : w6.heap.size + 1 < w8.heap.size := by omega
        try have z8_6_2 : w6.heap.size + 2 < w8.heap.size := by omega
        try have z8_7_0 : w7.heap.size < w8.heap.size := by omega
        try have z8_7_1 : w7.heap.size + 1 < w8.heap.size := by omega
        try have z8_7_2 : w7.heap.size + 2 < w8.heap.size := by omega
        go_wp2_with fail
        refine (flowHash_impl fa fb fc fd fk _).mono ?_
        rintro e w9 ⟨rfl, b9⟩
        rw [HK.out]
        have hc9 := New.cells b9; have hf9 := New.marks b9; have hz9 := New.le b9; try simp only [World.size_alloc, World.size_setCell] at hz9
        try have z9_0_0 : w.heap.size < w9.heap.size := by omega
        try have z9_0_1 : w.heap.size + 1 < w9.heap.size := by omega
        try have z9_0_2 : w.heap.size + 2 < w9.heap.size := by omega
        try have z9_1_0 : w1.heap.size < w9.heap.size := by omega
        try have z9_1_1 : w1.heap.size + 1 < w9.heap.size := by omega
        try have z9_1_2 : w1.heap.size + 2 < w9.heap.size := by omega
        try have z9_2_0 : w2.heap.size < w9.heap.size := by omega
        try have z9_2_1 : w2.heap.size + 1 < w9.heap.size := by omega
        try have z9_2_2 : w2.heap.size + 2 < w9.heap.size := by omega
        try have z9_3_0 : w3.heap.size < w9.heap.size := by omega
        try have z9_3_1 : w3.heap.size + 1 < w9.heap.size := by omega
        try have z9_3_2 : w3.heap.size + 2 < w9.heap.size := by omega
        try have z9_4_0 : w4.heap.size < w9.heap.size := by omega
        try have z9_4_1 : w4.heap.size + 1 < w9.heap.size := by omega
        try have z9_4_2 : w4.heap.size + 2 < w9.heap.size := by omega
        try have z9_5_0 : w5.heap.size < w9.heap.size := by omega
        try have z9_5_1 : w5.heap.size + 1 < w9.heap.size := by omega
        try have z9_5_2 : w5.heap.size + 2 < w9.heap.size := by omega
        try have z9_6_0 : w6.heap.size < w9.heap.size := by omega
        try have z9_6_1 : w6.heap.size + 1 < w9.heap.size := by omega
        try have z9_6_2 : w6.heap.size + 2 < w9.heap.size := by omega
        try have z9_7_0 : w7.heap.size < w9.heap.size := by omega
        try have z9_7_1 : w7.heap.size + 1 < w9.heap.size := by omega
        try have z9_7_2 : w7.heap.size + 2 < w9.heap.size := by omega
        try have z9_8_0 : w8.heap.size < w9.heap.size := by omega
        try have z9_8_1 : w8.heap.size + 1 < w9.heap.size := by omega
        try have z9_8_2 : w8.heap.size + 2 < w9.heap.size := by omega
        go_wp2_with fail
        refine (rvHost_impl A2 m2 c2 hs K _ HM.out (by omega) (HH.out.new (by repeat (first | with_reducible assumption | with_reducible exact New.refl _ | with_reducible refine New.alloc ?_ _ | with_reducible refine New.drew ?_ | with_reducible refine New.drewN ?_ _ | refine New.setCell ?_ (by first | (simp; done) | omega | (simp; omega)) _ | with_reducible refine New.trans ?_ (by with_reducible assumption))))).mono ?_
        rintro e w10 ⟨rfl, b10⟩
        rw [HR.out]
        have hc10 := New.cells b10; have hf10 := New.marks b10; have hz10 := New.le b10; try simp only [World.size_alloc, World.size_setCell] at hz10
        try have z10_0_0 : w.heap.size < w10.heap.size := by omega
        try have z10_0_1 : w.heap.size + 1 < w10.heap.size := by omega
        try have z10_0_2 : w.heap.size + 2 < w10.heap.size := by omega
        try have z10_1_0 : w1.heap.size < w10.heap.size := by omega
        try have z10_1_1 : w1.heap.size + 1 < w10.heap.size := by omega
        try have z10_1_2 : w1.heap.size + 2 < w10.heap.size := by omega
        try have z10_2_0 : w2.heap.size < w10.heap.size := by omega
        try have z10_2_1 : w2.heap.size + 1 < w10.heap.size := by omega
        try have z10_2_2 : w2.heap.size + 2 < w10.heap.size := by omega
        try have z10_3_0 : w3.heap.size < w10.heap.size := by omega
        try have z10_3_1 : w3.heap.size + 1 < w10.heap.size := by omega
        try have z10_3_2 : w3.heap.size + 2 < w10.heap.size := by omega
        try have z10_4_0 : w4.heap.size < w10.heap.size := by omega
        try have z10_4_1 : w4.heap.size + 1 < w10.heap.size := by omega
        try have z10_4_2 : w4.heap.size + 2 < w10.heap.size := by omega
        try have z10_5_0 : w5.heap.size < w10.heap.size := by omega
        try have z10_5_1 : w5.heap.size + 1 < w10.heap.size := by omega
        try have z10_5_2 : w5.heap.size + 2 < w10.heap.size := by omega
        try have z10_6_0 : w6.heap.size < w10.heap.size := by omega
        try have z10_6_1 : w6.heap.size + 1 < w10.heap.size := by omega
        try have z10_6_2 : w6.heap.size + 2 < w10.heap.size := by omega
        try have z10_7_0 : w7.heap.size < w10.heap.size := by omega
        try have z10_7_1 : w7.heap.size + 1 < w10.heap.size := by omega
        try have z10_7_2 : w7.heap.size + 2 < w10.heap.size := by omega
        try have z10_8_0 : w8.heap.size < w10.heap.size := by omega
        try have z10_8_1 : w8.heap.size + 1 < w10.heap.size := by omega
        try have z10_8_2 : w8.heap.size + 2 < w10.heap.size := by omega
        try have z10_9_0 : w9.heap.size < w10.heap.size := by omega
        try have z10_9_1 : w9.heap.size + 1 < w10.heap.size := by omega
        try have z10_9_2 : w9.heap.size + 2 < w10.heap.size := by omega
        go_wp2_with fail
        refine (hostState_impl A2 m2 c2 hs Z _ HM.out hmm (HH.out.new (by repeat (first | with_reducible assumption | with_reducible exact New.refl _ | with_reducible refine New.alloc ?_ _ | with_reducible refine New.drew ?_ | with_reducible refine New.drewN ?_ _ | refine New.setCell ?_ (by first | (simp; done) | omega | (simp; omega)) _ | with_reducible refine New.trans ?_ (by with_reducible assumption))))).mono ?_
        rintro e w11 ⟨rfl, b11⟩
        rw [HS2.out]
        have hc11 := New.cells b11; have hf11 := New.marks b11; have hz11 := New.le b11; try simp only [World.size_alloc, World.size_setCell] at hz11
        try have z11_0_0 : w.heap.size < w11.heap.size := by omega
        try have z11_0_1 : w.heap.size + 1 < w11.heap.size := by omega
        try have z11_0_2 : w.heap.size + 2 < w11.heap.size := by omega
        try have z11_1_0 : w1.heap.size < w11.heap.size := by omega
        try have z11_1_1 : w1.heap.size + 1 < w11.heap.size := by omega
        try have z11_1_2 : w1.heap.size + 2 < w11.heap.size := by omega
        try have z11_2_0 : w2.heap.size < w11.heap.size := by omega
        try have z11_2_1 : w2.heap.size + 1 < w11.heap.size := by omega
        try have z11_2_2 : w2.heap.size + 2 < w11.heap.size := by omega
        try have z11_3_0 : w3.heap.size < w11.heap.size := by omega
        try have z11_3_1 : w3.heap.size + 1 < w11.heap.size := by omega
        try have z11_3_2 : w3.heap.size + 2 < w11.heap.size := by omega
        try have z11_4_0 : w4.heap.size < w11.heap.size := by omega
        try have z11_4_1 : w4.heap.size + 1 < w11.heap.size := by omega
        try have z11_4_2 : w4.heap.size + 2 < w11.heap.size := by omega
        try have z11_5_0 : w5.heap.size < w11.heap.size := by omega
        try have z11_5_1 : w5.heap.size + 1 < w11.heap.size := by omega
        try have z11_5_2 : w5.heap.size + 2 < w11.heap.size := by omega
        try have z11_6_0 : w6.heap.size < w11.heap.size := by omega
        try have z11_6_1 : w6.heap.size + 1 < w11.heap.size := by omega
        try have z11_6_2 : w6.heap.size + 2 < w11.heap.size := by omega
        try have z11_7_0 : w7.heap.size < w11.heap.size := by omega
        try have z11_7_1 : w7.heap.size + 1 < w11.heap.size := by omega
        try have z11_7_2 : w7.heap.size + 2 < w11.heap.size := by omega
        try have z11_8_0 : w8.heap.size < w11.heap.size := by omega
        try have z11_8_1 : w8.heap.size + 1 < w11.heap.size := by omega
        try have z11_8_2 : w8.heap.size + 2 < w11.heap.size := by omega
        try have z11_9_0 : w9.heap.size < w11.heap.size := by omega
        try have z11_9_1 : w9.heap.size + 1 < w11.heap.size := by omega
        try have z11_9_2 : w9.heap.size + 2 < w11.heap.size := by omega
        try have z11_10_0 : w10.heap.size < w11.heap.size := by omega
        try have z11_10_1 : w10.heap.size + 1 < w11.heap.size := by omega
        try have z11_10_2 : w10.heap.size + 2 < w11.heap.size := by omega
        go_wp2_with fail
        go_ret
        exact ⟨rfl, (by repeat (first | with_reducible assumption | with_reducible exact New.refl _ | with_reducible refine New.alloc ?_ _ | with_reducible refine New.drew ?_ | with_reducible refine New.drewN ?_ _ | refine New.setCell ?_ (by first | (simp; done) | omega | (simp; omega)) _ | with_reducible refine New.trans ?_ (by with_reducible assumption)))⟩
    · clear hold
      have h0d : decide (0 ≤ O) = false := by simp; omega
      have h0n : O < 0 := by omega
      rcases hcase with hn | ⟨hn, h1⟩
      · have hnd : decide (Z < 0) = true := by simpa using hn
        go_wp2_with fail
        refine (choose_impl A2 m2 c2 hs sz st A1 n1 c1 es fa fb fc fd fk _ HM.out (by omega) (HH.out.new (by repeat (first | with_reducible assumption | with_reducible exact New.refl _ | with_reducible refine New.alloc ?_ _ | with_reducible refine New.drew ?_ | with_reducible refine New.drewN ?_ _ | refine New.setCell ?_ (by first | (simp; done) | omega | (simp; omega)) _ | with_reducible refine New.trans ?_ (by with_reducible assumption)))) HEL.out hnc (by omega) (HI.out.new (by repeat (first | with_reducible assumption | with_reducible exact New.refl _ | with_reducible refine New.alloc ?_ _ | with_reducible refine New.drew ?_ | with_reducible refine New.drewN ?_ _ | refine New.setCell ?_ (by first | (simp; done) | omega | (simp; omega)) _ | with_reducible refine New.trans ?_ (by with_reducible assumption))))).mono ?_
        rintro e w2 ⟨rfl, b2⟩
        rw [HZ.out]
        have hc2 := New.cells b2; have hf2 := New.marks b2; have hz2 := New.le b2; try simp only [World.size_alloc, World.size_setCell] at hz2
        try have z2_0_0 : w.heap.size < w2.heap.size := by omega
        try have z2_0_1 : w.heap.size + 1 < w2.heap.size := by omega
        try have z2_0_2 : w.heap.size + 2 < w2.heap.size := by omega
        try have z2_1_0 : w1.heap.size < w2.heap.size := by omega
        try have z2_1_1 : w1.heap.size + 1 < w2.heap.size := by omega
        try have z2_1_2 : w1.heap.size + 2 < w2.heap.size := by omega
        go_wp2_with fail
        refine (choose_spec A2 m2 c2 hs sz st A1 n1 c1 es fa fb fc fd fk _ HM.out (by omega) (HH.out.new (by repeat (first | with_reducible assumption | with_reducible exact New.refl _ | with_reducible refine New.alloc ?_ _ | with_reducible refine New.drew ?_ | with_reducible refine New.drewN ?_ _ | refine New.setCell ?_ (by first | (simp; done) | omega | (simp; omega)) _ | with_reducible refine New.trans ?_ (by with_reducible assumption)))) HEL.out hnc (by omega) (HI.out.new (by repeat (first | with_reducible assumption | with_reducible exact New.refl _ | with_reducible refine New.alloc ?_ _ | with_reducible refine New.drew ?_ | with_reducible refine New.drewN ?_ _ | refine New.setCell ?_ (by first | (simp; done) | omega | (simp; omega)) _ | with_reducible refine New.trans ?_ (by with_reducible assumption))))).mono ?_
        rintro e w3 ⟨rfl, b3⟩
        rw [HZ.out]
        have hc3 := New.cells b3; have hf3 := New.marks b3; have hz3 := New.le b3; try simp only [World.size_alloc, World.size_setCell] at hz3
        try have z3_0_0 : w.heap.size < w3.heap.size := by omega
        try have z3_0_1 : w.heap.size + 1 < w3.heap.size := by omega
        try have z3_0_2 : w.heap.size + 2 < w3.heap.size := by omega
        try have z3_1_0 : w1.heap.size < w3.heap.size := by omega
        try have z3_1_1 : w1.heap.size + 1 < w3.heap.size := by omega
        try have z3_1_2 : w1.heap.size + 2 < w3.heap.size := by omega
        try have z3_2_0 : w2.heap.size < w3.heap.size := by omega
        try have z3_2_1 : w2.heap.size + 1 < w3.heap.size := by omega
        try have z3_2_2 : w2.heap.size + 2 < w3.heap.size := by omega
        go_wp2_with fail
        refine (poolValid_impl A2 m2 c2 hs _ HM.out hmm (HH.out.new (by repeat (first | with_reducible assumption | with_reducible exact New.refl _ | with_reducible refine New.alloc ?_ _ | with_reducible refine New.drew ?_ | with_reducible refine New.drewN ?_ _ | refine New.setCell ?_ (by first | (simp; done) | omega | (simp; omega)) _ | with_reducible refine New.trans ?_ (by with_reducible assumption))))).mono ?_
        rintro e w4 ⟨rfl, b4⟩
        rw [HP.out]
        have hc4 := New.cells b4; have hf4 := New.marks b4; have hz4 := New.le b4; try simp only [World.size_alloc, World.size_setCell] at hz4
        try have z4_0_0 : w.heap.size < w4.heap.size := by omega
        try have z4_0_1 : w.heap.size + 1 < w4.heap.size := by omega
        try have z4_0_2 : w.heap.size + 2 < w4.heap.size := by omega
        try have z4_1_0 : w1.heap.size < w4.heap.size := by omega
        try have z4_1_1 : w1.heap.size + 1 < w4.heap.size := by omega
        try have z4_1_2 : w1.heap.size + 2 < w4.heap.size := by omega
        try have z4_2_0 : w2.heap.size < w4.heap.size := by omega
        try have z4_2_1 : w2.heap.size + 1 < w4.heap.size := by omega
        try have z4_2_2 : w2.heap.size + 2 < w4.heap.size := by omega
        try have z4_3_0 : w3.heap.size < w4.heap.size := by omega
        try have z4_3_1 : w3.heap.size + 1 < w4.heap.size := by omega
        try have z4_3_2 : w3.heap.size + 2 < w4.heap.size := by omega
        go_wp2_with fail
        refine (tableValid_impl sz st A1 n1 c1 es _ HEL.out (by omega) (HI.out.new (by repeat (first | with_reducible assumption | with_reducible exact New.refl _ | with_reducible refine New.alloc ?_ _ | with_reducible refine New.drew ?_ | with_reducible refine New.drewN ?_ _ | refine New.setCell ?_ (by first | (simp; done) | omega | (simp; omega)) _ | with_reducible refine New.trans ?_ (by with_reducible assumption))))).mono ?_
        rintro e w5 ⟨rfl, b5⟩
        rw [HT.out]
        have hc5 := New.cells b5; have hf5 := New.marks b5; have hz5 := New.le b5; try simp only [World.size_alloc, World.size_setCell] at hz5
        try have z5_0_0 : w.heap.size < w5.heap.size := by omega
        try have z5_0_1 : w.heap.size + 1 < w5.heap.size := by omega
        try have z5_0_2 : w.heap.size + 2 < w5.heap.size := by omega
        try have z5_1_0 : w1.heap.size < w5.heap.size := by omega
        try have z5_1_1 : w1.heap.size + 1 < w5.heap.size := by omega
        try have z5_1_2 : w1.heap.size + 2 < w5.heap.size := by omega
        try have z5_2_0 : w2.heap.size < w5.heap.size := by omega
        try have z5_2_1 : w2.heap.size + 1 < w5.heap.size := by omega
        try have z5_2_2 : w2.heap.size + 2 < w5.heap.size := by omega
        try have z5_3_0 : w3.heap.size < w5.heap.size := by omega
        try have z5_3_1 : w3.heap.size + 1 < w5.heap.size := by omega
        try have z5_3_2 : w3.heap.size + 2 < w5.heap.size := by omega
        try have z5_4_0 : w4.heap.size < w5.heap.size := by omega
        try have z5_4_1 : w4.heap.size + 1 < w5.heap.size := by omega
        try have z5_4_2 : w4.heap.size + 2 < w5.heap.size := by omega
        go_wp2_with fail
        refine (flowValid_impl fa fb fc fd fk _).mono ?_
        rintro e w6 ⟨rfl, b6⟩
        rw [HFL.out]
        have hc6 := New.cells b6; have hf6 := New.marks b6; have hz6 := New.le b6; try simp only [World.size_alloc, World.size_setCell] at hz6
        try have z6_0_0 : w.heap.size < w6.heap.size := by omega
        try have z6_0_1 : w.heap.size + 1 < w6.heap.size := by omega
        try have z6_0_2 : w.heap.size + 2 < w6.heap.size := by omega
        try have z6_1_0 : w1.heap.size < w6.heap.size := by omega
        try have z6_1_1 : w1.heap.size + 1 < w6.heap.size := by omega
        try have z6_1_2 : w1.heap.size + 2 < w6.heap.size := by omega
        try have z6_2_0 : w2.heap.size < w6.heap.size := by omega
        try have z6_2_1 : w2.heap.size + 1 < w6.heap.size := by omega
        try have z6_2_2 : w2.heap.size + 2 < w6.heap.size := by omega
        try have z6_3_0 : w3.heap.size < w6.heap.size := by omega
        try have z6_3_1 : w3.heap.size + 1 < w6.heap.size := by omega
        try have z6_3_2 : w3.heap.size + 2 < w6.heap.size := by omega
        try have z6_4_0 : w4.heap.size < w6.heap.size := by omega
        try have z6_4_1 : w4.heap.size + 1 < w6.heap.size := by omega
        try have z6_4_2 : w4.heap.size + 2 < w6.heap.size := by omega
        try have z6_5_0 : w5.heap.size < w6.heap.size := by omega
        try have z6_5_1 : w5.heap.size + 1 < w6.heap.size := by omega
        try have z6_5_2 : w5.heap.size + 2 < w6.heap.size := by omega
        go_wp2_with fail
        refine (findFlow_impl sz st A1 n1 c1 es fa fb fc fd fk _ HEL.out (by omega) (HI.out.new (by repeat (first | with_reducible assumption | with_reducible exact New.refl _ | with_reducible refine New.alloc ?_ _ | with_reducible refine New.drew ?_ | with_reducible refine New.drewN ?_ _ | refine New.setCell ?_ (by first | (simp; done) | omega | (simp; omega)) _ | with_reducible refine New.trans ?_ (by with_reducible assumption))))).mono ?_
        rintro e w7 ⟨rfl, b7⟩
        rw [HO.out]
        have hc7 := New.cells b7; have hf7 := New.marks b7; have hz7 := New.le b7; try simp only [World.size_alloc, World.size_setCell] at hz7
        try have z7_0_0 : w.heap.size < w7.heap.size := by omega
        try have z7_0_1 : w.heap.size + 1 < w7.heap.size := by omega
        try have z7_0_2 : w.heap.size + 2 < w7.heap.size := by omega
        try have z7_1_0 : w1.heap.size < w7.heap.size := by omega
        try have z7_1_1 : w1.heap.size + 1 < w7.heap.size := by omega
        try have z7_1_2 : w1.heap.size + 2 < w7.heap.size := by omega
        try have z7_2_0 : w2.heap.size < w7.heap.size := by omega
        try have z7_2_1 : w2.heap.size + 1 < w7.heap.size := by omega
        try have z7_2_2 : w2.heap.size + 2 < w7.heap.size := by omega
        try have z7_3_0 : w3.heap.size < w7.heap.size := by omega
        try have z7_3_1 : w3.heap.size + 1 < w7.heap.size := by omega
        try have z7_3_2 : w3.heap.size + 2 < w7.heap.size := by omega
        try have z7_4_0 : w4.heap.size < w7.heap.size := by omega
        try have z7_4_1 : w4.heap.size + 1 < w7.heap.size := by omega
        try have z7_4_2 : w4.heap.size + 2 < w7.heap.size := by omega
        try have z7_5_0 : w5.heap.size < w7.heap.size := by omega
        try have z7_5_1 : w5.heap.size + 1 < w7.heap.size := by omega
        try have z7_5_2 : w5.heap.size + 2 < w7.heap.size := by omega
        try have z7_6_0 : w6.heap.size < w7.heap.size := by omega
        try have z7_6_1 : w6.heap.size + 1 < w7.heap.size := by omega
        try have z7_6_2 : w6.heap.size + 2 < w7.heap.size := by omega
        go_wp2_with fail
        refine (flowHash_impl fa fb fc fd fk _).mono ?_
        rintro e w8 ⟨rfl, b8⟩
        rw [HK.out]
        have hc8 := New.cells b8; have hf8 := New.marks b8; have hz8 := New.le b8; try simp only [World.size_alloc, World.size_setCell] at hz8
        try have z8_0_0 : w.heap.size < w8.heap.size := by omega
        try have z8_0_1 : w.heap.size + 1 < w8.heap.size := by omega
        try have z8_0_2 : w.heap.size + 2 < w8.heap.size := by omega
        try have z8_1_0 : w1.heap.size < w8.heap.size := by omega
        try have z8_1_1 : w1.heap.size + 1 < w8.heap.size := by omega
        try have z8_1_2 : w1.heap.size + 2 < w8.heap.size := by omega
        try have z8_2_0 : w2.heap.size < w8.heap.size := by omega
        try have z8_2_1 : w2.heap.size + 1 < w8.heap.size := by omega
        try have z8_2_2 : w2.heap.size + 2 < w8.heap.size := by omega
        try have z8_3_0 : w3.heap.size < w8.heap.size := by omega
        try have z8_3_1 : w3.heap.size + 1 < w8.heap.size := by omega
        try have z8_3_2 : w3.heap.size + 2 < w8.heap.size := by omega
        try have z8_4_0 : w4.heap.size < w8.heap.size := by omega
        try have z8_4_1 : w4.heap.size + 1 < w8.heap.size := by omega
        try have z8_4_2 : w4.heap.size + 2 < w8.heap.size := by omega
        try have z8_5_0 : w5.heap.size < w8.heap.size := by omega
        try have z8_5_1 : w5.heap.size + 1 < w8.heap.size := by omega
        try have z8_5_2 : w5.heap.size + 2 < w8.heap.size := by omega
        try have z8_6_0 : w6.heap.size < w8.heap.size := by omega
        try have z8_6_1 : w6.heap.size + 1 < w8.heap.size := by omega
        try have z8_6_2 : w6.heap.size + 2 < w8.heap.size := by omega
        try have z8_7_0 : w7.heap.size < w8.heap.size := by omega
        try have z8_7_1 : w7.heap.size + 1 < w8.heap.size := by omega
        try have z8_7_2 : w7.heap.size + 2 < w8.heap.size := by omega
        go_wp2_with fail
        refine (rvHost_impl A2 m2 c2 hs K _ HM.out (by omega) (HH.out.new (by repeat (first | with_reducible assumption | with_reducible exact New.refl _ | with_reducible refine New.alloc ?_ _ | with_reducible refine New.drew ?_ | with_reducible refine New.drewN ?_ _ | refine New.setCell ?_ (by first | (simp; done) | omega | (simp; omega)) _ | with_reducible refine New.trans ?_ (by with_reducible assumption))))).mono ?_
        rintro e w9 ⟨rfl, b9⟩
        rw [HR.out]
        have hc9 := New.cells b9; have hf9 := New.marks b9; have hz9 := New.le b9; try simp only [World.size_alloc, World.size_setCell] at hz9
        try have z9_0_0 : w.heap.size < w9.heap.size := by omega
        try have z9_0_1 : w.heap.size + 1 < w9.heap.size := by omega
        try have z9_0_2 : w.heap.size + 2 < w9.heap.size := by omega
        try have z9_1_0 : w1.heap.size < w9.heap.size := by omega
        try have z9_1_1 : w1.heap.size + 1 < w9.heap.size := by omega
        try have z9_1_2 : w1.heap.size + 2 < w9.heap.size := by omega
        try have z9_2_0 : w2.heap.size < w9.heap.size := by omega
        try have z9_2_1 : w2.heap.size + 1 < w9.heap.size := by omega
        try have z9_2_2 : w2.heap.size + 2 < w9.heap.size := by omega
        try have z9_3_0 : w3.heap.size < w9.heap.size := by omega
        try have z9_3_1 : w3.heap.size + 1 < w9.heap.size := by omega
        try have z9_3_2 : w3.heap.size + 2 < w9.heap.size := by omega
        try have z9_4_0 : w4.heap.size < w9.heap.size := by omega
        try have z9_4_1 : w4.heap.size + 1 < w9.heap.size := by omega
        try have z9_4_2 : w4.heap.size + 2 < w9.heap.size := by omega
        try have z9_5_0 : w5.heap.size < w9.heap.size := by omega
        try have z9_5_1 : w5.heap.size + 1 < w9.heap.size := by omega
        try have z9_5_2 : w5.heap.size + 2 < w9.heap.size := by omega
        try have z9_6_0 : w6.heap.size < w9.heap.size := by omega
        try have z9_6_1 : w6.heap.size + 1 < w9.heap.size := by omega
        try have z9_6_2 : w6.heap.size + 2 < w9.heap.size := by omega
        try have z9_7_0 : w7.heap.size < w9.heap.size := by omega
        try have z9_7_1 : w7.heap.size + 1 < w9.heap.size := by omega
        try have z9_7_2 : w7.heap.size + 2 < w9.heap.size := by omega
        try have z9_8_0 : w8.heap.size < w9.heap.size := by omega
        try have z9_8_1 : w8.heap.size + 1 < w9.heap.size := by omega
        try have z9_8_2 : w8.heap.size + 2 < w9.heap.size := by omega
        go_wp2_with fail
        go_ret
        exact ⟨rfl, (by repeat (first | with_reducible assumption | with_reducible exact New.refl _ | with_reducible refine New.alloc ?_ _ | with_reducible refine New.drew ?_ | with_reducible refine New.drewN ?_ _ | refine New.setCell ?_ (by first | (simp; done) | omega | (simp; omega)) _ | with_reducible refine New.trans ?_ (by with_reducible assumption)))⟩
      · subst h1
        have hnd : decide (Z < 0) = false := by simp; omega
        go_wp2_with fail
        refine (choose_impl A2 m2 c2 hs sz st A1 n1 c1 es fa fb fc fd fk _ HM.out (by omega) (HH.out.new (by repeat (first | with_reducible assumption | with_reducible exact New.refl _ | with_reducible refine New.alloc ?_ _ | with_reducible refine New.drew ?_ | with_reducible refine New.drewN ?_ _ | refine New.setCell ?_ (by first | (simp; done) | omega | (simp; omega)) _ | with_reducible refine New.trans ?_ (by with_reducible assumption)))) HEL.out hnc (by omega) (HI.out.new (by repeat (first | with_reducible assumption | with_reducible exact New.refl _ | with_reducible refine New.alloc ?_ _ | with_reducible refine New.drew ?_ | with_reducible refine New.drewN ?_ _ | refine New.setCell ?_ (by first | (simp; done) | omega | (simp; omega)) _ | with_reducible refine New.trans ?_ (by with_reducible assumption))))).mono ?_
        rintro e w2 ⟨rfl, b2⟩
        rw [HZ.out]
        have hc2 := New.cells b2; have hf2 := New.marks b2; have hz2 := New.le b2; try simp only [World.size_alloc, World.size_setCell] at hz2
        try have z2_0_0 : w.heap.size < w2.heap.size := by omega
        try have z2_0_1 : w.heap.size + 1 < w2.heap.size := by omega
        try have z2_0_2 : w.heap.size + 2 < w2.heap.size := by omega
        try have z2_1_0 : w1.heap.size < w2.heap.size := by omega
        try have z2_1_1 : w1.heap.size + 1 < w2.heap.size := by omega
        try have z2_1_2 : w1.heap.size + 2 < w2.heap.size := by omega
        go_wp2_with fail
        refine (choose_spec A2 m2 c2 hs sz st A1 n1 c1 es fa fb fc fd fk _ HM.out (by omega) (HH.out.new (by repeat (first | with_reducible assumption | with_reducible exact New.refl _ | with_reducible refine New.alloc ?_ _ | with_reducible refine New.drew ?_ | with_reducible refine New.drewN ?_ _ | refine New.setCell ?_ (by first | (simp; done) | omega | (simp; omega)) _ | with_reducible refine New.trans ?_ (by with_reducible assumption)))) HEL.out hnc (by omega) (HI.out.new (by repeat (first | with_reducible assumption | with_reducible exact New.refl _ | with_reducible refine New.alloc ?_ _ | with_reducible refine New.drew ?_ | with_reducible refine New.drewN ?_ _ | refine New.setCell ?_ (by first | (simp; done) | omega | (simp; omega)) _ | with_reducible refine New.trans ?_ (by with_reducible assumption))))).mono ?_
        rintro e w3 ⟨rfl, b3⟩
        rw [HZ.out]
        have hc3 := New.cells b3; have hf3 := New.marks b3; have hz3 := New.le b3; try simp only [World.size_alloc, World.size_setCell] at hz3
        try have z3_0_0 : w.heap.size < w3.heap.size := by omega
        try have z3_0_1 : w.heap.size + 1 < w3.heap.size := by omega
        try have z3_0_2 : w.heap.size + 2 < w3.heap.size := by omega
        try have z3_1_0 : w1.heap.size < w3.heap.size := by omega
        try have z3_1_1 : w1.heap.size + 1 < w3.heap.size := by omega
        try have z3_1_2 : w1.heap.size + 2 < w3.heap.size := by omega
        try have z3_2_0 : w2.heap.size < w3.heap.size := by omega
        try have z3_2_1 : w2.heap.size + 1 < w3.heap.size := by omega
        try have z3_2_2 : w2.heap.size + 2 < w3.heap.size := by omega
        go_wp2_with fail
        refine (poolValid_impl A2 m2 c2 hs _ HM.out hmm (HH.out.new (by repeat (first | with_reducible assumption | with_reducible exact New.refl _ | with_reducible refine New.alloc ?_ _ | with_reducible refine New.drew ?_ | with_reducible refine New.drewN ?_ _ | refine New.setCell ?_ (by first | (simp; done) | omega | (simp; omega)) _ | with_reducible refine New.trans ?_ (by with_reducible assumption))))).mono ?_
        rintro e w4 ⟨rfl, b4⟩
        rw [HP.out]
        have hc4 := New.cells b4; have hf4 := New.marks b4; have hz4 := New.le b4; try simp only [World.size_alloc, World.size_setCell] at hz4
        try have z4_0_0 : w.heap.size < w4.heap.size := by omega
        try have z4_0_1 : w.heap.size + 1 < w4.heap.size := by omega
        try have z4_0_2 : w.heap.size + 2 < w4.heap.size := by omega
        try have z4_1_0 : w1.heap.size < w4.heap.size := by omega
        try have z4_1_1 : w1.heap.size + 1 < w4.heap.size := by omega
        try have z4_1_2 : w1.heap.size + 2 < w4.heap.size := by omega
        try have z4_2_0 : w2.heap.size < w4.heap.size := by omega
        try have z4_2_1 : w2.heap.size + 1 < w4.heap.size := by omega
        try have z4_2_2 : w2.heap.size + 2 < w4.heap.size := by omega
        try have z4_3_0 : w3.heap.size < w4.heap.size := by omega
        try have z4_3_1 : w3.heap.size + 1 < w4.heap.size := by omega
        try have z4_3_2 : w3.heap.size + 2 < w4.heap.size := by omega
        go_wp2_with fail
        refine (tableValid_impl sz st A1 n1 c1 es _ HEL.out (by omega) (HI.out.new (by repeat (first | with_reducible assumption | with_reducible exact New.refl _ | with_reducible refine New.alloc ?_ _ | with_reducible refine New.drew ?_ | with_reducible refine New.drewN ?_ _ | refine New.setCell ?_ (by first | (simp; done) | omega | (simp; omega)) _ | with_reducible refine New.trans ?_ (by with_reducible assumption))))).mono ?_
        rintro e w5 ⟨rfl, b5⟩
        rw [HT.out]
        have hc5 := New.cells b5; have hf5 := New.marks b5; have hz5 := New.le b5; try simp only [World.size_alloc, World.size_setCell] at hz5
        try have z5_0_0 : w.heap.size < w5.heap.size := by omega
        try have z5_0_1 : w.heap.size + 1 < w5.heap.size := by omega
        try have z5_0_2 : w.heap.size + 2 < w5.heap.size := by omega
        try have z5_1_0 : w1.heap.size < w5.heap.size := by omega
        try have z5_1_1 : w1.heap.size + 1 < w5.heap.size := by omega
        try have z5_1_2 : w1.heap.size + 2 < w5.heap.size := by omega
        try have z5_2_0 : w2.heap.size < w5.heap.size := by omega
        try have z5_2_1 : w2.heap.size + 1 < w5.heap.size := by omega
        try have z5_2_2 : w2.heap.size + 2 < w5.heap.size := by omega
        try have z5_3_0 : w3.heap.size < w5.heap.size := by omega
        try have z5_3_1 : w3.heap.size + 1 < w5.heap.size := by omega
        try have z5_3_2 : w3.heap.size + 2 < w5.heap.size := by omega
        try have z5_4_0 : w4.heap.size < w5.heap.size := by omega
        try have z5_4_1 : w4.heap.size + 1 < w5.heap.size := by omega
        try have z5_4_2 : w4.heap.size + 2 < w5.heap.size := by omega
        go_wp2_with fail
        refine (flowValid_impl fa fb fc fd fk _).mono ?_
        rintro e w6 ⟨rfl, b6⟩
        rw [HFL.out]
        have hc6 := New.cells b6; have hf6 := New.marks b6; have hz6 := New.le b6; try simp only [World.size_alloc, World.size_setCell] at hz6
        try have z6_0_0 : w.heap.size < w6.heap.size := by omega
        try have z6_0_1 : w.heap.size + 1 < w6.heap.size := by omega
        try have z6_0_2 : w.heap.size + 2 < w6.heap.size := by omega
        try have z6_1_0 : w1.heap.size < w6.heap.size := by omega
        try have z6_1_1 : w1.heap.size + 1 < w6.heap.size := by omega
        try have z6_1_2 : w1.heap.size + 2 < w6.heap.size := by omega
        try have z6_2_0 : w2.heap.size < w6.heap.size := by omega
        try have z6_2_1 : w2.heap.size + 1 < w6.heap.size := by omega
        try have z6_2_2 : w2.heap.size + 2 < w6.heap.size := by omega
        try have z6_3_0 : w3.heap.size < w6.heap.size := by omega
        try have z6_3_1 : w3.heap.size + 1 < w6.heap.size := by omega
        try have z6_3_2 : w3.heap.size + 2 < w6.heap.size := by omega
        try have z6_4_0 : w4.heap.size < w6.heap.size := by omega
        try have z6_4_1 : w4.heap.size + 1 < w6.heap.size := by omega
        try have z6_4_2 : w4.heap.size + 2 < w6.heap.size := by omega
        try have z6_5_0 : w5.heap.size < w6.heap.size := by omega
        try have z6_5_1 : w5.heap.size + 1 < w6.heap.size := by omega
        try have z6_5_2 : w5.heap.size + 2 < w6.heap.size := by omega
        go_wp2_with fail
        refine (findFlow_impl sz st A1 n1 c1 es fa fb fc fd fk _ HEL.out (by omega) (HI.out.new (by repeat (first | with_reducible assumption | with_reducible exact New.refl _ | with_reducible refine New.alloc ?_ _ | with_reducible refine New.drew ?_ | with_reducible refine New.drewN ?_ _ | refine New.setCell ?_ (by first | (simp; done) | omega | (simp; omega)) _ | with_reducible refine New.trans ?_ (by with_reducible assumption))))).mono ?_
        rintro e w7 ⟨rfl, b7⟩
        rw [HO.out]
        have hc7 := New.cells b7; have hf7 := New.marks b7; have hz7 := New.le b7; try simp only [World.size_alloc, World.size_setCell] at hz7
        try have z7_0_0 : w.heap.size < w7.heap.size := by omega
        try have z7_0_1 : w.heap.size + 1 < w7.heap.size := by omega
        try have z7_0_2 : w.heap.size + 2 < w7.heap.size := by omega
        try have z7_1_0 : w1.heap.size < w7.heap.size := by omega
        try have z7_1_1 : w1.heap.size + 1 < w7.heap.size := by omega
        try have z7_1_2 : w1.heap.size + 2 < w7.heap.size := by omega
        try have z7_2_0 : w2.heap.size < w7.heap.size := by omega
        try have z7_2_1 : w2.heap.size + 1 < w7.heap.size := by omega
        try have z7_2_2 : w2.heap.size + 2 < w7.heap.size := by omega
        try have z7_3_0 : w3.heap.size < w7.heap.size := by omega
        try have z7_3_1 : w3.heap.size + 1 < w7.heap.size := by omega
        try have z7_3_2 : w3.heap.size + 2 < w7.heap.size := by omega
        try have z7_4_0 : w4.heap.size < w7.heap.size := by omega
        try have z7_4_1 : w4.heap.size + 1 < w7.heap.size := by omega
        try have z7_4_2 : w4.heap.size + 2 < w7.heap.size := by omega
        try have z7_5_0 : w5.heap.size < w7.heap.size := by omega
        try have z7_5_1 : w5.heap.size + 1 < w7.heap.size := by omega
        try have z7_5_2 : w5.heap.size + 2 < w7.heap.size := by omega
        try have z7_6_0 : w6.heap.size < w7.heap.size := by omega
        try have z7_6_1 : w6.heap.size + 1 < w7.heap.size := by omega
        try have z7_6_2 : w6.heap.size + 2 < w7.heap.size := by omega
        go_wp2_with fail
        refine (flowHash_impl fa fb fc fd fk _).mono ?_
        rintro e w8 ⟨rfl, b8⟩
        rw [HK.out]
        have hc8 := New.cells b8; have hf8 := New.marks b8; have hz8 := New.le b8; try simp only [World.size_alloc, World.size_setCell] at hz8
        try have z8_0_0 : w.heap.size < w8.heap.size := by omega
        try have z8_0_1 : w.heap.size + 1 < w8.heap.size := by omega
        try have z8_0_2 : w.heap.size + 2 < w8.heap.size := by omega
        try have z8_1_0 : w1.heap.size < w8.heap.size := by omega
        try have z8_1_1 : w1.heap.size + 1 < w8.heap.size := by omega
        try have z8_1_2 : w1.heap.size + 2 < w8.heap.size := by omega
        try have z8_2_0 : w2.heap.size < w8.heap.size := by omega
        try have z8_2_1 : w2.heap.size + 1 < w8.heap.size := by omega
        try have z8_2_2 : w2.heap.size + 2 < w8.heap.size := by omega
        try have z8_3_0 : w3.heap.size < w8.heap.size := by omega
        try have z8_3_1 : w3.heap.size + 1 < w8.heap.size := by omega
        try have z8_3_2 : w3.heap.size + 2 < w8.heap.size := by omega
        try have z8_4_0 : w4.heap.size < w8.heap.size := by omega
        try have z8_4_1 : w4.heap.size + 1 < w8.heap.size := by omega
        try have z8_4_2 : w4.heap.size + 2 < w8.heap.size := by omega
        try have z8_5_0 : w5.heap.size < w8.heap.size := by omega
        try have z8_5_1 : w5.heap.size + 1 < w8.heap.size := by omega
        try have z8_5_2 : w5.heap.size + 2 < w8.heap.size := by omega
        try have z8_6_0 : w6.heap.size < w8.heap.size := by omega
        try have z8_6_1 : w6.heap.size + 1 < w8.heap.size := by omega
        try have z8_6_2 : w6.heap.size + 2 < w8.heap.size := by omega
        try have z8_7_0 : w7.heap.size < w8.heap.size := by omega
        try have z8_7_1 : w7.heap.size + 1 < w8.heap.size := by omega
        try have z8_7_2 : w7.heap.size + 2 < w8.heap.size := by omega
        go_wp2_with fail
        refine (rvHost_impl A2 m2 c2 hs K _ HM.out (by omega) (HH.out.new (by repeat (first | with_reducible assumption | with_reducible exact New.refl _ | with_reducible refine New.alloc ?_ _ | with_reducible refine New.drew ?_ | with_reducible refine New.drewN ?_ _ | refine New.setCell ?_ (by first | (simp; done) | omega | (simp; omega)) _ | with_reducible refine New.trans ?_ (by with_reducible assumption))))).mono ?_
        rintro e w9 ⟨rfl, b9⟩
        rw [HR.out]
        have hc9 := New.cells b9; have hf9 := New.marks b9; have hz9 := New.le b9; try simp only [World.size_alloc, World.size_setCell] at hz9
        try have z9_0_0 : w.heap.size < w9.heap.size := by omega
        try have z9_0_1 : w.heap.size + 1 < w9.heap.size := by omega
        try have z9_0_2 : w.heap.size + 2 < w9.heap.size := by omega
        try have z9_1_0 : w1.heap.size < w9.heap.size := by omega
        try have z9_1_1 : w1.heap.size + 1 < w9.heap.size := by omega
        try have z9_1_2 : w1.heap.size + 2 < w9.heap.size := by omega
        try have z9_2_0 : w2.heap.size < w9.heap.size := by omega
        try have z9_2_1 : w2.heap.size + 1 < w9.heap.size := by omega
        try have z9_2_2 : w2.heap.size + 2 < w9.heap.size := by omega
        try have z9_3_0 : w3.heap.size < w9.heap.size := by omega
        try have z9_3_1 : w3.heap.size + 1 < w9.heap.size := by omega
        try have z9_3_2 : w3.heap.size + 2 < w9.heap.size := by omega
        try have z9_4_0 : w4.heap.size < w9.heap.size := by omega
        try have z9_4_1 : w4.heap.size + 1 < w9.heap.size := by omega
        try have z9_4_2 : w4.heap.size + 2 < w9.heap.size := by omega
        try have z9_5_0 : w5.heap.size < w9.heap.size := by omega
        try have z9_5_1 : w5.heap.size + 1 < w9.heap.size := by omega
        try have z9_5_2 : w5.heap.size + 2 < w9.heap.size := by omega
        try have z9_6_0 : w6.heap.size < w9.heap.size := by omega
        try have z9_6_1 : w6.heap.size + 1 < w9.heap.size := by omega
        try have z9_6_2 : w6.heap.size + 2 < w9.heap.size := by omega
        try have z9_7_0 : w7.heap.size < w9.heap.size := by omega
        try have z9_7_1 : w7.heap.size + 1 < w9.heap.size := by omega
        try have z9_7_2 : w7.heap.size + 2 < w9.heap.size := by omega
        try have z9_8_0 : w8.heap.size < w9.heap.size := by omega
        try have z9_8_1 : w8.heap.size + 1 < w9.heap.size := by omega
        try have z9_8_2 : w8.heap.size + 2 < w9.heap.size := by omega
        go_wp2_with fail
        refine (hostState_impl A2 m2 c2 hs Z _ HM.out hmm (HH.out.new (by repeat (first | with_reducible assumption | with_reducible exact New.refl _ | with_reducible refine New.alloc ?_ _ | with_reducible refine New.drew ?_ | with_reducible refine New.drewN ?_ _ | refine New.setCell ?_ (by first | (simp; done) | omega | (simp; omega)) _ | with_reducible refine New.trans ?_ (by with_reducible assumption))))).mono ?_
        rintro e w10 ⟨rfl, b10⟩
        rw [HS2.out]
        have hc10 := New.cells b10; have hf10 := New.marks b10; have hz10 := New.le b10; try simp only [World.size_alloc, World.size_setCell] at hz10
        try have z10_0_0 : w.heap.size < w10.heap.size := by omega
        try have z10_0_1 : w.heap.size + 1 < w10.heap.size := by omega
        try have z10_0_2 : w.heap.size + 2 < w10.heap.size := by omega
        try have z10_1_0 : w1.heap.size < w10.heap.size := by omega
        try have z10_1_1 : w1.heap.size + 1 < w10.heap.size := by omega
        try have z10_1_2 : w1.heap.size + 2 < w10.heap.size := by omega
        try have z10_2_0 : w2.heap.size < w10.heap.size := by omega
        try have z10_2_1 : w2.heap.size + 1 < w10.heap.size := by omega
        try have z10_2_2 : w2.heap.size + 2 < w10.heap.size := by omega
        try have z10_3_0 : w3.heap.size < w10.heap.size := by omega
        try have z10_3_1 : w3.heap.size + 1 < w10.heap.size := by omega
        try have z10_3_2 : w3.heap.size + 2 < w10.heap.size := by omega
        try have z10_4_0 : w4.heap.size < w10.heap.size := by omega
        try have z10_4_1 : w4.heap.size + 1 < w10.heap.size := by omega
        try have z10_4_2 : w4.heap.size + 2 < w10.heap.size := by omega
        try have z10_5_0 : w5.heap.size < w10.heap.size := by omega
        try have z10_5_1 : w5.heap.size + 1 < w10.heap.size := by omega
        try have z10_5_2 : w5.heap.size + 2 < w10.heap.size := by omega
        try have z10_6_0 : w6.heap.size < w10.heap.size := by omega
        try have z10_6_1 : w6.heap.size + 1 < w10.heap.size := by omega
        try have z10_6_2 : w6.heap.size + 2 < w10.heap.size := by omega
        try have z10_7_0 : w7.heap.size < w10.heap.size := by omega
        try have z10_7_1 : w7.heap.size + 1 < w10.heap.size := by omega
        try have z10_7_2 : w7.heap.size + 2 < w10.heap.size := by omega
        try have z10_8_0 : w8.heap.size < w10.heap.size := by omega
        try have z10_8_1 : w8.heap.size + 1 < w10.heap.size := by omega
        try have z10_8_2 : w8.heap.size + 2 < w10.heap.size := by omega
        try have z10_9_0 : w9.heap.size < w10.heap.size := by omega
        try have z10_9_1 : w9.heap.size + 1 < w10.heap.size := by omega
        try have z10_9_2 : w9.heap.size + 2 < w10.heap.size := by omega
        go_wp2_with fail
        go_ret
        exact ⟨rfl, (by repeat (first | with_reducible assumption | with_reducible exact New.refl _ | with_reducible refine New.alloc ?_ _ | with_reducible refine New.drew ?_ | with_reducible refine New.drewN ?_ _ | refine New.setCell ?_ (by first | (simp; done) | omega | (simp; omega)) _ | with_reducible refine New.trans ?_ (by with_reducible assumption)))⟩
/-- What drains keeps its flows and gets no new one. -/
theorem drain_law {hs : List Hst} {sz st : Int} {es : List Ent} {a b c d k Z : Int} (hZ : chooseZ hs sz st es a b c d k = Z) (h0 : 0 ≤ Z) : okS hs Z 2 = true ∧ (chooseZ (setH hs Z 2) sz st es a b c d k = Z ↔ findZ sz st es a b c d k = Z) := by
  have hV : (poolB hs && tabB sz st es && flowB a b c d k) = true := by
    cases h : poolB hs && tabB sz st es && flowB a b c d k
    · rw [chooseZ_no h] at hZ; omega
    · rfl
  have hP : poolB hs = true := by simp only [Bool.and_eq_true] at hV; exact hV.1.1
  have hTF : tabB sz st es = true ∧ flowB a b c d k = true := by simp only [Bool.and_eq_true] at hV; exact ⟨hV.1.2, hV.2⟩
  obtain ⟨O, hO⟩ : ∃ O, findZ sz st es a b c d k = O := ⟨_, rfl⟩
  rw [hO]
  have hst : stateZ hs Z ≠ 0 := by
    by_cases hold : 0 ≤ O ∧ stateZ hs O ≠ 0
    · have : Z = O := by rw [← hZ, ← hO]; exact chooseZ_old hV (by rw [hO]; exact hold.1) (by rw [hO]; exact hold.2)
      rw [this]; exact hold.2
    · have hR : rvZ hs (flowHashZ a b c d k) = Z := by rw [← hZ]; exact (chooseZ_new hV (by rw [hO]; exact hold)).symm
      have := rv_up (hs := hs) (key := flowHashZ a b c d k) (by rw [hR]; exact h0)
      rw [hR] at this
      omega
  have hex : ∃ (i : Nat) (x : Hst), hs[i]? = some x ∧ x.num = Z := by
    rcases idx_cases hs Z with ⟨i, x, hx, hxZ, _⟩ | ⟨hno, _⟩
    · exact ⟨i, x, hx, hxZ⟩
    · exact absurd (stateZ_none hno) hst
  obtain ⟨i, x, hx, hxZ⟩ := hex
  have hok : okS hs Z 2 = true := okS_mem hP hx hxZ (by omega)
  have hP2 := setH_pool hok
  have hV2 : (poolB (setH hs Z 2) && tabB sz st es && flowB a b c d k) = true := by simp [hP2, hTF.1, hTF.2]
  have hself := setH_self hok
  refine ⟨hok, ?_, fun hOZ => ?_⟩
  · intro hm
    apply Decidable.byContradiction
    intro hne
    have hnold : ¬ (0 ≤ O ∧ stateZ hs O ≠ 0) := fun hold => hne (by rw [← hZ, ← hO]; exact (chooseZ_old hV (by rw [hO]; exact hold.1) (by rw [hO]; exact hold.2)).symm)
    have hsame : stateZ (setH hs Z 2) O = stateZ hs O := by
      rcases idx_cases hs O with ⟨j, y, hy, hyO, _⟩ | ⟨hno, _⟩
      · have h1 := setH_other hok hy (by rw [hyO]; exact hne)
        have h2 := stateZ_mem hP hy
        rw [hyO] at h1 h2
        rw [h1, h2]
      · rw [stateZ_none hno, stateZ_none (fun j hj y hy => ?_)]
        rw [setH_length hok] at hj
        have hj2 : hs[j]? = some hs[j] := List.getElem?_eq_getElem hj
        rw [setH_at hok hj2] at hy
        obtain rfl := Option.some.inj hy
        rw [setOne_num]
        exact hno j hj _ hj2
    have hR : rvZ (setH hs Z 2) (flowHashZ a b c d k) = Z := by
      have := chooseZ_new hV2 (by rw [hO, hsame]; exact hnold)
      rw [hm] at this
      exact this.symm
    have := rv_up (hs := setH hs Z 2) (key := flowHashZ a b c d k) (by rw [hR]; exact h0)
    rw [hR, hself] at this
    omega
  · rw [chooseZ_old hV2 (by rw [hO, hOZ]; exact h0) (by rw [hO, hOZ, hself]; omega), hO, hOZ]
set_option maxRecDepth 100000 in
set_option maxHeartbeats 2000000 in
theorem walk_FnDrainSticks (A : Option Addr) (n c : Nat) (zs : List Int) (w : World) (H : ArgInts .u8 w A n c 1 zs) :
    Calls Try.prog 13 #[.slice A n c] w fun e w' => e = .returned (.bool true) ∧ New w w' := by
  have hc := CodeArg.of H
  have hm := hc.2.1
  unfold maxLen at hm
  clear H
  by_cases hbig : 1048576 < n
  · go_enter Try.func13, Try.ntmps13
    go_wp2_with fail
    go_ret
    exact ⟨rfl, (by repeat (first | with_reducible assumption | with_reducible exact New.refl _ | with_reducible refine New.alloc ?_ _ | with_reducible refine New.drew ?_ | with_reducible refine New.drewN ?_ _ | refine New.setCell ?_ (by first | (simp; done) | omega | (simp; omega)) _ | with_reducible refine New.trans ?_ (by with_reducible assumption)))⟩
  go_enter Try.func13, Try.ntmps13
  go_wp2_with fail
  refine (DrawChooseHost_any A n c zs _ hc).mono ?_
  rintro e w1 ⟨A2, m2, c2, hs, v, fa, fb, fc, fd, fk, rfl, hm2, hm7, hmc, hcm2, hIH, ⟨sz, st, A1, n1, c1, es, rfl, hn8, hnc, hcm, hel, _, hI⟩, b1⟩
  obtain ⟨Z, hZ⟩ : ∃ Z, chooseZ hs sz st es fa fb fc fd fk = Z := ⟨_, rfl⟩
  have HZ := Lib.hid hZ
  have HM := Lib.hid hm2
  have HH := Lib.hid hIH
  have HEL := Lib.hid hel
  have HI := Lib.hid hI
  have hz1 := New.le b1
  have hmm : m2 ≤ maxLen := by unfold maxLen; omega
  clear hm2 hIH hel hI hc
  by_cases h0 : Z < 0
  · clear hZ
    go_wp2_with fail
    refine (choose_impl A2 m2 c2 hs sz st A1 n1 c1 es fa fb fc fd fk _ HM.out (by omega) (HH.out.new (by repeat (first | with_reducible assumption | with_reducible exact New.refl _ | with_reducible refine New.alloc ?_ _ | with_reducible refine New.drew ?_ | with_reducible refine New.drewN ?_ _ | refine New.setCell ?_ (by first | (simp; done) | omega | (simp; omega)) _ | with_reducible refine New.trans ?_ (by with_reducible assumption)))) HEL.out hnc (by omega) (HI.out.new (by repeat (first | with_reducible assumption | with_reducible exact New.refl _ | with_reducible refine New.alloc ?_ _ | with_reducible refine New.drew ?_ | with_reducible refine New.drewN ?_ _ | refine New.setCell ?_ (by first | (simp; done) | omega | (simp; omega)) _ | with_reducible refine New.trans ?_ (by with_reducible assumption))))).mono ?_
    rintro e w2 ⟨rfl, b2⟩
    rw [HZ.out]
    have hc2 := New.cells b2; have hf2 := New.marks b2; have hz2 := New.le b2; try simp only [World.size_alloc, World.size_setCell] at hz2
    try have z2_0_0 : w.heap.size < w2.heap.size := by omega
    try have z2_0_1 : w.heap.size + 1 < w2.heap.size := by omega
    try have z2_0_2 : w.heap.size + 2 < w2.heap.size := by omega
    try have z2_1_0 : w1.heap.size < w2.heap.size := by omega
    try have z2_1_1 : w1.heap.size + 1 < w2.heap.size := by omega
    try have z2_1_2 : w1.heap.size + 2 < w2.heap.size := by omega
    go_wp2_with fail
    refine (choose_spec A2 m2 c2 hs sz st A1 n1 c1 es fa fb fc fd fk _ HM.out (by omega) (HH.out.new (by repeat (first | with_reducible assumption | with_reducible exact New.refl _ | with_reducible refine New.alloc ?_ _ | with_reducible refine New.drew ?_ | with_reducible refine New.drewN ?_ _ | refine New.setCell ?_ (by first | (simp; done) | omega | (simp; omega)) _ | with_reducible refine New.trans ?_ (by with_reducible assumption)))) HEL.out hnc (by omega) (HI.out.new (by repeat (first | with_reducible assumption | with_reducible exact New.refl _ | with_reducible refine New.alloc ?_ _ | with_reducible refine New.drew ?_ | with_reducible refine New.drewN ?_ _ | refine New.setCell ?_ (by first | (simp; done) | omega | (simp; omega)) _ | with_reducible refine New.trans ?_ (by with_reducible assumption))))).mono ?_
    rintro e w3 ⟨rfl, b3⟩
    rw [HZ.out]
    have hc3 := New.cells b3; have hf3 := New.marks b3; have hz3 := New.le b3; try simp only [World.size_alloc, World.size_setCell] at hz3
    try have z3_0_0 : w.heap.size < w3.heap.size := by omega
    try have z3_0_1 : w.heap.size + 1 < w3.heap.size := by omega
    try have z3_0_2 : w.heap.size + 2 < w3.heap.size := by omega
    try have z3_1_0 : w1.heap.size < w3.heap.size := by omega
    try have z3_1_1 : w1.heap.size + 1 < w3.heap.size := by omega
    try have z3_1_2 : w1.heap.size + 2 < w3.heap.size := by omega
    try have z3_2_0 : w2.heap.size < w3.heap.size := by omega
    try have z3_2_1 : w2.heap.size + 1 < w3.heap.size := by omega
    try have z3_2_2 : w2.heap.size + 2 < w3.heap.size := by omega
    go_wp2_with fail
    refine (alive_any _).mono ?_
    rintro e w4 ⟨rfl, b4⟩
    have hc4 := New.cells b4; have hf4 := New.marks b4; have hz4 := New.le b4; try simp only [World.size_alloc, World.size_setCell] at hz4
    try have z4_0_0 : w.heap.size < w4.heap.size := by omega
    try have z4_0_1 : w.heap.size + 1 < w4.heap.size := by omega
    try have z4_0_2 : w.heap.size + 2 < w4.heap.size := by omega
    try have z4_1_0 : w1.heap.size < w4.heap.size := by omega
    try have z4_1_1 : w1.heap.size + 1 < w4.heap.size := by omega
    try have z4_1_2 : w1.heap.size + 2 < w4.heap.size := by omega
    try have z4_2_0 : w2.heap.size < w4.heap.size := by omega
    try have z4_2_1 : w2.heap.size + 1 < w4.heap.size := by omega
    try have z4_2_2 : w2.heap.size + 2 < w4.heap.size := by omega
    try have z4_3_0 : w3.heap.size < w4.heap.size := by omega
    try have z4_3_1 : w3.heap.size + 1 < w4.heap.size := by omega
    try have z4_3_2 : w3.heap.size + 2 < w4.heap.size := by omega
    go_wp2_with fail
    go_ret
    exact ⟨rfl, (by repeat (first | with_reducible assumption | with_reducible exact New.refl _ | with_reducible refine New.alloc ?_ _ | with_reducible refine New.drew ?_ | with_reducible refine New.drewN ?_ _ | refine New.setCell ?_ (by first | (simp; done) | omega | (simp; omega)) _ | with_reducible refine New.trans ?_ (by with_reducible assumption)))⟩
  obtain ⟨hok, hiff⟩ := drain_law hZ (by omega)
  obtain ⟨O, hO⟩ : ∃ O, findZ sz st es fa fb fc fd fk = O := ⟨_, rfl⟩
  obtain ⟨M, hM⟩ : ∃ M, chooseZ (setH hs Z 2) sz st es fa fb fc fd fk = M := ⟨_, rfl⟩
  obtain ⟨X, hX⟩ : ∃ X, setH hs Z 2 = X := ⟨_, rfl⟩
  obtain ⟨L, hL⟩ : ∃ L, X.length = L := ⟨_, rfl⟩
  have hL6 : L ≤ 6 := by rw [← hL, ← hX]; exact setH_len hs Z 2
  have HO := Lib.hid hO
  rw [hO, hM] at hiff
  rw [hX] at hM
  have HMM := Lib.hid hM
  have HX := Lib.hid hX
  have HL := Lib.hid hL
  have HOK := Lib.hid hok
  clear hZ hO hM hX hL hok
  obtain ⟨B1, hB1⟩ : ∃ B1, (M == Z) = B1 := ⟨_, rfl⟩
  obtain ⟨B2, hB2⟩ : ∃ B2, (O == Z) = B2 := ⟨_, rfl⟩
  have hBB : (B1 == B2) = true := by
    rw [← hB1, ← hB2]
    by_cases h : M = Z
    · have := hiff.1 h
      simp [h, this]
    · have h2 : ¬ O = Z := fun e => h (hiff.2 e)
      have e1 : (M == Z) = false := by simpa using h
      have e2 : (O == Z) = false := by simpa using h2
      rw [e1, e2]; rfl
  clear hiff
  go_wp2_with fail
  refine (choose_impl A2 m2 c2 hs sz st A1 n1 c1 es fa fb fc fd fk _ HM.out (by omega) (HH.out.new (by repeat (first | with_reducible assumption | with_reducible exact New.refl _ | with_reducible refine New.alloc ?_ _ | with_reducible refine New.drew ?_ | with_reducible refine New.drewN ?_ _ | refine New.setCell ?_ (by first | (simp; done) | omega | (simp; omega)) _ | with_reducible refine New.trans ?_ (by with_reducible assumption)))) HEL.out hnc (by omega) (HI.out.new (by repeat (first | with_reducible assumption | with_reducible exact New.refl _ | with_reducible refine New.alloc ?_ _ | with_reducible refine New.drew ?_ | with_reducible refine New.drewN ?_ _ | refine New.setCell ?_ (by first | (simp; done) | omega | (simp; omega)) _ | with_reducible refine New.trans ?_ (by with_reducible assumption))))).mono ?_
  rintro e w2 ⟨rfl, b2⟩
  rw [HZ.out]
  have hc2 := New.cells b2; have hf2 := New.marks b2; have hz2 := New.le b2; try simp only [World.size_alloc, World.size_setCell] at hz2
  try have z2_0_0 : w.heap.size < w2.heap.size := by omega
  try have z2_0_1 : w.heap.size + 1 < w2.heap.size := by omega
  try have z2_0_2 : w.heap.size + 2 < w2.heap.size := by omega
  try have z2_1_0 : w1.heap.size < w2.heap.size := by omega
  try have z2_1_1 : w1.heap.size + 1 < w2.heap.size := by omega
  try have z2_1_2 : w1.heap.size + 2 < w2.heap.size := by omega
  go_wp2_with fail
  refine (choose_spec A2 m2 c2 hs sz st A1 n1 c1 es fa fb fc fd fk _ HM.out (by omega) (HH.out.new (by repeat (first | with_reducible assumption | with_reducible exact New.refl _ | with_reducible refine New.alloc ?_ _ | with_reducible refine New.drew ?_ | with_reducible refine New.drewN ?_ _ | refine New.setCell ?_ (by first | (simp; done) | omega | (simp; omega)) _ | with_reducible refine New.trans ?_ (by with_reducible assumption)))) HEL.out hnc (by omega) (HI.out.new (by repeat (first | with_reducible assumption | with_reducible exact New.refl _ | with_reducible refine New.alloc ?_ _ | with_reducible refine New.drew ?_ | with_reducible refine New.drewN ?_ _ | refine New.setCell ?_ (by first | (simp; done) | omega | (simp; omega)) _ | with_reducible refine New.trans ?_ (by with_reducible assumption))))).mono ?_
  rintro e w3 ⟨rfl, b3⟩
  rw [HZ.out]
  have hc3 := New.cells b3; have hf3 := New.marks b3; have hz3 := New.le b3; try simp only [World.size_alloc, World.size_setCell] at hz3
  try have z3_0_0 : w.heap.size < w3.heap.size := by omega
  try have z3_0_1 : w.heap.size + 1 < w3.heap.size := by omega
  try have z3_0_2 : w.heap.size + 2 < w3.heap.size := by omega
  try have z3_1_0 : w1.heap.size < w3.heap.size := by omega
  try have z3_1_1 : w1.heap.size + 1 < w3.heap.size := by omega
  try have z3_1_2 : w1.heap.size + 2 < w3.heap.size := by omega
  try have z3_2_0 : w2.heap.size < w3.heap.size := by omega
  try have z3_2_1 : w2.heap.size + 1 < w3.heap.size := by omega
  try have z3_2_2 : w2.heap.size + 2 < w3.heap.size := by omega
  go_wp2_with fail
  refine (setState_impl A2 m2 c2 hs Z 2 _ HM.out (by omega) (HH.out.new (by repeat (first | with_reducible assumption | with_reducible exact New.refl _ | with_reducible refine New.alloc ?_ _ | with_reducible refine New.drew ?_ | with_reducible refine New.drewN ?_ _ | refine New.setCell ?_ (by first | (simp; done) | omega | (simp; omega)) _ | with_reducible refine New.trans ?_ (by with_reducible assumption))))).mono ?_
  rintro e w4 ⟨AX, cX, rfl, ncX, cmX, oX, b4⟩
  simp only [HX.out, HL.out, HOK.out] at ncX oX ⊢
  have HIX := Lib.hid oX.ints
  clear oX
  have hc4 := New.cells b4; have hf4 := New.marks b4; have hz4 := New.le b4; try simp only [World.size_alloc, World.size_setCell] at hz4
  try have z4_0_0 : w.heap.size < w4.heap.size := by omega
  try have z4_0_1 : w.heap.size + 1 < w4.heap.size := by omega
  try have z4_0_2 : w.heap.size + 2 < w4.heap.size := by omega
  try have z4_1_0 : w1.heap.size < w4.heap.size := by omega
  try have z4_1_1 : w1.heap.size + 1 < w4.heap.size := by omega
  try have z4_1_2 : w1.heap.size + 2 < w4.heap.size := by omega
  try have z4_2_0 : w2.heap.size < w4.heap.size := by omega
  try have z4_2_1 : w2.heap.size + 1 < w4.heap.size := by omega
  try have z4_2_2 : w2.heap.size + 2 < w4.heap.size := by omega
  try have z4_3_0 : w3.heap.size < w4.heap.size := by omega
  try have z4_3_1 : w3.heap.size + 1 < w4.heap.size := by omega
  try have z4_3_2 : w3.heap.size + 2 < w4.heap.size := by omega
  go_wp2_with fail
  refine (choose_impl AX L cX X sz st A1 n1 c1 es fa fb fc fd fk _ HL.out (by omega) (HIX.out.new (by repeat (first | with_reducible assumption | with_reducible exact New.refl _ | with_reducible refine New.alloc ?_ _ | with_reducible refine New.drew ?_ | with_reducible refine New.drewN ?_ _ | refine New.setCell ?_ (by first | (simp; done) | omega | (simp; omega)) _ | with_reducible refine New.trans ?_ (by with_reducible assumption)))) HEL.out hnc (by omega) (HI.out.new (by repeat (first | with_reducible assumption | with_reducible exact New.refl _ | with_reducible refine New.alloc ?_ _ | with_reducible refine New.drew ?_ | with_reducible refine New.drewN ?_ _ | refine New.setCell ?_ (by first | (simp; done) | omega | (simp; omega)) _ | with_reducible refine New.trans ?_ (by with_reducible assumption))))).mono ?_
  rintro e w5 ⟨rfl, b5⟩
  rw [HMM.out]
  have hc5 := New.cells b5; have hf5 := New.marks b5; have hz5 := New.le b5; try simp only [World.size_alloc, World.size_setCell] at hz5
  try have z5_0_0 : w.heap.size < w5.heap.size := by omega
  try have z5_0_1 : w.heap.size + 1 < w5.heap.size := by omega
  try have z5_0_2 : w.heap.size + 2 < w5.heap.size := by omega
  try have z5_1_0 : w1.heap.size < w5.heap.size := by omega
  try have z5_1_1 : w1.heap.size + 1 < w5.heap.size := by omega
  try have z5_1_2 : w1.heap.size + 2 < w5.heap.size := by omega
  try have z5_2_0 : w2.heap.size < w5.heap.size := by omega
  try have z5_2_1 : w2.heap.size + 1 < w5.heap.size := by omega
  try have z5_2_2 : w2.heap.size + 2 < w5.heap.size := by omega
  try have z5_3_0 : w3.heap.size < w5.heap.size := by omega
  try have z5_3_1 : w3.heap.size + 1 < w5.heap.size := by omega
  try have z5_3_2 : w3.heap.size + 2 < w5.heap.size := by omega
  try have z5_4_0 : w4.heap.size < w5.heap.size := by omega
  try have z5_4_1 : w4.heap.size + 1 < w5.heap.size := by omega
  try have z5_4_2 : w4.heap.size + 2 < w5.heap.size := by omega
  go_wp2_with fail
  refine (findFlow_impl sz st A1 n1 c1 es fa fb fc fd fk _ HEL.out (by omega) (HI.out.new (by repeat (first | with_reducible assumption | with_reducible exact New.refl _ | with_reducible refine New.alloc ?_ _ | with_reducible refine New.drew ?_ | with_reducible refine New.drewN ?_ _ | refine New.setCell ?_ (by first | (simp; done) | omega | (simp; omega)) _ | with_reducible refine New.trans ?_ (by with_reducible assumption))))).mono ?_
  rintro e w6 ⟨rfl, b6⟩
  rw [HO.out]
  have hc6 := New.cells b6; have hf6 := New.marks b6; have hz6 := New.le b6; try simp only [World.size_alloc, World.size_setCell] at hz6
  try have z6_0_0 : w.heap.size < w6.heap.size := by omega
  try have z6_0_1 : w.heap.size + 1 < w6.heap.size := by omega
  try have z6_0_2 : w.heap.size + 2 < w6.heap.size := by omega
  try have z6_1_0 : w1.heap.size < w6.heap.size := by omega
  try have z6_1_1 : w1.heap.size + 1 < w6.heap.size := by omega
  try have z6_1_2 : w1.heap.size + 2 < w6.heap.size := by omega
  try have z6_2_0 : w2.heap.size < w6.heap.size := by omega
  try have z6_2_1 : w2.heap.size + 1 < w6.heap.size := by omega
  try have z6_2_2 : w2.heap.size + 2 < w6.heap.size := by omega
  try have z6_3_0 : w3.heap.size < w6.heap.size := by omega
  try have z6_3_1 : w3.heap.size + 1 < w6.heap.size := by omega
  try have z6_3_2 : w3.heap.size + 2 < w6.heap.size := by omega
  try have z6_4_0 : w4.heap.size < w6.heap.size := by omega
  try have z6_4_1 : w4.heap.size + 1 < w6.heap.size := by omega
  try have z6_4_2 : w4.heap.size + 2 < w6.heap.size := by omega
  try have z6_5_0 : w5.heap.size < w6.heap.size := by omega
  try have z6_5_1 : w5.heap.size + 1 < w6.heap.size := by omega
  try have z6_5_2 : w5.heap.size + 2 < w6.heap.size := by omega
  go_wp2_with fail
  go_ret
  exact ⟨rfl, (by repeat (first | with_reducible assumption | with_reducible exact New.refl _ | with_reducible refine New.alloc ?_ _ | with_reducible refine New.drew ?_ | with_reducible refine New.drewN ?_ _ | refine New.setCell ?_ (by first | (simp; done) | omega | (simp; omega)) _ | with_reducible refine New.trans ?_ (by with_reducible assumption)))⟩
end Go.Proofs.Ytbnehcaallehbaa
