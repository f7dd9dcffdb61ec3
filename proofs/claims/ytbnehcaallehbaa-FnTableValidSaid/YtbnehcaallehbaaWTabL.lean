/- The law FnFlowsOn. -/
import Derived.Test.YtbnehcaallehbaaDrawTb
import Derived.Test.YtbnehcaallehbaaFind
namespace Go.Proofs.Ytbnehcaallehbaa
set_option linter.unusedVariables false
set_option linter.unusedSimpArgs false
open Go.RowKit Go.Sort

def sumT (es : List Ent) : Nat → Int
  | 0 => 0
  | k + 1 => sumT es k + (((tosOf es).count (k : Int) : Nat) : Int)
theorem sumT_bd (es : List Ent) : ∀ k, 0 ≤ sumT es k ∧ sumT es k ≤ (k : Int) * (es.length : Int)
  | 0 => by simp [sumT]
  | k + 1 => by
    have ih := sumT_bd es k
    have h1 : (tosOf es).count (k : Int) ≤ es.length := by rw [← tosOf_len es]; exact List.count_le_length
    have e : ((k + 1 : Nat) : Int) * (es.length : Int) = (k : Int) * (es.length : Int) + (es.length : Int) := by rw [show ((k + 1 : Nat) : Int) = (k : Int) + 1 by omega, Int.add_mul, Int.one_mul]
    rw [sumT, e]
    omega
theorem sumT_cons (e : Ent) (es : List Ent) : ∀ k : Nat, sumT (e :: es) k = sumT es k + if 0 ≤ e.to ∧ e.to < (k : Int) then 1 else 0
  | 0 => by simp [sumT]
  | k + 1 => by
    rw [sumT, sumT, sumT_cons e es k]
    have h1 : (tosOf (e :: es)).count (k : Int) = (tosOf es).count (k : Int) + if e.to = (k : Int) then 1 else 0 := by
      simp only [tosOf, List.map_cons, List.count_cons]
      by_cases h : e.to = (k : Int)
      · simp [h]
      · simp [h]
    rw [h1]
    by_cases h : e.to = (k : Int)
    · rw [if_pos h, if_neg (by omega), if_pos (by omega)]
      omega
    · rw [if_neg h]
      by_cases h2 : 0 ≤ e.to ∧ e.to < (k : Int)
      · rw [if_pos h2, if_pos (by omega)]; omega
      · rw [if_neg h2, if_neg (by omega)]; omega
theorem sumT_all : ∀ (es : List Ent), (∀ e ∈ es, 0 ≤ e.to ∧ e.to ≤ 30) → sumT es 31 = es.length
  | [], _ => by
    have : ∀ k, sumT [] k = 0 := by
      intro k
      induction k with
      | zero => rfl
      | succ k ih => rw [sumT, ih]; simp [tosOf]
    simpa using this 31
  | e :: es, h => by
    have := h e (by simp)
    rw [sumT_cons, sumT_all es (fun x hx => h x (by simp [hx])), if_pos (by omega)]
    simp
theorem tab_steps {sz st : Int} {es : List Ent} (h : tabB sz st es = true) : ∀ i, i < es.length → stepT es i = true := by
  unfold tabB at h
  rw [Bool.and_eq_true] at h
  exact fun i hi => List.all_eq_true.1 h.1 i (List.mem_range.2 hi)
theorem tos_bd {sz st : Int} {es : List Ent} (h : tabB sz st es = true) : ∀ e ∈ es, 0 ≤ e.to ∧ e.to ≤ 30 := by
  intro e he
  obtain ⟨i, hi, rfl⟩ := List.getElem_of_mem he
  have h1 := stepT_ent (List.getElem?_eq_getElem hi) (tab_steps h i hi)
  unfold entB at h1
  simp only [Bool.and_eq_true] at h1
  exact inB_true.1 h1.1.2
set_option maxRecDepth 100000 in
set_option maxHeartbeats 2000000 in
theorem walk_FnFlowsOn (A : Option Addr) (n c : Nat) (zs : List Int) (w : World) (H : ArgInts .u8 w A n c 1 zs) :
    Calls Try.prog 9 #[.slice A n c] w fun e w' => e = .returned (.bool true) ∧ New w w' := by
  have hc := CodeArg.of H
  have hm := hc.2.1
  unfold maxLen at hm
  clear H
  by_cases hbig : 1048576 < n
  · go_enter Try.func9, Try.ntmps9
    go_wp2_with fail
    go_ret
    exact ⟨rfl, (by repeat (first | with_reducible assumption | with_reducible exact New.refl _ | with_reducible refine New.alloc ?_ _ | with_reducible refine New.drew ?_ | with_reducible refine New.drewN ?_ _ | refine New.setCell ?_ (by first | (simp; done) | omega | (simp; omega)) _ | with_reducible refine New.trans ?_ (by with_reducible assumption)))⟩
  go_enter Try.func9, Try.ntmps9
  go_wp2_with fail
  refine (DrawFlowsOn_any A n c zs _ hc).mono ?_
  rintro e w1 ⟨z, v, rfl, ⟨sz, st, A1, n1, c1, es, rfl, hn8, hnc, hcm, hel, _, hI⟩, b1⟩
  obtain ⟨F, hF⟩ : ∃ F, flowsZ sz st es z = F := ⟨_, rfl⟩
  have HF := Lib.hid hF
  have HEL := Lib.hid hel
  have HI := Lib.hid hI
  have hz1 := New.le b1
  cases hB : tabB sz st es
  · obtain rfl : F = -1 := by rw [← hF]; exact flowsZ_no hB
    clear hF hel hI hB hc
    go_wp2_with fail
    refine (flowsOn_impl sz st A1 n1 c1 es z _ HEL.out (by omega) (HI.out.new (by repeat (first | with_reducible assumption | with_reducible exact New.refl _ | with_reducible refine New.alloc ?_ _ | with_reducible refine New.drew ?_ | with_reducible refine New.drewN ?_ _ | refine New.setCell ?_ (by first | (simp; done) | omega | (simp; omega)) _ | with_reducible refine New.trans ?_ (by with_reducible assumption))))).mono ?_
    rintro e w2 ⟨rfl, b2⟩
    rw [HF.out]
    have hc2 := New.cells b2; have hf2 := New.marks b2; have hz2 := New.le b2; try simp only [World.size_alloc, World.size_setCell] at hz2
    try have z2_0_0 : w.heap.size < w2.heap.size := by omega
    try have z2_0_1 : w.heap.size + 1 < w2.heap.size := by omega
    try have z2_0_2 : w.heap.size + 2 < w2.heap.size := by omega
    try have z2_1_0 : w1.heap.size < w2.heap.size := by omega
    try have z2_1_1 : w1.heap.size + 1 < w2.heap.size := by omega
    try have z2_1_2 : w1.heap.size + 2 < w2.heap.size := by omega
    go_wp2_with fail
    refine (flowsOn_spec sz st A1 n1 c1 es z _ HEL.out hnc (by omega) (HI.out.new (by repeat (first | with_reducible assumption | with_reducible exact New.refl _ | with_reducible refine New.alloc ?_ _ | with_reducible refine New.drew ?_ | with_reducible refine New.drewN ?_ _ | refine New.setCell ?_ (by first | (simp; done) | omega | (simp; omega)) _ | with_reducible refine New.trans ?_ (by with_reducible assumption))))).mono ?_
    rintro e w3 ⟨rfl, b3⟩
    rw [HF.out]
    have hc3 := New.cells b3; have hf3 := New.marks b3; have hz3 := New.le b3; try simp only [World.size_alloc, World.size_setCell] at hz3
    try have z3_0_0 : w.heap.size < w3.heap.size := by omega
    try have z3_0_1 : w.heap.size + 1 < w3.heap.size := by omega
    try have z3_0_2 : w.heap.size + 2 < w3.heap.size := by omega
    try have z3_1_0 : w1.heap.size < w3.heap.size := by omega
    try have z3_1_1 : w1.heap.size + 1 < w3.heap.size := by omega
    try have z3_1_2 : w1.heap.size + 2 < w3.heap.size := by omega
    try have z3_2_0 : w2.heap.size < w3.heap.size := by omega
    try have z3_2_1 : w2.heap.size + 1 < w3.heap.size := by omega
    try have z3_2_2 : w2.heap.size + 2 < w3.heap.size := by omega
    go_wp2_with fail
    refine (alive_any _).mono ?_
    rintro e w4 ⟨rfl, b4⟩
    have hc4 := New.cells b4; have hf4 := New.marks b4; have hz4 := New.le b4; try simp only [World.size_alloc, World.size_setCell] at hz4
    try have z4_0_0 : w.heap.size < w4.heap.size := by omega
    try have z4_0_1 : w.heap.size + 1 < w4.heap.size := by omega
    try have z4_0_2 : w.heap.size + 2 < w4.heap.size := by omega
    try have z4_1_0 : w1.heap.size < w4.heap.size := by omega
    try have z4_1_1 : w1.heap.size + 1 < w4.heap.size := by omega
    try have z4_1_2 : w1.heap.size + 2 < w4.heap.size := by omega
    try have z4_2_0 : w2.heap.size < w4.heap.size := by omega
    try have z4_2_1 : w2.heap.size + 1 < w4.heap.size := by omega
    try have z4_2_2 : w2.heap.size + 2 < w4.heap.size := by omega
    try have z4_3_0 : w3.heap.size < w4.heap.size := by omega
    try have z4_3_1 : w3.heap.size + 1 < w4.heap.size := by omega
    try have z4_3_2 : w3.heap.size + 2 < w4.heap.size := by omega
    go_wp2_with fail
    go_ret
    exact ⟨rfl, (by repeat (first | with_reducible assumption | with_reducible exact New.refl _ | with_reducible refine New.alloc ?_ _ | with_reducible refine New.drew ?_ | with_reducible refine New.drewN ?_ _ | refine New.setCell ?_ (by first | (simp; done) | omega | (simp; omega)) _ | with_reducible refine New.trans ?_ (by with_reducible assumption)))⟩
  · have hFc : F = (((tosOf es).count z : Nat) : Int) := by rw [← hF]; exact flowsZ_yes hB
    have hcl : (tosOf es).count z ≤ n1 := by rw [← hel, ← tosOf_len es]; exact List.count_le_length
    have hF0 : 0 ≤ F := by omega
    have hF1 : F ≤ (n1 : Int) := by omega
    have hFd : decide (F < 0) = false := by simp; omega
    have hFe : decide (F ≤ (n1 : Int)) = true := by simpa using hF1
    have HK := Lib.hid (fun k => flowsZ_yes (H := k) hB)
    have HS := Lib.hid (show sumT es 31 = (n1 : Int) by rw [sumT_all es (tos_bd hB), hel])
    have HSB := Lib.hid (sumT_bd es)
    have HSS := Lib.hid (show ∀ k, sumT es (k + 1) = sumT es k + (((tosOf es).count (k : Int) : Nat) : Int) from fun k => rfl)
    have HCL := Lib.hid (show ∀ k : Int, (tosOf es).count k ≤ n1 from fun k => by rw [← hel, ← tosOf_len es]; exact List.count_le_length)
    clear hF hFc hcl hel hI hB hc
    go_wp2_with fail
    refine (flowsOn_impl sz st A1 n1 c1 es z _ HEL.out (by omega) (HI.out.new (by repeat (first | with_reducible assumption | with_reducible exact New.refl _ | with_reducible refine New.alloc ?_ _ | with_reducible refine New.drew ?_ | with_reducible refine New.drewN ?_ _ | refine New.setCell ?_ (by first | (simp; done) | omega | (simp; omega)) _ | with_reducible refine New.trans ?_ (by with_reducible assumption))))).mono ?_
    rintro e w2 ⟨rfl, b2⟩
    rw [HF.out]
    have hc2 := New.cells b2; have hf2 := New.marks b2; have hz2 := New.le b2; try simp only [World.size_alloc, World.size_setCell] at hz2
    try have z2_0_0 : w.heap.size < w2.heap.size := by omega
    try have z2_0_1 : w.heap.size + 1 < w2.heap.size := by omega
    try have z2_0_2 : w.heap.size + 2 < w2.heap.size := by omega
    try have z2_1_0 : w1.heap.size < w2.heap.size := by omega
    try have z2_1_1 : w1.heap.size + 1 < w2.heap.size := by omega
    try have z2_1_2 : w1.heap.size + 2 < w2.heap.size := by omega
    go_wp2_with fail
    refine (flowsOn_spec sz st A1 n1 c1 es z _ HEL.out hnc (by omega) (HI.out.new (by repeat (first | with_reducible assumption | with_reducible exact New.refl _ | with_reducible refine New.alloc ?_ _ | with_reducible refine New.drew ?_ | with_reducible refine New.drewN ?_ _ | refine New.setCell ?_ (by first | (simp; done) | omega | (simp; omega)) _ | with_reducible refine New.trans ?_ (by with_reducible assumption))))).mono ?_
    rintro e w3 ⟨rfl, b3⟩
    rw [HF.out]
    have hc3 := New.cells b3; have hf3 := New.marks b3; have hz3 := New.le b3; try simp only [World.size_alloc, World.size_setCell] at hz3
    try have z3_0_0 : w.heap.size < w3.heap.size := by omega
    try have z3_0_1 : w.heap.size + 1 < w3.heap.size := by omega
    try have z3_0_2 : w.heap.size + 2 < w3.heap.size := by omega
    try have z3_1_0 : w1.heap.size < w3.heap.size := by omega
    try have z3_1_1 : w1.heap.size + 1 < w3.heap.size := by omega
    try have z3_1_2 : w1.heap.size + 2 < w3.heap.size := by omega
    try have z3_2_0 : w2.heap.size < w3.heap.size := by omega
    try have z3_2_1 : w2.heap.size + 1 < w3.heap.size := by omega
    try have z3_2_2 : w2.heap.size + 2 < w3.heap.size := by omega
    go_wp2_with fail
    have hN13 : New w1 w3 := (by repeat (first | with_reducible assumption | with_reducible exact New.refl _ | with_reducible refine New.alloc ?_ _ | with_reducible refine New.drew ?_ | with_reducible refine New.drewN ?_ _ | refine New.setCell ?_ (by first | (simp; done) | omega | (simp; omega)) _ | with_reducible refine New.trans ?_ (by with_reducible assumption)))
    have HI3 := Lib.hid (HI.out.new hN13)
    have hN3 : New w w3 := b1.trans hN13
    clear hN13
    go_loopw [6, 7] (fun s i wr => ∃ k : Nat, k ≤ 31 ∧ i = .int .i64 k ∧ s = .int .i64 (sumT es k) ∧ New w3 wr) (fun _ i _ => 31 - (intOf i).toNat)
    case atStart => exact ⟨0, by omega, rfl, rfl, New.refl _⟩
    case round =>
      obtain ⟨k, hk, rfl, rfl, hnew⟩ := hrel
      have hcr := New.cells hnew; have hfr := New.marks hnew; have hzr := New.le hnew
      by_cases hlt : k ≤ 30
      · have hlt' : (k : Int) ≤ 30 := by omega
        have hb := HSB.out k
        rw [HEL.out] at hb
        have hb2 : (k : Int) * (n1 : Int) ≤ 30 * 8 := Int.mul_le_mul hlt' (by omega) (by omega) (by omega)
        have hcc := HCL.out (k : Int)
        obtain ⟨S, hS⟩ : ∃ S, sumT es k = S := ⟨_, rfl⟩
        obtain ⟨C, hC⟩ : ∃ C, (tosOf es).count (k : Int) = C := ⟨_, rfl⟩
        have HSk := Lib.hid (show sumT es (k + 1) = S + (C : Int) by rw [HSS.out, hS, hC])
        have HC := Lib.hid (show flowsZ sz st es (k : Int) = (C : Int) by rw [HK.out, hC])
        simp only [hS]
        rw [hS] at hb
        rw [hC] at hcc
        have hb3 : S ≤ 240 := by omega
        have hb4 := hb.1
        clear hS hC hb2 hb
        go_wp2_with fail
        refine (flowsOn_impl sz st A1 n1 c1 es (k : Int) _ HEL.out (by omega) (HI3.out.new hnew)).mono ?_
        rintro e w5 ⟨rfl, b5⟩
        rw [HC.out]
        go_wp2_with fail
        go_roundw
        case rel => exact ⟨k + 1, by omega, by go_num, by rw [HSk.out], (by repeat (first | with_reducible assumption | with_reducible exact New.refl _ | with_reducible refine New.alloc ?_ _ | with_reducible refine New.drew ?_ | with_reducible refine New.drewN ?_ _ | refine New.setCell ?_ (by first | (simp; done) | omega | (simp; omega)) _ | with_reducible refine New.trans ?_ (by with_reducible assumption)))⟩
        case measure => simp [intOf]; omega
      · obtain rfl : k = 31 := by omega
        simp only [HS.out]
        go_wp2_with fail
        go_ret
        exact ⟨rfl, (by repeat (first | with_reducible assumption | with_reducible exact New.refl _ | with_reducible refine New.alloc ?_ _ | with_reducible refine New.drew ?_ | with_reducible refine New.drewN ?_ _ | refine New.setCell ?_ (by first | (simp; done) | omega | (simp; omega)) _ | with_reducible refine New.trans ?_ (by with_reducible assumption)))⟩
end Go.Proofs.Ytbnehcaallehbaa
