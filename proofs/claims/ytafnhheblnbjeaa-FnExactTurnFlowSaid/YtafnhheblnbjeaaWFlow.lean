/- Laws on flows and hashes: the program's FlowValid, TurnFlow, FlowHash, EvenHash, JumpBucket, MixNumbers return what the reference returns. -/
import Derived.Test.YtafnhheblnbjeaaInts
import Derived.Test.YtafnhheblnbjeaaMix
namespace Go.Proofs.Ytafnhheblnbjeaa
open Go.RowKit

theorem walk_FnExactFlowValid (a b c d k : Int) (w : World) (_h : (Lit.int .i64 a).wf = true ∧ (Lit.int .i64 b).wf = true ∧ (Lit.int .i64 c).wf = true ∧ (Lit.int .i64 d).wf = true ∧ (Lit.int .i64 k).wf = true) :
    Calls Try.prog 5 #[.agg #[.int .i64 a, .int .i64 b, .int .i64 c, .int .i64 d, .int .i64 k]] w fun e w' => e = .returned (.bool true) ∧ New w w' := by
  go_enter Try.func5, Try.ntmps5
  go_wp2_with (first | (go_at_call 18; refine (toFlow_any _ _ _ _ _ _).mono ?_; rintro e w1 ⟨rfl, hb⟩; have hcell := New.cells hb; have hfroz := New.marks hb; have hlts := New.lts hb; have hsz := New.le hb; try simp only [World.size_alloc] at hsz) | (go_at_call 17; refine (flowValid_spec _ _ _ _ _ _).mono ?_; rintro e w1 ⟨rfl, hb⟩; have hcell := New.cells hb; have hfroz := New.marks hb; have hlts := New.lts hb; have hsz := New.le hb; try simp only [World.size_alloc] at hsz) | (go_at_call 19; refine (flowValid_impl _ _ _ _ _ _).mono ?_; rintro e w1 ⟨rfl, hb⟩; have hcell := New.cells hb; have hfroz := New.marks hb; have hlts := New.lts hb; have hsz := New.le hb; try simp only [World.size_alloc] at hsz))
  all_goals
    go_ret
    exact ⟨rfl, (by repeat (first | with_reducible assumption | with_reducible exact New.refl _ | with_reducible refine New.alloc ?_ _ | with_reducible refine New.drew ?_ | with_reducible refine New.drewN ?_ _ | refine New.setCell ?_ (by first | (simp; done) | omega | (simp; omega)) _ | with_reducible refine New.trans ?_ (by with_reducible assumption)))⟩
theorem walk_FnExactFlowHash (a b c d k : Int) (w : World) (_h : (Lit.int .i64 a).wf = true ∧ (Lit.int .i64 b).wf = true ∧ (Lit.int .i64 c).wf = true ∧ (Lit.int .i64 d).wf = true ∧ (Lit.int .i64 k).wf = true) :
    Calls Try.prog 14 #[.agg #[.int .i64 a, .int .i64 b, .int .i64 c, .int .i64 d, .int .i64 k]] w fun e w' => e = .returned (.bool true) ∧ New w w' := by
  go_enter Try.func14, Try.ntmps14
  go_wp2_with (first | (go_at_call 18; refine (toFlow_any _ _ _ _ _ _).mono ?_; rintro e w1 ⟨rfl, hb⟩; have hcell := New.cells hb; have hfroz := New.marks hb; have hlts := New.lts hb; have hsz := New.le hb; try simp only [World.size_alloc] at hsz) | (go_at_call 38; refine (flowHash_spec _ _ _ _ _ _).mono ?_; rintro e w1 ⟨rfl, hb⟩; have hcell := New.cells hb; have hfroz := New.marks hb; have hlts := New.lts hb; have hsz := New.le hb; try simp only [World.size_alloc] at hsz) | (go_at_call 39; refine (flowHash_impl _ _ _ _ _ _).mono ?_; rintro e w1 ⟨rfl, hb⟩; have hcell := New.cells hb; have hfroz := New.marks hb; have hlts := New.lts hb; have hsz := New.le hb; try simp only [World.size_alloc] at hsz))
  all_goals
    go_ret
    exact ⟨rfl, (by repeat (first | with_reducible assumption | with_reducible exact New.refl _ | with_reducible refine New.alloc ?_ _ | with_reducible refine New.drew ?_ | with_reducible refine New.drewN ?_ _ | refine New.setCell ?_ (by first | (simp; done) | omega | (simp; omega)) _ | with_reducible refine New.trans ?_ (by with_reducible assumption)))⟩
theorem walk_FnExactJumpBucket (key many : Int) (w : World) (_h : (Lit.int .i64 key).wf = true) (_h' : (Lit.int .i64 many).wf = true) :
    Calls Try.prog 13 #[.int .i64 key, .int .i64 many] w fun e w' => e = .returned (.bool true) ∧ New w w' := by
  go_enter Try.func13, Try.ntmps13
  go_wp2_with (first | (go_at_call 36; refine (jumpBucket_spec _ _ _).mono ?_; rintro e w1 ⟨rfl, hb⟩; have hcell := New.cells hb; have hfroz := New.marks hb; have hlts := New.lts hb; have hsz := New.le hb; try simp only [World.size_alloc] at hsz) | (go_at_call 37; refine (jumpBucket_impl _ _ _).mono ?_; rintro e w1 ⟨rfl, hb⟩; have hcell := New.cells hb; have hfroz := New.marks hb; have hlts := New.lts hb; have hsz := New.le hb; try simp only [World.size_alloc] at hsz))
  all_goals
    go_ret
    exact ⟨rfl, (by repeat (first | with_reducible assumption | with_reducible exact New.refl _ | with_reducible refine New.alloc ?_ _ | with_reducible refine New.drew ?_ | with_reducible refine New.drewN ?_ _ | refine New.setCell ?_ (by first | (simp; done) | omega | (simp; omega)) _ | with_reducible refine New.trans ?_ (by with_reducible assumption)))⟩
theorem walk_FnExactMixNumbers (A : Option Addr) (n c : Nat) (zs : List Int) (w : World) (H : ArgInts .i64 w A n c 1 zs) :
    Calls Try.prog 9 #[.slice A n c] w fun e w' => e = .returned (.bool true) ∧ New w w' := by
  obtain ⟨hnc, hcm, hl, _, h⟩ := H
  have hlen : zs.length = n := by simpa using hl
  have hml : n ≤ maxLen := by omega
  have hm' : n ≤ maxLen := hml
  unfold maxLen at hm'
  have HL := Lib.hid hlen
  clear hl hlen
  by_cases hbig : 1048576 < n
  · go_enter Try.func9, Try.ntmps9
    go_wp2_with fail
    go_ret
    exact ⟨rfl, (by repeat (first | with_reducible assumption | with_reducible exact New.refl _ | with_reducible refine New.alloc ?_ _ | with_reducible refine New.drew ?_ | with_reducible refine New.drewN ?_ _ | refine New.setCell ?_ (by first | (simp; done) | omega | (simp; omega)) _ | with_reducible refine New.trans ?_ (by with_reducible assumption)))⟩
  · go_enter Try.func9, Try.ntmps9
    go_wp2_with fail
    refine (toIntS_any A n c zs _ HL.out (by omega) h).mono ?_
    rintro e w1 ⟨A1, c1, rfl, _, _, o1, b1⟩
    go_wp2_with fail
    refine (mixNumbers_spec A1 n c1 zs _ HL.out hml o1.ints).mono ?_
    rintro e w' ⟨rfl, rfl⟩
    go_wp2_with fail
    refine (toIntS_any A n c zs _ HL.out (by omega) (h.new b1)).mono ?_
    rintro e w2 ⟨A2, c2, rfl, _, _, o2, b2⟩
    go_wp2_with fail
    refine (mixNumbers_impl A2 n c2 zs _ HL.out hml o2.ints).mono ?_
    rintro e w' ⟨rfl, rfl⟩
    go_wp2_with fail
    refine (toIntS_any A n c zs _ HL.out (by omega) ((h.new b1).new b2)).mono ?_
    rintro e w3 ⟨A3, c3, rfl, _, _, o3, b3⟩
    go_wp2_with fail
    refine (eqIntS_any A2 A3 n c2 n c3 zs zs _ HL.out HL.out hml hml (o2.ints.new b3) o3.ints).mono ?_
    rintro e w4 ⟨rfl, b4⟩
    simp only [decide_true]
    go_wp2_with fail
    go_ret
    exact ⟨rfl, ((b1.trans b2).trans b3).trans b4⟩
set_option maxHeartbeats 1000000 in
theorem walk_FnExactTurnFlow (a b c d k : Int) (w : World) (_h : (Lit.int .i64 a).wf = true ∧ (Lit.int .i64 b).wf = true ∧ (Lit.int .i64 c).wf = true ∧ (Lit.int .i64 d).wf = true ∧ (Lit.int .i64 k).wf = true) :
    Calls Try.prog 11 #[.agg #[.int .i64 a, .int .i64 b, .int .i64 c, .int .i64 d, .int .i64 k]] w fun e w' => e = .returned (.bool true) ∧ New w w' := by
  have hq : ∀ a b c d k : Int, flowEq a b c d k a b c d k = true := by intros; simp [flowEq]
  have HQ := Lib.hid hq
  clear hq
  cases hB : flowB a b c d k
  all_goals
    go_enter Try.func11, Try.ntmps11
    go_wp2_with fail
    refine (toFlow_any _ _ _ _ _ _).mono ?_
    rintro e w1 ⟨rfl, b1⟩
    have hc1 := New.cells b1; have hf1 := New.marks b1; have hz1 := New.le b1; try simp only [World.size_alloc, World.size_setCell] at hz1
    try have z1_0_0 : w.heap.size < w1.heap.size := by omega
    try have z1_0_1 : w.heap.size + 1 < w1.heap.size := by omega
    try have z1_0_2 : w.heap.size + 2 < w1.heap.size := by omega
    go_wp2_with fail
    refine (turnFlow_spec _ _ _ _ _ _).mono ?_
    rintro e w2 ⟨rfl, b2⟩
    simp only [hB, if_true, Bool.false_eq_true, if_false]
    have hc2 := New.cells b2; have hf2 := New.marks b2; have hz2 := New.le b2; try simp only [World.size_alloc, World.size_setCell] at hz2
    try have z2_0_0 : w.heap.size < w2.heap.size := by omega
    try have z2_0_1 : w.heap.size + 1 < w2.heap.size := by omega
    try have z2_0_2 : w.heap.size + 2 < w2.heap.size := by omega
    try have z2_1_0 : w1.heap.size < w2.heap.size := by omega
    try have z2_1_1 : w1.heap.size + 1 < w2.heap.size := by omega
    try have z2_1_2 : w1.heap.size + 2 < w2.heap.size := by omega
    go_wp2_with fail
    refine (toFlow_any _ _ _ _ _ _).mono ?_
    rintro e w3 ⟨rfl, b3⟩
    have hc3 := New.cells b3; have hf3 := New.marks b3; have hz3 := New.le b3; try simp only [World.size_alloc, World.size_setCell] at hz3
    try have z3_0_0 : w.heap.size < w3.heap.size := by omega
    try have z3_0_1 : w.heap.size + 1 < w3.heap.size := by omega
    try have z3_0_2 : w.heap.size + 2 < w3.heap.size := by omega
    try have z3_1_0 : w1.heap.size < w3.heap.size := by omega
    try have z3_1_1 : w1.heap.size + 1 < w3.heap.size := by omega
    try have z3_1_2 : w1.heap.size + 2 < w3.heap.size := by omega
    try have z3_2_0 : w2.heap.size < w3.heap.size := by omega
    try have z3_2_1 : w2.heap.size + 1 < w3.heap.size := by omega
    try have z3_2_2 : w2.heap.size + 2 < w3.heap.size := by omega
    go_wp2_with fail
    refine (turnFlow_impl _ _ _ _ _ _).mono ?_
    rintro e w4 ⟨rfl, b4⟩
    simp only [hB, if_true, Bool.false_eq_true, if_false]
    have hc4 := New.cells b4; have hf4 := New.marks b4; have hz4 := New.le b4; try simp only [World.size_alloc, World.size_setCell] at hz4
    try have z4_0_0 : w.heap.size < w4.heap.size := by omega
    try have z4_0_1 : w.heap.size + 1 < w4.heap.size := by omega
    try have z4_0_2 : w.heap.size + 2 < w4.heap.size := by omega
    try have z4_1_0 : w1.heap.size < w4.heap.size := by omega
    try have z4_1_1 : w1.heap.size + 1 < w4.heap.size := by omega
    try have z4_1_2 : w1.heap.size + 2 < w4.heap.size := by omega
    try have z4_2_0 : w2.heap.size < w4.heap.size := by omega
    try have z4_2_1 : w2.heap.size + 1 < w4.heap.size := by omega
    try have z4_2_2 : w2.heap.size + 2 < w4.heap.size := by omega
    try have z4_3_0 : w3.heap.size < w4.heap.size := by omega
    try have z4_3_1 : w3.heap.size + 1 < w4.heap.size := by omega
    try have z4_3_2 : w3.heap.size + 2 < w4.heap.size := by omega
    go_wp2_with fail
    refine (eqFlow_any _ _ _ _ _ _ _ _ _ _ _).mono ?_
    rintro e w5 ⟨rfl, b5⟩
    rw [HQ.out]
    have hc5 := New.cells b5; have hf5 := New.marks b5; have hz5 := New.le b5; try simp only [World.size_alloc, World.size_setCell] at hz5
    try have z5_0_0 : w.heap.size < w5.heap.size := by omega
    try have z5_0_1 : w.heap.size + 1 < w5.heap.size := by omega
    try have z5_0_2 : w.heap.size + 2 < w5.heap.size := by omega
    try have z5_1_0 : w1.heap.size < w5.heap.size := by omega
    try have z5_1_1 : w1.heap.size + 1 < w5.heap.size := by omega
    try have z5_1_2 : w1.heap.size + 2 < w5.heap.size := by omega
    try have z5_2_0 : w2.heap.size < w5.heap.size := by omega
    try have z5_2_1 : w2.heap.size + 1 < w5.heap.size := by omega
    try have z5_2_2 : w2.heap.size + 2 < w5.heap.size := by omega
    try have z5_3_0 : w3.heap.size < w5.heap.size := by omega
    try have z5_3_1 : w3.heap.size + 1 < w5.heap.size := by omega
    try have z5_3_2 : w3.heap.size + 2 < w5.heap.size := by omega
    try have z5_4_0 : w4.heap.size < w5.heap.size := by omega
    try have z5_4_1 : w4.heap.size + 1 < w5.heap.size := by omega
    try have z5_4_2 : w4.heap.size + 2 < w5.heap.size := by omega
    go_wp2_with fail
    go_ret
    exact ⟨rfl, (by repeat (first | with_reducible assumption | with_reducible exact New.refl _ | with_reducible refine New.alloc ?_ _ | with_reducible refine New.drew ?_ | with_reducible refine New.drewN ?_ _ | refine New.setCell ?_ (by first | (simp; done) | omega | (simp; omega)) _ | with_reducible refine New.trans ?_ (by with_reducible assumption)))⟩
end Go.Proofs.Ytafnhheblnbjeaa
