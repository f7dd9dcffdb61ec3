/- Exact laws on orders of slots. -/
import Derived.Test.YtecimocclmjpdaaMark
import Derived.Test.YtecimocclmjpdaaSlot
namespace Go.Proofs.Ytecimocclmjpdaa
open Go.RowKit

theorem orderZ_len (N : Int) : (orderZ N).length ≤ 31 := by
  cases h : inB N 0 30
  · rw [orderZ_no h]; simp
  · rw [orderZ_yes h, ordTo_len]; omega
set_option maxHeartbeats 2000000 in
set_option maxRecDepth 100000 in
theorem walk_FnExactSlotOrder (N : Int) (w : World) (_hN : (Lit.int .i64 N).wf = true) :
    Calls Try.prog 8 #[.int .i64 N] w fun e w' => e = .returned (.bool true) ∧ New w w' := by
  obtain ⟨us, hus⟩ : ∃ us, us = orderZ N := ⟨_, rfl⟩
  obtain ⟨m, hm⟩ : ∃ m, us.length = m := ⟨_, rfl⟩
  have hmb : m ≤ 16777216 := by rw [← hm, hus]; exact (by have := orderZ_len N; omega)
  have hmml : m ≤ maxLen := by unfold maxLen; omega
  have SP : Hid (∀  (w : World), True → Calls Try.prog 34 #[.int .i64 N] w (RetRow 3 1 w m us)) := Lib.hid fun  w _ => by rw [← hm, hus]; exact slotOrder_spec N w
  have IM : Hid (∀  (w : World), True → Calls Try.prog 35 #[.int .i64 N] w (RetRow 3 1 w m us)) := Lib.hid fun  w _ => by rw [← hm, hus]; exact slotOrder_impl N w
  have HM := Lib.hid hm
  clear hm hus
  go_enter Try.func8, Try.ntmps8
  go_wp2_with fail
  refine (SP.out  _ trivial).mono ?_
  rintro e w1 ⟨A1, c1, rfl, nc1, cm1, o1, b1⟩
  have B1 := b1
  go_wp2_with fail
  refine (IM.out  _ trivial).mono ?_
  rintro e w2 ⟨A2, c2, rfl, nc2, cm2, o2, b2⟩
  have B2 := B1.trans b2
  go_wp2_with fail
  refine (eqIntS_any A2 A1 m c2 m c1 us us _ HM.out HM.out hmml hmml o2.ints (o1.new b2).ints).mono ?_
  rintro e w3 ⟨rfl, b3⟩
  have B3 := B2.trans b3
  simp only [decide_true]
  have om := (o2.new b3)
  have old_W0 := ((o1.new b2).new b3).ints
  have hBs : w1.heap.size ≤ w3.heap.size := (Nat.le_trans b2.le b3.le)
  go_wp2_with fail
  refine (markIntS_any A2 m c2 w1.heap.size us 1 _ (by omega) (by omega) (by omega) hBs om).mono ?_
  rintro e w4 ⟨rfl, o4, d4⟩
  have B4 : New w w4 := Below.trans B3 (d4.mono B1.le)
  have k4_W0 := old_W0.below_at o1.ints d4 (Nat.le_refl _)
  clear d4 om hBs old_W0
  go_wp2_with fail
  refine (heldIntS_any A2 m c2 1 _ (by omega) (by omega) (by omega) o4.ints).mono ?_
  rintro e w' ⟨rfl, rfl⟩
  go_wp2_with fail
  refine (IM.out  _ trivial).mono ?_
  rintro e w5 ⟨A5, c5, rfl, nc5, cm5, o5, b5⟩
  have B5 := B4.trans b5
  go_wp2_with fail
  refine (eqIntS_any A5 A1 m c5 m c1 us us _ HM.out HM.out hmml hmml o5.ints (k4_W0.new b5)).mono ?_
  rintro e w6 ⟨rfl, b6⟩
  have B6 := B5.trans b6
  simp only [decide_true]
  go_wp2_with fail
  refine (heldIntS_any A2 m c2 1 _ (by omega) (by omega) (by omega) ((o4.new b5).new b6).ints).mono ?_
  rintro e w' ⟨rfl, rfl⟩
  go_wp2_with fail
  go_ret
  exact ⟨rfl, B6⟩
end Go.Proofs.Ytecimocclmjpdaa
