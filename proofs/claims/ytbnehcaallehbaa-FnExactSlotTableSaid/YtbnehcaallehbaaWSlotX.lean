/- The law FnExactSlotTable. -/
import Derived.Test.YtbnehcaallehbaaSlotS
import Derived.Test.YtbnehcaallehbaaSlotI
import Derived.Test.YtbnehcaallehbaaMark
import Derived.Test.YtbnehcaallehbaaHosts
import Derived.Test.YtbnehcaallehbaaInts
namespace Go.Proofs.Ytbnehcaallehbaa
set_option linter.unusedVariables false
set_option linter.unusedSimpArgs false
open Go.RowKit

set_option maxHeartbeats 2000000 in
set_option maxRecDepth 100000 in
theorem walk_FnExactSlotTable (A : Option Addr) (n c : Nat) (zs : List Int) (w : World) (H : ArgInts .i64 w A n c 3 zs) :
    Calls Try.prog 10 #[.slice A n c] w fun e w' => e = .returned (.bool true) ∧ New w w' := by
  obtain ⟨hs, rfl, hlen⟩ := hosts_of H
  have h := H.2.2.2.2
  have hml : n ≤ maxLen := Nat.le_trans H.1 H.2.1
  have hm' := hml
  unfold maxLen at hm'
  have HL := Lib.hid hlen
  clear hlen H
  by_cases hbig : 1048576 < n
  · have HZ := Lib.hid (show (if (1048576 : Int) < (n : Int) then (-1 : Int) else 1048576 - n) = -1 by rw [if_pos (by omega)])
    go_enter Try.func10, Try.ntmps10
    go_wp2_with fail
    refine (szHostS_any A n c 1048576 _ hml (by omega) (by omega)).mono ?_
    rintro e w' ⟨rfl, rfl⟩
    rw [HZ.out]
    go_wp2_with fail
    go_ret
    exact ⟨rfl, (by repeat (first | with_reducible assumption | with_reducible exact New.refl _ | with_reducible refine New.alloc ?_ _ | with_reducible refine New.drew ?_ | with_reducible refine New.drewN ?_ _ | refine New.setCell ?_ (by first | (simp; done) | omega | (simp; omega)) _ | with_reducible refine New.trans ?_ (by with_reducible assumption)))⟩
  have HZ := Lib.hid (show (if (1048576 : Int) < (n : Int) then (-1 : Int) else 1048576 - n) = 1048576 - n by rw [if_neg (by omega)])
  obtain ⟨us, hus⟩ : ∃ us, us = stabZ hs := ⟨_, rfl⟩
  obtain ⟨m, hm⟩ : ∃ m, us.length = m := ⟨_, rfl⟩
  have hmb : m ≤ 16777216 := by rw [← hm, hus]; exact (Nat.le_trans (stabZ_len hs) (by omega))
  have hmml : m ≤ maxLen := by unfold maxLen; omega
  have SP : Hid (∀ (A : Option Addr) (c : Nat) (w : World), Ints w A (flat hs) → Calls Try.prog 43 #[.slice A n c] w (RetRow 3 1 w m us)) := Lib.hid fun A c w h => by rw [← hm, hus]; exact slotTable_spec A n c hs w HL.out (by omega) h
  have IM : Hid (∀ (A : Option Addr) (c : Nat) (w : World), Ints w A (flat hs) → Calls Try.prog 44 #[.slice A n c] w (RetRow 3 1 w m us)) := Lib.hid fun A c w h => by rw [← hm, hus]; exact slotTable_impl A n c hs w HL.out (by omega) h
  have HM := Lib.hid hm
  clear hm hus
  go_enter Try.func10, Try.ntmps10
  go_wp2_with fail
  refine (szHostS_any A n c 1048576 _ hml (by omega) (by omega)).mono ?_
  rintro e w' ⟨rfl, rfl⟩
  rw [HZ.out]
  go_wp2_with fail
  refine (toHostS_any A n c hs _ HL.out (by omega) h).mono ?_
  rintro e w1 ⟨A1, c1, rfl, nc1, cm1, o1, b1⟩
  have B1 := b1
  go_wp2_with fail
  refine (SP.out A1 c1 _ o1.ints).mono ?_
  rintro e w2 ⟨A2, c2, rfl, nc2, cm2, o2, b2⟩
  have B2 := B1.trans b2
  go_wp2_with fail
  refine (toHostS_any A n c hs _ HL.out (by omega) (h.new B2)).mono ?_
  rintro e w3 ⟨A3, c3, rfl, nc3, cm3, o3, b3⟩
  have B3 := B2.trans b3
  go_wp2_with fail
  refine (IM.out A3 c3 _ o3.ints).mono ?_
  rintro e w4 ⟨A4, c4, rfl, nc4, cm4, o4, b4⟩
  have B4 := B3.trans b4
  go_wp2_with fail
  refine (eqIntS_any A4 A2 m c4 m c2 us us _ HM.out HM.out hmml hmml o4.ints ((o2.new b3).new b4).ints).mono ?_
  rintro e w5 ⟨rfl, b5⟩
  have B5 := B4.trans b5
  simp only [decide_true]
  go_wp2_with fail
  refine (toHostS_any A n c hs _ HL.out (by omega) (h.new B5)).mono ?_
  rintro e w6 ⟨A6, c6, rfl, nc6, cm6, o6, b6⟩
  have B6 := B5.trans b6
  go_wp2_with fail
  refine (eqHostS_same A3 A6 n c3 c6 hs _ HL.out hml (((o3.new b4).new b5).new b6).ints o6.ints).mono ?_
  rintro e w7 ⟨rfl, b7⟩
  have B7 := B6.trans b7
  have om := ((((o3.new b4).new b5).new b6).new b7)
  have own_G0 := (((o4.new b5).new b6).new b7)
  have old_W0 := (((((o2.new b3).new b4).new b5).new b6).new b7).ints
  go_wp2_with fail
  refine (markHostS_any A3 n c3 _ (flat hs) 1 _ (by omega) (by omega) (by omega) om).mono ?_
  rintro e w8 ⟨rfl, o8, g8⟩
  have B8 : New w w8 := B7.grown g8 fun k hk => Nat.le_trans B2.le (World.ownsRow.lt om k hk).1
  have k8_G0 := own_G0.apart om g8 (fun g hg => by subst hg; exact (Own.blk_lt o3).1)
  have k8_W0 := old_W0.below_row o2.ints g8 (fun k hk => (World.ownsRow.lt om k hk).1)
  have HSZ8 := g8.size
  clear g8 om own_G0 old_W0
  go_wp2_with fail
  refine (eqIntS_any A4 A2 m c4 m c2 us us _ HM.out HM.out hmml hmml k8_G0.ints k8_W0).mono ?_
  rintro e w9 ⟨rfl, b9⟩
  have B9 := B8.trans b9
  simp only [decide_true]
  have om := (k8_G0.new b9)
  have old_W0 := (k8_W0.new b9)
  have hBs : w3.heap.size ≤ w9.heap.size := (Nat.le_trans (Nat.le_trans (Nat.le_trans (Nat.le_trans (Nat.le_trans b4.le b5.le) b6.le) b7.le) HSZ8) b9.le)
  go_wp2_with fail
  refine (markIntS_any A4 m c4 w3.heap.size us 1 _ (by omega) (by omega) (by omega) hBs om).mono ?_
  rintro e w10 ⟨rfl, o10, d10⟩
  have B10 : New w w10 := Below.trans B9 (d10.mono B3.le)
  have k10_W0 := old_W0.below_at o2.ints d10 (b3.le)
  clear d10 om hBs old_W0
  go_wp2_with fail
  refine (heldIntS_any A4 m c4 1 _ (by omega) (by omega) (by omega) o10.ints).mono ?_
  rintro e w' ⟨rfl, rfl⟩
  go_wp2_with fail
  refine (toHostS_any A n c hs _ HL.out (by omega) (h.new B10)).mono ?_
  rintro e w11 ⟨A11, c11, rfl, nc11, cm11, o11, b11⟩
  have B11 := B10.trans b11
  go_wp2_with fail
  refine (IM.out A11 c11 _ o11.ints).mono ?_
  rintro e w12 ⟨A12, c12, rfl, nc12, cm12, o12, b12⟩
  have B12 := B11.trans b12
  go_wp2_with fail
  refine (eqIntS_any A12 A2 m c12 m c2 us us _ HM.out HM.out hmml hmml o12.ints ((k10_W0.new b11).new b12)).mono ?_
  rintro e w13 ⟨rfl, b13⟩
  have B13 := B12.trans b13
  simp only [decide_true]
  go_wp2_with fail
  refine (heldIntS_any A4 m c4 1 _ (by omega) (by omega) (by omega) (((o10.new b11).new b12).new b13).ints).mono ?_
  rintro e w' ⟨rfl, rfl⟩
  go_wp2_with fail
  go_ret
  exact ⟨rfl, B13⟩
end Go.Proofs.Ytbnehcaallehbaa
