/- The law FnExactJumpHost. -/
import Derived.Test.YtdcobkngbpkdfaaJump
import Derived.Test.YtdcobkngbpkdfaaHosts
namespace Go.Proofs.Ytdcobkngbpkdfaa
set_option linter.unusedVariables false
set_option linter.unusedSimpArgs false
open Go.RowKit

set_option maxHeartbeats 2000000 in
set_option maxRecDepth 100000 in
theorem walk_FnExactJumpHost (A : Option Addr) (n c : Nat) (zs : List Int) (key : Int) (w : World) (H : ArgInts .i64 w A n c 3 zs) (_hkey : (Lit.int .i64 key).wf = true) :
    Calls Try.prog 4 #[.slice A n c, .int .i64 key] w fun e w' => e = .returned (.bool true) ∧ New w w' := by
  obtain ⟨hs, rfl, hlen⟩ := hosts_of H
  have h := H.2.2.2.2
  have hml : n ≤ maxLen := Nat.le_trans H.1 H.2.1
  have hm' := hml
  unfold maxLen at hm'
  have HL := Lib.hid hlen
  clear hlen H
  by_cases hbig : 1048576 < n
  · have HZ := Lib.hid (show (if (1048576 : Int) < (n : Int) then (-1 : Int) else 1048576 - n) = -1 by rw [if_pos (by omega)])
    go_enter Try.func4, Try.ntmps4
    go_wp2_with fail
    refine (szHostS_any A n c 1048576 _ hml (by omega) (by omega)).mono ?_
    rintro e w' ⟨rfl, rfl⟩
    rw [HZ.out]
    go_wp2_with fail
    go_ret
    exact ⟨rfl, (by repeat (first | with_reducible assumption | with_reducible exact New.refl _ | with_reducible refine New.alloc ?_ _ | with_reducible refine New.drew ?_ | with_reducible refine New.drewN ?_ _ | refine New.setCell ?_ (by first | (simp; done) | omega | (simp; omega)) _ | with_reducible refine New.trans ?_ (by with_reducible assumption)))⟩
  have HZ := Lib.hid (show (if (1048576 : Int) < (n : Int) then (-1 : Int) else 1048576 - n) = 1048576 - n by rw [if_neg (by omega)])
  have SP : Hid (∀ (A : Option Addr) (c : Nat) (w : World), Ints w A (flat hs) → Calls Try.prog 21 #[.slice A n c, .int .i64 key] w (fun e w' => e = .returned (.int .i64 (jumpHZ hs key)) ∧ New w w')) := Lib.hid fun A c w h => by exact jumpHost_spec A n c hs key w HL.out (by omega) h
  have IM : Hid (∀ (A : Option Addr) (c : Nat) (w : World), Ints w A (flat hs) → Calls Try.prog 23 #[.slice A n c, .int .i64 key] w (fun e w' => e = .returned (.int .i64 (jumpHZ hs key)) ∧ New w w')) := Lib.hid fun A c w h => by exact jumpHost_impl A n c hs key w HL.out (by omega) h
  go_enter Try.func4, Try.ntmps4
  go_wp2_with fail
  refine (szHostS_any A n c 1048576 _ hml (by omega) (by omega)).mono ?_
  rintro e w' ⟨rfl, rfl⟩
  rw [HZ.out]
  go_wp2_with fail
  refine (toHostS_any A n c hs _ HL.out (by omega) h).mono ?_
  rintro e w1 ⟨A1, c1, rfl, nc1, cm1, o1, b1⟩
  have B1 := b1
  go_wp2_with fail
  refine (SP.out A1 c1 _ o1.ints).mono ?_
  rintro e w2 ⟨rfl, b2⟩
  have B2 := B1.trans b2
  go_wp2_with fail
  refine (toHostS_any A n c hs _ HL.out (by omega) (h.new B2)).mono ?_
  rintro e w3 ⟨A3, c3, rfl, nc3, cm3, o3, b3⟩
  have B3 := B2.trans b3
  go_wp2_with fail
  refine (IM.out A3 c3 _ o3.ints).mono ?_
  rintro e w4 ⟨rfl, b4⟩
  have B4 := B3.trans b4
  go_wp2_with fail
  refine (toHostS_any A n c hs _ HL.out (by omega) (h.new B4)).mono ?_
  rintro e w5 ⟨A5, c5, rfl, nc5, cm5, o5, b5⟩
  have B5 := B4.trans b5
  go_wp2_with fail
  refine (eqHostS_same A3 A5 n c3 c5 hs _ HL.out hml ((o3.new b4).new b5).ints o5.ints).mono ?_
  rintro e w6 ⟨rfl, b6⟩
  have B6 := B5.trans b6
  go_wp2_with fail
  go_ret
  exact ⟨rfl, B6⟩
end Go.Proofs.Ytdcobkngbpkdfaa
