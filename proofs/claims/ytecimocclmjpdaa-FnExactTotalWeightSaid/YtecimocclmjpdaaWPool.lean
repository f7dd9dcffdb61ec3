/- Laws on pools: PoolValid, HostState, TotalWeight return what the reference returns, and leave the pool alone. -/
import Derived.Test.YtecimocclmjpdaaHosts
import Derived.Test.YtecimocclmjpdaaTot
namespace Go.Proofs.Ytecimocclmjpdaa
open Go.RowKit

theorem walk_FnExactPoolValid (A : Option Addr) (n c : Nat) (zs : List Int) (w : World) (H : ArgInts .i64 w A n c 3 zs) :
    Calls Try.prog 4 #[.slice A n c] w fun e w' => e = .returned (.bool true) ∧ New w w' := by
  obtain ⟨hs, rfl, hlen⟩ := hosts_of H
  have h := H.2.2.2.2
  have hml : n ≤ maxLen := Nat.le_trans H.1 H.2.1
  have hm' := hml
  unfold maxLen at hm'
  have HL := Lib.hid hlen
  clear hlen H
  by_cases hbig : 1048576 < n
  · have HZ := Lib.hid (show (if (1048576 : Int) < (n : Int) then (-1 : Int) else 1048576 - n) = -1 by rw [if_pos (by omega)])
    go_enter Try.func4, Try.ntmps4
    go_wp2_with fail
    refine (szHostS_any A n c 1048576 _ hml (by omega) (by omega)).mono ?_
    rintro e w' ⟨rfl, rfl⟩
    rw [HZ.out]
    go_wp2_with fail
    go_ret
    exact ⟨rfl, (by repeat (first | with_reducible assumption | with_reducible exact New.refl _ | with_reducible refine New.alloc ?_ _ | with_reducible refine New.drew ?_ | with_reducible refine New.drewN ?_ _ | refine New.setCell ?_ (by first | (simp; done) | omega | (simp; omega)) _ | with_reducible refine New.trans ?_ (by with_reducible assumption)))⟩
  · have HZ := Lib.hid (show (if (1048576 : Int) < (n : Int) then (-1 : Int) else 1048576 - n) = 1048576 - n by rw [if_neg (by omega)])
    go_enter Try.func4, Try.ntmps4
    go_wp2_with fail
    refine (szHostS_any A n c 1048576 _ hml (by omega) (by omega)).mono ?_
    rintro e w' ⟨rfl, rfl⟩
    rw [HZ.out]
    go_wp2_with fail
    refine (toHostS_any A n c hs _ HL.out (by omega) h).mono ?_
    rintro e w1 ⟨A1, c1, rfl, _, _, o1, b1⟩
    go_wp2_with fail
    refine (poolValid_spec A1 n c1 hs _ HL.out hml o1.ints).mono ?_
    rintro e w2 ⟨rfl, b2⟩
    have B2 := b1.trans b2
    go_wp2_with fail
    refine (toHostS_any A n c hs _ HL.out (by omega) (h.new B2)).mono ?_
    rintro e w3 ⟨A3, c3, rfl, _, _, o3, b3⟩
    go_wp2_with fail
    refine (poolValid_impl A3 n c3 hs _ HL.out hml o3.ints).mono ?_
    rintro e w4 ⟨rfl, b4⟩
    have B4 := (B2.trans b3).trans b4
    go_wp2_with fail
    refine (toHostS_any A n c hs _ HL.out (by omega) (h.new B4)).mono ?_
    rintro e w5 ⟨A5, c5, rfl, _, _, o5, b5⟩
    go_wp2_with fail
    refine (eqHostS_same A3 A5 n c3 c5 hs _ HL.out hml ((o3.ints.new b4).new b5) o5.ints).mono ?_
    rintro e w6 ⟨rfl, b6⟩
    go_wp2_with fail
    go_ret
    exact ⟨rfl, (B4.trans b5).trans b6⟩
theorem walk_FnExactHostState (A : Option Addr) (n c : Nat) (zs : List Int) (N : Int) (w : World) (H : ArgInts .i64 w A n c 3 zs) (_hN : (Lit.int .i64 N).wf = true) :
    Calls Try.prog 10 #[.slice A n c, .int .i64 N] w fun e w' => e = .returned (.bool true) ∧ New w w' := by
  obtain ⟨hs, rfl, hlen⟩ := hosts_of H
  have h := H.2.2.2.2
  have hml : n ≤ maxLen := Nat.le_trans H.1 H.2.1
  have hm' := hml
  unfold maxLen at hm'
  have HL := Lib.hid hlen
  clear hlen H
  by_cases hbig : 1048576 < n
  · have HZ := Lib.hid (show (if (1048576 : Int) < (n : Int) then (-1 : Int) else 1048576 - n) = -1 by rw [if_pos (by omega)])
    go_enter Try.func10, Try.ntmps10
    go_wp2_with fail
    refine (szHostS_any A n c 1048576 _ hml (by omega) (by omega)).mono ?_
    rintro e w' ⟨rfl, rfl⟩
    rw [HZ.out]
    go_wp2_with fail
    go_ret
    exact ⟨rfl, (by repeat (first | with_reducible assumption | with_reducible exact New.refl _ | with_reducible refine New.alloc ?_ _ | with_reducible refine New.drew ?_ | with_reducible refine New.drewN ?_ _ | refine New.setCell ?_ (by first | (simp; done) | omega | (simp; omega)) _ | with_reducible refine New.trans ?_ (by with_reducible assumption)))⟩
  · have HZ := Lib.hid (show (if (1048576 : Int) < (n : Int) then (-1 : Int) else 1048576 - n) = 1048576 - n by rw [if_neg (by omega)])
    go_enter Try.func10, Try.ntmps10
    go_wp2_with fail
    refine (szHostS_any A n c 1048576 _ hml (by omega) (by omega)).mono ?_
    rintro e w' ⟨rfl, rfl⟩
    rw [HZ.out]
    go_wp2_with fail
    refine (toHostS_any A n c hs _ HL.out (by omega) h).mono ?_
    rintro e w1 ⟨A1, c1, rfl, _, _, o1, b1⟩
    go_wp2_with fail
    refine (hostState_spec A1 n c1 hs N _ HL.out hml o1.ints).mono ?_
    rintro e w2 ⟨rfl, b2⟩
    have B2 := b1.trans b2
    go_wp2_with fail
    refine (toHostS_any A n c hs _ HL.out (by omega) (h.new B2)).mono ?_
    rintro e w3 ⟨A3, c3, rfl, _, _, o3, b3⟩
    go_wp2_with fail
    refine (hostState_impl A3 n c3 hs N _ HL.out hml o3.ints).mono ?_
    rintro e w4 ⟨rfl, b4⟩
    have B4 := (B2.trans b3).trans b4
    go_wp2_with fail
    refine (toHostS_any A n c hs _ HL.out (by omega) (h.new B4)).mono ?_
    rintro e w5 ⟨A5, c5, rfl, _, _, o5, b5⟩
    go_wp2_with fail
    refine (eqHostS_same A3 A5 n c3 c5 hs _ HL.out hml ((o3.ints.new b4).new b5) o5.ints).mono ?_
    rintro e w6 ⟨rfl, b6⟩
    go_wp2_with fail
    go_ret
    exact ⟨rfl, (B4.trans b5).trans b6⟩
theorem walk_FnExactTotalWeight (A : Option Addr) (n c : Nat) (zs : List Int) (w : World) (H : ArgInts .i64 w A n c 3 zs) :
    Calls Try.prog 11 #[.slice A n c] w fun e w' => e = .returned (.bool true) ∧ New w w' := by
  obtain ⟨hs, rfl, hlen⟩ := hosts_of H
  have h := H.2.2.2.2
  have hml : n ≤ maxLen := Nat.le_trans H.1 H.2.1
  have hm' := hml
  unfold maxLen at hm'
  have HL := Lib.hid hlen
  clear hlen H
  by_cases hbig : 1048576 < n
  · have HZ := Lib.hid (show (if (1048576 : Int) < (n : Int) then (-1 : Int) else 1048576 - n) = -1 by rw [if_pos (by omega)])
    go_enter Try.func11, Try.ntmps11
    go_wp2_with fail
    refine (szHostS_any A n c 1048576 _ hml (by omega) (by omega)).mono ?_
    rintro e w' ⟨rfl, rfl⟩
    rw [HZ.out]
    go_wp2_with fail
    go_ret
    exact ⟨rfl, (by repeat (first | with_reducible assumption | with_reducible exact New.refl _ | with_reducible refine New.alloc ?_ _ | with_reducible refine New.drew ?_ | with_reducible refine New.drewN ?_ _ | refine New.setCell ?_ (by first | (simp; done) | omega | (simp; omega)) _ | with_reducible refine New.trans ?_ (by with_reducible assumption)))⟩
  · have HZ := Lib.hid (show (if (1048576 : Int) < (n : Int) then (-1 : Int) else 1048576 - n) = 1048576 - n by rw [if_neg (by omega)])
    go_enter Try.func11, Try.ntmps11
    go_wp2_with fail
    refine (szHostS_any A n c 1048576 _ hml (by omega) (by omega)).mono ?_
    rintro e w' ⟨rfl, rfl⟩
    rw [HZ.out]
    go_wp2_with fail
    refine (toHostS_any A n c hs _ HL.out (by omega) h).mono ?_
    rintro e w1 ⟨A1, c1, rfl, _, _, o1, b1⟩
    go_wp2_with fail
    refine (totalWeight_spec A1 n c1 hs _ HL.out (by omega) o1.ints).mono ?_
    rintro e w2 ⟨rfl, b2⟩
    have B2 := b1.trans b2
    go_wp2_with fail
    refine (toHostS_any A n c hs _ HL.out (by omega) (h.new B2)).mono ?_
    rintro e w3 ⟨A3, c3, rfl, _, _, o3, b3⟩
    go_wp2_with fail
    refine (totalWeight_impl A3 n c3 hs _ HL.out (by omega) o3.ints).mono ?_
    rintro e w4 ⟨rfl, b4⟩
    have B4 := (B2.trans b3).trans b4
    go_wp2_with fail
    refine (toHostS_any A n c hs _ HL.out (by omega) (h.new B4)).mono ?_
    rintro e w5 ⟨A5, c5, rfl, _, _, o5, b5⟩
    go_wp2_with fail
    refine (eqHostS_same A3 A5 n c3 c5 hs _ HL.out hml ((o3.ints.new b4).new b5) o5.ints).mono ?_
    rintro e w6 ⟨rfl, b6⟩
    go_wp2_with fail
    go_ret
    exact ⟨rfl, (B4.trans b5).trans b6⟩
end Go.Proofs.Ytecimocclmjpdaa
