/- Exact laws on the fewest flows. -/
import Derived.Test.YtecknackloolgaaHosts
import Derived.Test.YtecknackloolgaaFew
namespace Go.Proofs.Ytecknackloolgaa
open Go.RowKit

set_option maxHeartbeats 2000000 in
set_option maxRecDepth 100000 in
theorem walk_FnExactFewestHost (A : Option Addr) (n c : Nat) (zs : List Int) (A' : Option Addr) (n' c' : Nat) (fs : List Int) (w : World) (H : ArgInts .i64 w A n c 3 zs) (H' : ArgInts .i64 w A' n' c' 1 fs) :
    Calls Try.prog 11 #[.slice A n c, .slice A' n' c'] w fun e w' => e = .returned (.bool true) ∧ New w w' := by
  obtain ⟨hs, rfl, hlen⟩ := hosts_of H
  have h := H.2.2.2.2
  have hml : n ≤ maxLen := Nat.le_trans H.1 H.2.1
  have hm' := hml
  unfold maxLen at hm'
  have HL := Lib.hid hlen
  clear hlen H
  obtain ⟨_, hcm', hl', _, h'⟩ := H'
  have hlen' : fs.length = n' := by simpa using hl'
  have hml' : n' ≤ maxLen := by omega
  have hm'' := hml'
  unfold maxLen at hm''
  have HL' := Lib.hid hlen'
  clear hl' hlen'
  by_cases hbig' : 1048576 < n'
  · go_enter Try.func11, Try.ntmps11
    go_wp2_with fail
    go_ret
    exact ⟨rfl, (by repeat (first | with_reducible assumption | with_reducible exact New.refl _ | with_reducible refine New.alloc ?_ _ | with_reducible refine New.drew ?_ | with_reducible refine New.drewN ?_ _ | refine New.setCell ?_ (by first | (simp; done) | omega | (simp; omega)) _ | with_reducible refine New.trans ?_ (by with_reducible assumption)))⟩
  by_cases hbig : 1048576 < n
  · have HZ := Lib.hid (show (if (1048576 : Int) < (n : Int) then (-1 : Int) else 1048576 - n) = -1 by rw [if_pos (by omega)])
    go_enter Try.func11, Try.ntmps11
    go_wp2_with fail
    refine (szHostS_any A n c 1048576 _ hml (by omega) (by omega)).mono ?_
    rintro e w' ⟨rfl, rfl⟩
    rw [HZ.out]
    go_wp2_with fail
    go_ret
    exact ⟨rfl, (by repeat (first | with_reducible assumption | with_reducible exact New.refl _ | with_reducible refine New.alloc ?_ _ | with_reducible refine New.drew ?_ | with_reducible refine New.drewN ?_ _ | refine New.setCell ?_ (by first | (simp; done) | omega | (simp; omega)) _ | with_reducible refine New.trans ?_ (by with_reducible assumption)))⟩
  have HZ := Lib.hid (show (if (1048576 : Int) < (n : Int) then (-1 : Int) else 1048576 - n) = 1048576 - n by rw [if_neg (by omega)])
  have SP : Hid (∀ (A : Option Addr) (c : Nat) (A' : Option Addr) (c' : Nat) (w : World), Ints w A (flat hs) → Ints w A' fs → Calls Try.prog 47 #[.slice A n c, .slice A' n' c'] w (fun e w' => e = .returned (.int .i64 (fewZ hs fs)) ∧ New w w')) := Lib.hid fun A c A' c' w h h' => by exact fewHost_spec A n c hs A' n' c' fs w HL.out (by omega) h HL'.out (by omega) h'
  have IM : Hid (∀ (A : Option Addr) (c : Nat) (A' : Option Addr) (c' : Nat) (w : World), Ints w A (flat hs) → Ints w A' fs → Calls Try.prog 49 #[.slice A n c, .slice A' n' c'] w (fun e w' => e = .returned (.int .i64 (fewZ hs fs)) ∧ New w w')) := Lib.hid fun A c A' c' w h h' => by exact fewHost_impl A n c hs A' n' c' fs w HL.out (by omega) h HL'.out (by omega) h'
  go_enter Try.func11, Try.ntmps11
  go_wp2_with fail
  refine (szHostS_any A n c 1048576 _ hml (by omega) (by omega)).mono ?_
  rintro e w' ⟨rfl, rfl⟩
  rw [HZ.out]
  go_wp2_with fail
  refine (toHostS_any A n c hs _ HL.out (by omega) h).mono ?_
  rintro e w1 ⟨A1, c1, rfl, nc1, cm1, o1, b1⟩
  have B1 := b1
  go_wp2_with fail
  refine (toIntS_any A' n' c' fs _ HL'.out (by omega) (h'.new B1)).mono ?_
  rintro e w2 ⟨A2, c2, rfl, nc2, cm2, o2, b2⟩
  have B2 := B1.trans b2
  go_wp2_with fail
  refine (SP.out A1 c1 A2 c2 _ (o1.new b2).ints o2.ints).mono ?_
  rintro e w3 ⟨rfl, b3⟩
  have B3 := B2.trans b3
  go_wp2_with fail
  refine (toHostS_any A n c hs _ HL.out (by omega) (h.new B3)).mono ?_
  rintro e w4 ⟨A4, c4, rfl, nc4, cm4, o4, b4⟩
  have B4 := B3.trans b4
  go_wp2_with fail
  refine (toIntS_any A' n' c' fs _ HL'.out (by omega) (h'.new B4)).mono ?_
  rintro e w5 ⟨A5, c5, rfl, nc5, cm5, o5, b5⟩
  have B5 := B4.trans b5
  go_wp2_with fail
  refine (IM.out A4 c4 A5 c5 _ (o4.new b5).ints o5.ints).mono ?_
  rintro e w6 ⟨rfl, b6⟩
  have B6 := B5.trans b6
  go_wp2_with fail
  refine (toHostS_any A n c hs _ HL.out (by omega) (h.new B6)).mono ?_
  rintro e w7 ⟨A7, c7, rfl, nc7, cm7, o7, b7⟩
  have B7 := B6.trans b7
  go_wp2_with fail
  refine (eqHostS_same A4 A7 n c4 c7 hs _ HL.out hml (((o4.new b5).new b6).new b7).ints o7.ints).mono ?_
  rintro e w8 ⟨rfl, b8⟩
  have B8 := B7.trans b8
  go_wp2_with fail
  refine (toIntS_any A' n' c' fs _ HL'.out (by omega) (h'.new B8)).mono ?_
  rintro e w9 ⟨A9, c9, rfl, nc9, cm9, o9, b9⟩
  have B9 := B8.trans b9
  go_wp2_with fail
  refine (eqIntS_any A5 A9 n' c5 n' c9 fs fs _ HL'.out HL'.out hml' hml' ((((o5.new b6).new b7).new b8).new b9).ints o9.ints).mono ?_
  rintro e w10 ⟨rfl, b10⟩
  have B10 := B9.trans b10
  simp only [decide_true]
  go_wp2_with fail
  go_ret
  exact ⟨rfl, B10⟩
end Go.Proofs.Ytecknackloolgaa
