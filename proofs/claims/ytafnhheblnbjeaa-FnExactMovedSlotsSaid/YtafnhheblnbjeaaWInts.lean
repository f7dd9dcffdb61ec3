/- Laws on lists of integers: SlotHost, CountOf, MovedSlots return what the reference returns, and leave their lists alone. -/
import Derived.Test.YtafnhheblnbjeaaInts
namespace Go.Proofs.Ytafnhheblnbjeaa
open Go.RowKit

theorem walk_FnExactSlotHost (A : Option Addr) (n c : Nat) (zs : List Int) (x : Int) (w : World) (H : ArgInts .i64 w A n c 1 zs) (_hx : (Lit.int .i64 x).wf = true) :
    Calls Try.prog 6 #[.slice A n c, .int .i64 x] w fun e w' => e = .returned (.bool true) ∧ New w w' := by
  obtain ⟨hnc, hcm, hl, _, h⟩ := H
  have hlen : zs.length = n := by simpa using hl
  have hml : n ≤ maxLen := by omega
  have hm' : n ≤ maxLen := hml
  unfold maxLen at hm'
  have HL := Lib.hid hlen
  clear hl hlen
  by_cases hbig : 1048576 < n
  · go_enter Try.func6, Try.ntmps6
    go_wp2_with fail
    go_ret
    exact ⟨rfl, (by repeat (first | with_reducible assumption | with_reducible exact New.refl _ | with_reducible refine New.alloc ?_ _ | with_reducible refine New.drew ?_ | with_reducible refine New.drewN ?_ _ | refine New.setCell ?_ (by first | (simp; done) | omega | (simp; omega)) _ | with_reducible refine New.trans ?_ (by with_reducible assumption)))⟩
  · go_enter Try.func6, Try.ntmps6
    go_wp2_with fail
    refine (toIntS_any A n c zs _ HL.out (by omega) h).mono ?_
    rintro e w1 ⟨A1, c1, rfl, _, _, o1, b1⟩
    go_wp2_with fail
    refine (slotHost_spec A1 n c1 zs x _ HL.out hml o1.ints).mono ?_
    rintro e w' ⟨rfl, rfl⟩
    go_wp2_with fail
    refine (toIntS_any A n c zs _ HL.out (by omega) (h.new b1)).mono ?_
    rintro e w2 ⟨A2, c2, rfl, _, _, o2, b2⟩
    go_wp2_with fail
    refine (slotHost_impl A2 n c2 zs x _ HL.out hml o2.ints).mono ?_
    rintro e w' ⟨rfl, rfl⟩
    go_wp2_with fail
    refine (toIntS_any A n c zs _ HL.out (by omega) ((h.new b1).new b2)).mono ?_
    rintro e w3 ⟨A3, c3, rfl, _, _, o3, b3⟩
    go_wp2_with fail
    refine (eqIntS_any A2 A3 n c2 n c3 zs zs _ HL.out HL.out hml hml (o2.ints.new b3) o3.ints).mono ?_
    rintro e w4 ⟨rfl, b4⟩
    simp only [decide_true]
    go_wp2_with fail
    go_ret
    exact ⟨rfl, ((b1.trans b2).trans b3).trans b4⟩
theorem walk_FnExactCountOf (A : Option Addr) (n c : Nat) (zs : List Int) (x : Int) (w : World) (H : ArgInts .i64 w A n c 1 zs) (_hx : (Lit.int .i64 x).wf = true) :
    Calls Try.prog 7 #[.slice A n c, .int .i64 x] w fun e w' => e = .returned (.bool true) ∧ New w w' := by
  obtain ⟨hnc, hcm, hl, _, h⟩ := H
  have hlen : zs.length = n := by simpa using hl
  have hml : n ≤ maxLen := by omega
  have hm' : n ≤ maxLen := hml
  unfold maxLen at hm'
  have HL := Lib.hid hlen
  clear hl hlen
  by_cases hbig : 1048576 < n
  · go_enter Try.func7, Try.ntmps7
    go_wp2_with fail
    go_ret
    exact ⟨rfl, (by repeat (first | with_reducible assumption | with_reducible exact New.refl _ | with_reducible refine New.alloc ?_ _ | with_reducible refine New.drew ?_ | with_reducible refine New.drewN ?_ _ | refine New.setCell ?_ (by first | (simp; done) | omega | (simp; omega)) _ | with_reducible refine New.trans ?_ (by with_reducible assumption)))⟩
  · go_enter Try.func7, Try.ntmps7
    go_wp2_with fail
    refine (toIntS_any A n c zs _ HL.out (by omega) h).mono ?_
    rintro e w1 ⟨A1, c1, rfl, _, _, o1, b1⟩
    go_wp2_with fail
    refine (countOf_spec A1 n c1 zs x _ HL.out hml o1.ints).mono ?_
    rintro e w' ⟨rfl, rfl⟩
    go_wp2_with fail
    refine (toIntS_any A n c zs _ HL.out (by omega) (h.new b1)).mono ?_
    rintro e w2 ⟨A2, c2, rfl, _, _, o2, b2⟩
    go_wp2_with fail
    refine (countOf_impl A2 n c2 zs x _ HL.out hml o2.ints).mono ?_
    rintro e w' ⟨rfl, rfl⟩
    go_wp2_with fail
    refine (toIntS_any A n c zs _ HL.out (by omega) ((h.new b1).new b2)).mono ?_
    rintro e w3 ⟨A3, c3, rfl, _, _, o3, b3⟩
    go_wp2_with fail
    refine (eqIntS_any A2 A3 n c2 n c3 zs zs _ HL.out HL.out hml hml (o2.ints.new b3) o3.ints).mono ?_
    rintro e w4 ⟨rfl, b4⟩
    simp only [decide_true]
    go_wp2_with fail
    go_ret
    exact ⟨rfl, ((b1.trans b2).trans b3).trans b4⟩
theorem walk_FnExactMovedSlots (A : Option Addr) (n c : Nat) (zs : List Int) (A' : Option Addr) (n' c' : Nat) (zs' : List Int) (w : World) (H : ArgInts .i64 w A n c 1 zs) (H' : ArgInts .i64 w A' n' c' 1 zs') :
    Calls Try.prog 8 #[.slice A n c, .slice A' n' c'] w fun e w' => e = .returned (.bool true) ∧ New w w' := by
  obtain ⟨hnc, hcm, hl, _, h⟩ := H
  obtain ⟨hnc', hcm', hl', _, h'⟩ := H'
  have hlen : zs.length = n := by simpa using hl
  have hlen' : zs'.length = n' := by simpa using hl'
  have hml : n ≤ maxLen := by omega
  have hml' : n' ≤ maxLen := by omega
  have hm' : n ≤ maxLen := hml
  have hm'' : n' ≤ maxLen := hml'
  unfold maxLen at hm' hm''
  have HL := Lib.hid hlen
  have HL' := Lib.hid hlen'
  clear hl hlen hl' hlen'
  by_cases hbig : 1048576 < n
  · go_enter Try.func8, Try.ntmps8
    go_wp2_with fail
    go_ret
    exact ⟨rfl, (by repeat (first | with_reducible assumption | with_reducible exact New.refl _ | with_reducible refine New.alloc ?_ _ | with_reducible refine New.drew ?_ | with_reducible refine New.drewN ?_ _ | refine New.setCell ?_ (by first | (simp; done) | omega | (simp; omega)) _ | with_reducible refine New.trans ?_ (by with_reducible assumption)))⟩
  by_cases hbig' : 1048576 < n'
  · go_enter Try.func8, Try.ntmps8
    go_wp2_with fail
    go_ret
    exact ⟨rfl, (by repeat (first | with_reducible assumption | with_reducible exact New.refl _ | with_reducible refine New.alloc ?_ _ | with_reducible refine New.drew ?_ | with_reducible refine New.drewN ?_ _ | refine New.setCell ?_ (by first | (simp; done) | omega | (simp; omega)) _ | with_reducible refine New.trans ?_ (by with_reducible assumption)))⟩
  go_enter Try.func8, Try.ntmps8
  go_wp2_with fail
  refine (toIntS_any A n c zs _ HL.out (by omega) h).mono ?_
  rintro e w1 ⟨A1, c1, rfl, _, _, o1, b1⟩
  go_wp2_with fail
  refine (toIntS_any A' n' c' zs' _ HL'.out (by omega) (h'.new b1)).mono ?_
  rintro e w2 ⟨A2, c2, rfl, _, _, o2, b2⟩
  go_wp2_with fail
  refine (movedSlots_spec A1 A2 n c1 n' c2 zs zs' _ HL.out HL'.out hml hml' (o1.ints.new b2) o2.ints).mono ?_
  rintro e w3 ⟨rfl, b3⟩
  have B3 := (b1.trans b2).trans b3
  go_wp2_with fail
  refine (toIntS_any A n c zs _ HL.out (by omega) (h.new B3)).mono ?_
  rintro e w4 ⟨A4, c4, rfl, _, _, o4, b4⟩
  go_wp2_with fail
  refine (toIntS_any A' n' c' zs' _ HL'.out (by omega) (h'.new (B3.trans b4))).mono ?_
  rintro e w5 ⟨A5, c5, rfl, _, _, o5, b5⟩
  go_wp2_with fail
  refine (movedSlots_impl A4 A5 n c4 n' c5 zs zs' _ HL.out HL'.out hml hml' (o4.ints.new b5) o5.ints).mono ?_
  rintro e w6 ⟨rfl, b6⟩
  have B6 := ((B3.trans b4).trans b5).trans b6
  go_wp2_with fail
  refine (toIntS_any A n c zs _ HL.out (by omega) (h.new B6)).mono ?_
  rintro e w7 ⟨A7, c7, rfl, _, _, o7, b7⟩
  go_wp2_with fail
  refine (eqIntS_any A4 A7 n c4 n c7 zs zs _ HL.out HL.out hml hml (((o4.ints.new b5).new b6).new b7) o7.ints).mono ?_
  rintro e w8 ⟨rfl, b8⟩
  simp only [decide_true]
  go_wp2_with fail
  refine (toIntS_any A' n' c' zs' _ HL'.out (by omega) (h'.new ((B6.trans b7).trans b8))).mono ?_
  rintro e w9 ⟨A9, c9, rfl, _, _, o9, b9⟩
  go_wp2_with fail
  refine (eqIntS_any A5 A9 n' c5 n' c9 zs' zs' _ HL'.out HL'.out hml' hml' ((((o5.ints.new b6).new b7).new b8).new b9) o9.ints).mono ?_
  rintro e w10 ⟨rfl, b10⟩
  simp only [decide_true]
  go_wp2_with fail
  go_ret
  exact ⟨rfl, (((B6.trans b7).trans b8).trans b9).trans b10⟩
end Go.Proofs.Ytafnhheblnbjeaa
