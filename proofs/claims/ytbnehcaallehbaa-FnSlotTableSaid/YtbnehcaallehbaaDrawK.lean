/- Draws of pools alone, of numbers of hosts. -/
import Derived.Test.YtbnehcaallehbaaDrawP
namespace Go.Proofs.Ytbnehcaallehbaa
set_option linter.unusedVariables false
set_option linter.unusedSimpArgs false
open Go.RowKit

/-- A drawn pool. -/
def PoolDrawn (w : World) (e : Ending) (w' : World) : Prop :=
  ∃ A' c', ∃ hs : List Hst, e = .returned (.slice A' hs.length c') ∧ hs.length ≤ 7 ∧ hs.length ≤ c' ∧ c' ≤ maxLen ∧ (A' = none ∨ ∃ g, A' = some ⟨g, 0, none⟩) ∧ Ints w' A' (flat hs) ∧ New w w'
theorem DrawRingOf_any (A : Option Addr) (n c : Nat) (zs : List Int) (w : World) (h : CodeArg w A n c zs) : Calls Try.prog 14 #[.slice A n c] w (PoolDrawn w) := by
  go_enter Try.func14, Try.ntmps14
  go_wp2_with fail
  refine (open_code h).mono ?_
  rintro e w1 ⟨rfl, h1, b1⟩
  have hlt1 := h1.lt
  go_wp2_with fail
  refine (l20Pool_any _ A _ c _ 0 9 _ h1 (by omega) (by omega) (by omega)).mono ?_
  rintro e w2 ⟨A', c', q, hs, rfl, l7, lc, cm, o2, _, _, _, g2⟩
  have hN : New w w2 := new_gb b1 g2 (by omega)
  go_wp2_with fail
  go_ret
  exact ⟨A', c', hs, rfl, l7, lc, cm, o2.plain, o2.ints, hN⟩
theorem DrawSlotTable_any (A : Option Addr) (n c : Nat) (zs : List Int) (w : World) (h : CodeArg w A n c zs) : Calls Try.prog 48 #[.slice A n c] w (PoolDrawn w) := by
  go_enter Try.func48, Try.ntmps48
  go_wp2_with fail
  refine (open_code h).mono ?_
  rintro e w1 ⟨rfl, h1, b1⟩
  have hlt1 := h1.lt
  go_wp2_with fail
  refine (l20Pool_any _ A _ c _ 0 9 _ h1 (by omega) (by omega) (by omega)).mono ?_
  rintro e w2 ⟨A', c', q, hs, rfl, l7, lc, cm, o2, _, _, _, g2⟩
  have hN : New w w2 := new_gb b1 g2 (by omega)
  go_wp2_with fail
  go_ret
  exact ⟨A', c', hs, rfl, l7, lc, cm, o2.plain, o2.ints, hN⟩
theorem l20Number_any (R : Nat) (A : Option Addr) (n c : Nat) (zs : List Int) (p : Nat) (A' : Option Addr) (m c' : Nat) (hs : List Hst) (w : World) (h : RdAt w R A n c zs p) (hp : p ≤ 900000) (hm : hs.length = m) (hm7 : m ≤ 7) (hI : Ints w A' (flat hs)) (hA : ∀ g, A' = some ⟨g, 0, none⟩ → g ≠ R) (hpl : A' = none ∨ ∃ g, A' = some ⟨g, 0, none⟩) :
    Calls Try.prog 82 #[.pointer (some ⟨R, 0, none⟩), .slice A' m c'] w (ReadRet 2 w R A n c zs p fun v _ => ∃ z : Int, v = .int .i64 z ∧ (z ∈ hs.map (fun h => h.num) ∨ (-1 ≤ z ∧ z ≤ 31))) := by
  by_cases hm0 : m = 0
  · subst hm0
    go_enter Try.func82, Try.ntmps82
    go_wp2_with fail
    refine (pick_any R A n c zs p 32 _ h (by omega) (by omega)).mono ?_
    rintro e w1 ⟨x, rfl, x0, x1, h1, g1⟩
    have x2 := x1 (by omega)
    go_wp2_with fail
    go_ret
    exact ⟨_, p + 1, rfl, ⟨x - 1, rfl, .inr (by omega)⟩, by omega, by omega, h1, g1⟩
  · have hm0' : 0 < m := by omega
    have HM := Lib.hid hm
    clear hm
    go_enter Try.func82, Try.ntmps82
    go_wp2_with fail
    refine (pick_any R A n c zs p 5 _ h (by omega) (by omega)).mono ?_
    rintro e w1 ⟨x, rfl, x0, x1, h1, g1⟩
    by_cases hx : 0 < x
    · go_wp2_with fail
      refine (pick_any R A n c zs (p + 1) m _ h1 (by omega) (by omega)).mono ?_
      rintro e w2 ⟨y, rfl, y0, y1, h2, g2⟩
      have G2 := gb_trans g1 g2
      have y2 := y1 (by omega)
      obtain ⟨Y, rfl⟩ := Int.eq_ofNat_of_zero_le y0
      have hI2 : Ints w2 A' (flat hs) := hI.apartR G2 hA hpl
      obtain ⟨b, o, z, rfl, hz, hb, c0, c1, c2⟩ := hosts_at hI2 (k := Y) (by rw [HM.out]; omega)
      have HZ := Lib.hid (List.mem_of_getElem? hz)
      clear hz hI hpl hA
      go_wp2_with fail
      go_ret
      exact ⟨_, p + 1 + 1, rfl, ⟨z.num, rfl, .inl (List.mem_map.2 ⟨z, HZ.out, rfl⟩)⟩, by omega, by omega, h2, G2⟩
    · obtain rfl : x = 0 := by omega
      go_wp2_with fail
      refine (pick_any R A n c zs (p + 1) 32 _ h1 (by omega) (by omega)).mono ?_
      rintro e w2 ⟨y, rfl, y0, y1, h2, g2⟩
      have y2 := y1 (by omega)
      go_wp2_with fail
      go_ret
      exact ⟨_, p + 1 + 1, rfl, ⟨y - 1, rfl, .inr (by omega)⟩, by omega, by omega, h2, gb_trans g1 g2⟩
end Go.Proofs.Ytbnehcaallehbaa
