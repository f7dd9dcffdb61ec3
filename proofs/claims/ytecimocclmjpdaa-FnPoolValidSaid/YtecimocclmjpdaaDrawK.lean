/- Draws of pools alone, of numbers of hosts. -/
import Derived.Test.YtecimocclmjpdaaDrawP
namespace Go.Proofs.Ytecimocclmjpdaa
open Go.RowKit

/-- A drawn pool. -/
def PoolDrawn (w : World) (e : Ending) (w' : World) : Prop :=
  ∃ A' c', ∃ hs : List Hst, e = .returned (.slice A' hs.length c') ∧ hs.length ≤ 7 ∧ hs.length ≤ c' ∧ c' ≤ maxLen ∧ (A' = none ∨ ∃ g, A' = some ⟨g, 0, none⟩) ∧ Ints w' A' (flat hs) ∧ New w w'
theorem DrawPoolValid_any (A : Option Addr) (n c : Nat) (zs : List Int) (w : World) (h : CodeArg w A n c zs) : Calls Try.prog 30 #[.slice A n c] w (PoolDrawn w) := by
  go_enter Try.func30, Try.ntmps30
  go_wp2_with fail
  refine (open_code h).mono ?_
  rintro e w1 ⟨rfl, h1, b1⟩
  have hlt1 := h1.lt
  go_wp2_with fail
  refine (l20Pool_any _ A _ c _ 0 2 _ h1 (by omega) (by omega) (by omega)).mono ?_
  rintro e w2 ⟨A', c', q, hs, rfl, l7, lc, cm, o2, _, _, _, g2⟩
  have hN : New w w2 := new_gb b1 g2 (by omega)
  go_wp2_with fail
  go_ret
  exact ⟨A', c', hs, rfl, l7, lc, cm, o2.plain, o2.ints, hN⟩
end Go.Proofs.Ytecimocclmjpdaa
