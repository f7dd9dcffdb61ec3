/- Draws of a pool and a list of hosts, of a pool and a key. -/
import Derived.Test.YtpbpddggmlgkdaaDrawK
import Derived.Test.YtpbpddggmlgkdaaDrawN
namespace Go.Proofs.Ytpbpddggmlgkdaa
set_option linter.unusedVariables false
set_option linter.unusedSimpArgs false
open Go.RowKit

theorem Own.none0' {E : TypeId} {size B n c : Nat} {w : World} {A : Option Addr} {zs : List Int} (h : Own E size B w A n c zs) : A = none → c = 0 := by
  intro hA
  rcases h.2 with ⟨hv, _⟩ | ⟨g, cap, cur, hv, _⟩
  · simpa using (congrArg (fun v => match v with | .slice _ _ c => c | _ => 0) hv)
  · rw [hA] at hv; simp at hv
/-- A drawn pool and a drawn key. -/
def PoolKeyDrawn (w : World) (e : Ending) (w' : World) : Prop :=
  ∃ A' c', ∃ hs : List Hst, ∃ z : Int, e = .returned (.tuple #[.slice A' hs.length c', .int .i64 z]) ∧ hs.length ≤ 7 ∧ hs.length ≤ c' ∧ c' ≤ maxLen ∧ (A' = none ∨ ∃ g, A' = some ⟨g, 0, none⟩) ∧ Ints w' A' (flat hs) ∧ -1 ≤ z ∧ z ≤ 1000003 ∧ (A' = none → c' = 0) ∧ New w w'
theorem DrawRendezvousHost_any (A : Option Addr) (n c : Nat) (zs : List Int) (w : World) (h : CodeArg w A n c zs) : Calls Try.prog 62 #[.slice A n c] w (PoolKeyDrawn w) := by
  go_enter Try.func62, Try.ntmps62
  go_wp2_with fail
  refine (open_code h).mono ?_
  rintro e w1 ⟨rfl, h1, b1⟩
  have hlt1 := h1.lt
  go_wp2_with fail
  refine (l20Pool_any _ A _ c _ 0 9 _ h1 (by omega) (by omega) (by omega)).mono ?_
  rintro e w2 ⟨A', c', q, hs, rfl, l7, lc, cm, o2, q0, q1, h2, g2⟩
  obtain ⟨m, hm⟩ : ∃ m, hs.length = m := ⟨_, rfl⟩
  rw [hm] at l7 lc o2 ⊢
  have HM := Lib.hid hm
  clear hm
  go_wp2_with fail
  refine (l20Key_any _ A _ c _ q 9 _ h2 (by omega) (by omega) (by omega)).mono ?_
  rintro e w3 ⟨v, q3, rfl, ⟨z, rfl, z0, z1⟩, _, _, _, g3⟩
  have hN : New w w3 := new_gb b1 (gb_trans g2 g3) (by omega)
  have o3 := o2.gb g3 hlt1
  go_wp2_with fail
  go_ret2
  exact ⟨A', c', hs, z, by rw [HM.out]; rfl, by rw [HM.out]; exact l7, by rw [HM.out]; exact lc, cm, o3.plain, o3.ints, z0, z1, o3.none0', hN⟩
theorem DrawRendezvousOrder_any (A : Option Addr) (n c : Nat) (zs : List Int) (w : World) (h : CodeArg w A n c zs) : Calls Try.prog 29 #[.slice A n c] w (PoolKeyDrawn w) := by
  go_enter Try.func29, Try.ntmps29
  go_wp2_with fail
  refine (DrawRendezvousHost_any A n c zs _ h).mono ?_
  rintro e w1 ⟨A', c', hs, z, rfl, h2⟩
  have H2 := Lib.hid h2
  clear h2
  go_wp2_with fail
  go_ret2
  exact ⟨A', c', hs, z, rfl, H2.out⟩
end Go.Proofs.Ytpbpddggmlgkdaa
