/- Draws of a pool and a list of hosts, of a pool and a key. -/
import Derived.Test.YtdcobkngbpkdfaaDrawK
import Derived.Test.YtdcobkngbpkdfaaDrawN
namespace Go.Proofs.Ytdcobkngbpkdfaa
set_option linter.unusedVariables false
set_option linter.unusedSimpArgs false
open Go.RowKit

/-- A drawn pool and a drawn key. -/
def PoolKeyDrawn (w : World) (e : Ending) (w' : World) : Prop :=
  ∃ A' c', ∃ hs : List Hst, ∃ z : Int, e = .returned (.tuple #[.slice A' hs.length c', .int .i64 z]) ∧ hs.length ≤ 7 ∧ hs.length ≤ c' ∧ c' ≤ maxLen ∧ (A' = none ∨ ∃ g, A' = some ⟨g, 0, none⟩) ∧ Ints w' A' (flat hs) ∧ -1 ≤ z ∧ z ≤ 1000003 ∧ New w w'
theorem DrawRendezvousHost_any (A : Option Addr) (n c : Nat) (zs : List Int) (w : World) (h : CodeArg w A n c zs) : Calls Try.prog 43 #[.slice A n c] w (PoolKeyDrawn w) := by
  go_enter Try.func43, Try.ntmps43
  go_wp2_with fail
  refine (open_code h).mono ?_
  rintro e w1 ⟨rfl, h1, b1⟩
  have hlt1 := h1.lt
  go_wp2_with fail
  refine (l20Pool_any _ A _ c _ 0 9 _ h1 (by omega) (by omega) (by omega)).mono ?_
  rintro e w2 ⟨A', c', q, hs, rfl, l7, lc, cm, o2, q0, q1, h2, g2⟩
  obtain ⟨m, hm⟩ : ∃ m, hs.length = m := ⟨_, rfl⟩
  rw [hm] at l7 lc o2 ⊢
  have HM := Lib.hid hm
  clear hm
  go_wp2_with fail
  refine (l20Key_any _ A _ c _ q 9 _ h2 (by omega) (by omega) (by omega)).mono ?_
  rintro e w3 ⟨v, q3, rfl, ⟨z, rfl, z0, z1⟩, _, _, _, g3⟩
  have hN : New w w3 := new_gb b1 (gb_trans g2 g3) (by omega)
  have o3 := o2.gb g3 hlt1
  go_wp2_with fail
  go_ret2
  exact ⟨A', c', hs, z, by rw [HM.out]; rfl, by rw [HM.out]; exact l7, by rw [HM.out]; exact lc, cm, o3.plain, o3.ints, z0, z1, hN⟩
theorem DrawJumpHost_any (A : Option Addr) (n c : Nat) (zs : List Int) (w : World) (h : CodeArg w A n c zs) : Calls Try.prog 51 #[.slice A n c] w (PoolKeyDrawn w) := by
  go_enter Try.func51, Try.ntmps51
  go_wp2_with fail
  refine (DrawRendezvousHost_any A n c zs _ h).mono ?_
  rintro e w1 ⟨A', c', hs, z, rfl, h2⟩
  have H2 := Lib.hid h2
  clear h2
  go_wp2_with fail
  go_ret2
  exact ⟨A', c', hs, z, rfl, H2.out⟩
/-- A drawn pool and a drawn list. -/
def PoolListDrawn (w : World) (e : Ending) (w' : World) : Prop :=
  ∃ A' c', ∃ hs : List Hst, ∃ A2 c2, ∃ ys : List Int, e = .returned (.tuple #[.slice A' hs.length c', .slice A2 ys.length c2]) ∧ hs.length ≤ 7 ∧ hs.length ≤ c' ∧ c' ≤ maxLen ∧ (A' = none ∨ ∃ g, A' = some ⟨g, 0, none⟩) ∧ Ints w' A' (flat hs) ∧ ys.length ≤ 11 ∧ ys.length ≤ c2 ∧ c2 ≤ maxLen ∧ Ints w' A2 ys ∧ New w w'
set_option maxRecDepth 100000 in
theorem DrawFewestHost_any (A : Option Addr) (n c : Nat) (zs : List Int) (w : World) (h : CodeArg w A n c zs) : Calls Try.prog 38 #[.slice A n c] w (PoolListDrawn w) := by
  obtain ⟨i0, hi, hz0, hz1, hz2⟩ := info_parts int_info
  go_enter Try.func38, Try.ntmps38
  go_wp2_with fail
  refine (open_code h).mono ?_
  rintro e w1 ⟨rfl, h1, b1⟩
  have hlt1 := h1.lt
  go_wp2_with fail
  refine (l20Pool_any _ A _ c _ 0 9 _ h1 (by omega) (by omega) (by omega)).mono ?_
  rintro e w2 ⟨A', c', q, hs, rfl, l7, lc, cm, o2, q0, q1, h2, g2⟩
  obtain ⟨M, hm⟩ : ∃ m, hs.length = m := ⟨_, rfl⟩
  rw [hm] at l7 lc o2 ⊢
  have HM := Lib.hid hm
  clear hm
  have hlt2 := h2.lt
  have hne : ∀ g, A' = some ⟨g, 0, none⟩ → g ≠ w.heap.size := fun g hg => by
    subst hg
    have := o2.blkGe
    omega
  have HNE := Lib.hid hne
  clear hne
  go_wp2_with fail
  have b0 := (New.refl w2).alloc (.cells #[] 3)
  have o0 : Own 3 1 w2.heap.size (w2.alloc (.cells #[] 3)) (some ⟨w2.heap.size, 0, none⟩) 0 0 [] := World.ownsRow_lit w2 #[] 0 (Nat.le_refl _) (Nat.zero_le _) rfl
  refine (pick_any w.heap.size A _ c _ q 12 _ (h2.new b0) (by omega) (by omega)).mono ?_
  rintro e w3 ⟨k0, rfl, k00, k01, h3, g3⟩
  have o3 := o0.gb g3 hlt2
  have G3 := gb_trans (new_gbR w.heap.size b0) g3
  obtain ⟨K, rfl⟩ := Int.eq_ofNat_of_zero_le k00
  have hK : K ≤ 11 := by have := k01 (by omega); omega
  have HP := Lib.hid o2
  clear b0 o0 g3 k00 k01 h h1 h2 o2
  go_wp2_with fail
  go_loopw [6, 7] (fun v i wr => ∃ (m : Nat) (A2 : Option Addr) (c2 : Nat) (ys : List Int) (n' p : Nat), m ≤ 11 ∧ i = .int .i64 m ∧ v = .slice A2 n' c2 ∧ Hid (n' = ys.length) ∧ n' + m ≤ 11 ∧ n' ≤ c2 ∧ c2 ≤ maxLen ∧ p + 2 * m ≤ 200 ∧ Own 3 1 w2.heap.size wr A2 n' c2 ys ∧ RdAt wr w.heap.size A (min n 2000) c (zs.take 2000) p ∧ w2.grownBy wr (some w.heap.size)) (fun _ i _ => (intOf i).toNat)
  case atStart => exact ⟨K, _, _, [], 0, q + 1, hK, rfl, rfl, Lib.hid rfl, by omega, Nat.le_refl _, Nat.zero_le _, by omega, o3, h3, G3⟩
  case round =>
    obtain ⟨m, A2, c2, ys, n', p, hm11, rfl, rfl, HL, hnm, hnc, hcm, hp, ho, hr, hg⟩ := hrel
    clear o3 h3 G3
    by_cases hm0 : 0 < m
    · go_wp2_with fail
      refine (l20Number_any _ A _ c _ p A' M c' hs _ hr (by omega) HM.out l7 (HP.out.gb hg hlt1).ints HNE.out HP.out.plain).mono ?_
      rintro e w4 ⟨v, p4, rfl, ⟨x, rfl, _⟩, hp4, hp5, h4, g4⟩
      have bA := (New.refl w4).alloc (.cells #[.int .i64 x] 3)
      have HO := Lib.hid ((ho.gb g4 hlt2).new bA)
      have HR := Lib.hid (h4.new bA)
      have HG := Lib.hid (gb_new (gb_trans hg g4) bA)
      clear ho hr hg g4 h4 bA
      go_wp2_with (at_builtin; refine wpList_append_Rd _ rfl (.tmp 19) (.tmp 23) 23 rfl w2 3 i0 _ 1 8 Try.underlying23 hi hz0 hz1 hz2 rfl (by omega) (by omega) A2 n' c2 _ rfl HO.out _ 1 1 [x] rfl rfl (Ints.lit _ _ [_] _ (by simp)) (by omega) (by omega) HR.out hlt2 HG.out ?_; intro A3 c3 w5 e1 e2 o5 h5 G5)
      go_roundw
      case rel => exact ⟨m - 1, A3, c3, ys ++ [x], n' + 1, p4, by omega, by go_num, rfl, Lib.hid (by rw [HL.out]; simp), by omega, e1, e2, by omega, o5, h5, G5⟩
      case measure => simp [intOf]; omega
    · obtain rfl : m = 0 := by omega
      have hN : New w wr := new_gb b1 (gb_trans g2 hg) (Nat.le_refl _)
      have oP := HP.out.gb hg hlt1
      clear hr hg
      go_wp2_with fail
      go_ret2
      exact ⟨A', c', hs, A2, c2, ys, by rw [HM.out, ← HL.out]; rfl, by rw [HM.out]; exact l7, by rw [HM.out]; exact lc, cm, oP.plain, oP.ints, by have := HL.out; omega, by have := HL.out; omega, hcm, ho.ints, hN⟩
end Go.Proofs.Ytdcobkngbpkdfaa
