/- The reader of a code: opened, asked for a number. -/
import Derived.Test.YtbnehcaallehbaaTypes
import Derived.Laws.BitsAllLaws
import Derived.Laws.BitsLemmas
namespace Go.Proofs.Ytbnehcaallehbaa
set_option linter.unusedVariables false
set_option linter.unusedSimpArgs false
open Go.RowKit

/-- The reader's block R: the bytes zs behind A, the position p. -/
def RdAt (w : World) (R : Nat) (A : Option Addr) (n c : Nat) (zs : List Int) (p : Nat) : Prop :=
  w.heap[R]? = some (.cells #[.slice A n c, .int .i64 (p : Int)] 101 (0, 0)) ∧ IntsK .u8 w A zs ∧ zs.length = n ∧ n ≤ 2000 ∧ (∀ z ∈ zs, 0 ≤ z ∧ z ≤ 255) ∧ ∀ b o, 0 < zs.length → A = some ⟨b, o, none⟩ → b < R

theorem xor_nonneg {x y : Int} (hx0 : 0 ≤ x) (hx1 : x < 9223372036854775808) (hy0 : 0 ≤ y) (hy1 : y < 9223372036854775808) : ∃ z, bits .xor .i64 x y = z ∧ 0 ≤ z ∧ z < 9223372036854775808 := by
  obtain ⟨a, rfl⟩ := Int.eq_ofNat_of_zero_le hx0
  obtain ⟨b, rfl⟩ := Int.eq_ofNat_of_zero_le hy0
  have hlt : a ^^^ b < 2 ^ 63 := Nat.xor_lt_two_pow (by omega) (by omega)
  have ha : (BitVec.ofInt 64 (a : Int)).toNat = a := by rw [BitVec.ofInt_natCast, BitVec.toNat_ofNat]; exact Nat.mod_eq_of_lt (by omega)
  have hb : (BitVec.ofInt 64 (b : Int)).toNat = b := by rw [BitVec.ofInt_natCast, BitVec.toNat_ofNat]; exact Nat.mod_eq_of_lt (by omega)
  refine ⟨((a ^^^ b : Nat) : Int), ?_, by omega, by omega⟩
  show IntKind.i64.wrap ((BitVec.ofInt 64 (a : Int) ^^^ BitVec.ofInt 64 (b : Int)).toNat : Int) = _
  rw [BitVec.toNat_xor, ha, hb, IntKind.wrap_i64]
  omega

theorem RdAt.cell0 {w : World} {R : Nat} {A : Option Addr} {n c : Nat} {zs : List Int} {p : Nat} (h : RdAt w R A n c zs p) : w.cell? ⟨R, 0, none⟩ = some (.slice A n c) := by rw [cell_of_row _ _ _ _ _ _ h.1]; rfl
theorem RdAt.cell1 {w : World} {R : Nat} {A : Option Addr} {n c : Nat} {zs : List Int} {p : Nat} (h : RdAt w R A n c zs p) : w.cell? ⟨R, 1, none⟩ = some (.int .i64 (p : Int)) := by rw [cell_of_row _ _ _ _ _ _ h.1]; rfl
theorem RdAt.frozen {w : World} {R : Nat} {A : Option Addr} {n c : Nat} {zs : List Int} {p : Nat} (h : RdAt w R A n c zs p) (j : Nat) : w.frozen? ⟨R, j, none⟩ = false := by
  have := h.1
  simp [World.frozen?, this]
theorem RdAt.lt {w : World} {R : Nat} {A : Option Addr} {n c : Nat} {zs : List Int} {p : Nat} (h : RdAt w R A n c zs p) : R < w.heap.size := (Array.getElem?_eq_some_iff.1 h.1).1
/-- The position goes on. -/
theorem RdAt.next {w : World} {R : Nat} {A : Option Addr} {n c : Nat} {zs : List Int} {p : Nat} (h : RdAt w R A n c zs p) (q : Nat) : RdAt (w.setCell ⟨R, 1, none⟩ (.int .i64 (q : Int))) R A n c zs q := by
  obtain ⟨h1, h2, h3, h4, h5, h6⟩ := h
  refine ⟨?_, fun hn => ?_, h3, h4, h5, h6⟩
  · simp [World.setCell, Array.getElem?_modify, h1]
  · obtain ⟨b, o, hA, hc⟩ := h2 hn
    refine ⟨b, o, hA, fun j hj => ?_⟩
    rw [World.cell?_setCell_other w _ _ _ (fun e => by have := h6 b o hn hA; simp at e)]
    exact hc j hj
theorem RdAt.drewN {w : World} {R : Nat} {A : Option Addr} {n c : Nat} {zs : List Int} {p : Nat} (h : RdAt w R A n c zs p) (m : Nat) : RdAt (w.drewN m) R A n c zs p := h
/-- The reader stays as it is where no block of its own turns. -/
theorem RdAt.kept {w w' : World} {R : Nat} {A : Option Addr} {n c : Nat} {zs : List Int} {p : Nat} (h : RdAt w R A n c zs p) {row : Option Nat} (hg : w.grownBy w' row) (hR : row ≠ some R) (hA : ∀ b o, 0 < zs.length → A = some ⟨b, o, none⟩ → row ≠ some b) : RdAt w' R A n c zs p := by
  obtain ⟨h1, h2, h3, h4, h5, h6⟩ := h
  refine ⟨?_, fun hn => ?_, h3, h4, h5, h6⟩
  · rw [hg.block R (Array.getElem?_eq_some_iff.1 h1).1 (fun e => hR e.symm)]
    exact h1
  · obtain ⟨b, o, hA', hc⟩ := h2 hn
    refine ⟨b, o, hA', fun j hj => ?_⟩
    have h0 := hc j hj
    exact hg.cell h0 (fun e => hA b o hn hA' e.symm)
theorem RdAt.new {w w' : World} {R : Nat} {A : Option Addr} {n c : Nat} {zs : List Int} {p : Nat} (h : RdAt w R A n c zs p) (hb : New w w') : RdAt w' R A n c zs p :=
  h.kept (row := none) ⟨hb.os, hb.tape, hb.output, hb.size, fun k hk _ => hb.block k hk⟩ (by simp) (by simp)

/-- What a function leaves that reads on: the reader has gone on by at most d, only its block has turned. -/
def Read (d : Nat) (w : World) (R : Nat) (A : Option Addr) (n c : Nat) (zs : List Int) (p : Nat) (w' : World) : Prop := ∃ q, p ≤ q ∧ q ≤ p + d ∧ RdAt w' R A n c zs q ∧ w.grownBy w' (some R)

/-- What pick leaves. -/
def Picked (w : World) (R : Nat) (A : Option Addr) (n c : Nat) (zs : List Int) (p : Nat) (N : Int) (e : Ending) (w' : World) : Prop :=
  ∃ x, e = .returned (.int .i64 x) ∧ 0 ≤ x ∧ (1 ≤ N → x < N) ∧ RdAt w' R A n c zs (p + 1) ∧ w.grownBy w' (some R)
set_option maxRecDepth 100000 in
theorem pick_any (R : Nat) (A : Option Addr) (n c : Nat) (zs : List Int) (p : Nat) (N : Int) (w : World) (h : RdAt w R A n c zs p) (hp : p ≤ 1000000) (hN : N ≤ 1000000) :
    Calls Try.prog 83 #[.pointer (some ⟨R, 0, none⟩), .int .i64 N] w fun e w' => Picked w R A n c zs p N e w' := by
  have c0 := h.cell0
  have c1 := h.cell1
  have f1 := h.frozen 1
  have HN := Lib.hid h.2.2.1
  have hn2 := h.2.2.2.1
  have hlt := h.lt
  have hnext := h.next (p + 1)
  have hnx : ∀ m, RdAt ((w.setCell ⟨R, 1, none⟩ (.int .i64 ((p : Int) + 1))).drewN m) R A n c zs (p + 1) ∧ w.grownBy ((w.setCell ⟨R, 1, none⟩ (.int .i64 ((p : Int) + 1))).drewN m) (some R) := fun m => by
    have e : ((p + 1 : Nat) : Int) = (p : Int) + 1 := by omega
    rw [e] at hnext
    exact ⟨hnext, ⟨rfl, rfl, rfl, by simp [World.setCell], fun k _ hk => by
      have : k ≠ R := fun e => hk (by rw [e])
      exact Below.heap_setCell _ _ _ _ this⟩⟩
  have HX := Lib.hid hnx
  clear hnx hnext
  by_cases hN1 : N < 1
  · go_enter Try.func83, Try.ntmps83
    go_wp2
    go_ret
    exact ⟨0, rfl, Int.le_refl _, fun h => absurd h (by omega), HX.out 0⟩
  by_cases hn0 : n = 0
  · subst hn0
    go_enter Try.func83, Try.ntmps83
    go_wp2
    go_ret
    exact ⟨0, rfl, Int.le_refl _, fun h => by omega, HX.out 0⟩
  have hn0' : ((n : Int) == 0) = false := by simp; omega
  have hN0' : (N == 0) = false := by simp; omega
  have byte : ∀ k, k < n → ∃ b o z, A = some ⟨b, o, none⟩ ∧ b < R ∧ 0 ≤ z ∧ z ≤ 255 ∧ w.cell? ⟨b, o + k, none⟩ = some (.int .u8 z) := fun k hk => by
    obtain ⟨b, o, z, hA, hz, _, hc⟩ := h.2.1.elem (k := k) (by rw [HN.out]; exact hk)
    have hzz := h.2.2.2.2.1 z (List.mem_of_getElem? hz)
    exact ⟨b, o, z, hA, h.2.2.2.2.2 b o (by rw [HN.out]; omega) hA, hzz.1, hzz.2, hc⟩
  by_cases hpn : p < n
  · obtain ⟨b, o, z, rfl, hb, z0, z1, hc⟩ := byte p hpn
    clear byte h
    have m0 : 0 ≤ z % N := Int.emod_nonneg _ (by omega)
    have m1 : z % N < N := Int.emod_lt_of_pos _ (by omega)
    go_enter Try.func83, Try.ntmps83
    go_wp2
    go_ret
    exact ⟨_, rfl, m0, fun _ => m1, HX.out 0⟩
  · have hm1 : p % n < n := Nat.mod_lt _ (by omega)
    have hm2 : (p * 7 + 3) % n < n := Nat.mod_lt _ (by omega)
    obtain ⟨b, o, z, rfl, hb, z0, z1, hc⟩ := byte (p % n) hm1
    obtain ⟨b', o', z', hA', _, z0', z1', hc'⟩ := byte ((p * 7 + 3) % n) hm2
    obtain ⟨rfl, rfl⟩ : b = b' ∧ o = o' := by simpa using hA'
    clear byte h hA'
    have i0 : 0 ≤ (p : Int) % (n : Int) := Int.emod_nonneg _ (by omega)
    have i1 : (p : Int) % (n : Int) < (n : Int) := Int.emod_lt_of_pos _ (by omega)
    have i2 : ((p : Int) % (n : Int)).toNat = p % n := by rw [← Int.natCast_emod, Int.toNat_natCast]
    have j0 : 0 ≤ ((p : Int) * 7 + 3) % (n : Int) := Int.emod_nonneg _ (by omega)
    have j1 : ((p : Int) * 7 + 3) % (n : Int) < (n : Int) := Int.emod_lt_of_pos _ (by omega)
    have j2 : (((p : Int) * 7 + 3) % (n : Int)).toNat = (p * 7 + 3) % n := by
      rw [show (p : Int) * 7 + 3 = ((p * 7 + 3 : Nat) : Int) by omega, ← Int.natCast_emod, Int.toNat_natCast]
    have q0 : 0 ≤ (p : Int) / (n : Int) := Int.ediv_nonneg (by omega) (by omega)
    have q1 : (p : Int) / (n : Int) ≤ p := Int.ediv_le_self _ (by omega)
    obtain ⟨X, hX⟩ : ∃ X, z * 131 + z' * 1117 + (p : Int) * 29 + (p : Int) / (n : Int) * 53 = X := ⟨_, rfl⟩
    have x0 : 0 ≤ X := by omega
    have x1 : X ≤ 100000000000 := by omega
    have y0 : 0 ≤ X / 64 := by omega
    obtain ⟨Y, hY, Y0, Y1⟩ := xor_nonneg (x := X) (y := X / 64) x0 (by omega) y0 (by omega)
    have m0 : 0 ≤ Y % N := Int.emod_nonneg _ (by omega)
    have m1 : Y % N < N := Int.emod_lt_of_pos _ (by omega)
    have M0 := Lib.hid m0
    have M1 := Lib.hid m1
    clear m0 m1
    go_enter Try.func83, Try.ntmps83
    go_wp2
    go_quiet (fail)
    go_wp2
    go_ret
    exact ⟨_, rfl, M0.out, fun _ => M1.out, HX.out _⟩
end Go.Proofs.Ytbnehcaallehbaa
