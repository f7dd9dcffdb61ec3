/- Draws of keys, of numbers to mix, of a number of a host. -/
import Derived.Test.YtbnehcaallehbaaDrawR
namespace Go.Proofs.Ytbnehcaallehbaa
set_option linter.unusedVariables false
set_option linter.unusedSimpArgs false
open Go.RowKit

theorem Own.some_ {E : TypeId} {size B n c : Nat} {w : World} {A : Option Addr} {zs : List Int} (h : Own E size B w A n c zs) (hn : 0 < n) : ∃ g, A = some ⟨g, 0, none⟩ := by
  rcases h.2 with ⟨_, h0⟩ | ⟨g, cap, cur, hv, _⟩
  · omega
  · exact ⟨g, by simpa using (congrArg (fun v => match v with | .slice A _ _ => A | _ => none) hv)⟩
/-- A drawn number. -/
def IntDrawn (lo hi : Int) (w : World) (e : Ending) (w' : World) : Prop := ∃ z : Int, e = .returned (.int .i64 z) ∧ lo ≤ z ∧ z ≤ hi ∧ New w w'
set_option maxRecDepth 100000 in
theorem l20Key_any (R : Nat) (A : Option Addr) (n c : Nat) (zs : List Int) (p : Nat) (N : Int) (w : World) (h : RdAt w R A n c zs p) (hp : p ≤ 900000) (hN0 : 0 ≤ N) (hN : N ≤ 1000000) :
    Calls Try.prog 74 #[.pointer (some ⟨R, 0, none⟩), .int .i64 N] w (ReadRet 4 w R A n c zs p (pInt (-1) 1000003)) := by
  go_enter Try.func74, Try.ntmps74
  go_wp2_with fail
  refine (odd_any R A n c zs p N _ h (by omega) hN0 hN).mono ?_
  rintro e w1 ⟨v, q, rfl, ⟨b, rfl⟩, hq1, hq2, h1, g1⟩
  have hlt1 := h1.lt
  cases b
  · go_wp2_with fail
    refine (pick_any R A n c zs q 256 _ h1 (by omega) (by omega)).mono ?_
    rintro e w2 ⟨x, rfl, x0, x1, h2, g2⟩
    have x2 := x1 (by omega)
    go_wp2_with fail
    refine (pick_any R A n c zs (q + 1) 256 _ h2 (by omega) (by omega)).mono ?_
    rintro e w3 ⟨y, rfl, y0, y1, h3, g3⟩
    have y2 := y1 (by omega)
    have hlt3 := h3.lt
    go_wp2_with fail
    have bL := ((New.refl w3).alloc (.cells #[.int .i64 (x * 3900), .int .i64 y, .int .i64 1000002] 3)).alloc (.cells #[.int .i64 0, .int .i64 0, .int .i64 0, .int .i64 1, .int .i64 2] 3)
    refine (pick_any R A n c zs (q + 1 + 1) 5 _ (h3.new bL) (by omega) (by omega)).mono ?_
    rintro e w4 ⟨t, rfl, t0, t1, h4, g4⟩
    have t2 := t1 (by omega)
    have a1 := heap_alloc_new w3 (.cells #[.int .i64 (x * 3900), .int .i64 y, .int .i64 1000002] 3)
    have r1 := blk_gb (blk_new a1 ((New.refl _).alloc (.cells #[.int .i64 0, .int .i64 0, .int .i64 0, .int .i64 1, .int .i64 2] 3))) g4 (by omega)
    have a2 := heap_alloc_new (w3.alloc (.cells #[.int .i64 (x * 3900), .int .i64 y, .int .i64 1000002] 3)) (.cells #[.int .i64 0, .int .i64 0, .int .i64 0, .int .i64 1, .int .i64 2] 3)
    simp only [World.size_alloc] at a2
    have r2 := blk_gb a2 g4 (by omega)
    have c0 : w4.cell? ⟨w3.heap.size, 0, none⟩ = some (.int .i64 (x * 3900)) := by rw [cell_of_row _ _ _ _ _ _ r1]; rfl
    have c1 : w4.cell? ⟨w3.heap.size, 1, none⟩ = some (.int .i64 y) := by rw [cell_of_row _ _ _ _ _ _ r1]; rfl
    have c2 : w4.cell? ⟨w3.heap.size, 2, none⟩ = some (.int .i64 1000002) := by rw [cell_of_row _ _ _ _ _ _ r1]; rfl
    have d0 : w4.cell? ⟨w3.heap.size + 1, 0, none⟩ = some (.int .i64 0) := by rw [cell_of_row _ _ _ _ _ _ r2]; rfl
    have d1 : w4.cell? ⟨w3.heap.size + 1, 1, none⟩ = some (.int .i64 0) := by rw [cell_of_row _ _ _ _ _ _ r2]; rfl
    have d2 : w4.cell? ⟨w3.heap.size + 1, 2, none⟩ = some (.int .i64 0) := by rw [cell_of_row _ _ _ _ _ _ r2]; rfl
    have d3 : w4.cell? ⟨w3.heap.size + 1, 3, none⟩ = some (.int .i64 1) := by rw [cell_of_row _ _ _ _ _ _ r2]; rfl
    have d4 : w4.cell? ⟨w3.heap.size + 1, 4, none⟩ = some (.int .i64 2) := by rw [cell_of_row _ _ _ _ _ _ r2]; rfl
    have G := gb_trans (gb_new (gb_trans (gb_trans g1 g2) g3) bL) g4
    clear r1 r2 a1 a2 bL g1 g2 g3 g4 h1 h2 h3
    rcases (show t = 0 ∨ t = 1 ∨ t = 2 ∨ t = 3 ∨ t = 4 by omega) with rfl | rfl | rfl | rfl | rfl
    all_goals
      go_wp2_with fail
      go_ret
      exact ⟨_, q + 1 + 1 + 1, rfl, ⟨_, rfl, by omega, by omega⟩, by omega, by omega, h4, G⟩
  · go_wp2_with fail
    have bL := (New.refl w1).alloc (.cells #[.int .i64 (-1), .int .i64 1000003] 3)
    refine (pick_any R A n c zs q 2 _ (h1.new bL) (by omega) (by omega)).mono ?_
    rintro e w2 ⟨y, rfl, y0, y1, h2, g2⟩
    have y2 := y1 (by omega)
    have r1 := blk_gb (heap_alloc_new w1 (.cells #[.int .i64 (-1), .int .i64 1000003] 3)) g2 (by omega)
    have c0 : w2.cell? ⟨w1.heap.size, 0, none⟩ = some (.int .i64 (-1)) := by rw [cell_of_row _ _ _ _ _ _ r1]; rfl
    have c1 : w2.cell? ⟨w1.heap.size, 1, none⟩ = some (.int .i64 1000003) := by rw [cell_of_row _ _ _ _ _ _ r1]; rfl
    have G := gb_trans (gb_new g1 bL) g2
    clear r1 bL g1 g2 h1
    rcases (show y = 0 ∨ y = 1 by omega) with rfl | rfl
    all_goals
      go_wp2_with fail
      go_ret
      exact ⟨_, q + 1, rfl, ⟨_, rfl, by omega, by omega⟩, by omega, by omega, h2, G⟩
end Go.Proofs.Ytbnehcaallehbaa
