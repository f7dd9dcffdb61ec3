/- Draws of flows. -/
import Derived.Test.YtgheimmhicpefaaDraw
namespace Go.Proofs.Ytgheimmhicpefaa
set_option linter.unusedVariables false
set_option linter.unusedSimpArgs false
open Go.RowKit

theorem DrawTurnFlow_any (A : Option Addr) (n c : Nat) (zs : List Int) (w : World) (h : CodeArg w A n c zs) : Calls Try.prog 11 #[.slice A n c] w (DrawRet w (pAgg5 (-1) 1000)) := by
  go_enter Try.func11, Try.ntmps11
  go_wp2_with fail
  have b0 := (New.refl w).alloc (.cells #[.int .i64 0, .int .i64 0, .int .i64 0, .int .i64 0, .int .i64 0] 24)
  have hres : (w.alloc (.cells #[.int .i64 0, .int .i64 0, .int .i64 0, .int .i64 0, .int .i64 0] 24)).heap[w.heap.size]? = some (.cells #[.int .i64 0, .int .i64 0, .int .i64 0, .int .i64 0, .int .i64 0] 24 (0, 0)) := heap_alloc_new _ _
  refine (open_code (h.new b0)).mono ?_
  rintro e w1 ⟨rfl, h1, b1⟩
  simp only [World.size_alloc] at h1 ⊢
  go_wp2_with fail
  refine (l20Flow_any _ A _ c _ 0 6 _ h1 (by omega) (by omega) (by omega)).mono ?_
  rintro e w2 ⟨v, q, rfl, ⟨x0, x1, x2, x3, x4, rfl, hx⟩, _, _, _, g2⟩
  have hs := World.size_alloc (w := w) (o := .cells #[.int .i64 0, .int .i64 0, .int .i64 0, .int .i64 0, .int .i64 0] 24)
  have r2 := blk_gb (blk_new hres b1) g2 (by omega)
  obtain ⟨C0, C1, C2, C3, C4, Z0, Z1, Z2, Z3, Z4⟩ := cells5 r2
  have hN : New w w2 := new_gb (b0.trans b1) g2 (by omega)
  have HX := Lib.hid hx
  clear hx hs h1 b1 g2 hres r2
  go_wp2_with fail
  refine bodyPost_ret (v := .agg #[.int .i64 x0, .int .i64 x1, .int .i64 x2, .int .i64 x3, .int .i64 x4]) ?_ rfl ?_
  · simp [results, Try.results11, go_sem, *, ↓IntWalk.iteOmega]
  · exact ⟨_, rfl, ⟨x0, x1, x2, x3, x4, rfl, HX.out⟩, (by repeat (first | with_reducible assumption | with_reducible exact New.refl _ | with_reducible refine New.alloc ?_ _ | with_reducible refine New.drew ?_ | with_reducible refine New.drewN ?_ _ | refine New.setCell ?_ (by first | (simp; done) | omega | (simp; omega)) _ | with_reducible refine New.trans ?_ (by with_reducible assumption)))⟩
end Go.Proofs.Ytgheimmhicpefaa
