/- Marks written into rows of hosts, and read again. -/
import Derived.Test.YtecimocclmjpdaaHosts
import Derived.Test.YtecimocclmjpdaaInts
namespace Go.Proofs.Ytecimocclmjpdaa
open Go.RowKit

theorem gb_row {a w : World} {g : Nat} (h : a.grownBy w (some g)) (j : Nat) (u : Value) : a.grownBy (w.setCell ⟨g, j, none⟩ u) (some g) :=
  ⟨h.os, h.tape, h.output, by simpa [World.setCell] using h.size, fun i hi hn => (Below.heap_setCell _ _ _ _ (fun e => hn (by rw [e]))).trans (h.block i hi hn)⟩
/-- A row that lies apart from the one that turned. -/
theorem Own.apart {E E' : TypeId} {size size' B B' n n' c c' : Nat} {w w' : World} {A A' : Option Addr} {zs zs' : List Int} (h : Own E size B w A n c zs) (h' : Own E' size' B' w A' n' c' zs') (hg : w.grownBy w' (Value.ownBlock (.slice A' n' c'))) (hne : ∀ g, A' = some ⟨g, 0, none⟩ → g < B) : Own E size B w' A n c zs := by
  refine World.ownsRow.kept h hg ?_
  cases hv : Value.ownBlock (.slice A n c) with
  | none => exact .inl rfl
  | some g =>
    refine .inr fun e => ?_
    have h1 := (World.ownsRow.lt h g hv).1
    rcases h'.2 with ⟨hz, _⟩ | ⟨g', cap, cur, hv', _⟩
    · rw [hz] at e
      simp [Value.ownBlock] at e
    · have hA' : A' = some ⟨g', 0, none⟩ := by simpa using congrArg (fun v => match v with | .slice A _ _ => A | _ => none) hv'
      have := hne g' hA'
      rw [hA'] at e
      simp [Value.ownBlock] at e
      omega
theorem Ints.apart {w w' : World} {A : Option Addr} {zs : List Int} (h : Ints w A zs) {row : Option Nat} (hg : w.grownBy w' row) (hne : ∀ b o, 0 < zs.length → A = some ⟨b, o, none⟩ → row ≠ some b) : Ints w' A zs := by
  intro hn
  obtain ⟨b, o, hA, hc⟩ := h hn
  exact ⟨b, o, hA, fun j hj => hg.cell (hc j hj) (fun e => hne b o hn hA e.symm)⟩
theorem IntsK.below_row {wb w w' : World} {A : Option Addr} {zs : List Int} (h : Ints w A zs) (hb : Ints wb A zs) {row : Option Nat} (hg : w.grownBy w' row) (hrow : ∀ k, row = some k → wb.heap.size ≤ k) : Ints w' A zs :=
  h.apart hg fun b o h0 hA e => by
    obtain ⟨b', o', hA', hlt, _⟩ := hb.at_ h0
    rw [hA] at hA'
    obtain ⟨rfl, rfl⟩ : b = b' ∧ o = o' := by simpa using hA'
    have := hrow b e
    omega
theorem IntsK.below_at {wb w w' : World} {A : Option Addr} {zs : List Int} {B : Nat} (h : Ints w A zs) (hb : Ints wb A zs) (d : Below B w w') (hB : wb.heap.size ≤ B) : Ints w' A zs := by
  intro hn
  obtain ⟨b, o, hA, hc⟩ := h hn
  obtain ⟨b', o', hA', hlt, _⟩ := hb.at_ hn
  rw [hA] at hA'
  obtain ⟨rfl, rfl⟩ : b = b' ∧ o = o' := by simpa using hA'
  exact ⟨b, o, hA, fun j hj => by rw [d.cell (show (⟨b, o + j, none⟩ : Addr).block < B by simp; omega)]; exact hc j hj⟩
theorem Own.blk_lt {E : TypeId} {size B n c g : Nat} {w : World} {zs : List Int} (h : Own E size B w (some ⟨g, 0, none⟩) n c zs) : g < w.heap.size ∧ B ≤ g := by
  have := World.ownsRow.lt h g rfl
  exact ⟨by omega, by omega⟩
theorem marks_set' {zs : List Int} {n i : Nat} (q : Int) (hn : zs.length = n) (hi : i < n) : (marks q i ++ zs.drop i).set i (q + i) = marks q (i + 1) ++ zs.drop (i + 1) := by
  rw [List.set_append_right _ _ (by rw [marks_len]; exact Nat.le_refl _), marks_len, Nat.sub_self, List.drop_eq_getElem_cons (by omega), List.set_cons_zero]
  simp [marks, List.range_succ]

end Go.Proofs.Ytecimocclmjpdaa
