/- Rows of numbers and of rows, for the tables of slots. -/
import Derived.Test.YtbnehcaallehbaaSlotP
import Derived.Test.YtbnehcaallehbaaTurnsS
import Derived.Test.YtbnehcaallehbaaQb
namespace Go.Proofs.Ytbnehcaallehbaa
set_option linter.unusedVariables false
set_option linter.unusedSimpArgs false
open Go.RowKit Go.Sort

theorem row_info : (Try.prog.info? 51).map (fun i => (i.zero, i.size, i.bytes)) = some (some (.slice none 0 0), 1, 24) := by kernel_rfl
theorem row_ne_int : (3 : TypeId) ≠ 51 := by decide
theorem host_ne_row : (64 : TypeId) ≠ 51 := by decide
/-- Rows of different elements do not meet. -/
theorem rowKept {E E' : TypeId} {size size' B B' n n' : Nat} {w w' : World} {v v' : Value} {xs xs' : List Value} (hE : E ≠ E') (h : w.ownsRow B E size v n xs) (h' : w.ownsRow B' E' size' v' n' xs') (hg : w.grownBy w' v'.ownBlock) : w'.ownsRow B E size v n xs := by
  refine World.ownsRow.kept h hg ?_
  rcases h.2 with ⟨hv, h0⟩ | ⟨g, cap, cur, hv, hg1, hh, _⟩
  · left
    rw [hv]; rfl
  · right
    rw [hv]
    rcases h'.2 with ⟨hv', _⟩ | ⟨g', cap', cur', hv', hg', hh', _⟩
    · rw [hv']
      simp [Value.ownBlock]
    · rw [hv']
      intro e
      have e : g = g' := by simpa [Value.ownBlock] using e
      subst e
      rw [hh] at hh'
      injection hh' with hh'
      injection hh' with _ ht
      exact hE ht
theorem rowNewV {E : TypeId} {size B n : Nat} {w w' : World} {v : Value} {xs : List Value} (h : w.ownsRow B E size v n xs) (hb : New w w') : w'.ownsRow B E size v n xs :=
  World.ownsRow.kept (row := none) h ⟨hb.os, hb.tape, hb.output, hb.size, fun k hk _ => hb.block k hk⟩ (by cases hv : v.ownBlock <;> simp)
theorem Own.setNe {E : TypeId} {size B n c g b : Nat} {w : World} {zs : List Int} (h : Own E size B w (some ⟨g, 0, none⟩) n c zs) (hb : b ≠ g) (j : Nat) (u : Value) : Own E size B (w.setCell ⟨b, j, none⟩ u) (some ⟨g, 0, none⟩) n c zs := by
  obtain ⟨hl, ho⟩ := h
  refine ⟨hl, ?_⟩
  rcases ho with h0 | ⟨g', cap, cur, hv, hg, hh, hr⟩
  · exact .inl h0
  · obtain rfl : g = g' := by
      injection hv with h1
      injection h1 with h1
      injection h1
    exact .inr ⟨g, cap, cur, hv, hg, (Below.heap_setCell _ _ _ _ (fun e => hb e.symm)).trans hh, hr⟩
theorem Own.frz {E : TypeId} {size B n c g : Nat} {w : World} {zs : List Int} (h : Own E size B w (some ⟨g, 0, none⟩) n c zs) (j : Nat) : w.frozen? ⟨g, j, none⟩ = false := by
  rcases h.2 with ⟨h0, _⟩ | ⟨g', cap, cur, hv, hg, hh, hr⟩
  · injection h0 with h0
    cases h0
  · obtain rfl : g = g' := by
      injection hv with h1
      injection h1 with h1
      injection h1
    exact frozen_of_row _ _ _ _ _ hh
theorem Own.capS {E : TypeId} {size B n c : Nat} {w : World} {A : Option Addr} {zs : List Int} (h : Own E size B w A n c zs) : n ≤ c := by
  rcases h.2 with ⟨hv, h0⟩ | ⟨g, cap, cur, hv, _, _, hnc, _⟩
  · omega
  · injection hv with _ _ h3
    omega
theorem Own.blkS {E : TypeId} {size B n c g : Nat} {w : World} {zs : List Int} (h : Own E size B w (some ⟨g, 0, none⟩) n c zs) : B ≤ g ∧ g < w.heap.size := World.ownsRow.lt h g rfl
theorem Own.cellS {B n c g j : Nat} {w : World} {zs : List Int} {z : Int} (h : Own 3 1 B w (some ⟨g, 0, none⟩) n c zs) (hj : j < n) (hz : zs.getD j 0 = z) : w.cell? ⟨g, j, none⟩ = some (.int .i64 z) := by
  have hl := h.len
  obtain ⟨b, o, hA, hc⟩ := h.ints (by omega)
  obtain ⟨rfl, rfl⟩ : g = b ∧ 0 = o := by simpa using hA
  have := hc j (by omega)
  rwa [Nat.zero_add, hz] at this
theorem ordTo_at {N : Int} {j n : Nat} (hj : j < n) : (ordTo N n).getD j 0 = (ordN N j : Int) := by
  have := (ordAt_bd N j).1
  unfold ordTo ordN
  rw [List.getD_eq_getElem?_getD, List.getElem?_map, List.getElem?_range hj]
  simp
  omega
/-- The orders of the first k hosts, in rows of their own. -/
def OrdsAt (B : Nat) (us : List Hst) (os : List Value) (k : Nat) (w : World) : Prop := ∀ (j : Nat) (x : Hst), j < k → us[j]? = some x → ∃ g cc, os[j]? = some (.slice (some ⟨g, 0, none⟩) 31 cc) ∧ 31 ≤ cc ∧ Own 3 1 B w (some ⟨g, 0, none⟩) 31 cc (ordTo x.num 31)
theorem OrdsAt.new {B k : Nat} {us : List Hst} {os : List Value} {w w' : World} (h : OrdsAt B us os k w) (hb : New w w') : OrdsAt B us os k w' := fun j x hj hx => by
  obtain ⟨g, cc, h1, h2, h3⟩ := h j x hj hx
  exact ⟨g, cc, h1, h2, h3.new hb⟩
theorem okN_of {hs : List Hst} (hP : poolB hs = true) {x : Hst} (hx : x ∈ ups hs) : okN x.num := inB_true.2 (hostB_bd (pool_mem hP (ups_mem hx))).1
end Go.Proofs.Ytbnehcaallehbaa
