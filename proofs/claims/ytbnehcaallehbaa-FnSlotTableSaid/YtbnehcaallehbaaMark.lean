/- Marks written into rows of hosts, and read again. -/
import Derived.Test.YtbnehcaallehbaaHosts
import Derived.Test.YtbnehcaallehbaaInts
namespace Go.Proofs.Ytbnehcaallehbaa
set_option linter.unusedVariables false
set_option linter.unusedSimpArgs false
open Go.RowKit

theorem gb_row {a w : World} {g : Nat} (h : a.grownBy w (some g)) (j : Nat) (u : Value) : a.grownBy (w.setCell ⟨g, j, none⟩ u) (some g) :=
  ⟨h.os, h.tape, h.output, by simpa [World.setCell] using h.size, fun i hi hn => (Below.heap_setCell _ _ _ _ (fun e => hn (by rw [e]))).trans (h.block i hi hn)⟩
/-- A row that lies apart from the one that turned. -/
theorem Own.apart {E E' : TypeId} {size size' B B' n n' c c' : Nat} {w w' : World} {A A' : Option Addr} {zs zs' : List Int} (h : Own E size B w A n c zs) (h' : Own E' size' B' w A' n' c' zs') (hg : w.grownBy w' (Value.ownBlock (.slice A' n' c'))) (hne : ∀ g, A' = some ⟨g, 0, none⟩ → g < B) : Own E size B w' A n c zs := by
  refine World.ownsRow.kept h hg ?_
  cases hv : Value.ownBlock (.slice A n c) with
  | none => exact .inl rfl
  | some g =>
    refine .inr fun e => ?_
    have h1 := (World.ownsRow.lt h g hv).1
    rcases h'.2 with ⟨hz, _⟩ | ⟨g', cap, cur, hv', _⟩
    · rw [hz] at e
      simp [Value.ownBlock] at e
    · have hA' : A' = some ⟨g', 0, none⟩ := by simpa using congrArg (fun v => match v with | .slice A _ _ => A | _ => none) hv'
      have := hne g' hA'
      rw [hA'] at e
      simp [Value.ownBlock] at e
      omega
theorem Ints.apart {w w' : World} {A : Option Addr} {zs : List Int} (h : Ints w A zs) {row : Option Nat} (hg : w.grownBy w' row) (hne : ∀ b o, 0 < zs.length → A = some ⟨b, o, none⟩ → row ≠ some b) : Ints w' A zs := by
  intro hn
  obtain ⟨b, o, hA, hc⟩ := h hn
  exact ⟨b, o, hA, fun j hj => hg.cell (hc j hj) (fun e => hne b o hn hA e.symm)⟩
theorem IntsK.below_row {wb w w' : World} {A : Option Addr} {zs : List Int} (h : Ints w A zs) (hb : Ints wb A zs) {row : Option Nat} (hg : w.grownBy w' row) (hrow : ∀ k, row = some k → wb.heap.size ≤ k) : Ints w' A zs :=
  h.apart hg fun b o h0 hA e => by
    obtain ⟨b', o', hA', hlt, _⟩ := hb.at_ h0
    rw [hA] at hA'
    obtain ⟨rfl, rfl⟩ : b = b' ∧ o = o' := by simpa using hA'
    have := hrow b e
    omega
theorem IntsK.below_at {wb w w' : World} {A : Option Addr} {zs : List Int} {B : Nat} (h : Ints w A zs) (hb : Ints wb A zs) (d : Below B w w') (hB : wb.heap.size ≤ B) : Ints w' A zs := by
  intro hn
  obtain ⟨b, o, hA, hc⟩ := h hn
  obtain ⟨b', o', hA', hlt, _⟩ := hb.at_ hn
  rw [hA] at hA'
  obtain ⟨rfl, rfl⟩ : b = b' ∧ o = o' := by simpa using hA'
  exact ⟨b, o, hA, fun j hj => by rw [d.cell (show (⟨b, o + j, none⟩ : Addr).block < B by simp; omega)]; exact hc j hj⟩
theorem Own.blk_lt {E : TypeId} {size B n c g : Nat} {w : World} {zs : List Int} (h : Own E size B w (some ⟨g, 0, none⟩) n c zs) : g < w.heap.size ∧ B ≤ g := by
  have := World.ownsRow.lt h g rfl
  exact ⟨by omega, by omega⟩
theorem marks_set' {zs : List Int} {n i : Nat} (q : Int) (hn : zs.length = n) (hi : i < n) : (marks q i ++ zs.drop i).set i (q + i) = marks q (i + 1) ++ zs.drop (i + 1) := by
  rw [List.set_append_right _ _ (by rw [marks_len]; exact Nat.le_refl _), marks_len, Nat.sub_self, List.drop_eq_getElem_cons (by omega), List.set_cons_zero]
  simp [marks, List.range_succ]

set_option maxHeartbeats 1000000 in
theorem markHostS_any (A : Option Addr) (n c B : Nat) (zs : List Int) (q : Int) (w : World) (hm : n ≤ 16777216) (hq0 : 0 ≤ q) (hq1 : q ≤ 1048576) (h : Own 64 3 B w A n c zs) :
    Calls Try.prog 24 #[.slice A n c, .int .i64 q] w fun e w' => e = .returned (.int .i64 (q + 3 * n)) ∧ Own 64 3 B w' A n c (marks q (n * 3)) ∧ w.grownBy w' (Value.ownBlock (.slice A n c)) := by
  have hlen := h.len
  have HN := Lib.hid hlen
  clear hlen
  go_enter Try.func24, Try.ntmps24
  go_wp2
  go_loopw [1, 5] (fun k i wr => ∃ j : Nat, j ≤ n ∧ i = .int .i64 j ∧ k = .int .i64 (q + 3 * j) ∧ Own 64 3 B wr A n c (marks q (j * 3) ++ zs.drop (j * 3)) ∧ w.grownBy wr (Value.ownBlock (.slice A n c))) (fun _ i _ => n - (intOf i).toNat)
  case atStart => exact ⟨0, Nat.zero_le _, rfl, by simp, by simpa [marks] using h, World.grownBy.refl _ _⟩
  case round =>
    obtain ⟨j, hj, rfl, rfl, hown, hnew⟩ := hrel
    clear h
    by_cases hlt : j < n
    · have hll : j * 3 + 2 < (marks q (j * 3) ++ zs.drop (j * 3)).length := by have := HN.out; simp [marks_len]; omega
      obtain ⟨g, rfl, hBg, _, _, hcell, hfr⟩ := hown.at_ (by omega)
      have e0 := hcell (j * 3) (by omega)
      have e1 := hcell (j * 3 + 1) (by omega)
      have e2 := hcell (j * 3 + 2) (by omega)
      have f0 := hfr (j * 3)
      have f1 := hfr (j * 3 + 1)
      have f2 := hfr (j * 3 + 2)
      have HO := Lib.hid (((hown.set_ (j * 3) (q + 3 * j)).set_ (j * 3 + 1) (q + 3 * j + 1)).set_ (j * 3 + 2) (q + 3 * j + 1 + 1))
      have HS : Hid ((((marks q (j * 3) ++ zs.drop (j * 3)).set (j * 3) (q + 3 * j)).set (j * 3 + 1) (q + 3 * j + 1)).set (j * 3 + 2) (q + 3 * j + 1 + 1) = marks q ((j + 1) * 3) ++ zs.drop ((j + 1) * 3)) := Lib.hid (by
        have a0 := marks_set' (i := j * 3) q HN.out (by omega)
        have a1 := marks_set' (i := j * 3 + 1) q HN.out (by omega)
        have a2 := marks_set' (i := j * 3 + 1 + 1) q HN.out (by omega)
        rw [show q + ((j * 3 : Nat) : Int) = q + 3 * j by omega] at a0
        rw [show q + ((j * 3 + 1 : Nat) : Int) = q + 3 * j + 1 by omega] at a1
        rw [show q + ((j * 3 + 1 + 1 : Nat) : Int) = q + 3 * j + 1 + 1 by omega] at a2
        rw [a0, a1, show j * 3 + 2 = j * 3 + 1 + 1 from rfl, a2, show (j + 1) * 3 = j * 3 + 1 + 1 + 1 by omega])
      clear hcell hfr hown hll
      go_wp2
      go_roundw
      case rel =>
        refine ⟨j + 1, by omega, by go_num, by go_num, ?_, gb_row (gb_row (gb_row hnew _ _) _ _) _ _⟩
        have := HO.out
        rwa [HS.out] at this
      case measure => simp [intOf]; omega
    · obtain rfl : j = n := by omega
      go_wp2
      go_ret
      refine ⟨rfl, ?_, hnew⟩
      rwa [List.drop_of_length_le (by rw [HN.out]; exact Nat.le_refl _), List.append_nil] at hown
end Go.Proofs.Ytbnehcaallehbaa
