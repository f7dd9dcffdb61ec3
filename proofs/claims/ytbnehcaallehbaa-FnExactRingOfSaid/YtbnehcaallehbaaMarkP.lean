/- Marks in rows of points. -/
import Derived.Test.YtbnehcaallehbaaMark
import Derived.Test.YtbnehcaallehbaaPoint
namespace Go.Proofs.Ytbnehcaallehbaa
set_option linter.unusedVariables false
set_option linter.unusedSimpArgs false
open Go.RowKit

set_option maxHeartbeats 1000000 in
theorem markPointS_any (A : Option Addr) (n c B : Nat) (zs : List Int) (q : Int) (w : World) (hm : n ≤ 16777216) (hq0 : 0 ≤ q) (hq1 : q ≤ 1048576) (h : Own 28 2 B w A n c zs) :
    Calls Try.prog 25 #[.slice A n c, .int .i64 q] w fun e w' => e = .returned (.int .i64 (q + 2 * n)) ∧ Own 28 2 B w' A n c (marks q (n * 2)) ∧ w.grownBy w' (Value.ownBlock (.slice A n c)) := by
  have hlen := h.len
  have HN := Lib.hid hlen
  clear hlen
  go_enter Try.func25, Try.ntmps25
  go_wp2
  go_loopw [1, 5] (fun k i wr => ∃ j : Nat, j ≤ n ∧ i = .int .i64 j ∧ k = .int .i64 (q + 2 * j) ∧ Own 28 2 B wr A n c (marks q (j * 2) ++ zs.drop (j * 2)) ∧ w.grownBy wr (Value.ownBlock (.slice A n c))) (fun _ i _ => n - (intOf i).toNat)
  case atStart => exact ⟨0, Nat.zero_le _, rfl, by simp, by simpa [marks] using h, World.grownBy.refl _ _⟩
  case round =>
    obtain ⟨j, hj, rfl, rfl, hown, hnew⟩ := hrel
    clear h
    by_cases hlt : j < n
    · have hll : j * 2 + 1 < (marks q (j * 2) ++ zs.drop (j * 2)).length := by have := HN.out; simp [marks_len]; omega
      obtain ⟨g, rfl, hBg, _, _, hcell, hfr⟩ := hown.at_ (by omega)
      have e0 := hcell (j * 2) (by omega)
      have e1 := hcell (j * 2 + 1) (by omega)
      have f0 := hfr (j * 2)
      have f1 := hfr (j * 2 + 1)
      have HO := Lib.hid ((hown.set_ (j * 2) (q + 2 * j)).set_ (j * 2 + 1) (q + 2 * j + 1))
      have HS : Hid (((marks q (j * 2) ++ zs.drop (j * 2)).set (j * 2) (q + 2 * j)).set (j * 2 + 1) (q + 2 * j + 1) = marks q ((j + 1) * 2) ++ zs.drop ((j + 1) * 2)) := Lib.hid (by
        have a0 := marks_set' (i := j * 2) q HN.out (by omega)
        have a1 := marks_set' (i := j * 2 + 1) q HN.out (by omega)
        rw [show q + ((j * 2 : Nat) : Int) = q + 2 * j by omega] at a0
        rw [show q + ((j * 2 + 1 : Nat) : Int) = q + 2 * j + 1 by omega] at a1
        rw [a0, a1, show (j + 1) * 2 = j * 2 + 1 + 1 by omega])
      clear hcell hfr hown hll
      go_wp2
      go_roundw
      case rel =>
        refine ⟨j + 1, by omega, by go_num, by go_num, ?_, gb_row (gb_row hnew _ _) _ _⟩
        have := HO.out
        rwa [HS.out] at this
      case measure => simp [intOf]; omega
    · obtain rfl : j = n := by omega
      go_wp2
      go_ret
      refine ⟨rfl, ?_, hnew⟩
      rwa [List.drop_of_length_le (by rw [HN.out]; exact Nat.le_refl _), List.append_nil] at hown
theorem heldPointS_any (A : Option Addr) (n c : Nat) (q : Int) (w : World) (hm : n ≤ 16777216) (hq0 : 0 ≤ q) (hq1 : q ≤ 1048576) (h : Ints w A (marks q (n * 2))) :
    Calls Try.prog 26 #[.slice A n c, .int .i64 q] w fun e w' => e = .returned (.int .i64 (q + 2 * n)) ∧ w = w' := by
  go_enter Try.func26, Try.ntmps26
  go_wp2
  go_loop [1, 5] (fun k i => ∃ j : Nat, j ≤ n ∧ i = .int .i64 j ∧ k = .int .i64 (q + 2 * j)) (fun _ i => n - (intOf i).toNat)
  case atStart => exact ⟨0, Nat.zero_le _, rfl, by simp⟩
  case round =>
    obtain ⟨j, hj, rfl, rfl⟩ := hrel
    by_cases hlt : j < n
    · obtain ⟨b, o, hA, hc⟩ := h (by rw [marks_len]; omega)
      subst hA
      have g0 := hc (j * 2) (by rw [marks_len]; omega)
      have g1 := hc (j * 2 + 1) (by rw [marks_len]; omega)
      rw [List.getD_eq_getElem?_getD, marks_at q (by omega), Option.getD_some] at g0 g1
      rw [show q + ((j * 2 : Nat) : Int) = q + 2 * j by omega] at g0
      rw [show q + ((j * 2 + 1 : Nat) : Int) = q + 2 * j + 1 by omega, ← Nat.add_assoc] at g1
      have HH := Lib.hid h
      clear hc h
      go_wp2
      go_round
      case rel => exact ⟨j + 1, by omega, by go_num, by go_num⟩
      case measure => simp [intOf]; omega
    · obtain rfl : j = n := by omega
      go_wp2
      go_ret
      exact ⟨rfl, rfl⟩
end Go.Proofs.Ytbnehcaallehbaa
