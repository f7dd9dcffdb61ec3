/- Laws on drawn pools: FnTotalWeight, FnHostsUp, FnSetState. -/
import Derived.Test.YtdcobkngbpkdfaaDrawS
import Derived.Test.YtdcobkngbpkdfaaPlain
import Derived.Test.YtdcobkngbpkdfaaFlow
import Derived.Test.YtdcobkngbpkdfaaQb
import Derived.Test.YtdcobkngbpkdfaaInts
namespace Go.Proofs.Ytdcobkngbpkdfaa
set_option linter.unusedVariables false
set_option linter.unusedSimpArgs false
open Go.RowKit Go.Sort

theorem flat_take : ∀ (hs : List Hst) (k : Nat), (flat hs).take (k * 3) = flat (hs.take k)
  | _, 0 => by simp [flat]
  | [], k + 1 => by simp [flat]
  | h :: t, k + 1 => by rw [show (k + 1) * 3 = k * 3 + 1 + 1 + 1 from by omega]; simp [flat, flat_take t k]
theorem flat_drop : ∀ (hs : List Hst) (k : Nat), (flat hs).drop (k * 3) = flat (hs.drop k)
  | _, 0 => by simp
  | [], k + 1 => by simp [flat]
  | h :: t, k + 1 => by rw [show (k + 1) * 3 = k * 3 + 1 + 1 + 1 from by omega]; simp [flat, flat_drop t k]
theorem ints_take {w : World} {A : Option Addr} {zs : List Int} (h : Ints w A zs) (k : Nat) : Ints w A (zs.take k) := by
  intro hn
  obtain ⟨b, o, hA, hc⟩ := h (by simp at hn; omega)
  refine ⟨b, o, hA, fun j hj => ?_⟩
  have hjk : j < k ∧ j < zs.length := by simp at hj; omega
  rw [hc j hjk.2]
  simp [List.getD_eq_getElem?_getD, List.getElem?_take, hjk.1]
theorem ints_drop0 {w : World} {g o : Nat} {zs : List Int} (h : Ints w (some ⟨g, o, none⟩) zs) (k : Nat) : Ints w (some ⟨g, o + k, none⟩) (zs.drop k) := by
  intro hn
  obtain ⟨b', o', hA, hc⟩ := h (by simp at hn; omega)
  obtain ⟨rfl, rfl⟩ : g = b' ∧ o = o' := by simpa using hA
  refine ⟨g, o + k, rfl, fun j hj => ?_⟩
  have hjk : k + j < zs.length := by simp at hj; omega
  rw [Nat.add_assoc, hc (k + j) hjk]
  simp [List.getD_eq_getElem?_getD, List.getElem?_drop]
theorem poolB_nil : poolB [] = true := rfl
theorem totZ_nil : totZ [] = 0 := rfl
theorem hosts_take {w : World} {A : Option Addr} {hs : List Hst} (h : Ints w A (flat hs)) (k : Nat) : Ints w A (flat (hs.take k)) := by
  rw [← flat_take]; exact ints_take h _
theorem hosts_drop {w : World} {g : Nat} {hs : List Hst} (h : Ints w (some ⟨g, 0, none⟩) (flat hs)) (k : Nat) : Ints w (some ⟨g, k * 3, none⟩) (flat (hs.drop k)) := by
  rw [← flat_drop]; simpa using ints_drop0 h (k * 3)
end Go.Proofs.Ytdcobkngbpkdfaa
