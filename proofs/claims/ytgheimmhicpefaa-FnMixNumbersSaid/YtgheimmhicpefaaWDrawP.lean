/- Laws on drawn pools: FnPoolValid, FnHostState, FnTotalWeight. -/
import Derived.Test.YtgheimmhicpefaaDrawK
import Derived.Test.YtgheimmhicpefaaTot
import Derived.Test.YtgheimmhicpefaaFlow
namespace Go.Proofs.Ytgheimmhicpefaa
open Go.RowKit

/-- An operation whose guard holds runs as one without. -/
theorem wpList_unguard {P : Program} {ops : Array Oper} {Q : Exit → Act → World → Prop} {o : Oper} {rest : List Oper} {a : Act} {w : World} (hw : Region.wanted o (yielded ops a.tmps) = true) (h : wpList P ops Q ({ o with guard := none } :: rest) a w) : wpList P ops Q (o :: rest) a w := by
  unfold wpList at h ⊢
  rw [if_pos hw]
  rw [if_pos (show Region.wanted { o with guard := none } (yielded ops a.tmps) = true from rfl)] at h
  exact h
theorem Ints.nilOf {w : World} {A : Option Addr} {zs : List Int} (h : zs = []) : Ints w A zs := by rw [h]; exact IntsK.nil
theorem ints_dropO {w : World} {g o : Nat} {zs : List Int} (h : Ints w (some ⟨g, o, none⟩) zs) (k : Nat) : Ints w (some ⟨g, o + k, none⟩) (zs.drop k) := by
  intro hn
  obtain ⟨b', o', hA, hc⟩ := h (by simp at hn; omega)
  obtain ⟨rfl, rfl⟩ : g = b' ∧ o = o' := by simpa using hA
  refine ⟨g, o + k, rfl, fun j hj => ?_⟩
  have hjk : k + j < zs.length := by simp at hj; omega
  rw [Nat.add_assoc, hc (k + j) hjk]
  simp [List.getD_eq_getElem?_getD, List.getElem?_drop]
theorem poolB_tail {x : Hst} {t : List Hst} (h : poolB (x :: t) = true) : poolB t = true := by
  rw [poolB_yes (hs := t) fun j hj => ?_]
  · have := pool_len h
    simp at this ⊢
    omega
  · have h1 := pool_step h (k := j + 1) (by simp; omega)
    cases j with
    | zero =>
      have hx : t[0]? = some t[0] := by simp [hj]
      rw [stepB_zero hx]
      exact stepB_host (hs := x :: t) (k := 1) (by simp [hj]) h1
    | succ j =>
      have hx : t[j + 1]? = some t[j + 1] := by simp [hj]
      have hy : t[j]? = some (t[j]'(by omega)) := by rw [List.getElem?_eq_getElem]
      rw [stepB_succ (by omega) (hs := t) (h := t[j + 1]) (g := t[j]'(by omega)) hx hy]
      rw [stepB_succ (by omega) (hs := x :: t) (h := t[j + 1]) (g := t[j]'(by omega)) hx hy] at h1
      exact h1
theorem poolB_twice (x : Hst) (t : List Hst) : poolB (x :: x :: t) = false := by
  refine poolB_no (k := 1) (by simp) ?_
  rw [stepB_succ (by omega) (h := x) (g := x) rfl rfl]
  simp

theorem stateZ_bd (hs : List Hst) (N : Int) : 0 ≤ stateZ hs N ∧ stateZ hs N ≤ 2 := by
  cases hP : poolB hs
  · rw [stateZ_no hP]; omega
  · unfold stateZ
    rw [if_pos hP]
    split
    · rename_i x hx
      have := hostB_bd (pool_mem hP (List.mem_of_find?_eq_some hx))
      omega
    · omega
theorem stateZ_nil (N : Int) : stateZ [] N = 0 := by simp [stateZ]
end Go.Proofs.Ytgheimmhicpefaa
