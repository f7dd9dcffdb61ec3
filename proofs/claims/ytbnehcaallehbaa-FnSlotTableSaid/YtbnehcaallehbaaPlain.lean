/- Plain laws on pools: parts of a pool, states that are set, the numbers of the hosts that are up. -/
import Derived.Test.YtbnehcaallehbaaUpN
import Derived.Test.YtbnehcaallehbaaSetS
namespace Go.Proofs.Ytbnehcaallehbaa
set_option linter.unusedVariables false
set_option linter.unusedSimpArgs false
open Go.RowKit

theorem poolB_iff {hs : List Hst} : poolB hs = true ↔ (∀ x ∈ hs, hostB x = true) ∧ hs.Pairwise (fun a b => a.num < b.num) ∧ hs.length ≤ 6 := by
  constructor
  · intro h
    refine ⟨fun x hx => pool_mem h hx, ?_, pool_len h⟩
    rw [List.pairwise_iff_getElem]
    intro i j hi hj hij
    have hx : hs[i]? = some hs[i] := by simp
    have hy : hs[j]? = some hs[j] := by simp
    exact pool_lt h (j - i - 1) hx (by rw [show i + (j - i - 1) + 1 = j from by omega]; exact hy)
  · rintro ⟨h1, h2, h3⟩
    rw [poolB_yes (fun j hj => ?_)]
    · simpa using h3
    · have hx : hs[j]? = some hs[j] := by simp [hj]
      cases j with
      | zero => rw [stepB_zero hx]; exact h1 _ (List.getElem_mem hj)
      | succ j =>
        have hy : hs[j + 1 - 1]? = some (hs[j]'(by omega)) := by simp
        rw [stepB_succ (by omega) hx hy, h1 _ (List.getElem_mem hj)]
        rw [List.pairwise_iff_getElem] at h2
        have := h2 j (j + 1) (by omega) hj (by omega)
        simpa using this
theorem poolB_sub {hs ts : List Hst} (h : poolB hs = true) (s : ts.Sublist hs) : poolB ts = true := by
  rw [poolB_iff] at h ⊢
  exact ⟨fun x hx => h.1 x (s.subset hx), h.2.1.sublist s, Nat.le_trans s.length_le h.2.2⟩
theorem ups_append (a b : List Hst) : ups (a ++ b) = ups a ++ ups b := by simp [ups, List.filter_append]
theorem ups_sub (hs : List Hst) : (ups hs).Sublist hs := List.filter_sublist
theorem totZ_split {hs : List Hst} (h : poolB hs = true) (k : Nat) : totZ (hs.take k) + totZ (hs.drop k) = totZ hs := by
  rw [totZ_yes h, totZ_yes (poolB_sub h (List.take_sublist k hs)), totZ_yes (poolB_sub h (List.drop_sublist k hs)), ← sumW_append, ← ups_append, List.take_append_drop]
theorem upNums_le_totZ {hs : List Hst} (h : poolB hs = true) : ((upNums hs).length : Int) ≤ totZ hs := by
  rw [totZ_yes h, upNums_yes h, numsOf_len]
  exact (sumW_bd (l := ups hs) fun x hx => wt_bd h x (ups_mem hx)).1
theorem stateZ_mem {hs : List Hst} (h : poolB hs = true) {i : Nat} {x : Hst} (hx : hs[i]? = some x) : stateZ hs x.num = x.st := by
  rcases idx_cases hs x.num with ⟨k, y, hy, hN, hno, _⟩ | ⟨hno, _⟩
  · obtain rfl := pool_inj h hx hy hN.symm
    rw [hx] at hy
    obtain rfl := Option.some.inj hy
    exact stateZ_hit h hx rfl hno
  · exact absurd rfl (hno i (List.getElem?_eq_some_iff.1 hx).1 x hx)
theorem stateZ_in {hs : List Hst} (h : poolB hs = true) {x : Hst} (hx : x ∈ hs) : stateZ hs x.num = x.st := by
  obtain ⟨i, hi, rfl⟩ := List.getElem_of_mem hx
  exact stateZ_mem h (i := i) (by simp)
theorem ups_st {hs : List Hst} {x : Hst} (h : x ∈ ups hs) : x.st = 1 := by simpa using (List.mem_filter.1 h).2
/-- A number that HostsUp tells is that of a host that is up. -/
theorem upNums_state {hs : List Hst} {k : Nat} {z : Int} (hz : (upNums hs)[k]? = some z) : stateZ hs z = 1 := by
  cases h : poolB hs
  · rw [upNums_no h] at hz; simp at hz
  · rw [upNums_yes h] at hz
    unfold numsOf at hz
    rw [List.getElem?_map] at hz
    rcases hx : (ups hs)[k]? with _ | x
    · rw [hx] at hz; simp at hz
    · rw [hx] at hz
      obtain rfl : x.num = z := by simpa using hz
      have hm := List.mem_of_getElem? hx
      rw [stateZ_in h (ups_mem hm), ups_st hm]
theorem upNums_asc {hs : List Hst} {k : Nat} {y z : Int} (hk : 0 < k) (hy : (upNums hs)[k - 1]? = some y) (hz : (upNums hs)[k]? = some z) : y < z := by
  cases h : poolB hs
  · rw [upNums_no h] at hz; simp at hz
  · rw [upNums_yes h] at hy hz
    unfold numsOf at hy hz
    rw [List.getElem?_map] at hy hz
    rcases hx : (ups hs)[k]? with _ | x
    · rw [hx] at hz; simp at hz
    · rcases hw : (ups hs)[k - 1]? with _ | w
      · rw [hw] at hy; simp at hy
      · rw [hx] at hz; rw [hw] at hy
        obtain rfl : x.num = z := by simpa using hz
        obtain rfl : w.num = y := by simpa using hy
        have hp := ((poolB_iff.1 h).2.1).sublist (ups_sub hs)
        rw [List.pairwise_iff_getElem] at hp
        obtain ⟨h1, rfl⟩ := List.getElem?_eq_some_iff.1 hx
        obtain ⟨h2, rfl⟩ := List.getElem?_eq_some_iff.1 hw
        exact hp (k - 1) k h2 h1 (by omega)
theorem okS_pool {hs : List Hst} {N st : Int} (h : okS hs N st = true) : poolB hs = true := by
  simp only [okS, Bool.and_eq_true] at h
  exact h.1.1
theorem okS_any {hs : List Hst} {N st : Int} (h : okS hs N st = true) : ∃ (i : Nat) (x : Hst), hs[i]? = some x ∧ x.num = N := by
  simp only [okS, Bool.and_eq_true, List.any_eq_true] at h
  obtain ⟨x, hx, hN⟩ := h.1.2
  obtain ⟨i, hi, rfl⟩ := List.getElem_of_mem hx
  exact ⟨i, hs[i], by simp, by simpa using hN⟩
theorem okS_st {hs : List Hst} {N st : Int} (h : okS hs N st = true) : 0 ≤ st ∧ st ≤ 2 := by
  simp only [okS, Bool.and_eq_true] at h
  exact inB_true.1 h.2
theorem setOne_num (N st : Int) (x : Hst) : (setOne N st x).num = x.num := by unfold setOne; split <;> rfl
theorem setOne_wt (N st : Int) (x : Hst) : (setOne N st x).wt = x.wt := by unfold setOne; split <;> rfl
theorem setH_pool {hs : List Hst} {N st : Int} (h : okS hs N st = true) : poolB (setH hs N st) = true := by
  have hp := poolB_iff.1 (okS_pool h)
  rw [setH_yes h, poolB_iff]
  refine ⟨fun x hx => ?_, ?_, by simpa using hp.2.2⟩
  · obtain ⟨y, hy, rfl⟩ := List.mem_map.1 hx
    have h1 := hostB_bd (hp.1 y hy)
    have h2 := okS_st h
    unfold setOne
    split
    · simp only [hostB, Bool.and_eq_true, inB_true]; omega
    · exact hp.1 y hy
  · rw [List.pairwise_map]
    exact hp.2.1.imp fun hab => by rw [setOne_num, setOne_num]; exact hab
theorem setH_at {hs : List Hst} {N st : Int} (h : okS hs N st = true) {i : Nat} {x : Hst} (hx : hs[i]? = some x) : (setH hs N st)[i]? = some (setOne N st x) := by
  rw [setH_yes h, List.getElem?_map, hx]
  rfl
theorem setH_other {hs : List Hst} {N st : Int} (h : okS hs N st = true) {i : Nat} {x : Hst} (hx : hs[i]? = some x) (hN : x.num ≠ N) : stateZ (setH hs N st) x.num = x.st := by
  have := stateZ_mem (setH_pool h) (setH_at h hx)
  rw [setOne_num] at this
  rw [this]
  unfold setOne
  rw [if_neg hN]
theorem setH_self {hs : List Hst} {N st : Int} (h : okS hs N st = true) : stateZ (setH hs N st) N = st := by
  obtain ⟨i, x, hx, rfl⟩ := okS_any h
  have := stateZ_mem (setH_pool h) (setH_at h hx)
  rw [setOne_num] at this
  rw [this]
  unfold setOne
  rw [if_pos rfl]
theorem setH_length {hs : List Hst} {N st : Int} (h : okS hs N st = true) : (setH hs N st).length = hs.length := by
  rw [setH_yes h, List.length_map]
end Go.Proofs.Ytbnehcaallehbaa
