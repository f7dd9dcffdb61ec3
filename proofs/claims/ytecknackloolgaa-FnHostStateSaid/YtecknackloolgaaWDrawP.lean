/- Laws on drawn pools: FnPoolValid, FnHostState, FnTotalWeight. -/
import Derived.Test.YtecknackloolgaaDrawK
import Derived.Test.YtecknackloolgaaTot
import Derived.Test.YtecknackloolgaaFlow
namespace Go.Proofs.Ytecknackloolgaa
open Go.RowKit

/-- An operation whose guard holds runs as one without. -/
theorem wpList_unguard {P : Program} {ops : Array Oper} {Q : Exit → Act → World → Prop} {o : Oper} {rest : List Oper} {a : Act} {w : World} (hw : Region.wanted o (yielded ops a.tmps) = true) (h : wpList P ops Q ({ o with guard := none } :: rest) a w) : wpList P ops Q (o :: rest) a w := by
  unfold wpList at h ⊢
  rw [if_pos hw]
  rw [if_pos (show Region.wanted { o with guard := none } (yielded ops a.tmps) = true from rfl)] at h
  exact h
theorem Ints.nilOf {w : World} {A : Option Addr} {zs : List Int} (h : zs = []) : Ints w A zs := by rw [h]; exact IntsK.nil
theorem ints_dropO {w : World} {g o : Nat} {zs : List Int} (h : Ints w (some ⟨g, o, none⟩) zs) (k : Nat) : Ints w (some ⟨g, o + k, none⟩) (zs.drop k) := by
  intro hn
  obtain ⟨b', o', hA, hc⟩ := h (by simp at hn; omega)
  obtain ⟨rfl, rfl⟩ : g = b' ∧ o = o' := by simpa using hA
  refine ⟨g, o + k, rfl, fun j hj => ?_⟩
  have hjk : k + j < zs.length := by simp at hj; omega
  rw [Nat.add_assoc, hc (k + j) hjk]
  simp [List.getD_eq_getElem?_getD, List.getElem?_drop]
theorem poolB_tail {x : Hst} {t : List Hst} (h : poolB (x :: t) = true) : poolB t = true := by
  rw [poolB_yes (hs := t) fun j hj => ?_]
  · have := pool_len h
    simp at this ⊢
    omega
  · have h1 := pool_step h (k := j + 1) (by simp; omega)
    cases j with
    | zero =>
      have hx : t[0]? = some t[0] := by simp [hj]
      rw [stepB_zero hx]
      exact stepB_host (hs := x :: t) (k := 1) (by simp [hj]) h1
    | succ j =>
      have hx : t[j + 1]? = some t[j + 1] := by simp [hj]
      have hy : t[j]? = some (t[j]'(by omega)) := by rw [List.getElem?_eq_getElem]
      rw [stepB_succ (by omega) (hs := t) (h := t[j + 1]) (g := t[j]'(by omega)) hx hy]
      rw [stepB_succ (by omega) (hs := x :: t) (h := t[j + 1]) (g := t[j]'(by omega)) hx hy] at h1
      exact h1
theorem poolB_twice (x : Hst) (t : List Hst) : poolB (x :: x :: t) = false := by
  refine poolB_no (k := 1) (by simp) ?_
  rw [stepB_succ (by omega) (h := x) (g := x) rfl rfl]
  simp

theorem stateZ_bd (hs : List Hst) (N : Int) : 0 ≤ stateZ hs N ∧ stateZ hs N ≤ 2 := by
  cases hP : poolB hs
  · rw [stateZ_no hP]; omega
  · unfold stateZ
    rw [if_pos hP]
    split
    · rename_i x hx
      have := hostB_bd (pool_mem hP (List.mem_of_find?_eq_some hx))
      omega
    · omega
theorem stateZ_nil (N : Int) : stateZ [] N = 0 := by simp [stateZ]
theorem walk_FnHostState (A : Option Addr) (n c : Nat) (zs : List Int) (w : World) (H : ArgInts .u8 w A n c 1 zs) :
    Calls Try.prog 3 #[.slice A n c] w fun e w' => e = .returned (.bool true) ∧ New w w' := by
  have hc := CodeArg.of H
  have hm := hc.2.1
  unfold maxLen at hm
  clear H
  by_cases hbig : 1048576 < n
  · go_enter Try.func3, Try.ntmps3
    go_wp2_with fail
    go_ret
    exact ⟨rfl, (by repeat (first | with_reducible assumption | with_reducible exact New.refl _ | with_reducible refine New.alloc ?_ _ | with_reducible refine New.drew ?_ | with_reducible refine New.drewN ?_ _ | refine New.setCell ?_ (by first | (simp; done) | omega | (simp; omega)) _ | with_reducible refine New.trans ?_ (by with_reducible assumption)))⟩
  go_enter Try.func3, Try.ntmps3
  go_wp2_with fail
  refine (DrawHostState_any A n c zs _ hc).mono ?_
  rintro e w1 ⟨A', c', hs, z, rfl, l7, lc, cm, hpl, hI, b1⟩
  obtain ⟨k, hk⟩ : ∃ k, hs.length = k := ⟨_, rfl⟩
  rw [hk] at l7 lc ⊢
  have HK := Lib.hid hk
  have hml : k ≤ maxLen := by unfold maxLen; omega
  clear hk hc hpl
  obtain ⟨s, hs'⟩ : ∃ s, stateZ hs z = s := ⟨_, rfl⟩
  have hbd := stateZ_bd hs z
  rw [hs'] at hbd
  obtain ⟨s0, s2⟩ := hbd
  have HS := Lib.hid hs'
  have HNil := Lib.hid (stateZ_nil z)
  clear hs'
  go_wp2_with fail
  refine (hostState_impl A' k c' hs z _ HK.out hml hI).mono ?_
  rintro e w2 ⟨rfl, b2⟩
  rw [HS.out]
  have hc2 := New.cells b2; have hf2 := New.marks b2; have hz2 := New.le b2; try simp only [World.size_alloc, World.size_setCell] at hz2
  try have z2_0_0 : w.heap.size < w2.heap.size := by omega
  try have z2_0_1 : w.heap.size + 1 < w2.heap.size := by omega
  try have z2_0_2 : w.heap.size + 2 < w2.heap.size := by omega
  try have z2_1_0 : w1.heap.size < w2.heap.size := by omega
  try have z2_1_1 : w1.heap.size + 1 < w2.heap.size := by omega
  try have z2_1_2 : w1.heap.size + 2 < w2.heap.size := by omega
  have I2 := hI.new b2
  go_wp2_with fail
  refine (hostState_spec A' k c' hs z _ HK.out hml I2).mono ?_
  rintro e w3 ⟨rfl, b3⟩
  rw [HS.out]
  have hc3 := New.cells b3; have hf3 := New.marks b3; have hz3 := New.le b3; try simp only [World.size_alloc, World.size_setCell] at hz3
  try have z3_0_0 : w.heap.size < w3.heap.size := by omega
  try have z3_0_1 : w.heap.size + 1 < w3.heap.size := by omega
  try have z3_0_2 : w.heap.size + 2 < w3.heap.size := by omega
  try have z3_1_0 : w1.heap.size < w3.heap.size := by omega
  try have z3_1_1 : w1.heap.size + 1 < w3.heap.size := by omega
  try have z3_1_2 : w1.heap.size + 2 < w3.heap.size := by omega
  try have z3_2_0 : w2.heap.size < w3.heap.size := by omega
  try have z3_2_1 : w2.heap.size + 1 < w3.heap.size := by omega
  try have z3_2_2 : w2.heap.size + 2 < w3.heap.size := by omega
  go_wp2_with fail
  refine (hostState_impl none 0 0 [] z _ rfl (by unfold maxLen; omega) (IntsK.nil)).mono ?_
  rintro e w4 ⟨rfl, b4⟩
  rw [HNil.out]
  have hc4 := New.cells b4; have hf4 := New.marks b4; have hz4 := New.le b4; try simp only [World.size_alloc, World.size_setCell] at hz4
  try have z4_0_0 : w.heap.size < w4.heap.size := by omega
  try have z4_0_1 : w.heap.size + 1 < w4.heap.size := by omega
  try have z4_0_2 : w.heap.size + 2 < w4.heap.size := by omega
  try have z4_1_0 : w1.heap.size < w4.heap.size := by omega
  try have z4_1_1 : w1.heap.size + 1 < w4.heap.size := by omega
  try have z4_1_2 : w1.heap.size + 2 < w4.heap.size := by omega
  try have z4_2_0 : w2.heap.size < w4.heap.size := by omega
  try have z4_2_1 : w2.heap.size + 1 < w4.heap.size := by omega
  try have z4_2_2 : w2.heap.size + 2 < w4.heap.size := by omega
  try have z4_3_0 : w3.heap.size < w4.heap.size := by omega
  try have z4_3_1 : w3.heap.size + 1 < w4.heap.size := by omega
  try have z4_3_2 : w3.heap.size + 2 < w4.heap.size := by omega
  go_wp2_with fail
  refine (alive_any _).mono ?_
  rintro e w5 ⟨rfl, b5⟩
  have hc5 := New.cells b5; have hf5 := New.marks b5; have hz5 := New.le b5; try simp only [World.size_alloc, World.size_setCell] at hz5
  try have z5_0_0 : w.heap.size < w5.heap.size := by omega
  try have z5_0_1 : w.heap.size + 1 < w5.heap.size := by omega
  try have z5_0_2 : w.heap.size + 2 < w5.heap.size := by omega
  try have z5_1_0 : w1.heap.size < w5.heap.size := by omega
  try have z5_1_1 : w1.heap.size + 1 < w5.heap.size := by omega
  try have z5_1_2 : w1.heap.size + 2 < w5.heap.size := by omega
  try have z5_2_0 : w2.heap.size < w5.heap.size := by omega
  try have z5_2_1 : w2.heap.size + 1 < w5.heap.size := by omega
  try have z5_2_2 : w2.heap.size + 2 < w5.heap.size := by omega
  try have z5_3_0 : w3.heap.size < w5.heap.size := by omega
  try have z5_3_1 : w3.heap.size + 1 < w5.heap.size := by omega
  try have z5_3_2 : w3.heap.size + 2 < w5.heap.size := by omega
  try have z5_4_0 : w4.heap.size < w5.heap.size := by omega
  try have z5_4_1 : w4.heap.size + 1 < w5.heap.size := by omega
  try have z5_4_2 : w4.heap.size + 2 < w5.heap.size := by omega
  go_wp2_with fail
  go_ret
  exact ⟨rfl, (by repeat (first | with_reducible assumption | with_reducible exact New.refl _ | with_reducible refine New.alloc ?_ _ | with_reducible refine New.drew ?_ | with_reducible refine New.drewN ?_ _ | refine New.setCell ?_ (by first | (simp; done) | omega | (simp; omega)) _ | with_reducible refine New.trans ?_ (by with_reducible assumption)))⟩
end Go.Proofs.Ytecknackloolgaa
