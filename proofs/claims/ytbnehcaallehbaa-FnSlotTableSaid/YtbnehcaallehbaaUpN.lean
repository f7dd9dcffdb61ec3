/- The numbers of the hosts that are up. -/
import Derived.Test.YtbnehcaallehbaaTot
namespace Go.Proofs.Ytbnehcaallehbaa
set_option linter.unusedVariables false
set_option linter.unusedSimpArgs false
open Go.RowKit

def numsOf (l : List Hst) : List Int := l.map fun h => h.num
theorem numsOf_append (a b : List Hst) : numsOf (a ++ b) = numsOf a ++ numsOf b := by simp [numsOf]
theorem numsOf_len (a : List Hst) : (numsOf a).length = a.length := by simp [numsOf]
theorem numsOf_take {l : List Hst} {k : Nat} {x : Hst} (hx : l[k]? = some x) : numsOf (l.take (k + 1)) = numsOf (l.take k) ++ [x.num] := by
  rw [List.take_add_one, hx]
  simp [numsOf]
def upNums (hs : List Hst) : List Int := if poolB hs = true then numsOf (ups hs) else []
theorem upNums_no {hs : List Hst} (h : poolB hs = false) : upNums hs = [] := by simp [upNums, h]
theorem upNums_yes {hs : List Hst} (h : poolB hs = true) : upNums hs = numsOf (ups hs) := by simp [upNums, h]
theorem upNums_len (hs : List Hst) : (upNums hs).length ≤ 6 ∧ (upNums hs).length ≤ hs.length := by
  cases h : poolB hs
  · rw [upNums_no h]; simp
  · rw [upNums_yes h, numsOf_len]
    have h2 := ups_len hs
    have h3 := pool_len h
    omega

set_option maxRecDepth 100000 in
theorem hostsUp_impl (A : Option Addr) (n c : Nat) (hs : List Hst) (w : World) (hn : hs.length = n) (hm : n ≤ 1048576) (h : Ints w A (flat hs)) :
    Calls Try.prog 50 #[.slice A n c] w (RetRow 3 1 w (upNums hs).length (upNums hs)) := by
  obtain ⟨i0, hi, iz0, iz1, iz2⟩ := info_parts int_info
  have hml : n ≤ maxLen := by unfold maxLen; omega
  have HN := Lib.hid hn
  clear hn
  cases hP : poolB hs
  · rw [upNums_no hP]
    go_enter Try.func50, Try.ntmps50
    go_wp2_with fail
    refine (poolValid_impl A n c hs _ HN.out hml h).mono ?_
    rintro e w1 ⟨rfl, b1⟩
    rw [hP]
    have hc1 := New.cells b1; have hf1 := New.marks b1; have hz1 := New.le b1; try simp only [World.size_alloc, World.size_setCell] at hz1
    try have z1_0_0 : w.heap.size < w1.heap.size := by omega
    try have z1_0_1 : w.heap.size + 1 < w1.heap.size := by omega
    try have z1_0_2 : w.heap.size + 2 < w1.heap.size := by omega
    go_wp2_with fail
    go_ret
    exact ⟨none, 0, rfl, Nat.le_refl _, Nat.zero_le _, World.ownsRow_nil _ _ _ _, (by repeat (first | with_reducible assumption | with_reducible exact New.refl _ | with_reducible refine New.alloc ?_ _ | with_reducible refine New.drew ?_ | with_reducible refine New.drewN ?_ _ | refine New.setCell ?_ (by first | (simp; done) | omega | (simp; omega)) _ | with_reducible refine New.trans ?_ (by with_reducible assumption)))⟩
  · have hS := upNums_yes hP
    rw [hS]
    clear hS
    have hul := ups_len hs
    have hpl := pool_len hP
    go_enter Try.func50, Try.ntmps50
    go_wp2_with fail
    refine (poolValid_impl A n c hs _ HN.out hml h).mono ?_
    rintro e w1 ⟨rfl, b1⟩
    rw [hP]
    have hc1 := New.cells b1; have hf1 := New.marks b1; have hz1 := New.le b1; try simp only [World.size_alloc, World.size_setCell] at hz1
    try have z1_0_0 : w.heap.size < w1.heap.size := by omega
    try have z1_0_1 : w.heap.size + 1 < w1.heap.size := by omega
    try have z1_0_2 : w.heap.size + 2 < w1.heap.size := by omega
    clear hP
    go_wp2_with fail
    refine (up_any A n c hs _ HN.out hm (h.new b1)).mono ?_
    rintro e w2 ⟨A2, c2, rfl, hnc2, hcm2, o2, b2⟩
    have hI := o2.ints
    have B2 := b1.trans b2
    have HU : Hid (∃ us, us = ups hs) := Lib.hid ⟨_, rfl⟩
    obtain ⟨us, hus⟩ := HU.out
    rw [← hus] at hI hul ⊢
    have HUS := Lib.hid hus
    clear hus o2 hc1 hf1
    obtain ⟨m, hm2⟩ : ∃ m, m = us.length := ⟨_, rfl⟩
    rw [← hm2] at hul ⊢
    have HM := Lib.hid hm2
    clear hm2
    go_wp2_with fail
    go_loopw [3, 12] (fun v i wr => ∃ (k : Nat) (A' : Option Addr) (c' : Nat), k ≤ m ∧ i = .int .i64 k ∧ v = .slice A' k c' ∧ k ≤ c' ∧ c' ≤ maxLen ∧ Own 3 1 w2.heap.size wr A' k c' (numsOf (us.take k)) ∧ New w2 wr) (fun _ i _ => m - (intOf i).toNat)
    case atStart => exact ⟨0, none, 0, Nat.zero_le _, rfl, rfl, Nat.le_refl _, Nat.zero_le _, World.ownsRow_nil _ _ _ _, New.refl _⟩
    case round =>
      obtain ⟨k, A', c', hk, rfl, rfl, hkc, hcm, hown, hnew⟩ := hrel
      by_cases hlt : k < m
      · obtain ⟨b, o, x, rfl, hx, hb, c0, c1, c2⟩ := hosts_at (hI.new hnew) (k := k) (by rw [← HM.out]; exact hlt)
        have HX := Lib.hid (numsOf_take hx)
        clear hx
        obtain ⟨x0, x1, x2⟩ := x
        simp only at c0 c1 c2 HX
        have hki : (k : Int) < (m : Int) := by omega
        have bA := ((New.refl wr).alloc (.cells #[.int .i64 x0, .int .i64 x1, .int .i64 x2] 64)).alloc (.cells #[.int .i64 x0] 3)
        have HO := Lib.hid (hown.new bA)
        have HB := Lib.hid (hnew.trans bA)
        clear bA hown
        go_wp2_with (at_builtin; refine wpList_append_Own _ rfl (.tmp 16) (.tmp 19) 51 rfl w2 3 i0 _ 1 8 Try.underlying51 hi iz0 iz1 iz2 rfl (by omega) (by omega) A' k c' _ rfl HO.out _ 1 1 [x0] rfl rfl (Ints.lit _ _ [_] _ (by simp)) (by omega) (by omega) HB.out ?_; intro A3 c3 w3 h1 h2 hown2 hnew2 _)
        go_roundw
        case rel =>
          refine ⟨k + 1, A3, c3, by omega, by go_num, rfl, h1, h2, ?_, hnew2⟩
          rw [HX.out]
          exact hown2
        case measure => simp [intOf]; omega
      · obtain rfl : k = m := by omega
        have HT := Lib.hid (show us.take k = us from List.take_of_length_le (by rw [← HM.out]; exact Nat.le_refl _))
        go_wp2_with fail
        go_ret
        have e2 : (numsOf (ups hs)).length = k := by rw [← HUS.out, numsOf_len, HM.out]
        rw [HT.out, HUS.out] at hown
        rw [e2]
        exact ⟨A', c', rfl, hkc, hcm, hown.less B2.le, B2.trans hnew⟩
end Go.Proofs.Ytbnehcaallehbaa
