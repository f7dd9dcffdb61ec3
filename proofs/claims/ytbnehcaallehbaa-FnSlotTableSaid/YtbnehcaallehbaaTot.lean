/- The sum of the weights of the hosts that are up. -/
import Derived.Test.YtbnehcaallehbaaUp
namespace Go.Proofs.Ytbnehcaallehbaa
set_option linter.unusedVariables false
set_option linter.unusedSimpArgs false
open Go.RowKit

def sumW (l : List Hst) : Int := (l.map fun h => h.wt).sum
theorem sumW_append (a b : List Hst) : sumW (a ++ b) = sumW a + sumW b := by simp [sumW, List.map_append, List.sum_append]
theorem sumW_take {l : List Hst} {k : Nat} {x : Hst} (hx : l[k]? = some x) : sumW (l.take (k + 1)) = sumW (l.take k) + x.wt := by
  rw [List.take_add_one, hx, sumW_append]
  simp [sumW]
theorem sumW_bd : ∀ {l : List Hst}, (∀ x ∈ l, 1 ≤ x.wt ∧ x.wt ≤ 5) → (l.length : Int) ≤ sumW l ∧ sumW l ≤ 5 * (l.length : Int)
  | [], _ => by simp [sumW]
  | x :: t, h => by
    have h1 := h x (by simp)
    have ih := sumW_bd (l := t) fun y hy => h y (by simp [hy])
    simp only [sumW, List.map_cons, List.sum_cons, List.length_cons] at ih ⊢
    omega
theorem wt_bd {hs : List Hst} (h : poolB hs = true) : ∀ x ∈ hs, 1 ≤ x.wt ∧ x.wt ≤ 5 := fun _ hx => (hostB_bd (pool_mem h hx)).2.1
theorem ups_mem {hs : List Hst} {x : Hst} (h : x ∈ ups hs) : x ∈ hs := (List.mem_filter.1 h).1
def totZ (hs : List Hst) : Int := if poolB hs = true then sumW (ups hs) else 0
theorem totZ_no {hs : List Hst} (h : poolB hs = false) : totZ hs = 0 := by simp [totZ, h]
theorem totZ_yes {hs : List Hst} (h : poolB hs = true) : totZ hs = sumW (ups hs) := by simp [totZ, h]
theorem totZ_bd (hs : List Hst) : 0 ≤ totZ hs ∧ totZ hs ≤ 30 := by
  cases h : poolB hs
  · rw [totZ_no h]; omega
  · rw [totZ_yes h]
    have h1 := sumW_bd (l := ups hs) fun x hx => wt_bd h x (ups_mem hx)
    have h2 := ups_len hs
    have h3 := pool_len h
    omega

theorem totalWeight_impl (A : Option Addr) (n c : Nat) (hs : List Hst) (w : World) (hn : hs.length = n) (hm : n ≤ 1048576) (h : Ints w A (flat hs)) :
    Calls Try.prog 18 #[.slice A n c] w fun e w' => e = .returned (.int .i64 (totZ hs)) ∧ New w w' := by
  have hml : n ≤ maxLen := by unfold maxLen; omega
  have HN := Lib.hid hn
  clear hn
  cases hP : poolB hs
  · have HS := Lib.hid (totZ_no hP)
    go_enter Try.func18, Try.ntmps18
    go_wp2_with fail
    refine (poolValid_impl A n c hs _ HN.out hml h).mono ?_
    rintro e w1 ⟨rfl, b1⟩
    rw [hP]
    have hc1 := New.cells b1; have hf1 := New.marks b1; have hz1 := New.le b1; try simp only [World.size_alloc, World.size_setCell] at hz1
    try have z1_0_0 : w.heap.size < w1.heap.size := by omega
    try have z1_0_1 : w.heap.size + 1 < w1.heap.size := by omega
    try have z1_0_2 : w.heap.size + 2 < w1.heap.size := by omega
    go_wp2_with fail
    go_ret
    exact ⟨by rw [HS.out]; rfl, (by repeat (first | with_reducible assumption | with_reducible exact New.refl _ | with_reducible refine New.alloc ?_ _ | with_reducible refine New.drew ?_ | with_reducible refine New.drewN ?_ _ | refine New.setCell ?_ (by first | (simp; done) | omega | (simp; omega)) _ | with_reducible refine New.trans ?_ (by with_reducible assumption)))⟩
  · have HS := Lib.hid (totZ_yes hP)
    have hul := ups_len hs
    have hpl := pool_len hP
    have hwt := Lib.hid (wt_bd hP)
    go_enter Try.func18, Try.ntmps18
    go_wp2_with fail
    refine (poolValid_impl A n c hs _ HN.out hml h).mono ?_
    rintro e w1 ⟨rfl, b1⟩
    rw [hP]
    have hc1 := New.cells b1; have hf1 := New.marks b1; have hz1 := New.le b1; try simp only [World.size_alloc, World.size_setCell] at hz1
    try have z1_0_0 : w.heap.size < w1.heap.size := by omega
    try have z1_0_1 : w.heap.size + 1 < w1.heap.size := by omega
    try have z1_0_2 : w.heap.size + 2 < w1.heap.size := by omega
    clear hP
    go_wp2_with fail
    refine (up_any A n c hs _ HN.out hm (h.new b1)).mono ?_
    rintro e w2 ⟨A2, c2, rfl, hnc2, hcm2, o2, b2⟩
    have hI := o2.ints
    have B2 := b1.trans b2
    have HU : Hid (∃ us, us = ups hs) := Lib.hid ⟨_, rfl⟩
    obtain ⟨us, hus⟩ := HU.out
    rw [← hus] at hI hul HS ⊢
    have HUS := Lib.hid hus
    clear hus o2 hc1 hf1
    obtain ⟨m, hm2⟩ : ∃ m, m = us.length := ⟨_, rfl⟩
    rw [← hm2] at hul ⊢
    have HM := Lib.hid hm2
    clear hm2
    go_wp2_with fail
    go_loopw [3, 12] (fun v i wr => ∃ k : Nat, k ≤ m ∧ i = .int .i64 k ∧ v = .int .i64 (sumW (us.take k)) ∧ New w2 wr) (fun _ i _ => m - (intOf i).toNat)
    case atStart => exact ⟨0, Nat.zero_le _, rfl, rfl, New.refl _⟩
    case round =>
      obtain ⟨k, hk, rfl, rfl, hnew⟩ := hrel
      have hbd := sumW_bd (l := us.take k) fun x hx => hwt.out x (ups_mem (by rw [← HUS.out]; exact List.mem_of_mem_take hx))
      have hlen : (us.take k).length ≤ k := List.length_take_le _ _
      have s0 : 0 ≤ sumW (us.take k) := by omega
      have s1 : sumW (us.take k) ≤ 30 := by omega
      clear hbd hlen
      by_cases hlt : k < m
      · obtain ⟨b, o, x, rfl, hx, hb, c0, c1, c2⟩ := hosts_at (hI.new hnew) (k := k) (by rw [← HM.out]; exact hlt)
        have hxw := hwt.out x (ups_mem (by rw [← HUS.out]; exact List.mem_of_getElem? hx))
        have HX := Lib.hid (sumW_take hx)
        clear hx
        obtain ⟨x0, x1, x2⟩ := x
        simp only at c0 c1 c2 HX hxw
        have hki : (k : Int) < (m : Int) := by omega
        obtain ⟨y0, y1⟩ := hxw
        go_wp2_with fail
        go_roundw
        case rel => exact ⟨k + 1, by omega, by go_num, by rw [HX.out], (by repeat (first | with_reducible assumption | with_reducible exact New.refl _ | with_reducible refine New.alloc ?_ _ | with_reducible refine New.drew ?_ | with_reducible refine New.drewN ?_ _ | refine New.setCell ?_ (by first | (simp; done) | omega | (simp; omega)) _ | with_reducible refine New.trans ?_ (by with_reducible assumption)))⟩
        case measure => simp [intOf]; omega
      · obtain rfl : k = m := by omega
        have HT := Lib.hid (show us.take k = us from List.take_of_length_le (by rw [← HM.out]; exact Nat.le_refl _))
        go_wp2_with fail
        go_ret
        exact ⟨ret_int (by rw [HS.out, HT.out]), B2.trans hnew⟩
end Go.Proofs.Ytbnehcaallehbaa
