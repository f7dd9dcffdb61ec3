/- The hosts that are up; the place of a host; states and weights. -/
import Derived.Test.YtbnehcaallehbaaPool
import Derived.Test.YtbnehcaallehbaaOwn
namespace Go.Proofs.Ytbnehcaallehbaa
set_option linter.unusedVariables false
set_option linter.unusedSimpArgs false
open Go.RowKit

def ups (hs : List Hst) : List Hst := hs.filter fun h => h.st == 1
theorem ups_take {hs : List Hst} {k : Nat} {x : Hst} (hx : hs[k]? = some x) : ups (hs.take (k + 1)) = ups (hs.take k) ++ if x.st == 1 then [x] else [] := by
  unfold ups
  rw [List.take_add_one, hx, List.filter_append]
  cases h : (x.st == 1) <;> simp [h]
theorem ups_len (hs : List Hst) : (ups hs).length ≤ hs.length := List.length_filter_le _ _
theorem ups_take_len (hs : List Hst) (k : Nat) : (ups (hs.take k)).length ≤ k := Nat.le_trans (ups_len _) (List.length_take_le _ _)

theorem host_info : (Try.prog.info? 64).map (fun i => (i.zero, i.size, i.bytes)) = some (some (.agg #[.int .i64 0, .int .i64 0, .int .i64 0]), 3, 24) := by kernel_rfl

theorem up_any (A : Option Addr) (n c : Nat) (hs : List Hst) (w : World) (hn : hs.length = n) (hm : n ≤ 1048576) (h : Ints w A (flat hs)) :
    Calls Try.prog 62 #[.slice A n c] w (RetRow 64 3 w (ups hs).length (flat (ups hs))) := by
  obtain ⟨i0, hi, hz0, hz1, hz2⟩ := info_parts host_info
  have HN := Lib.hid hn
  clear hn
  go_enter Try.func62, Try.ntmps62
  go_wp2_with fail
  go_loopw [3, 8] (fun v i wr => ∃ (k : Nat) (A' : Option Addr) (m c' : Nat), k ≤ n ∧ i = .int .i64 k ∧ v = .slice A' m c' ∧ m ≤ k ∧ m ≤ c' ∧ c' ≤ maxLen ∧ Hid (m = (ups (hs.take k)).length) ∧ Own 64 3 w.heap.size wr A' m c' (flat (ups (hs.take k))) ∧ New w wr) (fun _ i _ => n - (intOf i).toNat)
  case atStart => exact ⟨0, none, 0, 0, Nat.zero_le _, rfl, rfl, Nat.le_refl _, Nat.le_refl _, Nat.zero_le _, Lib.hid rfl, World.ownsRow_nil _ _ _ _, New.refl _⟩
  case round =>
    obtain ⟨k, A', m, c', hk, rfl, rfl, hmk, hmc, hcm, HM, hown, hnew⟩ := hrel
    by_cases hlt : k < n
    · obtain ⟨b, o, x, rfl, hx, hb, c0, c1, c2⟩ := hosts_at (h.new hnew) (k := k) (by rw [HN.out]; exact hlt)
      have HX := Lib.hid (ups_take hx)
      obtain ⟨x0, x1, x2⟩ := x
      simp only at c0 c1 c2 HX
      clear hx
      by_cases hup : x2 = 1
      · subst hup
        have b1 := ((New.refl wr).alloc (.cells #[.int .i64 x0, .int .i64 x1, .int .i64 1] 64)).alloc (.cells #[.int .i64 x0, .int .i64 x1, .int .i64 1] 64)
        have HO := Lib.hid (hown.new b1)
        have HB := Lib.hid (hnew.trans b1)
        clear b1 hown
        go_wp2_with (at_builtin; refine wpList_append_Own _ rfl (.tmp 15) (.tmp 17) 23 rfl w 64 i0 _ 3 24 Try.underlying23 hi hz0 hz1 hz2 rfl (by omega) (by omega) A' m c' _ rfl HO.out _ 1 1 [x0, x1, 1] rfl rfl (Ints.lit _ _ [x0, x1, 1] _ (by simp)) (by omega) (by omega) HB.out ?_; intro A2 c2' w2 h1 h2 hown2 hnew2 _)
        go_roundw
        case rel =>
          refine ⟨k + 1, A2, m + 1, c2', by omega, by go_num, rfl, by omega, h1, h2, Lib.hid (by rw [HX.out, List.length_append, ← HM.out]; rfl), ?_, hnew2⟩
          rw [HX.out, flat_append]
          exact hown2
        case measure => simp [intOf]; omega
      · have hup' : (x2 == 1) = false := by simpa using hup
        go_wp2_with fail
        go_roundw
        case rel =>
          refine ⟨k + 1, A', m, c', by omega, by go_num, rfl, by omega, hmc, hcm, Lib.hid (by rw [HX.out, hup', HM.out]; simp), ?_, hnew.alloc _⟩
          rw [HX.out, hup']
          simpa using hown.new ((New.refl wr).alloc _)
        case measure => simp [intOf]; omega
    · obtain rfl : k = n := by omega
      have e : hs.take k = hs := List.take_of_length_le (by rw [HN.out]; exact Nat.le_refl _)
      have HE := Lib.hid e
      clear e
      go_wp2_with fail
      go_ret
      have hM := HM.out
      rw [HE.out] at hM hown
      subst hM
      exact ⟨A', c', rfl, hmc, hcm, hown, hnew⟩
/-- Where the host with a number stands, or -1. -/
def idxZ (hs : List Hst) (N : Int) : Int := match hs.findIdx? fun h => h.num == N with
  | some k => k
  | none => -1
theorem idx_hit {hs : List Hst} {N : Int} {k : Nat} {x : Hst} (hx : hs[k]? = some x) (hN : x.num = N) (hno : ∀ j, j < k → ∀ y, hs[j]? = some y → y.num ≠ N) : idxZ hs N = k := by
  have hk : k < hs.length := (List.getElem?_eq_some_iff.1 hx).1
  have : hs.findIdx? (fun h => h.num == N) = some k := by
    rw [List.findIdx?_eq_some_iff_getElem]
    refine ⟨hk, ?_, fun j hj => ?_⟩
    · rw [(List.getElem?_eq_some_iff.1 hx).2]; simpa using hN
    · have := hno j hj hs[j] (by simp [Nat.lt_trans hj hk])
      simpa using this
  simp [idxZ, this]
theorem idx_none {hs : List Hst} {N : Int} (hno : ∀ j, j < hs.length → ∀ y, hs[j]? = some y → y.num ≠ N) : idxZ hs N = -1 := by
  have : hs.findIdx? (fun h => h.num == N) = none := by
    rw [List.findIdx?_eq_none_iff]
    intro x hx
    obtain ⟨k, hk, rfl⟩ := List.getElem_of_mem hx
    have := hno k hk hs[k] (by simp [hk])
    simpa using this
  simp [idxZ, this]
/-- Either the number is there, at a first place, or it is not. -/
theorem idx_cases (hs : List Hst) (N : Int) : (∃ (k : Nat) (x : Hst), hs[k]? = some x ∧ x.num = N ∧ (∀ j, j < k → ∀ y, hs[j]? = some y → y.num ≠ N) ∧ idxZ hs N = k) ∨ ((∀ j, j < hs.length → ∀ y, hs[j]? = some y → y.num ≠ N) ∧ idxZ hs N = -1) := by
  cases h : hs.findIdx? (fun h => h.num == N) with
  | none =>
    refine .inr ⟨fun j hj y hy => ?_, by simp [idxZ, h]⟩
    rw [List.findIdx?_eq_none_iff] at h
    simpa using h y (List.mem_of_getElem? hy)
  | some k =>
    rw [List.findIdx?_eq_some_iff_getElem] at h
    obtain ⟨hk, h1, h2⟩ := h
    have hx : hs[k]? = some hs[k] := by simp [hk]
    have hN : hs[k].num = N := by simpa using h1
    have hno : ∀ j, j < k → ∀ y, hs[j]? = some y → y.num ≠ N := fun j hj y hy => by
      have := h2 j hj
      rw [(List.getElem?_eq_some_iff.1 hy).2] at this
      simpa using this
    exact .inl ⟨k, hs[k], hx, hN, hno, idx_hit hx hN hno⟩

theorem hostAt1_any (x0 x1 x2 N : Int) (g : Nat) (w : World) (hg : g < w.heap.size) (hc : w.cell? ⟨g, 0, none⟩ = some (.int .i64 N)) :
    Calls Try.prog 101 #[.agg #[.int .i64 x0, .int .i64 x1, .int .i64 x2], .pointer (some ⟨g, 0, none⟩)] w fun e w' => e = .returned (.bool (x0 == N)) ∧ New w w' := by
  go_enter Try.func101, Try.ntmps101
  go_wp2_with fail
  go_ret
  exact ⟨rfl, (by repeat (first | with_reducible assumption | with_reducible exact New.refl _ | with_reducible refine New.alloc ?_ _ | with_reducible refine New.drew ?_ | with_reducible refine New.drewN ?_ _ | refine New.setCell ?_ (by first | (simp; done) | omega | (simp; omega)) _ | with_reducible refine New.trans ?_ (by with_reducible assumption)))⟩
theorem indexHost_any (A : Option Addr) (n c : Nat) (hs : List Hst) (N : Int) (g : Nat) (w : World) (hn : hs.length = n) (hm : n ≤ maxLen) (h : Ints w A (flat hs)) (hg : g < w.heap.size) (hcN : w.cell? ⟨g, 0, none⟩ = some (.int .i64 N)) :
    Calls Try.prog 100 #[.slice A n c, .func (.func 101) #[] #[.pointer (some ⟨g, 0, none⟩)]] w fun e w' => e = .returned (.int .i64 (idxZ hs N)) ∧ New w w' := by
  unfold maxLen at hm
  have HN := Lib.hid hn
  have HG := Lib.hid hcN
  clear hn hcN
  go_enter Try.func100, Try.ntmps100
  go_wp2_with fail
  go_loopw [8] (fun i wr => ∃ k : Nat, k ≤ n ∧ i = .int .i64 k ∧ Hid (∀ j, j < k → ∀ y, hs[j]? = some y → y.num ≠ N) ∧ New w wr) (fun i _ => n - (intOf i).toNat)
  case atStart => exact ⟨0, Nat.zero_le _, rfl, Lib.hid (fun j hj => absurd hj (by omega)), New.refl _⟩
  case round =>
    obtain ⟨k, hk, rfl, HK, hnew⟩ := hrel
    by_cases hlt : k < n
    · obtain ⟨b, o, x, rfl, hx, hb, c0, c1, c2⟩ := hosts_at (h.new hnew) (k := k) (by rw [HN.out]; exact hlt)
      have HX := Lib.hid hx
      clear hx
      obtain ⟨x0, x1, x2⟩ := x
      simp only at c0 c1 c2 HX
      have hki : (k : Int) < (n : Int) := by omega
      have hcg : wr.cell? ⟨g, 0, none⟩ = some (.int .i64 N) := (Below.cell hnew (p := ⟨g, 0, none⟩) hg).trans HG.out
      by_cases he : x0 = N
      · have he' : (x0 == N) = true := by simpa using he
        have HI := Lib.hid (idx_hit HX.out he HK.out)
        clear he
        go_wp2_with fail
        refine (hostAt1_any x0 x1 x2 N g _ (Nat.lt_of_lt_of_le hg hnew.le) hcg).mono ?_
        rintro e w1 ⟨rfl, b1⟩
        go_wp2_with fail
        go_ret
        exact ⟨by rw [HI.out]; rfl, (by repeat (first | with_reducible assumption | with_reducible exact New.refl _ | with_reducible refine New.alloc ?_ _ | with_reducible refine New.drew ?_ | with_reducible refine New.drewN ?_ _ | refine New.setCell ?_ (by first | (simp; done) | omega | (simp; omega)) _ | with_reducible refine New.trans ?_ (by with_reducible assumption)))⟩
      · have he' : (x0 == N) = false := by simpa using he
        have HI := Lib.hid (show ∀ y, hs[k]? = some y → y.num ≠ N by
          intro y hy
          rw [HX.out] at hy
          obtain rfl := Option.some.inj hy
          exact he)
        clear he
        go_wp2_with fail
        refine (hostAt1_any x0 x1 x2 N g _ (Nat.lt_of_lt_of_le hg hnew.le) hcg).mono ?_
        rintro e w1 ⟨rfl, b1⟩
        go_wp2_with fail
        go_roundw
        case rel => exact ⟨k + 1, by omega, by go_num, Lib.hid (all_succ (P := fun j => ∀ y, hs[j]? = some y → y.num ≠ N) HK.out HI.out), (by repeat (first | with_reducible assumption | with_reducible exact New.refl _ | with_reducible refine New.alloc ?_ _ | with_reducible refine New.drew ?_ | with_reducible refine New.drewN ?_ _ | refine New.setCell ?_ (by first | (simp; done) | omega | (simp; omega)) _ | with_reducible refine New.trans ?_ (by with_reducible assumption)))⟩
        case measure => simp [intOf]; omega
    · obtain rfl : k = n := by omega
      have HI := Lib.hid (idx_none (hs := hs) (N := N) (by rw [HN.out]; exact HK.out))
      go_wp2_with fail
      go_ret
      exact ⟨by rw [HI.out]; rfl, (by repeat (first | with_reducible assumption | with_reducible exact New.refl _ | with_reducible refine New.alloc ?_ _ | with_reducible refine New.drew ?_ | with_reducible refine New.drewN ?_ _ | refine New.setCell ?_ (by first | (simp; done) | omega | (simp; omega)) _ | with_reducible refine New.trans ?_ (by with_reducible assumption)))⟩
theorem hostAt_any (A : Option Addr) (n c : Nat) (hs : List Hst) (N : Int) (w : World) (hn : hs.length = n) (hm : n ≤ maxLen) (h : Ints w A (flat hs)) :
    Calls Try.prog 70 #[.slice A n c, .int .i64 N] w fun e w' => e = .returned (.int .i64 (idxZ hs N)) ∧ New w w' := by
  go_enter Try.func70, Try.ntmps70
  go_wp2_with fail
  refine (indexHost_any A n c hs N w.heap.size _ hn hm (h.alloc _) (by simp) (by simp [go_sem])).mono ?_
  rintro e w1 ⟨rfl, b1⟩
  go_wp2_with fail
  go_ret
  exact ⟨rfl, (by repeat (first | with_reducible assumption | with_reducible exact New.refl _ | with_reducible refine New.alloc ?_ _ | with_reducible refine New.drew ?_ | with_reducible refine New.drewN ?_ _ | refine New.setCell ?_ (by first | (simp; done) | omega | (simp; omega)) _ | with_reducible refine New.trans ?_ (by with_reducible assumption)))⟩
/-- The state of the host with a number. -/
def stateZ (hs : List Hst) (N : Int) : Int := if poolB hs = true then (match hs.find? fun h => h.num == N with
  | some h => h.st
  | none => 0) else 0
theorem stateZ_no {hs : List Hst} {N : Int} (h : poolB hs = false) : stateZ hs N = 0 := by simp [stateZ, h]
theorem stateZ_hit {hs : List Hst} {N : Int} (h : poolB hs = true) {k : Nat} {x : Hst} (hx : hs[k]? = some x) (hN : x.num = N) (hno : ∀ j, j < k → ∀ y, hs[j]? = some y → y.num ≠ N) : stateZ hs N = x.st := by
  have hk : k < hs.length := (List.getElem?_eq_some_iff.1 hx).1
  have : hs.find? (fun h => h.num == N) = some x := by
    rw [List.find?_eq_some_iff_getElem]
    refine ⟨by simpa using hN, k, hk, (List.getElem?_eq_some_iff.1 hx).2, fun j hj => ?_⟩
    have := hno j hj hs[j] (by simp [Nat.lt_trans hj hk])
    simpa using this
  simp [stateZ, h, this]
theorem stateZ_none {hs : List Hst} {N : Int} (hno : ∀ j, j < hs.length → ∀ y, hs[j]? = some y → y.num ≠ N) : stateZ hs N = 0 := by
  have : hs.find? (fun h => h.num == N) = none := by
    rw [List.find?_eq_none]
    intro x hx
    obtain ⟨k, hk, rfl⟩ := List.getElem_of_mem hx
    have := hno k hk hs[k] (by simp [hk])
    simpa using this
  unfold stateZ
  rw [this]
  split <;> rfl
theorem hostState_impl (A : Option Addr) (n c : Nat) (hs : List Hst) (N : Int) (w : World) (hn : hs.length = n) (hm : n ≤ maxLen) (h : Ints w A (flat hs)) :
    Calls Try.prog 17 #[.slice A n c, .int .i64 N] w fun e w' => e = .returned (.int .i64 (stateZ hs N)) ∧ New w w' := by
  have hm' := hm
  unfold maxLen at hm'
  rcases idx_cases hs N with ⟨k, x, hx, hN, hno, hi⟩ | ⟨hno, hi⟩
  · have hk : k < n := by rw [← hn]; exact (List.getElem?_eq_some_iff.1 hx).1
    have HI := Lib.hid hi
    have HN := Lib.hid hn
    have HX := Lib.hid hx
    cases hP : poolB hs
    · have HS := Lib.hid (stateZ_no (N := N) hP)
      clear hi hn hx hno hN
      go_enter Try.func17, Try.ntmps17
      go_wp2_with fail
      refine (hostAt_any A n c hs N _ HN.out hm h).mono ?_
      rintro e w1 ⟨rfl, b1⟩
      rw [HI.out]
      have hc1 := New.cells b1; have hf1 := New.marks b1; have hz1 := New.le b1; try simp only [World.size_alloc, World.size_setCell] at hz1
      try have z1_0_0 : w.heap.size < w1.heap.size := by omega
      try have z1_0_1 : w.heap.size + 1 < w1.heap.size := by omega
      try have z1_0_2 : w.heap.size + 2 < w1.heap.size := by omega
      go_wp2_with fail
      refine (poolValid_impl A n c hs _ HN.out hm (h.new b1)).mono ?_
      rintro e w2 ⟨rfl, b2⟩
      rw [hP]
      have hc2 := New.cells b2; have hf2 := New.marks b2; have hz2 := New.le b2; try simp only [World.size_alloc, World.size_setCell] at hz2
      try have z2_0_0 : w.heap.size < w2.heap.size := by omega
      try have z2_0_1 : w.heap.size + 1 < w2.heap.size := by omega
      try have z2_0_2 : w.heap.size + 2 < w2.heap.size := by omega
      try have z2_1_0 : w1.heap.size < w2.heap.size := by omega
      try have z2_1_1 : w1.heap.size + 1 < w2.heap.size := by omega
      try have z2_1_2 : w1.heap.size + 2 < w2.heap.size := by omega
      go_wp2_with fail
      go_ret
      exact ⟨by rw [HS.out]; rfl, (by repeat (first | with_reducible assumption | with_reducible exact New.refl _ | with_reducible refine New.alloc ?_ _ | with_reducible refine New.drew ?_ | with_reducible refine New.drewN ?_ _ | refine New.setCell ?_ (by first | (simp; done) | omega | (simp; omega)) _ | with_reducible refine New.trans ?_ (by with_reducible assumption)))⟩
    · have HS := Lib.hid (stateZ_hit hP hx hN hno)
      clear hi hn hx hno hN
      go_enter Try.func17, Try.ntmps17
      go_wp2_with fail
      refine (hostAt_any A n c hs N _ HN.out hm h).mono ?_
      rintro e w1 ⟨rfl, b1⟩
      rw [HI.out]
      have hc1 := New.cells b1; have hf1 := New.marks b1; have hz1 := New.le b1; try simp only [World.size_alloc, World.size_setCell] at hz1
      try have z1_0_0 : w.heap.size < w1.heap.size := by omega
      try have z1_0_1 : w.heap.size + 1 < w1.heap.size := by omega
      try have z1_0_2 : w.heap.size + 2 < w1.heap.size := by omega
      go_wp2_with fail
      refine (poolValid_impl A n c hs _ HN.out hm (h.new b1)).mono ?_
      rintro e w2 ⟨rfl, b2⟩
      rw [hP]
      have hc2 := New.cells b2; have hf2 := New.marks b2; have hz2 := New.le b2; try simp only [World.size_alloc, World.size_setCell] at hz2
      try have z2_0_0 : w.heap.size < w2.heap.size := by omega
      try have z2_0_1 : w.heap.size + 1 < w2.heap.size := by omega
      try have z2_0_2 : w.heap.size + 2 < w2.heap.size := by omega
      try have z2_1_0 : w1.heap.size < w2.heap.size := by omega
      try have z2_1_1 : w1.heap.size + 1 < w2.heap.size := by omega
      try have z2_1_2 : w1.heap.size + 2 < w2.heap.size := by omega
      obtain ⟨b, o, y, rfl, hy, hb, c0, c1, c2⟩ := hosts_at ((h.new b1).new b2) (k := k) (by rw [HN.out]; exact hk)
      obtain rfl : x = y := by rw [HX.out] at hy; exact Option.some.inj hy
      clear hy
      have hki : (k : Int) < (n : Int) := by omega
      clear hc1 hc2 hf1 hf2
      go_wp2_with fail
      go_ret
      exact ⟨by rw [HS.out]; rfl, (by repeat (first | with_reducible assumption | with_reducible exact New.refl _ | with_reducible refine New.alloc ?_ _ | with_reducible refine New.drew ?_ | with_reducible refine New.drewN ?_ _ | refine New.setCell ?_ (by first | (simp; done) | omega | (simp; omega)) _ | with_reducible refine New.trans ?_ (by with_reducible assumption)))⟩
  · have HI := Lib.hid hi
    have HN := Lib.hid hn
    have HS := Lib.hid (stateZ_none hno)
    clear hi hn hno
    cases hP : poolB hs
    all_goals
      go_enter Try.func17, Try.ntmps17
      go_wp2_with fail
      refine (hostAt_any A n c hs N _ HN.out hm h).mono ?_
      rintro e w1 ⟨rfl, b1⟩
      rw [HI.out]
      have hc1 := New.cells b1; have hf1 := New.marks b1; have hz1 := New.le b1; try simp only [World.size_alloc, World.size_setCell] at hz1
      try have z1_0_0 : w.heap.size < w1.heap.size := by omega
      try have z1_0_1 : w.heap.size + 1 < w1.heap.size := by omega
      try have z1_0_2 : w.heap.size + 2 < w1.heap.size := by omega
      go_wp2_with fail
      refine (poolValid_impl A n c hs _ HN.out hm (h.new b1)).mono ?_
      rintro e w2 ⟨rfl, b2⟩
      rw [hP]
      have hc2 := New.cells b2; have hf2 := New.marks b2; have hz2 := New.le b2; try simp only [World.size_alloc, World.size_setCell] at hz2
      try have z2_0_0 : w.heap.size < w2.heap.size := by omega
      try have z2_0_1 : w.heap.size + 1 < w2.heap.size := by omega
      try have z2_0_2 : w.heap.size + 2 < w2.heap.size := by omega
      try have z2_1_0 : w1.heap.size < w2.heap.size := by omega
      try have z2_1_1 : w1.heap.size + 1 < w2.heap.size := by omega
      try have z2_1_2 : w1.heap.size + 2 < w2.heap.size := by omega
      go_wp2_with fail
      go_ret
      exact ⟨by rw [HS.out]; rfl, (by repeat (first | with_reducible assumption | with_reducible exact New.refl _ | with_reducible refine New.alloc ?_ _ | with_reducible refine New.drew ?_ | with_reducible refine New.drewN ?_ _ | refine New.setCell ?_ (by first | (simp; done) | omega | (simp; omega)) _ | with_reducible refine New.trans ?_ (by with_reducible assumption)))⟩
theorem hostState_spec (A : Option Addr) (n c : Nat) (hs : List Hst) (N : Int) (w : World) (hn : hs.length = n) (hm : n ≤ maxLen) (h : Ints w A (flat hs)) :
    Calls Try.prog 89 #[.slice A n c, .int .i64 N] w fun e w' => e = .returned (.int .i64 (stateZ hs N)) ∧ New w w' := by
  have hm' := hm
  unfold maxLen at hm'
  have HN := Lib.hid hn
  cases hP : poolB hs
  · have HS := Lib.hid (stateZ_no (N := N) hP)
    clear hn
    go_enter Try.func89, Try.ntmps89
    go_wp2_with fail
    go_loopw [5] (fun i wr => i = .int .i64 0 ∧ New w wr) (fun _ _ => 0)
    case atStart => exact ⟨rfl, New.refl _⟩
    case round =>
      obtain ⟨rfl, hnew⟩ := hrel
      by_cases h0 : 0 < n
      · go_wp2_with fail
        refine (poolValid_spec A n c hs _ HN.out hm (h.new hnew)).mono ?_
        rintro e w1 ⟨rfl, b1⟩
        rw [hP]
        go_wp2_with fail
        go_ret
        exact ⟨by rw [HS.out]; rfl, (by repeat (first | with_reducible assumption | with_reducible exact New.refl _ | with_reducible refine New.alloc ?_ _ | with_reducible refine New.drew ?_ | with_reducible refine New.drewN ?_ _ | refine New.setCell ?_ (by first | (simp; done) | omega | (simp; omega)) _ | with_reducible refine New.trans ?_ (by with_reducible assumption)))⟩
      · obtain rfl : n = 0 := by omega
        go_wp2_with fail
        go_ret
        exact ⟨by rw [HS.out]; rfl, (by repeat (first | with_reducible assumption | with_reducible exact New.refl _ | with_reducible refine New.alloc ?_ _ | with_reducible refine New.drew ?_ | with_reducible refine New.drewN ?_ _ | refine New.setCell ?_ (by first | (simp; done) | omega | (simp; omega)) _ | with_reducible refine New.trans ?_ (by with_reducible assumption)))⟩
  · have HP := Lib.hid hP
    clear hP hn
    go_enter Try.func89, Try.ntmps89
    go_wp2_with fail
    go_loopw [5] (fun i wr => ∃ k : Nat, k ≤ n ∧ i = .int .i64 k ∧ Hid (∀ j, j < k → ∀ y, hs[j]? = some y → y.num ≠ N) ∧ New w wr) (fun i _ => n - (intOf i).toNat)
    case atStart => exact ⟨0, Nat.zero_le _, rfl, Lib.hid (fun j hj => absurd hj (by omega)), New.refl _⟩
    case round =>
      obtain ⟨k, hk, rfl, HK, hnew⟩ := hrel
      by_cases hlt : k < n
      · have hki : (k : Int) < (n : Int) := by omega
        go_wp2_with fail
        refine (poolValid_spec A n c hs _ HN.out hm (h.new hnew)).mono ?_
        rintro e w1 ⟨rfl, b1⟩
        rw [HP.out]
        have hnew1 := hnew.trans b1
        obtain ⟨b, o, x, rfl, hx, hb, c0, c1, c2⟩ := hosts_at (h.new hnew1) (k := k) (by rw [HN.out]; exact hlt)
        have HX := Lib.hid hx
        clear hx
        obtain ⟨x0, x1, x2⟩ := x
        simp only at c0 c1 c2 HX
        by_cases he : x0 = N
        · have he' : (x0 == N) = true := by simpa using he
          have HI := Lib.hid (stateZ_hit HP.out HX.out he HK.out)
          clear he
          go_wp2_with fail
          go_ret
          exact ⟨by rw [HI.out]; rfl, (by repeat (first | with_reducible assumption | with_reducible exact New.refl _ | with_reducible refine New.alloc ?_ _ | with_reducible refine New.drew ?_ | with_reducible refine New.drewN ?_ _ | refine New.setCell ?_ (by first | (simp; done) | omega | (simp; omega)) _ | with_reducible refine New.trans ?_ (by with_reducible assumption)))⟩
        · have he' : (x0 == N) = false := by simpa using he
          have HI := Lib.hid (show ∀ y, hs[k]? = some y → y.num ≠ N by
            intro y hy
            rw [HX.out] at hy
            obtain rfl := Option.some.inj hy
            exact he)
          clear he
          go_wp2_with fail
          go_roundw
          case rel => exact ⟨k + 1, by omega, by go_num, Lib.hid (all_succ (P := fun j => ∀ y, hs[j]? = some y → y.num ≠ N) HK.out HI.out), hnew1⟩
          case measure => simp [intOf]; omega
      · obtain rfl : k = n := by omega
        have HI := Lib.hid (stateZ_none (hs := hs) (N := N) (by rw [HN.out]; exact HK.out))
        go_wp2_with fail
        go_ret
        exact ⟨by rw [HI.out]; rfl, (by repeat (first | with_reducible assumption | with_reducible exact New.refl _ | with_reducible refine New.alloc ?_ _ | with_reducible refine New.drew ?_ | with_reducible refine New.drewN ?_ _ | refine New.setCell ?_ (by first | (simp; done) | omega | (simp; omega)) _ | with_reducible refine New.trans ?_ (by with_reducible assumption)))⟩
end Go.Proofs.Ytbnehcaallehbaa
