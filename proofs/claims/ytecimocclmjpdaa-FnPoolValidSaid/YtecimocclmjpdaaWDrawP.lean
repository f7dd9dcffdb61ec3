/- Laws on drawn pools: FnPoolValid, FnHostState, FnTotalWeight. -/
import Derived.Test.YtecimocclmjpdaaDrawK
import Derived.Test.YtecimocclmjpdaaTot
import Derived.Test.YtecimocclmjpdaaFlow
namespace Go.Proofs.Ytecimocclmjpdaa
open Go.RowKit

/-- An operation whose guard holds runs as one without. -/
theorem wpList_unguard {P : Program} {ops : Array Oper} {Q : Exit → Act → World → Prop} {o : Oper} {rest : List Oper} {a : Act} {w : World} (hw : Region.wanted o (yielded ops a.tmps) = true) (h : wpList P ops Q ({ o with guard := none } :: rest) a w) : wpList P ops Q (o :: rest) a w := by
  unfold wpList at h ⊢
  rw [if_pos hw]
  rw [if_pos (show Region.wanted { o with guard := none } (yielded ops a.tmps) = true from rfl)] at h
  exact h
theorem Ints.nilOf {w : World} {A : Option Addr} {zs : List Int} (h : zs = []) : Ints w A zs := by rw [h]; exact IntsK.nil
theorem ints_dropO {w : World} {g o : Nat} {zs : List Int} (h : Ints w (some ⟨g, o, none⟩) zs) (k : Nat) : Ints w (some ⟨g, o + k, none⟩) (zs.drop k) := by
  intro hn
  obtain ⟨b', o', hA, hc⟩ := h (by simp at hn; omega)
  obtain ⟨rfl, rfl⟩ : g = b' ∧ o = o' := by simpa using hA
  refine ⟨g, o + k, rfl, fun j hj => ?_⟩
  have hjk : k + j < zs.length := by simp at hj; omega
  rw [Nat.add_assoc, hc (k + j) hjk]
  simp [List.getD_eq_getElem?_getD, List.getElem?_drop]
theorem poolB_tail {x : Hst} {t : List Hst} (h : poolB (x :: t) = true) : poolB t = true := by
  rw [poolB_yes (hs := t) fun j hj => ?_]
  · have := pool_len h
    simp at this ⊢
    omega
  · have h1 := pool_step h (k := j + 1) (by simp; omega)
    cases j with
    | zero =>
      have hx : t[0]? = some t[0] := by simp [hj]
      rw [stepB_zero hx]
      exact stepB_host (hs := x :: t) (k := 1) (by simp [hj]) h1
    | succ j =>
      have hx : t[j + 1]? = some t[j + 1] := by simp [hj]
      have hy : t[j]? = some (t[j]'(by omega)) := by rw [List.getElem?_eq_getElem]
      rw [stepB_succ (by omega) (hs := t) (h := t[j + 1]) (g := t[j]'(by omega)) hx hy]
      rw [stepB_succ (by omega) (hs := x :: t) (h := t[j + 1]) (g := t[j]'(by omega)) hx hy] at h1
      exact h1
theorem poolB_twice (x : Hst) (t : List Hst) : poolB (x :: x :: t) = false := by
  refine poolB_no (k := 1) (by simp) ?_
  rw [stepB_succ (by omega) (h := x) (g := x) rfl rfl]
  simp

set_option maxRecDepth 100000 in
set_option maxHeartbeats 2000000 in
theorem walk_FnPoolValid (A : Option Addr) (n c : Nat) (zs : List Int) (w : World) (H : ArgInts .u8 w A n c 1 zs) :
    Calls Try.prog 6 #[.slice A n c] w fun e w' => e = .returned (.bool true) ∧ New w w' := by
  obtain ⟨i0, hi, iz0, iz1, iz2⟩ := info_parts host_info
  have hc := CodeArg.of H
  have hm := hc.2.1
  unfold maxLen at hm
  clear H
  by_cases hbig : 1048576 < n
  · go_enter Try.func6, Try.ntmps6
    go_wp2_with fail
    go_ret
    exact ⟨rfl, (by repeat (first | with_reducible assumption | with_reducible exact New.refl _ | with_reducible refine New.alloc ?_ _ | with_reducible refine New.drew ?_ | with_reducible refine New.drewN ?_ _ | refine New.setCell ?_ (by first | (simp; done) | omega | (simp; omega)) _ | with_reducible refine New.trans ?_ (by with_reducible assumption)))⟩
  go_enter Try.func6, Try.ntmps6
  go_wp2_with fail
  refine (DrawPoolValid_any A n c zs _ hc).mono ?_
  rintro e w1 ⟨A', c', hs, rfl, l7, lc, cm, hpl, hI, b1⟩
  obtain ⟨k, hk⟩ : ∃ k, hs.length = k := ⟨_, rfl⟩
  rw [hk] at l7 lc ⊢
  have HK := Lib.hid hk
  have hml : k ≤ maxLen := by unfold maxLen; omega
  clear hk hc
  cases hP : poolB hs
  · skip
    go_wp2_with fail
    refine (poolValid_impl A' k c' hs _ HK.out hml hI).mono ?_
    rintro e w2 ⟨rfl, b2⟩
    rw [hP]
    have hc2 := New.cells b2; have hf2 := New.marks b2; have hz2 := New.le b2; try simp only [World.size_alloc, World.size_setCell] at hz2
    try have z2_0_0 : w.heap.size < w2.heap.size := by omega
    try have z2_0_1 : w.heap.size + 1 < w2.heap.size := by omega
    try have z2_0_2 : w.heap.size + 2 < w2.heap.size := by omega
    try have z2_1_0 : w1.heap.size < w2.heap.size := by omega
    try have z2_1_1 : w1.heap.size + 1 < w2.heap.size := by omega
    try have z2_1_2 : w1.heap.size + 2 < w2.heap.size := by omega
    have I2 := hI.new b2
    go_wp2_with fail
    refine (poolValid_spec A' k c' hs _ HK.out hml I2).mono ?_
    rintro e w3 ⟨rfl, b3⟩
    rw [hP]
    have hc3 := New.cells b3; have hf3 := New.marks b3; have hz3 := New.le b3; try simp only [World.size_alloc, World.size_setCell] at hz3
    try have z3_0_0 : w.heap.size < w3.heap.size := by omega
    try have z3_0_1 : w.heap.size + 1 < w3.heap.size := by omega
    try have z3_0_2 : w.heap.size + 2 < w3.heap.size := by omega
    try have z3_1_0 : w1.heap.size < w3.heap.size := by omega
    try have z3_1_1 : w1.heap.size + 1 < w3.heap.size := by omega
    try have z3_1_2 : w1.heap.size + 2 < w3.heap.size := by omega
    try have z3_2_0 : w2.heap.size < w3.heap.size := by omega
    try have z3_2_1 : w2.heap.size + 1 < w3.heap.size := by omega
    try have z3_2_2 : w2.heap.size + 2 < w3.heap.size := by omega
    go_wp2_with fail
    refine (alive_any _).mono ?_
    rintro e w4 ⟨rfl, b4⟩
    have hc4 := New.cells b4; have hf4 := New.marks b4; have hz4 := New.le b4; try simp only [World.size_alloc, World.size_setCell] at hz4
    try have z4_0_0 : w.heap.size < w4.heap.size := by omega
    try have z4_0_1 : w.heap.size + 1 < w4.heap.size := by omega
    try have z4_0_2 : w.heap.size + 2 < w4.heap.size := by omega
    try have z4_1_0 : w1.heap.size < w4.heap.size := by omega
    try have z4_1_1 : w1.heap.size + 1 < w4.heap.size := by omega
    try have z4_1_2 : w1.heap.size + 2 < w4.heap.size := by omega
    try have z4_2_0 : w2.heap.size < w4.heap.size := by omega
    try have z4_2_1 : w2.heap.size + 1 < w4.heap.size := by omega
    try have z4_2_2 : w2.heap.size + 2 < w4.heap.size := by omega
    try have z4_3_0 : w3.heap.size < w4.heap.size := by omega
    try have z4_3_1 : w3.heap.size + 1 < w4.heap.size := by omega
    try have z4_3_2 : w3.heap.size + 2 < w4.heap.size := by omega
    go_wp2_with fail
    go_ret
    exact ⟨rfl, (by repeat (first | with_reducible assumption | with_reducible exact New.refl _ | with_reducible refine New.alloc ?_ _ | with_reducible refine New.drew ?_ | with_reducible refine New.drewN ?_ _ | refine New.setCell ?_ (by first | (simp; done) | omega | (simp; omega)) _ | with_reducible refine New.trans ?_ (by with_reducible assumption)))⟩
  by_cases hk0 : k = 0
  · subst hk0
    go_wp2_with fail
    refine (poolValid_impl A' 0 c' hs _ HK.out hml hI).mono ?_
    rintro e w2 ⟨rfl, b2⟩
    rw [hP]
    have hc2 := New.cells b2; have hf2 := New.marks b2; have hz2 := New.le b2; try simp only [World.size_alloc, World.size_setCell] at hz2
    try have z2_0_0 : w.heap.size < w2.heap.size := by omega
    try have z2_0_1 : w.heap.size + 1 < w2.heap.size := by omega
    try have z2_0_2 : w.heap.size + 2 < w2.heap.size := by omega
    try have z2_1_0 : w1.heap.size < w2.heap.size := by omega
    try have z2_1_1 : w1.heap.size + 1 < w2.heap.size := by omega
    try have z2_1_2 : w1.heap.size + 2 < w2.heap.size := by omega
    have I2 := hI.new b2
    go_wp2_with fail
    refine (poolValid_spec A' 0 c' hs _ HK.out hml I2).mono ?_
    rintro e w3 ⟨rfl, b3⟩
    rw [hP]
    have hc3 := New.cells b3; have hf3 := New.marks b3; have hz3 := New.le b3; try simp only [World.size_alloc, World.size_setCell] at hz3
    try have z3_0_0 : w.heap.size < w3.heap.size := by omega
    try have z3_0_1 : w.heap.size + 1 < w3.heap.size := by omega
    try have z3_0_2 : w.heap.size + 2 < w3.heap.size := by omega
    try have z3_1_0 : w1.heap.size < w3.heap.size := by omega
    try have z3_1_1 : w1.heap.size + 1 < w3.heap.size := by omega
    try have z3_1_2 : w1.heap.size + 2 < w3.heap.size := by omega
    try have z3_2_0 : w2.heap.size < w3.heap.size := by omega
    try have z3_2_1 : w2.heap.size + 1 < w3.heap.size := by omega
    try have z3_2_2 : w2.heap.size + 2 < w3.heap.size := by omega
    go_wp2_with fail
    refine (alive_any _).mono ?_
    rintro e w4 ⟨rfl, b4⟩
    have hc4 := New.cells b4; have hf4 := New.marks b4; have hz4 := New.le b4; try simp only [World.size_alloc, World.size_setCell] at hz4
    try have z4_0_0 : w.heap.size < w4.heap.size := by omega
    try have z4_0_1 : w.heap.size + 1 < w4.heap.size := by omega
    try have z4_0_2 : w.heap.size + 2 < w4.heap.size := by omega
    try have z4_1_0 : w1.heap.size < w4.heap.size := by omega
    try have z4_1_1 : w1.heap.size + 1 < w4.heap.size := by omega
    try have z4_1_2 : w1.heap.size + 2 < w4.heap.size := by omega
    try have z4_2_0 : w2.heap.size < w4.heap.size := by omega
    try have z4_2_1 : w2.heap.size + 1 < w4.heap.size := by omega
    try have z4_2_2 : w2.heap.size + 2 < w4.heap.size := by omega
    try have z4_3_0 : w3.heap.size < w4.heap.size := by omega
    try have z4_3_1 : w3.heap.size + 1 < w4.heap.size := by omega
    try have z4_3_2 : w3.heap.size + 2 < w4.heap.size := by omega
    go_wp2_with fail
    go_ret
    exact ⟨rfl, (by repeat (first | with_reducible assumption | with_reducible exact New.refl _ | with_reducible refine New.alloc ?_ _ | with_reducible refine New.drew ?_ | with_reducible refine New.drewN ?_ _ | refine New.setCell ?_ (by first | (simp; done) | omega | (simp; omega)) _ | with_reducible refine New.trans ?_ (by with_reducible assumption)))⟩
  obtain ⟨x, t, rfl⟩ : ∃ x t, hs = x :: t := by
    cases hs with
    | nil => exact absurd HK.out.symm hk0
    | cons x t => exact ⟨x, t, rfl⟩
  have hkp : 0 < k := by omega
  have hkb : ((k : Int) == 0) = false := by simp; omega
  have hTl := Lib.hid (show t.length = k - 1 by have := HK.out; simp at this; omega)
  have hFl := Lib.hid (show (flat (x :: t)).length = k * 3 by rw [flat_len, HK.out])
  obtain ⟨g, rfl⟩ : ∃ g, A' = some ⟨g, 0, none⟩ := by
    rcases hpl with h0 | h0
    · exfalso
      obtain ⟨b, o, hA, _⟩ := hI (by rw [hFl.out]; omega)
      rw [h0] at hA
      cases hA
    · exact h0
  have HT := Lib.hid (poolB_tail hP)
  have HW := Lib.hid (poolB_twice x t)
  obtain ⟨b', o', x', hA, hx', hb, c0, c1, c2⟩ := hosts_at hI (k := 0) (by simp)
  obtain ⟨rfl, rfl⟩ : g = b' ∧ 0 = o' := by simpa using hA
  obtain rfl : x = x' := by simpa using hx'
  simp only [Nat.zero_mul, Nat.add_zero, Nat.zero_add] at c0 c1 c2
  clear hx' hA hpl
  have hT3 : ∀ w' : World, Ints w' (some ⟨g, 0, none⟩) (flat (x :: t)) → Ints w' (some ⟨g, 3, none⟩) (flat t) := fun w' h => by simpa [flat] using ints_dropO h 3
  have HT3 := Lib.hid hT3
  clear hT3
  have HI1 := Lib.hid hI
  have hki : (0 : Int) < (k : Int) := by omega
  by_cases hc1 : c' = 1
  · subst hc1
    obtain rfl : k = 1 := by omega
    have ht : t = [] := List.eq_nil_of_length_eq_zero hTl.out
    go_wp2_with fail
    refine (poolValid_impl _ 1 1 _ _ HK.out hml HI1.out).mono ?_
    rintro e w2 ⟨rfl, b2⟩
    rw [hP]
    have hc2 := New.cells b2; have hf2 := New.marks b2; have hz2 := New.le b2; try simp only [World.size_alloc, World.size_setCell] at hz2
    try have z2_0_0 : w.heap.size < w2.heap.size := by omega
    try have z2_0_1 : w.heap.size + 1 < w2.heap.size := by omega
    try have z2_0_2 : w.heap.size + 2 < w2.heap.size := by omega
    try have z2_1_0 : w1.heap.size < w2.heap.size := by omega
    try have z2_1_1 : w1.heap.size + 1 < w2.heap.size := by omega
    try have z2_1_2 : w1.heap.size + 2 < w2.heap.size := by omega
    have HI2 := Lib.hid (HI1.out.new b2)
    go_wp2_with fail
    refine (poolValid_spec _ 1 1 _ _ HK.out hml HI2.out).mono ?_
    rintro e w3 ⟨rfl, b3⟩
    rw [hP]
    have hc3 := New.cells b3; have hf3 := New.marks b3; have hz3 := New.le b3; try simp only [World.size_alloc, World.size_setCell] at hz3
    try have z3_0_0 : w.heap.size < w3.heap.size := by omega
    try have z3_0_1 : w.heap.size + 1 < w3.heap.size := by omega
    try have z3_0_2 : w.heap.size + 2 < w3.heap.size := by omega
    try have z3_1_0 : w1.heap.size < w3.heap.size := by omega
    try have z3_1_1 : w1.heap.size + 1 < w3.heap.size := by omega
    try have z3_1_2 : w1.heap.size + 2 < w3.heap.size := by omega
    try have z3_2_0 : w2.heap.size < w3.heap.size := by omega
    try have z3_2_1 : w2.heap.size + 1 < w3.heap.size := by omega
    try have z3_2_2 : w2.heap.size + 2 < w3.heap.size := by omega
    have HI3 := Lib.hid (HI2.out.new b3)
    go_wp2_with fail
    refine (poolValid_impl _ 0 0 t _ hTl.out (by unfold maxLen; omega) (Ints.nilOf (by rw [ht]; rfl))).mono ?_
    rintro e w4 ⟨rfl, b4⟩
    rw [HT.out]
    have HI4 := Lib.hid (HI3.out.new b4)
    have hb4 : g < w4.heap.size := b4.lts _ (b3.lts _ (b2.lts _ hb))
    have b14 := (b2.trans b3).trans b4
    have d0 : w4.cell? ⟨g, 0, none⟩ = some (.int .i64 x.num) := (Below.cell b14 (p := ⟨g, 0, none⟩) hb).trans c0
    have d1 : w4.cell? ⟨g, 1, none⟩ = some (.int .i64 x.wt) := (Below.cell b14 (p := ⟨g, 1, none⟩) hb).trans c1
    have d2 : w4.cell? ⟨g, 2, none⟩ = some (.int .i64 x.st) := (Below.cell b14 (p := ⟨g, 2, none⟩) hb).trans c2
    have HB14 := Lib.hid (b1.trans b14)
    have bA := (New.refl w4).alloc (.cells #[.int .i64 x.num, .int .i64 x.wt, .int .i64 x.st] 46)
    have oL : Own 46 3 w4.heap.size (w4.alloc (.cells #[.int .i64 x.num, .int .i64 x.wt, .int .i64 x.st] 46)) (some ⟨w4.heap.size, 0, none⟩) 1 1 [x.num, x.wt, x.st] := World.ownsRow_lit w4 #[.int .i64 x.num, .int .i64 x.wt, .int .i64 x.st] 1 (Nat.le_refl _) (by unfold maxLen; omega) rfl
    have OL := Lib.hid oL
    have HA4 := Lib.hid (HI4.out.new bA)
    have BA := Lib.hid bA
    clear oL bA c0 c1 c2 b14 b2 b3 b4 hI
    go_wp2_with (at_builtin; refine wpList_unguard rfl ?_; refine wpList_append_Own _ rfl (.tmp 31) (.tmp 32) 32 rfl w4 46 i0 _ 3 24 Try.underlying32 hi iz0 iz1 iz2 rfl (by omega) (by omega) _ 1 1 _ rfl OL.out _ 1 1 _ rfl hFl.out HA4.out (by omega) (by omega) BA.out ?_; intro A5 c5 w5 e1 e2 o5 n5 _)
    refine (poolValid_impl A5 (1 + 1) c5 (x :: x :: t) _ (by have := HK.out; rw [List.length_cons]; omega) (by unfold maxLen; omega) o5.ints).mono ?_
    rintro e w6 ⟨rfl, b6⟩
    rw [HW.out]
    go_wp2_with fail
    go_ret
    exact ⟨rfl, (HB14.out.trans n5).trans b6⟩
  · skip
    go_wp2_with fail
    refine (poolValid_impl _ k c' _ _ HK.out hml HI1.out).mono ?_
    rintro e w2 ⟨rfl, b2⟩
    rw [hP]
    have hc2 := New.cells b2; have hf2 := New.marks b2; have hz2 := New.le b2; try simp only [World.size_alloc, World.size_setCell] at hz2
    try have z2_0_0 : w.heap.size < w2.heap.size := by omega
    try have z2_0_1 : w.heap.size + 1 < w2.heap.size := by omega
    try have z2_0_2 : w.heap.size + 2 < w2.heap.size := by omega
    try have z2_1_0 : w1.heap.size < w2.heap.size := by omega
    try have z2_1_1 : w1.heap.size + 1 < w2.heap.size := by omega
    try have z2_1_2 : w1.heap.size + 2 < w2.heap.size := by omega
    have HI2 := Lib.hid (HI1.out.new b2)
    go_wp2_with fail
    refine (poolValid_spec _ k c' _ _ HK.out hml HI2.out).mono ?_
    rintro e w3 ⟨rfl, b3⟩
    rw [hP]
    have hc3 := New.cells b3; have hf3 := New.marks b3; have hz3 := New.le b3; try simp only [World.size_alloc, World.size_setCell] at hz3
    try have z3_0_0 : w.heap.size < w3.heap.size := by omega
    try have z3_0_1 : w.heap.size + 1 < w3.heap.size := by omega
    try have z3_0_2 : w.heap.size + 2 < w3.heap.size := by omega
    try have z3_1_0 : w1.heap.size < w3.heap.size := by omega
    try have z3_1_1 : w1.heap.size + 1 < w3.heap.size := by omega
    try have z3_1_2 : w1.heap.size + 2 < w3.heap.size := by omega
    try have z3_2_0 : w2.heap.size < w3.heap.size := by omega
    try have z3_2_1 : w2.heap.size + 1 < w3.heap.size := by omega
    try have z3_2_2 : w2.heap.size + 2 < w3.heap.size := by omega
    have HI3 := Lib.hid (HI2.out.new b3)
    go_wp2_with fail
    refine (poolValid_impl (some ⟨g, 3, none⟩) (k - 1) (c' - 1) t _ hTl.out (by unfold maxLen; omega) (HT3.out _ HI3.out)).mono ?_
    rintro e w4 ⟨rfl, b4⟩
    rw [HT.out]
    have HI4 := Lib.hid (HI3.out.new b4)
    have hb4 : g < w4.heap.size := b4.lts _ (b3.lts _ (b2.lts _ hb))
    have b14 := (b2.trans b3).trans b4
    have d0 : w4.cell? ⟨g, 0, none⟩ = some (.int .i64 x.num) := (Below.cell b14 (p := ⟨g, 0, none⟩) hb).trans c0
    have d1 : w4.cell? ⟨g, 1, none⟩ = some (.int .i64 x.wt) := (Below.cell b14 (p := ⟨g, 1, none⟩) hb).trans c1
    have d2 : w4.cell? ⟨g, 2, none⟩ = some (.int .i64 x.st) := (Below.cell b14 (p := ⟨g, 2, none⟩) hb).trans c2
    have HB14 := Lib.hid (b1.trans b14)
    have bA := (New.refl w4).alloc (.cells #[.int .i64 x.num, .int .i64 x.wt, .int .i64 x.st] 46)
    have oL : Own 46 3 w4.heap.size (w4.alloc (.cells #[.int .i64 x.num, .int .i64 x.wt, .int .i64 x.st] 46)) (some ⟨w4.heap.size, 0, none⟩) 1 1 [x.num, x.wt, x.st] := World.ownsRow_lit w4 #[.int .i64 x.num, .int .i64 x.wt, .int .i64 x.st] 1 (Nat.le_refl _) (by unfold maxLen; omega) rfl
    have OL := Lib.hid oL
    have HA4 := Lib.hid (HI4.out.new bA)
    have BA := Lib.hid bA
    clear oL bA c0 c1 c2 b14 b2 b3 b4 hI
    go_wp2_with (at_builtin; refine wpList_unguard rfl ?_; refine wpList_append_Own _ rfl (.tmp 31) (.tmp 32) 32 rfl w4 46 i0 _ 3 24 Try.underlying32 hi iz0 iz1 iz2 rfl (by omega) (by omega) _ 1 1 _ rfl OL.out _ k c' _ rfl hFl.out HA4.out (by omega) (by omega) BA.out ?_; intro A5 c5 w5 e1 e2 o5 n5 _)
    refine (poolValid_impl A5 (1 + k) c5 (x :: x :: t) _ (by have := HK.out; rw [List.length_cons]; omega) (by unfold maxLen; omega) o5.ints).mono ?_
    rintro e w6 ⟨rfl, b6⟩
    rw [HW.out]
    go_wp2_with fail
    go_ret
    exact ⟨rfl, (HB14.out.trans n5).trans b6⟩
end Go.Proofs.Ytecimocclmjpdaa
