/- The host with the fewest flows for its weight. -/
import Derived.Test.YtdcobkngbpkdfaaTot
import Derived.Test.YtdcobkngbpkdfaaInts
namespace Go.Proofs.Ytdcobkngbpkdfaa
set_option linter.unusedVariables false
set_option linter.unusedSimpArgs false
open Go.RowKit

/-- Is b fewer for its weight than a, by the flows? -/
def fewB (fs : List Int) (a b : Hst) : Bool := decide (a.num < 0) || decide ((fs.count b.num : Int) * a.wt < (fs.count a.num : Int) * b.wt)
def fewL (fs : List Int) (l : List Hst) : Hst := l.foldl (fun a b => if fewB fs a b = true then b else a) ⟨-1, 0, 0⟩
def fewZ (hs : List Hst) (fs : List Int) : Int := if poolB hs = true then (fewL fs (ups hs)).num else -1
theorem fewZ_no {hs : List Hst} {fs : List Int} (h : poolB hs = false) : fewZ hs fs = -1 := by simp [fewZ, h]
theorem fewZ_yes {hs : List Hst} {fs : List Int} (h : poolB hs = true) : fewZ hs fs = (fewL fs (ups hs)).num := by simp [fewZ, h]
theorem fewL_take {fs : List Int} {l : List Hst} {k : Nat} {x : Hst} (hx : l[k]? = some x) : fewL fs (l.take (k + 1)) = if fewB fs (fewL fs (l.take k)) x = true then x else fewL fs (l.take k) := by
  unfold fewL
  rw [List.take_add_one, hx]
  simp
theorem fewL_snoc (fs : List Int) (l : List Hst) (x : Hst) : fewL fs (l ++ [x]) = if fewB fs (fewL fs l) x = true then x else fewL fs l := by
  unfold fewL
  rw [List.foldl_append]
  rfl
theorem mul_bd {a b : Int} (h0 : 0 ≤ a) (h1 : a ≤ 1048576) (g0 : 0 ≤ b) (g1 : b ≤ 5) : 0 ≤ a * b ∧ a * b ≤ 5242880 := by
  have := Int.mul_nonneg h0 g0
  have h2 := Int.mul_le_mul h1 g1 g0 (by omega)
  omega

set_option maxRecDepth 100000 in
theorem fewHost_impl (A : Option Addr) (n c : Nat) (hs : List Hst) (A' : Option Addr) (n' c' : Nat) (fs : List Int) (w : World) (hn : hs.length = n) (hm : n ≤ 1048576) (h : Ints w A (flat hs)) (hn' : fs.length = n') (hm' : n' ≤ 1048576) (h' : Ints w A' fs) :
    Calls Try.prog 39 #[.slice A n c, .slice A' n' c'] w fun e w' => e = .returned (.int .i64 (fewZ hs fs)) ∧ New w w' := by
  have hml : n ≤ maxLen := by unfold maxLen; omega
  have hml' : n' ≤ maxLen := by unfold maxLen; omega
  have HN := Lib.hid hn
  have HN' := Lib.hid hn'
  clear hn hn'
  cases hP : poolB hs
  · have HS := Lib.hid (fewZ_no (fs := fs) hP)
    go_enter Try.func39, Try.ntmps39
    go_wp2_with fail
    refine (poolValid_impl A n c hs _ HN.out hml h).mono ?_
    rintro e w1 ⟨rfl, b1⟩
    rw [hP]
    have hc1 := New.cells b1; have hf1 := New.marks b1; have hz1 := New.le b1; try simp only [World.size_alloc, World.size_setCell] at hz1
    try have z1_0_0 : w.heap.size < w1.heap.size := by omega
    try have z1_0_1 : w.heap.size + 1 < w1.heap.size := by omega
    try have z1_0_2 : w.heap.size + 2 < w1.heap.size := by omega
    go_wp2_with fail
    go_ret
    exact ⟨by rw [HS.out]; rfl, (by repeat (first | with_reducible assumption | with_reducible exact New.refl _ | with_reducible refine New.alloc ?_ _ | with_reducible refine New.drew ?_ | with_reducible refine New.drewN ?_ _ | refine New.setCell ?_ (by first | (simp; done) | omega | (simp; omega)) _ | with_reducible refine New.trans ?_ (by with_reducible assumption)))⟩
  have HS := Lib.hid (fewZ_yes (fs := fs) hP)
  have hul := ups_len hs
  have hpl := pool_len hP
  have hmem := Lib.hid (fun x hx => hostB_bd (pool_mem hP (x := x) hx))
  go_enter Try.func39, Try.ntmps39
  go_wp2_with fail
  refine (poolValid_impl A n c hs _ HN.out hml h).mono ?_
  rintro e w1 ⟨rfl, b1⟩
  rw [hP]
  have hc1 := New.cells b1; have hf1 := New.marks b1; have hz1 := New.le b1; try simp only [World.size_alloc, World.size_setCell] at hz1
  try have z1_0_0 : w.heap.size < w1.heap.size := by omega
  try have z1_0_1 : w.heap.size + 1 < w1.heap.size := by omega
  try have z1_0_2 : w.heap.size + 2 < w1.heap.size := by omega
  clear hP
  go_wp2_with fail
  refine (up_any A n c hs _ HN.out hm (h.new b1)).mono ?_
  rintro e w2 ⟨A2, c2, rfl, hnc2, hcm2, o2, b2⟩
  have hI := o2.ints
  have B2 := b1.trans b2
  have hF := h'.new B2
  have HU : Hid (∃ us, us = ups hs) := Lib.hid ⟨_, rfl⟩
  obtain ⟨us, hus⟩ := HU.out
  rw [← hus] at hI hul HS ⊢
  have HUS := Lib.hid hus
  clear hus o2 hc1 hf1 h h'
  obtain ⟨m, hm2⟩ : ∃ m, m = us.length := ⟨_, rfl⟩
  rw [← hm2] at hul ⊢
  have HM := Lib.hid hm2
  clear hm2
  go_wp2_with fail
  go_loopw [5, 6, 7, 17] (fun v f t i wr => ∃ (k : Nat) (r : Hst) (q : Int), k ≤ m ∧ i = .int .i64 k ∧ Hid (fewL fs (us.take k) = r) ∧ v = .int .i64 r.num ∧ f = .int .i64 q ∧ 0 ≤ q ∧ q ≤ 1048576 ∧ t = .int .i64 (if r.num < 0 then 1 else r.wt) ∧ (r.num = -1 ∨ (0 ≤ r.num ∧ 0 ≤ r.wt ∧ r.wt ≤ 5 ∧ q = (fs.count r.num : Int))) ∧ New w2 wr) (fun _ _ _ i _ => m - (intOf i).toNat)
  case atStart => exact ⟨0, ⟨-1, 0, 0⟩, 0, Nat.zero_le _, rfl, Lib.hid rfl, rfl, rfl, by omega, by omega, rfl, .inl rfl, New.refl _⟩
  case round =>
    obtain ⟨k, ⟨r0, r1, r2⟩, q, hk, rfl, HR, rfl, rfl, q0, q1, rfl, hcase, hnew⟩ := hrel
    simp only at hcase ⊢
    by_cases hlt : k < m
    · obtain ⟨b, o, x, rfl, hx, hb, c0, c1, c2⟩ := hosts_at (hI.new hnew) (k := k) (by rw [← HM.out]; exact hlt)
      have hxw := hmem.out x (ups_mem (by rw [← HUS.out]; exact List.mem_of_getElem? hx))
      have HX := Lib.hid (fewL_take (fs := fs) hx)
      clear hx
      obtain ⟨x0, x1, x2⟩ := x
      simp only at c0 c1 c2 HX hxw
      rw [HR.out] at HX
      have hki : (k : Int) < (m : Int) := by omega
      obtain ⟨⟨u0, u1⟩, ⟨y0, y1⟩, _⟩ := hxw
      have hcl := List.count_le_length (a := x0) (l := fs)
      rw [HN'.out] at hcl
      obtain ⟨C, hC⟩ : ∃ C : Int, ((fs.count x0 : Nat) : Int) = C := ⟨_, rfl⟩
      have C0 : 0 ≤ C := by omega
      have C1 : C ≤ 1048576 := by omega
      clear hcl
      have HC := Lib.hid hC
      clear hC
      rcases hcase with rfl | ⟨p0, p1, p2, rfl⟩
      · have HX' : Hid (fewL fs (us.take (k + 1)) = ⟨x0, x1, x2⟩) := Lib.hid (by rw [HX.out]; simp [fewB])
        go_wp2_with fail
        refine (countOf_impl A' n' c' fs x0 _ HN'.out hml' (hF.new (hnew.alloc _))).mono ?_
        rintro e w' ⟨rfl, rfl⟩
        rw [HC.out]
        go_wp2_with fail
        go_quiet (fail)
        go_wp2_with fail
        go_roundw
        case rel => exact ⟨k + 1, ⟨x0, x1, x2⟩, C, by omega, by go_num, HX', rfl, rfl, C0, C1, by rw [if_neg (show ¬ x0 < 0 by omega)], .inr ⟨u0, show 0 ≤ x1 by omega, y1, HC.out.symm⟩, (hnew.alloc _).drewN _⟩
        case measure => simp [intOf]; omega
      · have hif : (if r0 < 0 then (1 : Int) else r1) = r1 := if_neg (by omega)
        rw [hif]
        have hd0 : decide (r0 < 0) = false := by simp; omega
        have hbd1 := mul_bd C0 C1 p1 p2
        have hbd2 := mul_bd q0 q1 (by omega : 0 ≤ x1) y1
        obtain ⟨L, hL⟩ : ∃ L, C * r1 = L := ⟨_, rfl⟩
        obtain ⟨M, hM⟩ : ∃ M, (fs.count r0 : Int) * x1 = M := ⟨_, rfl⟩
        rw [hL] at hbd1
        rw [hM] at hbd2
        by_cases hLM : L < M
        · have HX' : Hid (fewL fs (us.take (k + 1)) = ⟨x0, x1, x2⟩) := Lib.hid (by rw [HX.out, if_pos]; simp [fewB, HC.out, hL, hM, hLM])
          go_wp2_with fail
          refine (countOf_impl A' n' c' fs x0 _ HN'.out hml' (hF.new (hnew.alloc _))).mono ?_
          rintro e w' ⟨rfl, rfl⟩
          rw [HC.out]
          go_wp2_with fail
          go_quiet (fail)
          go_wp2_with fail
          go_roundw
          case rel => exact ⟨k + 1, ⟨x0, x1, x2⟩, C, by omega, by go_num, HX', rfl, rfl, C0, C1, by rw [if_neg (show ¬ x0 < 0 by omega)], .inr ⟨u0, show 0 ≤ x1 by omega, y1, HC.out.symm⟩, (hnew.alloc _).drewN _⟩
          case measure => simp [intOf]; omega
        · have hdL : decide (L < M) = false := by simp; omega
          have HX' : Hid (fewL fs (us.take (k + 1)) = ⟨r0, r1, r2⟩) := Lib.hid (by rw [HX.out, if_neg]; simp [fewB, HC.out, hL, hM]; omega)
          go_wp2_with fail
          refine (countOf_impl A' n' c' fs x0 _ HN'.out hml' (hF.new (hnew.alloc _))).mono ?_
          rintro e w' ⟨rfl, rfl⟩
          rw [HC.out]
          go_wp2_with fail
          go_roundw
          case rel => exact ⟨k + 1, ⟨r0, r1, r2⟩, _, by omega, by go_num, HX', rfl, rfl, q0, q1, by rw [hif], .inr ⟨p0, p1, p2, rfl⟩, hnew.alloc _⟩
          case measure => simp [intOf]; omega
    · obtain rfl : k = m := by omega
      clear hcase
      generalize (if r0 < 0 then (1 : Int) else r1) = tt
      have HT := Lib.hid (show us.take k = us from List.take_of_length_le (by rw [← HM.out]; exact Nat.le_refl _))
      go_wp2_with fail
      go_ret
      have hr := HR.out
      rw [HT.out] at hr
      exact ⟨ret_int (by rw [HS.out, hr]), B2.trans hnew⟩
theorem blkS {w : World} {g : Nat} {cs : Array Value} {T : TypeId} (h : w.heap[g]? = some (.cells cs T (0, 0))) (j : Nat) (u : Value) : (w.setCell ⟨g, j, none⟩ u).heap[g]? = some (.cells (cs.setIfInBounds j u) T (0, 0)) := heap_setCell_same w g j cs T u h
theorem cells3 {w : World} {g : Nat} {T : TypeId} {x0 x1 x2 : Value} (h : w.heap[g]? = some (.cells #[x0, x1, x2] T (0, 0))) :
    w.cell? ⟨g, 0, none⟩ = some x0 ∧ w.cell? ⟨g, 1, none⟩ = some x1 ∧ w.cell? ⟨g, 2, none⟩ = some x2 := by
  refine ⟨?_, ?_, ?_⟩ <;> (rw [cell_of_row _ _ _ _ _ _ h]; rfl)
theorem blkN {w w' : World} {g : Nat} {o : Obj} (h : w.heap[g]? = some o) (hg : New w w') : w'.heap[g]? = some o := (Below.block hg g (Array.getElem?_eq_some_iff.1 h).1).trans h
set_option maxRecDepth 100000 in
set_option maxHeartbeats 4000000 in
theorem fewHost_spec (A : Option Addr) (n c : Nat) (hs : List Hst) (A' : Option Addr) (n' c' : Nat) (fs : List Int) (w : World) (hn : hs.length = n) (hm : n ≤ 1048576) (h : Ints w A (flat hs)) (hn' : fs.length = n') (hm' : n' ≤ 1048576) (h' : Ints w A' fs) :
    Calls Try.prog 40 #[.slice A n c, .slice A' n' c'] w fun e w' => e = .returned (.int .i64 (fewZ hs fs)) ∧ New w w' := by
  have hml : n ≤ maxLen := by unfold maxLen; omega
  have hml' : n' ≤ maxLen := by unfold maxLen; omega
  have HN := Lib.hid hn
  have HN' := Lib.hid hn'
  clear hn hn'
  obtain ⟨w0, hw0⟩ : ∃ w0, w0 = w.alloc (.cells #[.int .i64 (-1), .int .i64 0, .int .i64 0] 63) := ⟨_, rfl⟩
  have b0 : New w w0 := by rw [hw0]; exact (New.refl w).alloc _
  have row0 := heap_alloc_new w (.cells #[.int .i64 (-1), .int .i64 0, .int .i64 0] 63)
  rw [← hw0] at row0
  have ROW0 := Lib.hid row0
  have B0 := Lib.hid b0
  clear row0 b0
  cases hP : poolB hs
  · have HS := Lib.hid (fewZ_no (fs := fs) hP)
    go_enter Try.func40, Try.ntmps40
    go_wp2_with fail
    rw [← hw0]
    clear hw0
    go_loopw [6] (fun i wr => i = .int .i64 0 ∧ wr.heap[w.heap.size]? = some (.cells #[.int .i64 (-1), .int .i64 0, .int .i64 0] 63 (0, 0)) ∧ New w wr) (fun _ _ => 0)
    case atStart => exact ⟨rfl, ROW0.out, B0.out⟩
    case round =>
      obtain ⟨rfl, hrow, hnew⟩ := hrel
      by_cases h0 : 0 < n
      · go_wp2_with fail
        refine (poolValid_spec A n c hs _ HN.out hml (h.new hnew)).mono ?_
        rintro e w1 ⟨rfl, b1⟩
        rw [hP]
        have row1 := blkN hrow b1
        have e0 : w1.cell? ⟨w.heap.size, 0, none⟩ = some (.int .i64 (-1)) := by rw [cell_of_row _ _ _ _ _ _ row1]; rfl
        clear hrow row1
        go_wp2_with fail
        go_ret
        exact ⟨by rw [HS.out]; rfl, (by repeat (first | with_reducible assumption | with_reducible exact New.refl _ | with_reducible refine New.alloc ?_ _ | with_reducible refine New.drew ?_ | with_reducible refine New.drewN ?_ _ | refine New.setCell ?_ (by first | (simp; done) | omega | (simp; omega)) _ | with_reducible refine New.trans ?_ (by with_reducible assumption)))⟩
      · obtain rfl : n = 0 := by omega
        have e0 := (cells3 hrow).1
        clear hrow
        go_wp2_with fail
        go_ret
        exact ⟨by rw [HS.out]; rfl, (by repeat (first | with_reducible assumption | with_reducible exact New.refl _ | with_reducible refine New.alloc ?_ _ | with_reducible refine New.drew ?_ | with_reducible refine New.drewN ?_ _ | refine New.setCell ?_ (by first | (simp; done) | omega | (simp; omega)) _ | with_reducible refine New.trans ?_ (by with_reducible assumption)))⟩
  have HS := Lib.hid (fewZ_yes (fs := fs) hP)
  have HP := Lib.hid hP
  have hpl := pool_len hP
  rw [HN.out] at hpl
  have hmem := Lib.hid (fun x hx => hostB_bd (pool_mem hP (x := x) hx))
  clear hP
  go_enter Try.func40, Try.ntmps40
  go_wp2_with fail
  rw [← hw0]
  clear hw0
  obtain ⟨S, hS⟩ : ∃ S, w.heap.size = S := ⟨_, rfl⟩
  rw [hS] at ROW0 ⊢
  go_loopw [6] (fun i wr => ∃ (k : Nat) (r : Hst), k ≤ n ∧ i = .int .i64 k ∧ Hid (fewL fs (ups (hs.take k)) = r) ∧ (r.num = -1 ∨ (0 ≤ r.num ∧ 0 ≤ r.wt ∧ r.wt ≤ 5)) ∧ wr.heap[S]? = some (.cells #[.int .i64 r.num, .int .i64 r.wt, .int .i64 r.st] 63 (0, 0)) ∧ New w wr) (fun i _ => n - (intOf i).toNat)
  case atStart => exact ⟨0, ⟨-1, 0, 0⟩, Nat.zero_le _, rfl, Lib.hid rfl, .inl rfl, ROW0.out, B0.out⟩
  case round =>
    obtain ⟨k, ⟨r0, r1, r2⟩, hk, rfl, HR, hcase, hrow, hnew⟩ := hrel
    simp only at hcase hrow
    have hSr : S < _ := (Array.getElem?_eq_some_iff.1 hrow).1
    by_cases hlt : k < n
    · have hki : (k : Int) < (n : Int) := by omega
      go_wp2_with fail
      refine (poolValid_spec A n c hs _ HN.out hml (h.new hnew)).mono ?_
      rintro e w1 ⟨rfl, b1⟩
      rw [HP.out]
      have hnew1 := hnew.trans b1
      have row1 := blkN hrow b1
      obtain ⟨b, o, x, rfl, hx, hb, c0, c1, c2⟩ := hosts_at (h.new hnew1) (k := k) (by rw [HN.out]; exact hlt)
      have hxw := hmem.out x (List.mem_of_getElem? hx)
      have HX := Lib.hid (ups_take hx)
      clear hx hrow
      obtain ⟨x0, x1, x2⟩ := x
      simp only at c0 c1 c2 HX hxw
      obtain ⟨⟨u0, u1⟩, ⟨y0, y1⟩, _⟩ := hxw
      obtain ⟨w3, hw3⟩ : ∃ w3, w3 = w1.alloc (.cells #[.int .i64 x0, .int .i64 x1, .int .i64 x2] 63) := ⟨_, rfl⟩
      have b3 : New w1 w3 := by rw [hw3]; exact (New.refl w1).alloc _
      have row3 := heap_alloc_new w1 (.cells #[.int .i64 x0, .int .i64 x1, .int .i64 x2] 63)
      rw [← hw3] at row3
      have rowS := blkN row1 b3
      have hS1 : S < w1.heap.size := (Array.getElem?_eq_some_iff.1 row1).1
      have hnew3 := hnew1.trans b3
      have hF := h'.new hnew3
      have Hw3 := Lib.hid hw3
      have d0 : w3.cell? ⟨w1.heap.size, 0, none⟩ = some (.int .i64 x0) := by rw [cell_of_row _ _ _ _ _ _ row3]; rfl
      have d1 : w3.cell? ⟨w1.heap.size, 1, none⟩ = some (.int .i64 x1) := by rw [cell_of_row _ _ _ _ _ _ row3]; rfl
      have d2 : w3.cell? ⟨w1.heap.size, 2, none⟩ = some (.int .i64 x2) := by rw [cell_of_row _ _ _ _ _ _ row3]; rfl
      have e0 : w3.cell? ⟨S, 0, none⟩ = some (.int .i64 r0) := by rw [cell_of_row _ _ _ _ _ _ rowS]; rfl
      have e1 : w3.cell? ⟨S, 1, none⟩ = some (.int .i64 r1) := by rw [cell_of_row _ _ _ _ _ _ rowS]; rfl
      have e2 : w3.cell? ⟨S, 2, none⟩ = some (.int .i64 r2) := by rw [cell_of_row _ _ _ _ _ _ rowS]; rfl
      have f0 : w3.frozen? ⟨S, 0, none⟩ = false := frozen_of_row _ _ _ _ _ rowS
      have f1 : w3.frozen? ⟨S, 1, none⟩ = false := frozen_of_row _ _ _ _ _ rowS
      have f2 : w3.frozen? ⟨S, 2, none⟩ = false := frozen_of_row _ _ _ _ _ rowS
      have ROWS := Lib.hid rowS
      clear row1 row3 rowS hw3
      by_cases hup : x2 = 1
      · subst hup
        have HXu : Hid (fewL fs (ups (hs.take (k + 1))) = if fewB fs ⟨r0, r1, r2⟩ ⟨x0, x1, 1⟩ = true then ⟨x0, x1, 1⟩ else ⟨r0, r1, r2⟩) := Lib.hid (by rw [HX.out]; simp only [beq_self_eq_true, if_true]; rw [fewL_snoc, HR.out])
        have hcl := List.count_le_length (a := x0) (l := fs)
        have hcl' := List.count_le_length (a := r0) (l := fs)
        rw [HN'.out] at hcl hcl'
        have C0 : 0 ≤ ((fs.count x0 : Nat) : Int) := by omega
        have C1 : ((fs.count x0 : Nat) : Int) ≤ 1048576 := by omega
        have D0 : 0 ≤ ((fs.count r0 : Nat) : Int) := by omega
        have D1 : ((fs.count r0 : Nat) : Int) ≤ 1048576 := by omega
        clear hcl hcl'
        rcases hcase with rfl | ⟨p0, p1, p2⟩
        · have HX' : Hid (fewL fs (ups (hs.take (k + 1))) = ⟨x0, x1, 1⟩) := Lib.hid (by rw [HXu.out]; simp [fewB])
          go_wp2_with fail
          rw [← Hw3.out]
          go_quiet (fail)
          go_wp2_with fail
          go_roundw
          case rel => exact ⟨k + 1, ⟨x0, x1, 1⟩, by omega, by go_num, HX', .inr ⟨u0, show 0 ≤ x1 by omega, y1⟩, blkS (blkS (blkS ROWS.out 0 _) 1 _) 2 _, (((hnew3.drewN _).setCell (Nat.le_of_eq hS) _).setCell (Nat.le_of_eq hS) _).setCell (Nat.le_of_eq hS) _⟩
          case measure => simp [intOf]; omega
        · have hd0 : decide (r0 < 0) = false := by simp; omega
          have hbd1 := mul_bd C0 C1 p1 p2
          have hbd2 := mul_bd D0 D1 (by omega : 0 ≤ x1) y1
          obtain ⟨L, hL⟩ : ∃ L, ((fs.count x0 : Nat) : Int) * r1 = L := ⟨_, rfl⟩
          obtain ⟨M, hM⟩ : ∃ M, ((fs.count r0 : Nat) : Int) * x1 = M := ⟨_, rfl⟩
          rw [hL] at hbd1
          rw [hM] at hbd2
          by_cases hLM : L < M
          · have HX' : Hid (fewL fs (ups (hs.take (k + 1))) = ⟨x0, x1, 1⟩) := Lib.hid (by rw [HXu.out, if_pos]; simp [fewB, hL, hM, hLM])
            go_wp2_with fail
            rw [← Hw3.out]
            go_quiet ((go_at_call 83; exact quiet_left (countOf_spec A' n' c' fs _ _ HN'.out hml' (hF.drewN _))))
            go_wp2_with fail
            go_roundw
            case rel => exact ⟨k + 1, ⟨x0, x1, 1⟩, by omega, by go_num, HX', .inr ⟨u0, show 0 ≤ x1 by omega, y1⟩, blkS (blkS (blkS ROWS.out 0 _) 1 _) 2 _, (((hnew3.drewN _).setCell (Nat.le_of_eq hS) _).setCell (Nat.le_of_eq hS) _).setCell (Nat.le_of_eq hS) _⟩
            case measure => simp [intOf]; omega
          · have hdL : decide (L < M) = false := by simp; omega
            have HX' : Hid (fewL fs (ups (hs.take (k + 1))) = ⟨r0, r1, r2⟩) := Lib.hid (by rw [HXu.out, if_neg]; simp [fewB, hL, hM]; omega)
            go_wp2_with fail
            rw [← Hw3.out]
            go_quiet ((go_at_call 83; exact quiet_left (countOf_spec A' n' c' fs _ _ HN'.out hml' (hF.drewN _))))
            go_wp2_with fail
            go_roundw
            case rel => exact ⟨k + 1, ⟨r0, r1, r2⟩, by omega, by go_num, HX', .inr ⟨p0, p1, p2⟩, ROWS.out, hnew3.drewN _⟩
            case measure => simp [intOf]; omega
      · have hup' : (x2 == 1) = false := by simpa using hup
        have HX' : Hid (fewL fs (ups (hs.take (k + 1))) = ⟨r0, r1, r2⟩) := Lib.hid (by rw [HX.out, hup']; simpa using HR.out)
        go_wp2_with fail
        rw [← Hw3.out]
        go_roundw
        case rel => exact ⟨k + 1, ⟨r0, r1, r2⟩, by omega, by go_num, HX', hcase, ROWS.out, hnew3⟩
        case measure => simp [intOf]; omega
    · obtain rfl : k = n := by omega
      have HT := Lib.hid (show hs.take k = hs from List.take_of_length_le (by rw [HN.out]; exact Nat.le_refl _))
      have e0 := (cells3 hrow).1
      clear hrow hcase
      go_wp2_with fail
      go_ret
      have hr := HR.out
      rw [HT.out] at hr
      exact ⟨ret_int (by rw [HS.out, hr]), hnew⟩
end Go.Proofs.Ytdcobkngbpkdfaa
