/- The test whether a table is valid: the program's own. -/
import Derived.Test.YtbnehcaallehbaaTabV
namespace Go.Proofs.Ytbnehcaallehbaa
set_option linter.unusedVariables false
set_option linter.unusedSimpArgs false
open Go.RowKit Go.Sort Go.Maps

theorem tabB_head {sz st : Int} {es : List Ent} (h : (inB sz 1 12 && inB st 1 100000 && decide ((es.length : Int) ≤ sz)) = false) : tabB sz st es = false := by simp only [tabB, h, Bool.and_false]
theorem steps_ok {es : List Ent} {j : Nat} (h : ∀ i, i < j → stepT es i = true) : ∀ y ∈ es.take j, flB y = true := by
  intro y hy
  obtain ⟨i, hi, rfl⟩ := List.getElem_of_mem hy
  have hij : i < j ∧ i < es.length := by simp at hi; omega
  have hx : es[i]? = some es[i] := by simp [hij.2]
  have := stepT_ent hx (h i hij.1)
  simp only [entB, Bool.and_eq_true] at this
  rw [List.getElem_take]
  exact this.1.1
set_option maxRecDepth 100000 in
set_option maxHeartbeats 4000000 in
theorem tableValid_impl (sz st : Int) (A : Option Addr) (n c : Nat) (es : List Ent) (w : World) (hn : es.length = n) (hm : n ≤ 1048576) (h : Ints w A (flatE es)) :
    Calls Try.prog 31 #[.agg #[.int .i64 sz, .int .i64 st, .slice A n c]] w fun e w' => e = .returned (.bool (tabB sz st es)) ∧ New w w' := by
  have hmm := @run_makeMap Try.prog
  have HN := Lib.hid hn
  clear hn
  have hgr := gr_cells
  have hml : n ≤ maxLen := by unfold maxLen; omega
  have b0 := (New.refl w).alloc (.cells #[.int .i64 sz, .int .i64 st, .slice A n c] 44)
  have hres : (w.alloc (.cells #[.int .i64 sz, .int .i64 st, .slice A n c] 44)).heap[w.heap.size]? = some (.cells #[.int .i64 sz, .int .i64 st, .slice A n c] 44 (0, 0)) := heap_alloc_new _ _
  cases hS : inB sz 1 12
  · have HT := Lib.hid (tabB_head (sz := sz) (st := st) (es := es) (by simp [hS]))
    go_enter Try.func31, Try.ntmps31
    go_wp2_with fail
    refine (in_any sz 1 12 _).mono ?_
    rintro e w' ⟨rfl, rfl⟩
    rw [hS]
    go_wp2_with fail
    go_ret
    exact ⟨by rw [HT.out]; rfl, b0⟩
  cases hT : inB st 1 100000
  · have HT := Lib.hid (tabB_head (sz := sz) (st := st) (es := es) (by simp [hT]))
    go_enter Try.func31, Try.ntmps31
    go_wp2_with fail
    refine (in_any sz 1 12 _).mono ?_
    rintro e w' ⟨rfl, rfl⟩
    rw [hS]
    go_wp2_with fail
    refine (in_any st 1 100000 _).mono ?_
    rintro e w' ⟨rfl, rfl⟩
    rw [hT]
    go_wp2_with fail
    go_ret
    exact ⟨by rw [HT.out]; rfl, b0⟩
  by_cases hle : (n : Int) ≤ sz
  · have hgt : decide (sz < (n : Int)) = false := by simp; omega
    go_enter Try.func31, Try.ntmps31
    go_wp2_with fail
    refine (in_any sz 1 12 _).mono ?_
    rintro e w' ⟨rfl, rfl⟩
    rw [hS]
    go_wp2_with fail
    refine (in_any st 1 100000 _).mono ?_
    rintro e w' ⟨rfl, rfl⟩
    rw [hT]
    go_wp2_with fail
    have hsz0 := World.size_alloc (w := w) (o := .cells #[.int .i64 sz, .int .i64 st, .slice A n c] 44)
    generalize w.alloc (.cells #[.int .i64 sz, .int .i64 st, .slice A n c] 44) = w0 at b0 hres hsz0 ⊢
    have hlt0 : w.heap.size < w0.heap.size := (Array.getElem?_eq_some_iff.1 hres).1
    have HR := Lib.hid hres
    clear hres hmm
    go_loopw [28] (fun i wr => ∃ j : Nat, j ≤ n ∧ i = .int .i64 j ∧ Hid (∀ i, i < j → stepT es i = true) ∧ Seen (w.heap.size + 1) wr (es.take j) ∧ New w0 wr) (fun i _ => n - (intOf i).toNat)
    case atStart => exact ⟨0, Nat.zero_le _, rfl, Lib.hid (fun j hj => absurd hj (by omega)), by rw [← hsz0]; exact Seen.made w0, (New.refl _).alloc _⟩
    case round =>
      obtain ⟨j, hj, rfl, HK, hsn, hnew⟩ := hrel
      have HIr := Lib.hid ((h.new b0).new hnew)
      have HSN := Lib.hid hsn
      have hsl := hsn.lt
      clear hsn
      by_cases hlt : j < n
      · have HAL := Lib.hid (steps_ok HK.out)
        obtain ⟨b, o, x, rfl, hx, hb, c0, c1, c2, c3, c4, c5, c6⟩ := ents_at HIr.out (i := j) (by rw [HN.out]; exact hlt)
        have hprev : j = 0 ∨ (0 < j ∧ ∃ y : Ent, es[j - 1]? = some y ∧ wr.cell? ⟨b, o + (j - 1) * 7 + 6, none⟩ = some (.int .i64 y.last)) := by
          rcases Nat.eq_zero_or_pos j with h0 | h0
          · exact .inl h0
          · obtain ⟨b', o', y, hA', hy, hb', _, _, _, _, _, _, d6⟩ := ents_at HIr.out (i := j - 1) (by rw [HN.out]; omega)
            obtain ⟨rfl, rfl⟩ : b = b' ∧ o = o' := by simpa using hA'
            exact .inr ⟨h0, y, hy, d6⟩
        have HX := Lib.hid hx
        have hjl : j < es.length := by rw [HN.out]; exact hlt
        have HJL := Lib.hid hjl
        clear hx hjl
        obtain ⟨x0, x1, x2, x3, x4, x5, x6⟩ := x
        simp only at c0 c1 c2 c3 c4 c5 c6 HX
        have hji : (j : Int) < (n : Int) := by omega
        have hr3 : wr.heap[w.heap.size]? = some (.cells #[.int .i64 sz, .int .i64 st, .slice (some ⟨b, o, none⟩) n c] 44 (0, 0)) := (Below.block hnew w.heap.size hlt0).trans HR.out
        obtain ⟨C0, C1, C2⟩ := cellsT hr3
        have hwr : w.heap.size < wr.heap.size := (Array.getElem?_eq_some_iff.1 hr3).1
        clear hr3
        have HTK := Lib.hid (show es.take (j + 1) = es.take j ++ [⟨x0, x1, x2, x3, x4, x5, x6⟩] by rw [List.take_add_one, HX.out]; rfl)
        cases hF : flowB x0 x1 x2 x3 x4
        · skip
          have HF := Lib.hid (tabB_no (sz := sz) (st := st) HJL.out (stepT_bad HX.out (by simp [entB, flB, hF])))
          go_wp2_with fail
          refine wp_region_qb (by kernel_rfl) (by kernel_rfl) ?_
          repeat (go_big_quiet_step ((first | with_reducible exact gr_call ((flowValid_impl x0 x1 x2 x3 x4 _).mono fun _ _ h => by rw [hF] at h; exact h) | with_reducible exact gr_same ((in_any x5 0 30 _).mono fun _ _ h => by rw [hTo] at h; exact h) | with_reducible exact gr_same ((isTime_any x6 _).mono fun _ _ h => by rw [hL] at h; exact h))))
          with_reducible refine wpQuiet_nil ?_
          intro w3 b3
          have hc3 := New.cells b3; have hf3 := New.marks b3; have hz3 := New.le b3; try simp only [World.size_alloc, World.size_setCell] at hz3
          try have z3_0_0 : w.heap.size < w3.heap.size := by omega
          try have z3_0_1 : w.heap.size + 1 < w3.heap.size := by omega
          try have z3_0_2 : w.heap.size + 2 < w3.heap.size := by omega
          try have z3_1_0 : w1.heap.size < w3.heap.size := by omega
          try have z3_1_1 : w1.heap.size + 1 < w3.heap.size := by omega
          try have z3_1_2 : w1.heap.size + 2 < w3.heap.size := by omega
          try have z3_2_0 : w2.heap.size < w3.heap.size := by omega
          try have z3_2_1 : w2.heap.size + 1 < w3.heap.size := by omega
          try have z3_2_2 : w2.heap.size + 2 < w3.heap.size := by omega
          go_wp2_with fail
          go_ret
          exact ⟨by rw [HF.out]; rfl, (by repeat (first | with_reducible assumption | with_reducible exact New.refl _ | with_reducible refine New.alloc ?_ _ | with_reducible refine New.drew ?_ | with_reducible refine New.drewN ?_ _ | refine New.setCell ?_ (by first | (simp; done) | omega | (simp; omega)) _ | with_reducible refine New.trans ?_ (by with_reducible assumption)))⟩
        cases hD : dupB (es.take j) ⟨x0, x1, x2, x3, x4, x5, x6⟩
        rotate_left
        · skip
          have HF := Lib.hid (tabB_no (sz := sz) (st := st) HJL.out (stepT_dup HX.out hD))
          have hlook : ∀ (d : Nat) (os : Array Obj), (Instr.lookup 90 (.map (some (w.heap.size + 1))) (.agg #[.int .i64 x0, .int .i64 x1, .int .i64 x2, .int .i64 x3, .int .i64 x4]) false).run Try.prog (grow (redrawn (wr.alloc (.cells #[.int .i64 x0, .int .i64 x1, .int .i64 x2, .int .i64 x3, .int .i64 x4, .int .i64 x5, .int .i64 x6] 50)) d) os) = .ok (.bool true) (grow (redrawn (wr.alloc (.cells #[.int .i64 x0, .int .i64 x1, .int .i64 x2, .int .i64 x3, .int .i64 x4, .int .i64 x5, .int .i64 x6] 50)) d) os) := fun d os => Seen.look (x := ⟨x0, x1, x2, x3, x4, x5, x6⟩) ((HSN.out.new ((New.refl _).alloc _)).new (gr_new _ d os)) HAL.out hF hD
          go_wp2_with fail
          refine wp_region_qb (by kernel_rfl) (by kernel_rfl) ?_
          repeat (go_big_quiet_step ((first | with_reducible exact gr_call ((flowValid_impl x0 x1 x2 x3 x4 _).mono fun _ _ h => by rw [hF] at h; exact h) | with_reducible exact gr_same ((in_any x5 0 30 _).mono fun _ _ h => by rw [hTo] at h; exact h) | with_reducible exact gr_same ((isTime_any x6 _).mono fun _ _ h => by rw [hL] at h; exact h))))
          with_reducible refine wpQuiet_nil ?_
          intro w3 b3
          have hc3 := New.cells b3; have hf3 := New.marks b3; have hz3 := New.le b3; try simp only [World.size_alloc, World.size_setCell] at hz3
          try have z3_0_0 : w.heap.size < w3.heap.size := by omega
          try have z3_0_1 : w.heap.size + 1 < w3.heap.size := by omega
          try have z3_0_2 : w.heap.size + 2 < w3.heap.size := by omega
          try have z3_1_0 : w1.heap.size < w3.heap.size := by omega
          try have z3_1_1 : w1.heap.size + 1 < w3.heap.size := by omega
          try have z3_1_2 : w1.heap.size + 2 < w3.heap.size := by omega
          try have z3_2_0 : w2.heap.size < w3.heap.size := by omega
          try have z3_2_1 : w2.heap.size + 1 < w3.heap.size := by omega
          try have z3_2_2 : w2.heap.size + 2 < w3.heap.size := by omega
          go_wp2_with fail
          go_ret
          exact ⟨by rw [HF.out]; rfl, (by repeat (first | with_reducible assumption | with_reducible exact New.refl _ | with_reducible refine New.alloc ?_ _ | with_reducible refine New.drew ?_ | with_reducible refine New.drewN ?_ _ | refine New.setCell ?_ (by first | (simp; done) | omega | (simp; omega)) _ | with_reducible refine New.trans ?_ (by with_reducible assumption)))⟩
        cases hTo : inB x5 0 30
        · skip
          have HF := Lib.hid (tabB_no (sz := sz) (st := st) HJL.out (stepT_bad HX.out (by simp [entB, hTo])))
          have hlook : ∀ (d : Nat) (os : Array Obj), (Instr.lookup 90 (.map (some (w.heap.size + 1))) (.agg #[.int .i64 x0, .int .i64 x1, .int .i64 x2, .int .i64 x3, .int .i64 x4]) false).run Try.prog (grow (redrawn (wr.alloc (.cells #[.int .i64 x0, .int .i64 x1, .int .i64 x2, .int .i64 x3, .int .i64 x4, .int .i64 x5, .int .i64 x6] 50)) d) os) = .ok (.bool false) (grow (redrawn (wr.alloc (.cells #[.int .i64 x0, .int .i64 x1, .int .i64 x2, .int .i64 x3, .int .i64 x4, .int .i64 x5, .int .i64 x6] 50)) d) os) := fun d os => Seen.look (x := ⟨x0, x1, x2, x3, x4, x5, x6⟩) ((HSN.out.new ((New.refl _).alloc _)).new (gr_new _ d os)) HAL.out hF hD
          go_wp2_with fail
          refine wp_region_qb (by kernel_rfl) (by kernel_rfl) ?_
          repeat (go_big_quiet_step ((first | with_reducible exact gr_call ((flowValid_impl x0 x1 x2 x3 x4 _).mono fun _ _ h => by rw [hF] at h; exact h) | with_reducible exact gr_same ((in_any x5 0 30 _).mono fun _ _ h => by rw [hTo] at h; exact h) | with_reducible exact gr_same ((isTime_any x6 _).mono fun _ _ h => by rw [hL] at h; exact h))))
          with_reducible refine wpQuiet_nil ?_
          intro w3 b3
          have hc3 := New.cells b3; have hf3 := New.marks b3; have hz3 := New.le b3; try simp only [World.size_alloc, World.size_setCell] at hz3
          try have z3_0_0 : w.heap.size < w3.heap.size := by omega
          try have z3_0_1 : w.heap.size + 1 < w3.heap.size := by omega
          try have z3_0_2 : w.heap.size + 2 < w3.heap.size := by omega
          try have z3_1_0 : w1.heap.size < w3.heap.size := by omega
          try have z3_1_1 : w1.heap.size + 1 < w3.heap.size := by omega
          try have z3_1_2 : w1.heap.size + 2 < w3.heap.size := by omega
          try have z3_2_0 : w2.heap.size < w3.heap.size := by omega
          try have z3_2_1 : w2.heap.size + 1 < w3.heap.size := by omega
          try have z3_2_2 : w2.heap.size + 2 < w3.heap.size := by omega
          go_wp2_with fail
          go_ret
          exact ⟨by rw [HF.out]; rfl, (by repeat (first | with_reducible assumption | with_reducible exact New.refl _ | with_reducible refine New.alloc ?_ _ | with_reducible refine New.drew ?_ | with_reducible refine New.drewN ?_ _ | refine New.setCell ?_ (by first | (simp; done) | omega | (simp; omega)) _ | with_reducible refine New.trans ?_ (by with_reducible assumption)))⟩
        cases hL : inB x6 0 100000
        · skip
          have HF := Lib.hid (tabB_no (sz := sz) (st := st) HJL.out (stepT_bad HX.out (by simp [entB, hL])))
          have hlook : ∀ (d : Nat) (os : Array Obj), (Instr.lookup 90 (.map (some (w.heap.size + 1))) (.agg #[.int .i64 x0, .int .i64 x1, .int .i64 x2, .int .i64 x3, .int .i64 x4]) false).run Try.prog (grow (redrawn (wr.alloc (.cells #[.int .i64 x0, .int .i64 x1, .int .i64 x2, .int .i64 x3, .int .i64 x4, .int .i64 x5, .int .i64 x6] 50)) d) os) = .ok (.bool false) (grow (redrawn (wr.alloc (.cells #[.int .i64 x0, .int .i64 x1, .int .i64 x2, .int .i64 x3, .int .i64 x4, .int .i64 x5, .int .i64 x6] 50)) d) os) := fun d os => Seen.look (x := ⟨x0, x1, x2, x3, x4, x5, x6⟩) ((HSN.out.new ((New.refl _).alloc _)).new (gr_new _ d os)) HAL.out hF hD
          go_wp2_with fail
          refine wp_region_qb (by kernel_rfl) (by kernel_rfl) ?_
          repeat (go_big_quiet_step ((first | with_reducible exact gr_call ((flowValid_impl x0 x1 x2 x3 x4 _).mono fun _ _ h => by rw [hF] at h; exact h) | with_reducible exact gr_same ((in_any x5 0 30 _).mono fun _ _ h => by rw [hTo] at h; exact h) | with_reducible exact gr_same ((isTime_any x6 _).mono fun _ _ h => by rw [hL] at h; exact h))))
          with_reducible refine wpQuiet_nil ?_
          intro w3 b3
          have hc3 := New.cells b3; have hf3 := New.marks b3; have hz3 := New.le b3; try simp only [World.size_alloc, World.size_setCell] at hz3
          try have z3_0_0 : w.heap.size < w3.heap.size := by omega
          try have z3_0_1 : w.heap.size + 1 < w3.heap.size := by omega
          try have z3_0_2 : w.heap.size + 2 < w3.heap.size := by omega
          try have z3_1_0 : w1.heap.size < w3.heap.size := by omega
          try have z3_1_1 : w1.heap.size + 1 < w3.heap.size := by omega
          try have z3_1_2 : w1.heap.size + 2 < w3.heap.size := by omega
          try have z3_2_0 : w2.heap.size < w3.heap.size := by omega
          try have z3_2_1 : w2.heap.size + 1 < w3.heap.size := by omega
          try have z3_2_2 : w2.heap.size + 2 < w3.heap.size := by omega
          go_wp2_with fail
          go_ret
          exact ⟨by rw [HF.out]; rfl, (by repeat (first | with_reducible assumption | with_reducible exact New.refl _ | with_reducible refine New.alloc ?_ _ | with_reducible refine New.drew ?_ | with_reducible refine New.drewN ?_ _ | refine New.setCell ?_ (by first | (simp; done) | omega | (simp; omega)) _ | with_reducible refine New.trans ?_ (by with_reducible assumption)))⟩
        have HE := Lib.hid (show entB ⟨x0, x1, x2, x3, x4, x5, x6⟩ = true by simp [entB, flB, hF, hTo, hL])
        rcases hprev with h0 | ⟨h0, y, hy, d6⟩
        · have hd : decide ((0 : Int) < (j : Int)) = false := by simp; omega
          have hd' : decide (0 < j) = false := by simp; omega
          have HS := Lib.hid (show stepT es j = true by rw [stepT_zero h0 HX.out, HE.out])
          clear h0
          have hlook : ∀ (d : Nat) (os : Array Obj), (Instr.lookup 90 (.map (some (w.heap.size + 1))) (.agg #[.int .i64 x0, .int .i64 x1, .int .i64 x2, .int .i64 x3, .int .i64 x4]) false).run Try.prog (grow (redrawn (wr.alloc (.cells #[.int .i64 x0, .int .i64 x1, .int .i64 x2, .int .i64 x3, .int .i64 x4, .int .i64 x5, .int .i64 x6] 50)) d) os) = .ok (.bool false) (grow (redrawn (wr.alloc (.cells #[.int .i64 x0, .int .i64 x1, .int .i64 x2, .int .i64 x3, .int .i64 x4, .int .i64 x5, .int .i64 x6] 50)) d) os) := fun d os => Seen.look (x := ⟨x0, x1, x2, x3, x4, x5, x6⟩) ((HSN.out.new ((New.refl _).alloc _)).new (gr_new _ d os)) HAL.out hF hD
          go_wp2_with fail
          refine wp_region_qb (by kernel_rfl) (by kernel_rfl) ?_
          repeat (go_big_quiet_step ((first | with_reducible exact gr_call ((flowValid_impl x0 x1 x2 x3 x4 _).mono fun _ _ h => by rw [hF] at h; exact h) | with_reducible exact gr_same ((in_any x5 0 30 _).mono fun _ _ h => by rw [hTo] at h; exact h) | with_reducible exact gr_same ((isTime_any x6 _).mono fun _ _ h => by rw [hL] at h; exact h))))
          with_reducible refine wpQuiet_nil ?_
          intro w3 b3
          have hc3 := New.cells b3; have hf3 := New.marks b3; have hz3 := New.le b3; try simp only [World.size_alloc, World.size_setCell] at hz3
          try have z3_0_0 : w.heap.size < w3.heap.size := by omega
          try have z3_0_1 : w.heap.size + 1 < w3.heap.size := by omega
          try have z3_0_2 : w.heap.size + 2 < w3.heap.size := by omega
          try have z3_1_0 : w1.heap.size < w3.heap.size := by omega
          try have z3_1_1 : w1.heap.size + 1 < w3.heap.size := by omega
          try have z3_1_2 : w1.heap.size + 2 < w3.heap.size := by omega
          try have z3_2_0 : w2.heap.size < w3.heap.size := by omega
          try have z3_2_1 : w2.heap.size + 1 < w3.heap.size := by omega
          try have z3_2_2 : w2.heap.size + 2 < w3.heap.size := by omega
          have HS3 := (HSN.out.new ((New.refl _).alloc _)).new b3
          obtain ⟨w4, hrun, hs4, g4⟩ := HS3.put HAL.out (x := ⟨x0, x1, x2, x3, x4, x5, x6⟩) hF hD
          simp only [flV] at hrun
          have HR4 := Lib.hid hs4
          have B4 : New w0 w4 := ((hnew.alloc _).trans b3).grown g4 (fun k hk => by cases hk; omega)
          clear hs4 g4 HS3 hlook
          go_wp2_with fail
          go_roundw
          case rel => exact ⟨j + 1, by omega, by go_num, Lib.hid (all_succ HK.out HS.out), by rw [HTK.out]; exact HR4.out, B4⟩
          case measure => simp [intOf]; omega
        · have hd : decide ((0 : Int) < (j : Int)) = true := by simp; omega
          have HST := Lib.hid (stepT_succ h0 HX.out hy)
          obtain ⟨y6, hy6⟩ : ∃ y6, y.last = y6 := ⟨_, rfl⟩
          rw [hy6] at HST d6
          clear hy hy6
          by_cases hle6 : x6 < y6
          · have hle' : decide (x6 < y6) = true := by simpa using hle6
            have HF := Lib.hid (tabB_no (sz := sz) (st := st) HJL.out (by rw [HST.out]; simp; intro _ h; omega))
            have hlook : ∀ (d : Nat) (os : Array Obj), (Instr.lookup 90 (.map (some (w.heap.size + 1))) (.agg #[.int .i64 x0, .int .i64 x1, .int .i64 x2, .int .i64 x3, .int .i64 x4]) false).run Try.prog (grow (redrawn (wr.alloc (.cells #[.int .i64 x0, .int .i64 x1, .int .i64 x2, .int .i64 x3, .int .i64 x4, .int .i64 x5, .int .i64 x6] 50)) d) os) = .ok (.bool false) (grow (redrawn (wr.alloc (.cells #[.int .i64 x0, .int .i64 x1, .int .i64 x2, .int .i64 x3, .int .i64 x4, .int .i64 x5, .int .i64 x6] 50)) d) os) := fun d os => Seen.look (x := ⟨x0, x1, x2, x3, x4, x5, x6⟩) ((HSN.out.new ((New.refl _).alloc _)).new (gr_new _ d os)) HAL.out hF hD
            go_wp2_with fail
            refine wp_region_qb (by kernel_rfl) (by kernel_rfl) ?_
            repeat (go_big_quiet_step ((first | with_reducible exact gr_call ((flowValid_impl x0 x1 x2 x3 x4 _).mono fun _ _ h => by rw [hF] at h; exact h) | with_reducible exact gr_same ((in_any x5 0 30 _).mono fun _ _ h => by rw [hTo] at h; exact h) | with_reducible exact gr_same ((isTime_any x6 _).mono fun _ _ h => by rw [hL] at h; exact h))))
            with_reducible refine wpQuiet_nil ?_
            intro w3 b3
            have hc3 := New.cells b3; have hf3 := New.marks b3; have hz3 := New.le b3; try simp only [World.size_alloc, World.size_setCell] at hz3
            try have z3_0_0 : w.heap.size < w3.heap.size := by omega
            try have z3_0_1 : w.heap.size + 1 < w3.heap.size := by omega
            try have z3_0_2 : w.heap.size + 2 < w3.heap.size := by omega
            try have z3_1_0 : w1.heap.size < w3.heap.size := by omega
            try have z3_1_1 : w1.heap.size + 1 < w3.heap.size := by omega
            try have z3_1_2 : w1.heap.size + 2 < w3.heap.size := by omega
            try have z3_2_0 : w2.heap.size < w3.heap.size := by omega
            try have z3_2_1 : w2.heap.size + 1 < w3.heap.size := by omega
            try have z3_2_2 : w2.heap.size + 2 < w3.heap.size := by omega
            go_wp2_with fail
            go_ret
            exact ⟨by rw [HF.out]; rfl, (by repeat (first | with_reducible assumption | with_reducible exact New.refl _ | with_reducible refine New.alloc ?_ _ | with_reducible refine New.drew ?_ | with_reducible refine New.drewN ?_ _ | refine New.setCell ?_ (by first | (simp; done) | omega | (simp; omega)) _ | with_reducible refine New.trans ?_ (by with_reducible assumption)))⟩
          · have hle' : decide (x6 < y6) = false := by simpa using hle6
            have HS := Lib.hid (show stepT es j = true by rw [HST.out, hD, HE.out]; simp; omega)
            have hlook : ∀ (d : Nat) (os : Array Obj), (Instr.lookup 90 (.map (some (w.heap.size + 1))) (.agg #[.int .i64 x0, .int .i64 x1, .int .i64 x2, .int .i64 x3, .int .i64 x4]) false).run Try.prog (grow (redrawn (wr.alloc (.cells #[.int .i64 x0, .int .i64 x1, .int .i64 x2, .int .i64 x3, .int .i64 x4, .int .i64 x5, .int .i64 x6] 50)) d) os) = .ok (.bool false) (grow (redrawn (wr.alloc (.cells #[.int .i64 x0, .int .i64 x1, .int .i64 x2, .int .i64 x3, .int .i64 x4, .int .i64 x5, .int .i64 x6] 50)) d) os) := fun d os => Seen.look (x := ⟨x0, x1, x2, x3, x4, x5, x6⟩) ((HSN.out.new ((New.refl _).alloc _)).new (gr_new _ d os)) HAL.out hF hD
            go_wp2_with fail
            refine wp_region_qb (by kernel_rfl) (by kernel_rfl) ?_
            repeat (go_big_quiet_step ((first | with_reducible exact gr_call ((flowValid_impl x0 x1 x2 x3 x4 _).mono fun _ _ h => by rw [hF] at h; exact h) | with_reducible exact gr_same ((in_any x5 0 30 _).mono fun _ _ h => by rw [hTo] at h; exact h) | with_reducible exact gr_same ((isTime_any x6 _).mono fun _ _ h => by rw [hL] at h; exact h))))
            with_reducible refine wpQuiet_nil ?_
            intro w3 b3
            have hc3 := New.cells b3; have hf3 := New.marks b3; have hz3 := New.le b3; try simp only [World.size_alloc, World.size_setCell] at hz3
            try have z3_0_0 : w.heap.size < w3.heap.size := by omega
            try have z3_0_1 : w.heap.size + 1 < w3.heap.size := by omega
            try have z3_0_2 : w.heap.size + 2 < w3.heap.size := by omega
            try have z3_1_0 : w1.heap.size < w3.heap.size := by omega
            try have z3_1_1 : w1.heap.size + 1 < w3.heap.size := by omega
            try have z3_1_2 : w1.heap.size + 2 < w3.heap.size := by omega
            try have z3_2_0 : w2.heap.size < w3.heap.size := by omega
            try have z3_2_1 : w2.heap.size + 1 < w3.heap.size := by omega
            try have z3_2_2 : w2.heap.size + 2 < w3.heap.size := by omega
            have HS3 := (HSN.out.new ((New.refl _).alloc _)).new b3
            obtain ⟨w4, hrun, hs4, g4⟩ := HS3.put HAL.out (x := ⟨x0, x1, x2, x3, x4, x5, x6⟩) hF hD
            simp only [flV] at hrun
            have HR4 := Lib.hid hs4
            have B4 : New w0 w4 := ((hnew.alloc _).trans b3).grown g4 (fun k hk => by cases hk; omega)
            clear hs4 g4 HS3 hlook
            go_wp2_with fail
            go_roundw
            case rel => exact ⟨j + 1, by omega, by go_num, Lib.hid (all_succ HK.out HS.out), by rw [HTK.out]; exact HR4.out, B4⟩
            case measure => simp [intOf]; omega
      · obtain rfl : j = n := by omega
        have HT := Lib.hid (show tabB sz st es = true by rw [tabB_yes (by rw [HN.out]; exact HK.out), HN.out, hS, hT]; simpa using hle)
        go_wp2_with fail
        go_ret
        exact ⟨by rw [HT.out]; rfl, b0.trans hnew⟩
  · have hgt : decide (sz < (n : Int)) = true := by simp; omega
    have HT := Lib.hid (tabB_head (sz := sz) (st := st) (es := es) (by rw [HN.out]; simp; intro _ _; omega))
    go_enter Try.func31, Try.ntmps31
    go_wp2_with fail
    refine (in_any sz 1 12 _).mono ?_
    rintro e w' ⟨rfl, rfl⟩
    rw [hS]
    go_wp2_with fail
    refine (in_any st 1 100000 _).mono ?_
    rintro e w' ⟨rfl, rfl⟩
    rw [hT]
    go_wp2_with fail
    go_ret
    exact ⟨by rw [HT.out]; rfl, b0⟩
end Go.Proofs.Ytbnehcaallehbaa
