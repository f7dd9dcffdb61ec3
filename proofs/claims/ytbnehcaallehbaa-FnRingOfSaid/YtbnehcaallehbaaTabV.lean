/- The test whether a table is valid. -/
import Derived.Test.YtbnehcaallehbaaTab
import Derived.Test.YtbnehcaallehbaaSeen
import Derived.Test.YtbnehcaallehbaaIn
namespace Go.Proofs.Ytbnehcaallehbaa
set_option linter.unusedVariables false
set_option linter.unusedSimpArgs false
open Go.RowKit Go.Sort Go.Maps

theorem flatE_take : ∀ (es : List Ent) (k : Nat), (flatE es).take (k * 7) = flatE (es.take k)
  | _, 0 => by simp [flatE]
  | [], k + 1 => by simp [flatE]
  | e :: t, k + 1 => by rw [show (k + 1) * 7 = k * 7 + 1 + 1 + 1 + 1 + 1 + 1 + 1 from by omega]; simp [flatE, flatE_take t k]
theorem flatE_drop : ∀ (es : List Ent) (k : Nat), (flatE es).drop (k * 7) = flatE (es.drop k)
  | _, 0 => by simp
  | [], k + 1 => by simp [flatE]
  | e :: t, k + 1 => by rw [show (k + 1) * 7 = k * 7 + 1 + 1 + 1 + 1 + 1 + 1 + 1 from by omega]; simp [flatE, flatE_drop t k]
theorem ents_take {w : World} {A : Option Addr} {es : List Ent} (h : Ints w A (flatE es)) (k : Nat) : Ints w A (flatE (es.take k)) := by
  rw [← flatE_take]
  intro hn
  obtain ⟨b, o, hA, hc⟩ := h (by simp at hn; omega)
  refine ⟨b, o, hA, fun j hj => ?_⟩
  have hjk : j < k * 7 ∧ j < (flatE es).length := by simp at hj; omega
  rw [hc j hjk.2]
  simp [List.getD_eq_getElem?_getD, List.getElem?_take, hjk.1]
theorem cellsT {w : World} {g : Nat} {T : TypeId} {x0 x1 x2 : Value} (h : w.heap[g]? = some (.cells #[x0, x1, x2] T (0, 0))) :
    w.cell? ⟨g, 0, none⟩ = some x0 ∧ w.cell? ⟨g, 1, none⟩ = some x1 ∧ w.cell? ⟨g, 2, none⟩ = some x2 := by
  refine ⟨?_, ?_, ?_⟩
  all_goals (rw [cell_of_row _ _ _ _ _ _ h]; rfl)

def entB (e : Ent) : Bool := flB e && inB e.to 0 30 && inB e.last 0 100000
def dupB (es : List Ent) (e : Ent) : Bool := es.any fun y => eqF y e.a e.b e.c e.d e.k
/-- Entry i is fine, not before the one ahead, and of a new flow. -/
def stepT (es : List Ent) (i : Nat) : Bool := match es[i]? with
  | none => false
  | some e => entB e && (match i with
    | 0 => true
    | j + 1 => match es[j]? with
      | none => false
      | some p => decide (p.last ≤ e.last)) && !dupB (es.take i) e
def tabB (sz st : Int) (es : List Ent) : Bool := (List.range es.length).all (stepT es) && (inB sz 1 12 && inB st 1 100000 && decide ((es.length : Int) ≤ sz))
theorem tabB_no {sz st : Int} {es : List Ent} {i : Nat} (hi : i < es.length) (h : stepT es i = false) : tabB sz st es = false := by
  have : (List.range es.length).all (stepT es) = false := by
    rw [List.all_eq_false]
    exact ⟨i, List.mem_range.2 hi, by simp [h]⟩
  simp [tabB, this]
theorem tabB_yes {sz st : Int} {es : List Ent} (h : ∀ j, j < es.length → stepT es j = true) : tabB sz st es = (inB sz 1 12 && inB st 1 100000 && decide ((es.length : Int) ≤ sz)) := by
  have : (List.range es.length).all (stepT es) = true := by
    rw [List.all_eq_true]
    exact fun j hj => h j (List.mem_range.1 hj)
  simp [tabB, this]
theorem stepT_zero {es : List Ent} {i : Nat} {e : Ent} (h0 : i = 0) (hx : es[i]? = some e) : stepT es i = entB e := by subst h0; simp [stepT, hx, dupB]
theorem stepT_succ {es : List Ent} {i : Nat} (h0 : 0 < i) {e p : Ent} (hx : es[i]? = some e) (hp : es[i - 1]? = some p) : stepT es i = (entB e && decide (p.last ≤ e.last) && !dupB (es.take i) e) := by
  obtain ⟨j, rfl⟩ : ∃ j, i = j + 1 := ⟨i - 1, by omega⟩
  simp only [Nat.add_sub_cancel] at hp
  simp [stepT, hx, hp]
theorem stepT_ent {es : List Ent} {i : Nat} {e : Ent} (hx : es[i]? = some e) (h : stepT es i = true) : entB e = true := by
  simp only [stepT, hx, Bool.and_eq_true] at h
  exact h.1.1
theorem stepT_dup {es : List Ent} {i : Nat} {e : Ent} (hx : es[i]? = some e) (h : dupB (es.take i) e = true) : stepT es i = false := by simp [stepT, hx, h]
theorem stepT_bad {es : List Ent} {i : Nat} {e : Ent} (hx : es[i]? = some e) (h : entB e = false) : stepT es i = false := by simp [stepT, hx, h]
theorem dup_place {es : List Ent} {e : Ent} : dupB es e = decide (0 ≤ placeZ es e.a e.b e.c e.d e.k) := by
  rcases place_cases es e.a e.b e.c e.d e.k with ⟨i, x, hx, hN, _, he⟩ | ⟨hno, he⟩
  · rw [he]
    have : dupB es e = true := List.any_eq_true.2 ⟨x, List.mem_of_getElem? hx, hN⟩
    rw [this]
    simp
  · rw [he]
    have : dupB es e = false := by
      unfold dupB
      rw [List.any_eq_false]
      intro y hy
      obtain ⟨i, hi, rfl⟩ := List.getElem_of_mem hy
      have := hno i hi es[i] (by simp)
      simp [this]
    rw [this]
    simp
set_option maxRecDepth 100000 in
set_option maxHeartbeats 4000000 in
theorem tableValid_spec (sz st : Int) (A : Option Addr) (n c : Nat) (es : List Ent) (w : World) (hn : es.length = n) (hnc : n ≤ c) (hm : n ≤ 1048576) (h : Ints w A (flatE es)) :
    Calls Try.prog 32 #[.agg #[.int .i64 sz, .int .i64 st, .slice A n c]] w fun e w' => e = .returned (.bool (tabB sz st es)) ∧ New w w' := by
  have HN := Lib.hid hn
  clear hn
  have hgr := gr_cells
  have hml : n ≤ maxLen := by unfold maxLen; omega
  have b0 := (New.refl w).alloc (.cells #[.int .i64 sz, .int .i64 st, .slice A n c] 44)
  have hres : (w.alloc (.cells #[.int .i64 sz, .int .i64 st, .slice A n c] 44)).heap[w.heap.size]? = some (.cells #[.int .i64 sz, .int .i64 st, .slice A n c] 44 (0, 0)) := heap_alloc_new _ _
  go_enter Try.func32, Try.ntmps32
  go_wp2_with fail
  generalize w.alloc (.cells #[.int .i64 sz, .int .i64 st, .slice A n c] 44) = w0 at b0 hres ⊢
  have hlt0 : w.heap.size < w0.heap.size := (Array.getElem?_eq_some_iff.1 hres).1
  have HR := Lib.hid hres
  clear hres
  go_loopw [3] (fun i wr => ∃ j : Nat, j ≤ n ∧ i = .int .i64 j ∧ Hid (∀ i, i < j → stepT es i = true) ∧ New w0 wr) (fun i _ => n - (intOf i).toNat)
  case atStart => exact ⟨0, Nat.zero_le _, rfl, Lib.hid (fun j hj => absurd hj (by omega)), New.refl _⟩
  case round =>
    obtain ⟨j, hj, rfl, HK, hnew⟩ := hrel
    have HIr := Lib.hid ((h.new b0).new hnew)
    by_cases hlt : j < n
    · have HTL := Lib.hid (show (es.take j).length = j by rw [List.length_take, HN.out]; omega)
      obtain ⟨b, o, x, rfl, hx, hb, c0, c1, c2, c3, c4, c5, c6⟩ := ents_at HIr.out (i := j) (by rw [HN.out]; exact hlt)
      have hprev : j = 0 ∨ (0 < j ∧ ∃ y : Ent, es[j - 1]? = some y ∧ wr.cell? ⟨b, o + (j - 1) * 7 + 6, none⟩ = some (.int .i64 y.last)) := by
        rcases Nat.eq_zero_or_pos j with h0 | h0
        · exact .inl h0
        · obtain ⟨b', o', y, hA', hy, hb', _, _, _, _, _, _, d6⟩ := ents_at HIr.out (i := j - 1) (by rw [HN.out]; omega)
          obtain ⟨rfl, rfl⟩ : b = b' ∧ o = o' := by simpa using hA'
          exact .inr ⟨h0, y, hy, d6⟩
      have HX := Lib.hid hx
      have hjl : j < es.length := by rw [HN.out]; exact hlt
      have HJL := Lib.hid hjl
      clear hx hjl
      obtain ⟨x0, x1, x2, x3, x4, x5, x6⟩ := x
      simp only at c0 c1 c2 c3 c4 c5 c6 HX
      have hji : (j : Int) < (n : Int) := by omega
      have hr3 : wr.heap[w.heap.size]? = some (.cells #[.int .i64 sz, .int .i64 st, .slice (some ⟨b, o, none⟩) n c] 44 (0, 0)) := (Below.block hnew w.heap.size hlt0).trans HR.out
      obtain ⟨C0, C1, C2⟩ := cellsT hr3
      have hwr : w.heap.size < wr.heap.size := (Array.getElem?_eq_some_iff.1 hr3).1
      clear hr3
      obtain ⟨Z, hZ⟩ : ∃ Z, placeZ (es.take j) x0 x1 x2 x3 x4 = Z := ⟨_, rfl⟩
      have hdup : dupB (es.take j) ⟨x0, x1, x2, x3, x4, x5, x6⟩ = decide (0 ≤ Z) := by rw [dup_place, ← hZ]
      have HZ := Lib.hid hZ
      have HD := Lib.hid hdup
      clear hZ hdup
      cases hF : flowB x0 x1 x2 x3 x4
      · skip
        have HF := Lib.hid (tabB_no (sz := sz) (st := st) HJL.out (stepT_bad HX.out (by simp [entB, flB, hF])))
        go_wp2_with fail
        refine wp_region_qb (by kernel_rfl) (by kernel_rfl) ?_
        repeat (go_big_quiet_step ((first | with_reducible exact gr_call ((flowValid_spec x0 x1 x2 x3 x4 _).mono fun _ _ h => by rw [hF] at h; exact h) | with_reducible exact gr_same ((l1In_any x5 0 30 _).mono fun _ _ h => by rw [hTo] at h; exact h) | with_reducible exact gr_same ((l1In_any x6 0 100000 _).mono fun _ _ h => by rw [hL] at h; exact h) | with_reducible exact gr_call ((l9Place_any _ j c (es.take j) x0 x1 x2 x3 x4 _ HTL.out (by omega) ((ents_take (HIr.out.alloc _) j).new (gr_new _ _ _))).mono fun _ _ h => by rw [HZ.out] at h; exact h))))
        with_reducible refine wpQuiet_nil ?_
        intro w3 b3
        have hc3 := New.cells b3; have hf3 := New.marks b3; have hz3 := New.le b3; try simp only [World.size_alloc, World.size_setCell] at hz3
        try have z3_0_0 : w.heap.size < w3.heap.size := by omega
        try have z3_0_1 : w.heap.size + 1 < w3.heap.size := by omega
        try have z3_0_2 : w.heap.size + 2 < w3.heap.size := by omega
        try have z3_1_0 : w1.heap.size < w3.heap.size := by omega
        try have z3_1_1 : w1.heap.size + 1 < w3.heap.size := by omega
        try have z3_1_2 : w1.heap.size + 2 < w3.heap.size := by omega
        try have z3_2_0 : w2.heap.size < w3.heap.size := by omega
        try have z3_2_1 : w2.heap.size + 1 < w3.heap.size := by omega
        try have z3_2_2 : w2.heap.size + 2 < w3.heap.size := by omega
        go_wp2_with fail
        go_ret
        exact ⟨by rw [HF.out]; rfl, (by repeat (first | with_reducible assumption | with_reducible exact New.refl _ | with_reducible refine New.alloc ?_ _ | with_reducible refine New.drew ?_ | with_reducible refine New.drewN ?_ _ | refine New.setCell ?_ (by first | (simp; done) | omega | (simp; omega)) _ | with_reducible refine New.trans ?_ (by with_reducible assumption)))⟩
      · cases hTo : inB x5 0 30
        · skip
          have HF := Lib.hid (tabB_no (sz := sz) (st := st) HJL.out (stepT_bad HX.out (by simp [entB, hTo])))
          go_wp2_with fail
          refine wp_region_qb (by kernel_rfl) (by kernel_rfl) ?_
          repeat (go_big_quiet_step ((first | with_reducible exact gr_call ((flowValid_spec x0 x1 x2 x3 x4 _).mono fun _ _ h => by rw [hF] at h; exact h) | with_reducible exact gr_same ((l1In_any x5 0 30 _).mono fun _ _ h => by rw [hTo] at h; exact h) | with_reducible exact gr_same ((l1In_any x6 0 100000 _).mono fun _ _ h => by rw [hL] at h; exact h) | with_reducible exact gr_call ((l9Place_any _ j c (es.take j) x0 x1 x2 x3 x4 _ HTL.out (by omega) ((ents_take (HIr.out.alloc _) j).new (gr_new _ _ _))).mono fun _ _ h => by rw [HZ.out] at h; exact h))))
          with_reducible refine wpQuiet_nil ?_
          intro w3 b3
          have hc3 := New.cells b3; have hf3 := New.marks b3; have hz3 := New.le b3; try simp only [World.size_alloc, World.size_setCell] at hz3
          try have z3_0_0 : w.heap.size < w3.heap.size := by omega
          try have z3_0_1 : w.heap.size + 1 < w3.heap.size := by omega
          try have z3_0_2 : w.heap.size + 2 < w3.heap.size := by omega
          try have z3_1_0 : w1.heap.size < w3.heap.size := by omega
          try have z3_1_1 : w1.heap.size + 1 < w3.heap.size := by omega
          try have z3_1_2 : w1.heap.size + 2 < w3.heap.size := by omega
          try have z3_2_0 : w2.heap.size < w3.heap.size := by omega
          try have z3_2_1 : w2.heap.size + 1 < w3.heap.size := by omega
          try have z3_2_2 : w2.heap.size + 2 < w3.heap.size := by omega
          go_wp2_with fail
          go_ret
          exact ⟨by rw [HF.out]; rfl, (by repeat (first | with_reducible assumption | with_reducible exact New.refl _ | with_reducible refine New.alloc ?_ _ | with_reducible refine New.drew ?_ | with_reducible refine New.drewN ?_ _ | refine New.setCell ?_ (by first | (simp; done) | omega | (simp; omega)) _ | with_reducible refine New.trans ?_ (by with_reducible assumption)))⟩
        · cases hL : inB x6 0 100000
          · skip
            have HF := Lib.hid (tabB_no (sz := sz) (st := st) HJL.out (stepT_bad HX.out (by simp [entB, hL])))
            go_wp2_with fail
            refine wp_region_qb (by kernel_rfl) (by kernel_rfl) ?_
            repeat (go_big_quiet_step ((first | with_reducible exact gr_call ((flowValid_spec x0 x1 x2 x3 x4 _).mono fun _ _ h => by rw [hF] at h; exact h) | with_reducible exact gr_same ((l1In_any x5 0 30 _).mono fun _ _ h => by rw [hTo] at h; exact h) | with_reducible exact gr_same ((l1In_any x6 0 100000 _).mono fun _ _ h => by rw [hL] at h; exact h) | with_reducible exact gr_call ((l9Place_any _ j c (es.take j) x0 x1 x2 x3 x4 _ HTL.out (by omega) ((ents_take (HIr.out.alloc _) j).new (gr_new _ _ _))).mono fun _ _ h => by rw [HZ.out] at h; exact h))))
            with_reducible refine wpQuiet_nil ?_
            intro w3 b3
            have hc3 := New.cells b3; have hf3 := New.marks b3; have hz3 := New.le b3; try simp only [World.size_alloc, World.size_setCell] at hz3
            try have z3_0_0 : w.heap.size < w3.heap.size := by omega
            try have z3_0_1 : w.heap.size + 1 < w3.heap.size := by omega
            try have z3_0_2 : w.heap.size + 2 < w3.heap.size := by omega
            try have z3_1_0 : w1.heap.size < w3.heap.size := by omega
            try have z3_1_1 : w1.heap.size + 1 < w3.heap.size := by omega
            try have z3_1_2 : w1.heap.size + 2 < w3.heap.size := by omega
            try have z3_2_0 : w2.heap.size < w3.heap.size := by omega
            try have z3_2_1 : w2.heap.size + 1 < w3.heap.size := by omega
            try have z3_2_2 : w2.heap.size + 2 < w3.heap.size := by omega
            go_wp2_with fail
            go_ret
            exact ⟨by rw [HF.out]; rfl, (by repeat (first | with_reducible assumption | with_reducible exact New.refl _ | with_reducible refine New.alloc ?_ _ | with_reducible refine New.drew ?_ | with_reducible refine New.drewN ?_ _ | refine New.setCell ?_ (by first | (simp; done) | omega | (simp; omega)) _ | with_reducible refine New.trans ?_ (by with_reducible assumption)))⟩
          · have HE := Lib.hid (show entB ⟨x0, x1, x2, x3, x4, x5, x6⟩ = true by simp [entB, flB, hF, hTo, hL])
            rcases hprev with h0 | ⟨h0, y, hy, d6⟩
            · have hd : decide ((0 : Int) < (j : Int)) = false := by simp; omega
              have hd' : decide (0 < j) = false := by simp; omega
              obtain rfl : Z = -1 := by rw [← HZ.out, h0]; rfl
              have HS := Lib.hid (show stepT es j = true by rw [stepT_zero h0 HX.out, HE.out])
              clear h0
              go_wp2_with fail
              refine wp_region_qb (by kernel_rfl) (by kernel_rfl) ?_
              repeat (go_big_quiet_step ((first | with_reducible exact gr_call ((flowValid_spec x0 x1 x2 x3 x4 _).mono fun _ _ h => by rw [hF] at h; exact h) | with_reducible exact gr_same ((l1In_any x5 0 30 _).mono fun _ _ h => by rw [hTo] at h; exact h) | with_reducible exact gr_same ((l1In_any x6 0 100000 _).mono fun _ _ h => by rw [hL] at h; exact h) | with_reducible exact gr_call ((l9Place_any _ j c (es.take j) x0 x1 x2 x3 x4 _ HTL.out (by omega) ((ents_take (HIr.out.alloc _) j).new (gr_new _ _ _))).mono fun _ _ h => by rw [HZ.out] at h; exact h))))
              with_reducible refine wpQuiet_nil ?_
              intro w3 b3
              have hc3 := New.cells b3; have hf3 := New.marks b3; have hz3 := New.le b3; try simp only [World.size_alloc, World.size_setCell] at hz3
              try have z3_0_0 : w.heap.size < w3.heap.size := by omega
              try have z3_0_1 : w.heap.size + 1 < w3.heap.size := by omega
              try have z3_0_2 : w.heap.size + 2 < w3.heap.size := by omega
              try have z3_1_0 : w1.heap.size < w3.heap.size := by omega
              try have z3_1_1 : w1.heap.size + 1 < w3.heap.size := by omega
              try have z3_1_2 : w1.heap.size + 2 < w3.heap.size := by omega
              try have z3_2_0 : w2.heap.size < w3.heap.size := by omega
              try have z3_2_1 : w2.heap.size + 1 < w3.heap.size := by omega
              try have z3_2_2 : w2.heap.size + 2 < w3.heap.size := by omega
              go_wp2_with fail
              go_roundw
              case rel => exact ⟨j + 1, by omega, by go_num, Lib.hid (all_succ HK.out HS.out), (hnew.alloc _).trans b3⟩
              case measure => simp [intOf]; omega
            · have hd : decide ((0 : Int) < (j : Int)) = true := by simp; omega
              have HST := Lib.hid (stepT_succ h0 HX.out hy)
              obtain ⟨y6, hy6⟩ : ∃ y6, y.last = y6 := ⟨_, rfl⟩
              rw [hy6] at HST d6
              clear hy hy6
              by_cases hle : x6 < y6
              · have hle' : decide (x6 < y6) = true := by simpa using hle
                have HF := Lib.hid (tabB_no (sz := sz) (st := st) HJL.out (by rw [HST.out]; simp; intro _ h; omega))
                go_wp2_with fail
                refine wp_region_qb (by kernel_rfl) (by kernel_rfl) ?_
                repeat (go_big_quiet_step ((first | with_reducible exact gr_call ((flowValid_spec x0 x1 x2 x3 x4 _).mono fun _ _ h => by rw [hF] at h; exact h) | with_reducible exact gr_same ((l1In_any x5 0 30 _).mono fun _ _ h => by rw [hTo] at h; exact h) | with_reducible exact gr_same ((l1In_any x6 0 100000 _).mono fun _ _ h => by rw [hL] at h; exact h) | with_reducible exact gr_call ((l9Place_any _ j c (es.take j) x0 x1 x2 x3 x4 _ HTL.out (by omega) ((ents_take (HIr.out.alloc _) j).new (gr_new _ _ _))).mono fun _ _ h => by rw [HZ.out] at h; exact h))))
                with_reducible refine wpQuiet_nil ?_
                intro w3 b3
                have hc3 := New.cells b3; have hf3 := New.marks b3; have hz3 := New.le b3; try simp only [World.size_alloc, World.size_setCell] at hz3
                try have z3_0_0 : w.heap.size < w3.heap.size := by omega
                try have z3_0_1 : w.heap.size + 1 < w3.heap.size := by omega
                try have z3_0_2 : w.heap.size + 2 < w3.heap.size := by omega
                try have z3_1_0 : w1.heap.size < w3.heap.size := by omega
                try have z3_1_1 : w1.heap.size + 1 < w3.heap.size := by omega
                try have z3_1_2 : w1.heap.size + 2 < w3.heap.size := by omega
                try have z3_2_0 : w2.heap.size < w3.heap.size := by omega
                try have z3_2_1 : w2.heap.size + 1 < w3.heap.size := by omega
                try have z3_2_2 : w2.heap.size + 2 < w3.heap.size := by omega
                go_wp2_with fail
                go_ret
                exact ⟨by rw [HF.out]; rfl, (by repeat (first | with_reducible assumption | with_reducible exact New.refl _ | with_reducible refine New.alloc ?_ _ | with_reducible refine New.drew ?_ | with_reducible refine New.drewN ?_ _ | refine New.setCell ?_ (by first | (simp; done) | omega | (simp; omega)) _ | with_reducible refine New.trans ?_ (by with_reducible assumption)))⟩
              · have hle' : decide (x6 < y6) = false := by simpa using hle
                by_cases hZ0 : 0 ≤ Z
                · have hZd : decide (0 ≤ Z) = true := by simpa using hZ0
                  have HF := Lib.hid (tabB_no (sz := sz) (st := st) HJL.out (by rw [HST.out, HD.out, hZd]; simp))
                  go_wp2_with fail
                  refine wp_region_qb (by kernel_rfl) (by kernel_rfl) ?_
                  repeat (go_big_quiet_step ((first | with_reducible exact gr_call ((flowValid_spec x0 x1 x2 x3 x4 _).mono fun _ _ h => by rw [hF] at h; exact h) | with_reducible exact gr_same ((l1In_any x5 0 30 _).mono fun _ _ h => by rw [hTo] at h; exact h) | with_reducible exact gr_same ((l1In_any x6 0 100000 _).mono fun _ _ h => by rw [hL] at h; exact h) | with_reducible exact gr_call ((l9Place_any _ j c (es.take j) x0 x1 x2 x3 x4 _ HTL.out (by omega) ((ents_take (HIr.out.alloc _) j).new (gr_new _ _ _))).mono fun _ _ h => by rw [HZ.out] at h; exact h))))
                  with_reducible refine wpQuiet_nil ?_
                  intro w3 b3
                  have hc3 := New.cells b3; have hf3 := New.marks b3; have hz3 := New.le b3; try simp only [World.size_alloc, World.size_setCell] at hz3
                  try have z3_0_0 : w.heap.size < w3.heap.size := by omega
                  try have z3_0_1 : w.heap.size + 1 < w3.heap.size := by omega
                  try have z3_0_2 : w.heap.size + 2 < w3.heap.size := by omega
                  try have z3_1_0 : w1.heap.size < w3.heap.size := by omega
                  try have z3_1_1 : w1.heap.size + 1 < w3.heap.size := by omega
                  try have z3_1_2 : w1.heap.size + 2 < w3.heap.size := by omega
                  try have z3_2_0 : w2.heap.size < w3.heap.size := by omega
                  try have z3_2_1 : w2.heap.size + 1 < w3.heap.size := by omega
                  try have z3_2_2 : w2.heap.size + 2 < w3.heap.size := by omega
                  go_wp2_with fail
                  go_ret
                  exact ⟨by rw [HF.out]; rfl, (by repeat (first | with_reducible assumption | with_reducible exact New.refl _ | with_reducible refine New.alloc ?_ _ | with_reducible refine New.drew ?_ | with_reducible refine New.drewN ?_ _ | refine New.setCell ?_ (by first | (simp; done) | omega | (simp; omega)) _ | with_reducible refine New.trans ?_ (by with_reducible assumption)))⟩
                · have hZd : decide (0 ≤ Z) = false := by simpa using hZ0
                  have HS := Lib.hid (show stepT es j = true by rw [HST.out, HD.out, hZd, HE.out]; simp; omega)
                  go_wp2_with fail
                  refine wp_region_qb (by kernel_rfl) (by kernel_rfl) ?_
                  repeat (go_big_quiet_step ((first | with_reducible exact gr_call ((flowValid_spec x0 x1 x2 x3 x4 _).mono fun _ _ h => by rw [hF] at h; exact h) | with_reducible exact gr_same ((l1In_any x5 0 30 _).mono fun _ _ h => by rw [hTo] at h; exact h) | with_reducible exact gr_same ((l1In_any x6 0 100000 _).mono fun _ _ h => by rw [hL] at h; exact h) | with_reducible exact gr_call ((l9Place_any _ j c (es.take j) x0 x1 x2 x3 x4 _ HTL.out (by omega) ((ents_take (HIr.out.alloc _) j).new (gr_new _ _ _))).mono fun _ _ h => by rw [HZ.out] at h; exact h))))
                  with_reducible refine wpQuiet_nil ?_
                  intro w3 b3
                  have hc3 := New.cells b3; have hf3 := New.marks b3; have hz3 := New.le b3; try simp only [World.size_alloc, World.size_setCell] at hz3
                  try have z3_0_0 : w.heap.size < w3.heap.size := by omega
                  try have z3_0_1 : w.heap.size + 1 < w3.heap.size := by omega
                  try have z3_0_2 : w.heap.size + 2 < w3.heap.size := by omega
                  try have z3_1_0 : w1.heap.size < w3.heap.size := by omega
                  try have z3_1_1 : w1.heap.size + 1 < w3.heap.size := by omega
                  try have z3_1_2 : w1.heap.size + 2 < w3.heap.size := by omega
                  try have z3_2_0 : w2.heap.size < w3.heap.size := by omega
                  try have z3_2_1 : w2.heap.size + 1 < w3.heap.size := by omega
                  try have z3_2_2 : w2.heap.size + 2 < w3.heap.size := by omega
                  go_wp2_with fail
                  go_roundw
                  case rel => exact ⟨j + 1, by omega, by go_num, Lib.hid (all_succ HK.out HS.out), (hnew.alloc _).trans b3⟩
                  case measure => simp [intOf]; omega
    · obtain rfl : j = n := by omega
      have HT := Lib.hid (show tabB sz st es = (inB sz 1 12 && inB st 1 100000 && decide ((j : Int) ≤ sz)) by rw [tabB_yes (by rw [HN.out]; exact HK.out), HN.out])
      have hr3 : wr.heap[w.heap.size]? = some (.cells #[.int .i64 sz, .int .i64 st, .slice A j c] 44 (0, 0)) := (Below.block hnew w.heap.size hlt0).trans HR.out
      obtain ⟨C0, C1, C2⟩ := cellsT hr3
      clear hr3
      cases hS : inB sz 1 12
      · go_wp2_with fail
        refine (l1In_any sz 1 12 _).mono ?_
        rintro e w' ⟨rfl, rfl⟩
        rw [hS]
        go_wp2_with fail
        go_ret
        exact ⟨by rw [HT.out, hS]; rfl, b0.trans hnew⟩
      · cases hT : inB st 1 100000
        · go_wp2_with fail
          refine (l1In_any sz 1 12 _).mono ?_
          rintro e w' ⟨rfl, rfl⟩
          rw [hS]
          go_wp2_with fail
          refine (l1In_any st 1 100000 _).mono ?_
          rintro e w' ⟨rfl, rfl⟩
          rw [hT]
          go_wp2_with fail
          go_ret
          exact ⟨by rw [HT.out, hS, hT]; rfl, b0.trans hnew⟩
        · go_wp2_with fail
          refine (l1In_any sz 1 12 _).mono ?_
          rintro e w' ⟨rfl, rfl⟩
          rw [hS]
          go_wp2_with fail
          refine (l1In_any st 1 100000 _).mono ?_
          rintro e w' ⟨rfl, rfl⟩
          rw [hT]
          go_wp2_with fail
          go_ret
          exact ⟨by rw [HT.out, hS, hT]; rfl, b0.trans hnew⟩
end Go.Proofs.Ytbnehcaallehbaa
