/- The law FnTableValid. -/
import Derived.Test.YtbnehcaallehbaaDrawTb
import Derived.Test.YtbnehcaallehbaaTabI
import Derived.Test.YtbnehcaallehbaaRowT
import Derived.Test.YtbnehcaallehbaaWTabL
namespace Go.Proofs.Ytbnehcaallehbaa
set_option linter.unusedVariables false
set_option linter.unusedSimpArgs false
open Go.RowKit Go.Sort

theorem Own.setTabO {B n c : Nat} {w : World} {A : Option Addr} {zs : List Int} (h : Own 50 7 B w A n c zs) {G : Nat} (hT : TypAt w G) (j : Nat) (u : Value) : Own 50 7 B (w.setCell ⟨G, j, none⟩ u) A n c zs := by
  obtain ⟨cs, hc⟩ := hT
  obtain ⟨hl, ho⟩ := h
  refine ⟨hl, ?_⟩
  rcases ho with h0 | ⟨g, cap, cur, hv, hg, hh, hr⟩
  · exact .inl h0
  · refine .inr ⟨g, cap, cur, hv, hg, (Below.heap_setCell _ _ _ _ (fun e => ?_)).trans hh, hr⟩
    have e : g = G := e
    subst e
    rw [hc] at hh
    simp at hh
def StayL (T : List Int) (B : Nat) (w w' : World) : Prop := (∀ v n, RowT T 50 7 B w v n → RowT T 50 7 B w' v n) ∧ ∀ (b : Nat) (cs : Array Value) (T' : TypeId), cs.size ≤ 7 → w.heap[b]? = some (.cells cs T' (0, 0)) → w'.heap[b]? = some (.cells cs T' (0, 0))
theorem StayL.refl (T : List Int) (B : Nat) (w : World) : StayL T B w w := ⟨fun _ _ h => h, fun _ _ _ _ h => h⟩
theorem StayL.new {T : List Int} {B : Nat} {w w' : World} (hb : New w w') : StayL T B w w' := ⟨fun _ _ h => h.new hb, fun _ _ _ _ h => blk_new h hb⟩
def KeptL (T : List Int) (B : Nat) (P : Value → World → Prop) : Prop := ∀ v w w', StayL T B w w' → P v w → P v w'
def pT (T : List Int) (B n : Nat) (v : Value) (w : World) : Prop := RowT T 50 7 B w v n
def pLitE (cs : Array Value) (v : Value) (w : World) : Prop := ∃ g, v = .slice (some ⟨g, 0, none⟩) 1 1 ∧ w.heap[g]? = some (.cells cs 50 (0, 0))
def pTabT (T : List Int) (B : Nat) (sz st : Int) (n : Nat) (v : Value) (w : World) : Prop := ∃ A c, v = .agg #[.int .i64 sz, .int .i64 st, .slice A n c] ∧ RowT T 50 7 B w (.slice A n c) n
def pZB (W : Nat) (v : Value) (w : World) : Prop := ∃ g, v = .pointer (some ⟨g, 0, none⟩) ∧ W ≤ g ∧ w.heap[g]? = some (.cells #[.int .i64 0, .int .i64 0, .slice none 0 0] 44 (0, 0))
section
variable {T : List Int} {B : Nat}
theorem keptL_any {P : Value → World → Prop} (h : ∀ v w w', P v w → P v w') : KeptL T B P := fun v w w' _ hp => h v w w' hp
theorem keptL_t {n : Nat} : KeptL T B (pT T B n) := fun _ _ _ h hp => h.1 _ _ hp
theorem keptL_lit {cs : Array Value} (hs : cs.size ≤ 7) : KeptL T B (pLitE cs) := fun _ _ _ h ⟨g, hv, hg⟩ => ⟨g, hv, h.2 g _ _ hs hg⟩
theorem keptL_tab {sz st : Int} {n : Nat} : KeptL T B (pTabT T B sz st n) := fun _ _ _ h ⟨A, c, hv, hp⟩ => ⟨A, c, hv, h.1 _ _ hp⟩
theorem keptL_zb : KeptL T B (pZB B) := fun _ _ _ h ⟨g, hv, hW, hg⟩ => ⟨g, hv, hW, h.2 g _ _ (by decide) hg⟩
theorem factAt_keptL {ks : List (Value → World → Prop)} (h : ∀ P ∈ ks, KeptL T B P) (i : Nat) (v : Value) (w w' : World) (hS : StayL T B w w') (hf : factAt ks i v w) : factAt ks i v w' := by
  unfold factAt at *
  rw [List.getD_eq_getElem?_getD] at *
  rcases hk : ks[i]? with _ | P
  · simp
  · simp only [hk, Option.getD_some] at hf ⊢
    exact h P (List.mem_of_getElem? hk) v w w' hS hf
end
theorem lit_ints {w : World} {g : Nat} {x : Ent} (h : w.heap[g]? = some (.cells #[.int .i64 x.a, .int .i64 x.b, .int .i64 x.c, .int .i64 x.d, .int .i64 x.k, .int .i64 x.to, .int .i64 x.last] 50 (0, 0))) : Ints w (some ⟨g, 0, none⟩) (flatE [x]) := by
  intro _
  refine ⟨g, 0, rfl, fun j hj => ?_⟩
  have hj7 : j < 7 := by simpa [flatE] using hj
  rw [Nat.zero_add, cell_of_row _ _ _ _ _ _ h]
  rcases (show j = 0 ∨ j = 1 ∨ j = 2 ∨ j = 3 ∨ j = 4 ∨ j = 5 ∨ j = 6 by omega) with rfl | rfl | rfl | rfl | rfl | rfl | rfl <;> rfl
theorem tab_tail {sz st : Int} {es : List Ent} (h : tabB sz st es = true) : tabB sz st (es.drop 1) = true := by
  have hs := tab_steps h
  have h0 := h
  unfold tabB at h0
  rw [Bool.and_eq_true] at h0
  rw [tabB_yes (fun i hi => ?_)]
  · simp only [Bool.and_eq_true, decide_eq_true_eq] at h0 ⊢
    refine ⟨h0.2.1, ?_⟩
    have := h0.2.2
    simp
    omega
  · have hi' : i + 1 < es.length := by simp at hi; omega
    have h1 := hs (i + 1) hi'
    have hx : es[i + 1]? = some es[i + 1] := List.getElem?_eq_getElem hi'
    have hp : es[i]? = some es[i] := List.getElem?_eq_getElem (by omega)
    rw [stepT_succ (by omega) hx (by rw [Nat.add_sub_cancel]; exact hp)] at h1
    have hdx : (es.drop 1)[i]? = some es[i + 1] := by rw [List.getElem?_drop, Nat.add_comm, hx]
    simp only [Bool.and_eq_true, decide_eq_true_eq, Bool.not_eq_true'] at h1
    rcases Nat.eq_zero_or_pos i with h00 | h00
    · rw [stepT_zero h00 hdx]
      exact h1.1.1
    · have hdp : (es.drop 1)[i - 1]? = some es[i] := by rw [List.getElem?_drop, show 1 + (i - 1) = i by omega, hp]
      rw [stepT_succ h00 hdx hdp]
      simp only [Bool.and_eq_true, decide_eq_true_eq, Bool.not_eq_true']
      refine ⟨h1.1, ?_⟩
      rw [dupB, List.any_eq_false] at h1 ⊢
      intro y hy
      refine h1.2 y ?_
      rw [show i + 1 = 1 + i by omega, List.take_add]
      rw [List.take_drop] at hy
      rw [List.mem_append]
      right
      rw [List.take_drop]
      exact hy
theorem tab_twice {st : Int} {es : List Ent} {x : Ent} (hx : x ∈ es) : tabB 12 st (es ++ [x]) = false := by
  refine tabB_no (i := es.length) (by simp) (stepT_dup (e := x) (by simp) ?_)
  rw [List.take_left, dupB, List.any_eq_true]
  exact ⟨x, hx, eqF_true.2 ⟨rfl, rfl, rfl, rfl, rfl⟩⟩
set_option maxRecDepth 100000 in
set_option maxHeartbeats 4000000 in
theorem walk_FnTableValid (A : Option Addr) (n c : Nat) (zs : List Int) (w : World) (H : ArgInts .u8 w A n c 1 zs) :
    Calls Try.prog 6 #[.slice A n c] w fun e w' => e = .returned (.bool true) ∧ New w w' := by
  obtain ⟨i0, hi, iz0, iz1, iz2⟩ := info_parts entry_info
  have hc := CodeArg.of H
  have hm := hc.2.1
  have hgr := gr_cells
  unfold maxLen at hm
  clear H
  by_cases hbig : 1048576 < n
  · go_enter Try.func6, Try.ntmps6
    go_wp2_with fail
    go_ret
    exact ⟨rfl, (by repeat (first | with_reducible assumption | with_reducible exact New.refl _ | with_reducible refine New.alloc ?_ _ | with_reducible refine New.drew ?_ | with_reducible refine New.drewN ?_ _ | refine New.setCell ?_ (by first | (simp; done) | omega | (simp; omega)) _ | with_reducible refine New.trans ?_ (by with_reducible assumption)))⟩
  go_enter Try.func6, Try.ntmps6
  go_wp2_with fail
  refine (DrawTableValid_any A n c zs _ hc).mono ?_
  rintro e w1 ⟨v, rfl, ⟨sz, st, A1, n1, c1, es, rfl, hn8, hnc, hcm, hel, _, hI⟩, b1⟩
  obtain ⟨bb, hbb⟩ : ∃ bb, tabB sz st es = bb := ⟨_, rfl⟩
  have HB := Lib.hid hbb
  have HEL := Lib.hid hel
  have HI := Lib.hid hI
  have hz1 := New.le b1
  clear hel hI hc
  cases bb
  · clear hbb
    go_wp2_with fail
    refine (tableValid_impl sz st A1 n1 c1 es _ HEL.out (by omega) (HI.out.new (by repeat (first | with_reducible assumption | with_reducible exact New.refl _ | with_reducible refine New.alloc ?_ _ | with_reducible refine New.drew ?_ | with_reducible refine New.drewN ?_ _ | refine New.setCell ?_ (by first | (simp; done) | omega | (simp; omega)) _ | with_reducible refine New.trans ?_ (by with_reducible assumption))))).mono ?_
    rintro e w2 ⟨rfl, b2⟩
    rw [HB.out]
    have hc2 := New.cells b2; have hf2 := New.marks b2; have hz2 := New.le b2; try simp only [World.size_alloc, World.size_setCell] at hz2
    try have z2_0_0 : w.heap.size < w2.heap.size := by omega
    try have z2_0_1 : w.heap.size + 1 < w2.heap.size := by omega
    try have z2_0_2 : w.heap.size + 2 < w2.heap.size := by omega
    try have z2_1_0 : w1.heap.size < w2.heap.size := by omega
    try have z2_1_1 : w1.heap.size + 1 < w2.heap.size := by omega
    try have z2_1_2 : w1.heap.size + 2 < w2.heap.size := by omega
    go_wp2_with fail
    refine (tableValid_spec sz st A1 n1 c1 es _ HEL.out hnc (by omega) (HI.out.new (by repeat (first | with_reducible assumption | with_reducible exact New.refl _ | with_reducible refine New.alloc ?_ _ | with_reducible refine New.drew ?_ | with_reducible refine New.drewN ?_ _ | refine New.setCell ?_ (by first | (simp; done) | omega | (simp; omega)) _ | with_reducible refine New.trans ?_ (by with_reducible assumption))))).mono ?_
    rintro e w3 ⟨rfl, b3⟩
    rw [HB.out]
    have hc3 := New.cells b3; have hf3 := New.marks b3; have hz3 := New.le b3; try simp only [World.size_alloc, World.size_setCell] at hz3
    try have z3_0_0 : w.heap.size < w3.heap.size := by omega
    try have z3_0_1 : w.heap.size + 1 < w3.heap.size := by omega
    try have z3_0_2 : w.heap.size + 2 < w3.heap.size := by omega
    try have z3_1_0 : w1.heap.size < w3.heap.size := by omega
    try have z3_1_1 : w1.heap.size + 1 < w3.heap.size := by omega
    try have z3_1_2 : w1.heap.size + 2 < w3.heap.size := by omega
    try have z3_2_0 : w2.heap.size < w3.heap.size := by omega
    try have z3_2_1 : w2.heap.size + 1 < w3.heap.size := by omega
    try have z3_2_2 : w2.heap.size + 2 < w3.heap.size := by omega
    go_wp2_with fail
    refine (alive_any _).mono ?_
    rintro e w4 ⟨rfl, b4⟩
    have hc4 := New.cells b4; have hf4 := New.marks b4; have hz4 := New.le b4; try simp only [World.size_alloc, World.size_setCell] at hz4
    try have z4_0_0 : w.heap.size < w4.heap.size := by omega
    try have z4_0_1 : w.heap.size + 1 < w4.heap.size := by omega
    try have z4_0_2 : w.heap.size + 2 < w4.heap.size := by omega
    try have z4_1_0 : w1.heap.size < w4.heap.size := by omega
    try have z4_1_1 : w1.heap.size + 1 < w4.heap.size := by omega
    try have z4_1_2 : w1.heap.size + 2 < w4.heap.size := by omega
    try have z4_2_0 : w2.heap.size < w4.heap.size := by omega
    try have z4_2_1 : w2.heap.size + 1 < w4.heap.size := by omega
    try have z4_2_2 : w2.heap.size + 2 < w4.heap.size := by omega
    try have z4_3_0 : w3.heap.size < w4.heap.size := by omega
    try have z4_3_1 : w3.heap.size + 1 < w4.heap.size := by omega
    try have z4_3_2 : w3.heap.size + 2 < w4.heap.size := by omega
    go_wp2_with fail
    go_ret
    exact ⟨rfl, (by repeat (first | with_reducible assumption | with_reducible exact New.refl _ | with_reducible refine New.alloc ?_ _ | with_reducible refine New.drew ?_ | with_reducible refine New.drewN ?_ _ | refine New.setCell ?_ (by first | (simp; done) | omega | (simp; omega)) _ | with_reducible refine New.trans ?_ (by with_reducible assumption)))⟩
  by_cases h0 : n1 = 0
  · subst h0
    clear hbb
    go_wp2_with fail
    refine (tableValid_impl sz st A1 0 c1 es _ HEL.out (by omega) (HI.out.new (by repeat (first | with_reducible assumption | with_reducible exact New.refl _ | with_reducible refine New.alloc ?_ _ | with_reducible refine New.drew ?_ | with_reducible refine New.drewN ?_ _ | refine New.setCell ?_ (by first | (simp; done) | omega | (simp; omega)) _ | with_reducible refine New.trans ?_ (by with_reducible assumption))))).mono ?_
    rintro e w2 ⟨rfl, b2⟩
    rw [HB.out]
    have hc2 := New.cells b2; have hf2 := New.marks b2; have hz2 := New.le b2; try simp only [World.size_alloc, World.size_setCell] at hz2
    try have z2_0_0 : w.heap.size < w2.heap.size := by omega
    try have z2_0_1 : w.heap.size + 1 < w2.heap.size := by omega
    try have z2_0_2 : w.heap.size + 2 < w2.heap.size := by omega
    try have z2_1_0 : w1.heap.size < w2.heap.size := by omega
    try have z2_1_1 : w1.heap.size + 1 < w2.heap.size := by omega
    try have z2_1_2 : w1.heap.size + 2 < w2.heap.size := by omega
    go_wp2_with fail
    refine (tableValid_spec sz st A1 0 c1 es _ HEL.out hnc (by omega) (HI.out.new (by repeat (first | with_reducible assumption | with_reducible exact New.refl _ | with_reducible refine New.alloc ?_ _ | with_reducible refine New.drew ?_ | with_reducible refine New.drewN ?_ _ | refine New.setCell ?_ (by first | (simp; done) | omega | (simp; omega)) _ | with_reducible refine New.trans ?_ (by with_reducible assumption))))).mono ?_
    rintro e w3 ⟨rfl, b3⟩
    rw [HB.out]
    have hc3 := New.cells b3; have hf3 := New.marks b3; have hz3 := New.le b3; try simp only [World.size_alloc, World.size_setCell] at hz3
    try have z3_0_0 : w.heap.size < w3.heap.size := by omega
    try have z3_0_1 : w.heap.size + 1 < w3.heap.size := by omega
    try have z3_0_2 : w.heap.size + 2 < w3.heap.size := by omega
    try have z3_1_0 : w1.heap.size < w3.heap.size := by omega
    try have z3_1_1 : w1.heap.size + 1 < w3.heap.size := by omega
    try have z3_1_2 : w1.heap.size + 2 < w3.heap.size := by omega
    try have z3_2_0 : w2.heap.size < w3.heap.size := by omega
    try have z3_2_1 : w2.heap.size + 1 < w3.heap.size := by omega
    try have z3_2_2 : w2.heap.size + 2 < w3.heap.size := by omega
    go_wp2_with fail
    refine (alive_any _).mono ?_
    rintro e w4 ⟨rfl, b4⟩
    have hc4 := New.cells b4; have hf4 := New.marks b4; have hz4 := New.le b4; try simp only [World.size_alloc, World.size_setCell] at hz4
    try have z4_0_0 : w.heap.size < w4.heap.size := by omega
    try have z4_0_1 : w.heap.size + 1 < w4.heap.size := by omega
    try have z4_0_2 : w.heap.size + 2 < w4.heap.size := by omega
    try have z4_1_0 : w1.heap.size < w4.heap.size := by omega
    try have z4_1_1 : w1.heap.size + 1 < w4.heap.size := by omega
    try have z4_1_2 : w1.heap.size + 2 < w4.heap.size := by omega
    try have z4_2_0 : w2.heap.size < w4.heap.size := by omega
    try have z4_2_1 : w2.heap.size + 1 < w4.heap.size := by omega
    try have z4_2_2 : w2.heap.size + 2 < w4.heap.size := by omega
    try have z4_3_0 : w3.heap.size < w4.heap.size := by omega
    try have z4_3_1 : w3.heap.size + 1 < w4.heap.size := by omega
    try have z4_3_2 : w3.heap.size + 2 < w4.heap.size := by omega
    go_wp2_with fail
    go_ret
    exact ⟨rfl, (by repeat (first | with_reducible assumption | with_reducible exact New.refl _ | with_reducible refine New.alloc ?_ _ | with_reducible refine New.drew ?_ | with_reducible refine New.drewN ?_ _ | refine New.setCell ?_ (by first | (simp; done) | omega | (simp; omega)) _ | with_reducible refine New.trans ?_ (by with_reducible assumption)))⟩
  obtain ⟨k, rfl⟩ : ∃ k, n1 = k + 1 := ⟨n1 - 1, by omega⟩
  obtain ⟨b, o, x, rfl, hx, hb, _⟩ := ents_at HI.out (i := k) (by rw [HEL.out]; omega)
  have HX := Lib.hid hx
  have HV1 := Lib.hid (tab_tail hbb)
  have HV2 := Lib.hid (tab_twice (st := st) (List.mem_of_getElem? hx))
  clear hx hbb h0
  go_wp2_with fail
  refine (tableValid_impl sz st (some ⟨b, o, none⟩) (k + 1) c1 es _ HEL.out (by omega) (HI.out.new (by repeat (first | with_reducible assumption | with_reducible exact New.refl _ | with_reducible refine New.alloc ?_ _ | with_reducible refine New.drew ?_ | with_reducible refine New.drewN ?_ _ | refine New.setCell ?_ (by first | (simp; done) | omega | (simp; omega)) _ | with_reducible refine New.trans ?_ (by with_reducible assumption))))).mono ?_
  rintro e w2 ⟨rfl, b2⟩
  rw [HB.out]
  have hc2 := New.cells b2; have hf2 := New.marks b2; have hz2 := New.le b2; try simp only [World.size_alloc, World.size_setCell] at hz2
  try have z2_0_0 : w.heap.size < w2.heap.size := by omega
  try have z2_0_1 : w.heap.size + 1 < w2.heap.size := by omega
  try have z2_0_2 : w.heap.size + 2 < w2.heap.size := by omega
  try have z2_1_0 : w1.heap.size < w2.heap.size := by omega
  try have z2_1_1 : w1.heap.size + 1 < w2.heap.size := by omega
  try have z2_1_2 : w1.heap.size + 2 < w2.heap.size := by omega
  go_wp2_with fail
  refine (tableValid_spec sz st (some ⟨b, o, none⟩) (k + 1) c1 es _ HEL.out hnc (by omega) (HI.out.new (by repeat (first | with_reducible assumption | with_reducible exact New.refl _ | with_reducible refine New.alloc ?_ _ | with_reducible refine New.drew ?_ | with_reducible refine New.drewN ?_ _ | refine New.setCell ?_ (by first | (simp; done) | omega | (simp; omega)) _ | with_reducible refine New.trans ?_ (by with_reducible assumption))))).mono ?_
  rintro e w3 ⟨rfl, b3⟩
  rw [HB.out]
  have hc3 := New.cells b3; have hf3 := New.marks b3; have hz3 := New.le b3; try simp only [World.size_alloc, World.size_setCell] at hz3
  try have z3_0_0 : w.heap.size < w3.heap.size := by omega
  try have z3_0_1 : w.heap.size + 1 < w3.heap.size := by omega
  try have z3_0_2 : w.heap.size + 2 < w3.heap.size := by omega
  try have z3_1_0 : w1.heap.size < w3.heap.size := by omega
  try have z3_1_1 : w1.heap.size + 1 < w3.heap.size := by omega
  try have z3_1_2 : w1.heap.size + 2 < w3.heap.size := by omega
  try have z3_2_0 : w2.heap.size < w3.heap.size := by omega
  try have z3_2_1 : w2.heap.size + 1 < w3.heap.size := by omega
  try have z3_2_2 : w2.heap.size + 2 < w3.heap.size := by omega
  have tG := blk_new (blk_new (heap_alloc_new w1 (.cells #[.int .i64 sz, .int .i64 st, .slice (some ⟨b, o, none⟩) (k + 1) c1] 44)) b2) b3
  have HI3 := Lib.hid (HI.out.new (((New.alloc (New.refl w1) (.cells #[.int .i64 sz, .int .i64 st, .slice (some ⟨b, o, none⟩) (k + 1) c1] 44)).trans b2).trans b3))
  have hN3 : New w w3 := (by repeat (first | with_reducible assumption | with_reducible exact New.refl _ | with_reducible refine New.alloc ?_ _ | with_reducible refine New.drew ?_ | with_reducible refine New.drewN ?_ _ | refine New.setCell ?_ (by first | (simp; done) | omega | (simp; omega)) _ | with_reducible refine New.trans ?_ (by with_reducible assumption)))
  obtain ⟨b', o', y, hbo, hy, hb3, c0, c1', c2, c3, c4, c5, c6⟩ := ents_at HI3.out (i := k) (by rw [HEL.out]; omega)
  obtain ⟨rfl, rfl⟩ : b = b' ∧ o = o' := by simpa using hbo
  obtain rfl : x = y := by rw [HX.out] at hy; exact Option.some.inj hy
  clear hy hbo hb HI HX hc2 hf2 hc3 hf3 b1 b2 b3
  obtain ⟨C0, C1, C2⟩ := cellsT tG
  have hG3 := blk_lt tG
  obtain ⟨T, hT⟩ : ∃ T, flatE (es ++ [x]) = T := ⟨_, rfl⟩
  have HTL := Lib.hid (show T.length = (k + 1 + 1) * 7 by rw [← hT, flatE_len, List.length_append, HEL.out]; rfl)
  have HT1 := Lib.hid (show (T.drop (0 * 7)).take ((k + 1) * 7) = flatE es by rw [← hT, flatE_append, Nat.zero_mul, List.drop_zero, List.take_left' (by rw [flatE_len, HEL.out])])
  have HT2 := Lib.hid (show (T.drop ((k + 1) * 7)).take (1 * 7) = flatE [x] by rw [← hT, flatE_append, List.drop_left' (by rw [flatE_len, HEL.out])]; rfl)
  have HT3 := Lib.hid (show T.take ((k + 1 + 1) * 7) = flatE (es ++ [x]) by rw [hT, List.take_of_length_le (Nat.le_of_eq HTL.out)])
  clear hT
  go_wp2_with fail
  obtain ⟨FF, hFF⟩ : ∃ FF, FF = factAt [pVal (.pointer (some ⟨w1.heap.size, 1, none⟩)), pVal (.int .i64 st), pT T w3.heap.size 0, pVal (.pointer (some ⟨w1.heap.size, 2, none⟩)), pVal (.slice (some ⟨b, o, none⟩) (k + 1) c1), pT T w3.heap.size (k + 1), pVal (.pointer (some ⟨w1.heap.size, 2, none⟩)), pVal (.slice (some ⟨b, o, none⟩) (k + 1) c1), pVal (.pointer (some ⟨w1.heap.size, 2, none⟩)), pVal (.slice (some ⟨b, o, none⟩) (k + 1) c1), pVal (.int .i64 ((k + 1 : Nat) : Int)), pVal (.int .i64 (k : Int)), pVal (.pointer (some ⟨b, o + k * 7, none⟩)), pVal (.agg #[.int .i64 x.a, .int .i64 x.b, .int .i64 x.c, .int .i64 x.d, .int .i64 x.k, .int .i64 x.to, .int .i64 x.last]), pLitE #[.int .i64 x.a, .int .i64 x.b, .int .i64 x.c, .int .i64 x.d, .int .i64 x.k, .int .i64 x.to, .int .i64 x.last], pT T w3.heap.size (k + 1 + 1), pTabT T w3.heap.size 12 st (k + 1 + 1), pZB w3.heap.size] := ⟨_, rfl⟩
  have HFF := Lib.hid hFF
  clear hFF
  refine wp_region_tail 18 (by kernel_rfl) (by kernel_rfl) (by kernel_rfl) (by decide) (LrI w3) FF (StayL T w3.heap.size) (by rw [HFF.out]; exact factAt_keptL (by
      intro P hP
      simp only [List.mem_cons, List.not_mem_nil, or_false] at hP
      rcases hP with rfl | rfl | rfl | rfl | rfl | rfl | rfl | rfl | rfl | rfl | rfl | rfl | rfl | rfl | rfl | rfl | rfl | rfl
      · exact keptL_any (fun _ _ _ h => h)
      · exact keptL_any (fun _ _ _ h => h)
      · exact keptL_t
      · exact keptL_any (fun _ _ _ h => h)
      · exact keptL_any (fun _ _ _ h => h)
      · exact keptL_t
      · exact keptL_any (fun _ _ _ h => h)
      · exact keptL_any (fun _ _ _ h => h)
      · exact keptL_any (fun _ _ _ h => h)
      · exact keptL_any (fun _ _ _ h => h)
      · exact keptL_any (fun _ _ _ h => h)
      · exact keptL_any (fun _ _ _ h => h)
      · exact keptL_any (fun _ _ _ h => h)
      · exact keptL_any (fun _ _ _ h => h)
      · exact keptL_lit (Nat.le_refl 7)
      · exact keptL_t
      · exact keptL_tab
      · exact keptL_zb
      )) (New.drew (New.refl _)) ?_ ?_
  · refine ⟨?_, ?_, ?_, ?_, ?_, ?_, ?_, ?_, ?_, ?_, ?_, ?_, ?_, ?_, ?_, ?_, ?_, ?_, trivial⟩
    · -- 0
      intro vs kq wq hI hF
      clear hF
      have hI : New w3 wq := hI
      simp only [fillTo, dstOf, List.getElem?_toArray, List.getElem?_cons_zero, List.getElem?_cons_succ, Option.bind_some, Act.put, List.setIfInBounds_toArray, List.set_cons_zero, List.set_cons_succ]
      go_wp2_with fail
      exact ⟨_, rfl, hI, StayL.refl _ _ _, by rw [HFF.out]; exact rfl⟩
    · -- 1
      intro vs kq wq hI hF
      have f0 : pVal (.pointer (some ⟨w1.heap.size, 1, none⟩)) (vs 0) wq := (by have h := hF 0 (by rfl); rw [HFF.out] at h; exact h)
      unfold pVal at f0
      clear hF
      have hI : New w3 wq := hI
      simp only [fillTo, dstOf, List.getElem?_toArray, List.getElem?_cons_zero, List.getElem?_cons_succ, Option.bind_some, Act.put, List.setIfInBounds_toArray, List.set_cons_zero, List.set_cons_succ, f0]
      clear f0
      have hcq := New.cells hI; have hzq := New.le hI
      go_wp2_with fail
      exact ⟨_, rfl, hI, StayL.refl _ _ _, by rw [HFF.out]; exact rfl⟩
    · -- 2
      intro vs kq wq hI hF
      clear hF
      have hI : New w3 wq := hI
      simp only [fillTo, dstOf, List.getElem?_toArray, List.getElem?_cons_zero, List.getElem?_cons_succ, Option.bind_some, Act.put, List.setIfInBounds_toArray, List.set_cons_zero, List.set_cons_succ]
      go_wp2_with fail
      exact ⟨_, rfl, New.trans hI ((New.refl _).alloc _), StayL.new ((New.refl _).alloc _), by rw [HFF.out]; exact ⟨Nat.le_trans (Nat.le_of_eq (Nat.zero_mul _)) (Nat.zero_le _), _, 0, rfl, fun _ => rfl, by rw [Nat.zero_mul, List.take_zero]; exact World.ownsRow_lit wq #[] 0 (New.le hI) (Nat.zero_le _) rfl⟩⟩
    · -- 3
      intro vs kq wq hI hF
      clear hF
      have hI : New w3 wq := hI
      simp only [fillTo, dstOf, List.getElem?_toArray, List.getElem?_cons_zero, List.getElem?_cons_succ, Option.bind_some, Act.put, List.setIfInBounds_toArray, List.set_cons_zero, List.set_cons_succ]
      go_wp2_with fail
      exact ⟨_, rfl, hI, StayL.refl _ _ _, by rw [HFF.out]; exact rfl⟩
    · -- 4
      intro vs kq wq hI hF
      have f3 : pVal (.pointer (some ⟨w1.heap.size, 2, none⟩)) (vs 3) wq := (by have h := hF 3 (by rfl); rw [HFF.out] at h; exact h)
      unfold pVal at f3
      clear hF
      have hI : New w3 wq := hI
      simp only [fillTo, dstOf, List.getElem?_toArray, List.getElem?_cons_zero, List.getElem?_cons_succ, Option.bind_some, Act.put, List.setIfInBounds_toArray, List.set_cons_zero, List.set_cons_succ, f3]
      clear f3
      have hcq := New.cells hI; have hzq := New.le hI
      go_wp2_with fail
      exact ⟨_, rfl, hI, StayL.refl _ _ _, by rw [HFF.out]; exact rfl⟩
    · -- 5
      intro vs kq wq hI hF
      have f2 : pT T w3.heap.size 0 (vs 2) wq := (by have h := hF 2 (by rfl); rw [HFF.out] at h; exact h)
      have f4 : pVal (.slice (some ⟨b, o, none⟩) (k + 1) c1) (vs 4) wq := (by have h := hF 4 (by rfl); rw [HFF.out] at h; exact h)
      unfold pVal at f4
      clear hF
      have hI : New w3 wq := hI
      simp only [fillTo, dstOf, List.getElem?_toArray, List.getElem?_cons_zero, List.getElem?_cons_succ, Option.bind_some, Act.put, List.setIfInBounds_toArray, List.set_cons_zero, List.set_cons_succ, f4]
      clear f4
      obtain ⟨VV, hVV⟩ : ∃ VV, vs 2 = VV := ⟨_, rfl⟩
      rw [hVV] at f2 ⊢
      clear hVV
      have f2 : RowT T 50 7 w3.heap.size wq VV 0 := f2
      go_wp2_with (at_builtin; refine wpList_append_T _ rfl (.tmp 28) (.tmp 30) 42 rfl w3 w3.heap.size T 50 i0 _ 7 56 Try.underlying42 hi iz0 iz1 iz2 rfl (by omega) (by omega) VV 0 rfl f2 (some ⟨b, o, none⟩) (k + 1) c1 rfl (fun e => by cases e) (by rw [HTL.out]; omega) (by rw [HT1.out]; exact HI3.out.new hI) (by omega) (Nat.le_refl _) (New.le hI) hI ?_; intro v2 w2 r2 n2 k2 l2)
      exact ⟨_, rfl, n2, ⟨k2, l2⟩, by rw [HFF.out]; rw [Nat.zero_add] at r2; exact r2⟩
    · -- 6
      intro vs kq wq hI hF
      clear hF
      have hI : New w3 wq := hI
      simp only [fillTo, dstOf, List.getElem?_toArray, List.getElem?_cons_zero, List.getElem?_cons_succ, Option.bind_some, Act.put, List.setIfInBounds_toArray, List.set_cons_zero, List.set_cons_succ]
      go_wp2_with fail
      exact ⟨_, rfl, hI, StayL.refl _ _ _, by rw [HFF.out]; exact rfl⟩
    · -- 7
      intro vs kq wq hI hF
      have f6 : pVal (.pointer (some ⟨w1.heap.size, 2, none⟩)) (vs 6) wq := (by have h := hF 6 (by rfl); rw [HFF.out] at h; exact h)
      unfold pVal at f6
      clear hF
      have hI : New w3 wq := hI
      simp only [fillTo, dstOf, List.getElem?_toArray, List.getElem?_cons_zero, List.getElem?_cons_succ, Option.bind_some, Act.put, List.setIfInBounds_toArray, List.set_cons_zero, List.set_cons_succ, f6]
      clear f6
      have hcq := New.cells hI; have hzq := New.le hI
      go_wp2_with fail
      exact ⟨_, rfl, hI, StayL.refl _ _ _, by rw [HFF.out]; exact rfl⟩
    · -- 8
      intro vs kq wq hI hF
      clear hF
      have hI : New w3 wq := hI
      simp only [fillTo, dstOf, List.getElem?_toArray, List.getElem?_cons_zero, List.getElem?_cons_succ, Option.bind_some, Act.put, List.setIfInBounds_toArray, List.set_cons_zero, List.set_cons_succ]
      go_wp2_with fail
      exact ⟨_, rfl, hI, StayL.refl _ _ _, by rw [HFF.out]; exact rfl⟩
    · -- 9
      intro vs kq wq hI hF
      have f8 : pVal (.pointer (some ⟨w1.heap.size, 2, none⟩)) (vs 8) wq := (by have h := hF 8 (by rfl); rw [HFF.out] at h; exact h)
      unfold pVal at f8
      clear hF
      have hI : New w3 wq := hI
      simp only [fillTo, dstOf, List.getElem?_toArray, List.getElem?_cons_zero, List.getElem?_cons_succ, Option.bind_some, Act.put, List.setIfInBounds_toArray, List.set_cons_zero, List.set_cons_succ, f8]
      clear f8
      have hcq := New.cells hI; have hzq := New.le hI
      go_wp2_with fail
      exact ⟨_, rfl, hI, StayL.refl _ _ _, by rw [HFF.out]; exact rfl⟩
    · -- 10
      intro vs kq wq hI hF
      have f9 : pVal (.slice (some ⟨b, o, none⟩) (k + 1) c1) (vs 9) wq := (by have h := hF 9 (by rfl); rw [HFF.out] at h; exact h)
      unfold pVal at f9
      clear hF
      have hI : New w3 wq := hI
      simp only [fillTo, dstOf, List.getElem?_toArray, List.getElem?_cons_zero, List.getElem?_cons_succ, Option.bind_some, Act.put, List.setIfInBounds_toArray, List.set_cons_zero, List.set_cons_succ, f9]
      clear f9
      go_wp2_with fail
      exact ⟨_, rfl, hI, StayL.refl _ _ _, by rw [HFF.out]; exact congrArg (Value.int .i64) (by omega)⟩
    · -- 11
      intro vs kq wq hI hF
      have f10 : pVal (.int .i64 ((k + 1 : Nat) : Int)) (vs 10) wq := (by have h := hF 10 (by rfl); rw [HFF.out] at h; exact h)
      unfold pVal at f10
      clear hF
      have hI : New w3 wq := hI
      simp only [fillTo, dstOf, List.getElem?_toArray, List.getElem?_cons_zero, List.getElem?_cons_succ, Option.bind_some, Act.put, List.setIfInBounds_toArray, List.set_cons_zero, List.set_cons_succ, f10]
      clear f10
      go_wp2_with fail
      exact ⟨_, rfl, hI, StayL.refl _ _ _, by rw [HFF.out]; exact congrArg (Value.int .i64) (by omega)⟩
    · -- 12
      intro vs kq wq hI hF
      have f7 : pVal (.slice (some ⟨b, o, none⟩) (k + 1) c1) (vs 7) wq := (by have h := hF 7 (by rfl); rw [HFF.out] at h; exact h)
      unfold pVal at f7
      have f11 : pVal (.int .i64 (k : Int)) (vs 11) wq := (by have h := hF 11 (by rfl); rw [HFF.out] at h; exact h)
      unfold pVal at f11
      clear hF
      have hI : New w3 wq := hI
      simp only [fillTo, dstOf, List.getElem?_toArray, List.getElem?_cons_zero, List.getElem?_cons_succ, Option.bind_some, Act.put, List.setIfInBounds_toArray, List.set_cons_zero, List.set_cons_succ, f7, f11]
      clear f7 f11
      have hcq := New.cells hI; have hzq := New.le hI
      go_wp2_with fail
      exact ⟨_, rfl, hI, StayL.refl _ _ _, by rw [HFF.out]; exact rfl⟩
    · -- 13
      intro vs kq wq hI hF
      have f12 : pVal (.pointer (some ⟨b, o + k * 7, none⟩)) (vs 12) wq := (by have h := hF 12 (by rfl); rw [HFF.out] at h; exact h)
      unfold pVal at f12
      clear hF
      have hI : New w3 wq := hI
      simp only [fillTo, dstOf, List.getElem?_toArray, List.getElem?_cons_zero, List.getElem?_cons_succ, Option.bind_some, Act.put, List.setIfInBounds_toArray, List.set_cons_zero, List.set_cons_succ, f12]
      clear f12
      have hcq := New.cells hI; have hzq := New.le hI
      go_wp2_with fail
      exact ⟨_, rfl, hI, StayL.refl _ _ _, by rw [HFF.out]; exact rfl⟩
    · -- 14
      intro vs kq wq hI hF
      have f13 : pVal (.agg #[.int .i64 x.a, .int .i64 x.b, .int .i64 x.c, .int .i64 x.d, .int .i64 x.k, .int .i64 x.to, .int .i64 x.last]) (vs 13) wq := (by have h := hF 13 (by rfl); rw [HFF.out] at h; exact h)
      unfold pVal at f13
      clear hF
      have hI : New w3 wq := hI
      simp only [fillTo, dstOf, List.getElem?_toArray, List.getElem?_cons_zero, List.getElem?_cons_succ, Option.bind_some, Act.put, List.setIfInBounds_toArray, List.set_cons_zero, List.set_cons_succ, f13]
      clear f13
      go_wp2_with fail
      exact ⟨_, rfl, New.trans hI ((New.refl _).alloc _), StayL.new ((New.refl _).alloc _), by rw [HFF.out]; exact ⟨_, rfl, heap_alloc_new _ _⟩⟩
    · -- 15
      intro vs kq wq hI hF
      have f5 : pT T w3.heap.size (k + 1) (vs 5) wq := (by have h := hF 5 (by rfl); rw [HFF.out] at h; exact h)
      have f14 : pLitE #[.int .i64 x.a, .int .i64 x.b, .int .i64 x.c, .int .i64 x.d, .int .i64 x.k, .int .i64 x.to, .int .i64 x.last] (vs 14) wq := (by have h := hF 14 (by rfl); rw [HFF.out] at h; exact h)
      clear hF
      have hI : New w3 wq := hI
      obtain ⟨g, e14, hgl⟩ := f14
      simp only [fillTo, dstOf, List.getElem?_toArray, List.getElem?_cons_zero, List.getElem?_cons_succ, Option.bind_some, Act.put, List.setIfInBounds_toArray, List.set_cons_zero, List.set_cons_succ, e14]
      clear e14
      obtain ⟨VV, hVV⟩ : ∃ VV, vs 5 = VV := ⟨_, rfl⟩
      rw [hVV] at f5 ⊢
      clear hVV
      have f5 : RowT T 50 7 w3.heap.size wq VV (k + 1) := f5
      go_wp2_with (at_builtin; refine wpList_append_T _ rfl (.tmp 31) (.tmp 40) 42 rfl w3 w3.heap.size T 50 i0 _ 7 56 Try.underlying42 hi iz0 iz1 iz2 rfl (by omega) (by omega) VV (k + 1) rfl f5 (some ⟨g, 0, none⟩) 1 1 rfl (fun e => by cases e) (by rw [HTL.out]; omega) (by rw [HT2.out]; exact lit_ints hgl) (by omega) (Nat.le_refl _) (New.le hI) hI ?_; intro v2 w2 r2 n2 k2 l2)
      exact ⟨_, rfl, n2, ⟨k2, l2⟩, by rw [HFF.out]; exact r2⟩
    · -- 16
      intro vs kq wq hI hF
      have f1 : pVal (.int .i64 st) (vs 1) wq := (by have h := hF 1 (by rfl); rw [HFF.out] at h; exact h)
      unfold pVal at f1
      have f15 : pT T w3.heap.size (k + 1 + 1) (vs 15) wq := (by have h := hF 15 (by rfl); rw [HFF.out] at h; exact h)
      clear hF
      have hI : New w3 wq := hI
      obtain ⟨hT0, g5, c5, e15, hc50, o5⟩ := f15
      simp only [fillTo, dstOf, List.getElem?_toArray, List.getElem?_cons_zero, List.getElem?_cons_succ, Option.bind_some, Act.put, List.setIfInBounds_toArray, List.set_cons_zero, List.set_cons_succ, f1, e15]
      clear f1 e15
      go_wp2_with fail
      exact ⟨_, rfl, hI, StayL.refl _ _ _, by rw [HFF.out]; exact ⟨_, _, rfl, hT0, g5, c5, rfl, hc50, o5⟩⟩
    · -- 17
      intro vs kq wq hI hF
      clear hF
      have hI : New w3 wq := hI
      simp only [fillTo, dstOf, List.getElem?_toArray, List.getElem?_cons_zero, List.getElem?_cons_succ, Option.bind_some, Act.put, List.setIfInBounds_toArray, List.set_cons_zero, List.set_cons_succ]
      go_wp2_with fail
      exact ⟨_, rfl, New.trans hI ((New.refl _).alloc _), StayL.new ((New.refl _).alloc _), by rw [HFF.out]; exact ⟨_, rfl, New.le hI, heap_alloc_new _ _⟩⟩
  · intro vs kq wq hI hF
    have f16 : pTabT T w3.heap.size 12 st (k + 1 + 1) (vs 16) wq := (by have h := hF 16 (by omega); rw [HFF.out] at h; exact h)
    have f17 : pZB w3.heap.size (vs 17) wq := (by have h := hF 17 (by omega); rw [HFF.out] at h; exact h)
    clear hF HFF FF
    have hI : New w3 wq := hI
    obtain ⟨A9, c9, e16, hT0, g5, c5, he5, hc50, o5⟩ := f16
    obtain ⟨rfl, rfl⟩ : A9 = some ⟨g5, 0, none⟩ ∧ c9 = c5 := by injection he5 with h1 _ h2; exact ⟨h1, h2⟩
    obtain ⟨g, e17, hgW, hgb⟩ := f17
    obtain ⟨D0, D1, D2⟩ := cellsT hgb
    have zG : ∀ j, wq.frozen? ⟨g, j, none⟩ = false := fun j => frozen_of_row _ _ _ _ _ hgb
    have hgl := blk_lt hgb
    have hg1 : w1.heap.size ≠ g := by omega
    have hwg : w.heap.size ≤ g := by omega
    have TT : TypAt wq g := ⟨_, hgb⟩
    have oS := ((o5.setTabO TT 0 (.int .i64 12)).setTabO (TT.set g 0 _) 1 (.int .i64 st)).setTabO ((TT.set g 0 _).set g 1 _) 2 (.slice (some ⟨g5, 0, none⟩) (k + 1 + 1) c9)
    have IO0 := oS.ints
    rw [HT3.out] at IO0
    have IO := Lib.hid IO0
    have tS := blk_at (blk_at (blk_at hgb 0 (.int .i64 12)) 1 (.int .i64 st)) 2 (.slice (some ⟨g5, 0, none⟩) (k + 1 + 1) c9)
    have tGS := blk_set (blk_set (blk_set (blk_new tG hI) (a := ⟨g, 0, none⟩) hg1 (.int .i64 12)) (a := ⟨g, 1, none⟩) hg1 (.int .i64 st)) (a := ⟨g, 2, none⟩) hg1 (.slice (some ⟨g5, 0, none⟩) (k + 1 + 1) c9)
    have N3S : New w3 (((wq.setCell ⟨g, 0, none⟩ (.int .i64 12)).setCell ⟨g, 1, none⟩ (.int .i64 st)).setCell ⟨g, 2, none⟩ (.slice (some ⟨g5, 0, none⟩) (k + 1 + 1) c9)) := ((New.setCell hI (p := ⟨g, 0, none⟩) hgW _).setCell (p := ⟨g, 1, none⟩) hgW _).setCell (p := ⟨g, 2, none⟩) hgW _
    have IS := Lib.hid (HI3.out.new N3S)
    have HNS := Lib.hid (hN3.trans N3S)
    clear hgb TT o5 oS IO0 N3S he5 hc50 hT0 tG
    simp only [fillTo, dstOf, List.getElem?_toArray, List.getElem?_cons_zero, List.getElem?_cons_succ, Option.bind_some, Act.put, List.setIfInBounds_toArray, List.set_cons_zero, List.set_cons_succ, e16, e17, List.drop_succ_cons, List.drop_zero, List.drop_nil]
    clear e16 e17 C0 C1 C2 hI
    go_wp2_with fail
    clear D0 D1 D2 zG
    generalize (((wq.setCell ⟨g, 0, none⟩ (.int .i64 12)).setCell ⟨g, 1, none⟩ (.int .i64 st)).setCell ⟨g, 2, none⟩ (.slice (some ⟨g5, 0, none⟩) (k + 1 + 1) c9)) = w9 at *
    obtain ⟨E0, E1, E2⟩ := cellsT tS
    obtain ⟨C0, C1, C2⟩ := cellsT tGS
    have hl9 := blk_lt tS
    have hl8 := blk_lt tGS
    clear tS tGS
    by_cases hc1 : c1 = 1
    · obtain rfl : k = 0 := by omega
      subst hc1
      have HL2 := Lib.hid (show (es ++ [x]).length = 2 by rw [List.length_append, HEL.out]; rfl)
      have ID := Lib.hid (show Ints w9 (some ⟨b, o, none⟩) (flatE (es.drop 1)) from by rw [List.drop_of_length_le (by rw [HEL.out]; omega)]; exact IntsK.nil)
      refine wp_region_qb (by kernel_rfl) (by kernel_rfl) ?_
      repeat (go_big_quiet_step ((first | with_reducible exact gr_call ((tableValid_impl sz st (some ⟨b, o, none⟩) 0 0 (es.drop 1) _ (by rw [List.length_drop, HEL.out]) (by omega) (ID.out.new (gr_new _ _ _))).mono fun _ _ h => by rw [HV1.out] at h; exact h) | with_reducible exact gr_call ((tableValid_impl 12 st (some ⟨g5, 0, none⟩) 2 c9 (es ++ [x]) _ HL2.out (by omega) (IO.out.new (gr_new _ _ _))).mono fun _ _ h => by rw [HV2.out] at h; exact h))))
      with_reducible refine wpQuiet_nil ?_
      intro w11 b11
      have hc11 := New.cells b11; have hf11 := New.marks b11; have hz11 := New.le b11; try simp only [World.size_alloc, World.size_setCell] at hz11
      try have z11_0_0 : w.heap.size < w11.heap.size := by omega
      try have z11_0_1 : w.heap.size + 1 < w11.heap.size := by omega
      try have z11_0_2 : w.heap.size + 2 < w11.heap.size := by omega
      try have z11_1_0 : w1.heap.size < w11.heap.size := by omega
      try have z11_1_1 : w1.heap.size + 1 < w11.heap.size := by omega
      try have z11_1_2 : w1.heap.size + 2 < w11.heap.size := by omega
      try have z11_2_0 : w2.heap.size < w11.heap.size := by omega
      try have z11_2_1 : w2.heap.size + 1 < w11.heap.size := by omega
      try have z11_2_2 : w2.heap.size + 2 < w11.heap.size := by omega
      try have z11_3_0 : w3.heap.size < w11.heap.size := by omega
      try have z11_3_1 : w3.heap.size + 1 < w11.heap.size := by omega
      try have z11_3_2 : w3.heap.size + 2 < w11.heap.size := by omega
      try have z11_4_0 : w4.heap.size < w11.heap.size := by omega
      try have z11_4_1 : w4.heap.size + 1 < w11.heap.size := by omega
      try have z11_4_2 : w4.heap.size + 2 < w11.heap.size := by omega
      try have z11_5_0 : w5.heap.size < w11.heap.size := by omega
      try have z11_5_1 : w5.heap.size + 1 < w11.heap.size := by omega
      try have z11_5_2 : w5.heap.size + 2 < w11.heap.size := by omega
      try have z11_6_0 : w6.heap.size < w11.heap.size := by omega
      try have z11_6_1 : w6.heap.size + 1 < w11.heap.size := by omega
      try have z11_6_2 : w6.heap.size + 2 < w11.heap.size := by omega
      try have z11_7_0 : w7.heap.size < w11.heap.size := by omega
      try have z11_7_1 : w7.heap.size + 1 < w11.heap.size := by omega
      try have z11_7_2 : w7.heap.size + 2 < w11.heap.size := by omega
      try have z11_8_0 : w8.heap.size < w11.heap.size := by omega
      try have z11_8_1 : w8.heap.size + 1 < w11.heap.size := by omega
      try have z11_8_2 : w8.heap.size + 2 < w11.heap.size := by omega
      try have z11_9_0 : w9.heap.size < w11.heap.size := by omega
      try have z11_9_1 : w9.heap.size + 1 < w11.heap.size := by omega
      try have z11_9_2 : w9.heap.size + 2 < w11.heap.size := by omega
      try have z11_10_0 : w10.heap.size < w11.heap.size := by omega
      try have z11_10_1 : w10.heap.size + 1 < w11.heap.size := by omega
      try have z11_10_2 : w10.heap.size + 2 < w11.heap.size := by omega
      go_wp2_with fail
      go_ret
      exact ⟨rfl, HNS.out.trans b11⟩
    · have HL2 := Lib.hid (show (es ++ [x]).length = k + 1 + 1 by rw [List.length_append, HEL.out]; rfl)
      have ID := Lib.hid (show Ints w9 (some ⟨b, o + 7, none⟩) (flatE (es.drop 1)) from by have := ents_drop IS.out 1; simpa using this)
      refine wp_region_qb (by kernel_rfl) (by kernel_rfl) ?_
      repeat (go_big_quiet_step ((first | with_reducible exact gr_call ((tableValid_impl sz st (some ⟨b, o + 7, none⟩) k (c1 - 1) (es.drop 1) _ (by rw [List.length_drop, HEL.out]; omega) (by omega) (ID.out.new (gr_new _ _ _))).mono fun _ _ h => by rw [HV1.out] at h; exact h) | with_reducible exact gr_call ((tableValid_impl 12 st (some ⟨g5, 0, none⟩) (k + 1 + 1) c9 (es ++ [x]) _ HL2.out (by omega) (IO.out.new (gr_new _ _ _))).mono fun _ _ h => by rw [HV2.out] at h; exact h))))
      with_reducible refine wpQuiet_nil ?_
      intro w11 b11
      have hc11 := New.cells b11; have hf11 := New.marks b11; have hz11 := New.le b11; try simp only [World.size_alloc, World.size_setCell] at hz11
      try have z11_0_0 : w.heap.size < w11.heap.size := by omega
      try have z11_0_1 : w.heap.size + 1 < w11.heap.size := by omega
      try have z11_0_2 : w.heap.size + 2 < w11.heap.size := by omega
      try have z11_1_0 : w1.heap.size < w11.heap.size := by omega
      try have z11_1_1 : w1.heap.size + 1 < w11.heap.size := by omega
      try have z11_1_2 : w1.heap.size + 2 < w11.heap.size := by omega
      try have z11_2_0 : w2.heap.size < w11.heap.size := by omega
      try have z11_2_1 : w2.heap.size + 1 < w11.heap.size := by omega
      try have z11_2_2 : w2.heap.size + 2 < w11.heap.size := by omega
      try have z11_3_0 : w3.heap.size < w11.heap.size := by omega
      try have z11_3_1 : w3.heap.size + 1 < w11.heap.size := by omega
      try have z11_3_2 : w3.heap.size + 2 < w11.heap.size := by omega
      try have z11_4_0 : w4.heap.size < w11.heap.size := by omega
      try have z11_4_1 : w4.heap.size + 1 < w11.heap.size := by omega
      try have z11_4_2 : w4.heap.size + 2 < w11.heap.size := by omega
      try have z11_5_0 : w5.heap.size < w11.heap.size := by omega
      try have z11_5_1 : w5.heap.size + 1 < w11.heap.size := by omega
      try have z11_5_2 : w5.heap.size + 2 < w11.heap.size := by omega
      try have z11_6_0 : w6.heap.size < w11.heap.size := by omega
      try have z11_6_1 : w6.heap.size + 1 < w11.heap.size := by omega
      try have z11_6_2 : w6.heap.size + 2 < w11.heap.size := by omega
      try have z11_7_0 : w7.heap.size < w11.heap.size := by omega
      try have z11_7_1 : w7.heap.size + 1 < w11.heap.size := by omega
      try have z11_7_2 : w7.heap.size + 2 < w11.heap.size := by omega
      try have z11_8_0 : w8.heap.size < w11.heap.size := by omega
      try have z11_8_1 : w8.heap.size + 1 < w11.heap.size := by omega
      try have z11_8_2 : w8.heap.size + 2 < w11.heap.size := by omega
      try have z11_9_0 : w9.heap.size < w11.heap.size := by omega
      try have z11_9_1 : w9.heap.size + 1 < w11.heap.size := by omega
      try have z11_9_2 : w9.heap.size + 2 < w11.heap.size := by omega
      try have z11_10_0 : w10.heap.size < w11.heap.size := by omega
      try have z11_10_1 : w10.heap.size + 1 < w11.heap.size := by omega
      try have z11_10_2 : w10.heap.size + 2 < w11.heap.size := by omega
      go_wp2_with fail
      go_ret
      exact ⟨rfl, HNS.out.trans b11⟩
end Go.Proofs.Ytbnehcaallehbaa
