/- Draws of tables: TouchFlow. -/
import Derived.Test.YtbnehcaallehbaaTouch
namespace Go.Proofs.Ytbnehcaallehbaa
set_option linter.unusedVariables false
set_option linter.unusedSimpArgs false
open Go.RowKit Go.Sort

theorem RowX.nil (E : TypeId) (size B : Nat) (w : World) : RowX E size B w (.slice none 0 0) 0 := ⟨none, 0, [], rfl, World.ownsRow_nil w B E size⟩
theorem ents_drop {w : World} {b o : Nat} {es : List Ent} (h : Ints w (some ⟨b, o, none⟩) (flatE es)) (k : Nat) : Ints w (some ⟨b, o + k * 7, none⟩) (flatE (es.drop k)) := by
  rw [← flatE_drop]
  intro hn
  simp at hn
  obtain ⟨b', o', hA, hc⟩ := h (by omega)
  obtain ⟨rfl, rfl⟩ : b = b' ∧ o = o' := by simpa using hA
  refine ⟨b, o + k * 7, rfl, fun j hj => ?_⟩
  simp at hj
  have := hc (k * 7 + j) (by omega)
  rw [Nat.add_assoc, this]
  simp [List.getD_eq_getElem?_getD]
/-- A block that holds a table. -/
def TypAt (w : World) (G : Nat) : Prop := ∃ cs, w.heap[G]? = some (.cells cs 44 (0, 0))
theorem TypAt.set {w : World} {G : Nat} (h : TypAt w G) (b j : Nat) (u : Value) : TypAt (w.setCell ⟨b, j, none⟩ u) G := by
  obtain ⟨cs, hc⟩ := h
  by_cases hb : G = b
  · subst hb
    exact ⟨_, heap_setCell_same w G j cs _ u hc⟩
  · exact ⟨cs, (Below.heap_setCell _ _ _ _ hb).trans hc⟩
theorem RowX.setTab {B n : Nat} {w : World} {v : Value} (h : RowX 50 7 B w v n) {G : Nat} (hT : TypAt w G) (j : Nat) (u : Value) : RowX 50 7 B (w.setCell ⟨G, j, none⟩ u) v n := by
  obtain ⟨cs, hc⟩ := hT
  obtain ⟨A, c, zs, rfl, hl, ho⟩ := h
  refine ⟨A, c, zs, rfl, hl, ?_⟩
  rcases ho with h0 | ⟨g, cap, cur, hv, hg, hh, hr⟩
  · exact .inl h0
  · refine .inr ⟨g, cap, cur, hv, hg, (Below.heap_setCell _ _ _ _ (fun e => ?_)).trans hh, hr⟩
    have e : g = G := e
    subst e
    rw [hc] at hh
    simp at hh
theorem tab_kept {B n : Nat} {w w' : World} {v : Value} (h : RowX 50 7 B w v n) {G : Nat} {cs : Array Value} (hc : w.heap[G]? = some (.cells cs 44 (0, 0))) (hg : w.grownBy w' v.ownBlock) : w'.heap[G]? = some (.cells cs 44 (0, 0)) := by
  rw [hg.block G (Array.getElem?_eq_some_iff.1 hc).1 (fun e => ?_)]
  · exact hc
  · obtain ⟨A, c, zs, rfl, hl, ho⟩ := h
    rcases ho with ⟨h0, _⟩ | ⟨g, cap, cur, hv, _, hh, _⟩
    · rw [h0] at e
      simp [Value.ownBlock] at e
    · rw [hv] at e
      obtain rfl : G = g := by simpa [Value.ownBlock] using e
      rw [hc] at hh
      simp at hh
set_option maxRecDepth 100000 in
set_option maxHeartbeats 2000000 in
theorem touch_any (sz st : Int) (A : Option Addr) (n c : Nat) (es : List Ent) (fa fb fc fd fk to now : Int) (w : World) (hn : es.length = n) (hA : A = none → c = 0) (hnc : n ≤ c) (hm : n ≤ 1048576) (h : Ints w A (flatE es)) :
    Calls Try.prog 102 #[.agg #[.int .i64 sz, .int .i64 st, .slice A n c], .agg #[.int .i64 fa, .int .i64 fb, .int .i64 fc, .int .i64 fd, .int .i64 fk], .int .i64 to, .int .i64 now] w
      fun e w' => ∃ v b, ∃ sz' st' : Int, ∃ n' : Nat, e = .returned (.tuple #[v, .bool b]) ∧ TabAny w.heap.size w' sz' st' n' v ∧ n' ≤ n + 1 ∧ New w w' := by
  obtain ⟨i0, hi, iz0, iz1, iz2⟩ := info_parts entry_info
  have HA := Lib.hid hA
  have HN := Lib.hid hn
  have HH := Lib.hid h
  clear hn hA h
  cases hT : tabB sz st es
  · skip
    go_enter Try.func102, Try.ntmps102
    go_wp2_with fail
    refine (tableValid_spec sz st A n c es _ HN.out hnc hm (HH.out.new (by repeat (first | with_reducible assumption | with_reducible exact New.refl _ | with_reducible refine New.alloc ?_ _ | with_reducible refine New.drew ?_ | with_reducible refine New.drewN ?_ _ | refine New.setCell ?_ (by first | (simp; done) | omega | (simp; omega)) _ | with_reducible refine New.trans ?_ (by with_reducible assumption))))).mono ?_
    rintro e w1 ⟨rfl, b1⟩
    rw [hT]
    have hc1 := New.cells b1; have hf1 := New.marks b1; have hz1 := New.le b1; try simp only [World.size_alloc, World.size_setCell] at hz1
    try have z1_0_0 : w.heap.size < w1.heap.size := by omega
    try have z1_0_1 : w.heap.size + 1 < w1.heap.size := by omega
    try have z1_0_2 : w.heap.size + 2 < w1.heap.size := by omega
    go_wp2_with fail
    exact bodyPost_ret (v := .tuple #[.agg #[.int .i64 0, .int .i64 0, .slice none 0 0], .bool false]) (by simp [results, Try.results102, go_sem, *, ↓IntWalk.iteOmega]) rfl ⟨_, _, 0, 0, 0, rfl, ⟨_, rfl, RowX.nil _ _ _ _⟩, Nat.zero_le _, (by repeat (first | with_reducible assumption | with_reducible exact New.refl _ | with_reducible refine New.alloc ?_ _ | with_reducible refine New.drew ?_ | with_reducible refine New.drewN ?_ _ | refine New.setCell ?_ (by first | (simp; done) | omega | (simp; omega)) _ | with_reducible refine New.trans ?_ (by with_reducible assumption)))⟩
  cases hF : flowB fa fb fc fd fk
  · skip
    go_enter Try.func102, Try.ntmps102
    go_wp2_with fail
    refine (tableValid_spec sz st A n c es _ HN.out hnc hm (HH.out.new (by repeat (first | with_reducible assumption | with_reducible exact New.refl _ | with_reducible refine New.alloc ?_ _ | with_reducible refine New.drew ?_ | with_reducible refine New.drewN ?_ _ | refine New.setCell ?_ (by first | (simp; done) | omega | (simp; omega)) _ | with_reducible refine New.trans ?_ (by with_reducible assumption))))).mono ?_
    rintro e w1 ⟨rfl, b1⟩
    rw [hT]
    have hc1 := New.cells b1; have hf1 := New.marks b1; have hz1 := New.le b1; try simp only [World.size_alloc, World.size_setCell] at hz1
    try have z1_0_0 : w.heap.size < w1.heap.size := by omega
    try have z1_0_1 : w.heap.size + 1 < w1.heap.size := by omega
    try have z1_0_2 : w.heap.size + 2 < w1.heap.size := by omega
    go_wp2_with fail
    refine (flowValid_spec fa fb fc fd fk _).mono ?_
    rintro e w2 ⟨rfl, b2⟩
    rw [hF]
    have hc2 := New.cells b2; have hf2 := New.marks b2; have hz2 := New.le b2; try simp only [World.size_alloc, World.size_setCell] at hz2
    try have z2_0_0 : w.heap.size < w2.heap.size := by omega
    try have z2_0_1 : w.heap.size + 1 < w2.heap.size := by omega
    try have z2_0_2 : w.heap.size + 2 < w2.heap.size := by omega
    try have z2_1_0 : w1.heap.size < w2.heap.size := by omega
    try have z2_1_1 : w1.heap.size + 1 < w2.heap.size := by omega
    try have z2_1_2 : w1.heap.size + 2 < w2.heap.size := by omega
    go_wp2_with fail
    exact bodyPost_ret (v := .tuple #[.agg #[.int .i64 0, .int .i64 0, .slice none 0 0], .bool false]) (by simp [results, Try.results102, go_sem, *, ↓IntWalk.iteOmega]) rfl ⟨_, _, 0, 0, 0, rfl, ⟨_, rfl, RowX.nil _ _ _ _⟩, Nat.zero_le _, (by repeat (first | with_reducible assumption | with_reducible exact New.refl _ | with_reducible refine New.alloc ?_ _ | with_reducible refine New.drew ?_ | with_reducible refine New.drewN ?_ _ | refine New.setCell ?_ (by first | (simp; done) | omega | (simp; omega)) _ | with_reducible refine New.trans ?_ (by with_reducible assumption)))⟩
  cases hO : inB to 0 30
  · skip
    go_enter Try.func102, Try.ntmps102
    go_wp2_with fail
    refine (tableValid_spec sz st A n c es _ HN.out hnc hm (HH.out.new (by repeat (first | with_reducible assumption | with_reducible exact New.refl _ | with_reducible refine New.alloc ?_ _ | with_reducible refine New.drew ?_ | with_reducible refine New.drewN ?_ _ | refine New.setCell ?_ (by first | (simp; done) | omega | (simp; omega)) _ | with_reducible refine New.trans ?_ (by with_reducible assumption))))).mono ?_
    rintro e w1 ⟨rfl, b1⟩
    rw [hT]
    have hc1 := New.cells b1; have hf1 := New.marks b1; have hz1 := New.le b1; try simp only [World.size_alloc, World.size_setCell] at hz1
    try have z1_0_0 : w.heap.size < w1.heap.size := by omega
    try have z1_0_1 : w.heap.size + 1 < w1.heap.size := by omega
    try have z1_0_2 : w.heap.size + 2 < w1.heap.size := by omega
    go_wp2_with fail
    refine (flowValid_spec fa fb fc fd fk _).mono ?_
    rintro e w2 ⟨rfl, b2⟩
    rw [hF]
    have hc2 := New.cells b2; have hf2 := New.marks b2; have hz2 := New.le b2; try simp only [World.size_alloc, World.size_setCell] at hz2
    try have z2_0_0 : w.heap.size < w2.heap.size := by omega
    try have z2_0_1 : w.heap.size + 1 < w2.heap.size := by omega
    try have z2_0_2 : w.heap.size + 2 < w2.heap.size := by omega
    try have z2_1_0 : w1.heap.size < w2.heap.size := by omega
    try have z2_1_1 : w1.heap.size + 1 < w2.heap.size := by omega
    try have z2_1_2 : w1.heap.size + 2 < w2.heap.size := by omega
    go_wp2_with fail
    refine (l1In_any to 0 30 _).mono ?_
    rintro e w' ⟨rfl, rfl⟩
    rw [hO]
    go_wp2_with fail
    exact bodyPost_ret (v := .tuple #[.agg #[.int .i64 0, .int .i64 0, .slice none 0 0], .bool false]) (by simp [results, Try.results102, go_sem, *, ↓IntWalk.iteOmega]) rfl ⟨_, _, 0, 0, 0, rfl, ⟨_, rfl, RowX.nil _ _ _ _⟩, Nat.zero_le _, (by repeat (first | with_reducible assumption | with_reducible exact New.refl _ | with_reducible refine New.alloc ?_ _ | with_reducible refine New.drew ?_ | with_reducible refine New.drewN ?_ _ | refine New.setCell ?_ (by first | (simp; done) | omega | (simp; omega)) _ | with_reducible refine New.trans ?_ (by with_reducible assumption)))⟩
  obtain ⟨W1, hW1⟩ : ∃ W1, ((w.alloc (.cells #[.int .i64 sz, .int .i64 st, .slice A n c] 44)).alloc (.cells #[.int .i64 fa, .int .i64 fb, .int .i64 fc, .int .i64 fd, .int .i64 fk] 48)).alloc (.cells #[.int .i64 0, .int .i64 0, .slice none 0 0] 44) = W1 := ⟨_, rfl⟩
  have b0 : New w W1 := by rw [← hW1]; exact (((New.refl w).alloc _).alloc _).alloc _
  have rT : W1.heap[w.heap.size]? = some (.cells #[.int .i64 sz, .int .i64 st, .slice A n c] 44 (0, 0)) := by
    rw [← hW1, heap_alloc_old _ _ (by simp; omega), heap_alloc_old _ _ (by simp)]
    exact heap_alloc_new _ _
  have rF : W1.heap[w.heap.size + 1]? = some (.cells #[.int .i64 fa, .int .i64 fb, .int .i64 fc, .int .i64 fd, .int .i64 fk] 48 (0, 0)) := by
    rw [← hW1, heap_alloc_old _ _ (by simp)]
    have := heap_alloc_new (w.alloc (.cells #[.int .i64 sz, .int .i64 st, .slice A n c] 44)) (.cells #[.int .i64 fa, .int .i64 fb, .int .i64 fc, .int .i64 fd, .int .i64 fk] 48)
    rwa [World.size_alloc] at this
  have rR : W1.heap[w.heap.size + 1 + 1]? = some (.cells #[.int .i64 0, .int .i64 0, .slice none 0 0] 44 (0, 0)) := by
    have := heap_alloc_new ((w.alloc (.cells #[.int .i64 sz, .int .i64 st, .slice A n c] 44)).alloc (.cells #[.int .i64 fa, .int .i64 fb, .int .i64 fc, .int .i64 fd, .int .i64 fk] 48)) (.cells #[.int .i64 0, .int .i64 0, .slice none 0 0] 44)
    rw [World.size_alloc, World.size_alloc, hW1] at this
    exact this
  obtain ⟨C0, C1, C2⟩ := cellsT rT
  obtain ⟨F0, F1, F2, F3, F4, _, _, _, _, _⟩ := cells5 rF
  obtain ⟨R0, R1, R2⟩ := cellsT rR
  have zR : ∀ j, W1.frozen? ⟨w.heap.size + 1 + 1, j, none⟩ = false := fun j => frozen_of_row _ _ _ _ _ rR
  have hlt1 : w.heap.size + 1 + 1 < W1.heap.size := (Array.getElem?_eq_some_iff.1 rR).1
  go_enter Try.func102, Try.ntmps102
  go_wp2_with fail
  clear hW1
  go_wp2_with fail
  refine (tableValid_spec sz st A n c es _ HN.out hnc hm (HH.out.new (by repeat (first | with_reducible assumption | with_reducible exact New.refl _ | with_reducible refine New.alloc ?_ _ | with_reducible refine New.drew ?_ | with_reducible refine New.drewN ?_ _ | refine New.setCell ?_ (by first | (simp; done) | omega | (simp; omega)) _ | with_reducible refine New.trans ?_ (by with_reducible assumption))))).mono ?_
  rintro e w1 ⟨rfl, b1⟩
  rw [hT]
  have hc1 := New.cells b1; have hf1 := New.marks b1; have hz1 := New.le b1; try simp only [World.size_alloc, World.size_setCell] at hz1
  try have z1_0_0 : w.heap.size < w1.heap.size := by omega
  try have z1_0_1 : w.heap.size + 1 < w1.heap.size := by omega
  try have z1_0_2 : w.heap.size + 2 < w1.heap.size := by omega
  go_wp2_with fail
  refine (flowValid_spec fa fb fc fd fk _).mono ?_
  rintro e w2 ⟨rfl, b2⟩
  rw [hF]
  have hc2 := New.cells b2; have hf2 := New.marks b2; have hz2 := New.le b2; try simp only [World.size_alloc, World.size_setCell] at hz2
  try have z2_0_0 : w.heap.size < w2.heap.size := by omega
  try have z2_0_1 : w.heap.size + 1 < w2.heap.size := by omega
  try have z2_0_2 : w.heap.size + 2 < w2.heap.size := by omega
  try have z2_1_0 : w1.heap.size < w2.heap.size := by omega
  try have z2_1_1 : w1.heap.size + 1 < w2.heap.size := by omega
  try have z2_1_2 : w1.heap.size + 2 < w2.heap.size := by omega
  go_wp2_with fail
  refine (l1In_any to 0 30 _).mono ?_
  rintro e w' ⟨rfl, rfl⟩
  rw [hO]
  go_wp2_with fail
  refine (l9Last_any sz st A n c es _ HN.out hm (HH.out.new (by repeat (first | with_reducible assumption | with_reducible exact New.refl _ | with_reducible refine New.alloc ?_ _ | with_reducible refine New.drew ?_ | with_reducible refine New.drewN ?_ _ | refine New.setCell ?_ (by first | (simp; done) | omega | (simp; omega)) _ | with_reducible refine New.trans ?_ (by with_reducible assumption))))).mono ?_
  rintro e w3 ⟨⟨z, rfl⟩, b3⟩
  have hcell3 := New.cells b3; have hfroz3 := New.marks b3; have hlts3 := New.lts b3; have hsz3 := New.le b3; try simp only [World.size_alloc] at hsz3
  go_wp2_with fail
  refine (l1In_any now z 100000 _).mono ?_
  rintro e w' ⟨rfl, rfl⟩
  cases hL : inB now z 100000
  · skip
    go_wp2_with fail
    exact bodyPost_ret (v := .tuple #[.agg #[.int .i64 0, .int .i64 0, .slice none 0 0], .bool false]) (by simp [results, Try.results102, go_sem, *, ↓IntWalk.iteOmega]) rfl ⟨_, _, 0, 0, 0, rfl, ⟨_, rfl, RowX.nil _ _ _ _⟩, Nat.zero_le _, (by repeat (first | with_reducible assumption | with_reducible exact New.refl _ | with_reducible refine New.alloc ?_ _ | with_reducible refine New.drew ?_ | with_reducible refine New.drewN ?_ _ | refine New.setCell ?_ (by first | (simp; done) | omega | (simp; omega)) _ | with_reducible refine New.trans ?_ (by with_reducible assumption)))⟩
  go_wp2_with fail
  refine (l9Copy_any sz st A n c es _ HN.out HA.out hnc hm (HH.out.new (by repeat (first | with_reducible assumption | with_reducible exact New.refl _ | with_reducible refine New.alloc ?_ _ | with_reducible refine New.drew ?_ | with_reducible refine New.drewN ?_ _ | refine New.setCell ?_ (by first | (simp; done) | omega | (simp; omega)) _ | with_reducible refine New.trans ?_ (by with_reducible assumption))))).mono ?_
  rintro e w4 ⟨_, rfl, ⟨r4, rfl, x4⟩, b4⟩
  obtain ⟨A4, c4, zs4, rfl, o4⟩ := x4
  have o4 := o4.less (((b0.trans b1).trans b2).trans b3).le
  have B4 : New W1 w4 := ((b1.trans b2).trans b3).trans b4
  have rT4 := (Below.block B4 w.heap.size (by omega)).trans rT
  have rF4 := (Below.block B4 (w.heap.size + 1) (by omega)).trans rF
  have rR4 := (Below.block B4 (w.heap.size + 1 + 1) hlt1).trans rR
  have N4 := b0.trans B4
  have hlt4 : w.heap.size + 1 + 1 < w4.heap.size := (Array.getElem?_eq_some_iff.1 rR4).1
  have l40 : w.heap.size < w4.heap.size := by omega
  have l41 : w.heap.size + 1 < w4.heap.size := by omega
  have ne40 : w.heap.size ≠ w4.heap.size := by omega
  have ne41 : w.heap.size + 1 ≠ w4.heap.size := by omega
  obtain ⟨T0, T1, T2⟩ := cellsT rT4
  obtain ⟨G0, G1, G2, G3, G4, _, _, _, _, _⟩ := cells5 rF4
  clear C0 C1 C2 F0 F1 F2 F3 F4 R0 R1 R2 zR hcell3 hfroz3 hlts3 hsz3 B4 b3 b4
  go_wp2_with fail
  refine (l9Place_any A n c es fa fb fc fd fk _ HN.out (by unfold maxLen; omega) (HH.out.new (by repeat (first | with_reducible assumption | with_reducible exact New.refl _ | with_reducible refine New.alloc ?_ _ | with_reducible refine New.drew ?_ | with_reducible refine New.drewN ?_ _ | refine New.setCell ?_ (by first | (simp; done) | omega | (simp; omega)) _ | with_reducible refine New.trans ?_ (by with_reducible assumption))))).mono ?_
  rintro e w5 ⟨rfl, b5⟩
  have N45 : New w4 w5 := ((New.refl w4).alloc _).trans b5
  have rT5 := (Below.block N45 w.heap.size l40).trans rT4
  have rF5 := (Below.block N45 (w.heap.size + 1) l41).trans rF4
  have rR5 := (Below.block N45 (w.heap.size + 1 + 1) hlt4).trans rR4
  have r105 := (Below.block b5 w4.heap.size (by simp)).trans (heap_alloc_new w4 _)
  have N5 := N4.trans N45
  have o5 : RowX 50 7 w.heap.size w5 (.slice A4 n c4) n := ⟨A4, c4, zs4, rfl, o4.new N45⟩
  obtain ⟨G, hG⟩ : ∃ G, w4.heap.size = G := ⟨_, rfl⟩
  rw [hG] at r105 l40 l41 ne40 ne41 hlt4 ⊢
  obtain ⟨Z, hZ⟩ : ∃ Z, placeZ es fa fb fc fd fk = Z := ⟨_, rfl⟩
  rw [hZ]
  have hG5 : G < w5.heap.size := (Array.getElem?_eq_some_iff.1 r105).1
  clear T0 T1 T2 G0 G1 G2 G3 G4 rT4 rF4 rR4 b5 N45 N4 o4 rT rF rR
  obtain ⟨T0, T1, T2⟩ := cellsT rT5
  obtain ⟨G0, G1, G2, G3, G4, _, _, _, _, _⟩ := cells5 rF5
  obtain ⟨K0, K1, K2⟩ := cellsT r105
  have zG : ∀ j, w5.frozen? ⟨G, j, none⟩ = false := fun j => frozen_of_row _ _ _ _ _ r105
  have hnsz : (((n : Int) == sz) = true ∧ 0 < n) ∨ ((n : Int) == sz) = false := by
    by_cases h : (n : Int) = sz
    · refine .inl ⟨by simpa using h, ?_⟩
      have h2 := hT
      simp only [tabB, Bool.and_eq_true] at h2
      have := (inB_true.1 h2.2.1.1).1
      omega
    · exact .inr (by simpa using h)
  rcases place_cases es fa fb fc fd fk with ⟨i, x, hx, _, _, hZi⟩ | ⟨_, hZ1⟩
  · obtain rfl : Z = (i : Int) := by rw [← hZ, hZi]
    have hin : i < n := by rw [← HN.out]; exact (List.getElem?_eq_some_iff.1 hx).1
    obtain ⟨b, o, _, rfl, _, hbw, _⟩ := ents_at HH.out (i := i) (by rw [HN.out]; exact hin)
    have hin' : (i : Int) < (n : Int) := by omega
    obtain ⟨oo, hoo⟩ : ∃ oo, (if c = i + 1 then o else o + (i + 1) * 7) = oo := ⟨_, rfl⟩
    have HDI : Hid (∀ wq, New w5 wq → Ints wq (some ⟨b, oo, none⟩) (flatE (es.drop (i + 1)))) := Lib.hid fun wq hI => by
      by_cases hc : c = i + 1
      · rw [List.drop_of_length_le (by rw [HN.out]; omega)]
        exact IntsK.nil
      · rw [← hoo, if_neg hc]
        exact ents_drop (HH.out.new (N5.trans hI)) (i + 1)
    go_wp2_with fail
    obtain ⟨FF, hFF⟩ : ∃ FF, FF = factAt [pX w5.heap.size 0, pVal (.pointer (some ⟨w.heap.size, 2, none⟩)), pVal (.slice (some ⟨b, o, none⟩) n c), pVal (.int .i64 (i : Int)), pVal (.slice (some ⟨b, o, none⟩) i c), pX w5.heap.size i, pVal (.pointer (some ⟨w.heap.size, 2, none⟩)), pVal (.slice (some ⟨b, o, none⟩) n c), pVal (.int .i64 (i : Int)), pVal (.int .i64 ((i : Int) + 1)), pVal (.slice (some ⟨b, oo, none⟩) (n - (i + 1)) (c - (i + 1))), pX w5.heap.size (i + (n - (i + 1))), pVal (.pointer (some ⟨G, 2, none⟩))] := ⟨_, rfl⟩
    have HFF := Lib.hid hFF
    clear hFF
    refine wp_region_tail 13 (by kernel_rfl) (by kernel_rfl) (by kernel_rfl) (by decide) (LrI w5) FF (StayX w5.heap.size) (by rw [HFF.out]; exact factAt_keptX (by
        intro P hP
        simp only [List.mem_cons, List.not_mem_nil, or_false] at hP
        rcases hP with rfl | rfl | rfl | rfl | rfl | rfl | rfl | rfl | rfl | rfl | rfl | rfl | rfl
        · exact keptX_row _ _
        · exact keptX_val _ _
        · exact keptX_val _ _
        · exact keptX_val _ _
        · exact keptX_val _ _
        · exact keptX_row _ _
        · exact keptX_val _ _
        · exact keptX_val _ _
        · exact keptX_val _ _
        · exact keptX_val _ _
        · exact keptX_val _ _
        · exact keptX_row _ _
        · exact keptX_val _ _
        )) (New.drew (New.refl _)) ?_ ?_
    · refine ⟨?_, ?_, ?_, ?_, ?_, ?_, ?_, ?_, ?_, ?_, ?_, ?_, ?_, trivial⟩
      · -- 0: Op.buildSlice 58 0 #[]
        intro vs kq wq hI hF
        have hI : New w5 wq := hI
        clear hF
        simp only [fillTo, dstOf, List.getElem?_toArray, List.getElem?_cons_zero, List.getElem?_cons_succ, Option.bind_some, Act.put, List.setIfInBounds_toArray, List.set_cons_zero, List.set_cons_succ]
        go_wp2_with fail
        have bq := (New.refl wq).alloc (.cells #[] 50)
        exact ⟨_, rfl, New.trans hI bq, StayX.new bq, by rw [HFF.out]; exact ⟨_, 0, [], rfl, World.ownsRow_lit wq #[] 0 (New.le hI) (Nat.zero_le _) rfl⟩⟩
      · -- 1: Op.fieldAddr 60 t4 2
        intro vs kq wq hI hF
        have hI : New w5 wq := hI
        clear hF
        simp only [fillTo, dstOf, List.getElem?_toArray, List.getElem?_cons_zero, List.getElem?_cons_succ, Option.bind_some, Act.put, List.setIfInBounds_toArray, List.set_cons_zero, List.set_cons_succ]
        go_wp2_with fail
        exact ⟨_, rfl, hI, StayX.refl _ _, by rw [HFF.out]; exact rfl⟩
      · -- 2: Op.load 58 t52
        intro vs kq wq hI hF
        have hI : New w5 wq := hI
        have f1 : pVal (.pointer (some ⟨w.heap.size, 2, none⟩)) (vs 1) wq := (by have h := hF 1 (by rfl); rw [HFF.out] at h; exact h)
        unfold pVal at f1
        clear hF
        simp only [fillTo, dstOf, List.getElem?_toArray, List.getElem?_cons_zero, List.getElem?_cons_succ, Option.bind_some, Act.put, List.setIfInBounds_toArray, List.set_cons_zero, List.set_cons_succ, f1]
        clear f1
        have hcq := New.cells hI; have hzq := New.le hI
        go_wp2_with fail
        exact ⟨_, rfl, hI, StayX.refl _ _, by rw [HFF.out]; exact rfl⟩
      · -- 3: Op.move t11
        intro vs kq wq hI hF
        have hI : New w5 wq := hI
        clear hF
        simp only [fillTo, dstOf, List.getElem?_toArray, List.getElem?_cons_zero, List.getElem?_cons_succ, Option.bind_some, Act.put, List.setIfInBounds_toArray, List.set_cons_zero, List.set_cons_succ]
        go_wp2_with fail
        exact ⟨_, rfl, hI, StayX.refl _ _, by rw [HFF.out]; exact rfl⟩
      · -- 4: Op.slice 58 t53 none (some t54) none
        intro vs kq wq hI hF
        have hI : New w5 wq := hI
        have f2 : pVal (.slice (some ⟨b, o, none⟩) n c) (vs 2) wq := (by have h := hF 2 (by rfl); rw [HFF.out] at h; exact h)
        unfold pVal at f2
        have f3 : pVal (.int .i64 (i : Int)) (vs 3) wq := (by have h := hF 3 (by rfl); rw [HFF.out] at h; exact h)
        unfold pVal at f3
        clear hF
        simp only [fillTo, dstOf, List.getElem?_toArray, List.getElem?_cons_zero, List.getElem?_cons_succ, Option.bind_some, Act.put, List.setIfInBounds_toArray, List.set_cons_zero, List.set_cons_succ, f2, f3]
        clear f2 f3
        go_wp2_with fail
        exact ⟨_, rfl, hI, StayX.refl _ _, by rw [HFF.out]; exact rfl⟩
      · -- 5: Op.call { builtin append, args := #[t51, t55], argTypes := #
        intro vs kq wq hI hF
        have hI : New w5 wq := hI
        have f0 : pX w5.heap.size 0 (vs 0) wq := (by have h := hF 0 (by rfl); rw [HFF.out] at h; exact h)
        have f4 : pVal (.slice (some ⟨b, o, none⟩) i c) (vs 4) wq := (by have h := hF 4 (by rfl); rw [HFF.out] at h; exact h)
        unfold pVal at f4
        clear hF
        simp only [fillTo, dstOf, List.getElem?_toArray, List.getElem?_cons_zero, List.getElem?_cons_succ, Option.bind_some, Act.put, List.setIfInBounds_toArray, List.set_cons_zero, List.set_cons_succ, f4]
        clear f4
        obtain ⟨VV, hVV⟩ : ∃ VV, vs 0 = VV := ⟨_, rfl⟩
        rw [hVV] at f0 ⊢
        clear hVV
        have f0 : RowX 50 7 w5.heap.size wq VV 0 := f0
        go_wp2_with (at_builtin; refine wpList_append_X _ rfl (.tmp 51) (.tmp 55) 42 rfl w5 w5.heap.size 50 i0 _ 7 56 Try.underlying42 hi iz0 iz1 iz2 rfl (by omega) (by omega) VV 0 rfl f0 (some ⟨b, o, none⟩) i c (flatE (es.take i)) rfl (fun e => by cases e) (by rw [flatE_len, List.length_take, HN.out]; omega) (ents_take (HH.out.new (N5.trans hI)) i) (by omega) (Nat.le_refl _) (New.le hI) hI ?_; intro v2 w2 r2 n2 g2 k2)
        exact ⟨_, rfl, n2, k2, by rw [HFF.out]; rw [Nat.zero_add] at r2; exact r2⟩
      · -- 6: Op.fieldAddr 60 t4 2
        intro vs kq wq hI hF
        have hI : New w5 wq := hI
        clear hF
        simp only [fillTo, dstOf, List.getElem?_toArray, List.getElem?_cons_zero, List.getElem?_cons_succ, Option.bind_some, Act.put, List.setIfInBounds_toArray, List.set_cons_zero, List.set_cons_succ]
        go_wp2_with fail
        exact ⟨_, rfl, hI, StayX.refl _ _, by rw [HFF.out]; exact rfl⟩
      · -- 7: Op.load 58 t57
        intro vs kq wq hI hF
        have hI : New w5 wq := hI
        have f6 : pVal (.pointer (some ⟨w.heap.size, 2, none⟩)) (vs 6) wq := (by have h := hF 6 (by rfl); rw [HFF.out] at h; exact h)
        unfold pVal at f6
        clear hF
        simp only [fillTo, dstOf, List.getElem?_toArray, List.getElem?_cons_zero, List.getElem?_cons_succ, Option.bind_some, Act.put, List.setIfInBounds_toArray, List.set_cons_zero, List.set_cons_succ, f6]
        clear f6
        have hcq := New.cells hI; have hzq := New.le hI
        go_wp2_with fail
        exact ⟨_, rfl, hI, StayX.refl _ _, by rw [HFF.out]; exact rfl⟩
      · -- 8: Op.move t11
        intro vs kq wq hI hF
        have hI : New w5 wq := hI
        clear hF
        simp only [fillTo, dstOf, List.getElem?_toArray, List.getElem?_cons_zero, List.getElem?_cons_succ, Option.bind_some, Act.put, List.setIfInBounds_toArray, List.set_cons_zero, List.set_cons_succ]
        go_wp2_with fail
        exact ⟨_, rfl, hI, StayX.refl _ _, by rw [HFF.out]; exact rfl⟩
      · -- 9: Op.binOp BinOp.add 3 t59 (const (1:i64)) 3
        intro vs kq wq hI hF
        have hI : New w5 wq := hI
        have f8 : pVal (.int .i64 (i : Int)) (vs 8) wq := (by have h := hF 8 (by rfl); rw [HFF.out] at h; exact h)
        unfold pVal at f8
        clear hF
        simp only [fillTo, dstOf, List.getElem?_toArray, List.getElem?_cons_zero, List.getElem?_cons_succ, Option.bind_some, Act.put, List.setIfInBounds_toArray, List.set_cons_zero, List.set_cons_succ, f8]
        clear f8
        go_wp2_with fail
        exact ⟨_, rfl, hI, StayX.refl _ _, by rw [HFF.out]; exact rfl⟩
      · -- 10: Op.slice 58 t58 (some t60) none none
        intro vs kq wq hI hF
        have hI : New w5 wq := hI
        have f7 : pVal (.slice (some ⟨b, o, none⟩) n c) (vs 7) wq := (by have h := hF 7 (by rfl); rw [HFF.out] at h; exact h)
        unfold pVal at f7
        have f9 : pVal (.int .i64 ((i : Int) + 1)) (vs 9) wq := (by have h := hF 9 (by rfl); rw [HFF.out] at h; exact h)
        unfold pVal at f9
        clear hF
        simp only [fillTo, dstOf, List.getElem?_toArray, List.getElem?_cons_zero, List.getElem?_cons_succ, Option.bind_some, Act.put, List.setIfInBounds_toArray, List.set_cons_zero, List.set_cons_succ, f7, f9]
        clear f7 f9
        by_cases hc : c = i + 1
        · have ho : oo = o := by rw [← hoo, if_pos hc]
          go_wp2_with fail
          exact ⟨_, rfl, hI, StayX.refl _ _, by rw [HFF.out]; simp [factAt, ho, hc]⟩
        · have ho : oo = o + (i + 1) * 7 := by rw [← hoo, if_neg hc]
          go_wp2_with fail
          exact ⟨_, rfl, hI, StayX.refl _ _, by rw [HFF.out]; simp [factAt, ho]⟩
      · -- 11: Op.call { builtin append, args := #[t56, t61], argTypes := #
        intro vs kq wq hI hF
        have hI : New w5 wq := hI
        have f5 : pX w5.heap.size i (vs 5) wq := (by have h := hF 5 (by rfl); rw [HFF.out] at h; exact h)
        have f10 : pVal (.slice (some ⟨b, oo, none⟩) (n - (i + 1)) (c - (i + 1))) (vs 10) wq := (by have h := hF 10 (by rfl); rw [HFF.out] at h; exact h)
        unfold pVal at f10
        clear hF
        simp only [fillTo, dstOf, List.getElem?_toArray, List.getElem?_cons_zero, List.getElem?_cons_succ, Option.bind_some, Act.put, List.setIfInBounds_toArray, List.set_cons_zero, List.set_cons_succ, f10]
        clear f10
        obtain ⟨VV, hVV⟩ : ∃ VV, vs 5 = VV := ⟨_, rfl⟩
        rw [hVV] at f5 ⊢
        clear hVV
        have f5 : RowX 50 7 w5.heap.size wq VV i := f5
        go_wp2_with (at_builtin; refine wpList_append_X _ rfl (.tmp 56) (.tmp 61) 42 rfl w5 w5.heap.size 50 i0 _ 7 56 Try.underlying42 hi iz0 iz1 iz2 rfl (by omega) (by omega) VV i rfl f5 (some ⟨b, oo, none⟩) (n - (i + 1)) (c - (i + 1)) (flatE (es.drop (i + 1))) rfl (fun e => by cases e) (by rw [flatE_len, List.length_drop, HN.out]) (HDI.out wq hI) (by omega) (Nat.le_refl _) (New.le hI) hI ?_; intro v2 w2 r2 n2 g2 k2)
        exact ⟨_, rfl, n2, k2, by rw [HFF.out]; exact r2⟩
      · -- 12: Op.fieldAddr 60 t10 2
        intro vs kq wq hI hF
        have hI : New w5 wq := hI
        clear hF
        simp only [fillTo, dstOf, List.getElem?_toArray, List.getElem?_cons_zero, List.getElem?_cons_succ, Option.bind_some, Act.put, List.setIfInBounds_toArray, List.set_cons_zero, List.set_cons_succ]
        go_wp2_with fail
        exact ⟨_, rfl, hI, StayX.refl _ _, by rw [HFF.out]; exact rfl⟩
    · intro vs kq wq hI hF
      have hI : New w5 wq := hI
      have f11 : pX w5.heap.size (i + (n - (i + 1))) (vs 11) wq := (by have h := hF 11 (by omega); rw [HFF.out] at h; exact h)
      have f12 : pVal (.pointer (some ⟨G, 2, none⟩)) (vs 12) wq := (by have h := hF 12 (by omega); rw [HFF.out] at h; exact h)
      unfold pVal at f12
      clear hF HFF FF HDI hoo oo
      obtain ⟨A7, c7, zs7, e7, o7⟩ := f11
      simp only [fillTo, dstOf, List.getElem?_toArray, List.getElem?_cons_zero, List.getElem?_cons_succ, Option.bind_some, Act.put, List.setIfInBounds_toArray, List.set_cons_zero, List.set_cons_succ, List.drop_succ_cons, List.drop_zero, f12, e7]
      clear f12 e7
      have r106 := (Below.block hI G hG5).trans r105
      have rR6 := (Below.block hI (w.heap.size + 1 + 1) (Nat.lt_trans hlt4 hG5)).trans rR5
      have rF6 := (Below.block hI (w.heap.size + 1) (Nat.lt_trans l41 hG5)).trans rF5
      have hG6 : G < wq.heap.size := Nat.lt_of_lt_of_le hG5 hI.le
      clear T0 T1 T2 G0 G1 G2 G3 G4 K0 K1 K2 zG rT5 rF5 rR5 r105
      obtain ⟨G0, G1, G2, G3, G4, _, _, _, _, _⟩ := cells5 rF6
      obtain ⟨K0, K1, K2⟩ := cellsT r106
      have zG : ∀ j, wq.frozen? ⟨G, j, none⟩ = false := fun j => frozen_of_row _ _ _ _ _ r106
      have o5 : RowX 50 7 w.heap.size (wq.setCell ⟨G, 2, none⟩ (.slice A7 (i + (n - (i + 1))) c7)) (.slice A7 (i + (n - (i + 1))) c7) (i + (n - (i + 1))) := (RowX.setTab ⟨A7, c7, zs7, rfl, o7⟩ ⟨_, r106⟩ 2 _).less N5.le
      have r107 : (wq.setCell ⟨G, 2, none⟩ (.slice A7 (i + (n - (i + 1))) c7)).heap[G]? = some (.cells #[.int .i64 sz, .int .i64 st, (.slice A7 (i + (n - (i + 1))) c7)] 44 (0, 0)) := heap_setCell_same wq G 2 _ _ (.slice A7 (i + (n - (i + 1))) c7) r106
      have rR7 : (wq.setCell ⟨G, 2, none⟩ (.slice A7 (i + (n - (i + 1))) c7)).heap[w.heap.size + 1 + 1]? = some (.cells #[.int .i64 0, .int .i64 0, .slice none 0 0] 44 (0, 0)) := (Below.heap_setCell _ _ _ _ (by show w.heap.size + 1 + 1 ≠ G; omega)).trans rR6
      have N7 : New w (wq.setCell ⟨G, 2, none⟩ (.slice A7 (i + (n - (i + 1))) c7)) := (N5.trans hI).setCell (p := ⟨G, 2, none⟩) (by show w.heap.size ≤ G; omega) _
      have hG7 : G < (wq.setCell ⟨G, 2, none⟩ (.slice A7 (i + (n - (i + 1))) c7)).heap.size := (Array.getElem?_eq_some_iff.1 r107).1
      clear o7
      have HO5 := Lib.hid o5
      have H10 := Lib.hid r107
      have HR5 := Lib.hid rR7
      clear r107 rR7 rF6 r106 rR6
      have bL := (New.refl (wq.setCell ⟨G, 2, none⟩ (.slice A7 (i + (n - (i + 1))) c7))).alloc (.cells #[.int .i64 fa, .int .i64 fb, .int .i64 fc, .int .i64 fd, .int .i64 fk, .int .i64 to, .int .i64 now] 50)
      have HL5 := Lib.hid bL
      go_wp2_with (at_builtin; refine wpList_append_X _ rfl (.tmp 65) (.tmp 70) 42 rfl w w.heap.size 50 i0 _ 7 56 Try.underlying42 hi iz0 iz1 iz2 rfl (by omega) (by omega) (.slice A7 (i + (n - (i + 1))) c7) (i + (n - (i + 1))) rfl (HO5.out.new HL5.out) _ 1 1 [fa, fb, fc, fd, fk, to, now] rfl (fun e => by cases e) rfl (Ints.lit _ _ [fa, fb, fc, fd, fk, to, now] _ (by simp)) (by omega) (Nat.le_refl _) (Nat.le_trans N7.le HL5.out.le) (N7.trans HL5.out) ?_; intro v9 w9 r9 n9 g9 _; have t9 := tab_kept (HO5.out.new HL5.out) ((Below.block HL5.out _ hG7).trans H10.out) g9; have tR9 := tab_kept (HO5.out.new HL5.out) ((Below.block HL5.out _ (Nat.lt_trans hlt4 hG7)).trans HR5.out) g9; clear g9; obtain ⟨A9, c9, zs9, rfl, o9⟩ := r9; obtain ⟨M0, M1, M2⟩ := cellsT t9; obtain ⟨Q0, Q1, Q2⟩ := cellsT tR9; have zM : ∀ j, w9.frozen? ⟨G, j, none⟩ = false := fun j => frozen_of_row _ _ _ _ _ t9; have zQ : ∀ j, w9.frozen? ⟨w.heap.size + 1 + 1, j, none⟩ = false := fun j => frozen_of_row _ _ _ _ _ tR9)
      have HO9 := Lib.hid o9
      clear o9
      have TG : TypAt w9 G := ⟨_, t9⟩
      have TR : TypAt w9 (w.heap.size + 1 + 1) := ⟨_, tR9⟩
      refine bodyPost_ret (v := .tuple #[.agg #[.int .i64 sz, .int .i64 st, .slice A9 ((i + (n - (i + 1))) + 1) c9], .bool true]) (by simp [results, Try.results102, go_sem, *, ↓IntWalk.iteOmega]) rfl ⟨_, _, sz, st, (i + (n - (i + 1))) + 1, rfl, ⟨_, rfl, ?_⟩, by omega, ?_⟩
      · exact ((((RowX.setTab ⟨A9, c9, zs9, rfl, HO9.out⟩ TG 2 _).setTab (TR.set G 2 _) 0 _).setTab ((TR.set G 2 _).set _ 0 _) 1 _).setTab (((TR.set G 2 _).set _ 0 _).set _ 1 _) 2 _)
      · exact ((((n9.setCell (p := ⟨G, 2, none⟩) (by simp; omega) _).setCell (p := ⟨w.heap.size + 1 + 1, 0, none⟩) (by simp; omega) _).setCell (p := ⟨w.heap.size + 1 + 1, 1, none⟩) (by simp; omega) _).setCell (p := ⟨w.heap.size + 1 + 1, 2, none⟩) (by simp; omega) _)

  · obtain rfl : Z = -1 := by rw [← hZ, hZ1]
    rcases hnsz with ⟨hsz, hn0⟩ | hsz
    · obtain ⟨b, o, _, rfl, _, hbw, _⟩ := ents_at HH.out (i := 0) (by rw [HN.out]; exact hn0)
      have hin' : (0 : Int) < (n : Int) := by omega
      obtain ⟨oo, hoo⟩ : ∃ oo, (if c = 0 + 1 then o else o + (0 + 1) * 7) = oo := ⟨_, rfl⟩
      have HDI : Hid (∀ wq, New w5 wq → Ints wq (some ⟨b, oo, none⟩) (flatE (es.drop (0 + 1)))) := Lib.hid fun wq hI => by
        by_cases hc : c = 0 + 1
        · rw [List.drop_of_length_le (by rw [HN.out]; omega)]
          exact IntsK.nil
        · rw [← hoo, if_neg hc]
          exact ents_drop (HH.out.new (N5.trans hI)) (0 + 1)
      go_wp2_with fail
      obtain ⟨FF, hFF⟩ : ∃ FF, FF = factAt [pX w5.heap.size 0, pVal (.pointer (some ⟨w.heap.size, 2, none⟩)), pVal (.slice (some ⟨b, o, none⟩) n c), pVal (.int .i64 0), pVal (.slice (some ⟨b, o, none⟩) 0 c), pX w5.heap.size 0, pVal (.pointer (some ⟨w.heap.size, 2, none⟩)), pVal (.slice (some ⟨b, o, none⟩) n c), pVal (.int .i64 0), pVal (.int .i64 (0 + 1)), pVal (.slice (some ⟨b, oo, none⟩) (n - (0 + 1)) (c - (0 + 1))), pX w5.heap.size (n - 1), pVal (.pointer (some ⟨G, 2, none⟩))] := ⟨_, rfl⟩
      have HFF := Lib.hid hFF
      clear hFF
      refine wp_region_tail 13 (by kernel_rfl) (by kernel_rfl) (by kernel_rfl) (by decide) (LrI w5) FF (StayX w5.heap.size) (by rw [HFF.out]; exact factAt_keptX (by
          intro P hP
          simp only [List.mem_cons, List.not_mem_nil, or_false] at hP
          rcases hP with rfl | rfl | rfl | rfl | rfl | rfl | rfl | rfl | rfl | rfl | rfl | rfl | rfl
          · exact keptX_row _ _
          · exact keptX_val _ _
          · exact keptX_val _ _
          · exact keptX_val _ _
          · exact keptX_val _ _
          · exact keptX_row _ _
          · exact keptX_val _ _
          · exact keptX_val _ _
          · exact keptX_val _ _
          · exact keptX_val _ _
          · exact keptX_val _ _
          · exact keptX_row _ _
          · exact keptX_val _ _
          )) (New.drew (New.refl _)) ?_ ?_
      · refine ⟨?_, ?_, ?_, ?_, ?_, ?_, ?_, ?_, ?_, ?_, ?_, ?_, ?_, trivial⟩
        · -- 0: Op.buildSlice 58 0 #[]
          intro vs kq wq hI hF
          have hI : New w5 wq := hI
          clear hF
          simp only [fillTo, dstOf, List.getElem?_toArray, List.getElem?_cons_zero, List.getElem?_cons_succ, Option.bind_some, Act.put, List.setIfInBounds_toArray, List.set_cons_zero, List.set_cons_succ]
          go_wp2_with fail
          have bq := (New.refl wq).alloc (.cells #[] 50)
          exact ⟨_, rfl, New.trans hI bq, StayX.new bq, by rw [HFF.out]; exact ⟨_, 0, [], rfl, World.ownsRow_lit wq #[] 0 (New.le hI) (Nat.zero_le _) rfl⟩⟩
        · -- 1: Op.fieldAddr 60 t4 2
          intro vs kq wq hI hF
          have hI : New w5 wq := hI
          clear hF
          simp only [fillTo, dstOf, List.getElem?_toArray, List.getElem?_cons_zero, List.getElem?_cons_succ, Option.bind_some, Act.put, List.setIfInBounds_toArray, List.set_cons_zero, List.set_cons_succ]
          go_wp2_with fail
          exact ⟨_, rfl, hI, StayX.refl _ _, by rw [HFF.out]; exact rfl⟩
        · -- 2: Op.load 58 t52
          intro vs kq wq hI hF
          have hI : New w5 wq := hI
          have f1 : pVal (.pointer (some ⟨w.heap.size, 2, none⟩)) (vs 1) wq := (by have h := hF 1 (by rfl); rw [HFF.out] at h; exact h)
          unfold pVal at f1
          clear hF
          simp only [fillTo, dstOf, List.getElem?_toArray, List.getElem?_cons_zero, List.getElem?_cons_succ, Option.bind_some, Act.put, List.setIfInBounds_toArray, List.set_cons_zero, List.set_cons_succ, f1]
          clear f1
          have hcq := New.cells hI; have hzq := New.le hI
          go_wp2_with fail
          exact ⟨_, rfl, hI, StayX.refl _ _, by rw [HFF.out]; exact rfl⟩
        · -- 3: Op.move t11
          intro vs kq wq hI hF
          have hI : New w5 wq := hI
          clear hF
          simp only [fillTo, dstOf, List.getElem?_toArray, List.getElem?_cons_zero, List.getElem?_cons_succ, Option.bind_some, Act.put, List.setIfInBounds_toArray, List.set_cons_zero, List.set_cons_succ]
          go_wp2_with fail
          exact ⟨_, rfl, hI, StayX.refl _ _, by rw [HFF.out]; exact rfl⟩
        · -- 4: Op.slice 58 t53 none (some t54) none
          intro vs kq wq hI hF
          have hI : New w5 wq := hI
          have f2 : pVal (.slice (some ⟨b, o, none⟩) n c) (vs 2) wq := (by have h := hF 2 (by rfl); rw [HFF.out] at h; exact h)
          unfold pVal at f2
          have f3 : pVal (.int .i64 0) (vs 3) wq := (by have h := hF 3 (by rfl); rw [HFF.out] at h; exact h)
          unfold pVal at f3
          clear hF
          simp only [fillTo, dstOf, List.getElem?_toArray, List.getElem?_cons_zero, List.getElem?_cons_succ, Option.bind_some, Act.put, List.setIfInBounds_toArray, List.set_cons_zero, List.set_cons_succ, f2, f3]
          clear f2 f3
          go_wp2_with fail
          exact ⟨_, rfl, hI, StayX.refl _ _, by rw [HFF.out]; exact rfl⟩
        · -- 5: Op.call { builtin append, args := #[t51, t55], argTypes := #
          intro vs kq wq hI hF
          have hI : New w5 wq := hI
          have f0 : pX w5.heap.size 0 (vs 0) wq := (by have h := hF 0 (by rfl); rw [HFF.out] at h; exact h)
          have f4 : pVal (.slice (some ⟨b, o, none⟩) 0 c) (vs 4) wq := (by have h := hF 4 (by rfl); rw [HFF.out] at h; exact h)
          unfold pVal at f4
          clear hF
          simp only [fillTo, dstOf, List.getElem?_toArray, List.getElem?_cons_zero, List.getElem?_cons_succ, Option.bind_some, Act.put, List.setIfInBounds_toArray, List.set_cons_zero, List.set_cons_succ, f4]
          clear f4
          obtain ⟨VV, hVV⟩ : ∃ VV, vs 0 = VV := ⟨_, rfl⟩
          rw [hVV] at f0 ⊢
          clear hVV
          have f0 : RowX 50 7 w5.heap.size wq VV 0 := f0
          go_wp2_with (at_builtin; refine wpList_append_X _ rfl (.tmp 51) (.tmp 55) 42 rfl w5 w5.heap.size 50 i0 _ 7 56 Try.underlying42 hi iz0 iz1 iz2 rfl (by omega) (by omega) VV 0 rfl f0 (some ⟨b, o, none⟩) 0 c (flatE (es.take 0)) rfl (fun e => by cases e) (by rw [flatE_len, List.length_take, HN.out]; omega) (ents_take (HH.out.new (N5.trans hI)) 0) (by omega) (Nat.le_refl _) (New.le hI) hI ?_; intro v2 w2 r2 n2 g2 k2)
          exact ⟨_, rfl, n2, k2, by rw [HFF.out]; rw [Nat.zero_add] at r2; exact r2⟩
        · -- 6: Op.fieldAddr 60 t4 2
          intro vs kq wq hI hF
          have hI : New w5 wq := hI
          clear hF
          simp only [fillTo, dstOf, List.getElem?_toArray, List.getElem?_cons_zero, List.getElem?_cons_succ, Option.bind_some, Act.put, List.setIfInBounds_toArray, List.set_cons_zero, List.set_cons_succ]
          go_wp2_with fail
          exact ⟨_, rfl, hI, StayX.refl _ _, by rw [HFF.out]; exact rfl⟩
        · -- 7: Op.load 58 t57
          intro vs kq wq hI hF
          have hI : New w5 wq := hI
          have f6 : pVal (.pointer (some ⟨w.heap.size, 2, none⟩)) (vs 6) wq := (by have h := hF 6 (by rfl); rw [HFF.out] at h; exact h)
          unfold pVal at f6
          clear hF
          simp only [fillTo, dstOf, List.getElem?_toArray, List.getElem?_cons_zero, List.getElem?_cons_succ, Option.bind_some, Act.put, List.setIfInBounds_toArray, List.set_cons_zero, List.set_cons_succ, f6]
          clear f6
          have hcq := New.cells hI; have hzq := New.le hI
          go_wp2_with fail
          exact ⟨_, rfl, hI, StayX.refl _ _, by rw [HFF.out]; exact rfl⟩
        · -- 8: Op.move t11
          intro vs kq wq hI hF
          have hI : New w5 wq := hI
          clear hF
          simp only [fillTo, dstOf, List.getElem?_toArray, List.getElem?_cons_zero, List.getElem?_cons_succ, Option.bind_some, Act.put, List.setIfInBounds_toArray, List.set_cons_zero, List.set_cons_succ]
          go_wp2_with fail
          exact ⟨_, rfl, hI, StayX.refl _ _, by rw [HFF.out]; exact rfl⟩
        · -- 9: Op.binOp BinOp.add 3 t59 (const (1:i64)) 3
          intro vs kq wq hI hF
          have hI : New w5 wq := hI
          have f8 : pVal (.int .i64 0) (vs 8) wq := (by have h := hF 8 (by rfl); rw [HFF.out] at h; exact h)
          unfold pVal at f8
          clear hF
          simp only [fillTo, dstOf, List.getElem?_toArray, List.getElem?_cons_zero, List.getElem?_cons_succ, Option.bind_some, Act.put, List.setIfInBounds_toArray, List.set_cons_zero, List.set_cons_succ, f8]
          clear f8
          go_wp2_with fail
          exact ⟨_, rfl, hI, StayX.refl _ _, by rw [HFF.out]; exact rfl⟩
        · -- 10: Op.slice 58 t58 (some t60) none none
          intro vs kq wq hI hF
          have hI : New w5 wq := hI
          have f7 : pVal (.slice (some ⟨b, o, none⟩) n c) (vs 7) wq := (by have h := hF 7 (by rfl); rw [HFF.out] at h; exact h)
          unfold pVal at f7
          have f9 : pVal (.int .i64 (0 + 1)) (vs 9) wq := (by have h := hF 9 (by rfl); rw [HFF.out] at h; exact h)
          unfold pVal at f9
          clear hF
          simp only [fillTo, dstOf, List.getElem?_toArray, List.getElem?_cons_zero, List.getElem?_cons_succ, Option.bind_some, Act.put, List.setIfInBounds_toArray, List.set_cons_zero, List.set_cons_succ, f7, f9]
          clear f7 f9
          by_cases hc : c = 0 + 1
          · have ho : oo = o := by rw [← hoo, if_pos hc]
            go_wp2_with fail
            exact ⟨_, rfl, hI, StayX.refl _ _, by rw [HFF.out]; simp [factAt, ho, hc]⟩
          · have ho : oo = o + (0 + 1) * 7 := by rw [← hoo, if_neg hc]
            go_wp2_with fail
            exact ⟨_, rfl, hI, StayX.refl _ _, by rw [HFF.out]; simp [factAt, ho]⟩
        · -- 11: Op.call { builtin append, args := #[t56, t61], argTypes := #
          intro vs kq wq hI hF
          have hI : New w5 wq := hI
          have f5 : pX w5.heap.size 0 (vs 5) wq := (by have h := hF 5 (by rfl); rw [HFF.out] at h; exact h)
          have f10 : pVal (.slice (some ⟨b, oo, none⟩) (n - (0 + 1)) (c - (0 + 1))) (vs 10) wq := (by have h := hF 10 (by rfl); rw [HFF.out] at h; exact h)
          unfold pVal at f10
          clear hF
          simp only [fillTo, dstOf, List.getElem?_toArray, List.getElem?_cons_zero, List.getElem?_cons_succ, Option.bind_some, Act.put, List.setIfInBounds_toArray, List.set_cons_zero, List.set_cons_succ, f10]
          clear f10
          obtain ⟨VV, hVV⟩ : ∃ VV, vs 5 = VV := ⟨_, rfl⟩
          rw [hVV] at f5 ⊢
          clear hVV
          have f5 : RowX 50 7 w5.heap.size wq VV 0 := f5
          go_wp2_with (at_builtin; refine wpList_append_X _ rfl (.tmp 56) (.tmp 61) 42 rfl w5 w5.heap.size 50 i0 _ 7 56 Try.underlying42 hi iz0 iz1 iz2 rfl (by omega) (by omega) VV 0 rfl f5 (some ⟨b, oo, none⟩) (n - (0 + 1)) (c - (0 + 1)) (flatE (es.drop (0 + 1))) rfl (fun e => by cases e) (by rw [flatE_len, List.length_drop, HN.out]) (HDI.out wq hI) (by omega) (Nat.le_refl _) (New.le hI) hI ?_; intro v2 w2 r2 n2 g2 k2)
          exact ⟨_, rfl, n2, k2, by rw [HFF.out]; rw [Nat.zero_add] at r2; exact r2⟩
        · -- 12: Op.fieldAddr 60 t10 2
          intro vs kq wq hI hF
          have hI : New w5 wq := hI
          clear hF
          simp only [fillTo, dstOf, List.getElem?_toArray, List.getElem?_cons_zero, List.getElem?_cons_succ, Option.bind_some, Act.put, List.setIfInBounds_toArray, List.set_cons_zero, List.set_cons_succ]
          go_wp2_with fail
          exact ⟨_, rfl, hI, StayX.refl _ _, by rw [HFF.out]; exact rfl⟩
      · intro vs kq wq hI hF
        have hI : New w5 wq := hI
        have f11 : pX w5.heap.size (n - 1) (vs 11) wq := (by have h := hF 11 (by omega); rw [HFF.out] at h; exact h)
        have f12 : pVal (.pointer (some ⟨G, 2, none⟩)) (vs 12) wq := (by have h := hF 12 (by omega); rw [HFF.out] at h; exact h)
        unfold pVal at f12
        clear hF HFF FF HDI hoo oo
        obtain ⟨A7, c7, zs7, e7, o7⟩ := f11
        simp only [fillTo, dstOf, List.getElem?_toArray, List.getElem?_cons_zero, List.getElem?_cons_succ, Option.bind_some, Act.put, List.setIfInBounds_toArray, List.set_cons_zero, List.set_cons_succ, List.drop_succ_cons, List.drop_zero, f12, e7]
        clear f12 e7
        have r106 := (Below.block hI G hG5).trans r105
        have rR6 := (Below.block hI (w.heap.size + 1 + 1) (Nat.lt_trans hlt4 hG5)).trans rR5
        have rF6 := (Below.block hI (w.heap.size + 1) (Nat.lt_trans l41 hG5)).trans rF5
        have hG6 : G < wq.heap.size := Nat.lt_of_lt_of_le hG5 hI.le
        clear T0 T1 T2 G0 G1 G2 G3 G4 K0 K1 K2 zG rT5 rF5 rR5 r105
        obtain ⟨G0, G1, G2, G3, G4, _, _, _, _, _⟩ := cells5 rF6
        obtain ⟨K0, K1, K2⟩ := cellsT r106
        have zG : ∀ j, wq.frozen? ⟨G, j, none⟩ = false := fun j => frozen_of_row _ _ _ _ _ r106
        have o5 : RowX 50 7 w.heap.size (wq.setCell ⟨G, 2, none⟩ (.slice A7 (n - 1) c7)) (.slice A7 (n - 1) c7) (n - 1) := (RowX.setTab ⟨A7, c7, zs7, rfl, o7⟩ ⟨_, r106⟩ 2 _).less N5.le
        have r107 : (wq.setCell ⟨G, 2, none⟩ (.slice A7 (n - 1) c7)).heap[G]? = some (.cells #[.int .i64 sz, .int .i64 st, (.slice A7 (n - 1) c7)] 44 (0, 0)) := heap_setCell_same wq G 2 _ _ (.slice A7 (n - 1) c7) r106
        have rR7 : (wq.setCell ⟨G, 2, none⟩ (.slice A7 (n - 1) c7)).heap[w.heap.size + 1 + 1]? = some (.cells #[.int .i64 0, .int .i64 0, .slice none 0 0] 44 (0, 0)) := (Below.heap_setCell _ _ _ _ (by show w.heap.size + 1 + 1 ≠ G; omega)).trans rR6
        have N7 : New w (wq.setCell ⟨G, 2, none⟩ (.slice A7 (n - 1) c7)) := (N5.trans hI).setCell (p := ⟨G, 2, none⟩) (by show w.heap.size ≤ G; omega) _
        have hG7 : G < (wq.setCell ⟨G, 2, none⟩ (.slice A7 (n - 1) c7)).heap.size := (Array.getElem?_eq_some_iff.1 r107).1
        clear o7
        have HO5 := Lib.hid o5
        have H10 := Lib.hid r107
        have HR5 := Lib.hid rR7
        clear r107 rR7 rF6 r106 rR6
        have bL := (New.refl (wq.setCell ⟨G, 2, none⟩ (.slice A7 (n - 1) c7))).alloc (.cells #[.int .i64 fa, .int .i64 fb, .int .i64 fc, .int .i64 fd, .int .i64 fk, .int .i64 to, .int .i64 now] 50)
        have HL5 := Lib.hid bL
        go_wp2_with (at_builtin; refine wpList_append_X _ rfl (.tmp 65) (.tmp 70) 42 rfl w w.heap.size 50 i0 _ 7 56 Try.underlying42 hi iz0 iz1 iz2 rfl (by omega) (by omega) (.slice A7 (n - 1) c7) (n - 1) rfl (HO5.out.new HL5.out) _ 1 1 [fa, fb, fc, fd, fk, to, now] rfl (fun e => by cases e) rfl (Ints.lit _ _ [fa, fb, fc, fd, fk, to, now] _ (by simp)) (by omega) (Nat.le_refl _) (Nat.le_trans N7.le HL5.out.le) (N7.trans HL5.out) ?_; intro v9 w9 r9 n9 g9 _; have t9 := tab_kept (HO5.out.new HL5.out) ((Below.block HL5.out _ hG7).trans H10.out) g9; have tR9 := tab_kept (HO5.out.new HL5.out) ((Below.block HL5.out _ (Nat.lt_trans hlt4 hG7)).trans HR5.out) g9; clear g9; obtain ⟨A9, c9, zs9, rfl, o9⟩ := r9; obtain ⟨M0, M1, M2⟩ := cellsT t9; obtain ⟨Q0, Q1, Q2⟩ := cellsT tR9; have zM : ∀ j, w9.frozen? ⟨G, j, none⟩ = false := fun j => frozen_of_row _ _ _ _ _ t9; have zQ : ∀ j, w9.frozen? ⟨w.heap.size + 1 + 1, j, none⟩ = false := fun j => frozen_of_row _ _ _ _ _ tR9)
        have HO9 := Lib.hid o9
        clear o9
        have TG : TypAt w9 G := ⟨_, t9⟩
        have TR : TypAt w9 (w.heap.size + 1 + 1) := ⟨_, tR9⟩
        refine bodyPost_ret (v := .tuple #[.agg #[.int .i64 sz, .int .i64 st, .slice A9 ((n - 1) + 1) c9], .bool true]) (by simp [results, Try.results102, go_sem, *, ↓IntWalk.iteOmega]) rfl ⟨_, _, sz, st, (n - 1) + 1, rfl, ⟨_, rfl, ?_⟩, by omega, ?_⟩
        · exact ((((RowX.setTab ⟨A9, c9, zs9, rfl, HO9.out⟩ TG 2 _).setTab (TR.set G 2 _) 0 _).setTab ((TR.set G 2 _).set _ 0 _) 1 _).setTab (((TR.set G 2 _).set _ 0 _).set _ 1 _) 2 _)
        · exact ((((n9.setCell (p := ⟨G, 2, none⟩) (by simp; omega) _).setCell (p := ⟨w.heap.size + 1 + 1, 0, none⟩) (by simp; omega) _).setCell (p := ⟨w.heap.size + 1 + 1, 1, none⟩) (by simp; omega) _).setCell (p := ⟨w.heap.size + 1 + 1, 2, none⟩) (by simp; omega) _)

    · skip
      have HO5 := Lib.hid o5
      have H10 := Lib.hid r105
      have HR5 := Lib.hid rR5
      clear rT5 r105 rR5 rF5
      have bL := (New.refl w5).alloc (.cells #[.int .i64 fa, .int .i64 fb, .int .i64 fc, .int .i64 fd, .int .i64 fk, .int .i64 to, .int .i64 now] 50)
      have HL5 := Lib.hid bL
      go_wp2_with (at_builtin; refine wpList_append_X _ rfl (.tmp 65) (.tmp 70) 42 rfl w w.heap.size 50 i0 _ 7 56 Try.underlying42 hi iz0 iz1 iz2 rfl (by omega) (by omega) (.slice A4 n c4) n rfl (HO5.out.new HL5.out) _ 1 1 [fa, fb, fc, fd, fk, to, now] rfl (fun e => by cases e) rfl (Ints.lit _ _ [fa, fb, fc, fd, fk, to, now] _ (by simp)) (by omega) (Nat.le_refl _) (Nat.le_trans N5.le HL5.out.le) (N5.trans HL5.out) ?_; intro v9 w9 r9 n9 g9 _; have t9 := tab_kept (HO5.out.new HL5.out) ((Below.block HL5.out _ hG5).trans H10.out) g9; have tR9 := tab_kept (HO5.out.new HL5.out) ((Below.block HL5.out _ (Nat.lt_trans hlt4 hG5)).trans HR5.out) g9; clear g9; obtain ⟨A9, c9, zs9, rfl, o9⟩ := r9; obtain ⟨M0, M1, M2⟩ := cellsT t9; obtain ⟨Q0, Q1, Q2⟩ := cellsT tR9; have zM : ∀ j, w9.frozen? ⟨G, j, none⟩ = false := fun j => frozen_of_row _ _ _ _ _ t9; have zQ : ∀ j, w9.frozen? ⟨w.heap.size + 1 + 1, j, none⟩ = false := fun j => frozen_of_row _ _ _ _ _ tR9)
      have HO9 := Lib.hid o9
      clear o9
      have TG : TypAt w9 G := ⟨_, t9⟩
      have TR : TypAt w9 (w.heap.size + 1 + 1) := ⟨_, tR9⟩
      refine bodyPost_ret (v := .tuple #[.agg #[.int .i64 sz, .int .i64 st, .slice A9 (n + 1) c9], .bool true]) (by simp [results, Try.results102, go_sem, *, ↓IntWalk.iteOmega]) rfl ⟨_, _, sz, st, n + 1, rfl, ⟨_, rfl, ?_⟩, Nat.le_refl _, ?_⟩
      · exact ((((RowX.setTab ⟨A9, c9, zs9, rfl, HO9.out⟩ TG 2 _).setTab (TR.set G 2 _) 0 _).setTab ((TR.set G 2 _).set _ 0 _) 1 _).setTab (((TR.set G 2 _).set _ 0 _).set _ 1 _) 2 _)
      · exact ((((n9.setCell (p := ⟨G, 2, none⟩) (by simp; omega) _).setCell (p := ⟨w.heap.size + 1 + 1, 0, none⟩) (by simp; omega) _).setCell (p := ⟨w.heap.size + 1 + 1, 1, none⟩) (by simp; omega) _).setCell (p := ⟨w.heap.size + 1 + 1, 2, none⟩) (by simp; omega) _)
end Go.Proofs.Ytbnehcaallehbaa
