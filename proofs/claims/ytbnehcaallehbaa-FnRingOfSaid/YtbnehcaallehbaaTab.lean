/- Tables: entries, the place of a flow. -/
import Derived.Test.YtbnehcaallehbaaFlow
import Derived.Test.YtbnehcaallehbaaQb
import Derived.Test.YtbnehcaallehbaaOwn
import Derived.Test.YtbnehcaallehbaaTypes
namespace Go.Proofs.Ytbnehcaallehbaa
set_option linter.unusedVariables false
set_option linter.unusedSimpArgs false
open Go.RowKit Go.Sort

/-- An entry: the flow's five numbers, the host, the time. -/
structure Ent where
  a : Int
  b : Int
  c : Int
  d : Int
  k : Int
  to : Int
  last : Int
def flatE : List Ent → List Int
  | [] => []
  | e :: t => e.a :: e.b :: e.c :: e.d :: e.k :: e.to :: e.last :: flatE t
theorem flatE_len : ∀ es : List Ent, (flatE es).length = es.length * 7
  | [] => rfl
  | h :: t => by simp only [flatE, List.length_cons, flatE_len t]; omega
theorem flatE_append : ∀ xs ys : List Ent, flatE (xs ++ ys) = flatE xs ++ flatE ys
  | [], _ => rfl
  | h :: t, ys => by simp [flatE, flatE_append t ys]
theorem flatE_at : ∀ (es : List Ent) (i : Nat) (e : Ent), es[i]? = some e → (flatE es)[i * 7]? = some e.a ∧ (flatE es)[i * 7 + 1]? = some e.b ∧ (flatE es)[i * 7 + 2]? = some e.c ∧ (flatE es)[i * 7 + 3]? = some e.d ∧ (flatE es)[i * 7 + 4]? = some e.k ∧ (flatE es)[i * 7 + 5]? = some e.to ∧ (flatE es)[i * 7 + 6]? = some e.last
  | [], _, _, h => by simp at h
  | x :: t, 0, h, hk => by simp at hk; subst hk; simp [flatE]
  | x :: t, i + 1, h, hk => by
    have ih := flatE_at t i h (by simpa using hk)
    rw [show (i + 1) * 7 = i * 7 + 1 + 1 + 1 + 1 + 1 + 1 + 1 from by omega]
    simpa [flatE] using ih
theorem unflatE : ∀ (n : Nat) (zs : List Int), zs.length = n * 7 → ∃ es : List Ent, flatE es = zs ∧ es.length = n
  | 0, zs, h => ⟨[], by have : zs = [] := List.eq_nil_of_length_eq_zero (by simpa using h); rw [this]; rfl, rfl⟩
  | n + 1, zs, h => by
    match zs, h with
    | a :: b :: c :: d :: k :: x :: y :: t, h =>
      obtain ⟨es, h1, h2⟩ := unflatE n t (by simp at h; omega)
      exact ⟨⟨a, b, c, d, k, x, y⟩ :: es, by simp [flatE, h1], by simp [h2]⟩
    | [], h => simp at h
    | [_], h => simp at h; omega
    | [_, _], h => simp at h; omega
    | [_, _, _], h => simp at h; omega
    | [_, _, _, _], h => simp at h; omega
    | [_, _, _, _, _], h => simp at h; omega
    | [_, _, _, _, _, _], h => simp at h; omega
section
variable {w w' : World} {A : Option Addr} {es : List Ent}
theorem ents_at (h : Ints w A (flatE es)) {i : Nat} (hi : i < es.length) : ∃ b o x, A = some ⟨b, o, none⟩ ∧ es[i]? = some x ∧ b < w.heap.size ∧
    w.cell? ⟨b, o + i * 7, none⟩ = some (.int .i64 x.a) ∧ w.cell? ⟨b, o + i * 7 + 1, none⟩ = some (.int .i64 x.b) ∧ w.cell? ⟨b, o + i * 7 + 2, none⟩ = some (.int .i64 x.c) ∧ w.cell? ⟨b, o + i * 7 + 3, none⟩ = some (.int .i64 x.d) ∧
    w.cell? ⟨b, o + i * 7 + 4, none⟩ = some (.int .i64 x.k) ∧ w.cell? ⟨b, o + i * 7 + 5, none⟩ = some (.int .i64 x.to) ∧ w.cell? ⟨b, o + i * 7 + 6, none⟩ = some (.int .i64 x.last) := by
  have hl := flatE_len es
  obtain ⟨b, o, hA, hc⟩ := h (by omega)
  have hx : es[i]? = some es[i] := by simp [hi]
  obtain ⟨f0, f1, f2, f3, f4, f5, f6⟩ := flatE_at es i _ hx
  have c0 := hc (i * 7) (by omega)
  have c1 := hc (i * 7 + 1) (by omega)
  have c2 := hc (i * 7 + 2) (by omega)
  have c3 := hc (i * 7 + 3) (by omega)
  have c4 := hc (i * 7 + 4) (by omega)
  have c5 := hc (i * 7 + 5) (by omega)
  have c6 := hc (i * 7 + 6) (by omega)
  simp only [List.getD_eq_getElem?_getD, f0, f1, f2, f3, f4, f5, f6, Option.getD_some] at c0 c1 c2 c3 c4 c5 c6
  exact ⟨b, o, es[i], hA, hx, World.block_lt_of_cell? w _ c0, c0, by rw [Nat.add_assoc]; exact c1, by rw [Nat.add_assoc]; exact c2, by rw [Nat.add_assoc]; exact c3, by rw [Nat.add_assoc]; exact c4, by rw [Nat.add_assoc]; exact c5, by rw [Nat.add_assoc]; exact c6⟩
end
def eqF (e : Ent) (a b c d k : Int) : Bool := flowEq e.a e.b e.c e.d e.k a b c d k
theorem eqF_true {e : Ent} {a b c d k : Int} : eqF e a b c d k = true ↔ e.a = a ∧ e.b = b ∧ e.c = c ∧ e.d = d ∧ e.k = k := by simp [eqF, flowEq]
/-- The first place of a flow, or -1. -/
def placeZ (es : List Ent) (a b c d k : Int) : Int := match es.findIdx? fun e => eqF e a b c d k with
  | some i => i
  | none => -1
theorem place_hit {es : List Ent} {a b c d k : Int} {i : Nat} {x : Ent} (hx : es[i]? = some x) (hN : eqF x a b c d k = true) (hno : ∀ j, j < i → ∀ y, es[j]? = some y → eqF y a b c d k = false) : placeZ es a b c d k = i := by
  have hk : i < es.length := (List.getElem?_eq_some_iff.1 hx).1
  have : es.findIdx? (fun e => eqF e a b c d k) = some i := by
    rw [List.findIdx?_eq_some_iff_getElem]
    refine ⟨hk, by rw [(List.getElem?_eq_some_iff.1 hx).2]; exact hN, fun j hj => ?_⟩
    have := hno j hj es[j] (by simp [Nat.lt_trans hj hk])
    simpa using this
  simp [placeZ, this]
theorem place_none {es : List Ent} {a b c d k : Int} (hno : ∀ j, j < es.length → ∀ y, es[j]? = some y → eqF y a b c d k = false) : placeZ es a b c d k = -1 := by
  have : es.findIdx? (fun e => eqF e a b c d k) = none := by
    rw [List.findIdx?_eq_none_iff]
    intro x hx
    obtain ⟨i, hi, rfl⟩ := List.getElem_of_mem hx
    exact hno i hi es[i] (by simp [hi])
  simp [placeZ, this]
theorem place_cases (es : List Ent) (a b c d k : Int) : (∃ (i : Nat) (x : Ent), es[i]? = some x ∧ eqF x a b c d k = true ∧ (∀ j, j < i → ∀ y, es[j]? = some y → eqF y a b c d k = false) ∧ placeZ es a b c d k = i) ∨
    ((∀ j, j < es.length → ∀ y, es[j]? = some y → eqF y a b c d k = false) ∧ placeZ es a b c d k = -1) := by
  cases h : es.findIdx? (fun e => eqF e a b c d k) with
  | none =>
    have hno : ∀ j, j < es.length → ∀ y, es[j]? = some y → eqF y a b c d k = false := fun j hj y hy => by
      rw [List.findIdx?_eq_none_iff] at h
      exact h y (List.mem_of_getElem? hy)
    exact .inr ⟨hno, place_none hno⟩
  | some i =>
    rw [List.findIdx?_eq_some_iff_getElem] at h
    obtain ⟨hi, h1, h2⟩ := h
    have hx : es[i]? = some es[i] := by simp [hi]
    have hno : ∀ j, j < i → ∀ y, es[j]? = some y → eqF y a b c d k = false := fun j hj y hy => by
      have := h2 j hj
      rw [(List.getElem?_eq_some_iff.1 hy).2] at this
      simpa using this
    exact .inl ⟨i, es[i], hx, h1, hno, place_hit hx h1 hno⟩

set_option maxRecDepth 100000 in
theorem l9Place_any (A : Option Addr) (n c : Nat) (es : List Ent) (fa fb fc fd fk : Int) (w : World) (hn : es.length = n) (hm : n ≤ maxLen) (h : Ints w A (flatE es)) :
    Calls Try.prog 80 #[.slice A n c, .agg #[.int .i64 fa, .int .i64 fb, .int .i64 fc, .int .i64 fd, .int .i64 fk]] w fun e w' => e = .returned (.int .i64 (placeZ es fa fb fc fd fk)) ∧ New w w' := by
  unfold maxLen at hm
  have HN := Lib.hid hn
  clear hn
  have hgr := gr_cells
  have b0 := (New.refl w).alloc (.cells #[.int .i64 fa, .int .i64 fb, .int .i64 fc, .int .i64 fd, .int .i64 fk] 48)
  have hres : (w.alloc (.cells #[.int .i64 fa, .int .i64 fb, .int .i64 fc, .int .i64 fd, .int .i64 fk] 48)).heap[w.heap.size]? = some (.cells #[.int .i64 fa, .int .i64 fb, .int .i64 fc, .int .i64 fd, .int .i64 fk] 48 (0, 0)) := heap_alloc_new _ _
  go_enter Try.func80, Try.ntmps80
  go_wp2_with fail
  generalize w.alloc (.cells #[.int .i64 fa, .int .i64 fb, .int .i64 fc, .int .i64 fd, .int .i64 fk] 48) = w0 at b0 hres ⊢
  have hlt0 : w.heap.size < w0.heap.size := (Array.getElem?_eq_some_iff.1 hres).1
  have HR := Lib.hid hres
  clear hres
  go_loopw [5] (fun i wr => ∃ j : Nat, j ≤ n ∧ i = .int .i64 j ∧ Hid (∀ i, i < j → ∀ y, es[i]? = some y → eqF y fa fb fc fd fk = false) ∧ New w0 wr) (fun i _ => n - (intOf i).toNat)
  case atStart => exact ⟨0, Nat.zero_le _, rfl, Lib.hid (fun j hj => absurd hj (by omega)), New.refl _⟩
  case round =>
    obtain ⟨j, hj, rfl, HK, hnew⟩ := hrel
    by_cases hlt : j < n
    · obtain ⟨b, o, x, rfl, hx, hb, c0, c1, c2, c3, c4, c5, c6⟩ := ents_at ((h.new b0).new hnew) (i := j) (by rw [HN.out]; exact hlt)
      have HX := Lib.hid hx
      clear hx
      obtain ⟨x0, x1, x2, x3, x4, x5, x6⟩ := x
      simp only at c0 c1 c2 c3 c4 c5 c6 HX
      have hji : (j : Int) < (n : Int) := by omega
      have hr5 : wr.heap[w.heap.size]? = some (.cells #[.int .i64 fa, .int .i64 fb, .int .i64 fc, .int .i64 fd, .int .i64 fk] 48 (0, 0)) := (Below.block hnew w.heap.size hlt0).trans HR.out
      obtain ⟨C0, C1, C2, C3, C4, Z0, Z1, Z2, Z3, Z4⟩ := cells5 hr5
      have hwr : w.heap.size < wr.heap.size := (Array.getElem?_eq_some_iff.1 hr5).1
      clear hr5
      by_cases he : x0 = fa ∧ x1 = fb ∧ x2 = fc ∧ x3 = fd ∧ x4 = fk
      · have HI := Lib.hid (place_hit HX.out (eqF_true.2 he) HK.out)
        obtain ⟨rfl, rfl, rfl, rfl, rfl⟩ := he
        go_wp2_with fail
        refine wp_region_qb (by kernel_rfl) (by kernel_rfl) ?_
        repeat (go_big_quiet_step ((fail)))
        with_reducible refine wpQuiet_nil ?_
        intro w3 b3
        have hc3 := New.cells b3; have hf3 := New.marks b3; have hz3 := New.le b3; try simp only [World.size_alloc, World.size_setCell] at hz3
        try have z3_0_0 : w.heap.size < w3.heap.size := by omega
        try have z3_0_1 : w.heap.size + 1 < w3.heap.size := by omega
        try have z3_0_2 : w.heap.size + 2 < w3.heap.size := by omega
        try have z3_1_0 : w1.heap.size < w3.heap.size := by omega
        try have z3_1_1 : w1.heap.size + 1 < w3.heap.size := by omega
        try have z3_1_2 : w1.heap.size + 2 < w3.heap.size := by omega
        try have z3_2_0 : w2.heap.size < w3.heap.size := by omega
        try have z3_2_1 : w2.heap.size + 1 < w3.heap.size := by omega
        try have z3_2_2 : w2.heap.size + 2 < w3.heap.size := by omega
        go_wp2_with fail
        go_ret
        exact ⟨by rw [HI.out]; rfl, (b0.trans hnew).trans b3⟩
      · have HI := Lib.hid (show ∀ y, es[j]? = some y → eqF y fa fb fc fd fk = false by
          intro y hy
          rw [HX.out] at hy
          obtain rfl := Option.some.inj hy
          cases hq : eqF ⟨x0, x1, x2, x3, x4, x5, x6⟩ fa fb fc fd fk
          · rfl
          · exact absurd (eqF_true.1 hq) he)
        have hcases : x0 ≠ fa ∨ (x0 = fa ∧ x1 ≠ fb) ∨ (x0 = fa ∧ x1 = fb ∧ x2 ≠ fc) ∨ (x0 = fa ∧ x1 = fb ∧ x2 = fc ∧ x3 ≠ fd) ∨ (x0 = fa ∧ x1 = fb ∧ x2 = fc ∧ x3 = fd ∧ x4 ≠ fk) := by omega
        clear he
        rcases hcases with h0 | ⟨rfl, h0⟩ | ⟨rfl, rfl, h0⟩ | ⟨rfl, rfl, rfl, h0⟩ | ⟨rfl, rfl, rfl, rfl, h0⟩
        all_goals
          have h1 := beq_false_of_ne h0
          have h2 := decide_eq_false h0
          go_wp2_with fail
          refine wp_region_qb (by kernel_rfl) (by kernel_rfl) ?_
          repeat (go_big_quiet_step ((fail)))
          with_reducible refine wpQuiet_nil ?_
          intro w3 b3
          have hc3 := New.cells b3; have hf3 := New.marks b3; have hz3 := New.le b3; try simp only [World.size_alloc, World.size_setCell] at hz3
          try have z3_0_0 : w.heap.size < w3.heap.size := by omega
          try have z3_0_1 : w.heap.size + 1 < w3.heap.size := by omega
          try have z3_0_2 : w.heap.size + 2 < w3.heap.size := by omega
          try have z3_1_0 : w1.heap.size < w3.heap.size := by omega
          try have z3_1_1 : w1.heap.size + 1 < w3.heap.size := by omega
          try have z3_1_2 : w1.heap.size + 2 < w3.heap.size := by omega
          try have z3_2_0 : w2.heap.size < w3.heap.size := by omega
          try have z3_2_1 : w2.heap.size + 1 < w3.heap.size := by omega
          try have z3_2_2 : w2.heap.size + 2 < w3.heap.size := by omega
          go_wp2_with fail
          go_roundw
          case rel => exact ⟨j + 1, by omega, by go_num, Lib.hid (all_succ (P := fun i => ∀ y, es[i]? = some y → eqF y _ _ _ _ _ = false) HK.out HI.out), hnew.trans b3⟩
          case measure => simp [intOf]; omega
    · obtain rfl : j = n := by omega
      have HI := Lib.hid (place_none (es := es) (by rw [HN.out]; exact HK.out))
      go_wp2_with fail
      go_ret
      exact ⟨by rw [HI.out]; rfl, b0.trans hnew⟩
end Go.Proofs.Ytbnehcaallehbaa
