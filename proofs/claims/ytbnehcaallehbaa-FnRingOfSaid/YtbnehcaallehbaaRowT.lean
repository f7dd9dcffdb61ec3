/- Rows of the call's own that are beginnings of one list of integers; append onto one. -/
import Derived.Test.YtbnehcaallehbaaRowX
namespace Go.Proofs.Ytbnehcaallehbaa
set_option linter.unusedVariables false
set_option linter.unusedSimpArgs false
open Go.RowKit

/-- A row that begins T; an empty one has no room. -/
def RowT (T : List Int) (E : TypeId) (size B : Nat) (w : World) (v : Value) (n : Nat) : Prop := n * size ≤ T.length ∧ ∃ g c, v = .slice (some ⟨g, 0, none⟩) n c ∧ (n = 0 → c = 0) ∧ Own E size B w (some ⟨g, 0, none⟩) n c (T.take (n * size))
theorem take_set_same {T : List Int} {j : Nat} {z : Int} (h : T[j]? = some z) (k : Nat) : (T.take k).set j z = T.take k := by
  apply List.ext_getElem?
  intro i
  rw [List.getElem?_set]
  by_cases hji : j = i
  · subst hji
    by_cases hk : j < (T.take k).length
    · rw [if_pos rfl, if_pos hk, List.getElem?_take_of_lt (by simp at hk; omega), h]
    · rw [if_pos rfl, if_neg hk, List.getElem?_eq_none (by omega)]
  · rw [if_neg hji]
section
variable {T : List Int} {E : TypeId} {size B n : Nat} {w w' : World} {v : Value}
theorem RowT.new (h : RowT T E size B w v n) (hb : New w w') : RowT T E size B w' v n := by
  obtain ⟨hT, g, c, hv, hc0, ho⟩ := h
  exact ⟨hT, g, c, hv, hc0, ho.new hb⟩
theorem RowT.less {B' : Nat} (h : RowT T E size B w v n) (hB : B' ≤ B) : RowT T E size B' w v n := by
  obtain ⟨hT, g, c, hv, hc0, ho⟩ := h
  exact ⟨hT, g, c, hv, hc0, ho.less hB⟩
theorem RowT.setInt (h : RowT T E size B w v n) (b j : Nat) (z : Int) (hz : T[j]? = some z) : RowT T E size B (w.setCell ⟨b, j, none⟩ (.int .i64 z)) v n := by
  obtain ⟨hT, g0, c, rfl, hc0, hl, ho⟩ := h
  refine ⟨hT, ?_⟩
  rcases ho with ⟨h0, _⟩ | ⟨g, cap, cur, hv, hg, hh, hnc, hcm, hsz, ht⟩
  · injection h0 with h0
    cases h0
  · by_cases hb : g = b
    · subst hb
      refine ⟨g0, c, rfl, hc0, hl, .inr ⟨g, cap, _, hv, hg, heap_setCell_same w g j cur E _ hh, hnc, hcm, by simpa using hsz, ?_⟩⟩
      rw [Array.toList_setIfInBounds, List.take_set, ht, ← List.map_set, take_set_same hz]
    · exact ⟨g0, c, rfl, hc0, hl, .inr ⟨g, cap, cur, hv, hg, (Below.heap_setCell _ _ _ _ hb).trans hh, hnc, hcm, hsz, ht⟩⟩
theorem RowT.setInts : ∀ (news : List Int) (b o : Nat) {w : World}, (∀ i z, news[i]? = some z → T[o + i]? = some z) → RowT T E size B w v n → RowT T E size B (w.setCells b o (news.map (Value.int .i64))) v n
  | [], _, _, _, _, h => h
  | z :: r, b, o, _, hT, h => RowT.setInts r b (o + 1) (fun i u hu => by have := hT (i + 1) u (by simpa using hu); rwa [show o + 1 + i = o + (i + 1) by omega]) (h.setInt b o z (by simpa using hT 0 z (by simp)))
end
theorem setT_row {T : List Int} {E : TypeId} {size B n m cap g : Nat} {w : World} {cur : Array Value} (hg : B ≤ g) (hh : w.heap[g]? = some (.cells cur E (0, 0))) (hcm : cap ≤ maxLen) (hsz : cur.size = cap * size) (ht : cur.toList.take (n * size) = (T.take (n * size)).map (Value.int .i64))
    (hT : (n + m) * size ≤ T.length) (hr : n + m ≤ cap) (hc0 : n + m = 0 → cap = 0) : RowT T E size B (w.setCells g (0 + n * size) (((T.drop (n * size)).take (m * size)).map (Value.int .i64))) (.slice (some ⟨g, 0, none⟩) (n + m) cap) (n + m) := by
  have hT' := hT
  rw [Nat.add_mul] at hT'
  have hzl : (T.take (n * size)).length = n * size := by simp; omega
  have hl : ((T.drop (n * size)).take (m * size)).length = m * size := by simp; omega
  obtain ⟨cs', h1, h2⟩ := heap_setCells ((T.drop (n * size)).take (m * size)) g (0 + n * size) w cur E hh
  have e : T.take (n * size) ++ (T.drop (n * size)).take (m * size) = T.take ((n + m) * size) := by rw [Nat.add_mul, List.take_add]
  generalize (T.drop (n * size)).take (m * size) = news at *
  generalize hzs : T.take (n * size) = zs at *
  have hcs : (n + m) * size ≤ cur.size := by rw [hsz]; exact Nat.mul_le_mul_right _ hr
  rw [Nat.add_mul] at hcs
  refine ⟨hT, _, _, rfl, hc0, ?_⟩
  rw [← e]
  refine ⟨by simp [hzl, hl, Nat.add_mul], .inr ⟨g, cap, cs', rfl, hg, h1, hr, hcm, h2.trans hsz, ?_⟩⟩
  apply List.ext_getElem?
  intro j
  have hc : ∀ j, cs'[j]? = (w.setCells g (0 + n * size) (news.map (Value.int .i64))).cell? ⟨g, j, none⟩ := fun j => (cell_of_row _ g j cs' E (0, 0) h1).symm
  have hw : ∀ j, w.cell? ⟨g, j, none⟩ = cur[j]? := fun j => cell_of_row _ g j cur E (0, 0) hh
  rw [List.map_append]
  by_cases hj : j < (n + m) * size
  · rw [List.getElem?_take_of_lt hj, Array.getElem?_toList, hc]
    by_cases hjn : j < n * size
    · rw [World.cell?_setCells_out _ _ _ _ _ (fun _ _ => .inl (by simp; omega)), hw, List.getElem?_append_left (by simpa [hzl] using hjn), ← ht, List.getElem?_take_of_lt hjn, Array.getElem?_toList]
    · obtain ⟨i, rfl⟩ : ∃ i, j = 0 + n * size + i := ⟨j - n * size, by omega⟩
      have hi : i < news.length := by rw [hl]; rw [Nat.add_mul] at hj; omega
      rw [World.cell?_setCells_in _ _ _ _ (fun j hj => by
        rw [hw]
        have : 0 + n * size + j < cur.size := by simp [hl] at hj; omega
        rw [Array.getElem?_eq_getElem this]; rfl) i (by simpa using hi), List.getElem?_append_right (by simp [hzl])]
      have e : 0 + n * size + i - (zs.map (Value.int .i64)).length = i := by simp [hzl]
      rw [e]
      simp [hi]
  · rw [List.getElem?_eq_none (by simp; omega), List.getElem?_eq_none (by simp [hzl, hl, ← Nat.add_mul]; omega)]
theorem setCells_out_same : ∀ (vs : List Value) (g o : Nat) (w : World) (b : Nat) (cs : Array Value) (T : TypeId), cs.size ≤ o → w.heap[b]? = some (.cells cs T (0, 0)) → (w.setCells g o vs).heap[b]? = some (.cells cs T (0, 0))
  | [], _, _, _, _, _, _, _, h => h
  | v :: r, g, o, w, b, cs, T, ho, h => by
    rw [World.setCells]
    refine setCells_out_same r g (o + 1) _ b cs T (by omega) ?_
    by_cases hb : b = g
    · subst hb
      have := heap_setCell_same w b o cs T v h
      rw [this, Array.setIfInBounds_eq_of_size_le ho]
    · exact (Below.heap_setCell _ _ _ _ hb).trans h
theorem wpList_append_T {P : Program} (w : World) {ops : Array Oper} {rest : List Oper} {o : Oper} {a : Act} {Q : Exit → Act → World → Prop} (hgd : o.guard = none) (s x : Operand) (t : TypeId)
    (ho : o.op = .call { callee := .builtin .append, args := #[s, x], argTypes := #[t, t] })
    (W0 : World) (B : Nat) (T : List Int) (e : TypeId) (i : TypeInfo) (z : Value) (size bytes : Nat) (ht : P.underlying t = some (.slice e)) (hi : P.info? e = some i) (hz : i.zero = some z)
    (hsize : i.size = size) (hby : i.bytes = bytes) (hzs : z.cells.size = size) (hsz : 0 < size) (hb100 : bytes ≤ 100)
    (v : Value) (n : Nat) (hs : a.eval s = v) (hrow : RowT T e size B w v n)
    (A' : Option Addr) (m c2 : Nat) (hx : a.eval x = .slice A' m c2) (hc2 : A' = none → c2 = 0 ∧ m = 0) (hl : (n + m) * size ≤ T.length) (hnews : Ints w A' ((T.drop (n * size)).take (m * size))) (hn : n + m ≤ 16777216)
    (hB : W0.heap.size ≤ B) (hBw : B ≤ w.heap.size) (hnew : New W0 w)
    (h : ∀ v' w', RowT T e size B w' v' (n + m) → New W0 w' → (∀ u k, RowT T e size B w u k → RowT T e size B w' u k) → (∀ (b : Nat) (cs : Array Value) (T' : TypeId), cs.size ≤ size → w.heap[b]? = some (.cells cs T' (0, 0)) → w'.heap[b]? = some (.cells cs T' (0, 0))) → wpList P ops Q rest (a.put o.dst v') w') :
    wpList P ops Q (o :: rest) a w := by
  have hby2 : (n + m) * bytes ≤ 140737488355328 := by
    calc (n + m) * bytes ≤ 16777216 * 100 := Nat.mul_le_mul hn hb100
      _ ≤ 140737488355328 := by omega
  have hml : n + m ≤ maxLen := by unfold maxLen; omega
  have hl' := hl
  rw [Nat.add_mul] at hl'
  have hll : ((T.drop (n * size)).take (m * size)).length = m * size := by simp; omega
  have eT : T.take (n * size) ++ (T.drop (n * size)).take (m * size) = T.take ((n + m) * size) := by rw [Nat.add_mul, List.take_add]
  cases A' with
  | none =>
    obtain ⟨rfl, rfl⟩ := hc2 rfl
    have hrow' := hrow
    obtain ⟨_, g, c, hv, _, hown⟩ := hrow
    subst hv
    exact wpList_append_own_none hgd s x t ho B e i size ht hi _ n _ hs hown hx (h _ w (by simpa using hrow') hnew (fun _ _ hk => hk) (fun _ _ _ _ hk => hk))
  | some ad =>
    have hnc : ∀ j u, (((T.drop (n * size)).take (m * size)).map (Value.int .i64))[j]? = some u → w.cell? (ad.add j) = some u := fun j u hu => by
      have hj : j < ((T.drop (n * size)).take (m * size)).length := by simpa using (List.getElem?_eq_some_iff.1 hu).1
      obtain ⟨b, o, hA, hc⟩ := hnews (by omega)
      obtain rfl : ad = ⟨b, o, none⟩ := by simpa using hA
      rw [add_plain', hc j hj]
      generalize (T.drop (n * size)).take (m * size) = news at *
      simp [hj] at hu
      simp [List.getD_eq_getElem?_getD, hj, hu]
    have hgrown : ∀ (v' : Value) (w' : World), w'.ownsRow w.heap.size e size v' (n + m) ((T.take (n * size)).map (Value.int .i64) ++ ((T.drop (n * size)).take (m * size)).map (Value.int .i64)) → w.grownBy w' none → 0 < n + m → RowT T e size B w' v' (n + m) ∧ New W0 w' ∧ (∀ u k, RowT T e size B w u k → RowT T e size B w' u k) ∧ (∀ (b : Nat) (cs : Array Value) (T' : TypeId), cs.size ≤ size → w.heap[b]? = some (.cells cs T' (0, 0)) → w'.heap[b]? = some (.cells cs T' (0, 0))) := fun v' w' h1 hg hpos => by
      rw [← List.map_append, eT] at h1
      have hN : New w w' := ⟨hg.os, hg.tape, hg.output, hg.size, fun k hk => hg.block k hk (by simp)⟩
      refine ⟨?_, hnew.trans hN, fun _ _ hk => hk.new hN, fun b cs T' _ hb => (Below.block hN b (Array.getElem?_eq_some_iff.1 hb).1).trans hb⟩
      obtain ⟨g', c', rfl, _, _, _⟩ := Own.shape h1 hpos
      have hO : Own e size w.heap.size w' (some ⟨g', 0, none⟩) (n + m) c' (T.take ((n + m) * size)) := h1
      exact ⟨hl, g', c', rfl, fun e => by omega, hO.less hBw⟩
    obtain ⟨_, g0, c, hv, hc0, hzl, hown⟩ := hrow
    rcases hown with ⟨h0, h1⟩ | ⟨g, cap, cur, hv2, hg, hh, hnc2, hcm, hcs, htk⟩
    · injection h0 with h0
      cases h0
    · obtain rfl : v = .slice (some ⟨g, 0, none⟩) n cap := hv.trans hv2
      obtain rfl : c = cap := by injection hv2
      have hcell : ∀ j, w.cell? ⟨g, j, none⟩ = cur[j]? := fun j => cell_of_row _ g j cur e (0, 0) hh
      have hzl2 : (T.take (n * size)).length = n * size := by simp; omega
      refine wpList_append_arg w hgd s x t ho e i z size bytes ht hi hz hsize hby hzs hsz g 0 n c ((T.take (n * size)).map (Value.int .i64)) hs hzl (fun j u hu => ?_) ad m c2 (((T.drop (n * size)).take (m * size)).map (Value.int .i64)) hx (by simpa using hll) hnc (ints_oneCell _ _) (fun hr j hj => ?_) hml hby2 (fun hr => ?_) (fun hgr v' w' h1 hg1 => ?_)
      · rw [Nat.zero_add, hcell]
        rw [← htk] at hu
        have hj : j < n * size := by
          have := (List.getElem?_eq_some_iff.1 hu).1
          simp at this; omega
        rw [List.getElem?_take_of_lt hj, Array.getElem?_toList] at hu
        exact hu
      · refine ⟨?_, frozen_of_row _ _ _ _ _ hh⟩
        rw [hcell]
        have h1 : (n + m) * size ≤ c * size := Nat.mul_le_mul_right _ hr
        rw [Nat.add_mul] at h1
        have : 0 + n * size + j < cur.size := by rw [List.length_map, hll] at hj; omega
        rw [Array.getElem?_eq_getElem this]; rfl
      · refine h _ _ (setT_row hg hh hcm hcs htk hl hr (fun e => hc0 (by omega))) (hnew.grown (row := some g) (gb_setCells _ _ _ _) (fun k hk => by cases hk; exact Nat.le_trans hB hg)) (fun u k hk => hk.setInts _ g _ (fun i z hi => ?_)) (fun b cs T' hsz' hb => ?_)
        · have hi2 : i < m * size := by
            have := (List.getElem?_eq_some_iff.1 hi).1
            omega
          rw [List.getElem?_take_of_lt hi2, List.getElem?_drop] at hi
          rw [Nat.zero_add]
          exact hi
        · rcases Nat.eq_zero_or_pos n with hn0 | hn0
          · have := hc0 hn0
            obtain rfl : m = 0 := by omega
            simpa [World.setCells] using hb
          · have : 1 * size ≤ n * size := Nat.mul_le_mul_right _ hn0
            exact setCells_out_same _ g _ w b cs T' (by omega) hb
      · obtain ⟨k1, k2, k3, k4⟩ := hgrown _ w' h1 hg1 (by omega)
        exact h v' w' k1 k2 k3 k4
end Go.Proofs.Ytbnehcaallehbaa
