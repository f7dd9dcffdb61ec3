/- Rows of the call's own whose numbers are not told; append onto one. -/
import Derived.Test.YtbnehcaallehbaaOwn
import Derived.ArgAppend
import Derived.Laws.AppendOwnNone
namespace Go.Proofs.Ytbnehcaallehbaa
set_option linter.unusedVariables false
set_option linter.unusedSimpArgs false
open Go.RowKit

def RowX (E : TypeId) (size B : Nat) (w : World) (v : Value) (n : Nat) : Prop := ∃ A c zs, v = .slice A n c ∧ Own E size B w A n c zs
section
variable {E : TypeId} {size B n : Nat} {w w' : World} {v : Value}
theorem RowX.new (h : RowX E size B w v n) (hb : New w w') : RowX E size B w' v n := by
  obtain ⟨A, c, zs, hv, ho⟩ := h
  exact ⟨A, c, zs, hv, ho.new hb⟩
theorem RowX.less {B' : Nat} (h : RowX E size B w v n) (hB : B' ≤ B) : RowX E size B' w v n := by
  obtain ⟨A, c, zs, hv, ho⟩ := h
  exact ⟨A, c, zs, hv, ho.less hB⟩
theorem RowX.setInt (h : RowX E size B w v n) (b j : Nat) (z : Int) : RowX E size B (w.setCell ⟨b, j, none⟩ (.int .i64 z)) v n := by
  obtain ⟨A, c, zs, rfl, hl, ho⟩ := h
  rcases ho with h0 | ⟨g, cap, cur, hv, hg, hh, hnc, hcm, hsz, ht⟩
  · exact ⟨A, c, zs, rfl, hl, .inl h0⟩
  · by_cases hb : g = b
    · subst hb
      refine ⟨A, c, zs.set j z, rfl, by simpa using hl, .inr ⟨g, cap, _, hv, hg, heap_setCell_same w g j cur E _ hh, hnc, hcm, by simpa using hsz, ?_⟩⟩
      rw [Array.toList_setIfInBounds, List.take_set, ht, List.map_set]
    · exact ⟨A, c, zs, rfl, hl, .inr ⟨g, cap, cur, hv, hg, (Below.heap_setCell _ _ _ _ hb).trans hh, hnc, hcm, hsz, ht⟩⟩
theorem RowX.setInts : ∀ (news : List Int) (b o : Nat) {w : World}, RowX E size B w v n → RowX E size B (w.setCells b o (news.map (Value.int .i64))) v n
  | [], _, _, _, h => h
  | z :: r, b, o, _, h => RowX.setInts r b (o + 1) (h.setInt b o z)
end
theorem size_setCells : ∀ (vs : List Value) (b o : Nat) (w : World), (w.setCells b o vs).heap.size = w.heap.size
  | [], _, _, _ => rfl
  | _ :: r, b, o, w => by rw [World.setCells, size_setCells r b (o + 1)]; simp [World.setCell]
theorem gb_setCells : ∀ (vs : List Value) (b o : Nat) (w : World), w.grownBy (w.setCells b o vs) (some b)
  | [], _, _, w => World.grownBy.refl w _
  | v :: r, b, o, w => by
    have k := gb_setCells r b (o + 1) (w.setCell ⟨b, o, none⟩ v)
    refine ⟨k.os, k.tape, k.output, Nat.le_of_eq (size_setCells _ _ _ _).symm, fun i hi hn => ?_⟩
    exact (k.block i (by simpa [World.setCell] using hi) hn).trans (Below.heap_setCell _ _ _ _ (fun e => hn (by rw [e])))
theorem heap_setCells : ∀ (news : List Int) (b o : Nat) (w : World) (cs : Array Value) (T : TypeId), w.heap[b]? = some (.cells cs T (0, 0)) →
    ∃ cs', (w.setCells b o (news.map (Value.int .i64))).heap[b]? = some (.cells cs' T (0, 0)) ∧ cs'.size = cs.size
  | [], _, _, _, cs, _, h => ⟨cs, h, rfl⟩
  | z :: r, b, o, w, cs, T, h => by
    obtain ⟨cs', h1, h2⟩ := heap_setCells r b (o + 1) (w.setCell ⟨b, o, none⟩ (.int .i64 z)) _ T (heap_setCell_same w b o cs T _ h)
    exact ⟨cs', h1, by simpa using h2⟩
theorem setInts_row {E : TypeId} {size B n m cap g : Nat} {w : World} {cur : Array Value} {zs news : List Int} (hg : B ≤ g) (hh : w.heap[g]? = some (.cells cur E (0, 0))) (hcm : cap ≤ maxLen) (hsz : cur.size = cap * size) (ht : cur.toList.take (n * size) = zs.map (Value.int .i64))
    (hzl : zs.length = n * size) (hl : news.length = m * size) (hr : n + m ≤ cap) : RowX E size B (w.setCells g (0 + n * size) (news.map (Value.int .i64))) (.slice (some ⟨g, 0, none⟩) (n + m) cap) (n + m) := by
  obtain ⟨cs', h1, h2⟩ := heap_setCells news g (0 + n * size) w cur E hh
  have hcs : (n + m) * size ≤ cur.size := by rw [hsz]; exact Nat.mul_le_mul_right _ hr
  rw [Nat.add_mul] at hcs
  refine ⟨_, _, zs ++ news, rfl, by simp [hzl, hl, Nat.add_mul], .inr ⟨g, cap, cs', rfl, hg, h1, hr, hcm, h2.trans hsz, ?_⟩⟩
  apply List.ext_getElem?
  intro j
  have hc : ∀ j, cs'[j]? = (w.setCells g (0 + n * size) (news.map (Value.int .i64))).cell? ⟨g, j, none⟩ := fun j => (cell_of_row _ g j cs' E (0, 0) h1).symm
  have hw : ∀ j, w.cell? ⟨g, j, none⟩ = cur[j]? := fun j => cell_of_row _ g j cur E (0, 0) hh
  rw [List.map_append]
  by_cases hj : j < (n + m) * size
  · rw [List.getElem?_take_of_lt hj, Array.getElem?_toList, hc]
    by_cases hjn : j < n * size
    · rw [World.cell?_setCells_out _ _ _ _ _ (fun _ _ => .inl (by simp; omega)), hw, List.getElem?_append_left (by simpa [hzl] using hjn), ← ht, List.getElem?_take_of_lt hjn, Array.getElem?_toList]
    · obtain ⟨i, rfl⟩ : ∃ i, j = 0 + n * size + i := ⟨j - n * size, by omega⟩
      have hi : i < news.length := by rw [hl]; rw [Nat.add_mul] at hj; omega
      rw [World.cell?_setCells_in _ _ _ _ (fun j hj => by
        rw [hw]
        have : 0 + n * size + j < cur.size := by simp [hl] at hj; omega
        rw [Array.getElem?_eq_getElem this]; rfl) i (by simpa using hi), List.getElem?_append_right (by simp [hzl])]
      have e : 0 + n * size + i - (zs.map (Value.int .i64)).length = i := by simp [hzl]
      rw [e]
      simp [hi]
  · rw [List.getElem?_eq_none (by simp; omega), List.getElem?_eq_none (by simp [hzl, hl, ← Nat.add_mul]; omega)]
theorem wpList_append_X {P : Program} (w : World) {ops : Array Oper} {rest : List Oper} {o : Oper} {a : Act} {Q : Exit → Act → World → Prop} (hgd : o.guard = none) (s x : Operand) (t : TypeId)
    (ho : o.op = .call { callee := .builtin .append, args := #[s, x], argTypes := #[t, t] })
    (W0 : World) (B : Nat) (e : TypeId) (i : TypeInfo) (z : Value) (size bytes : Nat) (ht : P.underlying t = some (.slice e)) (hi : P.info? e = some i) (hz : i.zero = some z)
    (hsize : i.size = size) (hby : i.bytes = bytes) (hzs : z.cells.size = size) (hsz : 0 < size) (hb100 : bytes ≤ 100)
    (v : Value) (n : Nat) (hs : a.eval s = v) (hrow : RowX e size B w v n)
    (A' : Option Addr) (m c2 : Nat) (news : List Int) (hx : a.eval x = .slice A' m c2) (hc2 : A' = none → c2 = 0 ∧ m = 0) (hl : news.length = m * size) (hnews : Ints w A' news) (hn : n + m ≤ 16777216)
    (hB : W0.heap.size ≤ B) (hBw : B ≤ w.heap.size) (hnew : New W0 w)
    (h : ∀ v' w', RowX e size B w' v' (n + m) → New W0 w' → w.grownBy w' v.ownBlock → (∀ u k, RowX e size B w u k → RowX e size B w' u k) → wpList P ops Q rest (a.put o.dst v') w') :
    wpList P ops Q (o :: rest) a w := by
  have hby2 : (n + m) * bytes ≤ 140737488355328 := by
    calc (n + m) * bytes ≤ 16777216 * 100 := Nat.mul_le_mul hn hb100
      _ ≤ 140737488355328 := by omega
  have hml : n + m ≤ maxLen := by unfold maxLen; omega
  cases A' with
  | none =>
    obtain ⟨rfl, rfl⟩ := hc2 rfl
    have hrow' := hrow
    obtain ⟨A, c, zs, hv, hown⟩ := hrow
    subst hv
    exact wpList_append_own_none hgd s x t ho B e i size ht hi _ n _ hs hown hx (h _ w (by simpa using hrow') hnew (World.grownBy.refl w _) fun _ _ hk => hk)
  | some ad =>
    have hnc : ∀ j u, (news.map (Value.int .i64))[j]? = some u → w.cell? (ad.add j) = some u := fun j u hu => by
      have hj : j < news.length := by simpa using (List.getElem?_eq_some_iff.1 hu).1
      obtain ⟨b, o, hA, hc⟩ := hnews (by omega)
      obtain rfl : ad = ⟨b, o, none⟩ := by simpa using hA
      rw [add_plain', hc j hj]
      simp [hj] at hu
      simp [List.getD_eq_getElem?_getD, hj, hu]
    have hgrown : ∀ (xs : List Int) (v' : Value) (w' : World), w'.ownsRow w.heap.size e size v' (n + m) (xs.map (Value.int .i64)) → w.grownBy w' none → RowX e size B w' v' (n + m) ∧ New W0 w' ∧ w.grownBy w' v.ownBlock ∧ ∀ u k, RowX e size B w u k → RowX e size B w' u k := fun xs v' w' h1 hg => by
      have hN : New w w' := ⟨hg.os, hg.tape, hg.output, hg.size, fun k hk => hg.block k hk (by simp)⟩
      refine ⟨?_, hnew.trans hN, ⟨hg.os, hg.tape, hg.output, hg.size, fun k hk _ => hg.block k hk (by simp)⟩, fun _ _ hk => hk.new hN⟩
      have : ∃ A c, v' = .slice A (n + m) c := by
        rcases h1.2 with ⟨hv, h0⟩ | ⟨g, cap, cur, hv, _⟩
        · exact ⟨none, 0, by rw [h0]; exact hv⟩
        · exact ⟨_, _, hv⟩
      obtain ⟨A, c, rfl⟩ := this
      have hO : Own e size w.heap.size w' A (n + m) c xs := h1
      exact ⟨A, c, xs, rfl, hO.less hBw⟩
    obtain ⟨A, c, zs, hv, hzl, hown⟩ := hrow
    rcases hown with ⟨h0, h1⟩ | ⟨g, cap, cur, hv2, hg, hh, hnc2, hcm, hcs, htk⟩
    · subst h1
      have hzs0 : zs.map (Value.int .i64) = [] := List.eq_nil_of_length_eq_zero (by simpa using hzl)
      have hv0 : v = .slice none 0 0 := hv.trans h0
      subst hv0
      refine wpList_append_own w hgd s x t ho w.heap.size e i z size bytes ht hi hz hsize hby hzs hsz (.slice none 0 0) 0 [] hs (World.ownsRow_nil w _ e size) ad m c2 (news.map (Value.int .i64)) hx (by simpa using hl) hnc (ints_oneCell _ _) hml hby2 (Nat.le_refl _) ?_
      intro v' w' h1 hg1 _
      obtain ⟨k1, k2, k3, k4⟩ := hgrown news v' w' h1 hg1
      exact h v' w' k1 k2 k3 k4
    · obtain rfl : v = .slice (some ⟨g, 0, none⟩) n cap := hv.trans hv2
      have hcell : ∀ j, w.cell? ⟨g, j, none⟩ = cur[j]? := fun j => cell_of_row _ g j cur e (0, 0) hh
      have hzl2 : zs.length = n * size := by simpa using hzl
      refine wpList_append_arg w hgd s x t ho e i z size bytes ht hi hz hsize hby hzs hsz g 0 n cap (zs.map (Value.int .i64)) hs hzl (fun j u hu => ?_) ad m c2 (news.map (Value.int .i64)) hx (by simpa using hl) hnc (ints_oneCell _ _) (fun hr j hj => ?_) hml hby2 (fun hr => ?_) (fun _ v' w' h1 hg1 => ?_)
      · rw [Nat.zero_add, hcell]
        rw [← htk] at hu
        have hj : j < n * size := by
          have := (List.getElem?_eq_some_iff.1 hu).1
          simp at this; omega
        rw [List.getElem?_take_of_lt hj, Array.getElem?_toList] at hu
        exact hu
      · refine ⟨?_, frozen_of_row _ _ _ _ _ hh⟩
        rw [hcell]
        have h1 : (n + m) * size ≤ cap * size := Nat.mul_le_mul_right _ hr
        rw [Nat.add_mul] at h1
        have : 0 + n * size + j < cur.size := by simp [hl] at hj; omega
        rw [Array.getElem?_eq_getElem this]; rfl
      · exact h _ _ (setInts_row hg hh hcm hcs htk hzl2 hl hr) (hnew.grown (row := some g) (gb_setCells _ _ _ _) (fun k hk => by cases hk; exact Nat.le_trans hB hg)) (gb_setCells _ _ _ _) fun u k hk => hk.setInts news g _
      · rw [← List.map_append] at h1
        obtain ⟨k1, k2, k3, k4⟩ := hgrown _ v' w' h1 hg1
        exact h v' w' k1 k2 k3 k4
end Go.Proofs.Ytbnehcaallehbaa
