/- append onto a row of the call's own, in the words of this claim. -/
import Derived.Test.YtbnehcaallehbaaBase
namespace Go.Proofs.Ytbnehcaallehbaa
set_option linter.unusedVariables false
set_option linter.unusedSimpArgs false
open Go.RowKit

theorem Own.less {E : TypeId} {size B B' n c : Nat} {w : World} {A : Option Addr} {zs : List Int} (h : Own E size B w A n c zs) (hB : B' ≤ B) : Own E size B' w A n c zs := by
  refine ⟨h.1, ?_⟩
  rcases h.2 with hz | ⟨g, cap, cur, hv, hg, rest⟩
  · exact .inl hz
  · exact .inr ⟨g, cap, cur, hv, Nat.le_trans hB hg, rest⟩

theorem Own.shape {E : TypeId} {size B n : Nat} {w : World} {v : Value} {xs : List Value} (h : w.ownsRow B E size v n xs) (hn : 0 < n) : ∃ g c, v = .slice (some ⟨g, 0, none⟩) n c ∧ n ≤ c ∧ c ≤ maxLen ∧ B ≤ g := by
  rcases h.2 with ⟨_, h0⟩ | ⟨g, cap, cur, hv, hg, _, hnc, hcm, _⟩
  · omega
  · exact ⟨g, cap, hv, hnc, hcm, hg⟩

theorem news_at {w : World} {ad : Addr} {news : List Int} (h : Ints w (some ad) news) : ∀ j u, (news.map (Value.int .i64))[j]? = some u → w.cell? (ad.add j) = some u := by
  intro j u hu
  have hj : j < news.length := by simpa using (List.getElem?_eq_some_iff.1 hu).1
  obtain ⟨b, o, hA, hc⟩ := h (by omega)
  obtain rfl : ad = ⟨b, o, none⟩ := by simpa using hA
  rw [add_plain', hc j hj]
  simp [hj] at hu
  simp [List.getD_eq_getElem?_getD, hj, hu]

/-- 'out = append(out, ..)' of m elements, m at least 1. -/
theorem wpList_append_Own {P : Program} (w : World) {ops : Array Oper} {rest : List Oper} {o : Oper} {a : Act} {Q : Exit → Act → World → Prop} (hgd : o.guard = none) (s x : Operand) (t : TypeId)
    (ho : o.op = .call { callee := .builtin .append, args := #[s, x], argTypes := #[t, t] })
    (w0 : World) (e : TypeId) (i : TypeInfo) (z : Value) (size bytes : Nat) (ht : P.underlying t = some (.slice e)) (hi : P.info? e = some i) (hz : i.zero = some z)
    (hsize : i.size = size) (hby : i.bytes = bytes) (hzs : z.cells.size = size) (hsz : 0 < size) (hb100 : bytes ≤ 100)
    (A : Option Addr) (n c : Nat) (zs : List Int) (hs : a.eval s = .slice A n c) (hown : Own e size w0.heap.size w A n c zs)
    (ad : Addr) (m c2 : Nat) (news : List Int) (hx : a.eval x = .slice (some ad) m c2) (hl : news.length = m * size) (hnews : Ints w (some ad) news) (hm : 0 < m) (hn : n + m ≤ 16777216) (hnew : New w0 w)
    (h : ∀ A' c' w', n + m ≤ c' → c' ≤ maxLen → Own e size w0.heap.size w' A' (n + m) c' (zs ++ news) → New w0 w' → w.grownBy w' (Value.ownBlock (.slice A n c)) → wpList P ops Q rest (a.put o.dst (.slice A' (n + m) c')) w') :
    wpList P ops Q (o :: rest) a w := by
  refine wpList_append_own w hgd s x t ho w0.heap.size e i z size bytes ht hi hz hsize hby hzs hsz _ n _ hs hown ad m c2 (news.map (Value.int .i64)) hx (by simpa using hl) (news_at hnews) (ints_oneCell _ _) (by unfold maxLen; omega) ?_ hnew.le ?_
  · calc (n + m) * bytes ≤ 16777216 * 100 := Nat.mul_le_mul hn hb100
      _ ≤ 140737488355328 := by omega
  · intro v' w' hown' hg _
    obtain ⟨g, c', rfl, h1, h2, _⟩ := Own.shape hown' (by omega)
    refine h _ c' w' h1 h2 (by unfold Own; rw [List.map_append]; exact hown') (hnew.grown hg fun k hk => (World.ownsRow.lt hown k hk).1) hg

/-- A literal of some structs, just laid, as integers. -/
theorem Ints.lit (w : World) (T : TypeId) (zs : List Int) (g : Nat) (hg : g = w.heap.size) : Ints (w.alloc (.cells (zs.map (Value.int .i64)).toArray T)) (some ⟨g, 0, none⟩) zs := by
  subst hg
  exact Ints.built w T zs

end Go.Proofs.Ytbnehcaallehbaa
