/- Rows that a drawing function appends to; the draw of a list of numbers. -/
import Derived.Test.YtbnehcaallehbaaDraw
import Derived.Test.YtbnehcaallehbaaOwn
namespace Go.Proofs.Ytbnehcaallehbaa
set_option linter.unusedVariables false
set_option linter.unusedSimpArgs false
open Go.RowKit

theorem Own.gb {E : TypeId} {size B n c R : Nat} {w w' : World} {A : Option Addr} {zs : List Int} (h : Own E size B w A n c zs) (hg : w.grownBy w' (some R)) (hR : R < B) : Own E size B w' A n c zs := by
  refine World.ownsRow.kept h hg ?_
  cases hv : Value.ownBlock (.slice A n c) with
  | none => exact .inl rfl
  | some g =>
    have := (World.ownsRow.lt h g hv).1
    exact .inr (by simp; omega)
theorem RdAt.app {w w' : World} {R : Nat} {A : Option Addr} {n c : Nat} {zs : List Int} {p : Nat} (h : RdAt w R A n c zs p) {E : TypeId} {size B m c' : Nat} {A' : Option Addr} {ys : List Int} (ho : Own E size B w A' m c' ys) (hR : R < B) (hg : w.grownBy w' (Value.ownBlock (.slice A' m c'))) : RdAt w' R A n c zs p := by
  refine h.kept hg (fun e => ?_) fun b o hl hA e => ?_
  · have := (World.ownsRow.lt ho R e).1
    omega
  · have h1 := (World.ownsRow.lt ho b e).1
    have h2 := h.2.2.2.2.2 b o hl hA
    omega
theorem gb_app {a w w' : World} {R : Nat} (h : a.grownBy w (some R)) {E : TypeId} {size m c' : Nat} {A' : Option Addr} {ys : List Int} (ho : Own E size a.heap.size w A' m c' ys) (hg : w.grownBy w' (Value.ownBlock (.slice A' m c'))) : a.grownBy w' (some R) :=
  ⟨hg.os.trans h.os, hg.tape.trans h.tape, hg.output.trans h.output, Nat.le_trans h.size hg.size, fun i hi hn => (hg.block i (Nat.lt_of_lt_of_le hi h.size) (fun e => by
    have := (World.ownsRow.lt ho i e.symm).1
    omega)).trans (h.block i hi hn)⟩
theorem Own.plain {E : TypeId} {size B n c : Nat} {w : World} {A : Option Addr} {zs : List Int} (h : Own E size B w A n c zs) : A = none ∨ ∃ g, A = some ⟨g, 0, none⟩ := by
  rcases h.2 with ⟨hv, _⟩ | ⟨g, cap, cur, hv, _⟩
  · exact .inl (by simpa using (congrArg (fun v => match v with | .slice A _ _ => A | _ => none) hv))
  · exact .inr ⟨g, by simpa using (congrArg (fun v => match v with | .slice A _ _ => A | _ => none) hv)⟩

theorem Own.blkGe {E : TypeId} {size B n c g : Nat} {w : World} {zs : List Int} (h : Own E size B w (some ⟨g, 0, none⟩) n c zs) : B ≤ g ∧ g < w.heap.size := by
  have := World.ownsRow.lt h g rfl
  exact ⟨by omega, by omega⟩
theorem IntsK.apartR {w w' : World} {A' : Option Addr} {zs : List Int} {R : Nat} (h : Ints w A' zs) (hg : w.grownBy w' (some R)) (hA : ∀ g, A' = some ⟨g, 0, none⟩ → g ≠ R) (hpl : A' = none ∨ ∃ g, A' = some ⟨g, 0, none⟩) : Ints w' A' zs := by
  intro hn
  obtain ⟨b, o, hb, hc⟩ := h hn
  refine ⟨b, o, hb, fun j hj => hg.cell (hc j hj) ?_⟩
  rcases hpl with h0 | ⟨g, h0⟩
  · rw [h0] at hb; cases hb
  · have := hA g h0
    rw [h0] at hb
    obtain ⟨rfl, rfl⟩ : g = b ∧ 0 = o := by simpa using hb
    simpa using this

/-- 'out = append(out, ..)' of m elements onto a row of one's own, while a reader lies open. -/
theorem wpList_append_Rd {P : Program} (w : World) {ops : Array Oper} {rest : List Oper} {o : Oper} {a : Act} {Q : Exit → Act → World → Prop} (hgd : o.guard = none) (s x : Operand) (t : TypeId)
    (ho : o.op = .call { callee := .builtin .append, args := #[s, x], argTypes := #[t, t] })
    (a0 : World) (e : TypeId) (i : TypeInfo) (z : Value) (size bytes : Nat) (ht : P.underlying t = some (.slice e)) (hi : P.info? e = some i) (hz : i.zero = some z)
    (hsize : i.size = size) (hby : i.bytes = bytes) (hzs : z.cells.size = size) (hsz : 0 < size) (hb100 : bytes ≤ 100)
    (A : Option Addr) (n c : Nat) (zs : List Int) (hs : a.eval s = .slice A n c) (hown : Own e size a0.heap.size w A n c zs)
    (ad : Addr) (m c2 : Nat) (news : List Int) (hx : a.eval x = .slice (some ad) m c2) (hl : news.length = m * size) (hnews : Ints w (some ad) news) (hm : 0 < m) (hn : n + m ≤ 16777216)
    {R nb cb p : Nat} {Ab : Option Addr} {zb : List Int} (hr : RdAt w R Ab nb cb zb p) (hR : R < a0.heap.size) (hg0 : a0.grownBy w (some R))
    (h : ∀ A' c' w', n + m ≤ c' → c' ≤ maxLen → Own e size a0.heap.size w' A' (n + m) c' (zs ++ news) → RdAt w' R Ab nb cb zb p → a0.grownBy w' (some R) → wpList P ops Q rest (a.put o.dst (.slice A' (n + m) c')) w') :
    wpList P ops Q (o :: rest) a w := by
  refine wpList_append_own w hgd s x t ho a0.heap.size e i z size bytes ht hi hz hsize hby hzs hsz _ n _ hs hown ad m c2 (news.map (Value.int .i64)) hx (by simpa using hl) (news_at hnews) (ints_oneCell _ _) (by unfold maxLen; omega) ?_ hg0.size ?_
  · calc (n + m) * bytes ≤ 16777216 * 100 := Nat.mul_le_mul hn hb100
      _ ≤ 140737488355328 := by omega
  · intro v' w' hown' hg _
    obtain ⟨g, c', rfl, h1, h2, _⟩ := Own.shape hown' (by omega)
    exact h _ c' w' h1 h2 (by unfold Own; rw [List.map_append]; exact hown') (hr.app hown hR hg) (gb_app hg0 hown hg)

end Go.Proofs.Ytbnehcaallehbaa
