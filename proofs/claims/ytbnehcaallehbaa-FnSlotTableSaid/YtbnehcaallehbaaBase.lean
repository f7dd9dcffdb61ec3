/- Words of this claim's own for memory: a slice's cells that read as integers, and what keeps them. -/
import Derived.WalkKit
import Derived.WalkSpells
import Derived.WalkLawsBesides
import Derived.WalkSmall
import Derived.BigQuiet
import Derived.BigGuardPart
import Derived.Lib.Hide
import Derived.Deep.QuietTactic
import Derived.Deep.Draws
import Derived.Maps.Own
namespace Go.Proofs.Ytbnehcaallehbaa
set_option linter.unusedVariables false
set_option linter.unusedSimpArgs false
open Go.RowKit

/-- The cells behind the address A hold the integers zs of kind K, one behind the other; nothing is asked where zs is empty. -/
def IntsK (K : IntKind) (w : World) (A : Option Addr) (zs : List Int) : Prop :=
  0 < zs.length → ∃ b o, A = some ⟨b, o, none⟩ ∧ ∀ j, j < zs.length → w.cell? ⟨b, o + j, none⟩ = some (.int K (zs.getD j 0))
abbrev Ints (w : World) (A : Option Addr) (zs : List Int) : Prop := IntsK .i64 w A zs

section
variable {K : IntKind} {w w' : World} {A : Option Addr} {zs : List Int}
theorem IntsK.below (h : IntsK K w A zs) (hb : Below w.heap.size w w') : IntsK K w' A zs := fun hn => by
  obtain ⟨b, o, hA, hc⟩ := h hn
  refine ⟨b, o, hA, fun j hj => ?_⟩
  have h0 := hc j hj
  have hlt : b < w.heap.size := World.block_lt_of_cell? w _ h0
  rw [hb.cell (p := ⟨b, o + j, none⟩) hlt]
  exact h0
theorem IntsK.at_ (h : IntsK K w A zs) {k : Nat} (hk : k < zs.length) : ∃ b o, A = some ⟨b, o, none⟩ ∧ b < w.heap.size ∧ w.cell? ⟨b, o + k, none⟩ = some (.int K (zs.getD k 0)) := by
  obtain ⟨b, o, hA, hc⟩ := h (by omega)
  exact ⟨b, o, hA, World.block_lt_of_cell? w _ (hc k hk), hc k hk⟩
theorem IntsK.elem (h : IntsK K w A zs) {k : Nat} (hk : k < zs.length) : ∃ b o z, A = some ⟨b, o, none⟩ ∧ zs[k]? = some z ∧ b < w.heap.size ∧ w.cell? ⟨b, o + k, none⟩ = some (.int K z) := by
  obtain ⟨b, o, hA, hb, hc⟩ := h.at_ hk
  exact ⟨b, o, zs[k], hA, by simp [hk], hb, by simpa [List.getD_eq_getElem?_getD, hk] using hc⟩
theorem IntsK.nil : IntsK K w A [] := fun h => absurd h (by simp)
theorem IntsK.drew (h : IntsK K w A zs) : IntsK K w.drew A zs := h
theorem IntsK.drewN (h : IntsK K w A zs) (n : Nat) : IntsK K (w.drewN n) A zs := h
theorem IntsK.alloc (h : IntsK K w A zs) (o : Obj) : IntsK K (w.alloc o) A zs := h.below ((Below.refl _ _).alloc (Nat.le_refl _) o)
end

/-- What is known of a slice that came in: elements of 'size' cells each, all of them integers of kind K. -/
def ArgInts (K : IntKind) (w : World) (a : Option Addr) (len cap size : Nat) (zs : List Int) : Prop :=
  len ≤ cap ∧ cap ≤ maxLen ∧ zs.length = len * size ∧ (∀ z ∈ zs, (Lit.int K z).wf = true) ∧ IntsK K w a zs
theorem ArgInts.nil {K : IntKind} {w : World} {size : Nat} : ArgInts K w none 0 0 size [] := ⟨Nat.le_refl _, Nat.zero_le _, by simp, by simp, IntsK.nil⟩
theorem add_plain' (b o i : Nat) : (⟨b, o, none⟩ : Addr).add i = ⟨b, o + i, none⟩ := by unfold Addr.add; split <;> simp_all
theorem ArgInts.of_open {K : IntKind} {w : World} {x : Addr} {len cap : Nat} {zs : List Int} (hl : len ≤ cap) (hm : cap ≤ maxLen) (hz : zs.length = cap)
    (hcell : ∀ i, i < zs.length → w.cell? (x.add i) = some (.int K (zs.getD i 0))) (hwz : ∀ n ∈ zs, (Lit.int K n).wf = true) : ArgInts K w (some x) len cap 1 (zs.take len) := by
  refine ⟨hl, hm, by simp; omega, fun z hz' => hwz z (List.mem_of_mem_take hz'), fun hn => ?_⟩
  have hlz : (zs.take len).length ≤ len := List.length_take_le _ _
  have hpos : 0 < zs.length := by have := List.length_take_le' len zs; omega
  obtain ⟨b, o, spot⟩ := x
  have h0 := hcell 0 hpos
  have hspot : spot = none := by simpa [Addr.add] using World.cell?_spot h0
  subst hspot
  refine ⟨b, o, rfl, fun j hj => ?_⟩
  have hjl : j < len := by omega
  have hjz : j < zs.length := by have := List.length_take_le' len zs; omega
  have h1 := hcell j hjz
  rw [add_plain'] at h1
  rw [h1]
  simp [List.getD_eq_getElem?_getD, List.getElem?_take, hjl]

theorem below_drewN {B : Nat} {a w : World} (h : Below B a w) (n : Nat) : Below B a (w.drewN n) := ⟨h.os, h.tape, h.output, h.size, h.block⟩

/-- w' is w with new blocks: whatever stood in w stands there still. -/
def New (w w' : World) : Prop := Below w.heap.size w w'
theorem New.bel {w w' : World} (h : New w w') : Below w.heap.size w w' := h
theorem New.refl (w : World) : New w w := Below.refl _ _
theorem New.alloc {a w : World} (h : New a w) (o : Obj) : New a (w.alloc o) := Below.alloc h (Below.size h) o
theorem New.drew {a w : World} (h : New a w) : New a w.drew := Below.drew h
theorem New.drewN {a w : World} (h : New a w) (n : Nat) : New a (w.drewN n) := below_drewN h n
theorem New.trans {a b c : World} (h : New a b) (k : New b c) : New a c := Below.trans h (Below.mono k (Below.size h))
theorem New.setCell {a w : World} (h : New a w) {p : Addr} (hp : a.heap.size ≤ p.block) (u : Value) : New a (w.setCell p u) := Below.setCell h hp u
theorem New.lts {w w' : World} (h : New w w') (b : Nat) (hb : b < w.heap.size) : b < w'.heap.size := Nat.lt_of_lt_of_le hb (Below.size h)
theorem New.le {w w' : World} (h : New w w') : w.heap.size ≤ w'.heap.size := Below.size h
/-- A cell of a block that is new in w; the same for its mark. -/
def newCell (w : World) (b o : Nat) : Option Value := w.cell? ⟨b, o, none⟩
def newFrozen (w : World) (b o : Nat) : Bool := w.frozen? ⟨b, o, none⟩
theorem New.cells {W w1 : World} (hb : New W w1) (b o : Nat) : w1.cell? ⟨b, o, none⟩ = if b < W.heap.size then W.cell? ⟨b, o, none⟩ else newCell w1 b o := by
  split
  · exact Below.cell hb (p := ⟨b, o, none⟩) ‹_›
  · rfl
theorem New.marks {W w1 : World} (hb : New W w1) (b o : Nat) : w1.frozen? ⟨b, o, none⟩ = if b < W.heap.size then W.frozen? ⟨b, o, none⟩ else newFrozen w1 b o := by
  split
  · exact Below.frozen hb (p := ⟨b, o, none⟩) ‹_›
  · rfl
theorem New.grown {a w w' : World} {row : Option Nat} (h : New a w) (hg : w.grownBy w' row) (hr : ∀ k, row = some k → a.heap.size ≤ k) : New a w' := Below.grown h hg (Below.size h) hr
theorem IntsK.new {K : IntKind} {w w' : World} {A : Option Addr} {zs : List Int} (h : IntsK K w A zs) (hb : New w w') : IntsK K w' A zs := h.below hb

theorem ret_int {k : IntKind} {a b : Int} (h : a = b) : Ending.returned (.int k a) = .returned (.int k b) := by rw [h]
theorem ret_bool {a b : Bool} (h : a = b) : Ending.returned (.bool a) = .returned (.bool b) := by rw [h]


/-- A row of the call's own: n elements of size cells, all of them integers. -/
def Own (E : TypeId) (size B : Nat) (w : World) (A : Option Addr) (n c : Nat) (zs : List Int) : Prop := w.ownsRow B E size (.slice A n c) n (zs.map (Value.int .i64))
section
variable {E : TypeId} {size B n c : Nat} {w w' : World} {A : Option Addr} {zs : List Int}
theorem Own.len (h : Own E size B w A n c zs) : zs.length = n * size := by simpa using h.1
theorem Own.ints (h : Own E size B w A n c zs) : Ints w A zs := by
  intro hn
  rcases h.2 with ⟨h1, h2⟩ | ⟨g, cap, cur, hv, _⟩
  · have := h.len
    subst h2
    simp at this
    simp [this] at hn
  · obtain ⟨rfl, _⟩ : A = some ⟨g, 0, none⟩ ∧ c = cap := by simpa using hv
    refine ⟨g, 0, rfl, fun j hj => ?_⟩
    have := h.cells (g := g) rfl j (.int .i64 (zs.getD j 0)) (by simp [hj, List.getD_eq_getElem?_getD])
    rwa [add_plain'] at this
theorem Own.new (h : Own E size B w A n c zs) (hb : New w w') : Own E size B w' A n c zs :=
  World.ownsRow.kept (row := none) h ⟨hb.os, hb.tape, hb.output, hb.size, fun k hk _ => hb.block k hk⟩ (by cases hv : Value.ownBlock (.slice A n c) <;> simp)
theorem Own.mono (h : Own E size B w A n c zs) {B' : Nat} (hB : B' ≤ B) : Own E size B' w A n c zs := by
  refine ⟨h.1, ?_⟩
  rcases h.2 with h' | ⟨g, cap, cur, hv, hg, r⟩
  · exact .inl h'
  · exact .inr ⟨g, cap, cur, hv, Nat.le_trans hB hg, r⟩
end

/-- What a function leaves that hands back a new row of integers. -/
def RetRow (E : TypeId) (size : Nat) (w : World) (n : Nat) (zs : List Int) (e : Ending) (w' : World) : Prop := ∃ A c, e = .returned (.slice A n c) ∧ n ≤ c ∧ c ≤ maxLen ∧ Own E size w.heap.size w' A n c zs ∧ New w w'

theorem Own.at_ {E : TypeId} {size B n c : Nat} {w : World} {A : Option Addr} {zs : List Int} (h : Own E size B w A n c zs) (hn : 0 < zs.length) :
    ∃ g, A = some ⟨g, 0, none⟩ ∧ B ≤ g ∧ g < w.heap.size ∧ n ≤ c ∧ (∀ j, j < zs.length → w.cell? ⟨g, j, none⟩ = some (.int .i64 (zs.getD j 0))) ∧ ∀ j, w.frozen? ⟨g, j, none⟩ = false := by
  obtain ⟨b, o, hA, hc⟩ := h.ints hn
  have h' := h
  rcases h.2 with ⟨h1, h2⟩ | ⟨g, cap, cur, hv, hg, hh, hnc, _⟩
  · have := h.len
    subst h2
    simp at this
    simp [this] at hn
  · obtain ⟨hA', rfl⟩ : A = some ⟨g, 0, none⟩ ∧ c = cap := by simpa using hv
    rw [hA] at hA'
    obtain ⟨rfl, rfl⟩ : b = g ∧ o = 0 := by simpa using hA'
    refine ⟨b, hA, hg, (Array.getElem?_eq_some_iff.1 hh).1, hnc, fun j hj => by simpa using hc j hj, fun j => ?_⟩
    rw [hA] at h'
    exact World.ownsRow.frozenAt h' j
/-- A store into a row of the call's own. -/
theorem Own.set_ {E : TypeId} {size B n c g : Nat} {w : World} {zs : List Int} (h : Own E size B w (some ⟨g, 0, none⟩) n c zs) (j : Nat) (z : Int) : Own E size B (w.setCell ⟨g, j, none⟩ (.int .i64 z)) (some ⟨g, 0, none⟩) n c (zs.set j z) := by
  have := (World.ownsRow.stored h j (.int .i64 z)).1
  unfold Own
  rwa [List.map_set]

/-- A literal slice of integers, just laid. -/
theorem Ints.built (w : World) (T : TypeId) (zs : List Int) : Ints (w.alloc (.cells (zs.map (Value.int .i64)).toArray T)) (some ⟨w.heap.size, 0, none⟩) zs := by
  intro _
  refine ⟨_, 0, rfl, fun j hj => ?_⟩
  rw [cell_of_row _ _ _ _ _ _ (heap_alloc_new w _)]
  simp [hj, List.getD_eq_getElem?_getD]

theorem quiet_left {P : Program} {f : FuncId} {args : Array Value} {w : World} {n : Nat} {v : Value}
    (h : Calls P f args (w.drewN n) fun e w' => e = .returned v ∧ w.drewN n = w') : Calls P f args (w.drewN n) fun e w'' => e = .returned v ∧ ∃ m, w'' = w.drewN m :=
  h.mono fun _ _ ⟨he, hm⟩ => ⟨he, n, hm.symm⟩
theorem quiet_add_left {P : Program} {f : FuncId} {args : Array Value} {w : World} {a n : Nat} {v : Value}
    (h : Calls P f args (w.drewN (a + n)) fun e w' => e = .returned v ∧ w.drewN (a + n) = w') :
    Calls P f args (w.drewN (a + n)) fun e w'' => e = .returned v ∧ ∃ m, w'' = w.drewN (a + m) :=
  h.mono fun _ _ ⟨he, hm⟩ => ⟨he, n, hm.symm⟩

theorem all_succ {P : Nat → Prop} {k : Nat} (h : ∀ j, j < k → P j) (hk : P k) : ∀ j, j < k + 1 → P j := fun j hj => by
  rcases Nat.lt_or_ge j k with h' | h'
  · exact h j h'
  · have e : j = k := by omega
    rw [e]
    exact hk

end Go.Proofs.Ytbnehcaallehbaa
