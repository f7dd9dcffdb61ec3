/- Regions that draw their order and whose callees lay blocks: one walk, in the order of the text, where each value is fixed. -/
import Derived.Lib.QuietBelow
import Derived.Test.YtbnehcaallehbaaBase
import Derived.Test.YtbnehcaallehbaaDraw
namespace Go.Proofs.Ytbnehcaallehbaa
set_option linter.unusedVariables false
set_option linter.unusedSimpArgs false
open Go.RowKit Go.Sort

/-- A goal that is not looked into. -/
structure Shut (p : Prop) : Prop where
  out : p
theorem gr_new (w : World) (d : Nat) (os : Array Obj) : New w (grow (redrawn w d) os) := below_regrown w d os
theorem gr_cells (w : World) (d : Nat) (os : Array Obj) (b o : Nat) : (grow (redrawn w d) os).cell? ⟨b, o, none⟩ = if b < w.heap.size then w.cell? ⟨b, o, none⟩ else newCell (grow (redrawn w d) os) b o := New.cells (gr_new w d os) b o
theorem gr_call {P : Program} {f : FuncId} {args : Array Value} {w : World} {d : Nat} {os : Array Obj} {v : Value}
    (h : Calls P f args (grow (redrawn w d) os) fun e w' => e = .returned v ∧ New (grow (redrawn w d) os) w') : Calls P f args (grow (redrawn w d) os) fun e w'' => e = .returned v ∧ ∃ p : Regrown, w'' = grow (redrawn w p.d) p.os :=
  Calls.regrown_of h
theorem gr_same {P : Program} {f : FuncId} {args : Array Value} {w : World} {d : Nat} {os : Array Obj} {v : Value}
    (h : Calls P f args (grow (redrawn w d) os) fun e w' => e = .returned v ∧ grow (redrawn w d) os = w') : Calls P f args (grow (redrawn w d) os) fun e w'' => e = .returned v ∧ ∃ p : Regrown, w'' = grow (redrawn w p.d) p.os :=
  gr_call (h.mono fun _ _ ⟨he, hw⟩ => ⟨he, by rw [← hw]; exact New.refl _⟩)
theorem wp_region_qb {P : Program} {id : Nat} {Q : Exit → Act → World → Prop} {a : Act} {w : World} {l : List Oper} (hm : P.follows .mixedOrders = true) (hB : Region.lexB .any l.toArray = true)
    (h : wpQuiet P l.toArray (fun w' => ∃ p : Regrown, w' = grow (redrawn w p.d) p.os) (fun a' => ∀ w', New w w' → Q .normal a' w') l a) : (Code.region id l.toArray true).wp P Q a w := by
  refine wp_region_quiet_below hm hB ?_
  have e : (fun a' => ∀ w', New w w' → Q .normal a' w') = (fun a' => ∀ w', (∃ p : Regrown, w' = grow (redrawn w p.d) p.os) → Q .normal a' w') := by
    funext a'
    refine propext ⟨fun h w' ⟨p, hp⟩ => h w' (by rw [hp]; exact gr_new _ _ _), fun h w' hw' => h w' (regrown_of_below hw')⟩
  rw [← e]
  exact h

/-! Regions of a law's own in which a value is only known by a fact. -/
def LrI (w0 : World) (_ : Nat) (w : World) : Prop := New w0 w
def KeptN (P : Value → World → Prop) : Prop := ∀ v w w', New w w' → P v w → P v w'
theorem keptN_val (x : Value) : KeptN (pVal x) := fun _ _ _ _ h => h
def pRow (n : Nat) (zs : List Int) (v : Value) (w : World) : Prop := ∃ A c, v = .slice A n c ∧ n ≤ c ∧ c ≤ maxLen ∧ Ints w A zs
theorem keptN_row (n : Nat) (zs : List Int) : KeptN (pRow n zs) := fun _ _ _ hb ⟨A, c, h1, h2, h3, h4⟩ => ⟨A, c, h1, h2, h3, h4.new hb⟩
theorem factAt_keptN {ks : List (Value → World → Prop)} (h : ∀ P ∈ ks, KeptN P) (i : Nat) (v : Value) (w w' : World) (hS : New w w') (hf : factAt ks i v w) : factAt ks i v w' := by
  unfold factAt at *
  rw [List.getD_eq_getElem?_getD] at *
  rcases hk : ks[i]? with _ | P
  · simp
  · simp only [hk, Option.getD_some] at hf ⊢
    exact h P (List.mem_of_getElem? hk) v w w' hS hf
end Go.Proofs.Ytbnehcaallehbaa
