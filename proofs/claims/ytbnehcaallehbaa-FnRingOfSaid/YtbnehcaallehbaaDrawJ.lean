/- The draw of a key and a number of buckets. -/
import Derived.Test.YtbnehcaallehbaaDrawN
import Derived.Test.YtbnehcaallehbaaRegion
namespace Go.Proofs.Ytbnehcaallehbaa
set_option linter.unusedVariables false
set_option linter.unusedSimpArgs false
open Go.RowKit

/-- The invariant of a region whose operations read on by four numbers at most. -/
def DrawI4 (w0 : World) (R : Nat) (A : Option Addr) (n c : Nat) (zs : List Int) (p m : Nat) (k : Nat) (w : World) : Prop := DrawI w0 R A n c zs p m (4 * k) w
theorem DrawI4.same {w0 w w' : World} {R : Nat} {A : Option Addr} {n c : Nat} {zs : List Int} {p m k : Nat} (h : DrawI4 w0 R A n c zs p m (k + 1) w) (hb : New w w') : DrawI4 w0 R A n c zs p m k w' := by
  obtain ⟨q, h1, h2, h3, h4⟩ := h
  exact ⟨q, h1, by omega, h3.new hb, gb_new h4 hb⟩
theorem DrawI4.next {w0 w w' : World} {R : Nat} {A : Option Addr} {n c : Nat} {zs : List Int} {p m k q : Nat} (h1 : p ≤ q) (h2 : q + 4 * (k + 1) ≤ p + m) (h4 : w0.grownBy w (some R)) (h : RdAt w' R A n c zs (q + 1)) (hg : w.grownBy w' (some R)) : DrawI4 w0 R A n c zs p m k w' :=
  ⟨q + 1, by omega, by omega, h, gb_trans h4 hg⟩
theorem DrawI4.lt {w0 w : World} {R : Nat} {A : Option Addr} {n c : Nat} {zs : List Int} {p m k : Nat} (h : DrawI4 w0 R A n c zs p m k w) : R < w.heap.size := by obtain ⟨_, _, _, h, _⟩ := h; exact h.lt
theorem DrawI4.le {w0 w : World} {R : Nat} {A : Option Addr} {n c : Nat} {zs : List Int} {p m k : Nat} (h : DrawI4 w0 R A n c zs p m k w) : w0.heap.size ≤ w.heap.size := by obtain ⟨_, _, _, _, h⟩ := h; exact h.size
end Go.Proofs.Ytbnehcaallehbaa
