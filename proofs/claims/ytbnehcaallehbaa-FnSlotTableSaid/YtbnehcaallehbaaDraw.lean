/- Draws: the reader opened, a flow, a pool, a key. -/
import Derived.Test.YtbnehcaallehbaaRd
import Derived.Test.YtbnehcaallehbaaRegion
namespace Go.Proofs.Ytbnehcaallehbaa
set_option linter.unusedVariables false
set_option linter.unusedSimpArgs false
open Go.RowKit

section
variable {a b c w w' : World} {R : Nat}
theorem gb_trans (h : a.grownBy b (some R)) (k : b.grownBy c (some R)) : a.grownBy c (some R) :=
  ⟨k.os.trans h.os, k.tape.trans h.tape, k.output.trans h.output, Nat.le_trans h.size k.size, fun i hi hn => (k.block i (Nat.lt_of_lt_of_le hi h.size) hn).trans (h.block i hi hn)⟩
theorem gb_refl (w : World) (R : Nat) : w.grownBy w (some R) := World.grownBy.refl w _
theorem gb_new (h : a.grownBy b (some R)) (k : New b c) : a.grownBy c (some R) :=
  ⟨k.os.trans h.os, k.tape.trans h.tape, k.output.trans h.output, Nat.le_trans h.size k.size, fun i hi hn => (k.block i (Nat.lt_of_lt_of_le hi h.size)).trans (h.block i hi hn)⟩
theorem new_gb (h : New a b) (k : b.grownBy c (some R)) (hR : a.heap.size ≤ R) : New a c :=
  ⟨k.os.trans h.os, k.tape.trans h.tape, k.output.trans h.output, Nat.le_trans h.size k.size, fun i hi => (k.block i (Nat.lt_of_lt_of_le hi h.size) (by simp; omega)).trans (h.block i hi)⟩
end

/-- What a function leaves that reads on by at most d numbers. -/
def ReadRet (d : Nat) (w : World) (R : Nat) (A : Option Addr) (n c : Nat) (zs : List Int) (p : Nat) (V : Value → World → Prop) (e : Ending) (w' : World) : Prop :=
  ∃ v q, e = .returned v ∧ V v w' ∧ p ≤ q ∧ q ≤ p + d ∧ RdAt w' R A n c zs q ∧ w.grownBy w' (some R)

def IsBool (v : Value) (_ : World) : Prop := ∃ b, v = .bool b
theorem odd_any (R : Nat) (A : Option Addr) (n c : Nat) (zs : List Int) (p : Nat) (N : Int) (w : World) (h : RdAt w R A n c zs p) (hp : p ≤ 1000000) (hN0 : 0 ≤ N) (hN : N ≤ 1000000) :
    Calls Try.prog 94 #[.pointer (some ⟨R, 0, none⟩), .int .i64 N] w (ReadRet 1 w R A n c zs p IsBool) := by
  by_cases h0 : 0 < N
  · go_enter Try.func94, Try.ntmps94
    go_wp2_with fail
    refine (pick_any R A n c zs p N _ h hp hN).mono ?_
    rintro e w1 ⟨x, rfl, x0, x1, h1, g1⟩
    go_wp2_with fail
    go_ret
    exact ⟨_, p + 1, rfl, ⟨_, rfl⟩, by omega, by omega, h1, g1⟩
  · obtain rfl : N = 0 := by omega
    go_enter Try.func94, Try.ntmps94
    go_wp2_with fail
    go_ret
    exact ⟨_, p, rfl, ⟨_, rfl⟩, by omega, by omega, h, gb_refl _ _⟩

theorem take_bytes {w : World} {A : Option Addr} {zs : List Int} (h : IntsK .u8 w A zs) (k : Nat) : IntsK .u8 w A (zs.take k) := by
  intro hn
  obtain ⟨b, o, hA, hc⟩ := h (by simp at hn; omega)
  refine ⟨b, o, hA, fun j hj => ?_⟩
  have hjk : j < k ∧ j < zs.length := by simp at hj; omega
  rw [hc j hjk.2]
  simp [List.getD_eq_getElem?_getD, List.getElem?_take, hjk.1]

/-- What l20Open leaves: the reader at the heap's end, at its beginning. -/
def Opened (w : World) (A : Option Addr) (n c : Nat) (zs : List Int) (e : Ending) (w' : World) : Prop :=
  e = .returned (.pointer (some ⟨w.heap.size, 0, none⟩)) ∧ RdAt w' w.heap.size A (min n 2000) c (zs.take 2000) 0 ∧ New w w'
theorem open_any (A : Option Addr) (n c : Nat) (zs : List Int) (w : World) (hnc : n ≤ c) (hm : n ≤ maxLen) (hn : zs.length = n) (hz : ∀ z ∈ zs, 0 ≤ z ∧ z ≤ 255) (h : IntsK .u8 w A zs) :
    Calls Try.prog 61 #[.slice A n c] w (Opened w A n c zs) := by
  unfold maxLen at hm
  have hnew : RdAt (w.alloc (.cells #[.slice A (min n 2000) c, .int .i64 0] 101)) w.heap.size A (min n 2000) c (zs.take 2000) 0 :=
    ⟨heap_alloc_new w _, (take_bytes h 2000).alloc _, by simp [hn, Nat.min_comm], Nat.min_le_right _ _, fun z hz' => hz z (List.mem_of_mem_take hz'), fun b o hl e => by
      obtain ⟨b', o', z, hA, _, hb, _⟩ := h.elem (k := 0) (by simp at hl; omega)
      rw [hA] at e
      obtain ⟨rfl, rfl⟩ : b' = b ∧ o' = o := by simpa using e
      exact hb⟩
  have HN := Lib.hid hnew
  clear hnew
  by_cases hbig : 2000 < n
  · obtain ⟨b, o, z, rfl, _, _, _⟩ := h.elem (k := 0) (by omega)
    have HE := Lib.hid (show min n 2000 = 2000 by omega)
    go_enter Try.func61, Try.ntmps61
    go_wp2_with fail
    go_ret
    refine ⟨rfl, ?_, (by repeat (first | with_reducible assumption | with_reducible exact New.refl _ | with_reducible refine New.alloc ?_ _ | with_reducible refine New.drew ?_ | with_reducible refine New.drewN ?_ _ | refine New.setCell ?_ (by first | (simp; done) | omega | (simp; omega)) _ | with_reducible refine New.trans ?_ (by with_reducible assumption)))⟩
    have := HN.out
    rw [HE.out] at this ⊢
    exact this
  · have HE := Lib.hid (show min n 2000 = n by omega)
    go_enter Try.func61, Try.ntmps61
    go_wp2_with fail
    go_ret
    refine ⟨rfl, ?_, (by repeat (first | with_reducible assumption | with_reducible exact New.refl _ | with_reducible refine New.alloc ?_ _ | with_reducible refine New.drew ?_ | with_reducible refine New.drewN ?_ _ | refine New.setCell ?_ (by first | (simp; done) | omega | (simp; omega)) _ | with_reducible refine New.trans ?_ (by with_reducible assumption)))⟩
    have := HN.out
    rw [HE.out] at this ⊢
    exact this

/-! Facts on the values of a drawing region. -/
def PInt (lo hi : Int) (v : Value) : Prop := ∃ z, v = .int .i64 z ∧ lo ≤ z ∧ z ≤ hi
def PSl (R n : Nat) (lo hi : Int) (v : Value) (w : World) : Prop := ∃ g, v = .slice (some ⟨g, 0, none⟩) n n ∧ g ≠ R ∧ g < w.heap.size ∧ ∀ j, j < n → ∃ z, w.cell? ⟨g, j, none⟩ = some (.int .i64 z) ∧ lo ≤ z ∧ z ≤ hi
def PAd (R : Nat) (lo hi : Int) (v : Value) (w : World) : Prop := ∃ g j z, v = .pointer (some ⟨g, j, none⟩) ∧ g ≠ R ∧ g < w.heap.size ∧ w.cell? ⟨g, j, none⟩ = some (.int .i64 z) ∧ lo ≤ z ∧ z ≤ hi
theorem PSl.kept {R n : Nat} {lo hi : Int} {v : Value} {w w' : World} (h : PSl R n lo hi v w) (hg : w.grownBy w' (some R)) : PSl R n lo hi v w' := by
  obtain ⟨g, rfl, hne, hlt, hc⟩ := h
  refine ⟨g, rfl, hne, Nat.lt_of_lt_of_le hlt hg.size, fun j hj => ?_⟩
  obtain ⟨z, hz, hb⟩ := hc j hj
  exact ⟨z, hg.cell hz (by simpa using hne), hb⟩
theorem PAd.kept {R : Nat} {lo hi : Int} {v : Value} {w w' : World} (h : PAd R lo hi v w) (hg : w.grownBy w' (some R)) : PAd R lo hi v w' := by
  obtain ⟨g, j, z, rfl, hne, hlt, hc, hb⟩ := h
  exact ⟨g, j, z, rfl, hne, Nat.lt_of_lt_of_le hlt hg.size, hg.cell hc (by simpa using hne), hb⟩

/-- The invariant while a drawing region reads: k operations are still to come. -/
def DrawI (w0 : World) (R : Nat) (A : Option Addr) (n c : Nat) (zs : List Int) (p m : Nat) (k : Nat) (w : World) : Prop := ∃ q, p ≤ q ∧ q + k ≤ p + m ∧ RdAt w R A n c zs q ∧ w0.grownBy w (some R)
def DrawS (R : Nat) (w w' : World) : Prop := w.grownBy w' (some R)
theorem DrawI.same {w0 w w' : World} {R : Nat} {A : Option Addr} {n c : Nat} {zs : List Int} {p m k : Nat} (h : DrawI w0 R A n c zs p m (k + 1) w) (hb : New w w') : DrawI w0 R A n c zs p m k w' := by
  obtain ⟨q, h1, h2, h3, h4⟩ := h
  exact ⟨q, h1, by omega, h3.new hb, gb_new h4 hb⟩
theorem DrawI.next {w0 w w' : World} {R : Nat} {A : Option Addr} {n c : Nat} {zs : List Int} {p m k q : Nat} (h1 : p ≤ q) (h2 : q + (k + 1) ≤ p + m) (h4 : w0.grownBy w (some R)) (h : RdAt w' R A n c zs (q + 1)) (hg : w.grownBy w' (some R)) : DrawI w0 R A n c zs p m k w' :=
  ⟨q + 1, by omega, by omega, h, gb_trans h4 hg⟩
theorem new_gbR {w w' : World} (R : Nat) (h : New w w') : w.grownBy w' (some R) := gb_new (gb_refl w R) h

abbrev pVal (x : Value) (v : Value) (_ : World) : Prop := v = x
def pInt (lo hi : Int) (v : Value) (_ : World) : Prop := PInt lo hi v
def pSl (R n : Nat) (lo hi : Int) (v : Value) (w : World) : Prop := PSl R n lo hi v w
def pAd (R : Nat) (lo hi : Int) (v : Value) (w : World) : Prop := PAd R lo hi v w
def pAgg3 (lo hi : Int) (v : Value) (_ : World) : Prop := ∃ a b c : Int, v = .agg #[.int .i64 a, .int .i64 b, .int .i64 c] ∧ lo ≤ a ∧ a ≤ hi ∧ lo ≤ b ∧ b ≤ hi ∧ lo ≤ c ∧ c ≤ hi
def pAgg5 (lo hi : Int) (v : Value) (_ : World) : Prop := ∃ a b c d k : Int, v = .agg #[.int .i64 a, .int .i64 b, .int .i64 c, .int .i64 d, .int .i64 k] ∧ lo ≤ a ∧ a ≤ hi ∧ lo ≤ b ∧ b ≤ hi ∧ lo ≤ c ∧ c ≤ hi ∧ lo ≤ d ∧ d ≤ hi ∧ lo ≤ k ∧ k ≤ hi
def pBlk (R : Nat) (W : World) (o : Obj) (v : Value) (w : World) : Prop := ∃ g, v = .pointer (some ⟨g, 0, none⟩) ∧ g ≠ R ∧ W.heap.size ≤ g ∧ w.heap[g]? = some o
def Kept (R : Nat) (P : Value → World → Prop) : Prop := ∀ v w w', w.grownBy w' (some R) → P v w → P v w'
theorem kept_val (R : Nat) (x : Value) : Kept R (pVal x) := fun _ _ _ _ h => h
theorem kept_int (R : Nat) (lo hi : Int) : Kept R (pInt lo hi) := fun _ _ _ _ h => h
theorem kept_sl (R n : Nat) (lo hi : Int) : Kept R (pSl R n lo hi) := fun _ _ _ hg h => PSl.kept h hg
theorem kept_ad (R : Nat) (lo hi : Int) : Kept R (pAd R lo hi) := fun _ _ _ hg h => PAd.kept h hg
theorem kept_agg3 (R : Nat) (lo hi : Int) : Kept R (pAgg3 lo hi) := fun _ _ _ _ h => h
theorem kept_agg5 (R : Nat) (lo hi : Int) : Kept R (pAgg5 lo hi) := fun _ _ _ _ h => h
theorem kept_blk (R : Nat) (W : World) (o : Obj) : Kept R (pBlk R W o) := by
  intro v w w' hg h
  obtain ⟨g, hv, hne, hle, ho⟩ := h
  exact ⟨g, hv, hne, hle, (hg.block g (Array.getElem?_eq_some_iff.1 ho).1 (by simpa using hne)).trans ho⟩
/-- The facts of a region, by the operation's place. -/
def factAt (ks : List (Value → World → Prop)) (i : Nat) (v : Value) (w : World) : Prop := ks.getD i (fun _ _ => True) v w
theorem factAt_kept {R : Nat} {ks : List (Value → World → Prop)} (h : ∀ P ∈ ks, Kept R P) (i : Nat) (v : Value) (w w' : World) (hS : DrawS R w w') (hf : factAt ks i v w) : factAt ks i v w' := by
  unfold factAt at *
  rcases Nat.lt_or_ge i ks.length with hi | hi
  · rw [List.getD_eq_getElem?_getD, List.getElem?_eq_getElem hi] at hf ⊢
    exact h _ (List.getElem_mem hi) v w w' hS hf
  · rw [List.getD_eq_getElem?_getD, List.getElem?_eq_none hi]
    trivial
theorem PSl.built {R : Nat} {lo hi : Int} {w : World} (T : TypeId) (zs : List Int) (hR : R < w.heap.size) (hz : ∀ z ∈ zs, lo ≤ z ∧ z ≤ hi) :
    PSl R zs.length lo hi (.slice (some ⟨w.heap.size, 0, none⟩) zs.length zs.length) (w.alloc (.cells (zs.map (Value.int .i64)).toArray T)) := by
  refine ⟨w.heap.size, rfl, by omega, by simp, fun j hj => ⟨zs[j], ?_, hz _ (List.getElem_mem hj)⟩⟩
  rw [cell_of_row _ _ _ _ _ _ (heap_alloc_new w _)]
  simp [hj]
theorem DrawI.lt {w0 w : World} {R : Nat} {A : Option Addr} {n c : Nat} {zs : List Int} {p m k : Nat} (h : DrawI w0 R A n c zs p m k w) : R < w.heap.size := by obtain ⟨_, _, _, h, _⟩ := h; exact h.lt
theorem DrawI.le {w0 w : World} {R : Nat} {A : Option Addr} {n c : Nat} {zs : List Int} {p m k : Nat} (h : DrawI w0 R A n c zs p m k w) : w0.heap.size ≤ w.heap.size := by obtain ⟨_, _, _, _, h⟩ := h; exact h.size

theorem cells5 {w : World} {g : Nat} {T : TypeId} {x0 x1 x2 x3 x4 : Value} (h : w.heap[g]? = some (.cells #[x0, x1, x2, x3, x4] T (0, 0))) :
    w.cell? ⟨g, 0, none⟩ = some x0 ∧ w.cell? ⟨g, 1, none⟩ = some x1 ∧ w.cell? ⟨g, 2, none⟩ = some x2 ∧ w.cell? ⟨g, 3, none⟩ = some x3 ∧ w.cell? ⟨g, 4, none⟩ = some x4 ∧
    w.frozen? ⟨g, 0, none⟩ = false ∧ w.frozen? ⟨g, 1, none⟩ = false ∧ w.frozen? ⟨g, 2, none⟩ = false ∧ w.frozen? ⟨g, 3, none⟩ = false ∧ w.frozen? ⟨g, 4, none⟩ = false := by
  refine ⟨?_, ?_, ?_, ?_, ?_, ?_, ?_, ?_, ?_, ?_⟩
  all_goals first | (rw [cell_of_row _ _ _ _ _ _ h]; rfl) | exact frozen_of_row _ _ _ _ _ h
theorem gb_set {a w : World} {R : Nat} (h : a.grownBy w (some R)) {p : Addr} (hp : a.heap.size ≤ p.block) (u : Value) : a.grownBy (w.setCell p u) (some R) :=
  ⟨h.os, h.tape, h.output, by simpa [World.setCell] using h.size, fun i hi hn => (Below.heap_setCell _ _ _ _ (by omega)).trans (h.block i hi hn)⟩
theorem RdAt.setNew {w : World} {R : Nat} {A : Option Addr} {n c : Nat} {zs : List Int} {p : Nat} (h : RdAt w R A n c zs p) {a : Addr} (ha : R < a.block) (u : Value) : RdAt (w.setCell a u) R A n c zs p :=
  h.kept (row := some a.block) ⟨rfl, rfl, rfl, by simp [World.setCell], fun k _ hk => Below.heap_setCell _ _ _ _ (fun e => hk (by rw [e]))⟩ (by simp; omega) (fun b o hl e => by
    have := h.2.2.2.2.2 b o hl e
    simp
    omega)
/-- A block that another store leaves alone. -/
theorem blk_set {w : World} {g : Nat} {o : Obj} (h : w.heap[g]? = some o) {a : Addr} (ha : g ≠ a.block) (u : Value) : (w.setCell a u).heap[g]? = some o := (Below.heap_setCell _ _ _ _ ha).trans h
theorem blk_at {w : World} {g : Nat} {cs : Array Value} {T : TypeId} (h : w.heap[g]? = some (.cells cs T (0, 0))) (j : Nat) (u : Value) : (w.setCell ⟨g, j, none⟩ u).heap[g]? = some (.cells (cs.setIfInBounds j u) T (0, 0)) := heap_setCell_same w g j cs T u h
theorem blk_gb {w w' : World} {g R : Nat} {o : Obj} (h : w.heap[g]? = some o) (hg : w.grownBy w' (some R)) (hne : g ≠ R) : w'.heap[g]? = some o := (hg.block g (Array.getElem?_eq_some_iff.1 h).1 (by simpa using hne)).trans h
theorem blk_new {w w' : World} {g : Nat} {o : Obj} (h : w.heap[g]? = some o) (hg : New w w') : w'.heap[g]? = some o := (Below.block hg g (Array.getElem?_eq_some_iff.1 h).1).trans h
theorem blk_lt {w : World} {g : Nat} {o : Obj} (h : w.heap[g]? = some o) : g < w.heap.size := (Array.getElem?_eq_some_iff.1 h).1

def flowF (R : Nat) (W : World) : List (Value → World → Prop) :=
  [pVal (.pointer (some ⟨R, 0, none⟩)),
   pInt 0 3,
   pVal (.pointer (some ⟨R, 0, none⟩)),
   pInt 0 255,
   pSl R 3 (0) 443,
   pVal (.pointer (some ⟨R, 0, none⟩)),
   pInt 0 2,
   pAd R (0) 443,
   pInt (0) 443,
   pVal (.pointer (some ⟨R, 0, none⟩)),
   pInt 0 3,
   pSl R 2 (0) 255,
   pVal (.pointer (some ⟨R, 0, none⟩)),
   pInt 0 5,
   pInt 0 1,
   pAd R (0) 255,
   pInt (0) 255,
   pSl R 2 (80) 999,
   pVal (.pointer (some ⟨R, 0, none⟩)),
   pInt 0 5,
   pInt 0 1,
   pAd R (80) 999,
   pInt (80) 999,
   pVal (.pointer (some ⟨R, 0, none⟩)),
   pInt 0 1,
   pInt (1) 2,
   pAgg5 (0) 999,
   pBlk R W (.cells #[.int .i64 0, .int .i64 0, .int .i64 0, .int .i64 0, .int .i64 0] 48 (0, 0))]
theorem flowF_kept (R : Nat) (W : World) : ∀ P ∈ flowF R W, Kept R P := by
  unfold flowF
  intro P hP
  simp only [List.mem_cons, List.not_mem_nil, or_false] at hP
  rcases hP with rfl | rfl | rfl | rfl | rfl | rfl | rfl | rfl | rfl | rfl | rfl | rfl | rfl | rfl | rfl | rfl | rfl | rfl | rfl | rfl | rfl | rfl | rfl | rfl | rfl | rfl | rfl | rfl
  · exact kept_val _ _
  · exact kept_int _ _ _
  · exact kept_val _ _
  · exact kept_int _ _ _
  · exact kept_sl _ _ _ _
  · exact kept_val _ _
  · exact kept_int _ _ _
  · exact kept_ad _ _ _
  · exact kept_int _ _ _
  · exact kept_val _ _
  · exact kept_int _ _ _
  · exact kept_sl _ _ _ _
  · exact kept_val _ _
  · exact kept_int _ _ _
  · exact kept_int _ _ _
  · exact kept_ad _ _ _
  · exact kept_int _ _ _
  · exact kept_sl _ _ _ _
  · exact kept_val _ _
  · exact kept_int _ _ _
  · exact kept_int _ _ _
  · exact kept_ad _ _ _
  · exact kept_int _ _ _
  · exact kept_val _ _
  · exact kept_int _ _ _
  · exact kept_int _ _ _
  · exact kept_agg5 _ _ _
  · exact kept_blk _ _ _
set_option maxRecDepth 100000 in
set_option maxHeartbeats 1000000 in
theorem l20Flow_any (R : Nat) (A : Option Addr) (n c : Nat) (zs : List Int) (p : Nat) (N : Int) (w : World) (h : RdAt w R A n c zs p) (hp : p ≤ 900000) (hN0 : 0 ≤ N) (hN : N ≤ 1000000) :
    Calls Try.prog 87 #[.pointer (some ⟨R, 0, none⟩), .int .i64 N] w (ReadRet 60 w R A n c zs p (pAgg5 (-1) 1000)) := by
  go_enter Try.func87, Try.ntmps87
  go_wp2_with fail
  have hnew : New w (w.alloc (.cells #[.int .i64 0, .int .i64 0, .int .i64 0, .int .i64 0, .int .i64 0] 48)) := (New.refl w).alloc _
  have hres : (w.alloc (.cells #[.int .i64 0, .int .i64 0, .int .i64 0, .int .i64 0, .int .i64 0] 48)).heap[w.heap.size]? = some (.cells #[.int .i64 0, .int .i64 0, .int .i64 0, .int .i64 0, .int .i64 0] 48 (0, 0)) := heap_alloc_new _ _
  generalize hW : w.alloc (.cells #[.int .i64 0, .int .i64 0, .int .i64 0, .int .i64 0, .int .i64 0] 48) = W at *
  refine wp_region_tail 28 (by kernel_rfl) (by kernel_rfl) (by kernel_rfl) (by decide) (DrawI W R A n c zs p 28) (factAt (flowF R W)) (DrawS R) (factAt_kept (flowF_kept R W)) ⟨p, by omega, by omega, h.new hnew.drew, gb_new (gb_refl _ _) ((New.refl _).drew)⟩ ?_ ?_
  · refine ⟨?_, ?_, ?_, ?_, ?_, ?_, ?_, ?_, ?_, ?_, ?_, ?_, ?_, ?_, ?_, ?_, ?_, ?_, ?_, ?_, ?_, ?_, ?_, ?_, ?_, ?_, ?_, ?_, trivial⟩
    · -- 0
      intro vs k w hI hF
      clear hF
      simp only [fillTo, dstOf, List.getElem?_toArray, List.getElem?_cons_zero, List.getElem?_cons_succ, Option.bind_some, Act.put, List.setIfInBounds_toArray, List.set_cons_zero, List.set_cons_succ]
      go_wp2_with fail
      exact ⟨_, rfl, hI.same (New.refl _), gb_refl _ _, rfl⟩
    · -- 1
      intro vs k w hI hF
      have f0 : pVal (.pointer (some ⟨R, 0, none⟩)) (vs 0) w := hF 0 (by rfl)
      clear hF
      obtain ⟨q, q1, q2, hr, g0⟩ := hI
      unfold pVal at f0
      simp only [fillTo, dstOf, List.getElem?_toArray, List.getElem?_cons_zero, List.getElem?_cons_succ, Option.bind_some, Act.put, List.setIfInBounds_toArray, List.set_cons_zero, List.set_cons_succ, f0]
      clear f0
      go_wp2_with fail
      refine (pick_any R A n c zs q 4 _ hr (by omega) (by omega)).mono ?_
      rintro e w1 ⟨x, rfl, x0, x1, h1, g1⟩
      go_wp2_with fail
      exact ⟨_, rfl, DrawI.next q1 q2 g0 h1 g1, g1, x, rfl, x0, by omega⟩
    · -- 2
      intro vs k w hI hF
      clear hF
      simp only [fillTo, dstOf, List.getElem?_toArray, List.getElem?_cons_zero, List.getElem?_cons_succ, Option.bind_some, Act.put, List.setIfInBounds_toArray, List.set_cons_zero, List.set_cons_succ]
      go_wp2_with fail
      exact ⟨_, rfl, hI.same (New.refl _), gb_refl _ _, rfl⟩
    · -- 3
      intro vs k w hI hF
      have f2 : pVal (.pointer (some ⟨R, 0, none⟩)) (vs 2) w := hF 2 (by rfl)
      clear hF
      obtain ⟨q, q1, q2, hr, g0⟩ := hI
      unfold pVal at f2
      simp only [fillTo, dstOf, List.getElem?_toArray, List.getElem?_cons_zero, List.getElem?_cons_succ, Option.bind_some, Act.put, List.setIfInBounds_toArray, List.set_cons_zero, List.set_cons_succ, f2]
      clear f2
      go_wp2_with fail
      refine (pick_any R A n c zs q 256 _ hr (by omega) (by omega)).mono ?_
      rintro e w1 ⟨x, rfl, x0, x1, h1, g1⟩
      go_wp2_with fail
      exact ⟨_, rfl, DrawI.next q1 q2 g0 h1 g1, g1, x, rfl, x0, by omega⟩
    · -- 4
      intro vs k w hI hF
      have f3 : pInt 0 255 (vs 3) w := hF 3 (by rfl)
      clear hF
      obtain ⟨z3, e3, l3, u3⟩ := f3
      simp only [fillTo, dstOf, List.getElem?_toArray, List.getElem?_cons_zero, List.getElem?_cons_succ, Option.bind_some, Act.put, List.setIfInBounds_toArray, List.set_cons_zero, List.set_cons_succ, e3]
      clear e3
      go_wp2_with fail
      exact ⟨_, rfl, hI.same ((New.refl _).alloc _), new_gbR R ((New.refl _).alloc _), PSl.built _ [80, 443, z3] hI.lt (by first | (simp; done) | (simp; omega))⟩
    · -- 5
      intro vs k w hI hF
      clear hF
      simp only [fillTo, dstOf, List.getElem?_toArray, List.getElem?_cons_zero, List.getElem?_cons_succ, Option.bind_some, Act.put, List.setIfInBounds_toArray, List.set_cons_zero, List.set_cons_succ]
      go_wp2_with fail
      exact ⟨_, rfl, hI.same (New.refl _), gb_refl _ _, rfl⟩
    · -- 6
      intro vs k w hI hF
      have f5 : pVal (.pointer (some ⟨R, 0, none⟩)) (vs 5) w := hF 5 (by rfl)
      clear hF
      obtain ⟨q, q1, q2, hr, g0⟩ := hI
      unfold pVal at f5
      simp only [fillTo, dstOf, List.getElem?_toArray, List.getElem?_cons_zero, List.getElem?_cons_succ, Option.bind_some, Act.put, List.setIfInBounds_toArray, List.set_cons_zero, List.set_cons_succ, f5]
      clear f5
      go_wp2_with fail
      refine (pick_any R A n c zs q 3 _ hr (by omega) (by omega)).mono ?_
      rintro e w1 ⟨x, rfl, x0, x1, h1, g1⟩
      go_wp2_with fail
      exact ⟨_, rfl, DrawI.next q1 q2 g0 h1 g1, g1, x, rfl, x0, by omega⟩
    · -- 7
      intro vs k w hI hF
      have f4 : pSl R 3 (0) 443 (vs 4) w := hF 4 (by rfl)
      have f6 : pInt 0 2 (vs 6) w := hF 6 (by rfl)
      clear hF
      obtain ⟨g, es, hne, hlt, hc⟩ := f4
      obtain ⟨x, ei, x0, x1⟩ := f6
      obtain ⟨y, rfl⟩ := Int.eq_ofNat_of_zero_le x0
      obtain ⟨z, hz, hb⟩ := hc y (by omega)
      have hc' := Lib.hid hc
      clear hc
      simp only [fillTo, dstOf, List.getElem?_toArray, List.getElem?_cons_zero, List.getElem?_cons_succ, Option.bind_some, Act.put, List.setIfInBounds_toArray, List.set_cons_zero, List.set_cons_succ, es, ei]
      clear es ei
      go_wp2_with fail
      exact ⟨_, rfl, hI.same (New.refl _), gb_refl _ _, g, y, z, rfl, hne, hlt, hz, hb⟩
    · -- 8
      intro vs k w hI hF
      have f7 : pAd R (0) 443 (vs 7) w := hF 7 (by rfl)
      clear hF
      obtain ⟨g, j, z, ea, _, _, hc, hb⟩ := f7
      simp only [fillTo, dstOf, List.getElem?_toArray, List.getElem?_cons_zero, List.getElem?_cons_succ, Option.bind_some, Act.put, List.setIfInBounds_toArray, List.set_cons_zero, List.set_cons_succ, ea]
      clear ea
      go_wp2_with fail
      exact ⟨_, rfl, hI.same (New.refl _), gb_refl _ _, z, rfl, hb⟩
    · -- 9
      intro vs k w hI hF
      clear hF
      simp only [fillTo, dstOf, List.getElem?_toArray, List.getElem?_cons_zero, List.getElem?_cons_succ, Option.bind_some, Act.put, List.setIfInBounds_toArray, List.set_cons_zero, List.set_cons_succ]
      go_wp2_with fail
      exact ⟨_, rfl, hI.same (New.refl _), gb_refl _ _, rfl⟩
    · -- 10
      intro vs k w hI hF
      have f9 : pVal (.pointer (some ⟨R, 0, none⟩)) (vs 9) w := hF 9 (by rfl)
      clear hF
      obtain ⟨q, q1, q2, hr, g0⟩ := hI
      unfold pVal at f9
      simp only [fillTo, dstOf, List.getElem?_toArray, List.getElem?_cons_zero, List.getElem?_cons_succ, Option.bind_some, Act.put, List.setIfInBounds_toArray, List.set_cons_zero, List.set_cons_succ, f9]
      clear f9
      go_wp2_with fail
      refine (pick_any R A n c zs q 4 _ hr (by omega) (by omega)).mono ?_
      rintro e w1 ⟨x, rfl, x0, x1, h1, g1⟩
      go_wp2_with fail
      exact ⟨_, rfl, DrawI.next q1 q2 g0 h1 g1, g1, x, rfl, x0, by omega⟩
    · -- 11
      intro vs k w hI hF
      have f10 : pInt 0 3 (vs 10) w := hF 10 (by rfl)
      clear hF
      obtain ⟨z10, e10, l10, u10⟩ := f10
      simp only [fillTo, dstOf, List.getElem?_toArray, List.getElem?_cons_zero, List.getElem?_cons_succ, Option.bind_some, Act.put, List.setIfInBounds_toArray, List.set_cons_zero, List.set_cons_succ, e10]
      clear e10
      go_wp2_with fail
      exact ⟨_, rfl, hI.same ((New.refl _).alloc _), new_gbR R ((New.refl _).alloc _), PSl.built _ [z10, 255] hI.lt (by first | (simp; done) | (simp; omega))⟩
    · -- 12
      intro vs k w hI hF
      clear hF
      simp only [fillTo, dstOf, List.getElem?_toArray, List.getElem?_cons_zero, List.getElem?_cons_succ, Option.bind_some, Act.put, List.setIfInBounds_toArray, List.set_cons_zero, List.set_cons_succ]
      go_wp2_with fail
      exact ⟨_, rfl, hI.same (New.refl _), gb_refl _ _, rfl⟩
    · -- 13
      intro vs k w hI hF
      have f12 : pVal (.pointer (some ⟨R, 0, none⟩)) (vs 12) w := hF 12 (by rfl)
      clear hF
      obtain ⟨q, q1, q2, hr, g0⟩ := hI
      unfold pVal at f12
      simp only [fillTo, dstOf, List.getElem?_toArray, List.getElem?_cons_zero, List.getElem?_cons_succ, Option.bind_some, Act.put, List.setIfInBounds_toArray, List.set_cons_zero, List.set_cons_succ, f12]
      clear f12
      go_wp2_with fail
      refine (pick_any R A n c zs q 6 _ hr (by omega) (by omega)).mono ?_
      rintro e w1 ⟨x, rfl, x0, x1, h1, g1⟩
      go_wp2_with fail
      exact ⟨_, rfl, DrawI.next q1 q2 g0 h1 g1, g1, x, rfl, x0, by omega⟩
    · -- 14
      intro vs k w hI hF
      have f13 : pInt 0 5 (vs 13) w := hF 13 (by rfl)
      clear hF
      obtain ⟨x, ex, x0, x1⟩ := f13
      simp only [fillTo, dstOf, List.getElem?_toArray, List.getElem?_cons_zero, List.getElem?_cons_succ, Option.bind_some, Act.put, List.setIfInBounds_toArray, List.set_cons_zero, List.set_cons_succ, ex]
      clear ex
      go_wp2_with fail
      exact ⟨_, rfl, hI.same (New.refl _), gb_refl _ _, _, rfl, by omega, by omega⟩
    · -- 15
      intro vs k w hI hF
      have f11 : pSl R 2 (0) 255 (vs 11) w := hF 11 (by rfl)
      have f14 : pInt 0 1 (vs 14) w := hF 14 (by rfl)
      clear hF
      obtain ⟨g, es, hne, hlt, hc⟩ := f11
      obtain ⟨x, ei, x0, x1⟩ := f14
      obtain ⟨y, rfl⟩ := Int.eq_ofNat_of_zero_le x0
      obtain ⟨z, hz, hb⟩ := hc y (by omega)
      have hc' := Lib.hid hc
      clear hc
      simp only [fillTo, dstOf, List.getElem?_toArray, List.getElem?_cons_zero, List.getElem?_cons_succ, Option.bind_some, Act.put, List.setIfInBounds_toArray, List.set_cons_zero, List.set_cons_succ, es, ei]
      clear es ei
      go_wp2_with fail
      exact ⟨_, rfl, hI.same (New.refl _), gb_refl _ _, g, y, z, rfl, hne, hlt, hz, hb⟩
    · -- 16
      intro vs k w hI hF
      have f15 : pAd R (0) 255 (vs 15) w := hF 15 (by rfl)
      clear hF
      obtain ⟨g, j, z, ea, _, _, hc, hb⟩ := f15
      simp only [fillTo, dstOf, List.getElem?_toArray, List.getElem?_cons_zero, List.getElem?_cons_succ, Option.bind_some, Act.put, List.setIfInBounds_toArray, List.set_cons_zero, List.set_cons_succ, ea]
      clear ea
      go_wp2_with fail
      exact ⟨_, rfl, hI.same (New.refl _), gb_refl _ _, z, rfl, hb⟩
    · -- 17
      intro vs k w hI hF
      clear hF
      simp only [fillTo, dstOf, List.getElem?_toArray, List.getElem?_cons_zero, List.getElem?_cons_succ, Option.bind_some, Act.put, List.setIfInBounds_toArray, List.set_cons_zero, List.set_cons_succ]
      go_wp2_with fail
      exact ⟨_, rfl, hI.same ((New.refl _).alloc _), new_gbR R ((New.refl _).alloc _), PSl.built _ [80, 999] hI.lt (by first | (simp; done) | (simp; omega))⟩
    · -- 18
      intro vs k w hI hF
      clear hF
      simp only [fillTo, dstOf, List.getElem?_toArray, List.getElem?_cons_zero, List.getElem?_cons_succ, Option.bind_some, Act.put, List.setIfInBounds_toArray, List.set_cons_zero, List.set_cons_succ]
      go_wp2_with fail
      exact ⟨_, rfl, hI.same (New.refl _), gb_refl _ _, rfl⟩
    · -- 19
      intro vs k w hI hF
      have f18 : pVal (.pointer (some ⟨R, 0, none⟩)) (vs 18) w := hF 18 (by rfl)
      clear hF
      obtain ⟨q, q1, q2, hr, g0⟩ := hI
      unfold pVal at f18
      simp only [fillTo, dstOf, List.getElem?_toArray, List.getElem?_cons_zero, List.getElem?_cons_succ, Option.bind_some, Act.put, List.setIfInBounds_toArray, List.set_cons_zero, List.set_cons_succ, f18]
      clear f18
      go_wp2_with fail
      refine (pick_any R A n c zs q 6 _ hr (by omega) (by omega)).mono ?_
      rintro e w1 ⟨x, rfl, x0, x1, h1, g1⟩
      go_wp2_with fail
      exact ⟨_, rfl, DrawI.next q1 q2 g0 h1 g1, g1, x, rfl, x0, by omega⟩
    · -- 20
      intro vs k w hI hF
      have f19 : pInt 0 5 (vs 19) w := hF 19 (by rfl)
      clear hF
      obtain ⟨x, ex, x0, x1⟩ := f19
      simp only [fillTo, dstOf, List.getElem?_toArray, List.getElem?_cons_zero, List.getElem?_cons_succ, Option.bind_some, Act.put, List.setIfInBounds_toArray, List.set_cons_zero, List.set_cons_succ, ex]
      clear ex
      go_wp2_with fail
      exact ⟨_, rfl, hI.same (New.refl _), gb_refl _ _, _, rfl, by omega, by omega⟩
    · -- 21
      intro vs k w hI hF
      have f17 : pSl R 2 (80) 999 (vs 17) w := hF 17 (by rfl)
      have f20 : pInt 0 1 (vs 20) w := hF 20 (by rfl)
      clear hF
      obtain ⟨g, es, hne, hlt, hc⟩ := f17
      obtain ⟨x, ei, x0, x1⟩ := f20
      obtain ⟨y, rfl⟩ := Int.eq_ofNat_of_zero_le x0
      obtain ⟨z, hz, hb⟩ := hc y (by omega)
      have hc' := Lib.hid hc
      clear hc
      simp only [fillTo, dstOf, List.getElem?_toArray, List.getElem?_cons_zero, List.getElem?_cons_succ, Option.bind_some, Act.put, List.setIfInBounds_toArray, List.set_cons_zero, List.set_cons_succ, es, ei]
      clear es ei
      go_wp2_with fail
      exact ⟨_, rfl, hI.same (New.refl _), gb_refl _ _, g, y, z, rfl, hne, hlt, hz, hb⟩
    · -- 22
      intro vs k w hI hF
      have f21 : pAd R (80) 999 (vs 21) w := hF 21 (by rfl)
      clear hF
      obtain ⟨g, j, z, ea, _, _, hc, hb⟩ := f21
      simp only [fillTo, dstOf, List.getElem?_toArray, List.getElem?_cons_zero, List.getElem?_cons_succ, Option.bind_some, Act.put, List.setIfInBounds_toArray, List.set_cons_zero, List.set_cons_succ, ea]
      clear ea
      go_wp2_with fail
      exact ⟨_, rfl, hI.same (New.refl _), gb_refl _ _, z, rfl, hb⟩
    · -- 23
      intro vs k w hI hF
      clear hF
      simp only [fillTo, dstOf, List.getElem?_toArray, List.getElem?_cons_zero, List.getElem?_cons_succ, Option.bind_some, Act.put, List.setIfInBounds_toArray, List.set_cons_zero, List.set_cons_succ]
      go_wp2_with fail
      exact ⟨_, rfl, hI.same (New.refl _), gb_refl _ _, rfl⟩
    · -- 24
      intro vs k w hI hF
      have f23 : pVal (.pointer (some ⟨R, 0, none⟩)) (vs 23) w := hF 23 (by rfl)
      clear hF
      obtain ⟨q, q1, q2, hr, g0⟩ := hI
      unfold pVal at f23
      simp only [fillTo, dstOf, List.getElem?_toArray, List.getElem?_cons_zero, List.getElem?_cons_succ, Option.bind_some, Act.put, List.setIfInBounds_toArray, List.set_cons_zero, List.set_cons_succ, f23]
      clear f23
      go_wp2_with fail
      refine (pick_any R A n c zs q 2 _ hr (by omega) (by omega)).mono ?_
      rintro e w1 ⟨x, rfl, x0, x1, h1, g1⟩
      go_wp2_with fail
      exact ⟨_, rfl, DrawI.next q1 q2 g0 h1 g1, g1, x, rfl, x0, by omega⟩
    · -- 25
      intro vs k w hI hF
      have f24 : pInt 0 1 (vs 24) w := hF 24 (by rfl)
      clear hF
      obtain ⟨x, ex, x0, x1⟩ := f24
      simp only [fillTo, dstOf, List.getElem?_toArray, List.getElem?_cons_zero, List.getElem?_cons_succ, Option.bind_some, Act.put, List.setIfInBounds_toArray, List.set_cons_zero, List.set_cons_succ, ex]
      clear ex
      go_wp2_with fail
      exact ⟨_, rfl, hI.same (New.refl _), gb_refl _ _, _, rfl, by omega, by omega⟩
    · -- 26
      intro vs k w hI hF
      have f1 : pInt 0 3 (vs 1) w := hF 1 (by rfl)
      have f8 : pInt (0) 443 (vs 8) w := hF 8 (by rfl)
      have f16 : pInt (0) 255 (vs 16) w := hF 16 (by rfl)
      have f22 : pInt (80) 999 (vs 22) w := hF 22 (by rfl)
      have f25 : pInt (1) 2 (vs 25) w := hF 25 (by rfl)
      clear hF
      obtain ⟨z1, e1, l1, u1⟩ := f1
      obtain ⟨z8, e8, l8, u8⟩ := f8
      obtain ⟨z16, e16, l16, u16⟩ := f16
      obtain ⟨z22, e22, l22, u22⟩ := f22
      obtain ⟨z25, e25, l25, u25⟩ := f25
      simp only [fillTo, dstOf, List.getElem?_toArray, List.getElem?_cons_zero, List.getElem?_cons_succ, Option.bind_some, Act.put, List.setIfInBounds_toArray, List.set_cons_zero, List.set_cons_succ, e1, e8, e16, e22, e25]
      clear e1
      clear e8
      clear e16
      clear e22
      clear e25
      go_wp2_with fail
      exact ⟨_, rfl, hI.same (New.refl _), gb_refl _ _, z1, z8, z16, z22, z25, rfl, by omega⟩
    · -- 27
      intro vs k w hI hF
      clear hF
      simp only [fillTo, dstOf, List.getElem?_toArray, List.getElem?_cons_zero, List.getElem?_cons_succ, Option.bind_some, Act.put, List.setIfInBounds_toArray, List.set_cons_zero, List.set_cons_succ]
      go_wp2_with fail
      exact ⟨_, rfl, hI.same ((New.refl _).alloc _), new_gbR R ((New.refl _).alloc _), _, rfl, Nat.ne_of_gt hI.lt, hI.le, heap_alloc_new _ _⟩
  · intro vs k w2 hI hF
    have f26 : pAgg5 0 999 (vs 26) w2 := hF 26 (by omega)
    have f27 : pBlk R W (.cells #[.int .i64 0, .int .i64 0, .int .i64 0, .int .i64 0, .int .i64 0] 48 (0, 0)) (vs 27) w2 := hF 27 (by omega)
    clear hF
    obtain ⟨q, q1, q2, hr, g0⟩ := hI
    obtain ⟨a, b, d, f, t, e26, a0, a1, b0, b1, d0, d1, f0, f1, t0, t1⟩ := f26
    obtain ⟨g, e27, hne, hle, hblk⟩ := f27
    have hr0 := blk_gb hres g0 (by have := h.lt; omega)
    have hWs : w.heap.size < W.heap.size := blk_lt hres
    have hRw := h.lt
    simp only [fillTo, dstOf, List.getElem?_toArray, List.getElem?_cons_zero, List.getElem?_cons_succ, Option.bind_some, Act.put, List.setIfInBounds_toArray, List.set_cons_zero, List.set_cons_succ, e26, e27, List.drop_succ_cons, List.drop_zero]
    clear e26 e27
    obtain ⟨c0, c1, c2, c3, c4, z0, z1, z2, z3, z4⟩ := cells5 hblk
    have b3 := blk_at (blk_at (blk_at (blk_at (blk_at hblk 0 (.int .i64 a)) 1 (.int .i64 b)) 2 (.int .i64 d)) 3 (.int .i64 f)) 4 (.int .i64 t)
    have r3 := blk_set (blk_set (blk_set (blk_set (blk_set hr0 (a := ⟨g, 0, none⟩) (by simp; omega) (.int .i64 a)) (a := ⟨g, 1, none⟩) (by simp; omega) (.int .i64 b)) (a := ⟨g, 2, none⟩) (by simp; omega) (.int .i64 d)) (a := ⟨g, 3, none⟩) (by simp; omega) (.int .i64 f)) (a := ⟨g, 4, none⟩) (by simp; omega) (.int .i64 t)
    have h3 := ((((hr.setNew (a := ⟨g, 0, none⟩) (by simp; omega) (.int .i64 a)).setNew (a := ⟨g, 1, none⟩) (by simp; omega) (.int .i64 b)).setNew (a := ⟨g, 2, none⟩) (by simp; omega) (.int .i64 d)).setNew (a := ⟨g, 3, none⟩) (by simp; omega) (.int .i64 f)).setNew (a := ⟨g, 4, none⟩) (by simp; omega) (.int .i64 t)
    have gw : w.grownBy w2 (some R) := gb_trans (new_gbR R hnew) g0
    have g3 := gb_set (gb_set (gb_set (gb_set (gb_set gw (p := ⟨g, 0, none⟩) (by simp; omega) (.int .i64 a)) (p := ⟨g, 1, none⟩) (by simp; omega) (.int .i64 b)) (p := ⟨g, 2, none⟩) (by simp; omega) (.int .i64 d)) (p := ⟨g, 3, none⟩) (by simp; omega) (.int .i64 f)) (p := ⟨g, 4, none⟩) (by simp; omega) (.int .i64 t)
    clear hblk hr0 hr g0 gw hres hnew hW
    simp only [List.setIfInBounds_toArray, List.set_cons_zero, List.set_cons_succ] at b3
    go_wp2_with fail
    refine (odd_any R A n c zs q N _ h3 (by omega) hN0 hN).mono ?_
    rintro e w4 ⟨v, q4, rfl, ⟨bv, rfl⟩, hq4, hq4', h4, g4⟩
    have b4 := blk_gb b3 g4 hne
    have r4 := blk_gb r3 g4 (by omega)
    have G4 := gb_trans g3 g4
    clear b3 r3 h3 g3 g4 c0 c1 c2 c3 c4 z0 z1 z2 z3 z4
    obtain ⟨c0, c1, c2, c3, c4, z0, z1, z2, z3, z4⟩ := cells5 b4
    obtain ⟨C0, C1, C2, C3, C4, Z0, Z1, Z2, Z3, Z4⟩ := cells5 r4
    cases bv
    · go_wp2_with fail
      exact bodyPost_ret (v := .agg #[.int .i64 a, .int .i64 b, .int .i64 d, .int .i64 f, .int .i64 t]) (by simp [results, Try.results87, go_sem, *, ↓IntWalk.iteOmega]) rfl
        ⟨_, q4, rfl, ⟨a, b, d, f, t, rfl, by omega⟩, by omega, by omega, (by repeat (first | with_reducible assumption | refine RdAt.setNew ?_ (by first | (simp; done) | omega | (simp; omega)) _)), (by repeat (first | with_reducible assumption | refine gb_set ?_ (by first | (simp; done) | omega | (simp; omega)) _))⟩
    · go_wp2_with fail
      refine (pick_any R A n c zs q4 4 _ h4 (by omega) (by omega)).mono ?_
      rintro e w5 ⟨x, rfl, x0, x1, h5, g5⟩
      have b5 := blk_gb b4 g5 hne
      have r5 := blk_gb r4 g5 (by omega)
      have G5 := gb_trans G4 g5
      clear b4 r4 h4 G4 g5 c0 c1 c2 c3 c4 z0 z1 z2 z3 z4 C0 C1 C2 C3 C4 Z0 Z1 Z2 Z3 Z4
      rcases (show x = 0 ∨ x = 1 ∨ x = 2 ∨ x = 3 by omega) with rfl | rfl | rfl | rfl
      · go_wp2_with fail
        refine (pick_any R A n c zs (q4 + 1) 2 _ (h5.new ((New.refl _).alloc _)) (by omega) (by omega)).mono ?_
        rintro e w6 ⟨y, rfl, y0, y1, h6, g6⟩
        have n5 := heap_alloc_new w5 (.cells #[.int .i64 (-1), .int .i64 256] 3)
        have hlt5 := h5.lt
        have n6 := blk_gb n5 g6 (by omega)
        have b6 := blk_gb (blk_new b5 ((New.refl _).alloc (.cells #[.int .i64 (-1), .int .i64 256] 3))) g6 hne
        have r6 := blk_gb (blk_new r5 ((New.refl _).alloc (.cells #[.int .i64 (-1), .int .i64 256] 3))) g6 (by omega)
        have G6 := gb_trans (gb_new G5 ((New.refl _).alloc (.cells #[.int .i64 (-1), .int .i64 256] 3))) g6
        have N0 : w6.cell? ⟨w5.heap.size, 0, none⟩ = some (.int .i64 (-1)) := by rw [cell_of_row _ _ _ _ _ _ n6]; rfl
        have N1 : w6.cell? ⟨w5.heap.size, 1, none⟩ = some (.int .i64 256) := by rw [cell_of_row _ _ _ _ _ _ n6]; rfl
        clear b5 r5 h5 G5 g6 n5 n6
        obtain ⟨c0, c1, c2, c3, c4, z0, z1, z2, z3, z4⟩ := cells5 b6
        obtain ⟨C0, C1, C2, C3, C4, Z0, Z1, Z2, Z3, Z4⟩ := cells5 r6
        rcases (show y = 0 ∨ y = 1 by omega) with rfl | rfl
        · go_wp2_with fail
          exact bodyPost_ret (v := .agg #[.int .i64 (-1), .int .i64 b, .int .i64 d, .int .i64 f, .int .i64 t]) (by simp [results, Try.results87, go_sem, *, ↓IntWalk.iteOmega]) rfl
            ⟨_, q4 + 1 + 1, rfl, ⟨-1, b, d, f, t, rfl, by omega⟩, by omega, by omega, (by repeat (first | with_reducible assumption | refine RdAt.setNew ?_ (by first | (simp; done) | omega | (simp; omega)) _)), (by repeat (first | with_reducible assumption | refine gb_set ?_ (by first | (simp; done) | omega | (simp; omega)) _))⟩
        · go_wp2_with fail
          exact bodyPost_ret (v := .agg #[.int .i64 256, .int .i64 b, .int .i64 d, .int .i64 f, .int .i64 t]) (by simp [results, Try.results87, go_sem, *, ↓IntWalk.iteOmega]) rfl
            ⟨_, q4 + 1 + 1, rfl, ⟨256, b, d, f, t, rfl, by omega⟩, by omega, by omega, (by repeat (first | with_reducible assumption | refine RdAt.setNew ?_ (by first | (simp; done) | omega | (simp; omega)) _)), (by repeat (first | with_reducible assumption | refine gb_set ?_ (by first | (simp; done) | omega | (simp; omega)) _))⟩
      · obtain ⟨c0, c1, c2, c3, c4, z0, z1, z2, z3, z4⟩ := cells5 b5
        obtain ⟨C0, C1, C2, C3, C4, Z0, Z1, Z2, Z3, Z4⟩ := cells5 r5
        go_wp2_with fail
        exact bodyPost_ret (v := .agg #[.int .i64 a, .int .i64 b, .int .i64 d, .int .i64 1000, .int .i64 t]) (by simp [results, Try.results87, go_sem, *, ↓IntWalk.iteOmega]) rfl
          ⟨_, q4 + 1, rfl, ⟨a, b, d, 1000, t, rfl, by omega⟩, by omega, by omega, (by repeat (first | with_reducible assumption | refine RdAt.setNew ?_ (by first | (simp; done) | omega | (simp; omega)) _)), (by repeat (first | with_reducible assumption | refine gb_set ?_ (by first | (simp; done) | omega | (simp; omega)) _))⟩
      · go_wp2_with fail
        refine (pick_any R A n c zs (q4 + 1) 2 _ (h5.new ((New.refl _).alloc _)) (by omega) (by omega)).mono ?_
        rintro e w6 ⟨y, rfl, y0, y1, h6, g6⟩
        have n5 := heap_alloc_new w5 (.cells #[.int .i64 0, .int .i64 3] 3)
        have hlt5 := h5.lt
        have n6 := blk_gb n5 g6 (by omega)
        have b6 := blk_gb (blk_new b5 ((New.refl _).alloc (.cells #[.int .i64 0, .int .i64 3] 3))) g6 hne
        have r6 := blk_gb (blk_new r5 ((New.refl _).alloc (.cells #[.int .i64 0, .int .i64 3] 3))) g6 (by omega)
        have G6 := gb_trans (gb_new G5 ((New.refl _).alloc (.cells #[.int .i64 0, .int .i64 3] 3))) g6
        have N0 : w6.cell? ⟨w5.heap.size, 0, none⟩ = some (.int .i64 0) := by rw [cell_of_row _ _ _ _ _ _ n6]; rfl
        have N1 : w6.cell? ⟨w5.heap.size, 1, none⟩ = some (.int .i64 3) := by rw [cell_of_row _ _ _ _ _ _ n6]; rfl
        clear b5 r5 h5 G5 g6 n5 n6
        obtain ⟨c0, c1, c2, c3, c4, z0, z1, z2, z3, z4⟩ := cells5 b6
        obtain ⟨C0, C1, C2, C3, C4, Z0, Z1, Z2, Z3, Z4⟩ := cells5 r6
        rcases (show y = 0 ∨ y = 1 by omega) with rfl | rfl
        · go_wp2_with fail
          exact bodyPost_ret (v := .agg #[.int .i64 a, .int .i64 b, .int .i64 d, .int .i64 f, .int .i64 0]) (by simp [results, Try.results87, go_sem, *, ↓IntWalk.iteOmega]) rfl
            ⟨_, q4 + 1 + 1, rfl, ⟨a, b, d, f, 0, rfl, by omega⟩, by omega, by omega, (by repeat (first | with_reducible assumption | refine RdAt.setNew ?_ (by first | (simp; done) | omega | (simp; omega)) _)), (by repeat (first | with_reducible assumption | refine gb_set ?_ (by first | (simp; done) | omega | (simp; omega)) _))⟩
        · go_wp2_with fail
          exact bodyPost_ret (v := .agg #[.int .i64 a, .int .i64 b, .int .i64 d, .int .i64 f, .int .i64 3]) (by simp [results, Try.results87, go_sem, *, ↓IntWalk.iteOmega]) rfl
            ⟨_, q4 + 1 + 1, rfl, ⟨a, b, d, f, 3, rfl, by omega⟩, by omega, by omega, (by repeat (first | with_reducible assumption | refine RdAt.setNew ?_ (by first | (simp; done) | omega | (simp; omega)) _)), (by repeat (first | with_reducible assumption | refine gb_set ?_ (by first | (simp; done) | omega | (simp; omega)) _))⟩
      · obtain ⟨c0, c1, c2, c3, c4, z0, z1, z2, z3, z4⟩ := cells5 b5
        obtain ⟨C0, C1, C2, C3, C4, Z0, Z1, Z2, Z3, Z4⟩ := cells5 r5
        go_wp2_with fail
        exact bodyPost_ret (v := .agg #[.int .i64 a, .int .i64 b, .int .i64 (-1), .int .i64 f, .int .i64 t]) (by simp [results, Try.results87, go_sem, *, ↓IntWalk.iteOmega]) rfl
          ⟨_, q4 + 1, rfl, ⟨a, b, -1, f, t, rfl, by omega⟩, by omega, by omega, (by repeat (first | with_reducible assumption | refine RdAt.setNew ?_ (by first | (simp; done) | omega | (simp; omega)) _)), (by repeat (first | with_reducible assumption | refine gb_set ?_ (by first | (simp; done) | omega | (simp; omega)) _))⟩
/-- What a draw leaves. -/
def DrawRet (w : World) (V : Value → World → Prop) (e : Ending) (w' : World) : Prop := ∃ v, e = .returned v ∧ V v w' ∧ New w w'
/-- The code that a law is handed. -/
def CodeArg (w : World) (A : Option Addr) (n c : Nat) (zs : List Int) : Prop := n ≤ c ∧ n ≤ maxLen ∧ zs.length = n ∧ (∀ z ∈ zs, 0 ≤ z ∧ z ≤ 255) ∧ IntsK .u8 w A zs
theorem u8_bd {z : Int} (h : (Lit.int .u8 z).wf = true) : 0 ≤ z ∧ z ≤ 255 := by
  simp [Lit.wf, IntKind.min, IntKind.max, IntKind.signed, IntKind.bits] at h
  omega
theorem CodeArg.of {w : World} {A : Option Addr} {n c : Nat} {zs : List Int} (H : ArgInts .u8 w A n c 1 zs) : CodeArg w A n c zs :=
  ⟨H.1, Nat.le_trans H.1 H.2.1, by have := H.2.2.1; omega, fun z hz => u8_bd (H.2.2.2.1 z hz), H.2.2.2.2⟩
theorem CodeArg.new {w w' : World} {A : Option Addr} {n c : Nat} {zs : List Int} (h : CodeArg w A n c zs) (hb : New w w') : CodeArg w' A n c zs := ⟨h.1, h.2.1, h.2.2.1, h.2.2.2.1, h.2.2.2.2.new hb⟩
theorem open_code {A : Option Addr} {n c : Nat} {zs : List Int} {w : World} (h : CodeArg w A n c zs) : Calls Try.prog 61 #[.slice A n c] w (Opened w A n c zs) :=
  open_any A n c zs w h.1 h.2.1 h.2.2.1 h.2.2.2.1 h.2.2.2.2
end Go.Proofs.Ytbnehcaallehbaa
