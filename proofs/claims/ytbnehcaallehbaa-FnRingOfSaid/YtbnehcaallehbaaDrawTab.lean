/- Draws of tables. -/
import Derived.Test.YtbnehcaallehbaaTouch2
import Derived.Test.YtbnehcaallehbaaDrawK
import Derived.Test.YtbnehcaallehbaaDrawJ
namespace Go.Proofs.Ytbnehcaallehbaa
set_option linter.unusedVariables false
set_option linter.unusedSimpArgs false
open Go.RowKit Go.Sort

theorem RowX.gb {E : TypeId} {size B n R : Nat} {w w' : World} {v : Value} (h : RowX E size B w v n) (hg : w.grownBy w' (some R)) (hR : R < B) : RowX E size B w' v n := by
  obtain ⟨A, c, zs, hv, ho⟩ := h
  exact ⟨A, c, zs, hv, ho.gb hg hR⟩
theorem TabAny.less {B B' : Nat} {w : World} {sz st : Int} {n : Nat} {v : Value} (h : TabAny B w sz st n v) (hB : B' ≤ B) : TabAny B' w sz st n v := by
  obtain ⟨r, hv, hx⟩ := h
  exact ⟨r, hv, hx.less hB⟩
theorem TabAny.gb {B n R : Nat} {w w' : World} {sz st : Int} {v : Value} (h : TabAny B w sz st n v) (hg : w.grownBy w' (some R)) (hR : R < B) : TabAny B w' sz st n v := by
  obtain ⟨r, hv, hx⟩ := h
  exact ⟨r, hv, hx.gb hg hR⟩
theorem Own.none0X {E : TypeId} {size B n c : Nat} {w : World} {A : Option Addr} {zs : List Int} (h : Own E size B w A n c zs) : A = none → c = 0 := by
  intro hA
  rcases h.2 with ⟨hv, _⟩ | ⟨g, cap, cur, hv, _⟩
  · injection hv
  · rw [hA] at hv
    exact absurd hv (by simp)
theorem Own.capX {E : TypeId} {size B n c : Nat} {w : World} {A : Option Addr} {zs : List Int} (h : Own E size B w A n c zs) : n ≤ c := by
  rcases h.2 with ⟨hv, h0⟩ | ⟨g, cap, cur, hv, _, _, hnc, _⟩
  · omega
  · injection hv with _ _ h3
    omega
/-- A region whose operations read on by s numbers at most. -/
def DrawIs (s : Nat) (w0 : World) (R : Nat) (A : Option Addr) (n c : Nat) (zs : List Int) (p m : Nat) (k : Nat) (w : World) : Prop := DrawI w0 R A n c zs p m (s * k) w
theorem DrawIs.same {s : Nat} {w0 w w' : World} {R : Nat} {A : Option Addr} {n c : Nat} {zs : List Int} {p m k : Nat} (h : DrawIs s w0 R A n c zs p m (k + 1) w) (hb : New w w') : DrawIs s w0 R A n c zs p m k w' := by
  obtain ⟨q, h1, h2, h3, h4⟩ := h
  rw [Nat.mul_succ] at h2
  exact ⟨q, h1, by omega, h3.new hb, gb_new h4 hb⟩
theorem DrawIs.read {s : Nat} {w0 w w' : World} {R : Nat} {A : Option Addr} {n c : Nat} {zs : List Int} {p m k q q' : Nat} (h1 : p ≤ q) (h2 : q + s * (k + 1) ≤ p + m) (h4 : w0.grownBy w (some R)) (h5 : q ≤ q') (h6 : q' ≤ q + s) (h : RdAt w' R A n c zs q') (hg : w.grownBy w' (some R)) : DrawIs s w0 R A n c zs p m k w' := by
  rw [Nat.mul_succ] at h2
  exact ⟨q', by omega, by omega, h, gb_trans h4 hg⟩
def pZ (v : Value) (_ : World) : Prop := ∃ z, v = .int .i64 z
def pFlag (v : Value) (_ : World) : Prop := ∃ b, v = .bool b
def pAgg7 (v : Value) (_ : World) : Prop := ∃ a b c d k x y, v = .agg #[.int .i64 a, .int .i64 b, .int .i64 c, .int .i64 d, .int .i64 k, .int .i64 x, .int .i64 y]
def pTab (B m : Nat) (v : Value) (w : World) : Prop := ∃ sz st n, TabAny B w sz st n v ∧ n ≤ m + 1
def pTouch (B m : Nat) (v : Value) (w : World) : Prop := ∃ u b sz st n, v = .tuple #[u, .bool b] ∧ TabAny B w sz st n u ∧ n ≤ m + 1
def pYes (_ : Value) (_ : World) : Prop := True
/-- Block g holds a table whose row is the call's own. -/
def TabBlk (B m g : Nat) (w : World) : Prop := ∃ (sz st : Int) (A : Option Addr) (n c : Nat), n ≤ m + 1 ∧ w.heap[g]? = some (.cells #[.int .i64 sz, .int .i64 st, .slice A n c] 44 (0, 0)) ∧ RowX 50 7 B w (.slice A n c) n
def StayT (B m W : Nat) (w w' : World) : Prop := StayX B w w' ∧ ∀ g, W ≤ g → TabBlk B m g w → TabBlk B m g w'
theorem StayT.refl (B m W : Nat) (w : World) : StayT B m W w w := ⟨StayX.refl _ _, fun _ _ h => h⟩
theorem StayT.gb {B m W R : Nat} {w w' : World} (hg : w.grownBy w' (some R)) (hB : R < B) (hW : R < W) : StayT B m W w w' :=
  ⟨fun _ _ h => h.gb hg hB, fun g hgW ⟨sz, st, A, n, c, hn, hb, hx⟩ => ⟨sz, st, A, n, c, hn, blk_gb hb hg (by omega), hx.gb hg hB⟩⟩
theorem StayT.set {B m W n' g : Nat} {w : World} {x0 x1 x2 : Value} {sz st : Int} {A : Option Addr} {c : Nat} (hb : w.heap[g]? = some (.cells #[x0, x1, x2] 44 (0, 0))) (hx : RowX 50 7 B w (.slice A n' c) n') (hn : n' ≤ m + 1) :
    StayT B m W w (((w.setCell ⟨g, 0, none⟩ (.int .i64 sz)).setCell ⟨g, 1, none⟩ (.int .i64 st)).setCell ⟨g, 2, none⟩ (.slice A n' c)) := by
  have T : TypAt w g := ⟨_, hb⟩
  have key : ∀ v n, RowX 50 7 B w v n → RowX 50 7 B (((w.setCell ⟨g, 0, none⟩ (.int .i64 sz)).setCell ⟨g, 1, none⟩ (.int .i64 st)).setCell ⟨g, 2, none⟩ (.slice A n' c)) v n := fun v n h => ((h.setTab T 0 _).setTab (T.set g 0 _) 1 _).setTab ((T.set g 0 _).set g 1 _) 2 _
  refine ⟨key, fun g' _ ⟨sz2, st2, A2, n2, c2, hn2, hb2, hx2⟩ => ?_⟩
  by_cases he : g' = g
  · subst he
    exact ⟨sz, st, A, n', c, hn, blk_at (blk_at (blk_at hb 0 _) 1 _) 2 _, key _ _ hx⟩
  · exact ⟨sz2, st2, A2, n2, c2, hn2, blk_set (blk_set (blk_set hb2 (a := ⟨g, 0, none⟩) he _) (a := ⟨g, 1, none⟩) he _) (a := ⟨g, 2, none⟩) he _, key _ _ hx2⟩
def pTabP (B m W : Nat) (v : Value) (w : World) : Prop := ∃ g, v = .pointer (some ⟨g, 0, none⟩) ∧ W ≤ g ∧ TabBlk B m g w
def KeptT (B m W : Nat) (P : Value → World → Prop) : Prop := ∀ v w w', StayT B m W w w' → P v w → P v w'
section
variable {B m W : Nat}
theorem keptT_any {P : Value → World → Prop} (h : ∀ v w w', P v w → P v w') : KeptT B m W P := fun v w w' _ hp => h v w w' hp
theorem keptT_tab : KeptT B m W (pTab B m) := fun _ _ _ hg ⟨sz, st, n, ⟨r, hr, h⟩, hn⟩ => ⟨sz, st, n, ⟨r, hr, hg.1 _ _ h⟩, hn⟩
theorem keptT_touch : KeptT B m W (pTouch B m) := fun _ _ _ hg ⟨u, b, sz, st, n, hv, ⟨r, hr, h⟩, hn⟩ => ⟨u, b, sz, st, n, hv, ⟨r, hr, hg.1 _ _ h⟩, hn⟩
theorem keptT_tabp : KeptT B m W (pTabP B m W) := fun _ _ _ hg ⟨g, hv, hW, h⟩ => ⟨g, hv, hW, hg.2 g hW h⟩
theorem factAt_keptT {ks : List (Value → World → Prop)} (h : ∀ P ∈ ks, KeptT B m W P) (i : Nat) (v : Value) (w w' : World) (hS : StayT B m W w w') (hf : factAt ks i v w) : factAt ks i v w' := by
  unfold factAt at *
  rw [List.getD_eq_getElem?_getD] at *
  rcases hk : ks[i]? with _ | P
  · simp
  · simp only [hk, Option.getD_some] at hf ⊢
    exact h P (List.mem_of_getElem? hk) v w w' hS hf
end
theorem keptX_any (B : Nat) (P : Value → World → Prop) (h : ∀ v w w', P v w → P v w') : KeptX B P := fun v w w' _ hp => h v w w' hp
/-- A world without its blocks. -/
def bare (w : World) : World := { w with heap := #[] }
theorem new_bare (w : World) : New (bare w) w := ⟨rfl, rfl, rfl, Nat.zero_le _, fun k hk => absurd hk (Nat.not_lt_zero k)⟩
/-- The invariant of a region that appends onto the table's row. -/
def TabI (w0 : World) (R : Nat) (A : Option Addr) (n c : Nat) (zs : List Int) (p m G : Nat) (sz st : Int) (Ar : Option Addr) (len cr : Nat) (k : Nat) (w : World) : Prop :=
  ∃ q, p ≤ q ∧ q + 60 * k ≤ p + m ∧ RdAt w R A n c zs q ∧ w0.grownBy w (some R) ∧ RowX 50 7 w0.heap.size w (.slice Ar len cr) len ∧ w.heap[G]? = some (.cells #[.int .i64 sz, .int .i64 st, .slice Ar len cr] 44 (0, 0)) ∧ w.heap[w0.heap.size]? = some (.cells #[.int .i64 0, .int .i64 0, .slice none 0 0] 44 (0, 0))
section
variable {w0 w w' : World} {R : Nat} {A : Option Addr} {n c : Nat} {zs : List Int} {p m G : Nat} {sz st : Int} {Ar : Option Addr} {len cr : Nat} {k : Nat}
theorem TabI.same (h : TabI w0 R A n c zs p m G sz st Ar len cr (k + 1) w) (hb : New w w') : TabI w0 R A n c zs p m G sz st Ar len cr k w' := by
  obtain ⟨q, h1, h2, h3, h4, h5, h6, h7⟩ := h
  exact ⟨q, h1, by omega, h3.new hb, gb_new h4 hb, h5.new hb, blk_new h6 hb, blk_new h7 hb⟩
theorem TabI.t7 (h : TabI w0 R A n c zs p m G sz st Ar len cr k w) : w.heap[G]? = some (.cells #[.int .i64 sz, .int .i64 st, .slice Ar len cr] 44 (0, 0)) := by
  obtain ⟨q, h1, h2, h3, h4, h5, h6, h7⟩ := h
  exact h6
theorem TabI.le (h : TabI w0 R A n c zs p m G sz st Ar len cr k w) : w0.heap.size ≤ w.heap.size := by
  obtain ⟨q, h1, h2, h3, h4, h5, h6, h7⟩ := h
  exact h4.size
end
/-- What a function leaves that draws a table. -/
def TabRet (d m : Nat) (w : World) (R : Nat) (A : Option Addr) (n c : Nat) (zs : List Int) (p : Nat) (e : Ending) (w' : World) : Prop :=
  ∃ v q, ∃ sz st : Int, ∃ k : Nat, e = .returned v ∧ TabAny w.heap.size w' sz st k v ∧ k ≤ m ∧ p ≤ q ∧ q ≤ p + d ∧ RdAt w' R A n c zs q ∧ w.grownBy w' (some R)
set_option maxRecDepth 100000 in
set_option maxHeartbeats 4000000 in
theorem l20Table_any (R : Nat) (A : Option Addr) (n c : Nat) (zs : List Int) (p : Nat) (A' : Option Addr) (m c' : Nat) (hs : List Hst) (N : Int) (w : World) (h : RdAt w R A n c zs p) (hp : p ≤ 100000) (hm : hs.length = m) (hm7 : m ≤ 7) (hI : Ints w A' (flat hs)) (hA : ∀ g, A' = some ⟨g, 0, none⟩ → g ≠ R) (hpl : A' = none ∨ ∃ g, A' = some ⟨g, 0, none⟩) (hN0 : 0 ≤ N) (hN : N ≤ 1000000) :
    Calls Try.prog 75 #[.pointer (some ⟨R, 0, none⟩), .slice A' m c', .int .i64 N] w (TabRet 10000 8 w R A n c zs p) := by
  obtain ⟨i0, hi, iz0, iz1, iz2⟩ := info_parts entry_info
  have hRw := h.lt
  have HM := Lib.hid hm
  have HI := Lib.hid hI
  have HA := Lib.hid hA
  have HPL := Lib.hid hpl
  clear hm hI hA hpl
  have b0 := (New.refl w).alloc (.cells #[.int .i64 0, .int .i64 0, .slice none 0 0] 44)
  go_enter Try.func75, Try.ntmps75
  go_wp2_with fail
  have r0 := heap_alloc_new w (.cells #[.int .i64 0, .int .i64 0, .slice none 0 0] 44)
  refine (pick_any R A n c zs p 6 _ (h.new b0) (by omega) (by omega)).mono ?_
  rintro e w1 ⟨x, rfl, x0, x1, h1, g1⟩
  have x2 := x1 (by omega)
  have r1 := blk_gb r0 g1 (Nat.ne_of_gt hRw)
  go_wp2_with fail
  refine (pick_any R A n c zs (p + 1) 256 _ h1 (by omega) (by omega)).mono ?_
  rintro e w2 ⟨y, rfl, y0, y1, h2, g2⟩
  have y2 := y1 (by omega)
  have r2 := blk_gb r1 g2 (Nat.ne_of_gt hRw)
  go_wp2_with fail
  have bL := (New.refl w2).alloc (.cells #[.int .i64 10, .int .i64 50, .int .i64 (1 + y)] 3)
  refine (pick_any R A n c zs (p + 1 + 1) 3 _ (h2.new bL) (by omega) (by omega)).mono ?_
  rintro e w3 ⟨u, rfl, u0, u1, h3, g3⟩
  have u2 := u1 (by omega)
  have r3 := blk_gb (blk_new r2 bL) g3 (Nat.ne_of_gt hRw)
  obtain ⟨U, rfl⟩ := Int.eq_ofNat_of_zero_le u0
  have hU : U < 3 := by omega
  have hR2 := h2.lt
  have hL : Ints (w2.alloc (.cells #[.int .i64 10, .int .i64 50, .int .i64 (1 + y)] 3)) (some ⟨w2.heap.size, 0, none⟩) [10, 50, 1 + y] := Ints.built w2 3 [10, 50, 1 + y]
  have hL3 := hL.gb g3 (by omega)
  obtain ⟨b, o, hAo, hc⟩ := hL3 (by simp)
  obtain ⟨rfl, rfl⟩ : w2.heap.size = b ∧ 0 = o := by simpa using hAo
  obtain ⟨st, hst⟩ : ∃ st, [10, 50, 1 + y].getD U 0 = st := ⟨_, rfl⟩
  have hcU := hc U (by simpa using hU)
  rw [hst, Nat.zero_add] at hcU
  clear hc hL hL3 hAo hst u1 x1 y1
  have hU3 : (U : Int) < 3 := by omega
  have G3 := gb_trans (gb_trans (gb_trans (new_gbR R b0) g1) (gb_trans g2 (new_gbR R bL))) g3
  have hs3 : w.heap.size < w3.heap.size := blk_lt r3
  have bE := (New.refl w3).alloc (.cells #[] 50)
  have bT := bE.alloc (.cells #[.int .i64 (1 + x), .int .i64 st, .slice (some ⟨w3.heap.size, 0, none⟩) 0 0] 44)
  have e4 : RowX 50 7 w.heap.size (w3.alloc (.cells #[] 50)) (.slice (some ⟨w3.heap.size, 0, none⟩) 0 0) 0 := ⟨_, 0, [], rfl, World.ownsRow_lit w3 #[] 0 (Nat.le_of_lt hs3) (Nat.zero_le _) rfl⟩
  have t4 := heap_alloc_new (w3.alloc (.cells #[] 50)) (.cells #[.int .i64 (1 + x), .int .i64 st, .slice (some ⟨w3.heap.size, 0, none⟩) 0 0] 44)
  have e5 := e4.new ((New.refl _).alloc (.cells #[.int .i64 (1 + x), .int .i64 st, .slice (some ⟨w3.heap.size, 0, none⟩) 0 0] 44))
  have r5 := blk_new r3 bT
  have h5 := h3.new bT
  have G5 := gb_new G3 bT
  rw [World.size_alloc] at t4
  clear g1 g2 g3 b0 bL h1 h2 h3 h r0 r1 r2 r3 e4 G3
  go_wp2_with fail
  generalize (w3.alloc (.cells #[] 50)).alloc (.cells #[.int .i64 (1 + x), .int .i64 st, .slice (some ⟨w3.heap.size, 0, none⟩) 0 0] 44) = w4 at *
  obtain ⟨G7, hG7⟩ : ∃ G7, w3.heap.size + 1 = G7 := ⟨_, rfl⟩
  rw [hG7] at t4 ⊢
  have h67 : w.heap.size < G7 := by omega
  have hR7l : R < G7 := by omega
  have hR7 : G7 ≠ R := by omega
  have hR6 : w.heap.size ≠ R := by omega
  refine (pick_any R A n c zs (p + 1 + 1 + 1) 8 _ h5 (by omega) (by omega)).mono ?_
  rintro e w7 ⟨k0, rfl, k00, k01, h7, g7⟩
  obtain ⟨K, rfl⟩ := Int.eq_ofNat_of_zero_le k00
  have hK : K ≤ 7 := by have := k01 (by omega); omega
  have e7 := e5.gb g7 hRw
  have t7 := blk_gb t4 g7 hR7
  have r7 := blk_gb r5 g7 hR6
  have G7' := gb_trans G5 g7
  clear e5 t4 r5 h5 G5 g7 bE bT hcU k00 k01 u0 u2 hU hU3 x0 x2 y0 y2 hG7 hs3 hR2
  go_wp2_with fail
  go_loopw [8, 9] (fun v i wr => ∃ (k : Nat) (now : Int) (q : Nat) (sz st : Int) (Ar : Option Addr) (len cr : Nat), k ≤ 7 ∧ i = .int .i64 k ∧ v = .int .i64 now ∧ 0 ≤ now ∧ now ≤ 8 * (7 - (k : Int)) ∧ p ≤ q ∧ q + 1000 * k ≤ p + 7100 ∧ len + k ≤ 7 ∧ RowX 50 7 w.heap.size wr (.slice Ar len cr) len ∧ wr.heap[G7]? = some (.cells #[.int .i64 sz, .int .i64 st, .slice Ar len cr] 44 (0, 0)) ∧ wr.heap[w.heap.size]? = some (.cells #[.int .i64 0, .int .i64 0, .slice none 0 0] 44 (0, 0)) ∧ RdAt wr R A n c zs q ∧ w.grownBy wr (some R)) (fun _ i _ => (intOf i).toNat)
  case atStart => exact ⟨K, 0, _, _, _, _, 0, 0, hK, rfl, rfl, by omega, by omega, by omega, by omega, by omega, e7, t7, r7, h7, G7'⟩
  case round =>
    clear e7 t7 r7 h7 G7'
    obtain ⟨k, now, q, sz, st, Ar, len, cr, hk7, rfl, rfl, now0, now1, q0, q1, hlk, X1, h7, h6, hr, hg⟩ := hrel
    by_cases hk0 : 0 < k
    · obtain ⟨_, _, zr, ee, ho⟩ := X1
      cases ee
      obtain ⟨es, hes, hel⟩ := unflatE len zr ho.len
      subst hes
      have HEL := Lib.hid hel
      have HO := Lib.hid ho
      have HN0 := Lib.hid ho.none0X
      have hlc := ho.capX
      have hlt7 := blk_lt h7
      have hRr := hr.lt
      clear ho hel
      go_wp2_with fail
      obtain ⟨FF, hFF⟩ : ∃ FF, FF = factAt [pVal (.agg #[.int .i64 sz, .int .i64 st, .slice Ar len cr]), pVal (.pointer (some ⟨R, 0, none⟩)), pAgg5 (-1) 1000, pVal (.pointer (some ⟨R, 0, none⟩)), pVal (.slice A' m c'), pZ, pZ, pZ, pVal (.int .i64 now), pTouch w.heap.size len, pTouch w.heap.size len, pTab w.heap.size len, pFlag, pTabP w.heap.size len wr.heap.size, pYes, pFlag] := ⟨_, rfl⟩
      have HFF := Lib.hid hFF
      clear hFF
      refine wp_region_tail 16 (by kernel_rfl) (by kernel_rfl) (by kernel_rfl) (by decide) (DrawIs 60 wr R A n c zs q 960) FF (StayT w.heap.size len wr.heap.size) (by rw [HFF.out]; exact factAt_keptT (by
          intro P hP
          simp only [List.mem_cons, List.not_mem_nil, or_false] at hP
          rcases hP with rfl | rfl | rfl | rfl | rfl | rfl | rfl | rfl | rfl | rfl | rfl | rfl | rfl | rfl | rfl | rfl
          · exact keptT_any (fun _ _ _ h => h)
          · exact keptT_any (fun _ _ _ h => h)
          · exact keptT_any (fun _ _ _ h => h)
          · exact keptT_any (fun _ _ _ h => h)
          · exact keptT_any (fun _ _ _ h => h)
          · exact keptT_any (fun _ _ _ h => h)
          · exact keptT_any (fun _ _ _ h => h)
          · exact keptT_any (fun _ _ _ h => h)
          · exact keptT_any (fun _ _ _ h => h)
          · exact keptT_touch
          · exact keptT_touch
          · exact keptT_tab
          · exact keptT_any (fun _ _ _ h => h)
          · exact keptT_tabp
          · exact keptT_any (fun _ _ _ h => h)
          · exact keptT_any (fun _ _ _ h => h)
          )) ⟨q, by omega, by omega, hr.new ((New.refl _).drew), gb_new (gb_refl _ _) ((New.refl _).drew)⟩ ?_ ?_
      · refine ⟨?_, ?_, ?_, ?_, ?_, ?_, ?_, ?_, ?_, ?_, ?_, ?_, ?_, ?_, ?_, ?_, trivial⟩
        · -- 0
          intro vs kq wq hI hF
          clear hF
          obtain ⟨q', e1, e2, hr, g0⟩ := id hI
          obtain ⟨C0, C1, C2⟩ := cellsT (blk_gb h7 g0 hR7)
          simp only [fillTo, dstOf, List.getElem?_toArray, List.getElem?_cons_zero, List.getElem?_cons_succ, Option.bind_some, Act.put, List.setIfInBounds_toArray, List.set_cons_zero, List.set_cons_succ]
          go_wp2_with fail
          exact ⟨_, rfl, hI.same (New.refl _), StayT.refl _ _ _ _, by rw [HFF.out]; exact rfl⟩
        · -- 1
          intro vs kq wq hI hF
          clear hF
          simp only [fillTo, dstOf, List.getElem?_toArray, List.getElem?_cons_zero, List.getElem?_cons_succ, Option.bind_some, Act.put, List.setIfInBounds_toArray, List.set_cons_zero, List.set_cons_succ]
          go_wp2_with fail
          exact ⟨_, rfl, hI.same (New.refl _), StayT.refl _ _ _ _, by rw [HFF.out]; exact rfl⟩
        · -- 2
          intro vs kq wq hI hF
          have f1 : pVal (.pointer (some ⟨R, 0, none⟩)) (vs 1) wq := (by have h := hF 1 (by rfl); rw [HFF.out] at h; exact h)
          unfold pVal at f1
          clear hF
          obtain ⟨q', e1, e2, hr, g0⟩ := hI
          simp only [fillTo, dstOf, List.getElem?_toArray, List.getElem?_cons_zero, List.getElem?_cons_succ, Option.bind_some, Act.put, List.setIfInBounds_toArray, List.set_cons_zero, List.set_cons_succ, f1]
          clear f1
          go_wp2_with fail
          refine (l20Flow_any R A _ c _ q' 0 _ hr (by omega) (by omega) (by omega)).mono ?_
          rintro e w' ⟨v, q2, rfl, hv, e3, e4, h2, g2⟩
          go_wp2_with fail
          exact ⟨_, rfl, DrawIs.read e1 e2 g0 e3 (by omega) h2 g2, StayT.gb g2 hRw hRr, by rw [HFF.out]; exact hv⟩
        · -- 3
          intro vs kq wq hI hF
          clear hF
          simp only [fillTo, dstOf, List.getElem?_toArray, List.getElem?_cons_zero, List.getElem?_cons_succ, Option.bind_some, Act.put, List.setIfInBounds_toArray, List.set_cons_zero, List.set_cons_succ]
          go_wp2_with fail
          exact ⟨_, rfl, hI.same (New.refl _), StayT.refl _ _ _ _, by rw [HFF.out]; exact rfl⟩
        · -- 4
          intro vs kq wq hI hF
          clear hF
          simp only [fillTo, dstOf, List.getElem?_toArray, List.getElem?_cons_zero, List.getElem?_cons_succ, Option.bind_some, Act.put, List.setIfInBounds_toArray, List.set_cons_zero, List.set_cons_succ]
          go_wp2_with fail
          exact ⟨_, rfl, hI.same (New.refl _), StayT.refl _ _ _ _, by rw [HFF.out]; exact rfl⟩
        · -- 5
          intro vs kq wq hI hF
          have f3 : pVal (.pointer (some ⟨R, 0, none⟩)) (vs 3) wq := (by have h := hF 3 (by rfl); rw [HFF.out] at h; exact h)
          unfold pVal at f3
          have f4 : pVal (.slice A' m c') (vs 4) wq := (by have h := hF 4 (by rfl); rw [HFF.out] at h; exact h)
          unfold pVal at f4
          clear hF
          obtain ⟨q', e1, e2, hr, g0⟩ := hI
          simp only [fillTo, dstOf, List.getElem?_toArray, List.getElem?_cons_zero, List.getElem?_cons_succ, Option.bind_some, Act.put, List.setIfInBounds_toArray, List.set_cons_zero, List.set_cons_succ, f3, f4]
          clear f3 f4
          go_wp2_with fail
          refine (l20Number_any R A _ c _ q' A' m c' hs _ hr (by omega) HM.out hm7 (HI.out.apartR (gb_trans hg g0) HA.out HPL.out) HA.out HPL.out).mono ?_
          rintro e w' ⟨v, q2, rfl, ⟨z, rfl, _⟩, e3, e4, h2, g2⟩
          go_wp2_with fail
          exact ⟨_, rfl, DrawIs.read e1 e2 g0 e3 (by omega) h2 g2, StayT.gb g2 hRw hRr, by rw [HFF.out]; exact ⟨z, rfl⟩⟩
        · -- 6
          intro vs kq wq hI hF
          have f5 : pZ (vs 5) wq := (by have h := hF 5 (by rfl); rw [HFF.out] at h; exact h)
          clear hF
          obtain ⟨z5, e5⟩ := f5
          simp only [fillTo, dstOf, List.getElem?_toArray, List.getElem?_cons_zero, List.getElem?_cons_succ, Option.bind_some, Act.put, List.setIfInBounds_toArray, List.set_cons_zero, List.set_cons_succ, e5]
          clear e5
          go_wp2_with fail
          all_goals exact ⟨_, rfl, hI.same (New.refl _), StayT.refl _ _ _ _, by rw [HFF.out]; exact ⟨_, rfl⟩⟩
        · -- 7
          intro vs kq wq hI hF
          have f6 : pZ (vs 6) wq := (by have h := hF 6 (by rfl); rw [HFF.out] at h; exact h)
          clear hF
          obtain ⟨z6, e6⟩ := f6
          simp only [fillTo, dstOf, List.getElem?_toArray, List.getElem?_cons_zero, List.getElem?_cons_succ, Option.bind_some, Act.put, List.setIfInBounds_toArray, List.set_cons_zero, List.set_cons_succ, e6]
          clear e6
          go_wp2_with fail
          all_goals exact ⟨_, rfl, hI.same (New.refl _), StayT.refl _ _ _ _, by rw [HFF.out]; exact ⟨_, rfl⟩⟩
        · -- 8
          intro vs kq wq hI hF
          clear hF
          simp only [fillTo, dstOf, List.getElem?_toArray, List.getElem?_cons_zero, List.getElem?_cons_succ, Option.bind_some, Act.put, List.setIfInBounds_toArray, List.set_cons_zero, List.set_cons_succ]
          go_wp2_with fail
          exact ⟨_, rfl, hI.same (New.refl _), StayT.refl _ _ _ _, by rw [HFF.out]; exact rfl⟩
        · -- 9
          intro vs kq wq hI hF
          have f0 : pVal (.agg #[.int .i64 sz, .int .i64 st, .slice Ar len cr]) (vs 0) wq := (by have h := hF 0 (by rfl); rw [HFF.out] at h; exact h)
          unfold pVal at f0
          have f2 : pAgg5 (-1) 1000 (vs 2) wq := (by have h := hF 2 (by rfl); rw [HFF.out] at h; exact h)
          have f7 : pZ (vs 7) wq := (by have h := hF 7 (by rfl); rw [HFF.out] at h; exact h)
          have f8 : pVal (.int .i64 now) (vs 8) wq := (by have h := hF 8 (by rfl); rw [HFF.out] at h; exact h)
          unfold pVal at f8
          clear hF
          obtain ⟨q', e1, e2, hr, g0⟩ := id hI
          have g0h : w.heap.size ≤ wq.heap.size := Nat.le_trans hg.size g0.size
          obtain ⟨xa, xb, xc, xd, xk, ev2, _⟩ := f2
          obtain ⟨z7, ev7⟩ := f7
          simp only [fillTo, dstOf, List.getElem?_toArray, List.getElem?_cons_zero, List.getElem?_cons_succ, Option.bind_some, Act.put, List.setIfInBounds_toArray, List.set_cons_zero, List.set_cons_succ, f0, ev2, ev7, f8]
          clear f0 ev2 ev7 f8
          go_wp2_with fail
          refine (touch_any sz st Ar len cr es xa xb xc xd xk z7 now _ HEL.out HN0.out hlc (by omega) ((HO.out.gb g0 hRw).ints)).mono ?_
          rintro e w' ⟨v, b, sz2, st2, n2, rfl, htab, hn2, b2⟩
          go_wp2_with fail
          exact ⟨_, rfl, hI.same b2, StayT.gb (new_gbR R b2) hRw hRr, by rw [HFF.out]; exact ⟨v, b, sz2, st2, n2, rfl, htab.less g0h, hn2⟩⟩
        · -- 10
          intro vs kq wq hI hF
          have f9 : pTouch w.heap.size len (vs 9) wq := (by have h := hF 9 (by rfl); rw [HFF.out] at h; exact h)
          clear hF
          obtain ⟨v, b, sz2, st2, n2, ev, ht, hn2⟩ := f9
          simp only [fillTo, dstOf, List.getElem?_toArray, List.getElem?_cons_zero, List.getElem?_cons_succ, Option.bind_some, Act.put, List.setIfInBounds_toArray, List.set_cons_zero, List.set_cons_succ, ev]
          clear ev
          go_wp2_with fail
          exact ⟨_, rfl, hI.same (New.refl _), StayT.refl _ _ _ _, by rw [HFF.out]; exact ⟨v, b, sz2, st2, n2, rfl, ht, hn2⟩⟩
        · -- 11
          intro vs kq wq hI hF
          have f10 : pTouch w.heap.size len (vs 10) wq := (by have h := hF 10 (by rfl); rw [HFF.out] at h; exact h)
          clear hF
          obtain ⟨v, b, sz2, st2, n2, ev, ht, hn2⟩ := f10
          simp only [fillTo, dstOf, List.getElem?_toArray, List.getElem?_cons_zero, List.getElem?_cons_succ, Option.bind_some, Act.put, List.setIfInBounds_toArray, List.set_cons_zero, List.set_cons_succ, ev]
          clear ev
          go_wp2_with fail
          exact ⟨_, rfl, hI.same (New.refl _), StayT.refl _ _ _ _, by rw [HFF.out]; exact ⟨sz2, st2, n2, ht, hn2⟩⟩
        · -- 12
          intro vs kq wq hI hF
          have f10 : pTouch w.heap.size len (vs 10) wq := (by have h := hF 10 (by rfl); rw [HFF.out] at h; exact h)
          clear hF
          obtain ⟨v, b, sz2, st2, n2, ev, ht, hn2⟩ := f10
          simp only [fillTo, dstOf, List.getElem?_toArray, List.getElem?_cons_zero, List.getElem?_cons_succ, Option.bind_some, Act.put, List.setIfInBounds_toArray, List.set_cons_zero, List.set_cons_succ, ev]
          clear ev
          go_wp2_with fail
          exact ⟨_, rfl, hI.same (New.refl _), StayT.refl _ _ _ _, by rw [HFF.out]; exact ⟨b, rfl⟩⟩
        · -- 13
          intro vs kq wq hI hF
          clear hF
          obtain ⟨q', e1, e2, hr, g0⟩ := id hI
          simp only [fillTo, dstOf, List.getElem?_toArray, List.getElem?_cons_zero, List.getElem?_cons_succ, Option.bind_some, Act.put, List.setIfInBounds_toArray, List.set_cons_zero, List.set_cons_succ]
          go_wp2_with fail
          exact ⟨_, rfl, hI.same ((New.refl _).alloc _), StayT.gb (new_gbR R ((New.refl _).alloc _)) hRw hRr, by rw [HFF.out]; exact ⟨_, rfl, g0.size, 0, 0, none, 0, 0, Nat.zero_le _, heap_alloc_new _ _, RowX.nil _ _ _ _⟩⟩
        · -- 14
          intro vs kq wq hI hF
          have f11 : pTab w.heap.size len (vs 11) wq := (by have h := hF 11 (by rfl); rw [HFF.out] at h; exact h)
          have f13 : pTabP w.heap.size len wr.heap.size (vs 13) wq := (by have h := hF 13 (by rfl); rw [HFF.out] at h; exact h)
          clear hF
          obtain ⟨q', e1, e2, hr, g0⟩ := hI
          obtain ⟨sz2, st2, n2, ⟨r2, e11, A2, c2, z2, hr2, o2⟩, hn2⟩ := f11
          subst hr2
          obtain ⟨g, e13, hgW, hb⟩ := f13
          obtain ⟨sz3, st3, A3, n3, c3, hn3, hgb, x3⟩ := id hb
          obtain ⟨C0, C1, C2⟩ := cellsT hgb
          have zG : ∀ j, wq.frozen? ⟨g, j, none⟩ = false := fun j => frozen_of_row _ _ _ _ _ hgb
          have hRg : R < g := Nat.lt_of_lt_of_le hRr hgW
          have HB := Lib.hid hb
          have HGB := Lib.hid hgb
          have x2 : RowX 50 7 w.heap.size wq (.slice A2 n2 c2) n2 := ⟨A2, c2, z2, rfl, o2⟩
          have HX2 := Lib.hid x2
          have HRD := Lib.hid hr
          have HGG := Lib.hid g0
          clear hb hgb x2 x3 o2 hr g0
          simp only [fillTo, dstOf, List.getElem?_toArray, List.getElem?_cons_zero, List.getElem?_cons_succ, Option.bind_some, Act.put, List.setIfInBounds_toArray, List.set_cons_zero, List.set_cons_succ, e11, e13]
          clear e11 e13
          go_wp2_with fail
          exact ⟨.bool true, rfl, ⟨q', e1, by omega, ((HRD.out.setNew (a := ⟨g, 0, none⟩) hRg _).setNew (a := ⟨g, 1, none⟩) hRg _).setNew (a := ⟨g, 2, none⟩) hRg _, gb_set (gb_set (gb_set HGG.out (p := ⟨g, 0, none⟩) hgW _) (p := ⟨g, 1, none⟩) hgW _) (p := ⟨g, 2, none⟩) hgW _⟩, StayT.set HGB.out HX2.out hn2, by rw [HFF.out]; exact trivial⟩
        · -- 15
          intro vs kq wq hI hF
          have f12 : pFlag (vs 12) wq := (by have h := hF 12 (by rfl); rw [HFF.out] at h; exact h)
          clear hF
          obtain ⟨b, ev⟩ := f12
          simp only [fillTo, dstOf, List.getElem?_toArray, List.getElem?_cons_zero, List.getElem?_cons_succ, Option.bind_some, Act.put, List.setIfInBounds_toArray, List.set_cons_zero, List.set_cons_succ, ev]
          clear ev
          go_wp2_with fail
          exact ⟨_, rfl, hI.same (New.refl _), StayT.refl _ _ _ _, by rw [HFF.out]; exact ⟨b, rfl⟩⟩
      · intro vs kq wq hI hF
        have f13 : pTabP w.heap.size len wr.heap.size (vs 13) wq := (by have h := hF 13 (by omega); rw [HFF.out] at h; exact h)
        have f15 : pFlag (vs 15) wq := (by have h := hF 15 (by omega); rw [HFF.out] at h; exact h)
        clear hF HFF FF
        obtain ⟨q2, e1, e2, hr, g0⟩ := hI
        obtain ⟨bb, e15⟩ := f15
        obtain ⟨g, e13, hgW, sz2, st2, A2, n2, c2, hn2, hgb, X2⟩ := f13
        have t7q := blk_gb h7 g0 hR7
        have t6q := blk_gb h6 g0 hR6
        have hg7 : G7 < g := Nat.lt_of_lt_of_le hlt7 hgW
        have T7 : TypAt wq G7 := ⟨_, t7q⟩
        have X1 : RowX 50 7 w.heap.size wq (.slice Ar len cr) len := ⟨Ar, cr, _, rfl, HO.out.gb g0 hRw⟩
        have GG : w.grownBy wq (some R) := gb_trans hg g0
        obtain ⟨C0, C1, C2⟩ := cellsT t7q
        obtain ⟨D0, D1, D2⟩ := cellsT hgb
        have z7 : ∀ j, wq.frozen? ⟨G7, j, none⟩ = false := fun j => frozen_of_row _ _ _ _ _ t7q
        have hg7n : G7 ≠ g := Nat.ne_of_lt hg7
        have HX1 := Lib.hid X1
        have HX2 := Lib.hid X2
        have HT7 := Lib.hid t7q
        have HT6 := Lib.hid t6q
        have HGG := Lib.hid GG
        have HRD := Lib.hid hr
        have HTT := Lib.hid T7
        clear X1 X2 t7q t6q hgb GG hr T7 g0 h7 h6 hg
        simp only [fillTo, dstOf, List.getElem?_toArray, List.getElem?_cons_zero, List.getElem?_cons_succ, Option.bind_some, Act.put, List.setIfInBounds_toArray, List.set_cons_zero, List.set_cons_succ, e13, e15, List.drop_succ_cons, List.drop_zero, List.drop_nil]
        clear e13 e15
        cases bb
        · go_wp2_with fail
          refine (pick_any R A n c zs q2 9 _ HRD.out (by omega) (by omega)).mono ?_
          rintro e w5 ⟨x, rfl, x0, x1, h5, g5⟩
          have x2 := x1 (by omega)
          have Y1 := HX1.out.gb g5 hRw
          have Y7 := blk_gb HT7.out g5 hR7
          have Y6 := blk_gb HT6.out g5 hR6
          have YG := gb_trans HGG.out g5
          go_wp2_with fail
          go_roundw
          case rel => exact ⟨k - 1, now + x, q2 + 1, sz, st, Ar, len, cr, by omega, by go_num, by go_num, by omega, by omega, by omega, by omega, by omega, Y1, Y7, Y6, h5, YG⟩
          case measure => simp [intOf]; omega
        · go_wp2_with fail
          refine (pick_any R A n c zs q2 9 _ (((HRD.out.setNew (a := ⟨G7, 0, none⟩) hR7l _).setNew (a := ⟨G7, 1, none⟩) hR7l _).setNew (a := ⟨G7, 2, none⟩) hR7l _) (by omega) (by omega)).mono ?_
          rintro e w5 ⟨x, rfl, x0, x1, h5, g5⟩
          have x2 := x1 (by omega)
          have Y1 := (((HX2.out.setTab HTT.out 0 _).setTab (HTT.out.set G7 0 _) 1 _).setTab ((HTT.out.set G7 0 _).set G7 1 _) 2 _).gb g5 hRw
          have Y7 := blk_gb (blk_at (blk_at (blk_at HT7.out 0 (.int .i64 sz2)) 1 (.int .i64 st2)) 2 (.slice A2 n2 c2)) g5 hR7
          have Y6 := blk_gb (blk_set (blk_set (blk_set HT6.out (a := ⟨G7, 0, none⟩) (Nat.ne_of_lt h67) _) (a := ⟨G7, 1, none⟩) (Nat.ne_of_lt h67) _) (a := ⟨G7, 2, none⟩) (Nat.ne_of_lt h67) _) g5 hR6
          have YG := gb_trans (gb_set (gb_set (gb_set HGG.out (p := ⟨G7, 0, none⟩) (Nat.le_of_lt h67) _) (p := ⟨G7, 1, none⟩) (Nat.le_of_lt h67) _) (p := ⟨G7, 2, none⟩) (Nat.le_of_lt h67) _) g5
          go_wp2_with fail
          go_roundw
          case rel => exact ⟨k - 1, now + x, q2 + 1, sz2, st2, A2, n2, c2, by omega, by go_num, by go_num, by omega, by omega, by omega, by omega, by omega, Y1, Y7, Y6, h5, YG⟩
          case measure => simp [intOf]; omega
    · obtain rfl : k = 0 := by omega
      have hcr : len ≤ 7 := by omega
      have now2 : now ≤ 56 := by omega
      go_wp2_with fail
      refine (odd_any R A n c zs q N _ hr (by omega) hN0 hN).mono ?_
      rintro e w2 ⟨v, q2, rfl, ⟨bv, rfl⟩, e3, e4, h2, g2⟩
      have X2 := X1.gb g2 hRw
      have t72 := blk_gb h7 g2 hR7
      have t62 := blk_gb h6 g2 hR6
      have G2 := gb_trans hg g2
      clear X1 h7 h6 hr hg g2
      cases bv
      · skip
        obtain ⟨C0, C1, C2⟩ := cellsT t72
        obtain ⟨D0, D1, D2⟩ := cellsT t62
        have z7 : ∀ j, w2.frozen? ⟨G7, j, none⟩ = false := fun j => frozen_of_row _ _ _ _ _ t72
        have z6 : ∀ j, w2.frozen? ⟨w.heap.size, j, none⟩ = false := fun j => frozen_of_row _ _ _ _ _ t62
        have T7 : TypAt w2 G7 := ⟨_, t72⟩
        have T6 : TypAt w2 w.heap.size := ⟨_, t62⟩
        have HX := Lib.hid X2
        have HRD := Lib.hid h2
        have HGG := Lib.hid G2
        have HT7 := Lib.hid T7
        have HT6 := Lib.hid T6
        clear X2 h2 G2 t72 t62 T7 T6
        go_wp2_with fail
        refine bodyPost_ret (v := .agg #[.int .i64 sz, .int .i64 st, .slice Ar len cr]) (by simp [results, Try.results75, go_sem, *, ↓IntWalk.iteOmega]) rfl ⟨_, q2, sz, st, len, rfl, ⟨_, rfl, ?_⟩, by omega, by omega, by omega, ?_, ?_⟩
        · exact (((HX.out.setTab HT6.out 0 (.int .i64 sz)).setTab (HT6.out.set w.heap.size 0 (.int .i64 sz)) 1 (.int .i64 st)).setTab ((HT6.out.set w.heap.size 0 (.int .i64 sz)).set w.heap.size 1 (.int .i64 st)) 2 (.slice Ar len cr))
        · exact (((HRD.out.setNew (a := ⟨w.heap.size, 0, none⟩) hRw (.int .i64 sz)).setNew (a := ⟨w.heap.size, 1, none⟩) hRw (.int .i64 st)).setNew (a := ⟨w.heap.size, 2, none⟩) hRw (.slice Ar len cr))
        · exact (gb_set (gb_set (gb_set HGG.out (p := ⟨w.heap.size, 0, none⟩) (Nat.le_refl _) (.int .i64 sz)) (p := ⟨w.heap.size, 1, none⟩) (Nat.le_refl _) (.int .i64 st)) (p := ⟨w.heap.size, 2, none⟩) (Nat.le_refl _) (.slice Ar len cr))
      · go_wp2_with fail
        refine (pick_any R A n c zs q2 4 _ h2 (by omega) (by omega)).mono ?_
        rintro e w3 ⟨x, rfl, x0, x1, h3, g3⟩
        have x2 := x1 (by omega)
        have X3 := X2.gb g3 hRw
        have t73 := blk_gb t72 g3 hR7
        have t63 := blk_gb t62 g3 hR6
        have G3 := gb_trans G2 g3
        obtain ⟨q3, hq3⟩ : ∃ q3, q2 + 1 = q3 := ⟨_, rfl⟩
        rw [hq3] at h3
        clear X2 t72 t62 h2 G2 g3 x1
        rcases (show x = 0 ∨ x = 1 ∨ x = 2 ∨ x = 3 by omega) with rfl | rfl | rfl | rfl
        · go_wp2_with fail
          have bL := (New.refl w3).alloc (.cells #[.int .i64 0, .int .i64 13] 3)
          refine (pick_any R A n c zs q3 2 _ (h3.new bL) (by omega) (by omega)).mono ?_
          rintro e w5 ⟨y, rfl, y0, y1, h5, g5⟩
          have hR3 := h3.lt
          have n5 := blk_gb (heap_alloc_new w3 (.cells #[.int .i64 0, .int .i64 13] 3)) g5 (by omega)
          have N0 : w5.cell? ⟨w3.heap.size, 0, none⟩ = some (.int .i64 0) := by rw [cell_of_row _ _ _ _ _ _ n5]; rfl
          have N1 : w5.cell? ⟨w3.heap.size, 1, none⟩ = some (.int .i64 13) := by rw [cell_of_row _ _ _ _ _ _ n5]; rfl
          have X5 := (X3.new bL).gb g5 hRw
          have t75 := blk_gb (blk_new t73 bL) g5 hR7
          have t65 := blk_gb (blk_new t63 bL) g5 hR6
          have G5 := gb_trans (gb_new G3 bL) g5
          have hne7 : w3.heap.size ≠ G7 := Nat.ne_of_gt (blk_lt t73)
          clear X3 t73 t63 h3 G3 g5 n5 bL
          rcases (show y = 0 ∨ y = 1 by have := y1 (by omega); omega) with rfl | rfl
          · skip
            obtain ⟨C0, C1, C2⟩ := cellsT t75
            obtain ⟨D0, D1, D2⟩ := cellsT t65
            have z7 : ∀ j, w5.frozen? ⟨G7, j, none⟩ = false := fun j => frozen_of_row _ _ _ _ _ t75
            have z6 : ∀ j, w5.frozen? ⟨w.heap.size, j, none⟩ = false := fun j => frozen_of_row _ _ _ _ _ t65
            have T7 : TypAt w5 G7 := ⟨_, t75⟩
            have T6 : TypAt w5 w.heap.size := ⟨_, t65⟩
            have HX := Lib.hid X5
            have HRD := Lib.hid h5
            have HGG := Lib.hid G5
            have HT7 := Lib.hid T7
            have HT6 := Lib.hid T6
            clear X5 h5 G5 t75 t65 T7 T6
            go_wp2_with fail
            refine bodyPost_ret (v := .agg #[.int .i64 0, .int .i64 st, .slice Ar len cr]) (by simp [results, Try.results75, go_sem, *, ↓IntWalk.iteOmega]) rfl ⟨_, (q3 + 1), 0, st, len, rfl, ⟨_, rfl, ?_⟩, by omega, by omega, by omega, ?_, ?_⟩
            · exact ((((HX.out.setTab HT7.out 0 (.int .i64 0)).setTab (HT6.out.set G7 0 (.int .i64 0)) 0 (.int .i64 0)).setTab ((HT6.out.set G7 0 (.int .i64 0)).set w.heap.size 0 (.int .i64 0)) 1 (.int .i64 st)).setTab (((HT6.out.set G7 0 (.int .i64 0)).set w.heap.size 0 (.int .i64 0)).set w.heap.size 1 (.int .i64 st)) 2 (.slice Ar len cr))
            · exact ((((HRD.out.setNew (a := ⟨G7, 0, none⟩) hR7l (.int .i64 0)).setNew (a := ⟨w.heap.size, 0, none⟩) hRw (.int .i64 0)).setNew (a := ⟨w.heap.size, 1, none⟩) hRw (.int .i64 st)).setNew (a := ⟨w.heap.size, 2, none⟩) hRw (.slice Ar len cr))
            · exact (gb_set (gb_set (gb_set (gb_set HGG.out (p := ⟨G7, 0, none⟩) (Nat.le_of_lt h67) (.int .i64 0)) (p := ⟨w.heap.size, 0, none⟩) (Nat.le_refl _) (.int .i64 0)) (p := ⟨w.heap.size, 1, none⟩) (Nat.le_refl _) (.int .i64 st)) (p := ⟨w.heap.size, 2, none⟩) (Nat.le_refl _) (.slice Ar len cr))
          · skip
            obtain ⟨C0, C1, C2⟩ := cellsT t75
            obtain ⟨D0, D1, D2⟩ := cellsT t65
            have z7 : ∀ j, w5.frozen? ⟨G7, j, none⟩ = false := fun j => frozen_of_row _ _ _ _ _ t75
            have z6 : ∀ j, w5.frozen? ⟨w.heap.size, j, none⟩ = false := fun j => frozen_of_row _ _ _ _ _ t65
            have T7 : TypAt w5 G7 := ⟨_, t75⟩
            have T6 : TypAt w5 w.heap.size := ⟨_, t65⟩
            have HX := Lib.hid X5
            have HRD := Lib.hid h5
            have HGG := Lib.hid G5
            have HT7 := Lib.hid T7
            have HT6 := Lib.hid T6
            clear X5 h5 G5 t75 t65 T7 T6
            go_wp2_with fail
            refine bodyPost_ret (v := .agg #[.int .i64 13, .int .i64 st, .slice Ar len cr]) (by simp [results, Try.results75, go_sem, *, ↓IntWalk.iteOmega]) rfl ⟨_, (q3 + 1), 13, st, len, rfl, ⟨_, rfl, ?_⟩, by omega, by omega, by omega, ?_, ?_⟩
            · exact ((((HX.out.setTab HT7.out 0 (.int .i64 13)).setTab (HT6.out.set G7 0 (.int .i64 13)) 0 (.int .i64 13)).setTab ((HT6.out.set G7 0 (.int .i64 13)).set w.heap.size 0 (.int .i64 13)) 1 (.int .i64 st)).setTab (((HT6.out.set G7 0 (.int .i64 13)).set w.heap.size 0 (.int .i64 13)).set w.heap.size 1 (.int .i64 st)) 2 (.slice Ar len cr))
            · exact ((((HRD.out.setNew (a := ⟨G7, 0, none⟩) hR7l (.int .i64 13)).setNew (a := ⟨w.heap.size, 0, none⟩) hRw (.int .i64 13)).setNew (a := ⟨w.heap.size, 1, none⟩) hRw (.int .i64 st)).setNew (a := ⟨w.heap.size, 2, none⟩) hRw (.slice Ar len cr))
            · exact (gb_set (gb_set (gb_set (gb_set HGG.out (p := ⟨G7, 0, none⟩) (Nat.le_of_lt h67) (.int .i64 13)) (p := ⟨w.heap.size, 0, none⟩) (Nat.le_refl _) (.int .i64 13)) (p := ⟨w.heap.size, 1, none⟩) (Nat.le_refl _) (.int .i64 st)) (p := ⟨w.heap.size, 2, none⟩) (Nat.le_refl _) (.slice Ar len cr))
        · skip
          obtain ⟨C0, C1, C2⟩ := cellsT t73
          obtain ⟨D0, D1, D2⟩ := cellsT t63
          have z7 : ∀ j, w3.frozen? ⟨G7, j, none⟩ = false := fun j => frozen_of_row _ _ _ _ _ t73
          have z6 : ∀ j, w3.frozen? ⟨w.heap.size, j, none⟩ = false := fun j => frozen_of_row _ _ _ _ _ t63
          have T7 : TypAt w3 G7 := ⟨_, t73⟩
          have T6 : TypAt w3 w.heap.size := ⟨_, t63⟩
          have HX := Lib.hid X3
          have HRD := Lib.hid h3
          have HGG := Lib.hid G3
          have HT7 := Lib.hid T7
          have HT6 := Lib.hid T6
          clear X3 h3 G3 t73 t63 T7 T6
          go_wp2_with fail
          refine bodyPost_ret (v := .agg #[.int .i64 sz, .int .i64 0, .slice Ar len cr]) (by simp [results, Try.results75, go_sem, *, ↓IntWalk.iteOmega]) rfl ⟨_, q3, sz, 0, len, rfl, ⟨_, rfl, ?_⟩, by omega, by omega, by omega, ?_, ?_⟩
          · exact ((((HX.out.setTab HT7.out 1 (.int .i64 0)).setTab (HT6.out.set G7 1 (.int .i64 0)) 0 (.int .i64 sz)).setTab ((HT6.out.set G7 1 (.int .i64 0)).set w.heap.size 0 (.int .i64 sz)) 1 (.int .i64 0)).setTab (((HT6.out.set G7 1 (.int .i64 0)).set w.heap.size 0 (.int .i64 sz)).set w.heap.size 1 (.int .i64 0)) 2 (.slice Ar len cr))
          · exact ((((HRD.out.setNew (a := ⟨G7, 1, none⟩) hR7l (.int .i64 0)).setNew (a := ⟨w.heap.size, 0, none⟩) hRw (.int .i64 sz)).setNew (a := ⟨w.heap.size, 1, none⟩) hRw (.int .i64 0)).setNew (a := ⟨w.heap.size, 2, none⟩) hRw (.slice Ar len cr))
          · exact (gb_set (gb_set (gb_set (gb_set HGG.out (p := ⟨G7, 1, none⟩) (Nat.le_of_lt h67) (.int .i64 0)) (p := ⟨w.heap.size, 0, none⟩) (Nat.le_refl _) (.int .i64 sz)) (p := ⟨w.heap.size, 1, none⟩) (Nat.le_refl _) (.int .i64 0)) (p := ⟨w.heap.size, 2, none⟩) (Nat.le_refl _) (.slice Ar len cr))
        · go_wp2_with fail
          obtain ⟨FF, hFF⟩ : ∃ FF, FF = factAt [pVal (.pointer (some ⟨G7, 2, none⟩)), pVal (.slice Ar len cr), pVal (.pointer (some ⟨R, 0, none⟩)), pAgg5 (-1) 1000, pVal (.int .i64 now), pAgg7, pX w.heap.size 1, pX w.heap.size (len + 1), pVal (.pointer (some ⟨G7, 2, none⟩))] := ⟨_, rfl⟩
          have HFF := Lib.hid hFF
          clear hFF
          refine wp_region_tail 9 (by kernel_rfl) (by kernel_rfl) (by kernel_rfl) (by decide) (TabI w R A n c zs q3 600 G7 sz st Ar len cr) FF (StayX w.heap.size) (by rw [HFF.out]; exact factAt_keptX (by
              intro P hP
              simp only [List.mem_cons, List.not_mem_nil, or_false] at hP
              rcases hP with rfl | rfl | rfl | rfl | rfl | rfl | rfl | rfl | rfl
              · exact keptX_val _ _
              · exact keptX_val _ _
              · exact keptX_val _ _
              · exact keptX_any _ _ (fun _ _ _ h => h)
              · exact keptX_val _ _
              · exact keptX_any _ _ (fun _ _ _ h => h)
              · exact keptX_row _ _
              · exact keptX_row _ _
              · exact keptX_val _ _
              )) ⟨q3, by omega, by omega, h3.new ((New.refl _).drew), gb_new G3 ((New.refl _).drew), X3.new ((New.refl _).drew), blk_new t73 ((New.refl _).drew), blk_new t63 ((New.refl _).drew)⟩ ?_ ?_
          · refine ⟨?_, ?_, ?_, ?_, ?_, ?_, ?_, ?_, ?_, trivial⟩
            · -- 0
              intro vs kq wq hI hF
              clear hF
              simp only [fillTo, dstOf, List.getElem?_toArray, List.getElem?_cons_zero, List.getElem?_cons_succ, Option.bind_some, Act.put, List.setIfInBounds_toArray, List.set_cons_zero, List.set_cons_succ]
              go_wp2_with fail
              exact ⟨_, rfl, hI.same (New.refl _), StayX.refl _ _, by rw [HFF.out]; exact rfl⟩
            · -- 1
              intro vs kq wq hI hF
              have f0 : pVal (.pointer (some ⟨G7, 2, none⟩)) (vs 0) wq := (by have h := hF 0 (by rfl); rw [HFF.out] at h; exact h)
              unfold pVal at f0
              clear hF
              obtain ⟨C0, C1, C2⟩ := cellsT hI.t7
              simp only [fillTo, dstOf, List.getElem?_toArray, List.getElem?_cons_zero, List.getElem?_cons_succ, Option.bind_some, Act.put, List.setIfInBounds_toArray, List.set_cons_zero, List.set_cons_succ, f0]
              clear f0
              go_wp2_with fail
              exact ⟨_, rfl, hI.same (New.refl _), StayX.refl _ _, by rw [HFF.out]; exact rfl⟩
            · -- 2
              intro vs kq wq hI hF
              clear hF
              simp only [fillTo, dstOf, List.getElem?_toArray, List.getElem?_cons_zero, List.getElem?_cons_succ, Option.bind_some, Act.put, List.setIfInBounds_toArray, List.set_cons_zero, List.set_cons_succ]
              go_wp2_with fail
              exact ⟨_, rfl, hI.same (New.refl _), StayX.refl _ _, by rw [HFF.out]; exact rfl⟩
            · -- 3
              intro vs kq wq hI hF
              have f2 : pVal (.pointer (some ⟨R, 0, none⟩)) (vs 2) wq := (by have h := hF 2 (by rfl); rw [HFF.out] at h; exact h)
              unfold pVal at f2
              clear hF
              obtain ⟨q', e1, e2, hr, g0, X1, t7, t6⟩ := hI
              simp only [fillTo, dstOf, List.getElem?_toArray, List.getElem?_cons_zero, List.getElem?_cons_succ, Option.bind_some, Act.put, List.setIfInBounds_toArray, List.set_cons_zero, List.set_cons_succ, f2]
              clear f2
              go_wp2_with fail
              refine (l20Flow_any R A _ c _ q' 1 _ hr (by omega) (by omega) (by omega)).mono ?_
              rintro e w' ⟨v, q2, rfl, hv, e3, e4, h2, g2⟩
              go_wp2_with fail
              exact ⟨_, rfl, ⟨q2, by omega, by omega, h2, gb_trans g0 g2, X1.gb g2 hRw, blk_gb t7 g2 hR7, blk_gb t6 g2 hR6⟩, fun _ _ h => h.gb g2 hRw, by rw [HFF.out]; exact hv⟩
            · -- 4
              intro vs kq wq hI hF
              clear hF
              simp only [fillTo, dstOf, List.getElem?_toArray, List.getElem?_cons_zero, List.getElem?_cons_succ, Option.bind_some, Act.put, List.setIfInBounds_toArray, List.set_cons_zero, List.set_cons_succ]
              go_wp2_with fail
              exact ⟨_, rfl, hI.same (New.refl _), StayX.refl _ _, by rw [HFF.out]; exact rfl⟩
            · -- 5
              intro vs kq wq hI hF
              have f3 : pAgg5 (-1) 1000 (vs 3) wq := (by have h := hF 3 (by rfl); rw [HFF.out] at h; exact h)
              have f4 : pVal (.int .i64 now) (vs 4) wq := (by have h := hF 4 (by rfl); rw [HFF.out] at h; exact h)
              unfold pVal at f4
              clear hF
              obtain ⟨xa, xb, xc, xd, xk, ev3, _⟩ := f3
              simp only [fillTo, dstOf, List.getElem?_toArray, List.getElem?_cons_zero, List.getElem?_cons_succ, Option.bind_some, Act.put, List.setIfInBounds_toArray, List.set_cons_zero, List.set_cons_succ, ev3, f4]
              clear ev3 f4
              go_wp2_with fail
              exact ⟨_, rfl, hI.same (New.refl _), StayX.refl _ _, by rw [HFF.out]; exact ⟨xa, xb, xc, xd, xk, 0, now, rfl⟩⟩
            · -- 6
              intro vs kq wq hI hF
              have f5 : pAgg7 (vs 5) wq := (by have h := hF 5 (by rfl); rw [HFF.out] at h; exact h)
              clear hF
              obtain ⟨xa, xb, xc, xd, xk, xt, xl, ev5⟩ := f5
              simp only [fillTo, dstOf, List.getElem?_toArray, List.getElem?_cons_zero, List.getElem?_cons_succ, Option.bind_some, Act.put, List.setIfInBounds_toArray, List.set_cons_zero, List.set_cons_succ, ev5]
              clear ev5
              have hBq := hI.le
              go_wp2_with fail
              exact ⟨_, rfl, hI.same ((New.refl _).alloc _), StayX.new ((New.refl _).alloc _), by rw [HFF.out]; exact ⟨_, 1, [xa, xb, xc, xd, xk, xt, xl], rfl, World.ownsRow_lit wq #[.int .i64 xa, .int .i64 xb, .int .i64 xc, .int .i64 xd, .int .i64 xk, .int .i64 xt, .int .i64 xl] 1 hBq (by unfold maxLen; omega) rfl⟩⟩
            · -- 7
              intro vs kq wq hI hF
              have f1 : pVal (.slice Ar len cr) (vs 1) wq := (by have h := hF 1 (by rfl); rw [HFF.out] at h; exact h)
              unfold pVal at f1
              have f6 : pX w.heap.size 1 (vs 6) wq := (by have h := hF 6 (by rfl); rw [HFF.out] at h; exact h)
              clear hF
              obtain ⟨A6, c6, z6, e6, o6⟩ := f6
              obtain ⟨g6, rfl⟩ := o6.some_ (by omega)
              obtain ⟨q', e1, e2, hr, g0, X1, t7, t6⟩ := hI
              obtain ⟨Ax, cx, zx, ex, ox⟩ := id X1
              cases ex
              simp only [fillTo, dstOf, List.getElem?_toArray, List.getElem?_cons_zero, List.getElem?_cons_succ, Option.bind_some, Act.put, List.setIfInBounds_toArray, List.set_cons_zero, List.set_cons_succ, f1, e6]
              clear f1 e6
              go_wp2_with (at_builtin; refine wpList_append_X _ rfl (.tmp 78) (.tmp 83) 42 rfl (bare wq) w.heap.size 50 i0 _ 7 56 Try.underlying42 hi iz0 iz1 iz2 rfl (by omega) (by omega) (.slice Ar len cr) len rfl X1 (some ⟨g6, 0, none⟩) 1 c6 z6 rfl (fun e => by cases e) o6.len o6.ints (by omega) (Nat.zero_le _) g0.size (new_bare wq) ?_; intro v2 w2 r2 n2 g2 k2)
              exact ⟨_, rfl, ⟨q', e1, by omega, hr.app ox hRw g2, gb_app g0 ox g2, k2 _ _ X1, tab_kept X1 t7 g2, tab_kept X1 t6 g2⟩, k2, by rw [HFF.out]; exact r2⟩
            · -- 8
              intro vs kq wq hI hF
              clear hF
              simp only [fillTo, dstOf, List.getElem?_toArray, List.getElem?_cons_zero, List.getElem?_cons_succ, Option.bind_some, Act.put, List.setIfInBounds_toArray, List.set_cons_zero, List.set_cons_succ]
              go_wp2_with fail
              exact ⟨_, rfl, hI.same (New.refl _), StayX.refl _ _, by rw [HFF.out]; exact rfl⟩
          · intro vs kq wq hI hF
            have f7 : pX w.heap.size (len + 1) (vs 7) wq := (by have h := hF 7 (by omega); rw [HFF.out] at h; exact h)
            have f8 : pVal (.pointer (some ⟨G7, 2, none⟩)) (vs 8) wq := (by have h := hF 8 (by omega); rw [HFF.out] at h; exact h)
            unfold pVal at f8
            clear hF HFF FF
            obtain ⟨q', e1, e2, hr, g0, X1, t7, t6⟩ := hI
            obtain ⟨A2, c2, z2, e7, o2⟩ := f7
            have X2 : RowX 50 7 w.heap.size wq (.slice A2 (len + 1) c2) (len + 1) := ⟨A2, c2, z2, rfl, o2⟩
            clear X1 o2
            simp only [fillTo, dstOf, List.getElem?_toArray, List.getElem?_cons_zero, List.getElem?_cons_succ, Option.bind_some, Act.put, List.setIfInBounds_toArray, List.set_cons_zero, List.set_cons_succ, e7, f8, List.drop_succ_cons, List.drop_zero]
            clear e7 f8
            obtain ⟨C0, C1, C2⟩ := cellsT t7
            obtain ⟨D0, D1, D2⟩ := cellsT t6
            have z7 : ∀ j, wq.frozen? ⟨G7, j, none⟩ = false := fun j => frozen_of_row _ _ _ _ _ t7
            have z6 : ∀ j, wq.frozen? ⟨w.heap.size, j, none⟩ = false := fun j => frozen_of_row _ _ _ _ _ t6
            have T7 : TypAt wq G7 := ⟨_, t7⟩
            have T6 : TypAt wq w.heap.size := ⟨_, t6⟩
            have HX := Lib.hid X2
            have HRD := Lib.hid hr
            have HGG := Lib.hid g0
            have HT7 := Lib.hid T7
            have HT6 := Lib.hid T6
            clear X2 hr g0 t7 t6 T7 T6
            go_wp2_with fail
            refine bodyPost_ret (v := .agg #[.int .i64 sz, .int .i64 st, .slice A2 (len + 1) c2]) (by simp [results, Try.results75, go_sem, *, ↓IntWalk.iteOmega]) rfl ⟨_, q', sz, st, (len + 1), rfl, ⟨_, rfl, ?_⟩, by omega, by omega, by omega, ?_, ?_⟩
            · exact ((((HX.out.setTab HT7.out 2 (.slice A2 (len + 1) c2)).setTab (HT6.out.set G7 2 (.slice A2 (len + 1) c2)) 0 (.int .i64 sz)).setTab ((HT6.out.set G7 2 (.slice A2 (len + 1) c2)).set w.heap.size 0 (.int .i64 sz)) 1 (.int .i64 st)).setTab (((HT6.out.set G7 2 (.slice A2 (len + 1) c2)).set w.heap.size 0 (.int .i64 sz)).set w.heap.size 1 (.int .i64 st)) 2 (.slice A2 (len + 1) c2))
            · exact ((((HRD.out.setNew (a := ⟨G7, 2, none⟩) hR7l (.slice A2 (len + 1) c2)).setNew (a := ⟨w.heap.size, 0, none⟩) hRw (.int .i64 sz)).setNew (a := ⟨w.heap.size, 1, none⟩) hRw (.int .i64 st)).setNew (a := ⟨w.heap.size, 2, none⟩) hRw (.slice A2 (len + 1) c2))
            · exact (gb_set (gb_set (gb_set (gb_set HGG.out (p := ⟨G7, 2, none⟩) (Nat.le_of_lt h67) (.slice A2 (len + 1) c2)) (p := ⟨w.heap.size, 0, none⟩) (Nat.le_refl _) (.int .i64 sz)) (p := ⟨w.heap.size, 1, none⟩) (Nat.le_refl _) (.int .i64 st)) (p := ⟨w.heap.size, 2, none⟩) (Nat.le_refl _) (.slice A2 (len + 1) c2))
        · go_wp2_with fail
          obtain ⟨FF, hFF⟩ : ∃ FF, FF = factAt [pVal (.pointer (some ⟨G7, 2, none⟩)), pVal (.slice Ar len cr), pVal (.pointer (some ⟨R, 0, none⟩)), pAgg5 (-1) 1000, pVal (.int .i64 now), pAgg7, pX w.heap.size 1, pX w.heap.size (len + 1), pVal (.pointer (some ⟨G7, 2, none⟩))] := ⟨_, rfl⟩
          have HFF := Lib.hid hFF
          clear hFF
          refine wp_region_tail 9 (by kernel_rfl) (by kernel_rfl) (by kernel_rfl) (by decide) (TabI w R A n c zs q3 600 G7 sz st Ar len cr) FF (StayX w.heap.size) (by rw [HFF.out]; exact factAt_keptX (by
              intro P hP
              simp only [List.mem_cons, List.not_mem_nil, or_false] at hP
              rcases hP with rfl | rfl | rfl | rfl | rfl | rfl | rfl | rfl | rfl
              · exact keptX_val _ _
              · exact keptX_val _ _
              · exact keptX_val _ _
              · exact keptX_any _ _ (fun _ _ _ h => h)
              · exact keptX_val _ _
              · exact keptX_any _ _ (fun _ _ _ h => h)
              · exact keptX_row _ _
              · exact keptX_row _ _
              · exact keptX_val _ _
              )) ⟨q3, by omega, by omega, h3.new ((New.refl _).drew), gb_new G3 ((New.refl _).drew), X3.new ((New.refl _).drew), blk_new t73 ((New.refl _).drew), blk_new t63 ((New.refl _).drew)⟩ ?_ ?_
          · refine ⟨?_, ?_, ?_, ?_, ?_, ?_, ?_, ?_, ?_, trivial⟩
            · -- 0
              intro vs kq wq hI hF
              clear hF
              simp only [fillTo, dstOf, List.getElem?_toArray, List.getElem?_cons_zero, List.getElem?_cons_succ, Option.bind_some, Act.put, List.setIfInBounds_toArray, List.set_cons_zero, List.set_cons_succ]
              go_wp2_with fail
              exact ⟨_, rfl, hI.same (New.refl _), StayX.refl _ _, by rw [HFF.out]; exact rfl⟩
            · -- 1
              intro vs kq wq hI hF
              have f0 : pVal (.pointer (some ⟨G7, 2, none⟩)) (vs 0) wq := (by have h := hF 0 (by rfl); rw [HFF.out] at h; exact h)
              unfold pVal at f0
              clear hF
              obtain ⟨C0, C1, C2⟩ := cellsT hI.t7
              simp only [fillTo, dstOf, List.getElem?_toArray, List.getElem?_cons_zero, List.getElem?_cons_succ, Option.bind_some, Act.put, List.setIfInBounds_toArray, List.set_cons_zero, List.set_cons_succ, f0]
              clear f0
              go_wp2_with fail
              exact ⟨_, rfl, hI.same (New.refl _), StayX.refl _ _, by rw [HFF.out]; exact rfl⟩
            · -- 2
              intro vs kq wq hI hF
              clear hF
              simp only [fillTo, dstOf, List.getElem?_toArray, List.getElem?_cons_zero, List.getElem?_cons_succ, Option.bind_some, Act.put, List.setIfInBounds_toArray, List.set_cons_zero, List.set_cons_succ]
              go_wp2_with fail
              exact ⟨_, rfl, hI.same (New.refl _), StayX.refl _ _, by rw [HFF.out]; exact rfl⟩
            · -- 3
              intro vs kq wq hI hF
              have f2 : pVal (.pointer (some ⟨R, 0, none⟩)) (vs 2) wq := (by have h := hF 2 (by rfl); rw [HFF.out] at h; exact h)
              unfold pVal at f2
              clear hF
              obtain ⟨q', e1, e2, hr, g0, X1, t7, t6⟩ := hI
              simp only [fillTo, dstOf, List.getElem?_toArray, List.getElem?_cons_zero, List.getElem?_cons_succ, Option.bind_some, Act.put, List.setIfInBounds_toArray, List.set_cons_zero, List.set_cons_succ, f2]
              clear f2
              go_wp2_with fail
              refine (l20Flow_any R A _ c _ q' 0 _ hr (by omega) (by omega) (by omega)).mono ?_
              rintro e w' ⟨v, q2, rfl, hv, e3, e4, h2, g2⟩
              go_wp2_with fail
              exact ⟨_, rfl, ⟨q2, by omega, by omega, h2, gb_trans g0 g2, X1.gb g2 hRw, blk_gb t7 g2 hR7, blk_gb t6 g2 hR6⟩, fun _ _ h => h.gb g2 hRw, by rw [HFF.out]; exact hv⟩
            · -- 4
              intro vs kq wq hI hF
              clear hF
              simp only [fillTo, dstOf, List.getElem?_toArray, List.getElem?_cons_zero, List.getElem?_cons_succ, Option.bind_some, Act.put, List.setIfInBounds_toArray, List.set_cons_zero, List.set_cons_succ]
              go_wp2_with fail
              exact ⟨_, rfl, hI.same (New.refl _), StayX.refl _ _, by rw [HFF.out]; exact rfl⟩
            · -- 5
              intro vs kq wq hI hF
              have f3 : pAgg5 (-1) 1000 (vs 3) wq := (by have h := hF 3 (by rfl); rw [HFF.out] at h; exact h)
              have f4 : pVal (.int .i64 now) (vs 4) wq := (by have h := hF 4 (by rfl); rw [HFF.out] at h; exact h)
              unfold pVal at f4
              clear hF
              obtain ⟨xa, xb, xc, xd, xk, ev3, _⟩ := f3
              simp only [fillTo, dstOf, List.getElem?_toArray, List.getElem?_cons_zero, List.getElem?_cons_succ, Option.bind_some, Act.put, List.setIfInBounds_toArray, List.set_cons_zero, List.set_cons_succ, ev3, f4]
              clear ev3 f4
              go_wp2_with fail
              exact ⟨_, rfl, hI.same (New.refl _), StayX.refl _ _, by rw [HFF.out]; exact ⟨xa, xb, xc, xd, xk, 31, now, rfl⟩⟩
            · -- 6
              intro vs kq wq hI hF
              have f5 : pAgg7 (vs 5) wq := (by have h := hF 5 (by rfl); rw [HFF.out] at h; exact h)
              clear hF
              obtain ⟨xa, xb, xc, xd, xk, xt, xl, ev5⟩ := f5
              simp only [fillTo, dstOf, List.getElem?_toArray, List.getElem?_cons_zero, List.getElem?_cons_succ, Option.bind_some, Act.put, List.setIfInBounds_toArray, List.set_cons_zero, List.set_cons_succ, ev5]
              clear ev5
              have hBq := hI.le
              go_wp2_with fail
              exact ⟨_, rfl, hI.same ((New.refl _).alloc _), StayX.new ((New.refl _).alloc _), by rw [HFF.out]; exact ⟨_, 1, [xa, xb, xc, xd, xk, xt, xl], rfl, World.ownsRow_lit wq #[.int .i64 xa, .int .i64 xb, .int .i64 xc, .int .i64 xd, .int .i64 xk, .int .i64 xt, .int .i64 xl] 1 hBq (by unfold maxLen; omega) rfl⟩⟩
            · -- 7
              intro vs kq wq hI hF
              have f1 : pVal (.slice Ar len cr) (vs 1) wq := (by have h := hF 1 (by rfl); rw [HFF.out] at h; exact h)
              unfold pVal at f1
              have f6 : pX w.heap.size 1 (vs 6) wq := (by have h := hF 6 (by rfl); rw [HFF.out] at h; exact h)
              clear hF
              obtain ⟨A6, c6, z6, e6, o6⟩ := f6
              obtain ⟨g6, rfl⟩ := o6.some_ (by omega)
              obtain ⟨q', e1, e2, hr, g0, X1, t7, t6⟩ := hI
              obtain ⟨Ax, cx, zx, ex, ox⟩ := id X1
              cases ex
              simp only [fillTo, dstOf, List.getElem?_toArray, List.getElem?_cons_zero, List.getElem?_cons_succ, Option.bind_some, Act.put, List.setIfInBounds_toArray, List.set_cons_zero, List.set_cons_succ, f1, e6]
              clear f1 e6
              go_wp2_with (at_builtin; refine wpList_append_X _ rfl (.tmp 56) (.tmp 61) 42 rfl (bare wq) w.heap.size 50 i0 _ 7 56 Try.underlying42 hi iz0 iz1 iz2 rfl (by omega) (by omega) (.slice Ar len cr) len rfl X1 (some ⟨g6, 0, none⟩) 1 c6 z6 rfl (fun e => by cases e) o6.len o6.ints (by omega) (Nat.zero_le _) g0.size (new_bare wq) ?_; intro v2 w2 r2 n2 g2 k2)
              exact ⟨_, rfl, ⟨q', e1, by omega, hr.app ox hRw g2, gb_app g0 ox g2, k2 _ _ X1, tab_kept X1 t7 g2, tab_kept X1 t6 g2⟩, k2, by rw [HFF.out]; exact r2⟩
            · -- 8
              intro vs kq wq hI hF
              clear hF
              simp only [fillTo, dstOf, List.getElem?_toArray, List.getElem?_cons_zero, List.getElem?_cons_succ, Option.bind_some, Act.put, List.setIfInBounds_toArray, List.set_cons_zero, List.set_cons_succ]
              go_wp2_with fail
              exact ⟨_, rfl, hI.same (New.refl _), StayX.refl _ _, by rw [HFF.out]; exact rfl⟩
          · intro vs kq wq hI hF
            have f7 : pX w.heap.size (len + 1) (vs 7) wq := (by have h := hF 7 (by omega); rw [HFF.out] at h; exact h)
            have f8 : pVal (.pointer (some ⟨G7, 2, none⟩)) (vs 8) wq := (by have h := hF 8 (by omega); rw [HFF.out] at h; exact h)
            unfold pVal at f8
            clear hF HFF FF
            obtain ⟨q', e1, e2, hr, g0, X1, t7, t6⟩ := hI
            obtain ⟨A2, c2, z2, e7, o2⟩ := f7
            have X2 : RowX 50 7 w.heap.size wq (.slice A2 (len + 1) c2) (len + 1) := ⟨A2, c2, z2, rfl, o2⟩
            clear X1 o2
            simp only [fillTo, dstOf, List.getElem?_toArray, List.getElem?_cons_zero, List.getElem?_cons_succ, Option.bind_some, Act.put, List.setIfInBounds_toArray, List.set_cons_zero, List.set_cons_succ, e7, f8, List.drop_succ_cons, List.drop_zero]
            clear e7 f8
            obtain ⟨C0, C1, C2⟩ := cellsT t7
            obtain ⟨D0, D1, D2⟩ := cellsT t6
            have z7 : ∀ j, wq.frozen? ⟨G7, j, none⟩ = false := fun j => frozen_of_row _ _ _ _ _ t7
            have z6 : ∀ j, wq.frozen? ⟨w.heap.size, j, none⟩ = false := fun j => frozen_of_row _ _ _ _ _ t6
            have T7 : TypAt wq G7 := ⟨_, t7⟩
            have T6 : TypAt wq w.heap.size := ⟨_, t6⟩
            have HX := Lib.hid X2
            have HRD := Lib.hid hr
            have HGG := Lib.hid g0
            have HT7 := Lib.hid T7
            have HT6 := Lib.hid T6
            clear X2 hr g0 t7 t6 T7 T6
            go_wp2_with fail
            refine bodyPost_ret (v := .agg #[.int .i64 sz, .int .i64 st, .slice A2 (len + 1) c2]) (by simp [results, Try.results75, go_sem, *, ↓IntWalk.iteOmega]) rfl ⟨_, q', sz, st, (len + 1), rfl, ⟨_, rfl, ?_⟩, by omega, by omega, by omega, ?_, ?_⟩
            · exact ((((HX.out.setTab HT7.out 2 (.slice A2 (len + 1) c2)).setTab (HT6.out.set G7 2 (.slice A2 (len + 1) c2)) 0 (.int .i64 sz)).setTab ((HT6.out.set G7 2 (.slice A2 (len + 1) c2)).set w.heap.size 0 (.int .i64 sz)) 1 (.int .i64 st)).setTab (((HT6.out.set G7 2 (.slice A2 (len + 1) c2)).set w.heap.size 0 (.int .i64 sz)).set w.heap.size 1 (.int .i64 st)) 2 (.slice A2 (len + 1) c2))
            · exact ((((HRD.out.setNew (a := ⟨G7, 2, none⟩) hR7l (.slice A2 (len + 1) c2)).setNew (a := ⟨w.heap.size, 0, none⟩) hRw (.int .i64 sz)).setNew (a := ⟨w.heap.size, 1, none⟩) hRw (.int .i64 st)).setNew (a := ⟨w.heap.size, 2, none⟩) hRw (.slice A2 (len + 1) c2))
            · exact (gb_set (gb_set (gb_set (gb_set HGG.out (p := ⟨G7, 2, none⟩) (Nat.le_of_lt h67) (.slice A2 (len + 1) c2)) (p := ⟨w.heap.size, 0, none⟩) (Nat.le_refl _) (.int .i64 sz)) (p := ⟨w.heap.size, 1, none⟩) (Nat.le_refl _) (.int .i64 st)) (p := ⟨w.heap.size, 2, none⟩) (Nat.le_refl _) (.slice A2 (len + 1) c2))
end Go.Proofs.Ytbnehcaallehbaa
