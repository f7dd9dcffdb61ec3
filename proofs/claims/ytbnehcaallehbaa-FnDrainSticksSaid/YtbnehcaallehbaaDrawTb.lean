/- Draws of tables: with a host, with a flow. -/
import Derived.Test.YtbnehcaallehbaaDrawTab
namespace Go.Proofs.Ytbnehcaallehbaa
set_option linter.unusedVariables false
set_option linter.unusedSimpArgs false
open Go.RowKit Go.Sort

theorem Own.capM {E : TypeId} {size B n c : Nat} {w : World} {A : Option Addr} {zs : List Int} (h : Own E size B w A n c zs) : c ≤ maxLen := by
  rcases h.2 with ⟨hv, h0⟩ | ⟨g, cap, cur, hv, _, _, _, hcm, _⟩
  · injection hv with _ _ h3
    omega
  · injection hv with _ _ h3
    omega
theorem Own.someT {E : TypeId} {size B n c : Nat} {w : World} {A : Option Addr} {zs : List Int} (h : Own E size B w A n c zs) (hn : 0 < n) : ∃ g, A = some ⟨g, 0, none⟩ := by
  rcases h.2 with ⟨_, h0⟩ | ⟨g, cap, cur, hv, _⟩
  · omega
  · injection hv with h1
    exact ⟨g, h1⟩
theorem new_of_gb {w w' : World} {R : Nat} (h : w.grownBy w' (some R)) (hR : w.heap.size ≤ R) : New w w' := new_gb (New.refl w) h hR
def Holds3 (G : Nat) (sz st : Int) (Ar : Option Addr) (len cr : Nat) (w : World) : Prop := w.heap[G]? = some (.cells #[.int .i64 sz, .int .i64 st, .slice Ar len cr] 44 (0, 0))
def Holds5 (G : Nat) (w : World) : Prop := ∃ a b c d k : Int, w.heap[G]? = some (.cells #[.int .i64 a, .int .i64 b, .int .i64 c, .int .i64 d, .int .i64 k] 48 (0, 0))
theorem Holds5.gb {G R : Nat} {w w' : World} (h : Holds5 G w) (hg : w.grownBy w' (some R)) (hR : G ≠ R) : Holds5 G w' := by
  obtain ⟨a, b, c, d, k, h⟩ := h
  exact ⟨a, b, c, d, k, blk_gb h hg hR⟩
theorem Holds5.set3 {G g : Nat} {w : World} (h : Holds5 G w) (hg : G ≠ g) {x y z : Value} : Holds5 G (((w.setCell ⟨g, 0, none⟩ x).setCell ⟨g, 1, none⟩ y).setCell ⟨g, 2, none⟩ z) := by
  obtain ⟨a, b, c, d, k, h⟩ := h
  exact ⟨a, b, c, d, k, blk_set (blk_set (blk_set h (a := ⟨g, 0, none⟩) hg _) (a := ⟨g, 1, none⟩) hg _) (a := ⟨g, 2, none⟩) hg _⟩
/-- The reader stays as it is where a block is written that came behind its bytes. -/
theorem RdAt.setLow {w : World} {R : Nat} {A : Option Addr} {n c : Nat} {zs : List Int} {p : Nat} (h : RdAt w R A n c zs p) {g W : Nat} (hne : g ≠ R) (hA : ∀ b o, 0 < zs.length → A = some ⟨b, o, none⟩ → b < W) (hW : W ≤ g) (j : Nat) (u : Value) : RdAt (w.setCell ⟨g, j, none⟩ u) R A n c zs p :=
  h.kept (row := some g) (setCell_gbT w ⟨g, j, none⟩ u) (by simpa using hne) (fun b o hz hAe e => by
    have := hA b o hz hAe
    have e : g = b := by simpa using e
    omega)
theorem code_lt {A : Option Addr} {n c : Nat} {zs : List Int} {w : World} (h : CodeArg w A n c zs) : ∀ b o, 0 < (zs.take 2000).length → A = some ⟨b, o, none⟩ → b < w.heap.size := fun b o hz hA => by
  have hz' : 0 < zs.length := by simp at hz; omega
  obtain ⟨b', o', hA', hc⟩ := h.2.2.2.2 hz'
  rw [hA] at hA'
  obtain ⟨rfl, rfl⟩ : b = b' ∧ o = o' := by simpa using hA'
  exact World.block_lt_of_cell? w _ (hc 0 hz')
theorem pick5_any (R : Nat) (A : Option Addr) (n c : Nat) (zs : List Int) (p N : Nat) (w : World) (h : RdAt w R A n c zs p) (hp : p ≤ 1000000) (hN0 : 0 < N) (hN : N ≤ 1000) :
    Calls Try.prog 83 #[.pointer (some ⟨R, 0, none⟩), .int .i64 N] w (ReadRet 1 w R A n c zs p (pInt 0 ((N : Int) - 1))) :=
  (pick_any R A n c zs p N w h hp (by omega)).mono fun _ _ ⟨x, he, x0, x1, h1, g1⟩ => ⟨_, p + 1, he, ⟨x, rfl, x0, by have := x1 (by omega); omega⟩, by omega, by omega, h1, g1⟩
def StayB (P3 P4 : World → Prop) (w w' : World) : Prop := (P3 w → P3 w') ∧ (P4 w → P4 w')
theorem StayB.refl (P3 P4 : World → Prop) (w : World) : StayB P3 P4 w w := ⟨id, id⟩
theorem StayB.gb3 {G R : Nat} {sz st : Int} {Ar : Option Addr} {len cr : Nat} {P4 : World → Prop} {w w' : World} (hg : w.grownBy w' (some R)) (hR : G ≠ R) (h4 : P4 w → P4 w') : StayB (Holds3 G sz st Ar len cr) P4 w w' := ⟨fun h => blk_gb h hg hR, h4⟩
def KeptB (P3 P4 : World → Prop) (P : Value → World → Prop) : Prop := ∀ v w w', StayB P3 P4 w w' → P v w → P v w'
def pW3 (P : World → Prop) (_ : Value) (w : World) : Prop := P w
def pW4 (P : World → Prop) (_ : Value) (w : World) : Prop := P w
def pEA (Ar : Option Addr) (len : Nat) (v : Value) (_ : World) : Prop := ∃ g i, i < len ∧ Ar = some ⟨g, 0, none⟩ ∧ v = .pointer (some ⟨g, i * 7, none⟩)
def pFl (v : Value) (_ : World) : Prop := ∃ a b c d k, v = .agg #[.int .i64 a, .int .i64 b, .int .i64 c, .int .i64 d, .int .i64 k]
section
variable {P3 P4 : World → Prop}
theorem keptB_any {P : Value → World → Prop} (h : ∀ v w w', P v w → P v w') : KeptB P3 P4 P := fun v w w' _ hp => h v w w' hp
theorem keptB_l : KeptB P3 P4 (pW3 P3) := fun _ _ _ h hp => h.1 hp
theorem keptB_r : KeptB P3 P4 (pW4 P4) := fun _ _ _ h hp => h.2 hp
theorem factAt_keptB {ks : List (Value → World → Prop)} (h : ∀ P ∈ ks, KeptB P3 P4 P) (i : Nat) (v : Value) (w w' : World) (hS : StayB P3 P4 w w') (hf : factAt ks i v w) : factAt ks i v w' := by
  unfold factAt at *
  rw [List.getD_eq_getElem?_getD] at *
  rcases hk : ks[i]? with _ | P
  · simp
  · simp only [hk, Option.getD_some] at hf ⊢
    exact h P (List.mem_of_getElem? hk) v w w' hS hf
end
/-- The invariant of the draws' last regions. -/
def DrawTI (w0 : World) (R : Nat) (A : Option Addr) (n c : Nat) (zs : List Int) (p m B G7 G3 : Nat) (P4 : World → Prop) (sz st : Int) (Ar : Option Addr) (len cr : Nat) (es : List Ent) (A2 : Option Addr) (m2 c2 : Nat) (hs : List Hst) (k : Nat) (w : World) : Prop :=
  ∃ q, p ≤ q ∧ q + 60 * k ≤ p + m ∧ RdAt w R A n c zs q ∧ w0.grownBy w (some R) ∧ Own 50 7 B w Ar len cr (flatE es) ∧ Own 64 3 B w A2 m2 c2 (flat hs) ∧ w.heap[G7]? = some (.cells #[.int .i64 sz, .int .i64 st, .slice Ar len cr] 44 (0, 0)) ∧ (∃ x0 x1 x2, w.heap[G3]? = some (.cells #[x0, x1, x2] 44 (0, 0))) ∧ P4 w
section
variable {w0 w w' : World} {R : Nat} {A : Option Addr} {n c : Nat} {zs : List Int} {p m B G7 G3 : Nat} {P4 : World → Prop} {sz st : Int} {Ar : Option Addr} {len cr : Nat} {es : List Ent} {A2 : Option Addr} {m2 c2 : Nat} {hs : List Hst} {k : Nat}
theorem DrawTI.same (h : DrawTI w0 R A n c zs p m B G7 G3 P4 sz st Ar len cr es A2 m2 c2 hs (k + 1) w) (_ : New w w) : DrawTI w0 R A n c zs p m B G7 G3 P4 sz st Ar len cr es A2 m2 c2 hs k w := by
  obtain ⟨q, h1, h2, h3⟩ := h
  exact ⟨q, h1, by omega, h3⟩
theorem DrawTI.t7 (h : DrawTI w0 R A n c zs p m B G7 G3 P4 sz st Ar len cr es A2 m2 c2 hs k w) : w.heap[G7]? = some (.cells #[.int .i64 sz, .int .i64 st, .slice Ar len cr] 44 (0, 0)) := by
  obtain ⟨q, h1, h2, h3, h4, h5, h6, h7, h8⟩ := h
  exact h7
theorem DrawTI.ent (h : DrawTI w0 R A n c zs p m B G7 G3 P4 sz st Ar len cr es A2 m2 c2 hs k w) : Own 50 7 B w Ar len cr (flatE es) := by
  obtain ⟨q, h1, h2, h3, h4, h5, h6, h7, h8⟩ := h
  exact h5
end
/-- A drawn table's value. -/
def TabVal (w : World) (v : Value) : Prop := ∃ (sz st : Int) (A : Option Addr) (n c : Nat) (es : List Ent), v = .agg #[.int .i64 sz, .int .i64 st, .slice A n c] ∧ n ≤ 8 ∧ n ≤ c ∧ c ≤ maxLen ∧ es.length = n ∧ (A = none → c = 0) ∧ Ints w A (flatE es)
set_option maxRecDepth 100000 in
set_option maxHeartbeats 4000000 in
theorem DrawTableValid_any (A : Option Addr) (n c : Nat) (zs : List Int) (w : World) (h : CodeArg w A n c zs) : Calls Try.prog 30 #[.slice A n c] w fun e w' => ∃ v, e = .returned v ∧ TabVal w' v ∧ New w w' := by
  have HAL := Lib.hid (code_lt h)
  have b0 := (New.refl w).alloc (.cells #[.int .i64 0, .int .i64 0, .slice none 0 0] 44)
  have r0 := heap_alloc_new w (.cells #[.int .i64 0, .int .i64 0, .slice none 0 0] 44)
  go_enter Try.func30, Try.ntmps30
  go_wp2_with fail
  refine (open_code (h.new b0)).mono ?_
  rintro e w1 ⟨rfl, h1, b1⟩
  simp only [World.size_alloc] at h1 ⊢
  have hlt1 := h1.lt
  obtain ⟨R, hR⟩ : ∃ R, w.heap.size + 1 = R := ⟨_, rfl⟩
  rw [hR] at h1 hlt1 ⊢
  have r1 := blk_new r0 b1
  have hN1 := b0.trans b1
  clear h b0 b1 r0
  go_wp2_with fail
  refine (l20Table_any _ A _ c _ 0 none 0 0 [] 2 _ h1 (by omega) rfl (by omega) IntsK.nil (fun g hg => by cases hg) (.inl rfl) (by omega) (by omega)).mono ?_
  rintro e w3 ⟨v, q3, sz, st, len, rfl, ⟨row, rfl, Ar, cr, zr, rfl, o3⟩, hk8, q30, q31, h3, g3⟩
  obtain ⟨es, hes, hel⟩ := unflatE len zr o3.len
  subst hes
  have HEL := Lib.hid hel
  clear hel
  have hN3 := new_gb hN1 g3 (by omega)
  have r3 := blk_gb r1 g3 (by omega)
  obtain ⟨C0, C1, C2⟩ := cellsT r3
  have z3 : ∀ j, w3.frozen? ⟨w.heap.size, j, none⟩ = false := fun j => frozen_of_row _ _ _ _ _ r3
  have h3B : w.heap.size < w1.heap.size := by omega
  have HO := Lib.hid (((o3.setOtherT (p := ⟨w.heap.size, 0, none⟩) h3B (.int .i64 sz)).setOtherT (p := ⟨w.heap.size, 1, none⟩) h3B (.int .i64 st)).setOtherT (p := ⟨w.heap.size, 2, none⟩) h3B (.slice Ar len cr))
  have HN3 := Lib.hid hN3
  clear o3 g3 h1 r1 hN1 h3 r3 hN3
  go_wp2_with fail
  refine bodyPost_ret (v := .agg #[.int .i64 sz, .int .i64 st, .slice Ar len cr]) (by simp [results, Try.results30, go_sem, *, ↓IntWalk.iteOmega]) rfl ⟨_, rfl, ⟨sz, st, Ar, len, cr, es, rfl, by omega, HO.out.capX, HO.out.capM, HEL.out, HO.out.none0X, HO.out.ints⟩, ?_⟩
  exact ((HN3.out.setCell (p := ⟨w.heap.size, 0, none⟩) (Nat.le_refl _) _).setCell (p := ⟨w.heap.size, 1, none⟩) (Nat.le_refl _) _).setCell (p := ⟨w.heap.size, 2, none⟩) (Nat.le_refl _) _
set_option maxRecDepth 100000 in
set_option maxHeartbeats 4000000 in
theorem DrawFlowsOn_any (A : Option Addr) (n c : Nat) (zs : List Int) (w : World) (h : CodeArg w A n c zs) : Calls Try.prog 40 #[.slice A n c] w fun e w' => ∃ (z : Int) (v : Value), e = .returned (.tuple #[v, .int .i64 z]) ∧ TabVal w' v ∧ New w w' := by
  have HAL := Lib.hid (code_lt h)
  have b0 := (New.refl w).alloc (.cells #[.int .i64 0, .int .i64 0, .slice none 0 0] 44)
  have r0 := heap_alloc_new w (.cells #[.int .i64 0, .int .i64 0, .slice none 0 0] 44)
  go_enter Try.func40, Try.ntmps40
  go_wp2_with fail
  refine (open_code (h.new b0)).mono ?_
  rintro e w1 ⟨rfl, h1, b1⟩
  simp only [World.size_alloc] at h1 ⊢
  have hlt1 := h1.lt
  obtain ⟨R, hR⟩ : ∃ R, w.heap.size + 1 = R := ⟨_, rfl⟩
  rw [hR] at h1 hlt1 ⊢
  have r1 := blk_new r0 b1
  have hN1 := b0.trans b1
  clear h b0 b1 r0
  go_wp2_with fail
  refine (l20Pool_any _ A _ c _ 0 0 _ h1 (by omega) (by omega) (by omega)).mono ?_
  rintro e w2 ⟨A2, c2, q2, hs, rfl, hm7, lc, cm, p2, q20, q21, h2, g2⟩
  obtain ⟨m2, hm⟩ : ∃ m2, hs.length = m2 := ⟨_, rfl⟩
  rw [hm] at hm7 lc p2 ⊢
  have HM := Lib.hid hm
  clear hm
  have HNE := Lib.hid (show ∀ g, A2 = some ⟨g, 0, none⟩ → g ≠ R from fun g hg => by
    subst hg
    have := p2.blkGe
    omega)
  have G2 := gb_trans (new_gbR R hN1) g2
  have r2 := blk_gb r1 g2 (by omega)
  have hBle := g2.size
  clear g2 h1 r1
  go_wp2_with fail
  refine (l20Table_any _ A _ c _ q2 A2 m2 c2 hs 9 _ h2 (by omega) HM.out hm7 p2.ints HNE.out p2.plain (by omega) (by omega)).mono ?_
  rintro e w3 ⟨v, q3, sz, st, len, rfl, ⟨row, rfl, Ar, cr, zr, rfl, o3⟩, hk8, q30, q31, h3, g3⟩
  obtain ⟨es, hes, hel⟩ := unflatE len zr o3.len
  subst hes
  have HEL := Lib.hid hel
  clear hel
  have p3 := p2.gb g3 hlt1
  have G3g := gb_trans G2 g3
  have r3 := blk_gb r2 g3 (by omega)
  have bT := (New.refl w3).alloc (.cells #[.int .i64 sz, .int .i64 st, .slice Ar len cr] 44)
  have t74 := heap_alloc_new w3 (.cells #[.int .i64 sz, .int .i64 st, .slice Ar len cr] 44)
  have t34 := blk_new r3 bT
  have o4 := (o3.new bT).less hBle
  have p4 := p3.new bT
  have h4 := h3.new bT
  have G4g := gb_new G3g bT
  have hRw : w.heap.size ≤ R := by omega
  have hRB : R < w1.heap.size := hlt1
  have hR3 : w.heap.size ≠ R := by omega
  have h3R := hR3
  have h3w : w.heap.size ≤ w.heap.size := Nat.le_refl _
  have h3B : w.heap.size < w1.heap.size := by omega
  have h3l := blk_lt r3
  have hR3l := h3.lt
  clear p2 g3 G2 r2 o3 p3 G3g r3 h3 bT h2 hN1
  go_wp2_with fail
  generalize w3.alloc (.cells #[.int .i64 sz, .int .i64 st, .slice Ar len cr] 44) = w4 at *
  obtain ⟨G7, hG7⟩ : ∃ G7, w3.heap.size = G7 := ⟨_, rfl⟩
  rw [hG7] at t74 ⊢
  have hR7 : G7 ≠ R := by omega
  have h37 : G7 ≠ w.heap.size := by omega
  obtain ⟨B, hB⟩ : ∃ B, w1.heap.size = B := ⟨_, rfl⟩
  rw [hB] at o4 p4 hRB h3B
  clear hG7 hlt1 hBle hB h3l hR3l
  obtain ⟨FF, hFF⟩ : ∃ FF, FF = factAt [pVal (.agg #[.int .i64 sz, .int .i64 st, .slice Ar len cr]), pVal (.pointer (some ⟨R, 0, none⟩)), pVal (.slice A2 m2 c2), pZ, pW3 (Holds3 w.heap.size sz st Ar len cr), pZ] := ⟨_, rfl⟩
  have HFF := Lib.hid hFF
  clear hFF
  refine wp_region_tail 6 (by kernel_rfl) (by kernel_rfl) (by kernel_rfl) (by decide) (DrawTI w R A (min n 2000) c (zs.take 2000) q3 1000 B G7 w.heap.size (fun _ => True) sz st Ar len cr es A2 m2 c2 hs) FF (StayB (Holds3 w.heap.size sz st Ar len cr) (fun _ => True)) (by rw [HFF.out]; exact factAt_keptB (by
      intro P hP
      simp only [List.mem_cons, List.not_mem_nil, or_false] at hP
      rcases hP with rfl | rfl | rfl | rfl | rfl | rfl
      · exact keptB_any (fun _ _ _ h => h)
      · exact keptB_any (fun _ _ _ h => h)
      · exact keptB_any (fun _ _ _ h => h)
      · exact keptB_any (fun _ _ _ h => h)
      · exact keptB_l
      · exact keptB_any (fun _ _ _ h => h)
      )) ⟨q3, by omega, by omega, h4.new ((New.refl _).drew), gb_new G4g ((New.refl _).drew), o4.new ((New.refl _).drew), p4.new ((New.refl _).drew), blk_new t74 ((New.refl _).drew), ⟨_, _, _, blk_new t34 ((New.refl _).drew)⟩, trivial⟩ ?_ ?_
  · refine ⟨?_, ?_, ?_, ?_, ?_, ?_, trivial⟩
    · -- 0
      intro vs kq wq hI hF
      clear hF
      have t7 := hI.t7
      obtain ⟨C0, C1, C2⟩ := cellsT t7
      simp only [fillTo, dstOf, List.getElem?_toArray, List.getElem?_cons_zero, List.getElem?_cons_succ, Option.bind_some, Act.put, List.setIfInBounds_toArray, List.set_cons_zero, List.set_cons_succ]
      go_wp2_with fail
      exact ⟨_, rfl, hI.same (New.refl _), StayB.refl _ _ _, by rw [HFF.out]; exact rfl⟩
    · -- 1
      intro vs kq wq hI hF
      clear hF
      simp only [fillTo, dstOf, List.getElem?_toArray, List.getElem?_cons_zero, List.getElem?_cons_succ, Option.bind_some, Act.put, List.setIfInBounds_toArray, List.set_cons_zero, List.set_cons_succ]
      go_wp2_with fail
      exact ⟨_, rfl, hI.same (New.refl _), StayB.refl _ _ _, by rw [HFF.out]; exact rfl⟩
    · -- 2
      intro vs kq wq hI hF
      clear hF
      simp only [fillTo, dstOf, List.getElem?_toArray, List.getElem?_cons_zero, List.getElem?_cons_succ, Option.bind_some, Act.put, List.setIfInBounds_toArray, List.set_cons_zero, List.set_cons_succ]
      go_wp2_with fail
      exact ⟨_, rfl, hI.same (New.refl _), StayB.refl _ _ _, by rw [HFF.out]; exact rfl⟩
    · -- 3
      intro vs kq wq hI hF
      have f1 : pVal (.pointer (some ⟨R, 0, none⟩)) (vs 1) wq := (by have h := hF 1 (by rfl); rw [HFF.out] at h; exact h)
      unfold pVal at f1
      have f2 : pVal (.slice A2 m2 c2) (vs 2) wq := (by have h := hF 2 (by rfl); rw [HFF.out] at h; exact h)
      unfold pVal at f2
      clear hF
      obtain ⟨q', e1, e2, hr, g0, ho, hp, t7, ⟨x0, x1, x2, t3⟩, t4⟩ := hI
      simp only [fillTo, dstOf, List.getElem?_toArray, List.getElem?_cons_zero, List.getElem?_cons_succ, Option.bind_some, Act.put, List.setIfInBounds_toArray, List.set_cons_zero, List.set_cons_succ, f1, f2]
      clear f1 f2
      go_wp2_with fail
      refine (l20Number_any R A _ c _ q' A2 m2 c2 hs _ hr (by omega) HM.out hm7 hp.ints HNE.out hp.plain).mono ?_
      rintro e w' ⟨v, q2, rfl, ⟨z, rfl, _⟩, e3, e4, h2, g2⟩
      go_wp2_with fail
      exact ⟨_, rfl, ⟨q2, by omega, by omega, h2, gb_trans g0 g2, ho.gb g2 hRB, hp.gb g2 hRB, blk_gb t7 g2 hR7, ⟨x0, x1, x2, blk_gb t3 g2 hR3⟩, trivial⟩, StayB.gb3 g2 hR3 (fun _ => trivial), by rw [HFF.out]; exact ⟨z, rfl⟩⟩
    · -- 4
      intro vs kq wq hI hF
      have f0 : pVal (.agg #[.int .i64 sz, .int .i64 st, .slice Ar len cr]) (vs 0) wq := (by have h := hF 0 (by rfl); rw [HFF.out] at h; exact h)
      unfold pVal at f0
      clear hF
      obtain ⟨q', e1, e2, hr, g0, ho, hp, t7, ⟨x0, x1, x2, t3⟩, t4⟩ := hI
      obtain ⟨C0, C1, C2⟩ := cellsT t3
      have z3 : ∀ j, wq.frozen? ⟨w.heap.size, j, none⟩ = false := fun j => frozen_of_row _ _ _ _ _ t3
      have HO := Lib.hid ho
      have HP := Lib.hid hp
      have HRD := Lib.hid hr
      have HGG := Lib.hid g0
      have HT7 := Lib.hid t7
      have HT3 := Lib.hid t3
      have HT4 := Lib.hid t4
      clear ho hp hr g0 t7 t3 t4
      simp only [fillTo, dstOf, List.getElem?_toArray, List.getElem?_cons_zero, List.getElem?_cons_succ, Option.bind_some, Act.put, List.setIfInBounds_toArray, List.set_cons_zero, List.set_cons_succ, f0]
      clear f0
      go_wp2_with fail
      exact ⟨.bool true, rfl, ⟨q', e1, by omega, ((HRD.out.setLow (g := w.heap.size) h3R HAL.out h3w 0 _).setLow (g := w.heap.size) h3R HAL.out h3w 1 _).setLow (g := w.heap.size) h3R HAL.out h3w 2 _, gb_set (gb_set (gb_set HGG.out (p := ⟨w.heap.size, 0, none⟩) h3w _) (p := ⟨w.heap.size, 1, none⟩) h3w _) (p := ⟨w.heap.size, 2, none⟩) h3w _, ((HO.out.setOtherT (p := ⟨w.heap.size, 0, none⟩) h3B _).setOtherT (p := ⟨w.heap.size, 1, none⟩) h3B _).setOtherT (p := ⟨w.heap.size, 2, none⟩) h3B _, ((HP.out.setOtherT (p := ⟨w.heap.size, 0, none⟩) h3B _).setOtherT (p := ⟨w.heap.size, 1, none⟩) h3B _).setOtherT (p := ⟨w.heap.size, 2, none⟩) h3B _, blk_set (blk_set (blk_set HT7.out (a := ⟨w.heap.size, 0, none⟩) h37 _) (a := ⟨w.heap.size, 1, none⟩) h37 _) (a := ⟨w.heap.size, 2, none⟩) h37 _, ⟨_, _, _, blk_at (blk_at (blk_at HT3.out 0 _) 1 _) 2 _⟩, trivial⟩, ⟨fun _ => blk_at (blk_at (blk_at HT3.out 0 _) 1 _) 2 _, fun _ => trivial⟩, by rw [HFF.out]; exact blk_at (blk_at (blk_at HT3.out 0 _) 1 _) 2 _⟩
    · -- 5
      intro vs kq wq hI hF
      have f3 : pZ (vs 3) wq := (by have h := hF 3 (by rfl); rw [HFF.out] at h; exact h)
      clear hF
      obtain ⟨z3, e3⟩ := f3
      simp only [fillTo, dstOf, List.getElem?_toArray, List.getElem?_cons_zero, List.getElem?_cons_succ, Option.bind_some, Act.put, List.setIfInBounds_toArray, List.set_cons_zero, List.set_cons_succ, e3]
      clear e3
      go_wp2_with fail
      exact ⟨_, rfl, hI.same (New.refl _), StayB.refl _ _ _, by rw [HFF.out]; exact ⟨z3, rfl⟩⟩
  · intro vs kq wq hI hF
    have f4 : pW3 (Holds3 w.heap.size sz st Ar len cr) (vs 4) wq := (by have h := hF 4 (by omega); rw [HFF.out] at h; exact h)
    have f5 : pZ (vs 5) wq := (by have h := hF 5 (by omega); rw [HFF.out] at h; exact h)
    clear hF HFF FF
    obtain ⟨z5, e5⟩ := f5
    obtain ⟨q', e1, e2, hr, g0, ho, hp, t7, ⟨x0, x1, x2, t3⟩, t4⟩ := hI
    obtain ⟨C0, C1, C2⟩ := cellsT f4
    have HO := Lib.hid ho
    have HGG := Lib.hid g0
    clear ho hp hr g0 t7 t3 t4 f4
    simp only [fillTo, dstOf, List.getElem?_toArray, List.getElem?_cons_zero, List.getElem?_cons_succ, Option.bind_some, Act.put, List.setIfInBounds_toArray, List.set_cons_zero, List.set_cons_succ, e5, List.drop_succ_cons, List.drop_zero, List.drop_nil]
    clear e5
    go_wp2_with fail
    refine bodyPost_ret (v := .tuple #[.agg #[.int .i64 sz, .int .i64 st, .slice Ar len cr], .int .i64 z5]) (by simp [results, Try.results40, go_sem, *, ↓IntWalk.iteOmega]) rfl ⟨z5, _, rfl, ⟨sz, st, Ar, len, cr, es, rfl, by omega, HO.out.capX, HO.out.capM, HEL.out, HO.out.none0X, HO.out.ints⟩, new_of_gb HGG.out hRw⟩
/-- A drawn pool, table and flow. -/
def ChooseDrawn (w : World) (e : Ending) (w' : World) : Prop :=
  ∃ (A2 : Option Addr) (m2 c2 : Nat) (hs : List Hst) (v : Value) (a b c d k : Int), e = .returned (.tuple #[.slice A2 m2 c2, v, .agg #[.int .i64 a, .int .i64 b, .int .i64 c, .int .i64 d, .int .i64 k]]) ∧ hs.length = m2 ∧ m2 ≤ 7 ∧ m2 ≤ c2 ∧ c2 ≤ maxLen ∧ Ints w' A2 (flat hs) ∧ TabVal w' v ∧ New w w'
set_option maxRecDepth 100000 in
set_option maxHeartbeats 4000000 in
theorem DrawChooseHost_any (A : Option Addr) (n c : Nat) (zs : List Int) (w : World) (h : CodeArg w A n c zs) : Calls Try.prog 51 #[.slice A n c] w (ChooseDrawn w) := by
  have HAL := Lib.hid (code_lt h)
  have b0 := ((New.refl w).alloc (.cells #[.int .i64 0, .int .i64 0, .slice none 0 0] 44)).alloc (.cells #[.int .i64 0, .int .i64 0, .int .i64 0, .int .i64 0, .int .i64 0] 48)
  have r0 := blk_new (heap_alloc_new w (.cells #[.int .i64 0, .int .i64 0, .slice none 0 0] 44)) ((New.refl _).alloc (.cells #[.int .i64 0, .int .i64 0, .int .i64 0, .int .i64 0, .int .i64 0] 48))
  have s0 := heap_alloc_new (w.alloc (.cells #[.int .i64 0, .int .i64 0, .slice none 0 0] 44)) (.cells #[.int .i64 0, .int .i64 0, .int .i64 0, .int .i64 0, .int .i64 0] 48)
  rw [World.size_alloc] at s0
  go_enter Try.func51, Try.ntmps51
  go_wp2_with fail
  refine (open_code (h.new b0)).mono ?_
  rintro e w1 ⟨rfl, h1, b1⟩
  simp only [World.size_alloc] at h1 ⊢
  have hlt1 := h1.lt
  obtain ⟨R, hR⟩ : ∃ R, w.heap.size + 1 + 1 = R := ⟨_, rfl⟩
  rw [hR] at h1 hlt1 ⊢
  have r1 := blk_new r0 b1
  have s1 := blk_new s0 b1
  have hN1 := b0.trans b1
  clear h b0 b1 r0 s0
  go_wp2_with fail
  refine (l20Pool_any _ A _ c _ 0 12 _ h1 (by omega) (by omega) (by omega)).mono ?_
  rintro e w2 ⟨A2, c2, q2, hs, rfl, hm7, lc, cm, p2, q20, q21, h2, g2⟩
  obtain ⟨m2, hm⟩ : ∃ m2, hs.length = m2 := ⟨_, rfl⟩
  rw [hm] at hm7 lc p2 ⊢
  have HM := Lib.hid hm
  clear hm
  have HNE := Lib.hid (show ∀ g, A2 = some ⟨g, 0, none⟩ → g ≠ R from fun g hg => by
    subst hg
    have := p2.blkGe
    omega)
  have G2 := gb_trans (new_gbR R hN1) g2
  have r2 := blk_gb r1 g2 (by omega)
  have s2 := blk_gb s1 g2 (by omega)
  have hBle := g2.size
  clear g2 h1 r1 s1
  go_wp2_with fail
  refine (l20Table_any _ A _ c _ q2 A2 m2 c2 hs 12 _ h2 (by omega) HM.out hm7 p2.ints HNE.out p2.plain (by omega) (by omega)).mono ?_
  rintro e w3 ⟨v, q3, sz, st, len, rfl, ⟨row, rfl, Ar, cr, zr, rfl, o3⟩, hk8, q30, q31, h3, g3⟩
  obtain ⟨es, hes, hel⟩ := unflatE len zr o3.len
  subst hes
  have HEL := Lib.hid hel
  clear hel
  have p3 := p2.gb g3 hlt1
  have G3g := gb_trans G2 g3
  have r3 := blk_gb r2 g3 (by omega)
  have s3 := blk_gb s2 g3 (by omega)
  have bT := (New.refl w3).alloc (.cells #[.int .i64 sz, .int .i64 st, .slice Ar len cr] 44)
  have t74 := heap_alloc_new w3 (.cells #[.int .i64 sz, .int .i64 st, .slice Ar len cr] 44)
  have t34 := blk_new r3 bT
  have t44 : Holds5 (w.heap.size + 1) (w3.alloc (.cells #[.int .i64 sz, .int .i64 st, .slice Ar len cr] 44)) := ⟨_, _, _, _, _, blk_new s3 bT⟩
  have o4 := (o3.new bT).less hBle
  have p4 := p3.new bT
  have h4 := h3.new bT
  have G4g := gb_new G3g bT
  have hRw : w.heap.size ≤ R := by omega
  have hRB : R < w1.heap.size := hlt1
  have hR3 : w.heap.size ≠ R := by omega
  have h3R := hR3
  have h3w : w.heap.size ≤ w.heap.size := Nat.le_refl _
  have h3B : w.heap.size < w1.heap.size := by omega
  have hR4 : (w.heap.size + 1) ≠ R := by omega
  have h4R := hR4
  have h4w : w.heap.size ≤ (w.heap.size + 1) := by omega
  have h4B : (w.heap.size + 1) < w1.heap.size := by omega
  have h34 : w.heap.size ≠ (w.heap.size + 1) := by omega
  have h43 : (w.heap.size + 1) ≠ w.heap.size := by omega
  have h3l := blk_lt r3
  have h4l := blk_lt s3
  have hR3l := h3.lt
  clear p2 g3 G2 r2 s2 o3 p3 G3g r3 s3 h3 bT h2 hN1
  by_cases h0 : len = 0
  · subst h0
    go_wp2_with fail
    generalize w3.alloc (.cells #[.int .i64 sz, .int .i64 st, .slice Ar 0 cr] 44) = w4 at *
    obtain ⟨G7, hG7⟩ : ∃ G7, w3.heap.size = G7 := ⟨_, rfl⟩
    rw [hG7] at t74 ⊢
    have hR7 : G7 ≠ R := by omega
    have h37 : G7 ≠ w.heap.size := by omega
    have h47 : G7 ≠ (w.heap.size + 1) := by omega
    obtain ⟨B, hB⟩ : ∃ B, w1.heap.size = B := ⟨_, rfl⟩
    rw [hB] at o4 p4 hRB h3B h4B
    clear hG7 hlt1 hBle hB h3l h4l hR3l
    obtain ⟨FF, hFF⟩ : ∃ FF, FF = factAt [pVal (.slice A2 m2 c2), pVal (.agg #[.int .i64 sz, .int .i64 st, .slice Ar 0 cr]), pVal (.pointer (some ⟨R, 0, none⟩)), pAgg5 (-1) 1000, pVal (.slice A2 m2 c2), pW3 (Holds3 w.heap.size sz st Ar 0 cr), pW4 (Holds5 (w.heap.size + 1))] := ⟨_, rfl⟩
    have HFF := Lib.hid hFF
    clear hFF
    refine wp_region_tail 7 (by kernel_rfl) (by kernel_rfl) (by kernel_rfl) (by decide) (DrawTI w R A (min n 2000) c (zs.take 2000) q3 1000 B G7 w.heap.size (Holds5 (w.heap.size + 1)) sz st Ar 0 cr es A2 m2 c2 hs) FF (StayB (Holds3 w.heap.size sz st Ar 0 cr) (Holds5 (w.heap.size + 1))) (by rw [HFF.out]; exact factAt_keptB (by
        intro P hP
        simp only [List.mem_cons, List.not_mem_nil, or_false] at hP
        rcases hP with rfl | rfl | rfl | rfl | rfl | rfl | rfl
        · exact keptB_any (fun _ _ _ h => h)
        · exact keptB_any (fun _ _ _ h => h)
        · exact keptB_any (fun _ _ _ h => h)
        · exact keptB_any (fun _ _ _ h => h)
        · exact keptB_any (fun _ _ _ h => h)
        · exact keptB_l
        · exact keptB_r
        )) ⟨q3, by omega, by omega, h4.new ((New.refl _).drew), gb_new G4g ((New.refl _).drew), o4.new ((New.refl _).drew), p4.new ((New.refl _).drew), blk_new t74 ((New.refl _).drew), ⟨_, _, _, blk_new t34 ((New.refl _).drew)⟩, t44⟩ ?_ ?_
    · refine ⟨?_, ?_, ?_, ?_, ?_, ?_, ?_, trivial⟩
      · -- 0
        intro vs kq wq hI hF
        clear hF
        simp only [fillTo, dstOf, List.getElem?_toArray, List.getElem?_cons_zero, List.getElem?_cons_succ, Option.bind_some, Act.put, List.setIfInBounds_toArray, List.set_cons_zero, List.set_cons_succ]
        go_wp2_with fail
        exact ⟨_, rfl, hI.same (New.refl _), StayB.refl _ _ _, by rw [HFF.out]; exact rfl⟩
      · -- 1
        intro vs kq wq hI hF
        clear hF
        have t7 := hI.t7
        obtain ⟨C0, C1, C2⟩ := cellsT t7
        simp only [fillTo, dstOf, List.getElem?_toArray, List.getElem?_cons_zero, List.getElem?_cons_succ, Option.bind_some, Act.put, List.setIfInBounds_toArray, List.set_cons_zero, List.set_cons_succ]
        go_wp2_with fail
        exact ⟨_, rfl, hI.same (New.refl _), StayB.refl _ _ _, by rw [HFF.out]; exact rfl⟩
      · -- 2
        intro vs kq wq hI hF
        clear hF
        simp only [fillTo, dstOf, List.getElem?_toArray, List.getElem?_cons_zero, List.getElem?_cons_succ, Option.bind_some, Act.put, List.setIfInBounds_toArray, List.set_cons_zero, List.set_cons_succ]
        go_wp2_with fail
        exact ⟨_, rfl, hI.same (New.refl _), StayB.refl _ _ _, by rw [HFF.out]; exact rfl⟩
      · -- 3
        intro vs kq wq hI hF
        have f2 : pVal (.pointer (some ⟨R, 0, none⟩)) (vs 2) wq := (by have h := hF 2 (by rfl); rw [HFF.out] at h; exact h)
        unfold pVal at f2
        clear hF
        obtain ⟨q', e1, e2, hr, g0, ho, hp, t7, ⟨x0, x1, x2, t3⟩, t4⟩ := hI
        simp only [fillTo, dstOf, List.getElem?_toArray, List.getElem?_cons_zero, List.getElem?_cons_succ, Option.bind_some, Act.put, List.setIfInBounds_toArray, List.set_cons_zero, List.set_cons_succ, f2]
        clear f2
        go_wp2_with fail
        refine (l20Flow_any R A _ c _ q' 12 _ hr (by omega) (by omega) (by omega)).mono ?_
        rintro e w' ⟨v, q2, rfl, hv, e3, e4, h2, g2⟩
        go_wp2_with fail
        exact ⟨_, rfl, ⟨q2, by omega, by omega, h2, gb_trans g0 g2, ho.gb g2 hRB, hp.gb g2 hRB, blk_gb t7 g2 hR7, ⟨x0, x1, x2, blk_gb t3 g2 hR3⟩, t4.gb g2 hR4⟩, StayB.gb3 g2 hR3 (fun h => h.gb g2 hR4), by rw [HFF.out]; exact hv⟩
      · -- 4
        intro vs kq wq hI hF
        have f0 : pVal (.slice A2 m2 c2) (vs 0) wq := (by have h := hF 0 (by rfl); rw [HFF.out] at h; exact h)
        unfold pVal at f0
        clear hF
        simp only [fillTo, dstOf, List.getElem?_toArray, List.getElem?_cons_zero, List.getElem?_cons_succ, Option.bind_some, Act.put, List.setIfInBounds_toArray, List.set_cons_zero, List.set_cons_succ, f0]
        clear f0
        go_wp2_with fail
        exact ⟨_, rfl, hI.same (New.refl _), StayB.refl _ _ _, by rw [HFF.out]; exact rfl⟩
      · -- 5
        intro vs kq wq hI hF
        have f1 : pVal (.agg #[.int .i64 sz, .int .i64 st, .slice Ar 0 cr]) (vs 1) wq := (by have h := hF 1 (by rfl); rw [HFF.out] at h; exact h)
        unfold pVal at f1
        clear hF
        obtain ⟨q', e1, e2, hr, g0, ho, hp, t7, ⟨x0, x1, x2, t3⟩, t4⟩ := hI
        obtain ⟨C0, C1, C2⟩ := cellsT t3
        have z3 : ∀ j, wq.frozen? ⟨w.heap.size, j, none⟩ = false := fun j => frozen_of_row _ _ _ _ _ t3
        have HO := Lib.hid ho
        have HP := Lib.hid hp
        have HRD := Lib.hid hr
        have HGG := Lib.hid g0
        have HT7 := Lib.hid t7
        have HT3 := Lib.hid t3
        have HT4 := Lib.hid t4
        clear ho hp hr g0 t7 t3 t4
        simp only [fillTo, dstOf, List.getElem?_toArray, List.getElem?_cons_zero, List.getElem?_cons_succ, Option.bind_some, Act.put, List.setIfInBounds_toArray, List.set_cons_zero, List.set_cons_succ, f1]
        clear f1
        go_wp2_with fail
        exact ⟨.bool true, rfl, ⟨q', e1, by omega, ((HRD.out.setLow (g := w.heap.size) h3R HAL.out h3w 0 _).setLow (g := w.heap.size) h3R HAL.out h3w 1 _).setLow (g := w.heap.size) h3R HAL.out h3w 2 _, gb_set (gb_set (gb_set HGG.out (p := ⟨w.heap.size, 0, none⟩) h3w _) (p := ⟨w.heap.size, 1, none⟩) h3w _) (p := ⟨w.heap.size, 2, none⟩) h3w _, ((HO.out.setOtherT (p := ⟨w.heap.size, 0, none⟩) h3B _).setOtherT (p := ⟨w.heap.size, 1, none⟩) h3B _).setOtherT (p := ⟨w.heap.size, 2, none⟩) h3B _, ((HP.out.setOtherT (p := ⟨w.heap.size, 0, none⟩) h3B _).setOtherT (p := ⟨w.heap.size, 1, none⟩) h3B _).setOtherT (p := ⟨w.heap.size, 2, none⟩) h3B _, blk_set (blk_set (blk_set HT7.out (a := ⟨w.heap.size, 0, none⟩) h37 _) (a := ⟨w.heap.size, 1, none⟩) h37 _) (a := ⟨w.heap.size, 2, none⟩) h37 _, ⟨_, _, _, blk_at (blk_at (blk_at HT3.out 0 _) 1 _) 2 _⟩, HT4.out.set3 h43⟩, ⟨fun _ => blk_at (blk_at (blk_at HT3.out 0 _) 1 _) 2 _, fun h => h.set3 h43⟩, by rw [HFF.out]; exact blk_at (blk_at (blk_at HT3.out 0 _) 1 _) 2 _⟩
      · -- 6
        intro vs kq wq hI hF
        have f3 : pAgg5 (-1) 1000 (vs 3) wq := (by have h := hF 3 (by rfl); rw [HFF.out] at h; exact h)
        clear hF
        obtain ⟨ya, yb, yc, yd, yk, ev3, _⟩ := f3
        obtain ⟨q', e1, e2, hr, g0, ho, hp, t7, ⟨x0, x1, x2, t3⟩, t4⟩ := hI
        obtain ⟨y0, y1, y2, y3, y4, t4⟩ := t4
        obtain ⟨C0, C1, C2, C3, C4, _, _, _, _, _⟩ := cells5 t4
        have z4 : ∀ j, wq.frozen? ⟨(w.heap.size + 1), j, none⟩ = false := fun j => frozen_of_row _ _ _ _ _ t4
        have HO := Lib.hid ho
        have HP := Lib.hid hp
        have HRD := Lib.hid hr
        have HGG := Lib.hid g0
        have HT7 := Lib.hid t7
        have HT3 := Lib.hid t3
        have HT4 := Lib.hid t4
        clear ho hp hr g0 t7 t3 t4
        simp only [fillTo, dstOf, List.getElem?_toArray, List.getElem?_cons_zero, List.getElem?_cons_succ, Option.bind_some, Act.put, List.setIfInBounds_toArray, List.set_cons_zero, List.set_cons_succ, ev3]
        clear ev3
        go_wp2_with fail
        exact ⟨.bool true, rfl, ⟨q', e1, by omega, (((((HRD.out.setLow (g := (w.heap.size + 1)) h4R HAL.out h4w 0 _).setLow (g := (w.heap.size + 1)) h4R HAL.out h4w 1 _).setLow (g := (w.heap.size + 1)) h4R HAL.out h4w 2 _).setLow (g := (w.heap.size + 1)) h4R HAL.out h4w 3 _).setLow (g := (w.heap.size + 1)) h4R HAL.out h4w 4 _), (gb_set (gb_set (gb_set (gb_set (gb_set HGG.out (p := ⟨(w.heap.size + 1), 0, none⟩) h4w _) (p := ⟨(w.heap.size + 1), 1, none⟩) h4w _) (p := ⟨(w.heap.size + 1), 2, none⟩) h4w _) (p := ⟨(w.heap.size + 1), 3, none⟩) h4w _) (p := ⟨(w.heap.size + 1), 4, none⟩) h4w _), (((((HO.out.setOtherT (p := ⟨(w.heap.size + 1), 0, none⟩) h4B _).setOtherT (p := ⟨(w.heap.size + 1), 1, none⟩) h4B _).setOtherT (p := ⟨(w.heap.size + 1), 2, none⟩) h4B _).setOtherT (p := ⟨(w.heap.size + 1), 3, none⟩) h4B _).setOtherT (p := ⟨(w.heap.size + 1), 4, none⟩) h4B _), (((((HP.out.setOtherT (p := ⟨(w.heap.size + 1), 0, none⟩) h4B _).setOtherT (p := ⟨(w.heap.size + 1), 1, none⟩) h4B _).setOtherT (p := ⟨(w.heap.size + 1), 2, none⟩) h4B _).setOtherT (p := ⟨(w.heap.size + 1), 3, none⟩) h4B _).setOtherT (p := ⟨(w.heap.size + 1), 4, none⟩) h4B _), (blk_set (blk_set (blk_set (blk_set (blk_set HT7.out (a := ⟨(w.heap.size + 1), 0, none⟩) h47 _) (a := ⟨(w.heap.size + 1), 1, none⟩) h47 _) (a := ⟨(w.heap.size + 1), 2, none⟩) h47 _) (a := ⟨(w.heap.size + 1), 3, none⟩) h47 _) (a := ⟨(w.heap.size + 1), 4, none⟩) h47 _), ⟨_, _, _, (blk_set (blk_set (blk_set (blk_set (blk_set HT3.out (a := ⟨(w.heap.size + 1), 0, none⟩) h34 _) (a := ⟨(w.heap.size + 1), 1, none⟩) h34 _) (a := ⟨(w.heap.size + 1), 2, none⟩) h34 _) (a := ⟨(w.heap.size + 1), 3, none⟩) h34 _) (a := ⟨(w.heap.size + 1), 4, none⟩) h34 _)⟩, ⟨_, _, _, _, _, (blk_at (blk_at (blk_at (blk_at (blk_at HT4.out 0 _) 1 _) 2 _) 3 _) 4 _)⟩⟩, ⟨fun h => (blk_set (blk_set (blk_set (blk_set (blk_set h (a := ⟨(w.heap.size + 1), 0, none⟩) h34 _) (a := ⟨(w.heap.size + 1), 1, none⟩) h34 _) (a := ⟨(w.heap.size + 1), 2, none⟩) h34 _) (a := ⟨(w.heap.size + 1), 3, none⟩) h34 _) (a := ⟨(w.heap.size + 1), 4, none⟩) h34 _), fun _ => ⟨ya, yb, yc, yd, yk, (blk_at (blk_at (blk_at (blk_at (blk_at HT4.out 0 _) 1 _) 2 _) 3 _) 4 _)⟩⟩, by rw [HFF.out]; exact ⟨ya, yb, yc, yd, yk, (blk_at (blk_at (blk_at (blk_at (blk_at HT4.out 0 _) 1 _) 2 _) 3 _) 4 _)⟩⟩
    · intro vs kq wq hI hF
      have f4 : pVal (.slice A2 m2 c2) (vs 4) wq := (by have h := hF 4 (by omega); rw [HFF.out] at h; exact h)
      unfold pVal at f4
      have f5 : pW3 (Holds3 w.heap.size sz st Ar 0 cr) (vs 5) wq := (by have h := hF 5 (by omega); rw [HFF.out] at h; exact h)
      have f6 : pW4 (Holds5 (w.heap.size + 1)) (vs 6) wq := (by have h := hF 6 (by omega); rw [HFF.out] at h; exact h)
      clear hF HFF FF
      obtain ⟨ya, yb, yc, yd, yk, f6⟩ := f6
      obtain ⟨q', e1, e2, hr, g0, ho, hp, t7, ⟨x0, x1, x2, t3⟩, t4⟩ := hI
      obtain ⟨C0, C1, C2⟩ := cellsT f5
      obtain ⟨D0, D1, D2, D3, D4, _, _, _, _, _⟩ := cells5 f6
      have HO := Lib.hid ho
      have HGG := Lib.hid g0
      have HP := Lib.hid hp
      clear ho hp hr g0 t7 t3 t4 f5 f6
      simp only [fillTo, dstOf, List.getElem?_toArray, List.getElem?_cons_zero, List.getElem?_cons_succ, Option.bind_some, Act.put, List.setIfInBounds_toArray, List.set_cons_zero, List.set_cons_succ, f4, List.drop_succ_cons, List.drop_zero, List.drop_nil]
      clear f4
      go_wp2_with fail
      refine bodyPost_ret (v := .tuple #[.slice A2 m2 c2, .agg #[.int .i64 sz, .int .i64 st, .slice Ar 0 cr], .agg #[.int .i64 ya, .int .i64 yb, .int .i64 yc, .int .i64 yd, .int .i64 yk]]) (by simp [results, Try.results51, go_sem, *, ↓IntWalk.iteOmega]) rfl ⟨A2, m2, c2, hs, _, ya, yb, yc, yd, yk, rfl, HM.out, hm7, HP.out.capX, HP.out.capM, HP.out.ints, ⟨sz, st, Ar, 0, cr, es, rfl, by omega, HO.out.capX, HO.out.capM, HEL.out, HO.out.none0X, HO.out.ints⟩, new_of_gb HGG.out hRw⟩
  · have hlp : 0 < len := by omega
    have hli : (0 : Int) < (len : Int) := by omega
    have HGA := Lib.hid (o4.someT hlp)
    go_wp2_with fail
    generalize w3.alloc (.cells #[.int .i64 sz, .int .i64 st, .slice Ar len cr] 44) = w4 at *
    obtain ⟨G7, hG7⟩ : ∃ G7, w3.heap.size = G7 := ⟨_, rfl⟩
    rw [hG7] at t74 ⊢
    have hR7 : G7 ≠ R := by omega
    have h37 : G7 ≠ w.heap.size := by omega
    have h47 : G7 ≠ (w.heap.size + 1) := by omega
    obtain ⟨B, hB⟩ : ∃ B, w1.heap.size = B := ⟨_, rfl⟩
    rw [hB] at o4 p4 hRB h3B h4B
    clear hG7 hlt1 hBle hB h3l h4l hR3l
    refine (pick_any R A _ c _ q3 2 _ h4 (by omega) (by omega)).mono ?_
    rintro e w5 ⟨x, rfl, x0, x1, h5, g5⟩
    have x2 := x1 (by omega)
    have G5 := gb_trans G4g g5
    have o5 := o4.gb g5 hRB
    have p5 := p4.gb g5 hRB
    have t75 := blk_gb t74 g5 hR7
    have t35 := blk_gb t34 g5 hR3
    have t45 := t44.gb g5 hR4
    obtain ⟨q4, hq4⟩ : ∃ q4, q3 + 1 = q4 := ⟨_, rfl⟩
    rw [hq4] at h5
    clear x1 h4 g5 G4g o4 p4 t74 t34 t44
    rcases (show x = 0 ∨ x = 1 by omega) with rfl | rfl
    · go_wp2_with fail
      obtain ⟨FF, hFF⟩ : ∃ FF, FF = factAt [pVal (.slice A2 m2 c2), pVal (.agg #[.int .i64 sz, .int .i64 st, .slice Ar len cr]), pVal (.pointer (some ⟨G7, 2, none⟩)), pVal (.slice Ar len cr), pVal (.pointer (some ⟨R, 0, none⟩)), pVal (.pointer (some ⟨G7, 2, none⟩)), pVal (.slice Ar len cr), pVal (.int .i64 (len : Int)), pInt 0 ((len : Int) - 1), pEA Ar len, pEA Ar len, pFl, pVal (.slice A2 m2 c2), pW3 (Holds3 w.heap.size sz st Ar len cr), pW4 (Holds5 (w.heap.size + 1))] := ⟨_, rfl⟩
      have HFF := Lib.hid hFF
      clear hFF
      refine wp_region_tail 15 (by kernel_rfl) (by kernel_rfl) (by kernel_rfl) (by decide) (DrawTI w R A (min n 2000) c (zs.take 2000) q4 1000 B G7 w.heap.size (Holds5 (w.heap.size + 1)) sz st Ar len cr es A2 m2 c2 hs) FF (StayB (Holds3 w.heap.size sz st Ar len cr) (Holds5 (w.heap.size + 1))) (by rw [HFF.out]; exact factAt_keptB (by
          intro P hP
          simp only [List.mem_cons, List.not_mem_nil, or_false] at hP
          rcases hP with rfl | rfl | rfl | rfl | rfl | rfl | rfl | rfl | rfl | rfl | rfl | rfl | rfl | rfl | rfl
          · exact keptB_any (fun _ _ _ h => h)
          · exact keptB_any (fun _ _ _ h => h)
          · exact keptB_any (fun _ _ _ h => h)
          · exact keptB_any (fun _ _ _ h => h)
          · exact keptB_any (fun _ _ _ h => h)
          · exact keptB_any (fun _ _ _ h => h)
          · exact keptB_any (fun _ _ _ h => h)
          · exact keptB_any (fun _ _ _ h => h)
          · exact keptB_any (fun _ _ _ h => h)
          · exact keptB_any (fun _ _ _ h => h)
          · exact keptB_any (fun _ _ _ h => h)
          · exact keptB_any (fun _ _ _ h => h)
          · exact keptB_any (fun _ _ _ h => h)
          · exact keptB_l
          · exact keptB_r
          )) ⟨q4, by omega, by omega, h5.new ((New.refl _).drew), gb_new G5 ((New.refl _).drew), o5.new ((New.refl _).drew), p5.new ((New.refl _).drew), blk_new t75 ((New.refl _).drew), ⟨_, _, _, blk_new t35 ((New.refl _).drew)⟩, t45⟩ ?_ ?_
      · refine ⟨?_, ?_, ?_, ?_, ?_, ?_, ?_, ?_, ?_, ?_, ?_, ?_, ?_, ?_, ?_, trivial⟩
        · -- 0
          intro vs kq wq hI hF
          clear hF
          simp only [fillTo, dstOf, List.getElem?_toArray, List.getElem?_cons_zero, List.getElem?_cons_succ, Option.bind_some, Act.put, List.setIfInBounds_toArray, List.set_cons_zero, List.set_cons_succ]
          go_wp2_with fail
          exact ⟨_, rfl, hI.same (New.refl _), StayB.refl _ _ _, by rw [HFF.out]; exact rfl⟩
        · -- 1
          intro vs kq wq hI hF
          clear hF
          have t7 := hI.t7
          obtain ⟨C0, C1, C2⟩ := cellsT t7
          simp only [fillTo, dstOf, List.getElem?_toArray, List.getElem?_cons_zero, List.getElem?_cons_succ, Option.bind_some, Act.put, List.setIfInBounds_toArray, List.set_cons_zero, List.set_cons_succ]
          go_wp2_with fail
          exact ⟨_, rfl, hI.same (New.refl _), StayB.refl _ _ _, by rw [HFF.out]; exact rfl⟩
        · -- 2
          intro vs kq wq hI hF
          clear hF
          simp only [fillTo, dstOf, List.getElem?_toArray, List.getElem?_cons_zero, List.getElem?_cons_succ, Option.bind_some, Act.put, List.setIfInBounds_toArray, List.set_cons_zero, List.set_cons_succ]
          go_wp2_with fail
          exact ⟨_, rfl, hI.same (New.refl _), StayB.refl _ _ _, by rw [HFF.out]; exact rfl⟩
        · -- 3
          intro vs kq wq hI hF
          have f2 : pVal (.pointer (some ⟨G7, 2, none⟩)) (vs 2) wq := (by have h := hF 2 (by rfl); rw [HFF.out] at h; exact h)
          unfold pVal at f2
          clear hF
          have t7 := hI.t7
          obtain ⟨C0, C1, C2⟩ := cellsT t7
          simp only [fillTo, dstOf, List.getElem?_toArray, List.getElem?_cons_zero, List.getElem?_cons_succ, Option.bind_some, Act.put, List.setIfInBounds_toArray, List.set_cons_zero, List.set_cons_succ, f2]
          clear f2
          go_wp2_with fail
          exact ⟨_, rfl, hI.same (New.refl _), StayB.refl _ _ _, by rw [HFF.out]; exact rfl⟩
        · -- 4
          intro vs kq wq hI hF
          clear hF
          simp only [fillTo, dstOf, List.getElem?_toArray, List.getElem?_cons_zero, List.getElem?_cons_succ, Option.bind_some, Act.put, List.setIfInBounds_toArray, List.set_cons_zero, List.set_cons_succ]
          go_wp2_with fail
          exact ⟨_, rfl, hI.same (New.refl _), StayB.refl _ _ _, by rw [HFF.out]; exact rfl⟩
        · -- 5
          intro vs kq wq hI hF
          clear hF
          simp only [fillTo, dstOf, List.getElem?_toArray, List.getElem?_cons_zero, List.getElem?_cons_succ, Option.bind_some, Act.put, List.setIfInBounds_toArray, List.set_cons_zero, List.set_cons_succ]
          go_wp2_with fail
          exact ⟨_, rfl, hI.same (New.refl _), StayB.refl _ _ _, by rw [HFF.out]; exact rfl⟩
        · -- 6
          intro vs kq wq hI hF
          have f5 : pVal (.pointer (some ⟨G7, 2, none⟩)) (vs 5) wq := (by have h := hF 5 (by rfl); rw [HFF.out] at h; exact h)
          unfold pVal at f5
          clear hF
          have t7 := hI.t7
          obtain ⟨C0, C1, C2⟩ := cellsT t7
          simp only [fillTo, dstOf, List.getElem?_toArray, List.getElem?_cons_zero, List.getElem?_cons_succ, Option.bind_some, Act.put, List.setIfInBounds_toArray, List.set_cons_zero, List.set_cons_succ, f5]
          clear f5
          go_wp2_with fail
          exact ⟨_, rfl, hI.same (New.refl _), StayB.refl _ _ _, by rw [HFF.out]; exact rfl⟩
        · -- 7
          intro vs kq wq hI hF
          have f6 : pVal (.slice Ar len cr) (vs 6) wq := (by have h := hF 6 (by rfl); rw [HFF.out] at h; exact h)
          unfold pVal at f6
          clear hF
          simp only [fillTo, dstOf, List.getElem?_toArray, List.getElem?_cons_zero, List.getElem?_cons_succ, Option.bind_some, Act.put, List.setIfInBounds_toArray, List.set_cons_zero, List.set_cons_succ, f6]
          clear f6
          go_wp2_with fail
          exact ⟨_, rfl, hI.same (New.refl _), StayB.refl _ _ _, by rw [HFF.out]; exact rfl⟩
        · -- 8
          intro vs kq wq hI hF
          have f4 : pVal (.pointer (some ⟨R, 0, none⟩)) (vs 4) wq := (by have h := hF 4 (by rfl); rw [HFF.out] at h; exact h)
          unfold pVal at f4
          have f7 : pVal (.int .i64 (len : Int)) (vs 7) wq := (by have h := hF 7 (by rfl); rw [HFF.out] at h; exact h)
          unfold pVal at f7
          clear hF
          obtain ⟨q', e1, e2, hr, g0, ho, hp, t7, ⟨x0, x1, x2, t3⟩, t4⟩ := hI
          simp only [fillTo, dstOf, List.getElem?_toArray, List.getElem?_cons_zero, List.getElem?_cons_succ, Option.bind_some, Act.put, List.setIfInBounds_toArray, List.set_cons_zero, List.set_cons_succ, f4, f7]
          clear f4 f7
          go_wp2_with fail
          refine (pick5_any R A _ c _ q' len _ hr (by omega) hlp (by omega)).mono ?_
          rintro e w' ⟨v, q2, rfl, ⟨z, rfl, zl⟩, e3, e4, h2, g2⟩
          go_wp2_with fail
          exact ⟨_, rfl, ⟨q2, by omega, by omega, h2, gb_trans g0 g2, ho.gb g2 hRB, hp.gb g2 hRB, blk_gb t7 g2 hR7, ⟨x0, x1, x2, blk_gb t3 g2 hR3⟩, t4.gb g2 hR4⟩, StayB.gb3 g2 hR3 (fun h => h.gb g2 hR4), by rw [HFF.out]; exact ⟨z, rfl, zl⟩⟩
        · -- 9
          intro vs kq wq hI hF
          have f3 : pVal (.slice Ar len cr) (vs 3) wq := (by have h := hF 3 (by rfl); rw [HFF.out] at h; exact h)
          unfold pVal at f3
          have f8 : pInt 0 ((len : Int) - 1) (vs 8) wq := (by have h := hF 8 (by rfl); rw [HFF.out] at h; exact h)
          clear hF
          obtain ⟨x, ei, x0, x1⟩ := f8
          obtain ⟨y, rfl⟩ := Int.eq_ofNat_of_zero_le x0
          have hy : y < len := by omega
          have hy2 : (y : Int) < (len : Int) := by omega
          obtain ⟨ga, hga⟩ := HGA.out
          subst hga
          simp only [fillTo, dstOf, List.getElem?_toArray, List.getElem?_cons_zero, List.getElem?_cons_succ, Option.bind_some, Act.put, List.setIfInBounds_toArray, List.set_cons_zero, List.set_cons_succ, f3, ei]
          clear f3 ei
          go_wp2_with fail
          exact ⟨_, rfl, hI.same (New.refl _), StayB.refl _ _ _, by rw [HFF.out]; exact ⟨ga, y, hy, rfl, by simp⟩⟩
        · -- 10
          intro vs kq wq hI hF
          have f9 : pEA Ar len (vs 9) wq := (by have h := hF 9 (by rfl); rw [HFF.out] at h; exact h)
          clear hF
          obtain ⟨ga, y, hy, hga, ev⟩ := f9
          simp only [fillTo, dstOf, List.getElem?_toArray, List.getElem?_cons_zero, List.getElem?_cons_succ, Option.bind_some, Act.put, List.setIfInBounds_toArray, List.set_cons_zero, List.set_cons_succ, ev]
          clear ev
          go_wp2_with fail
          exact ⟨_, rfl, hI.same (New.refl _), StayB.refl _ _ _, by rw [HFF.out]; exact ⟨ga, y, hy, hga, by simp⟩⟩
        · -- 11
          intro vs kq wq hI hF
          have f10 : pEA Ar len (vs 10) wq := (by have h := hF 10 (by rfl); rw [HFF.out] at h; exact h)
          clear hF
          obtain ⟨ga, y, hy, hga, ev⟩ := f10
          obtain ⟨b, o, x, hbo, hx, hb, c0, c1, c2, c3, c4, _, _⟩ := ents_at hI.ent.ints (i := y) (by rw [HEL.out]; exact hy)
          rw [hga] at hbo
          obtain ⟨rfl, rfl⟩ : ga = b ∧ 0 = o := by simpa using hbo
          clear hx hga hbo
          simp only [Nat.zero_add] at c0 c1 c2 c3 c4
          simp only [fillTo, dstOf, List.getElem?_toArray, List.getElem?_cons_zero, List.getElem?_cons_succ, Option.bind_some, Act.put, List.setIfInBounds_toArray, List.set_cons_zero, List.set_cons_succ, ev]
          clear ev
          go_wp2_with fail
          exact ⟨_, rfl, hI.same (New.refl _), StayB.refl _ _ _, by rw [HFF.out]; exact ⟨_, _, _, _, _, rfl⟩⟩
        · -- 12
          intro vs kq wq hI hF
          have f0 : pVal (.slice A2 m2 c2) (vs 0) wq := (by have h := hF 0 (by rfl); rw [HFF.out] at h; exact h)
          unfold pVal at f0
          clear hF
          simp only [fillTo, dstOf, List.getElem?_toArray, List.getElem?_cons_zero, List.getElem?_cons_succ, Option.bind_some, Act.put, List.setIfInBounds_toArray, List.set_cons_zero, List.set_cons_succ, f0]
          clear f0
          go_wp2_with fail
          exact ⟨_, rfl, hI.same (New.refl _), StayB.refl _ _ _, by rw [HFF.out]; exact rfl⟩
        · -- 13
          intro vs kq wq hI hF
          have f1 : pVal (.agg #[.int .i64 sz, .int .i64 st, .slice Ar len cr]) (vs 1) wq := (by have h := hF 1 (by rfl); rw [HFF.out] at h; exact h)
          unfold pVal at f1
          clear hF
          obtain ⟨q', e1, e2, hr, g0, ho, hp, t7, ⟨x0, x1, x2, t3⟩, t4⟩ := hI
          obtain ⟨C0, C1, C2⟩ := cellsT t3
          have z3 : ∀ j, wq.frozen? ⟨w.heap.size, j, none⟩ = false := fun j => frozen_of_row _ _ _ _ _ t3
          have HO := Lib.hid ho
          have HP := Lib.hid hp
          have HRD := Lib.hid hr
          have HGG := Lib.hid g0
          have HT7 := Lib.hid t7
          have HT3 := Lib.hid t3
          have HT4 := Lib.hid t4
          clear ho hp hr g0 t7 t3 t4
          simp only [fillTo, dstOf, List.getElem?_toArray, List.getElem?_cons_zero, List.getElem?_cons_succ, Option.bind_some, Act.put, List.setIfInBounds_toArray, List.set_cons_zero, List.set_cons_succ, f1]
          clear f1
          go_wp2_with fail
          exact ⟨.bool true, rfl, ⟨q', e1, by omega, ((HRD.out.setLow (g := w.heap.size) h3R HAL.out h3w 0 _).setLow (g := w.heap.size) h3R HAL.out h3w 1 _).setLow (g := w.heap.size) h3R HAL.out h3w 2 _, gb_set (gb_set (gb_set HGG.out (p := ⟨w.heap.size, 0, none⟩) h3w _) (p := ⟨w.heap.size, 1, none⟩) h3w _) (p := ⟨w.heap.size, 2, none⟩) h3w _, ((HO.out.setOtherT (p := ⟨w.heap.size, 0, none⟩) h3B _).setOtherT (p := ⟨w.heap.size, 1, none⟩) h3B _).setOtherT (p := ⟨w.heap.size, 2, none⟩) h3B _, ((HP.out.setOtherT (p := ⟨w.heap.size, 0, none⟩) h3B _).setOtherT (p := ⟨w.heap.size, 1, none⟩) h3B _).setOtherT (p := ⟨w.heap.size, 2, none⟩) h3B _, blk_set (blk_set (blk_set HT7.out (a := ⟨w.heap.size, 0, none⟩) h37 _) (a := ⟨w.heap.size, 1, none⟩) h37 _) (a := ⟨w.heap.size, 2, none⟩) h37 _, ⟨_, _, _, blk_at (blk_at (blk_at HT3.out 0 _) 1 _) 2 _⟩, HT4.out.set3 h43⟩, ⟨fun _ => blk_at (blk_at (blk_at HT3.out 0 _) 1 _) 2 _, fun h => h.set3 h43⟩, by rw [HFF.out]; exact blk_at (blk_at (blk_at HT3.out 0 _) 1 _) 2 _⟩
        · -- 14
          intro vs kq wq hI hF
          have f11 : pFl (vs 11) wq := (by have h := hF 11 (by rfl); rw [HFF.out] at h; exact h)
          clear hF
          obtain ⟨ya, yb, yc, yd, yk, ev11⟩ := f11
          obtain ⟨q', e1, e2, hr, g0, ho, hp, t7, ⟨x0, x1, x2, t3⟩, t4⟩ := hI
          obtain ⟨y0, y1, y2, y3, y4, t4⟩ := t4
          obtain ⟨C0, C1, C2, C3, C4, _, _, _, _, _⟩ := cells5 t4
          have z4 : ∀ j, wq.frozen? ⟨(w.heap.size + 1), j, none⟩ = false := fun j => frozen_of_row _ _ _ _ _ t4
          have HO := Lib.hid ho
          have HP := Lib.hid hp
          have HRD := Lib.hid hr
          have HGG := Lib.hid g0
          have HT7 := Lib.hid t7
          have HT3 := Lib.hid t3
          have HT4 := Lib.hid t4
          clear ho hp hr g0 t7 t3 t4
          simp only [fillTo, dstOf, List.getElem?_toArray, List.getElem?_cons_zero, List.getElem?_cons_succ, Option.bind_some, Act.put, List.setIfInBounds_toArray, List.set_cons_zero, List.set_cons_succ, ev11]
          clear ev11
          go_wp2_with fail
          exact ⟨.bool true, rfl, ⟨q', e1, by omega, (((((HRD.out.setLow (g := (w.heap.size + 1)) h4R HAL.out h4w 0 _).setLow (g := (w.heap.size + 1)) h4R HAL.out h4w 1 _).setLow (g := (w.heap.size + 1)) h4R HAL.out h4w 2 _).setLow (g := (w.heap.size + 1)) h4R HAL.out h4w 3 _).setLow (g := (w.heap.size + 1)) h4R HAL.out h4w 4 _), (gb_set (gb_set (gb_set (gb_set (gb_set HGG.out (p := ⟨(w.heap.size + 1), 0, none⟩) h4w _) (p := ⟨(w.heap.size + 1), 1, none⟩) h4w _) (p := ⟨(w.heap.size + 1), 2, none⟩) h4w _) (p := ⟨(w.heap.size + 1), 3, none⟩) h4w _) (p := ⟨(w.heap.size + 1), 4, none⟩) h4w _), (((((HO.out.setOtherT (p := ⟨(w.heap.size + 1), 0, none⟩) h4B _).setOtherT (p := ⟨(w.heap.size + 1), 1, none⟩) h4B _).setOtherT (p := ⟨(w.heap.size + 1), 2, none⟩) h4B _).setOtherT (p := ⟨(w.heap.size + 1), 3, none⟩) h4B _).setOtherT (p := ⟨(w.heap.size + 1), 4, none⟩) h4B _), (((((HP.out.setOtherT (p := ⟨(w.heap.size + 1), 0, none⟩) h4B _).setOtherT (p := ⟨(w.heap.size + 1), 1, none⟩) h4B _).setOtherT (p := ⟨(w.heap.size + 1), 2, none⟩) h4B _).setOtherT (p := ⟨(w.heap.size + 1), 3, none⟩) h4B _).setOtherT (p := ⟨(w.heap.size + 1), 4, none⟩) h4B _), (blk_set (blk_set (blk_set (blk_set (blk_set HT7.out (a := ⟨(w.heap.size + 1), 0, none⟩) h47 _) (a := ⟨(w.heap.size + 1), 1, none⟩) h47 _) (a := ⟨(w.heap.size + 1), 2, none⟩) h47 _) (a := ⟨(w.heap.size + 1), 3, none⟩) h47 _) (a := ⟨(w.heap.size + 1), 4, none⟩) h47 _), ⟨_, _, _, (blk_set (blk_set (blk_set (blk_set (blk_set HT3.out (a := ⟨(w.heap.size + 1), 0, none⟩) h34 _) (a := ⟨(w.heap.size + 1), 1, none⟩) h34 _) (a := ⟨(w.heap.size + 1), 2, none⟩) h34 _) (a := ⟨(w.heap.size + 1), 3, none⟩) h34 _) (a := ⟨(w.heap.size + 1), 4, none⟩) h34 _)⟩, ⟨_, _, _, _, _, (blk_at (blk_at (blk_at (blk_at (blk_at HT4.out 0 _) 1 _) 2 _) 3 _) 4 _)⟩⟩, ⟨fun h => (blk_set (blk_set (blk_set (blk_set (blk_set h (a := ⟨(w.heap.size + 1), 0, none⟩) h34 _) (a := ⟨(w.heap.size + 1), 1, none⟩) h34 _) (a := ⟨(w.heap.size + 1), 2, none⟩) h34 _) (a := ⟨(w.heap.size + 1), 3, none⟩) h34 _) (a := ⟨(w.heap.size + 1), 4, none⟩) h34 _), fun _ => ⟨ya, yb, yc, yd, yk, (blk_at (blk_at (blk_at (blk_at (blk_at HT4.out 0 _) 1 _) 2 _) 3 _) 4 _)⟩⟩, by rw [HFF.out]; exact ⟨ya, yb, yc, yd, yk, (blk_at (blk_at (blk_at (blk_at (blk_at HT4.out 0 _) 1 _) 2 _) 3 _) 4 _)⟩⟩
      · intro vs kq wq hI hF
        have f12 : pVal (.slice A2 m2 c2) (vs 12) wq := (by have h := hF 12 (by omega); rw [HFF.out] at h; exact h)
        unfold pVal at f12
        have f13 : pW3 (Holds3 w.heap.size sz st Ar len cr) (vs 13) wq := (by have h := hF 13 (by omega); rw [HFF.out] at h; exact h)
        have f14 : pW4 (Holds5 (w.heap.size + 1)) (vs 14) wq := (by have h := hF 14 (by omega); rw [HFF.out] at h; exact h)
        clear hF HFF FF
        obtain ⟨ya, yb, yc, yd, yk, f14⟩ := f14
        obtain ⟨q', e1, e2, hr, g0, ho, hp, t7, ⟨x0, x1, x2, t3⟩, t4⟩ := hI
        obtain ⟨C0, C1, C2⟩ := cellsT f13
        obtain ⟨D0, D1, D2, D3, D4, _, _, _, _, _⟩ := cells5 f14
        have HO := Lib.hid ho
        have HGG := Lib.hid g0
        have HP := Lib.hid hp
        clear ho hp hr g0 t7 t3 t4 f13 f14
        simp only [fillTo, dstOf, List.getElem?_toArray, List.getElem?_cons_zero, List.getElem?_cons_succ, Option.bind_some, Act.put, List.setIfInBounds_toArray, List.set_cons_zero, List.set_cons_succ, f12, List.drop_succ_cons, List.drop_zero, List.drop_nil]
        clear f12
        go_wp2_with fail
        refine bodyPost_ret (v := .tuple #[.slice A2 m2 c2, .agg #[.int .i64 sz, .int .i64 st, .slice Ar len cr], .agg #[.int .i64 ya, .int .i64 yb, .int .i64 yc, .int .i64 yd, .int .i64 yk]]) (by simp [results, Try.results51, go_sem, *, ↓IntWalk.iteOmega]) rfl ⟨A2, m2, c2, hs, _, ya, yb, yc, yd, yk, rfl, HM.out, hm7, HP.out.capX, HP.out.capM, HP.out.ints, ⟨sz, st, Ar, len, cr, es, rfl, by omega, HO.out.capX, HO.out.capM, HEL.out, HO.out.none0X, HO.out.ints⟩, new_of_gb HGG.out hRw⟩
    · go_wp2_with fail
      obtain ⟨FF, hFF⟩ : ∃ FF, FF = factAt [pVal (.slice A2 m2 c2), pVal (.agg #[.int .i64 sz, .int .i64 st, .slice Ar len cr]), pVal (.pointer (some ⟨R, 0, none⟩)), pAgg5 (-1) 1000, pVal (.slice A2 m2 c2), pW3 (Holds3 w.heap.size sz st Ar len cr), pW4 (Holds5 (w.heap.size + 1))] := ⟨_, rfl⟩
      have HFF := Lib.hid hFF
      clear hFF
      refine wp_region_tail 7 (by kernel_rfl) (by kernel_rfl) (by kernel_rfl) (by decide) (DrawTI w R A (min n 2000) c (zs.take 2000) q4 1000 B G7 w.heap.size (Holds5 (w.heap.size + 1)) sz st Ar len cr es A2 m2 c2 hs) FF (StayB (Holds3 w.heap.size sz st Ar len cr) (Holds5 (w.heap.size + 1))) (by rw [HFF.out]; exact factAt_keptB (by
          intro P hP
          simp only [List.mem_cons, List.not_mem_nil, or_false] at hP
          rcases hP with rfl | rfl | rfl | rfl | rfl | rfl | rfl
          · exact keptB_any (fun _ _ _ h => h)
          · exact keptB_any (fun _ _ _ h => h)
          · exact keptB_any (fun _ _ _ h => h)
          · exact keptB_any (fun _ _ _ h => h)
          · exact keptB_any (fun _ _ _ h => h)
          · exact keptB_l
          · exact keptB_r
          )) ⟨q4, by omega, by omega, h5.new ((New.refl _).drew), gb_new G5 ((New.refl _).drew), o5.new ((New.refl _).drew), p5.new ((New.refl _).drew), blk_new t75 ((New.refl _).drew), ⟨_, _, _, blk_new t35 ((New.refl _).drew)⟩, t45⟩ ?_ ?_
      · refine ⟨?_, ?_, ?_, ?_, ?_, ?_, ?_, trivial⟩
        · -- 0
          intro vs kq wq hI hF
          clear hF
          simp only [fillTo, dstOf, List.getElem?_toArray, List.getElem?_cons_zero, List.getElem?_cons_succ, Option.bind_some, Act.put, List.setIfInBounds_toArray, List.set_cons_zero, List.set_cons_succ]
          go_wp2_with fail
          exact ⟨_, rfl, hI.same (New.refl _), StayB.refl _ _ _, by rw [HFF.out]; exact rfl⟩
        · -- 1
          intro vs kq wq hI hF
          clear hF
          have t7 := hI.t7
          obtain ⟨C0, C1, C2⟩ := cellsT t7
          simp only [fillTo, dstOf, List.getElem?_toArray, List.getElem?_cons_zero, List.getElem?_cons_succ, Option.bind_some, Act.put, List.setIfInBounds_toArray, List.set_cons_zero, List.set_cons_succ]
          go_wp2_with fail
          exact ⟨_, rfl, hI.same (New.refl _), StayB.refl _ _ _, by rw [HFF.out]; exact rfl⟩
        · -- 2
          intro vs kq wq hI hF
          clear hF
          simp only [fillTo, dstOf, List.getElem?_toArray, List.getElem?_cons_zero, List.getElem?_cons_succ, Option.bind_some, Act.put, List.setIfInBounds_toArray, List.set_cons_zero, List.set_cons_succ]
          go_wp2_with fail
          exact ⟨_, rfl, hI.same (New.refl _), StayB.refl _ _ _, by rw [HFF.out]; exact rfl⟩
        · -- 3
          intro vs kq wq hI hF
          have f2 : pVal (.pointer (some ⟨R, 0, none⟩)) (vs 2) wq := (by have h := hF 2 (by rfl); rw [HFF.out] at h; exact h)
          unfold pVal at f2
          clear hF
          obtain ⟨q', e1, e2, hr, g0, ho, hp, t7, ⟨x0, x1, x2, t3⟩, t4⟩ := hI
          simp only [fillTo, dstOf, List.getElem?_toArray, List.getElem?_cons_zero, List.getElem?_cons_succ, Option.bind_some, Act.put, List.setIfInBounds_toArray, List.set_cons_zero, List.set_cons_succ, f2]
          clear f2
          go_wp2_with fail
          refine (l20Flow_any R A _ c _ q' 12 _ hr (by omega) (by omega) (by omega)).mono ?_
          rintro e w' ⟨v, q2, rfl, hv, e3, e4, h2, g2⟩
          go_wp2_with fail
          exact ⟨_, rfl, ⟨q2, by omega, by omega, h2, gb_trans g0 g2, ho.gb g2 hRB, hp.gb g2 hRB, blk_gb t7 g2 hR7, ⟨x0, x1, x2, blk_gb t3 g2 hR3⟩, t4.gb g2 hR4⟩, StayB.gb3 g2 hR3 (fun h => h.gb g2 hR4), by rw [HFF.out]; exact hv⟩
        · -- 4
          intro vs kq wq hI hF
          have f0 : pVal (.slice A2 m2 c2) (vs 0) wq := (by have h := hF 0 (by rfl); rw [HFF.out] at h; exact h)
          unfold pVal at f0
          clear hF
          simp only [fillTo, dstOf, List.getElem?_toArray, List.getElem?_cons_zero, List.getElem?_cons_succ, Option.bind_some, Act.put, List.setIfInBounds_toArray, List.set_cons_zero, List.set_cons_succ, f0]
          clear f0
          go_wp2_with fail
          exact ⟨_, rfl, hI.same (New.refl _), StayB.refl _ _ _, by rw [HFF.out]; exact rfl⟩
        · -- 5
          intro vs kq wq hI hF
          have f1 : pVal (.agg #[.int .i64 sz, .int .i64 st, .slice Ar len cr]) (vs 1) wq := (by have h := hF 1 (by rfl); rw [HFF.out] at h; exact h)
          unfold pVal at f1
          clear hF
          obtain ⟨q', e1, e2, hr, g0, ho, hp, t7, ⟨x0, x1, x2, t3⟩, t4⟩ := hI
          obtain ⟨C0, C1, C2⟩ := cellsT t3
          have z3 : ∀ j, wq.frozen? ⟨w.heap.size, j, none⟩ = false := fun j => frozen_of_row _ _ _ _ _ t3
          have HO := Lib.hid ho
          have HP := Lib.hid hp
          have HRD := Lib.hid hr
          have HGG := Lib.hid g0
          have HT7 := Lib.hid t7
          have HT3 := Lib.hid t3
          have HT4 := Lib.hid t4
          clear ho hp hr g0 t7 t3 t4
          simp only [fillTo, dstOf, List.getElem?_toArray, List.getElem?_cons_zero, List.getElem?_cons_succ, Option.bind_some, Act.put, List.setIfInBounds_toArray, List.set_cons_zero, List.set_cons_succ, f1]
          clear f1
          go_wp2_with fail
          exact ⟨.bool true, rfl, ⟨q', e1, by omega, ((HRD.out.setLow (g := w.heap.size) h3R HAL.out h3w 0 _).setLow (g := w.heap.size) h3R HAL.out h3w 1 _).setLow (g := w.heap.size) h3R HAL.out h3w 2 _, gb_set (gb_set (gb_set HGG.out (p := ⟨w.heap.size, 0, none⟩) h3w _) (p := ⟨w.heap.size, 1, none⟩) h3w _) (p := ⟨w.heap.size, 2, none⟩) h3w _, ((HO.out.setOtherT (p := ⟨w.heap.size, 0, none⟩) h3B _).setOtherT (p := ⟨w.heap.size, 1, none⟩) h3B _).setOtherT (p := ⟨w.heap.size, 2, none⟩) h3B _, ((HP.out.setOtherT (p := ⟨w.heap.size, 0, none⟩) h3B _).setOtherT (p := ⟨w.heap.size, 1, none⟩) h3B _).setOtherT (p := ⟨w.heap.size, 2, none⟩) h3B _, blk_set (blk_set (blk_set HT7.out (a := ⟨w.heap.size, 0, none⟩) h37 _) (a := ⟨w.heap.size, 1, none⟩) h37 _) (a := ⟨w.heap.size, 2, none⟩) h37 _, ⟨_, _, _, blk_at (blk_at (blk_at HT3.out 0 _) 1 _) 2 _⟩, HT4.out.set3 h43⟩, ⟨fun _ => blk_at (blk_at (blk_at HT3.out 0 _) 1 _) 2 _, fun h => h.set3 h43⟩, by rw [HFF.out]; exact blk_at (blk_at (blk_at HT3.out 0 _) 1 _) 2 _⟩
        · -- 6
          intro vs kq wq hI hF
          have f3 : pAgg5 (-1) 1000 (vs 3) wq := (by have h := hF 3 (by rfl); rw [HFF.out] at h; exact h)
          clear hF
          obtain ⟨ya, yb, yc, yd, yk, ev3, _⟩ := f3
          obtain ⟨q', e1, e2, hr, g0, ho, hp, t7, ⟨x0, x1, x2, t3⟩, t4⟩ := hI
          obtain ⟨y0, y1, y2, y3, y4, t4⟩ := t4
          obtain ⟨C0, C1, C2, C3, C4, _, _, _, _, _⟩ := cells5 t4
          have z4 : ∀ j, wq.frozen? ⟨(w.heap.size + 1), j, none⟩ = false := fun j => frozen_of_row _ _ _ _ _ t4
          have HO := Lib.hid ho
          have HP := Lib.hid hp
          have HRD := Lib.hid hr
          have HGG := Lib.hid g0
          have HT7 := Lib.hid t7
          have HT3 := Lib.hid t3
          have HT4 := Lib.hid t4
          clear ho hp hr g0 t7 t3 t4
          simp only [fillTo, dstOf, List.getElem?_toArray, List.getElem?_cons_zero, List.getElem?_cons_succ, Option.bind_some, Act.put, List.setIfInBounds_toArray, List.set_cons_zero, List.set_cons_succ, ev3]
          clear ev3
          go_wp2_with fail
          exact ⟨.bool true, rfl, ⟨q', e1, by omega, (((((HRD.out.setLow (g := (w.heap.size + 1)) h4R HAL.out h4w 0 _).setLow (g := (w.heap.size + 1)) h4R HAL.out h4w 1 _).setLow (g := (w.heap.size + 1)) h4R HAL.out h4w 2 _).setLow (g := (w.heap.size + 1)) h4R HAL.out h4w 3 _).setLow (g := (w.heap.size + 1)) h4R HAL.out h4w 4 _), (gb_set (gb_set (gb_set (gb_set (gb_set HGG.out (p := ⟨(w.heap.size + 1), 0, none⟩) h4w _) (p := ⟨(w.heap.size + 1), 1, none⟩) h4w _) (p := ⟨(w.heap.size + 1), 2, none⟩) h4w _) (p := ⟨(w.heap.size + 1), 3, none⟩) h4w _) (p := ⟨(w.heap.size + 1), 4, none⟩) h4w _), (((((HO.out.setOtherT (p := ⟨(w.heap.size + 1), 0, none⟩) h4B _).setOtherT (p := ⟨(w.heap.size + 1), 1, none⟩) h4B _).setOtherT (p := ⟨(w.heap.size + 1), 2, none⟩) h4B _).setOtherT (p := ⟨(w.heap.size + 1), 3, none⟩) h4B _).setOtherT (p := ⟨(w.heap.size + 1), 4, none⟩) h4B _), (((((HP.out.setOtherT (p := ⟨(w.heap.size + 1), 0, none⟩) h4B _).setOtherT (p := ⟨(w.heap.size + 1), 1, none⟩) h4B _).setOtherT (p := ⟨(w.heap.size + 1), 2, none⟩) h4B _).setOtherT (p := ⟨(w.heap.size + 1), 3, none⟩) h4B _).setOtherT (p := ⟨(w.heap.size + 1), 4, none⟩) h4B _), (blk_set (blk_set (blk_set (blk_set (blk_set HT7.out (a := ⟨(w.heap.size + 1), 0, none⟩) h47 _) (a := ⟨(w.heap.size + 1), 1, none⟩) h47 _) (a := ⟨(w.heap.size + 1), 2, none⟩) h47 _) (a := ⟨(w.heap.size + 1), 3, none⟩) h47 _) (a := ⟨(w.heap.size + 1), 4, none⟩) h47 _), ⟨_, _, _, (blk_set (blk_set (blk_set (blk_set (blk_set HT3.out (a := ⟨(w.heap.size + 1), 0, none⟩) h34 _) (a := ⟨(w.heap.size + 1), 1, none⟩) h34 _) (a := ⟨(w.heap.size + 1), 2, none⟩) h34 _) (a := ⟨(w.heap.size + 1), 3, none⟩) h34 _) (a := ⟨(w.heap.size + 1), 4, none⟩) h34 _)⟩, ⟨_, _, _, _, _, (blk_at (blk_at (blk_at (blk_at (blk_at HT4.out 0 _) 1 _) 2 _) 3 _) 4 _)⟩⟩, ⟨fun h => (blk_set (blk_set (blk_set (blk_set (blk_set h (a := ⟨(w.heap.size + 1), 0, none⟩) h34 _) (a := ⟨(w.heap.size + 1), 1, none⟩) h34 _) (a := ⟨(w.heap.size + 1), 2, none⟩) h34 _) (a := ⟨(w.heap.size + 1), 3, none⟩) h34 _) (a := ⟨(w.heap.size + 1), 4, none⟩) h34 _), fun _ => ⟨ya, yb, yc, yd, yk, (blk_at (blk_at (blk_at (blk_at (blk_at HT4.out 0 _) 1 _) 2 _) 3 _) 4 _)⟩⟩, by rw [HFF.out]; exact ⟨ya, yb, yc, yd, yk, (blk_at (blk_at (blk_at (blk_at (blk_at HT4.out 0 _) 1 _) 2 _) 3 _) 4 _)⟩⟩
      · intro vs kq wq hI hF
        have f4 : pVal (.slice A2 m2 c2) (vs 4) wq := (by have h := hF 4 (by omega); rw [HFF.out] at h; exact h)
        unfold pVal at f4
        have f5 : pW3 (Holds3 w.heap.size sz st Ar len cr) (vs 5) wq := (by have h := hF 5 (by omega); rw [HFF.out] at h; exact h)
        have f6 : pW4 (Holds5 (w.heap.size + 1)) (vs 6) wq := (by have h := hF 6 (by omega); rw [HFF.out] at h; exact h)
        clear hF HFF FF
        obtain ⟨ya, yb, yc, yd, yk, f6⟩ := f6
        obtain ⟨q', e1, e2, hr, g0, ho, hp, t7, ⟨x0, x1, x2, t3⟩, t4⟩ := hI
        obtain ⟨C0, C1, C2⟩ := cellsT f5
        obtain ⟨D0, D1, D2, D3, D4, _, _, _, _, _⟩ := cells5 f6
        have HO := Lib.hid ho
        have HGG := Lib.hid g0
        have HP := Lib.hid hp
        clear ho hp hr g0 t7 t3 t4 f5 f6
        simp only [fillTo, dstOf, List.getElem?_toArray, List.getElem?_cons_zero, List.getElem?_cons_succ, Option.bind_some, Act.put, List.setIfInBounds_toArray, List.set_cons_zero, List.set_cons_succ, f4, List.drop_succ_cons, List.drop_zero, List.drop_nil]
        clear f4
        go_wp2_with fail
        refine bodyPost_ret (v := .tuple #[.slice A2 m2 c2, .agg #[.int .i64 sz, .int .i64 st, .slice Ar len cr], .agg #[.int .i64 ya, .int .i64 yb, .int .i64 yc, .int .i64 yd, .int .i64 yk]]) (by simp [results, Try.results51, go_sem, *, ↓IntWalk.iteOmega]) rfl ⟨A2, m2, c2, hs, _, ya, yb, yc, yd, yk, rfl, HM.out, hm7, HP.out.capX, HP.out.capM, HP.out.ints, ⟨sz, st, Ar, len, cr, es, rfl, by omega, HO.out.capX, HO.out.capM, HEL.out, HO.out.none0X, HO.out.ints⟩, new_of_gb HGG.out hRw⟩
end Go.Proofs.Ytbnehcaallehbaa
