/- Draws of tables: the row of entries is the call's own; its numbers are not told. -/
import Derived.Test.YtbnehcaallehbaaRowX
import Derived.Test.YtbnehcaallehbaaTabX
namespace Go.Proofs.Ytbnehcaallehbaa
set_option linter.unusedVariables false
set_option linter.unusedSimpArgs false
open Go.RowKit Go.Sort

/-- What stays behind each step: the rows of the call's own. -/
def StayX (B : Nat) (w w' : World) : Prop := ∀ v n, RowX 50 7 B w v n → RowX 50 7 B w' v n
theorem StayX.refl (B : Nat) (w : World) : StayX B w w := fun _ _ h => h
theorem StayX.new {B : Nat} {w w' : World} (hb : New w w') : StayX B w w' := fun _ _ h => h.new hb
def pX (B n : Nat) (v : Value) (w : World) : Prop := RowX 50 7 B w v n
def KeptX (B : Nat) (P : Value → World → Prop) : Prop := ∀ v w w', StayX B w w' → P v w → P v w'
theorem keptX_val (B : Nat) (x : Value) : KeptX B (pVal x) := fun _ _ _ _ h => h
theorem keptX_row (B n : Nat) : KeptX B (pX B n) := fun v _ _ hb h => hb v n h
theorem factAt_keptX {B : Nat} {ks : List (Value → World → Prop)} (h : ∀ P ∈ ks, KeptX B P) (i : Nat) (v : Value) (w w' : World) (hS : StayX B w w') (hf : factAt ks i v w) : factAt ks i v w' := by
  unfold factAt at *
  rw [List.getD_eq_getElem?_getD] at *
  rcases hk : ks[i]? with _ | P
  · simp
  · simp only [hk, Option.getD_some] at hf ⊢
    exact h P (List.mem_of_getElem? hk) v w w' hS hf
theorem setCell_gbT (w : World) (p : Addr) (u : Value) : w.grownBy (w.setCell p u) (some p.block) :=
  ⟨rfl, rfl, rfl, by simp [World.setCell], fun i _ hi => Below.heap_setCell _ _ _ _ (fun e => hi (by rw [e]))⟩
theorem Own.setOtherT {E : TypeId} {size B n c : Nat} {w : World} {A : Option Addr} {zs : List Int} (h : Own E size B w A n c zs) {p : Addr} (hp : p.block < B) (u : Value) : Own E size B (w.setCell p u) A n c zs := h.gb (setCell_gbT w p u) hp
/-- A table whose row is the call's own. -/
def TabAny (B : Nat) (w : World) (sz st : Int) (n : Nat) (v : Value) : Prop := ∃ r, v = .agg #[.int .i64 sz, .int .i64 st, r] ∧ RowX 50 7 B w r n
theorem l9Last_any (sz st : Int) (A : Option Addr) (n c : Nat) (es : List Ent) (w : World) (hn : es.length = n) (hm : n ≤ 1048576) (h : Ints w A (flatE es)) :
    Calls Try.prog 115 #[.agg #[.int .i64 sz, .int .i64 st, .slice A n c]] w fun e w' => (∃ z, e = .returned (.int .i64 z)) ∧ New w w' := by
  by_cases h0 : n = 0
  · subst h0
    go_enter Try.func115, Try.ntmps115
    go_wp2_with fail
    go_ret
    exact ⟨⟨_, rfl⟩, (by repeat (first | with_reducible assumption | with_reducible exact New.refl _ | with_reducible refine New.alloc ?_ _ | with_reducible refine New.drew ?_ | with_reducible refine New.drewN ?_ _ | refine New.setCell ?_ (by first | (simp; done) | omega | (simp; omega)) _ | with_reducible refine New.trans ?_ (by with_reducible assumption)))⟩
  · obtain ⟨b, o, x, rfl, hx, hb, c0, c1, c2, c3, c4, c5, c6⟩ := ents_at h (i := n - 1) (by omega)
    obtain ⟨k, rfl⟩ : ∃ k, n = k + 1 := ⟨n - 1, by omega⟩
    simp only [Nat.add_sub_cancel] at c6
    clear c0 c1 c2 c3 c4 c5 hx hn
    go_enter Try.func115, Try.ntmps115
    go_wp2_with fail
    go_ret
    exact ⟨⟨_, rfl⟩, (by repeat (first | with_reducible assumption | with_reducible exact New.refl _ | with_reducible refine New.alloc ?_ _ | with_reducible refine New.drew ?_ | with_reducible refine New.drewN ?_ _ | refine New.setCell ?_ (by first | (simp; done) | omega | (simp; omega)) _ | with_reducible refine New.trans ?_ (by with_reducible assumption)))⟩
set_option maxRecDepth 100000 in
set_option maxHeartbeats 1000000 in
theorem l9Copy_any (sz st : Int) (A : Option Addr) (n c : Nat) (es : List Ent) (w : World) (hn : es.length = n) (hA : A = none → c = 0) (hnc : n ≤ c) (hm : n ≤ 1048576) (h : Ints w A (flatE es)) :
    Calls Try.prog 116 #[.agg #[.int .i64 sz, .int .i64 st, .slice A n c]] w fun e w' => ∃ v, e = .returned v ∧ TabAny w.heap.size w' sz st n v ∧ New w w' := by
  obtain ⟨i0, hi, iz0, iz1, iz2⟩ := info_parts entry_info
  have HL := Lib.hid (show (flatE es).length = n * 7 by rw [flatE_len, hn])
  have HA := Lib.hid (show A = none → c = 0 ∧ n = 0 from fun e => ⟨hA e, by have := hA e; omega⟩)
  clear hn hA
  have b0 := (New.refl w).alloc (.cells #[.int .i64 sz, .int .i64 st, .slice A n c] 44)
  have b1 := b0.alloc (.cells #[.int .i64 0, .int .i64 0, .slice none 0 0] 44)
  have hres : ((w.alloc (.cells #[.int .i64 sz, .int .i64 st, .slice A n c] 44)).alloc (.cells #[.int .i64 0, .int .i64 0, .slice none 0 0] 44)).heap[w.heap.size]? = some (.cells #[.int .i64 sz, .int .i64 st, .slice A n c] 44 (0, 0)) := by
    rw [heap_alloc_old _ _ (by simp)]
    exact heap_alloc_new _ _
  have hres2 : ((w.alloc (.cells #[.int .i64 sz, .int .i64 st, .slice A n c] 44)).alloc (.cells #[.int .i64 0, .int .i64 0, .slice none 0 0] 44)).heap[(w.alloc (.cells #[.int .i64 sz, .int .i64 st, .slice A n c] 44)).heap.size]? = some (.cells #[.int .i64 0, .int .i64 0, .slice none 0 0] 44 (0, 0)) := heap_alloc_new _ _
  rw [World.size_alloc] at hres2
  have HI := Lib.hid (h.new b1)
  clear h
  go_enter Try.func116, Try.ntmps116
  go_wp2_with fail
  generalize (w.alloc (.cells #[.int .i64 sz, .int .i64 st, .slice A n c] 44)).alloc (.cells #[.int .i64 0, .int .i64 0, .slice none 0 0] 44) = w1 at b1 hres hres2 HI ⊢
  obtain ⟨C0, C1, C2⟩ := cellsT hres
  have hlt1 : w.heap.size + 1 < w1.heap.size := (Array.getElem?_eq_some_iff.1 hres2).1
  clear b0
  obtain ⟨FF, hFF⟩ : ∃ FF, FF = factAt [pVal (.pointer (some ⟨w.heap.size, 0, none⟩)), pVal (.int .i64 sz), pVal (.pointer (some ⟨w.heap.size, 1, none⟩)), pVal (.int .i64 st), pX w1.heap.size 0, pVal (.pointer (some ⟨w.heap.size, 2, none⟩)), pVal (.slice A n c), pX w1.heap.size n] := ⟨_, rfl⟩
  have HFF := Lib.hid hFF
  clear hFF
  refine wp_region_tail 8 (by kernel_rfl) (by kernel_rfl) (by kernel_rfl) (by decide) (LrI w1) FF (StayX w1.heap.size) (by rw [HFF.out]; exact factAt_keptX (by
      intro P hP
      simp only [List.mem_cons, List.not_mem_nil, or_false] at hP
      rcases hP with rfl | rfl | rfl | rfl | rfl | rfl | rfl | rfl
      · exact keptX_val _ _
      · exact keptX_val _ _
      · exact keptX_val _ _
      · exact keptX_val _ _
      · exact keptX_row _ _
      · exact keptX_val _ _
      · exact keptX_val _ _
      · exact keptX_row _ _
      )) (New.drew (New.refl _)) ?_ ?_
  · refine ⟨?_, ?_, ?_, ?_, ?_, ?_, ?_, ?_, trivial⟩
    · -- 0: Op.fieldAddr 60 t1 0
      intro vs kq wq hI hF
      have hI : New w1 wq := hI
      clear hF
      simp only [fillTo, dstOf, List.getElem?_toArray, List.getElem?_cons_zero, List.getElem?_cons_succ, Option.bind_some, Act.put, List.setIfInBounds_toArray, List.set_cons_zero, List.set_cons_succ]
      go_wp2_with fail
      exact ⟨_, rfl, hI, StayX.refl _ _, by rw [HFF.out]; exact rfl⟩
    · -- 1: Op.load 3 t3
      intro vs kq wq hI hF
      have hI : New w1 wq := hI
      have f0 : pVal (.pointer (some ⟨w.heap.size, 0, none⟩)) (vs 0) wq := (by have h := hF 0 (by rfl); rw [HFF.out] at h; exact h)
      unfold pVal at f0
      clear hF
      simp only [fillTo, dstOf, List.getElem?_toArray, List.getElem?_cons_zero, List.getElem?_cons_succ, Option.bind_some, Act.put, List.setIfInBounds_toArray, List.set_cons_zero, List.set_cons_succ, f0]
      clear f0
      have hcq := New.cells hI; have hzq := New.le hI
      go_wp2_with fail
      exact ⟨_, rfl, hI, StayX.refl _ _, by rw [HFF.out]; exact rfl⟩
    · -- 2: Op.fieldAddr 60 t1 1
      intro vs kq wq hI hF
      have hI : New w1 wq := hI
      clear hF
      simp only [fillTo, dstOf, List.getElem?_toArray, List.getElem?_cons_zero, List.getElem?_cons_succ, Option.bind_some, Act.put, List.setIfInBounds_toArray, List.set_cons_zero, List.set_cons_succ]
      go_wp2_with fail
      exact ⟨_, rfl, hI, StayX.refl _ _, by rw [HFF.out]; exact rfl⟩
    · -- 3: Op.load 3 t5
      intro vs kq wq hI hF
      have hI : New w1 wq := hI
      have f2 : pVal (.pointer (some ⟨w.heap.size, 1, none⟩)) (vs 2) wq := (by have h := hF 2 (by rfl); rw [HFF.out] at h; exact h)
      unfold pVal at f2
      clear hF
      simp only [fillTo, dstOf, List.getElem?_toArray, List.getElem?_cons_zero, List.getElem?_cons_succ, Option.bind_some, Act.put, List.setIfInBounds_toArray, List.set_cons_zero, List.set_cons_succ, f2]
      clear f2
      have hcq := New.cells hI; have hzq := New.le hI
      go_wp2_with fail
      exact ⟨_, rfl, hI, StayX.refl _ _, by rw [HFF.out]; exact rfl⟩
    · -- 4: Op.buildSlice 58 0 #[]
      intro vs kq wq hI hF
      have hI : New w1 wq := hI
      clear hF
      simp only [fillTo, dstOf, List.getElem?_toArray, List.getElem?_cons_zero, List.getElem?_cons_succ, Option.bind_some, Act.put, List.setIfInBounds_toArray, List.set_cons_zero, List.set_cons_succ]
      go_wp2_with fail
      have bq := (New.refl wq).alloc (.cells #[] 50)
      exact ⟨_, rfl, New.trans hI bq, StayX.new bq, by rw [HFF.out]; exact ⟨_, 0, [], rfl, World.ownsRow_lit wq #[] 0 (New.le hI) (Nat.zero_le _) rfl⟩⟩
    · -- 5: Op.fieldAddr 60 t1 2
      intro vs kq wq hI hF
      have hI : New w1 wq := hI
      clear hF
      simp only [fillTo, dstOf, List.getElem?_toArray, List.getElem?_cons_zero, List.getElem?_cons_succ, Option.bind_some, Act.put, List.setIfInBounds_toArray, List.set_cons_zero, List.set_cons_succ]
      go_wp2_with fail
      exact ⟨_, rfl, hI, StayX.refl _ _, by rw [HFF.out]; exact rfl⟩
    · -- 6: Op.load 58 t8
      intro vs kq wq hI hF
      have hI : New w1 wq := hI
      have f5 : pVal (.pointer (some ⟨w.heap.size, 2, none⟩)) (vs 5) wq := (by have h := hF 5 (by rfl); rw [HFF.out] at h; exact h)
      unfold pVal at f5
      clear hF
      simp only [fillTo, dstOf, List.getElem?_toArray, List.getElem?_cons_zero, List.getElem?_cons_succ, Option.bind_some, Act.put, List.setIfInBounds_toArray, List.set_cons_zero, List.set_cons_succ, f5]
      clear f5
      have hcq := New.cells hI; have hzq := New.le hI
      go_wp2_with fail
      exact ⟨_, rfl, hI, StayX.refl _ _, by rw [HFF.out]; exact rfl⟩
    · -- 7: Op.call { builtin append, args := #[t7, t9], argTypes := #[5
      intro vs kq wq hI hF
      have hI : New w1 wq := hI
      have f4 : pX w1.heap.size 0 (vs 4) wq := (by have h := hF 4 (by rfl); rw [HFF.out] at h; exact h)
      have f6 : pVal (.slice A n c) (vs 6) wq := (by have h := hF 6 (by rfl); rw [HFF.out] at h; exact h)
      unfold pVal at f6
      clear hF
      simp only [fillTo, dstOf, List.getElem?_toArray, List.getElem?_cons_zero, List.getElem?_cons_succ, Option.bind_some, Act.put, List.setIfInBounds_toArray, List.set_cons_zero, List.set_cons_succ, f6]
      clear f6
      obtain ⟨V4, hV4⟩ : ∃ V4, vs 4 = V4 := ⟨_, rfl⟩
      rw [hV4] at f4 ⊢
      clear hV4
      have f4 : RowX 50 7 w1.heap.size wq V4 0 := f4
      go_wp2_with (at_builtin; refine wpList_append_X _ rfl (.tmp 7) (.tmp 9) 42 rfl w1 w1.heap.size 50 i0 _ 7 56 Try.underlying42 hi iz0 iz1 iz2 rfl (by omega) (by omega) V4 0 rfl f4 A n c (flatE es) rfl HA.out HL.out (HI.out.new hI) (by omega) (Nat.le_refl _) (New.le hI) hI ?_; intro v2 w2 r2 n2 g2 k2)
      rw [Nat.zero_add] at r2
      exact ⟨_, rfl, n2, k2, by rw [HFF.out]; exact r2⟩
  · intro vs kq wq hI hF
    have hI : New w1 wq := hI
    have f1 : pVal (.int .i64 sz) (vs 1) wq := (by have h := hF 1 (by omega); rw [HFF.out] at h; exact h)
    have f3 : pVal (.int .i64 st) (vs 3) wq := (by have h := hF 3 (by omega); rw [HFF.out] at h; exact h)
    have f7 : pX w1.heap.size n (vs 7) wq := (by have h := hF 7 (by omega); rw [HFF.out] at h; exact h)
    unfold pVal at f1 f3
    clear hF HFF FF
    obtain ⟨A7, c7, zs7, e7, o7⟩ := f7
    simp only [fillTo, dstOf, List.getElem?_toArray, List.getElem?_cons_zero, List.getElem?_cons_succ, Option.bind_some, Act.put, List.setIfInBounds_toArray, List.set_cons_zero, List.set_cons_succ, List.drop_succ_cons, List.drop_zero, f1, f3, e7]
    clear f1 f3 e7
    have hq := (Below.block hI (w.heap.size + 1) hlt1).trans hres2
    have hqs : w.heap.size + 1 < wq.heap.size := Nat.lt_of_lt_of_le hlt1 hI.le
    clear hres hres2 C0 C1 C2
    obtain ⟨D0, D1, D2⟩ := cellsT hq
    have zf : ∀ j, wq.frozen? ⟨w.heap.size + 1, j, none⟩ = false := fun j => frozen_of_row _ _ _ _ _ hq
    go_wp2_with fail
    refine bodyPost_ret (v := .agg #[.int .i64 sz, .int .i64 st, .slice A7 n c7]) (by simp [results, Try.results116, go_sem, *, ↓IntWalk.iteOmega]) rfl ⟨_, rfl, ⟨_, rfl, A7, c7, zs7, rfl, ?_⟩, ?_⟩
    · exact (((o7.setOtherT (p := ⟨w.heap.size + 1, 0, none⟩) hlt1 _).setOtherT (p := ⟨w.heap.size + 1, 1, none⟩) hlt1 _).setOtherT (p := ⟨w.heap.size + 1, 2, none⟩) hlt1 _).less b1.le
    · exact (((b1.trans hI).setCell (p := ⟨w.heap.size + 1, 0, none⟩) (by simp) _).setCell (p := ⟨w.heap.size + 1, 1, none⟩) (by simp) _).setCell (p := ⟨w.heap.size + 1, 2, none⟩) (by simp) _
end Go.Proofs.Ytbnehcaallehbaa
