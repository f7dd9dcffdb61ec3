/- Draws of a pool, a number and a state. -/
import Derived.Test.YtgheimmhicpefaaDrawK
import Derived.Test.YtgheimmhicpefaaDrawJ
namespace Go.Proofs.Ytgheimmhicpefaa
set_option linter.unusedVariables false
set_option linter.unusedSimpArgs false
open Go.RowKit

def pIntZ (v : Value) (_ : World) : Prop := ∃ z : Int, v = .int .i64 z
theorem kept_intZ (R : Nat) : Kept R pIntZ := fun _ _ _ _ h => h
def setF (R : Nat) (W : World) (A' : Option Addr) (m : Nat) (c' : Nat) : List (Value → World → Prop) :=
  [pVal (.slice A' m c'),
   pVal (.pointer (some ⟨R, 0, none⟩)),
   pVal (.slice A' m c'),
   pIntZ,
   pSl R 8 (-1) 3,
   pVal (.pointer (some ⟨R, 0, none⟩)),
   pInt 0 7,
   pAd R (-1) 3,
   pInt (-1) 3,
   pVal (.slice A' m c'),
   pIntZ,
   pInt (-1) 3]
theorem setF_kept (R : Nat) (W : World) (A' : Option Addr) (m : Nat) (c' : Nat) : ∀ P ∈ setF R W A' m c', Kept R P := by
  unfold setF
  intro P hP
  simp only [List.mem_cons, List.not_mem_nil, or_false] at hP
  rcases hP with rfl | rfl | rfl | rfl | rfl | rfl | rfl | rfl | rfl | rfl | rfl | rfl
  · exact kept_val _ _
  · exact kept_val _ _
  · exact kept_val _ _
  · exact kept_intZ _
  · exact kept_sl _ _ _ _
  · exact kept_val _ _
  · exact kept_int _ _ _
  · exact kept_ad _ _ _
  · exact kept_int _ _ _
  · exact kept_val _ _
  · exact kept_intZ _
  · exact kept_int _ _ _
/-- A drawn pool, a drawn number and a drawn state. -/
def PoolNum2Drawn (w : World) (e : Ending) (w' : World) : Prop :=
  ∃ A' c', ∃ hs : List Hst, ∃ z s : Int, e = .returned (.tuple #[.slice A' hs.length c', .int .i64 z, .int .i64 s]) ∧ hs.length ≤ 7 ∧ hs.length ≤ c' ∧ c' ≤ maxLen ∧ (A' = none ∨ ∃ g, A' = some ⟨g, 0, none⟩) ∧ Ints w' A' (flat hs) ∧ New w w'
set_option maxRecDepth 100000 in
set_option maxHeartbeats 2000000 in
theorem DrawSetState_any (A : Option Addr) (n c : Nat) (zs : List Int) (w : World) (h : CodeArg w A n c zs) : Calls Try.prog 31 #[.slice A n c] w (PoolNum2Drawn w) := by
  go_enter Try.func31, Try.ntmps31
  go_wp2_with fail
  refine (open_code h).mono ?_
  rintro e w1 ⟨rfl, h1, b1⟩
  have hlt1 := h1.lt
  go_wp2_with fail
  refine (l20Pool_any _ A _ c _ 0 9 _ h1 (by omega) (by omega) (by omega)).mono ?_
  rintro e w2 ⟨A', c', q, hs, rfl, l7, lc, cm, o2, q0, q1, h2, g2⟩
  obtain ⟨m, hm⟩ : ∃ m, hs.length = m := ⟨_, rfl⟩
  rw [hm] at l7 lc o2 ⊢
  have HM := Lib.hid hm
  clear hm
  have hne : ∀ g, A' = some ⟨g, 0, none⟩ → g ≠ w.heap.size := fun g hg => by
    subst hg
    have := o2.blkGe
    omega
  obtain ⟨R, hRe⟩ : ∃ R, w.heap.size = R := ⟨_, rfl⟩
  rw [hRe] at h1 hlt1 h2 g2 hne ⊢
  have hR2 : R < w1.heap.size := hlt1
  go_wp2_with fail
  refine wp_region_tail 12 (by kernel_rfl) (by kernel_rfl) (by kernel_rfl) (by decide) (DrawI4 w2 R A (min n 2000) c (zs.take 2000) q 100) (factAt (setF R w2 A' m c')) (DrawS R) (factAt_kept (setF_kept R w2 A' m c')) ⟨q, by omega, by omega, h2.new ((New.refl _).drew), gb_new (gb_refl _ _) ((New.refl _).drew)⟩ ?_ ?_
  · refine ⟨?_, ?_, ?_, ?_, ?_, ?_, ?_, ?_, ?_, ?_, ?_, ?_, trivial⟩
    · -- 0
      intro vs k w hI hF
      clear hF
      simp only [fillTo, dstOf, List.getElem?_toArray, List.getElem?_cons_zero, List.getElem?_cons_succ, Option.bind_some, Act.put, List.setIfInBounds_toArray, List.set_cons_zero, List.set_cons_succ]
      go_wp2_with fail
      exact ⟨_, rfl, hI.same (New.refl _), gb_refl _ _, rfl⟩
    · -- 1
      intro vs k w hI hF
      clear hF
      simp only [fillTo, dstOf, List.getElem?_toArray, List.getElem?_cons_zero, List.getElem?_cons_succ, Option.bind_some, Act.put, List.setIfInBounds_toArray, List.set_cons_zero, List.set_cons_succ]
      go_wp2_with fail
      exact ⟨_, rfl, hI.same (New.refl _), gb_refl _ _, rfl⟩
    · -- 2
      intro vs k w hI hF
      clear hF
      simp only [fillTo, dstOf, List.getElem?_toArray, List.getElem?_cons_zero, List.getElem?_cons_succ, Option.bind_some, Act.put, List.setIfInBounds_toArray, List.set_cons_zero, List.set_cons_succ]
      go_wp2_with fail
      exact ⟨_, rfl, hI.same (New.refl _), gb_refl _ _, rfl⟩
    · -- 3
      intro vs k w hI hF
      have f1 : pVal (.pointer (some ⟨R, 0, none⟩)) (vs 1) w := hF 1 (by rfl)
      have f2 : pVal (.slice A' m c') (vs 2) w := hF 2 (by rfl)
      clear hF
      obtain ⟨q, q1, q2, hr, g0⟩ := hI
      unfold pVal at f1 f2
      simp only [fillTo, dstOf, List.getElem?_toArray, List.getElem?_cons_zero, List.getElem?_cons_succ, Option.bind_some, Act.put, List.setIfInBounds_toArray, List.set_cons_zero, List.set_cons_succ, f1, f2]
      clear f1 f2
      go_wp2_with fail
      refine (l20Number_any R A _ c _ q A' m c' hs _ hr (by omega) HM.out l7 (o2.gb g0 hR2).ints hne o2.plain).mono ?_
      rintro e w1 ⟨v, q', rfl, ⟨x, rfl, _⟩, h0, h1, h2, g1⟩
      go_wp2_with fail
      exact ⟨_, rfl, ⟨q', by omega, by omega, h2, gb_trans g0 g1⟩, g1, x, rfl⟩
    · -- 4
      intro vs k w hI hF
      clear hF
      simp only [fillTo, dstOf, List.getElem?_toArray, List.getElem?_cons_zero, List.getElem?_cons_succ, Option.bind_some, Act.put, List.setIfInBounds_toArray, List.set_cons_zero, List.set_cons_succ]
      go_wp2_with fail
      exact ⟨_, rfl, hI.same ((New.refl _).alloc _), new_gbR R ((New.refl _).alloc _), PSl.built _ [0, 1, 2, 0, 1, 2, -1, 3] hI.lt (by first | (simp; done) | (simp; omega))⟩
    · -- 5
      intro vs k w hI hF
      clear hF
      simp only [fillTo, dstOf, List.getElem?_toArray, List.getElem?_cons_zero, List.getElem?_cons_succ, Option.bind_some, Act.put, List.setIfInBounds_toArray, List.set_cons_zero, List.set_cons_succ]
      go_wp2_with fail
      exact ⟨_, rfl, hI.same (New.refl _), gb_refl _ _, rfl⟩
    · -- 6
      intro vs k w hI hF
      have f5 : pVal (.pointer (some ⟨R, 0, none⟩)) (vs 5) w := hF 5 (by rfl)
      clear hF
      obtain ⟨q, q1, q2, hr, g0⟩ := hI
      unfold pVal at f5
      simp only [fillTo, dstOf, List.getElem?_toArray, List.getElem?_cons_zero, List.getElem?_cons_succ, Option.bind_some, Act.put, List.setIfInBounds_toArray, List.set_cons_zero, List.set_cons_succ, f5]
      clear f5
      go_wp2_with fail
      refine (pick_any R A _ c _ q 8 _ hr (by omega) (by omega)).mono ?_
      rintro e w1 ⟨x, rfl, x0, x1, h1, g1⟩
      go_wp2_with fail
      exact ⟨_, rfl, DrawI4.next q1 q2 g0 h1 g1, g1, x, rfl, x0, by omega⟩
    · -- 7
      intro vs k w hI hF
      have f4 : pSl R 8 (-1) 3 (vs 4) w := hF 4 (by rfl)
      have f6 : pInt 0 7 (vs 6) w := hF 6 (by rfl)
      clear hF
      obtain ⟨g, es, hne, hlt, hc⟩ := f4
      obtain ⟨x, ei, x0, x1⟩ := f6
      obtain ⟨y, rfl⟩ := Int.eq_ofNat_of_zero_le x0
      obtain ⟨z, hz, hb⟩ := hc y (by omega)
      have hc' := Lib.hid hc
      clear hc
      simp only [fillTo, dstOf, List.getElem?_toArray, List.getElem?_cons_zero, List.getElem?_cons_succ, Option.bind_some, Act.put, List.setIfInBounds_toArray, List.set_cons_zero, List.set_cons_succ, es, ei]
      clear es ei
      go_wp2_with fail
      exact ⟨_, rfl, hI.same (New.refl _), gb_refl _ _, g, y, z, rfl, hne, hlt, hz, hb⟩
    · -- 8
      intro vs k w hI hF
      have f7 : pAd R (-1) 3 (vs 7) w := hF 7 (by rfl)
      clear hF
      obtain ⟨g, j, z, ea, _, _, hc, hb⟩ := f7
      simp only [fillTo, dstOf, List.getElem?_toArray, List.getElem?_cons_zero, List.getElem?_cons_succ, Option.bind_some, Act.put, List.setIfInBounds_toArray, List.set_cons_zero, List.set_cons_succ, ea]
      clear ea
      go_wp2_with fail
      exact ⟨_, rfl, hI.same (New.refl _), gb_refl _ _, z, rfl, hb⟩
    · -- 9
      intro vs k w hI hF
      have f0 : pVal (.slice A' m c') (vs 0) w := hF 0 (by rfl)
      clear hF
      unfold pVal at f0
      simp only [fillTo, dstOf, List.getElem?_toArray, List.getElem?_cons_zero, List.getElem?_cons_succ, Option.bind_some, Act.put, List.setIfInBounds_toArray, List.set_cons_zero, List.set_cons_succ, f0]
      clear f0
      go_wp2_with fail
      exact ⟨_, rfl, hI.same (New.refl _), gb_refl _ _, rfl⟩
    · -- 10
      intro vs k w hI hF
      have f3 : pIntZ (vs 3) w := hF 3 (by rfl)
      clear hF
      obtain ⟨x, ex⟩ := f3
      simp only [fillTo, dstOf, List.getElem?_toArray, List.getElem?_cons_zero, List.getElem?_cons_succ, Option.bind_some, Act.put, List.setIfInBounds_toArray, List.set_cons_zero, List.set_cons_succ, ex]
      clear ex
      go_wp2_with fail
      exact ⟨_, rfl, hI.same (New.refl _), gb_refl _ _, x, rfl⟩
    · -- 11
      intro vs k w hI hF
      have f8 : pInt (-1) 3 (vs 8) w := hF 8 (by rfl)
      clear hF
      obtain ⟨x, ex, x0, x1⟩ := f8
      simp only [fillTo, dstOf, List.getElem?_toArray, List.getElem?_cons_zero, List.getElem?_cons_succ, Option.bind_some, Act.put, List.setIfInBounds_toArray, List.set_cons_zero, List.set_cons_succ, ex]
      clear ex
      go_wp2_with fail
      exact ⟨_, rfl, hI.same (New.refl _), gb_refl _ _, x, rfl, x0, x1⟩
  · intro vs k w3 hI hF
    have f9 : pVal (.slice A' m c') (vs 9) w3 := hF 9 (by omega)
    have f10 : pIntZ (vs 10) w3 := hF 10 (by omega)
    have f11 : pInt (-1) 3 (vs 11) w3 := hF 11 (by omega)
    clear hF
    obtain ⟨q, q1, q2, hr, g0⟩ := hI
    unfold pVal at f9
    obtain ⟨x, ex⟩ := f10
    obtain ⟨y, ey, y0, y1⟩ := f11
    have hN : New w w3 := new_gb b1 (gb_trans g2 g0) (Nat.le_of_eq hRe)
    have o3 := o2.gb g0 hR2
    simp only [fillTo, dstOf, List.getElem?_toArray, List.getElem?_cons_zero, List.getElem?_cons_succ, Option.bind_some, Act.put, List.setIfInBounds_toArray, List.set_cons_zero, List.set_cons_succ, f9, ex, ey, List.drop_succ_cons, List.drop_zero]
    clear ex ey f9
    go_wp2_with fail
    go_ret3
    exact ⟨A', c', hs, x, y, by rw [HM.out]; rfl, by rw [HM.out]; exact l7, by rw [HM.out]; exact lc, cm, o3.plain, o3.ints, hN⟩
end Go.Proofs.Ytgheimmhicpefaa
