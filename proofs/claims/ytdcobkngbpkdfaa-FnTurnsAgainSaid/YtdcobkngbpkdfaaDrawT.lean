/- Draws of a pool and a number of turns. -/
import Derived.Test.YtdcobkngbpkdfaaDrawK
import Derived.Test.YtdcobkngbpkdfaaDrawJ
import Derived.Test.YtdcobkngbpkdfaaTot
namespace Go.Proofs.Ytdcobkngbpkdfaa
set_option linter.unusedVariables false
set_option linter.unusedSimpArgs false
open Go.RowKit

def turnF (R : Nat) (W : World) (A' : Option Addr) (m : Nat) (c' : Nat) : List (Value → World → Prop) :=
  [pVal (.slice A' m c'),
   pVal (.pointer (some ⟨R, 0, none⟩)),
   pInt 0 19,
   pVal (.slice A' m c'),
   pInt 0 30,
   pSl R 5 (-1) 61,
   pSl R 7 (0) 4,
   pVal (.pointer (some ⟨R, 0, none⟩)),
   pInt 0 6,
   pAd R (0) 4,
   pInt (0) 4,
   pAd R (-1) 61,
   pInt (-1) 61,
   pVal (.slice A' m c'),
   pInt (-1) 61]
theorem turnF_kept (R : Nat) (W : World) (A' : Option Addr) (m : Nat) (c' : Nat) : ∀ P ∈ turnF R W A' m c', Kept R P := by
  unfold turnF
  intro P hP
  simp only [List.mem_cons, List.not_mem_nil, or_false] at hP
  rcases hP with rfl | rfl | rfl | rfl | rfl | rfl | rfl | rfl | rfl | rfl | rfl | rfl | rfl | rfl | rfl
  · exact kept_val _ _
  · exact kept_val _ _
  · exact kept_int _ _ _
  · exact kept_val _ _
  · exact kept_int _ _ _
  · exact kept_sl _ _ _ _
  · exact kept_sl _ _ _ _
  · exact kept_val _ _
  · exact kept_int _ _ _
  · exact kept_ad _ _ _
  · exact kept_int _ _ _
  · exact kept_ad _ _ _
  · exact kept_int _ _ _
  · exact kept_val _ _
  · exact kept_int _ _ _
/-- A drawn pool and a drawn number of turns. -/
def PoolManyDrawn (w : World) (e : Ending) (w' : World) : Prop :=
  ∃ A' c', ∃ hs : List Hst, ∃ z : Int, e = .returned (.tuple #[.slice A' hs.length c', .int .i64 z]) ∧ hs.length ≤ 7 ∧ hs.length ≤ c' ∧ c' ≤ maxLen ∧ (A' = none ∨ ∃ g, A' = some ⟨g, 0, none⟩) ∧ Ints w' A' (flat hs) ∧ -1 ≤ z ∧ z ≤ 61 ∧ New w w'
set_option maxRecDepth 100000 in
set_option maxHeartbeats 2000000 in
theorem DrawTurnsOf_any (A : Option Addr) (n c : Nat) (zs : List Int) (w : World) (h : CodeArg w A n c zs) : Calls Try.prog 30 #[.slice A n c] w (PoolManyDrawn w) := by
  go_enter Try.func30, Try.ntmps30
  go_wp2_with fail
  refine (open_code h).mono ?_
  rintro e w1 ⟨rfl, h1, b1⟩
  have hlt1 := h1.lt
  go_wp2_with fail
  refine (l20Pool_any _ A _ c _ 0 9 _ h1 (by omega) (by omega) (by omega)).mono ?_
  rintro e w2 ⟨A', c', q, hs, rfl, l7, lc, cm, o2, q0, q1, h2, g2⟩
  obtain ⟨m, hm⟩ : ∃ m, hs.length = m := ⟨_, rfl⟩
  rw [hm] at l7 lc o2 ⊢
  have HM := Lib.hid hm
  clear hm
  obtain ⟨R, hRe⟩ : ∃ R, w.heap.size = R := ⟨_, rfl⟩
  rw [hRe] at h1 hlt1 h2 g2 ⊢
  have hR2 : R < w1.heap.size := hlt1
  go_wp2_with fail
  refine wp_region_tail 15 (by kernel_rfl) (by kernel_rfl) (by kernel_rfl) (by decide) (DrawI4 w2 R A (min n 2000) c (zs.take 2000) q 100) (factAt (turnF R w2 A' m c')) (DrawS R) (factAt_kept (turnF_kept R w2 A' m c')) ⟨q, by omega, by omega, h2.new ((New.refl _).drew), gb_new (gb_refl _ _) ((New.refl _).drew)⟩ ?_ ?_
  · refine ⟨?_, ?_, ?_, ?_, ?_, ?_, ?_, ?_, ?_, ?_, ?_, ?_, ?_, ?_, ?_, trivial⟩
    · -- 0
      intro vs k w hI hF
      clear hF
      simp only [fillTo, dstOf, List.getElem?_toArray, List.getElem?_cons_zero, List.getElem?_cons_succ, Option.bind_some, Act.put, List.setIfInBounds_toArray, List.set_cons_zero, List.set_cons_succ]
      go_wp2_with fail
      exact ⟨_, rfl, hI.same (New.refl _), gb_refl _ _, rfl⟩
    · -- 1
      intro vs k w hI hF
      clear hF
      simp only [fillTo, dstOf, List.getElem?_toArray, List.getElem?_cons_zero, List.getElem?_cons_succ, Option.bind_some, Act.put, List.setIfInBounds_toArray, List.set_cons_zero, List.set_cons_succ]
      go_wp2_with fail
      exact ⟨_, rfl, hI.same (New.refl _), gb_refl _ _, rfl⟩
    · -- 2
      intro vs k w hI hF
      have f1 : pVal (.pointer (some ⟨R, 0, none⟩)) (vs 1) w := hF 1 (by rfl)
      clear hF
      obtain ⟨q, q1, q2, hr, g0⟩ := hI
      unfold pVal at f1
      simp only [fillTo, dstOf, List.getElem?_toArray, List.getElem?_cons_zero, List.getElem?_cons_succ, Option.bind_some, Act.put, List.setIfInBounds_toArray, List.set_cons_zero, List.set_cons_succ, f1]
      clear f1
      go_wp2_with fail
      refine (pick_any R A _ c _ q 20 _ hr (by omega) (by omega)).mono ?_
      rintro e w1 ⟨x, rfl, x0, x1, h1, g1⟩
      go_wp2_with fail
      exact ⟨_, rfl, DrawI4.next q1 q2 g0 h1 g1, g1, x, rfl, x0, by omega⟩
    · -- 3
      intro vs k w hI hF
      clear hF
      simp only [fillTo, dstOf, List.getElem?_toArray, List.getElem?_cons_zero, List.getElem?_cons_succ, Option.bind_some, Act.put, List.setIfInBounds_toArray, List.set_cons_zero, List.set_cons_succ]
      go_wp2_with fail
      exact ⟨_, rfl, hI.same (New.refl _), gb_refl _ _, rfl⟩
    · -- 4
      intro vs k w hI hF
      have f3 : pVal (.slice A' m c') (vs 3) w := hF 3 (by rfl)
      clear hF
      obtain ⟨q, q1, q2, hr, g0⟩ := hI
      unfold pVal at f3
      simp only [fillTo, dstOf, List.getElem?_toArray, List.getElem?_cons_zero, List.getElem?_cons_succ, Option.bind_some, Act.put, List.setIfInBounds_toArray, List.set_cons_zero, List.set_cons_succ, f3]
      clear f3
      go_wp2_with fail
      refine (totalWeight_spec A' m c' hs _ HM.out (by omega) (o2.gb g0 hR2).ints).mono ?_
      rintro e w1 ⟨rfl, b1⟩
      go_wp2_with fail
      exact ⟨_, rfl, ⟨q, q1, by omega, hr.new b1, gb_new g0 b1⟩, new_gbR R b1, _, rfl, (totZ_bd hs).1, (totZ_bd hs).2⟩
    · -- 5
      intro vs k w hI hF
      have f2 : pInt 0 19 (vs 2) w := hF 2 (by rfl)
      have f4 : pInt 0 30 (vs 4) w := hF 4 (by rfl)
      clear hF
      obtain ⟨z2, e2, l2, u2⟩ := f2
      obtain ⟨z4, e4, l4, u4⟩ := f4
      simp only [fillTo, dstOf, List.getElem?_toArray, List.getElem?_cons_zero, List.getElem?_cons_succ, Option.bind_some, Act.put, List.setIfInBounds_toArray, List.set_cons_zero, List.set_cons_succ, e2, e4]
      clear e2
      clear e4
      go_wp2_with fail
      exact ⟨_, rfl, hI.same ((New.refl _).alloc _), new_gbR R ((New.refl _).alloc _), PSl.built _ [z2, z4, 60, 61, -1] hI.lt (by first | (simp; done) | (simp; omega))⟩
    · -- 6
      intro vs k w hI hF
      clear hF
      simp only [fillTo, dstOf, List.getElem?_toArray, List.getElem?_cons_zero, List.getElem?_cons_succ, Option.bind_some, Act.put, List.setIfInBounds_toArray, List.set_cons_zero, List.set_cons_succ]
      go_wp2_with fail
      exact ⟨_, rfl, hI.same ((New.refl _).alloc _), new_gbR R ((New.refl _).alloc _), PSl.built _ [0, 0, 1, 1, 2, 3, 4] hI.lt (by first | (simp; done) | (simp; omega))⟩
    · -- 7
      intro vs k w hI hF
      clear hF
      simp only [fillTo, dstOf, List.getElem?_toArray, List.getElem?_cons_zero, List.getElem?_cons_succ, Option.bind_some, Act.put, List.setIfInBounds_toArray, List.set_cons_zero, List.set_cons_succ]
      go_wp2_with fail
      exact ⟨_, rfl, hI.same (New.refl _), gb_refl _ _, rfl⟩
    · -- 8
      intro vs k w hI hF
      have f7 : pVal (.pointer (some ⟨R, 0, none⟩)) (vs 7) w := hF 7 (by rfl)
      clear hF
      obtain ⟨q, q1, q2, hr, g0⟩ := hI
      unfold pVal at f7
      simp only [fillTo, dstOf, List.getElem?_toArray, List.getElem?_cons_zero, List.getElem?_cons_succ, Option.bind_some, Act.put, List.setIfInBounds_toArray, List.set_cons_zero, List.set_cons_succ, f7]
      clear f7
      go_wp2_with fail
      refine (pick_any R A _ c _ q 7 _ hr (by omega) (by omega)).mono ?_
      rintro e w1 ⟨x, rfl, x0, x1, h1, g1⟩
      go_wp2_with fail
      exact ⟨_, rfl, DrawI4.next q1 q2 g0 h1 g1, g1, x, rfl, x0, by omega⟩
    · -- 9
      intro vs k w hI hF
      have f6 : pSl R 7 (0) 4 (vs 6) w := hF 6 (by rfl)
      have f8 : pInt 0 6 (vs 8) w := hF 8 (by rfl)
      clear hF
      obtain ⟨g, es, hne, hlt, hc⟩ := f6
      obtain ⟨x, ei, x0, x1⟩ := f8
      obtain ⟨y, rfl⟩ := Int.eq_ofNat_of_zero_le x0
      obtain ⟨z, hz, hb⟩ := hc y (by omega)
      have hc' := Lib.hid hc
      clear hc
      simp only [fillTo, dstOf, List.getElem?_toArray, List.getElem?_cons_zero, List.getElem?_cons_succ, Option.bind_some, Act.put, List.setIfInBounds_toArray, List.set_cons_zero, List.set_cons_succ, es, ei]
      clear es ei
      go_wp2_with fail
      exact ⟨_, rfl, hI.same (New.refl _), gb_refl _ _, g, y, z, rfl, hne, hlt, hz, hb⟩
    · -- 10
      intro vs k w hI hF
      have f9 : pAd R (0) 4 (vs 9) w := hF 9 (by rfl)
      clear hF
      obtain ⟨g, j, z, ea, _, _, hc, hb⟩ := f9
      simp only [fillTo, dstOf, List.getElem?_toArray, List.getElem?_cons_zero, List.getElem?_cons_succ, Option.bind_some, Act.put, List.setIfInBounds_toArray, List.set_cons_zero, List.set_cons_succ, ea]
      clear ea
      go_wp2_with fail
      exact ⟨_, rfl, hI.same (New.refl _), gb_refl _ _, z, rfl, hb⟩
    · -- 11
      intro vs k w hI hF
      have f5 : pSl R 5 (-1) 61 (vs 5) w := hF 5 (by rfl)
      have f10 : pInt (0) 4 (vs 10) w := hF 10 (by rfl)
      clear hF
      obtain ⟨g, es, hne, hlt, hc⟩ := f5
      obtain ⟨x, ei, x0, x1⟩ := f10
      obtain ⟨y, rfl⟩ := Int.eq_ofNat_of_zero_le x0
      obtain ⟨z, hz, hb⟩ := hc y (by omega)
      have hc' := Lib.hid hc
      clear hc
      simp only [fillTo, dstOf, List.getElem?_toArray, List.getElem?_cons_zero, List.getElem?_cons_succ, Option.bind_some, Act.put, List.setIfInBounds_toArray, List.set_cons_zero, List.set_cons_succ, es, ei]
      clear es ei
      go_wp2_with fail
      exact ⟨_, rfl, hI.same (New.refl _), gb_refl _ _, g, y, z, rfl, hne, hlt, hz, hb⟩
    · -- 12
      intro vs k w hI hF
      have f11 : pAd R (-1) 61 (vs 11) w := hF 11 (by rfl)
      clear hF
      obtain ⟨g, j, z, ea, _, _, hc, hb⟩ := f11
      simp only [fillTo, dstOf, List.getElem?_toArray, List.getElem?_cons_zero, List.getElem?_cons_succ, Option.bind_some, Act.put, List.setIfInBounds_toArray, List.set_cons_zero, List.set_cons_succ, ea]
      clear ea
      go_wp2_with fail
      exact ⟨_, rfl, hI.same (New.refl _), gb_refl _ _, z, rfl, hb⟩
    · -- 13
      intro vs k w hI hF
      have f0 : pVal (.slice A' m c') (vs 0) w := hF 0 (by rfl)
      clear hF
      unfold pVal at f0
      simp only [fillTo, dstOf, List.getElem?_toArray, List.getElem?_cons_zero, List.getElem?_cons_succ, Option.bind_some, Act.put, List.setIfInBounds_toArray, List.set_cons_zero, List.set_cons_succ, f0]
      clear f0
      go_wp2_with fail
      exact ⟨_, rfl, hI.same (New.refl _), gb_refl _ _, rfl⟩
    · -- 14
      intro vs k w hI hF
      have f12 : pInt (-1) 61 (vs 12) w := hF 12 (by rfl)
      clear hF
      obtain ⟨x, ex, x0, x1⟩ := f12
      simp only [fillTo, dstOf, List.getElem?_toArray, List.getElem?_cons_zero, List.getElem?_cons_succ, Option.bind_some, Act.put, List.setIfInBounds_toArray, List.set_cons_zero, List.set_cons_succ, ex]
      clear ex
      go_wp2_with fail
      exact ⟨_, rfl, hI.same (New.refl _), gb_refl _ _, x, rfl, x0, x1⟩
  · intro vs k w3 hI hF
    have f13 : pVal (.slice A' m c') (vs 13) w3 := hF 13 (by omega)
    have f14 : pInt (-1) 61 (vs 14) w3 := hF 14 (by omega)
    clear hF
    obtain ⟨q, q1, q2, hr, g0⟩ := hI
    unfold pVal at f13
    obtain ⟨y, ey, y0, y1⟩ := f14
    have hN : New w w3 := new_gb b1 (gb_trans g2 g0) (Nat.le_of_eq hRe)
    have o3 := o2.gb g0 hR2
    simp only [fillTo, dstOf, List.getElem?_toArray, List.getElem?_cons_zero, List.getElem?_cons_succ, Option.bind_some, Act.put, List.setIfInBounds_toArray, List.set_cons_zero, List.set_cons_succ, f13, ey, List.drop_succ_cons, List.drop_zero]
    clear ey f13
    go_wp2_with fail
    go_ret2
    exact ⟨A', c', hs, y, by rw [HM.out]; rfl, by rw [HM.out]; exact l7, by rw [HM.out]; exact lc, cm, o3.plain, o3.ints, y0, y1, hN⟩
end Go.Proofs.Ytdcobkngbpkdfaa
