/- The draw of a key and a number of buckets. -/
import Derived.Test.YtecimocclmjpdaaDrawN
import Derived.Test.YtecimocclmjpdaaRegion
namespace Go.Proofs.Ytecimocclmjpdaa
open Go.RowKit

/-- The invariant of a region whose operations read on by four numbers at most. -/
def DrawI4 (w0 : World) (R : Nat) (A : Option Addr) (n c : Nat) (zs : List Int) (p m : Nat) (k : Nat) (w : World) : Prop := DrawI w0 R A n c zs p m (4 * k) w
theorem DrawI4.same {w0 w w' : World} {R : Nat} {A : Option Addr} {n c : Nat} {zs : List Int} {p m k : Nat} (h : DrawI4 w0 R A n c zs p m (k + 1) w) (hb : New w w') : DrawI4 w0 R A n c zs p m k w' := by
  obtain ⟨q, h1, h2, h3, h4⟩ := h
  exact ⟨q, h1, by omega, h3.new hb, gb_new h4 hb⟩
theorem DrawI4.next {w0 w w' : World} {R : Nat} {A : Option Addr} {n c : Nat} {zs : List Int} {p m k q : Nat} (h1 : p ≤ q) (h2 : q + 4 * (k + 1) ≤ p + m) (h4 : w0.grownBy w (some R)) (h : RdAt w' R A n c zs (q + 1)) (hg : w.grownBy w' (some R)) : DrawI4 w0 R A n c zs p m k w' :=
  ⟨q + 1, by omega, by omega, h, gb_trans h4 hg⟩
theorem DrawI4.lt {w0 w : World} {R : Nat} {A : Option Addr} {n c : Nat} {zs : List Int} {p m k : Nat} (h : DrawI4 w0 R A n c zs p m k w) : R < w.heap.size := by obtain ⟨_, _, _, h, _⟩ := h; exact h.lt
theorem DrawI4.le {w0 w : World} {R : Nat} {A : Option Addr} {n c : Nat} {zs : List Int} {p m k : Nat} (h : DrawI4 w0 R A n c zs p m k w) : w0.heap.size ≤ w.heap.size := by obtain ⟨_, _, _, _, h⟩ := h; exact h.size
def jumpF (R : Nat) (W : World) : List (Value → World → Prop) :=
  [pVal (.pointer (some ⟨R, 0, none⟩)),
   pInt (-1) 1000003,
   pVal (.pointer (some ⟨R, 0, none⟩)),
   pInt 0 49,
   pInt (1) 50,
   pSl R 3 (0) 51,
   pSl R 7 (0) 2,
   pVal (.pointer (some ⟨R, 0, none⟩)),
   pInt 0 6,
   pAd R (0) 2,
   pInt (0) 2,
   pAd R (0) 51,
   pInt (0) 51,
   pInt (-1) 1000003,
   pInt (0) 51]
theorem jumpF_kept (R : Nat) (W : World) : ∀ P ∈ jumpF R W, Kept R P := by
  unfold jumpF
  intro P hP
  simp only [List.mem_cons, List.not_mem_nil, or_false] at hP
  rcases hP with rfl | rfl | rfl | rfl | rfl | rfl | rfl | rfl | rfl | rfl | rfl | rfl | rfl | rfl | rfl
  · exact kept_val _ _
  · exact kept_int _ _ _
  · exact kept_val _ _
  · exact kept_int _ _ _
  · exact kept_int _ _ _
  · exact kept_sl _ _ _ _
  · exact kept_sl _ _ _ _
  · exact kept_val _ _
  · exact kept_int _ _ _
  · exact kept_ad _ _ _
  · exact kept_int _ _ _
  · exact kept_ad _ _ _
  · exact kept_int _ _ _
  · exact kept_int _ _ _
  · exact kept_int _ _ _
def TwoDrawn (a b c d : Int) (w : World) (e : Ending) (w' : World) : Prop := ∃ x y : Int, e = .returned (.tuple #[.int .i64 x, .int .i64 y]) ∧ a ≤ x ∧ x ≤ b ∧ c ≤ y ∧ y ≤ d ∧ New w w'
set_option maxRecDepth 100000 in
set_option maxHeartbeats 2000000 in
theorem DrawJumpBucket_any (A : Option Addr) (n c : Nat) (zs : List Int) (w : World) (h : CodeArg w A n c zs) : Calls Try.prog 46 #[.slice A n c] w (TwoDrawn (-1) 1000003 0 51 w) := by
  go_enter Try.func46, Try.ntmps46
  go_wp2_with fail
  refine (open_code h).mono ?_
  rintro e w1 ⟨rfl, h1, b1⟩
  have hlt1 := h1.lt
  have hR : w.heap.size ≤ w.heap.size := Nat.le_refl _
  obtain ⟨R, hRe⟩ : ∃ R, w.heap.size = R := ⟨_, rfl⟩
  rw [hRe] at h1 hlt1 ⊢
  go_wp2_with fail
  refine wp_region_tail 15 (by kernel_rfl) (by kernel_rfl) (by kernel_rfl) (by decide) (DrawI4 w1 R A (min n 2000) c (zs.take 2000) 0 100) (factAt (jumpF R w1)) (DrawS R) (factAt_kept (jumpF_kept R w1)) ⟨0, by omega, by omega, h1.new ((New.refl _).drew), gb_new (gb_refl _ _) ((New.refl _).drew)⟩ ?_ ?_
  · refine ⟨?_, ?_, ?_, ?_, ?_, ?_, ?_, ?_, ?_, ?_, ?_, ?_, ?_, ?_, ?_, trivial⟩
    · -- 0
      intro vs k w hI hF
      clear hF
      simp only [fillTo, dstOf, List.getElem?_toArray, List.getElem?_cons_zero, List.getElem?_cons_succ, Option.bind_some, Act.put, List.setIfInBounds_toArray, List.set_cons_zero, List.set_cons_succ]
      go_wp2_with fail
      exact ⟨_, rfl, hI.same (New.refl _), gb_refl _ _, rfl⟩
    · -- 1
      intro vs k w hI hF
      have f0 : pVal (.pointer (some ⟨R, 0, none⟩)) (vs 0) w := hF 0 (by rfl)
      clear hF
      obtain ⟨q, q1, q2, hr, g0⟩ := hI
      unfold pVal at f0
      simp only [fillTo, dstOf, List.getElem?_toArray, List.getElem?_cons_zero, List.getElem?_cons_succ, Option.bind_some, Act.put, List.setIfInBounds_toArray, List.set_cons_zero, List.set_cons_succ, f0]
      clear f0
      go_wp2_with fail
      refine (l20Key_any R A _ c _ q 9 _ hr (by omega) (by omega) (by omega)).mono ?_
      rintro e w1 ⟨v, q', rfl, ⟨x, rfl, x0, x1⟩, h0, h1, h2, g1⟩
      go_wp2_with fail
      exact ⟨_, rfl, ⟨q', by omega, by omega, h2, gb_trans g0 g1⟩, g1, x, rfl, x0, x1⟩
    · -- 2
      intro vs k w hI hF
      clear hF
      simp only [fillTo, dstOf, List.getElem?_toArray, List.getElem?_cons_zero, List.getElem?_cons_succ, Option.bind_some, Act.put, List.setIfInBounds_toArray, List.set_cons_zero, List.set_cons_succ]
      go_wp2_with fail
      exact ⟨_, rfl, hI.same (New.refl _), gb_refl _ _, rfl⟩
    · -- 3
      intro vs k w hI hF
      have f2 : pVal (.pointer (some ⟨R, 0, none⟩)) (vs 2) w := hF 2 (by rfl)
      clear hF
      obtain ⟨q, q1, q2, hr, g0⟩ := hI
      unfold pVal at f2
      simp only [fillTo, dstOf, List.getElem?_toArray, List.getElem?_cons_zero, List.getElem?_cons_succ, Option.bind_some, Act.put, List.setIfInBounds_toArray, List.set_cons_zero, List.set_cons_succ, f2]
      clear f2
      go_wp2_with fail
      refine (pick_any R A _ c _ q 50 _ hr (by omega) (by omega)).mono ?_
      rintro e w1 ⟨x, rfl, x0, x1, h1, g1⟩
      go_wp2_with fail
      exact ⟨_, rfl, DrawI4.next q1 q2 g0 h1 g1, g1, x, rfl, x0, by omega⟩
    · -- 4
      intro vs k w hI hF
      have f3 : pInt 0 49 (vs 3) w := hF 3 (by rfl)
      clear hF
      obtain ⟨x, ex, x0, x1⟩ := f3
      simp only [fillTo, dstOf, List.getElem?_toArray, List.getElem?_cons_zero, List.getElem?_cons_succ, Option.bind_some, Act.put, List.setIfInBounds_toArray, List.set_cons_zero, List.set_cons_succ, ex]
      clear ex
      go_wp2_with fail
      exact ⟨_, rfl, hI.same (New.refl _), gb_refl _ _, _, rfl, by omega, by omega⟩
    · -- 5
      intro vs k w hI hF
      have f4 : pInt (1) 50 (vs 4) w := hF 4 (by rfl)
      clear hF
      obtain ⟨z4, e4, l4, u4⟩ := f4
      simp only [fillTo, dstOf, List.getElem?_toArray, List.getElem?_cons_zero, List.getElem?_cons_succ, Option.bind_some, Act.put, List.setIfInBounds_toArray, List.set_cons_zero, List.set_cons_succ, e4]
      clear e4
      go_wp2_with fail
      exact ⟨_, rfl, hI.same ((New.refl _).alloc _), new_gbR R ((New.refl _).alloc _), PSl.built _ [z4, 0, 51] hI.lt (by first | (simp; done) | (simp; omega))⟩
    · -- 6
      intro vs k w hI hF
      clear hF
      simp only [fillTo, dstOf, List.getElem?_toArray, List.getElem?_cons_zero, List.getElem?_cons_succ, Option.bind_some, Act.put, List.setIfInBounds_toArray, List.set_cons_zero, List.set_cons_succ]
      go_wp2_with fail
      exact ⟨_, rfl, hI.same ((New.refl _).alloc _), new_gbR R ((New.refl _).alloc _), PSl.built _ [0, 0, 0, 0, 0, 1, 2] hI.lt (by first | (simp; done) | (simp; omega))⟩
    · -- 7
      intro vs k w hI hF
      clear hF
      simp only [fillTo, dstOf, List.getElem?_toArray, List.getElem?_cons_zero, List.getElem?_cons_succ, Option.bind_some, Act.put, List.setIfInBounds_toArray, List.set_cons_zero, List.set_cons_succ]
      go_wp2_with fail
      exact ⟨_, rfl, hI.same (New.refl _), gb_refl _ _, rfl⟩
    · -- 8
      intro vs k w hI hF
      have f7 : pVal (.pointer (some ⟨R, 0, none⟩)) (vs 7) w := hF 7 (by rfl)
      clear hF
      obtain ⟨q, q1, q2, hr, g0⟩ := hI
      unfold pVal at f7
      simp only [fillTo, dstOf, List.getElem?_toArray, List.getElem?_cons_zero, List.getElem?_cons_succ, Option.bind_some, Act.put, List.setIfInBounds_toArray, List.set_cons_zero, List.set_cons_succ, f7]
      clear f7
      go_wp2_with fail
      refine (pick_any R A _ c _ q 7 _ hr (by omega) (by omega)).mono ?_
      rintro e w1 ⟨x, rfl, x0, x1, h1, g1⟩
      go_wp2_with fail
      exact ⟨_, rfl, DrawI4.next q1 q2 g0 h1 g1, g1, x, rfl, x0, by omega⟩
    · -- 9
      intro vs k w hI hF
      have f6 : pSl R 7 (0) 2 (vs 6) w := hF 6 (by rfl)
      have f8 : pInt 0 6 (vs 8) w := hF 8 (by rfl)
      clear hF
      obtain ⟨g, es, hne, hlt, hc⟩ := f6
      obtain ⟨x, ei, x0, x1⟩ := f8
      obtain ⟨y, rfl⟩ := Int.eq_ofNat_of_zero_le x0
      obtain ⟨z, hz, hb⟩ := hc y (by omega)
      have hc' := Lib.hid hc
      clear hc
      simp only [fillTo, dstOf, List.getElem?_toArray, List.getElem?_cons_zero, List.getElem?_cons_succ, Option.bind_some, Act.put, List.setIfInBounds_toArray, List.set_cons_zero, List.set_cons_succ, es, ei]
      clear es ei
      go_wp2_with fail
      exact ⟨_, rfl, hI.same (New.refl _), gb_refl _ _, g, y, z, rfl, hne, hlt, hz, hb⟩
    · -- 10
      intro vs k w hI hF
      have f9 : pAd R (0) 2 (vs 9) w := hF 9 (by rfl)
      clear hF
      obtain ⟨g, j, z, ea, _, _, hc, hb⟩ := f9
      simp only [fillTo, dstOf, List.getElem?_toArray, List.getElem?_cons_zero, List.getElem?_cons_succ, Option.bind_some, Act.put, List.setIfInBounds_toArray, List.set_cons_zero, List.set_cons_succ, ea]
      clear ea
      go_wp2_with fail
      exact ⟨_, rfl, hI.same (New.refl _), gb_refl _ _, z, rfl, hb⟩
    · -- 11
      intro vs k w hI hF
      have f5 : pSl R 3 (0) 51 (vs 5) w := hF 5 (by rfl)
      have f10 : pInt (0) 2 (vs 10) w := hF 10 (by rfl)
      clear hF
      obtain ⟨g, es, hne, hlt, hc⟩ := f5
      obtain ⟨x, ei, x0, x1⟩ := f10
      obtain ⟨y, rfl⟩ := Int.eq_ofNat_of_zero_le x0
      obtain ⟨z, hz, hb⟩ := hc y (by omega)
      have hc' := Lib.hid hc
      clear hc
      simp only [fillTo, dstOf, List.getElem?_toArray, List.getElem?_cons_zero, List.getElem?_cons_succ, Option.bind_some, Act.put, List.setIfInBounds_toArray, List.set_cons_zero, List.set_cons_succ, es, ei]
      clear es ei
      go_wp2_with fail
      exact ⟨_, rfl, hI.same (New.refl _), gb_refl _ _, g, y, z, rfl, hne, hlt, hz, hb⟩
    · -- 12
      intro vs k w hI hF
      have f11 : pAd R (0) 51 (vs 11) w := hF 11 (by rfl)
      clear hF
      obtain ⟨g, j, z, ea, _, _, hc, hb⟩ := f11
      simp only [fillTo, dstOf, List.getElem?_toArray, List.getElem?_cons_zero, List.getElem?_cons_succ, Option.bind_some, Act.put, List.setIfInBounds_toArray, List.set_cons_zero, List.set_cons_succ, ea]
      clear ea
      go_wp2_with fail
      exact ⟨_, rfl, hI.same (New.refl _), gb_refl _ _, z, rfl, hb⟩
    · -- 13
      intro vs k w hI hF
      have f1 : pInt (-1) 1000003 (vs 1) w := hF 1 (by rfl)
      clear hF
      obtain ⟨x, ex, x0, x1⟩ := f1
      simp only [fillTo, dstOf, List.getElem?_toArray, List.getElem?_cons_zero, List.getElem?_cons_succ, Option.bind_some, Act.put, List.setIfInBounds_toArray, List.set_cons_zero, List.set_cons_succ, ex]
      clear ex
      go_wp2_with fail
      exact ⟨_, rfl, hI.same (New.refl _), gb_refl _ _, x, rfl, x0, x1⟩
    · -- 14
      intro vs k w hI hF
      have f12 : pInt (0) 51 (vs 12) w := hF 12 (by rfl)
      clear hF
      obtain ⟨x, ex, x0, x1⟩ := f12
      simp only [fillTo, dstOf, List.getElem?_toArray, List.getElem?_cons_zero, List.getElem?_cons_succ, Option.bind_some, Act.put, List.setIfInBounds_toArray, List.set_cons_zero, List.set_cons_succ, ex]
      clear ex
      go_wp2_with fail
      exact ⟨_, rfl, hI.same (New.refl _), gb_refl _ _, x, rfl, x0, x1⟩
  · intro vs k w2 hI hF
    have f13 : pInt (-1) 1000003 (vs 13) w2 := hF 13 (by omega)
    have f14 : pInt 0 51 (vs 14) w2 := hF 14 (by omega)
    clear hF
    obtain ⟨q, q1, q2, hr, g0⟩ := hI
    obtain ⟨x, ex, x0, x1⟩ := f13
    obtain ⟨y, ey, y0, y1⟩ := f14
    have hN : New w w2 := new_gb b1 g0 (Nat.le_of_eq hRe)
    simp only [fillTo, dstOf, List.getElem?_toArray, List.getElem?_cons_zero, List.getElem?_cons_succ, Option.bind_some, Act.put, List.setIfInBounds_toArray, List.set_cons_zero, List.set_cons_succ, ex, ey, List.drop_succ_cons, List.drop_zero]
    clear ex ey
    go_wp2_with fail
    go_ret2
    exact ⟨x, y, rfl, x0, x1, y0, y1, hN⟩
end Go.Proofs.Ytecimocclmjpdaa
