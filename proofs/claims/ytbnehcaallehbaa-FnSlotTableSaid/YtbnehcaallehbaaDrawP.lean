/- Draws of pools, of keys, of numbers of hosts. -/
import Derived.Test.YtbnehcaallehbaaDrawR
import Derived.Test.YtbnehcaallehbaaUp
namespace Go.Proofs.Ytbnehcaallehbaa
set_option linter.unusedVariables false
set_option linter.unusedSimpArgs false
open Go.RowKit

def pSlH (R : Nat) (v : Value) (w : World) : Prop := ∃ g a b c, v = .slice (some ⟨g, 0, none⟩) 1 1 ∧ g ≠ R ∧ Ints w (some ⟨g, 0, none⟩) [a, b, c]
theorem Ints.gb {R : Nat} {w w' : World} {g : Nat} {zs : List Int} (h : Ints w (some ⟨g, 0, none⟩) zs) (hg : w.grownBy w' (some R)) (hne : g ≠ R) : Ints w' (some ⟨g, 0, none⟩) zs := by
  intro hn
  obtain ⟨b, o, hA, hc⟩ := h hn
  obtain ⟨rfl, rfl⟩ : g = b ∧ 0 = o := by simpa using hA
  exact ⟨g, 0, rfl, fun j hj => hg.cell (hc j hj) (by simpa using hne)⟩
theorem kept_slh (R : Nat) : Kept R (pSlH R) := by
  intro v w w' hg h
  obtain ⟨g, a, b, c, hv, hne, hi⟩ := h
  exact ⟨g, a, b, c, hv, hne, hi.gb hg hne⟩
theorem pSlH.built {R : Nat} {w : World} (T : TypeId) (a b c : Int) (hR : R < w.heap.size) : pSlH R (.slice (some ⟨w.heap.size, 0, none⟩) 1 1) (w.alloc (.cells #[.int .i64 a, .int .i64 b, .int .i64 c] T)) :=
  ⟨w.heap.size, a, b, c, rfl, by omega, Ints.built w T [a, b, c]⟩

/-- What a function leaves that draws a pool. -/
def PoolRet (d : Nat) (w : World) (R : Nat) (A : Option Addr) (n c : Nat) (zs : List Int) (p : Nat) (e : Ending) (w' : World) : Prop :=
  ∃ A' c' q, ∃ hs : List Hst, e = .returned (.slice A' hs.length c') ∧ hs.length ≤ 7 ∧ hs.length ≤ c' ∧ c' ≤ maxLen ∧ Own 64 3 w.heap.size w' A' hs.length c' (flat hs) ∧ p ≤ q ∧ q ≤ p + d ∧ RdAt w' R A n c zs q ∧ w.grownBy w' (some R)

def poolF (R : Nat) (W : World) (SV : Value) (at_ : Int) : List (Value → World → Prop) :=
  [pVal (SV),
   pVal (.int .i64 at_),
   pVal (.pointer (some ⟨R, 0, none⟩)),
   pInt 0 4,
   pInt (1) 5,
   pSl R 2 (1) 5,
   pVal (.pointer (some ⟨R, 0, none⟩)),
   pInt 0 1,
   pAd R (1) 5,
   pInt (1) 5,
   pSl R 5 (0) 2,
   pVal (.pointer (some ⟨R, 0, none⟩)),
   pInt 0 4,
   pAd R (0) 2,
   pInt (0) 2,
   pAgg3 (0) 1000,
   pSlH R]
theorem poolF_kept (R : Nat) (W : World) (SV : Value) (at_ : Int) : ∀ P ∈ poolF R W SV at_, Kept R P := by
  unfold poolF
  intro P hP
  simp only [List.mem_cons, List.not_mem_nil, or_false] at hP
  rcases hP with rfl | rfl | rfl | rfl | rfl | rfl | rfl | rfl | rfl | rfl | rfl | rfl | rfl | rfl | rfl | rfl | rfl
  · exact kept_val _ _
  · exact kept_val _ _
  · exact kept_val _ _
  · exact kept_int _ _ _
  · exact kept_int _ _ _
  · exact kept_sl _ _ _ _
  · exact kept_val _ _
  · exact kept_int _ _ _
  · exact kept_ad _ _ _
  · exact kept_int _ _ _
  · exact kept_sl _ _ _ _
  · exact kept_val _ _
  · exact kept_int _ _ _
  · exact kept_ad _ _ _
  · exact kept_int _ _ _
  · exact kept_agg3 _ _ _
  · exact kept_slh _
set_option maxRecDepth 100000 in
set_option maxHeartbeats 2000000 in
theorem l20Pool_any (R : Nat) (A : Option Addr) (n c : Nat) (zs : List Int) (p : Nat) (N : Int) (w : World) (h : RdAt w R A n c zs p) (hp : p ≤ 900000) (hN0 : 0 ≤ N) (hN : N ≤ 1000000) :
    Calls Try.prog 60 #[.pointer (some ⟨R, 0, none⟩), .int .i64 N] w (PoolRet 120 w R A n c zs p) := by
  obtain ⟨i0, hi, hz0, hz1, hz2⟩ := info_parts host_info
  have hRw := h.lt
  go_enter Try.func60, Try.ntmps60
  go_wp2_with fail
  have b0 := (New.refl w).alloc (.cells #[] 64)
  have o0 : Own 64 3 w.heap.size (w.alloc (.cells #[] 64)) (some ⟨w.heap.size, 0, none⟩) 0 0 (flat []) := World.ownsRow_lit w #[] 0 (Nat.le_refl _) (Nat.zero_le _) rfl
  refine (pick_any R A n c zs p 6 _ (h.new b0) (by omega) (by omega)).mono ?_
  rintro e w1 ⟨k0, rfl, k00, k01, h1, g1⟩
  have o1 := o0.gb g1 hRw
  have G1 := gb_trans (new_gbR R b0) g1
  obtain ⟨K, rfl⟩ := Int.eq_ofNat_of_zero_le k00
  have hK : K ≤ 5 := by have := k01 (by omega); omega
  clear b0 o0 g1 k00 k01 h
  go_wp2_with fail
  go_loopw [5, 6, 7] (fun v a i wr => ∃ (m : Nat) (A' : Option Addr) (c' : Nat) (hs : List Hst) (n' : Nat) (at_ : Int) (q : Nat), m ≤ 5 ∧ i = .int .i64 m ∧ v = .slice A' n' c' ∧ Hid (n' = hs.length) ∧ n' + m ≤ 5 ∧ n' ≤ c' ∧ c' ≤ maxLen ∧ a = .int .i64 at_ ∧ 0 ≤ at_ ∧ at_ ≤ 5 * (5 - (m : Int)) ∧ p ≤ q ∧ q + 18 * m ≤ p + 91 ∧ Own 64 3 w.heap.size wr A' n' c' (flat hs) ∧ RdAt wr R A n c zs q ∧ w.grownBy wr (some R)) (fun _ _ i _ => (intOf i).toNat)
  case atStart => exact ⟨K, _, _, [], 0, 0, p + 1, hK, rfl, rfl, Lib.hid rfl, by omega, Nat.le_refl _, Nat.zero_le _, rfl, by omega, by omega, by omega, by omega, o1, h1, G1⟩
  case round =>
    obtain ⟨m, A', c', hs, n', at_, q, hm5, rfl, rfl, HL, hnm, hnc, hcm, rfl, a0, a1, q0, q1, ho, hr, hg⟩ := hrel
    clear o1 h1 G1
    by_cases hm0 : 0 < m
    · go_wp2_with fail
      refine (pick_any R A n c zs q 5 _ hr (by omega) (by omega)).mono ?_
      rintro e w2 ⟨x, rfl, x0, x1, h2, g2⟩
      have x2 := x1 (by omega)
      have o2 := ho.gb g2 hRw
      have G2 := gb_trans hg g2
      clear x1 ho hr hg g2
      obtain ⟨at2, hat2⟩ : ∃ a : Int, at_ + x = a := ⟨_, rfl⟩
      have y0 : 0 ≤ at2 := by omega
      have y1 : at2 ≤ 5 * (5 - (m : Int)) + 4 := by omega
      have y2 : at2 ≤ 100 := by omega
      go_wp2_with fail
      refine wp_region_tail 17 (by kernel_rfl) (by kernel_rfl) (by kernel_rfl) (by decide) (DrawI w2 R A n c zs (q + 1) 17) (factAt (poolF R w2 (.slice A' n' c') at2)) (DrawS R) (factAt_kept (poolF_kept R w2 (.slice A' n' c') at2)) ⟨q + 1, by omega, by omega, h2.new ((New.refl _).drew), gb_new (gb_refl _ _) ((New.refl _).drew)⟩ ?_ ?_
      · refine ⟨?_, ?_, ?_, ?_, ?_, ?_, ?_, ?_, ?_, ?_, ?_, ?_, ?_, ?_, ?_, ?_, ?_, trivial⟩
        · -- 0
          intro vs k w hI hF
          clear hF
          simp only [fillTo, dstOf, List.getElem?_toArray, List.getElem?_cons_zero, List.getElem?_cons_succ, Option.bind_some, Act.put, List.setIfInBounds_toArray, List.set_cons_zero, List.set_cons_succ]
          go_wp2_with fail
          exact ⟨_, rfl, hI.same (New.refl _), gb_refl _ _, rfl⟩
        · -- 1
          intro vs k w hI hF
          clear hF
          simp only [fillTo, dstOf, List.getElem?_toArray, List.getElem?_cons_zero, List.getElem?_cons_succ, Option.bind_some, Act.put, List.setIfInBounds_toArray, List.set_cons_zero, List.set_cons_succ]
          go_wp2_with fail
          exact ⟨_, rfl, hI.same (New.refl _), gb_refl _ _, rfl⟩
        · -- 2
          intro vs k w hI hF
          clear hF
          simp only [fillTo, dstOf, List.getElem?_toArray, List.getElem?_cons_zero, List.getElem?_cons_succ, Option.bind_some, Act.put, List.setIfInBounds_toArray, List.set_cons_zero, List.set_cons_succ]
          go_wp2_with fail
          exact ⟨_, rfl, hI.same (New.refl _), gb_refl _ _, rfl⟩
        · -- 3
          intro vs k w hI hF
          have f2 : pVal (.pointer (some ⟨R, 0, none⟩)) (vs 2) w := hF 2 (by rfl)
          clear hF
          obtain ⟨q, q1, q2, hr, g0⟩ := hI
          unfold pVal at f2
          simp only [fillTo, dstOf, List.getElem?_toArray, List.getElem?_cons_zero, List.getElem?_cons_succ, Option.bind_some, Act.put, List.setIfInBounds_toArray, List.set_cons_zero, List.set_cons_succ, f2]
          clear f2
          go_wp2_with fail
          refine (pick_any R A n c zs q 5 _ hr (by omega) (by omega)).mono ?_
          rintro e w1 ⟨x, rfl, x0, x1, h1, g1⟩
          go_wp2_with fail
          exact ⟨_, rfl, DrawI.next q1 q2 g0 h1 g1, g1, x, rfl, x0, by omega⟩
        · -- 4
          intro vs k w hI hF
          have f3 : pInt 0 4 (vs 3) w := hF 3 (by rfl)
          clear hF
          obtain ⟨x, ex, x0, x1⟩ := f3
          simp only [fillTo, dstOf, List.getElem?_toArray, List.getElem?_cons_zero, List.getElem?_cons_succ, Option.bind_some, Act.put, List.setIfInBounds_toArray, List.set_cons_zero, List.set_cons_succ, ex]
          clear ex
          go_wp2_with fail
          exact ⟨_, rfl, hI.same (New.refl _), gb_refl _ _, _, rfl, by omega, by omega⟩
        · -- 5
          intro vs k w hI hF
          have f4 : pInt (1) 5 (vs 4) w := hF 4 (by rfl)
          clear hF
          obtain ⟨z4, e4, l4, u4⟩ := f4
          simp only [fillTo, dstOf, List.getElem?_toArray, List.getElem?_cons_zero, List.getElem?_cons_succ, Option.bind_some, Act.put, List.setIfInBounds_toArray, List.set_cons_zero, List.set_cons_succ, e4]
          clear e4
          go_wp2_with fail
          exact ⟨_, rfl, hI.same ((New.refl _).alloc _), new_gbR R ((New.refl _).alloc _), PSl.built _ [1, z4] hI.lt (by first | (simp; done) | (simp; omega))⟩
        · -- 6
          intro vs k w hI hF
          clear hF
          simp only [fillTo, dstOf, List.getElem?_toArray, List.getElem?_cons_zero, List.getElem?_cons_succ, Option.bind_some, Act.put, List.setIfInBounds_toArray, List.set_cons_zero, List.set_cons_succ]
          go_wp2_with fail
          exact ⟨_, rfl, hI.same (New.refl _), gb_refl _ _, rfl⟩
        · -- 7
          intro vs k w hI hF
          have f6 : pVal (.pointer (some ⟨R, 0, none⟩)) (vs 6) w := hF 6 (by rfl)
          clear hF
          obtain ⟨q, q1, q2, hr, g0⟩ := hI
          unfold pVal at f6
          simp only [fillTo, dstOf, List.getElem?_toArray, List.getElem?_cons_zero, List.getElem?_cons_succ, Option.bind_some, Act.put, List.setIfInBounds_toArray, List.set_cons_zero, List.set_cons_succ, f6]
          clear f6
          go_wp2_with fail
          refine (pick_any R A n c zs q 2 _ hr (by omega) (by omega)).mono ?_
          rintro e w1 ⟨x, rfl, x0, x1, h1, g1⟩
          go_wp2_with fail
          exact ⟨_, rfl, DrawI.next q1 q2 g0 h1 g1, g1, x, rfl, x0, by omega⟩
        · -- 8
          intro vs k w hI hF
          have f5 : pSl R 2 (1) 5 (vs 5) w := hF 5 (by rfl)
          have f7 : pInt 0 1 (vs 7) w := hF 7 (by rfl)
          clear hF
          obtain ⟨g, es, hne, hlt, hc⟩ := f5
          obtain ⟨x, ei, x0, x1⟩ := f7
          obtain ⟨y, rfl⟩ := Int.eq_ofNat_of_zero_le x0
          obtain ⟨z, hz, hb⟩ := hc y (by omega)
          have hc' := Lib.hid hc
          clear hc
          simp only [fillTo, dstOf, List.getElem?_toArray, List.getElem?_cons_zero, List.getElem?_cons_succ, Option.bind_some, Act.put, List.setIfInBounds_toArray, List.set_cons_zero, List.set_cons_succ, es, ei]
          clear es ei
          go_wp2_with fail
          exact ⟨_, rfl, hI.same (New.refl _), gb_refl _ _, g, y, z, rfl, hne, hlt, hz, hb⟩
        · -- 9
          intro vs k w hI hF
          have f8 : pAd R (1) 5 (vs 8) w := hF 8 (by rfl)
          clear hF
          obtain ⟨g, j, z, ea, _, _, hc, hb⟩ := f8
          simp only [fillTo, dstOf, List.getElem?_toArray, List.getElem?_cons_zero, List.getElem?_cons_succ, Option.bind_some, Act.put, List.setIfInBounds_toArray, List.set_cons_zero, List.set_cons_succ, ea]
          clear ea
          go_wp2_with fail
          exact ⟨_, rfl, hI.same (New.refl _), gb_refl _ _, z, rfl, hb⟩
        · -- 10
          intro vs k w hI hF
          clear hF
          simp only [fillTo, dstOf, List.getElem?_toArray, List.getElem?_cons_zero, List.getElem?_cons_succ, Option.bind_some, Act.put, List.setIfInBounds_toArray, List.set_cons_zero, List.set_cons_succ]
          go_wp2_with fail
          exact ⟨_, rfl, hI.same ((New.refl _).alloc _), new_gbR R ((New.refl _).alloc _), PSl.built _ [1, 1, 1, 0, 2] hI.lt (by first | (simp; done) | (simp; omega))⟩
        · -- 11
          intro vs k w hI hF
          clear hF
          simp only [fillTo, dstOf, List.getElem?_toArray, List.getElem?_cons_zero, List.getElem?_cons_succ, Option.bind_some, Act.put, List.setIfInBounds_toArray, List.set_cons_zero, List.set_cons_succ]
          go_wp2_with fail
          exact ⟨_, rfl, hI.same (New.refl _), gb_refl _ _, rfl⟩
        · -- 12
          intro vs k w hI hF
          have f11 : pVal (.pointer (some ⟨R, 0, none⟩)) (vs 11) w := hF 11 (by rfl)
          clear hF
          obtain ⟨q, q1, q2, hr, g0⟩ := hI
          unfold pVal at f11
          simp only [fillTo, dstOf, List.getElem?_toArray, List.getElem?_cons_zero, List.getElem?_cons_succ, Option.bind_some, Act.put, List.setIfInBounds_toArray, List.set_cons_zero, List.set_cons_succ, f11]
          clear f11
          go_wp2_with fail
          refine (pick_any R A n c zs q 5 _ hr (by omega) (by omega)).mono ?_
          rintro e w1 ⟨x, rfl, x0, x1, h1, g1⟩
          go_wp2_with fail
          exact ⟨_, rfl, DrawI.next q1 q2 g0 h1 g1, g1, x, rfl, x0, by omega⟩
        · -- 13
          intro vs k w hI hF
          have f10 : pSl R 5 (0) 2 (vs 10) w := hF 10 (by rfl)
          have f12 : pInt 0 4 (vs 12) w := hF 12 (by rfl)
          clear hF
          obtain ⟨g, es, hne, hlt, hc⟩ := f10
          obtain ⟨x, ei, x0, x1⟩ := f12
          obtain ⟨y, rfl⟩ := Int.eq_ofNat_of_zero_le x0
          obtain ⟨z, hz, hb⟩ := hc y (by omega)
          have hc' := Lib.hid hc
          clear hc
          simp only [fillTo, dstOf, List.getElem?_toArray, List.getElem?_cons_zero, List.getElem?_cons_succ, Option.bind_some, Act.put, List.setIfInBounds_toArray, List.set_cons_zero, List.set_cons_succ, es, ei]
          clear es ei
          go_wp2_with fail
          exact ⟨_, rfl, hI.same (New.refl _), gb_refl _ _, g, y, z, rfl, hne, hlt, hz, hb⟩
        · -- 14
          intro vs k w hI hF
          have f13 : pAd R (0) 2 (vs 13) w := hF 13 (by rfl)
          clear hF
          obtain ⟨g, j, z, ea, _, _, hc, hb⟩ := f13
          simp only [fillTo, dstOf, List.getElem?_toArray, List.getElem?_cons_zero, List.getElem?_cons_succ, Option.bind_some, Act.put, List.setIfInBounds_toArray, List.set_cons_zero, List.set_cons_succ, ea]
          clear ea
          go_wp2_with fail
          exact ⟨_, rfl, hI.same (New.refl _), gb_refl _ _, z, rfl, hb⟩
        · -- 15
          intro vs k w hI hF
          have f9 : pInt (1) 5 (vs 9) w := hF 9 (by rfl)
          have f14 : pInt (0) 2 (vs 14) w := hF 14 (by rfl)
          have f1 : pVal (.int .i64 at2) (vs 1) w := hF 1 (by rfl)
          clear hF
          unfold pVal at f1
          obtain ⟨z9, e9, l9, u9⟩ := f9
          obtain ⟨z14, e14, l14, u14⟩ := f14
          simp only [fillTo, dstOf, List.getElem?_toArray, List.getElem?_cons_zero, List.getElem?_cons_succ, Option.bind_some, Act.put, List.setIfInBounds_toArray, List.set_cons_zero, List.set_cons_succ, e9, e14, f1]
          clear e9
          clear e14
          clear f1
          go_wp2_with fail
          exact ⟨_, rfl, hI.same (New.refl _), gb_refl _ _, at2, z9, z14, rfl, by omega⟩
        · -- 16
          intro vs k w hI hF
          have f15 : pAgg3 (0) 1000 (vs 15) w := hF 15 (by rfl)
          clear hF
          obtain ⟨xa, xb, xc, ex, _⟩ := f15
          simp only [fillTo, dstOf, List.getElem?_toArray, List.getElem?_cons_zero, List.getElem?_cons_succ, Option.bind_some, Act.put, List.setIfInBounds_toArray, List.set_cons_zero, List.set_cons_succ, ex]
          clear ex
          go_wp2_with fail
          exact ⟨_, rfl, hI.same ((New.refl _).alloc _), new_gbR R ((New.refl _).alloc _), pSlH.built _ _ _ _ hI.lt⟩
      · intro vs k w3 hI hF
        have f0 : pVal (.slice A' n' c') (vs 0) w3 := hF 0 (by omega)
        have f16 : pSlH R (vs 16) w3 := hF 16 (by omega)
        clear hF
        obtain ⟨q', q1', q2', hr3, g3⟩ := hI
        obtain ⟨g, xa, xb, xc, ex, hne, hi3⟩ := f16
        unfold pVal at f0
        have HO := Lib.hid (o2.gb g3 hRw)
        have HI := Lib.hid hi3
        have HR := Lib.hid hr3
        have HG := Lib.hid (gb_trans G2 g3)
        clear o2 h2 G2 g3 hr3 hi3
        simp only [fillTo, dstOf, List.getElem?_toArray, List.getElem?_cons_zero, List.getElem?_cons_succ, Option.bind_some, Act.put, List.setIfInBounds_toArray, List.set_cons_zero, List.set_cons_succ, List.drop_succ_cons, List.drop_zero, f0, ex]
        clear f0 ex
        go_wp2_with (at_builtin; refine wpList_append_Rd _ rfl (.tmp 19) (.tmp 35) 23 rfl w 64 i0 _ 3 24 Try.underlying23 hi hz0 hz1 hz2 rfl (by omega) (by omega) A' n' c' _ rfl HO.out _ 1 1 [xa, xb, xc] rfl rfl HI.out (by omega) (by omega) HR.out hRw HG.out ?_; intro A2 c2 w4 e1 e2 o4 h4 G4)
        go_roundw
        case rel => exact ⟨m - 1, A2, c2, hs ++ [⟨xa, xb, xc⟩], n' + 1, at2 + 1, q', by omega, by go_num, rfl, Lib.hid (by rw [HL.out]; simp), by omega, e1, e2, by go_num, by omega, by omega, by omega, by omega, by rw [flat_append]; exact o4, h4, G4⟩
        case measure => simp [intOf]; omega
    · obtain rfl : m = 0 := by omega
      have hat : at_ ≤ 25 := by omega
      go_wp2_with fail
      refine (odd_any R A n c zs q N _ hr (by omega) hN0 hN).mono ?_
      rintro e w2 ⟨v, q1, rfl, ⟨bv, rfl⟩, hq1, hq2, h2, g2⟩
      have o2 := ho.gb g2 hRw
      have G2 := gb_trans hg g2
      clear ho hr hg g2
      cases bv
      · go_wp2_with fail
        go_ret
        exact ⟨A', c', q1, hs, by rw [← HL.out]; rfl, by rw [← HL.out]; omega, by rw [← HL.out]; exact hnc, hcm, by rw [← HL.out]; exact o2, by omega, by omega, h2, G2⟩
      · go_wp2_with fail
        refine (pick_any R A n c zs q1 4 _ h2 (by omega) (by omega)).mono ?_
        rintro e w3 ⟨x, rfl, x0, x1, h3, g3⟩
        have x2 := x1 (by omega)
        have o3 := o2.gb g3 hRw
        have G3 := gb_trans G2 g3
        clear o2 h2 G2 g3 x1
        rcases (show x = 0 ∨ x = 1 ∨ x = 2 ∨ x = 3 by omega) with rfl | rfl | rfl | rfl
        · skip
          have bA := (New.refl w3).alloc (.cells #[.int .i64 31, .int .i64 1, .int .i64 0] 64)
          have HO := Lib.hid (o3.new bA)
          have HR := Lib.hid (h3.new bA)
          have HG := Lib.hid (gb_new G3 bA)
          clear bA o3 h3 G3
          go_wp2_with (at_builtin; refine wpList_append_Rd _ rfl (.tmp 53) (.tmp 55) 23 rfl w 64 i0 _ 3 24 Try.underlying23 hi hz0 hz1 hz2 rfl (by omega) (by omega) A' n' c' _ rfl HO.out _ 1 1 [31, 1, 0] rfl rfl (Ints.lit _ _ [31, 1, 0] _ (by simp)) (by omega) (by omega) HR.out hRw HG.out ?_; intro A2 c2 w4 e1 e2 o4 h4 G4)
          go_ret
          exact ⟨A2, c2, q1 + 1, hs ++ [⟨31, 1, 0⟩], by rw [List.length_append, ← HL.out]; rfl, by rw [List.length_append, ← HL.out]; simp; omega, by rw [List.length_append, ← HL.out]; exact e1, e2, by rw [List.length_append, ← HL.out, flat_append]; exact o4, by omega, by omega, h4, G4⟩
        · go_wp2_with fail
          have bL := (New.refl w3).alloc (.cells #[.int .i64 0, .int .i64 6] 3)
          refine (pick_any R A n c zs (q1 + 1) 2 _ (h3.new bL) (by omega) (by omega)).mono ?_
          rintro e w5 ⟨y, rfl, y0, y1, h5, g5⟩
          have hlt3 := h3.lt
          have n5 := blk_gb (heap_alloc_new w3 (.cells #[.int .i64 0, .int .i64 6] 3)) g5 (by omega)
          have N0 : w5.cell? ⟨w3.heap.size, 0, none⟩ = some (.int .i64 0) := by rw [cell_of_row _ _ _ _ _ _ n5]; rfl
          have N1 : w5.cell? ⟨w3.heap.size, 1, none⟩ = some (.int .i64 6) := by rw [cell_of_row _ _ _ _ _ _ n5]; rfl
          have o5 := (o3.new bL).gb g5 hRw
          have G5 := gb_trans (gb_new G3 bL) g5
          clear o3 h3 G3 g5 n5 bL
          rcases (show y = 0 ∨ y = 1 by have := y1 (by omega); omega) with rfl | rfl
          · skip
            have bA := (New.refl w5).alloc (.cells #[.int .i64 at_, .int .i64 0, .int .i64 0] 64)
            have HO := Lib.hid (o5.new bA)
            have HR := Lib.hid (h5.new bA)
            have HG := Lib.hid (gb_new G5 bA)
            clear bA o5 h5 G5
            go_wp2_with (at_builtin; refine wpList_append_Rd _ rfl (.tmp 59) (.tmp 67) 23 rfl w 64 i0 _ 3 24 Try.underlying23 hi hz0 hz1 hz2 rfl (by omega) (by omega) A' n' c' _ rfl HO.out _ 1 1 [at_, 0, 0] rfl rfl (Ints.lit _ _ [at_, 0, 0] _ (by simp)) (by omega) (by omega) HR.out hRw HG.out ?_; intro A2 c2 w4 e1 e2 o4 h4 G4)
            go_ret
            exact ⟨A2, c2, q1 + 1 + 1, hs ++ [⟨at_, 0, 0⟩], by rw [List.length_append, ← HL.out]; rfl, by rw [List.length_append, ← HL.out]; simp; omega, by rw [List.length_append, ← HL.out]; exact e1, e2, by rw [List.length_append, ← HL.out, flat_append]; exact o4, by omega, by omega, h4, G4⟩
          · skip
            have bA := (New.refl w5).alloc (.cells #[.int .i64 at_, .int .i64 6, .int .i64 0] 64)
            have HO := Lib.hid (o5.new bA)
            have HR := Lib.hid (h5.new bA)
            have HG := Lib.hid (gb_new G5 bA)
            clear bA o5 h5 G5
            go_wp2_with (at_builtin; refine wpList_append_Rd _ rfl (.tmp 59) (.tmp 67) 23 rfl w 64 i0 _ 3 24 Try.underlying23 hi hz0 hz1 hz2 rfl (by omega) (by omega) A' n' c' _ rfl HO.out _ 1 1 [at_, 6, 0] rfl rfl (Ints.lit _ _ [at_, 6, 0] _ (by simp)) (by omega) (by omega) HR.out hRw HG.out ?_; intro A2 c2 w4 e1 e2 o4 h4 G4)
            go_ret
            exact ⟨A2, c2, q1 + 1 + 1, hs ++ [⟨at_, 6, 0⟩], by rw [List.length_append, ← HL.out]; rfl, by rw [List.length_append, ← HL.out]; simp; omega, by rw [List.length_append, ← HL.out]; exact e1, e2, by rw [List.length_append, ← HL.out, flat_append]; exact o4, by omega, by omega, h4, G4⟩
        · skip
          have bA := (New.refl w3).alloc (.cells #[.int .i64 at_, .int .i64 1, .int .i64 3] 64)
          have HO := Lib.hid (o3.new bA)
          have HR := Lib.hid (h3.new bA)
          have HG := Lib.hid (gb_new G3 bA)
          clear bA o3 h3 G3
          go_wp2_with (at_builtin; refine wpList_append_Rd _ rfl (.tmp 71) (.tmp 74) 23 rfl w 64 i0 _ 3 24 Try.underlying23 hi hz0 hz1 hz2 rfl (by omega) (by omega) A' n' c' _ rfl HO.out _ 1 1 [at_, 1, 3] rfl rfl (Ints.lit _ _ [at_, 1, 3] _ (by simp)) (by omega) (by omega) HR.out hRw HG.out ?_; intro A2 c2 w4 e1 e2 o4 h4 G4)
          go_ret
          exact ⟨A2, c2, q1 + 1, hs ++ [⟨at_, 1, 3⟩], by rw [List.length_append, ← HL.out]; rfl, by rw [List.length_append, ← HL.out]; simp; omega, by rw [List.length_append, ← HL.out]; exact e1, e2, by rw [List.length_append, ← HL.out, flat_append]; exact o4, by omega, by omega, h4, G4⟩
        · skip
          have bA := (New.refl w3).alloc (.cells #[.int .i64 at_, .int .i64 1, .int .i64 0, .int .i64 at_, .int .i64 1, .int .i64 0] 64)
          have HO := Lib.hid (o3.new bA)
          have HR := Lib.hid (h3.new bA)
          have HG := Lib.hid (gb_new G3 bA)
          clear bA o3 h3 G3
          go_wp2_with (at_builtin; refine wpList_append_Rd _ rfl (.tmp 44) (.tmp 49) 23 rfl w 64 i0 _ 3 24 Try.underlying23 hi hz0 hz1 hz2 rfl (by omega) (by omega) A' n' c' _ rfl HO.out _ 2 2 [at_, 1, 0, at_, 1, 0] rfl rfl (Ints.lit _ _ [at_, 1, 0, at_, 1, 0] _ (by simp)) (by omega) (by omega) HR.out hRw HG.out ?_; intro A2 c2 w4 e1 e2 o4 h4 G4)
          go_ret
          exact ⟨A2, c2, q1 + 1, hs ++ [⟨at_, 1, 0⟩, ⟨at_, 1, 0⟩], by rw [List.length_append, ← HL.out]; rfl, by rw [List.length_append, ← HL.out]; simp; omega, by rw [List.length_append, ← HL.out]; exact e1, e2, by rw [List.length_append, ← HL.out, flat_append]; exact o4, by omega, by omega, h4, G4⟩
end Go.Proofs.Ytbnehcaallehbaa
