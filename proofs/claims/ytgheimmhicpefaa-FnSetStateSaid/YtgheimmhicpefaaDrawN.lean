/- Draws of keys, of numbers to mix, of a number of a host. -/
import Derived.Test.YtgheimmhicpefaaDrawR
namespace Go.Proofs.Ytgheimmhicpefaa
set_option linter.unusedVariables false
set_option linter.unusedSimpArgs false
open Go.RowKit

theorem Own.some_ {E : TypeId} {size B n c : Nat} {w : World} {A : Option Addr} {zs : List Int} (h : Own E size B w A n c zs) (hn : 0 < n) : ∃ g, A = some ⟨g, 0, none⟩ := by
  rcases h.2 with ⟨_, h0⟩ | ⟨g, cap, cur, hv, _⟩
  · omega
  · exact ⟨g, by simpa using (congrArg (fun v => match v with | .slice A _ _ => A | _ => none) hv)⟩
/-- A drawn number. -/
def IntDrawn (lo hi : Int) (w : World) (e : Ending) (w' : World) : Prop := ∃ z : Int, e = .returned (.int .i64 z) ∧ lo ≤ z ∧ z ≤ hi ∧ New w w'
set_option maxRecDepth 100000 in
theorem l20Key_any (R : Nat) (A : Option Addr) (n c : Nat) (zs : List Int) (p : Nat) (N : Int) (w : World) (h : RdAt w R A n c zs p) (hp : p ≤ 900000) (hN0 : 0 ≤ N) (hN : N ≤ 1000000) :
    Calls Try.prog 55 #[.pointer (some ⟨R, 0, none⟩), .int .i64 N] w (ReadRet 4 w R A n c zs p (pInt (-1) 1000003)) := by
  go_enter Try.func55, Try.ntmps55
  go_wp2_with fail
  refine (odd_any R A n c zs p N _ h (by omega) hN0 hN).mono ?_
  rintro e w1 ⟨v, q, rfl, ⟨b, rfl⟩, hq1, hq2, h1, g1⟩
  have hlt1 := h1.lt
  cases b
  · go_wp2_with fail
    refine (pick_any R A n c zs q 256 _ h1 (by omega) (by omega)).mono ?_
    rintro e w2 ⟨x, rfl, x0, x1, h2, g2⟩
    have x2 := x1 (by omega)
    go_wp2_with fail
    refine (pick_any R A n c zs (q + 1) 256 _ h2 (by omega) (by omega)).mono ?_
    rintro e w3 ⟨y, rfl, y0, y1, h3, g3⟩
    have y2 := y1 (by omega)
    have hlt3 := h3.lt
    go_wp2_with fail
    have bL := ((New.refl w3).alloc (.cells #[.int .i64 (x * 3900), .int .i64 y, .int .i64 1000002] 3)).alloc (.cells #[.int .i64 0, .int .i64 0, .int .i64 0, .int .i64 1, .int .i64 2] 3)
    refine (pick_any R A n c zs (q + 1 + 1) 5 _ (h3.new bL) (by omega) (by omega)).mono ?_
    rintro e w4 ⟨t, rfl, t0, t1, h4, g4⟩
    have t2 := t1 (by omega)
    have a1 := heap_alloc_new w3 (.cells #[.int .i64 (x * 3900), .int .i64 y, .int .i64 1000002] 3)
    have r1 := blk_gb (blk_new a1 ((New.refl _).alloc (.cells #[.int .i64 0, .int .i64 0, .int .i64 0, .int .i64 1, .int .i64 2] 3))) g4 (by omega)
    have a2 := heap_alloc_new (w3.alloc (.cells #[.int .i64 (x * 3900), .int .i64 y, .int .i64 1000002] 3)) (.cells #[.int .i64 0, .int .i64 0, .int .i64 0, .int .i64 1, .int .i64 2] 3)
    simp only [World.size_alloc] at a2
    have r2 := blk_gb a2 g4 (by omega)
    have c0 : w4.cell? ⟨w3.heap.size, 0, none⟩ = some (.int .i64 (x * 3900)) := by rw [cell_of_row _ _ _ _ _ _ r1]; rfl
    have c1 : w4.cell? ⟨w3.heap.size, 1, none⟩ = some (.int .i64 y) := by rw [cell_of_row _ _ _ _ _ _ r1]; rfl
    have c2 : w4.cell? ⟨w3.heap.size, 2, none⟩ = some (.int .i64 1000002) := by rw [cell_of_row _ _ _ _ _ _ r1]; rfl
    have d0 : w4.cell? ⟨w3.heap.size + 1, 0, none⟩ = some (.int .i64 0) := by rw [cell_of_row _ _ _ _ _ _ r2]; rfl
    have d1 : w4.cell? ⟨w3.heap.size + 1, 1, none⟩ = some (.int .i64 0) := by rw [cell_of_row _ _ _ _ _ _ r2]; rfl
    have d2 : w4.cell? ⟨w3.heap.size + 1, 2, none⟩ = some (.int .i64 0) := by rw [cell_of_row _ _ _ _ _ _ r2]; rfl
    have d3 : w4.cell? ⟨w3.heap.size + 1, 3, none⟩ = some (.int .i64 1) := by rw [cell_of_row _ _ _ _ _ _ r2]; rfl
    have d4 : w4.cell? ⟨w3.heap.size + 1, 4, none⟩ = some (.int .i64 2) := by rw [cell_of_row _ _ _ _ _ _ r2]; rfl
    have G := gb_trans (gb_new (gb_trans (gb_trans g1 g2) g3) bL) g4
    clear r1 r2 a1 a2 bL g1 g2 g3 g4 h1 h2 h3
    rcases (show t = 0 ∨ t = 1 ∨ t = 2 ∨ t = 3 ∨ t = 4 by omega) with rfl | rfl | rfl | rfl | rfl
    all_goals
      go_wp2_with fail
      go_ret
      exact ⟨_, q + 1 + 1 + 1, rfl, ⟨_, rfl, by omega, by omega⟩, by omega, by omega, h4, G⟩
  · go_wp2_with fail
    have bL := (New.refl w1).alloc (.cells #[.int .i64 (-1), .int .i64 1000003] 3)
    refine (pick_any R A n c zs q 2 _ (h1.new bL) (by omega) (by omega)).mono ?_
    rintro e w2 ⟨y, rfl, y0, y1, h2, g2⟩
    have y2 := y1 (by omega)
    have r1 := blk_gb (heap_alloc_new w1 (.cells #[.int .i64 (-1), .int .i64 1000003] 3)) g2 (by omega)
    have c0 : w2.cell? ⟨w1.heap.size, 0, none⟩ = some (.int .i64 (-1)) := by rw [cell_of_row _ _ _ _ _ _ r1]; rfl
    have c1 : w2.cell? ⟨w1.heap.size, 1, none⟩ = some (.int .i64 1000003) := by rw [cell_of_row _ _ _ _ _ _ r1]; rfl
    have G := gb_trans (gb_new g1 bL) g2
    clear r1 bL g1 g2 h1
    rcases (show y = 0 ∨ y = 1 by omega) with rfl | rfl
    all_goals
      go_wp2_with fail
      go_ret
      exact ⟨_, q + 1, rfl, ⟨_, rfl, by omega, by omega⟩, by omega, by omega, h2, G⟩
theorem zerosI_map (n : Nat) : (madeCells (Value.int .i64 0).cells (n * 1)).toList = (List.replicate n (0 : Int)).map (Value.int .i64) := by
  have := toList_madeCells_one (.int .i64 0) (n * 1)
  simpa [Value.cells] using this
/-- A drawn list of numbers. -/
def ListDrawn (m : Nat) (w : World) (e : Ending) (w' : World) : Prop :=
  ∃ A' c', ∃ ys : List Int, e = .returned (.slice A' ys.length c') ∧ ys.length ≤ m ∧ ys.length ≤ c' ∧ c' ≤ maxLen ∧ (∃ g, A' = some ⟨g, 0, none⟩) ∧ Ints w' A' ys ∧ New w w'
set_option maxRecDepth 100000 in
set_option maxHeartbeats 1000000 in
theorem DrawMixNumbers_any (A : Option Addr) (n c : Nat) (zs : List Int) (w : World) (h : CodeArg w A n c zs) : Calls Try.prog 16 #[.slice A n c] w (ListDrawn 9 w) := by
  obtain ⟨i0, hi, hz0, hz1, hz2⟩ := info_parts int_info
  go_enter Try.func16, Try.ntmps16
  go_wp2_with fail
  refine (open_code h).mono ?_
  rintro e w1 ⟨rfl, h1, b1⟩
  have hlt1 := h1.lt
  go_wp2_with fail
  have b0 := (New.refl w1).alloc (.cells #[] 3)
  have o0 : Own 3 1 w1.heap.size (w1.alloc (.cells #[] 3)) (some ⟨w1.heap.size, 0, none⟩) 0 0 [] := World.ownsRow_lit w1 #[] 0 (Nat.le_refl _) (Nat.zero_le _) rfl
  refine (pick_any w.heap.size A _ c _ 0 6 _ (h1.new b0) (by omega) (by omega)).mono ?_
  rintro e w2 ⟨k0, rfl, k00, k01, h2, g2⟩
  have o2 := o0.gb g2 hlt1
  have G2 := gb_trans (new_gbR w.heap.size b0) g2
  obtain ⟨K, rfl⟩ := Int.eq_ofNat_of_zero_le k00
  have hK : K ≤ 5 := by have := k01 (by omega); omega
  clear b0 o0 g2 k00 k01 h h1
  go_wp2_with fail
  go_loopw [4, 5] (fun v i wr => ∃ (m : Nat) (A' : Option Addr) (c' : Nat) (ys : List Int) (n' q : Nat), m ≤ 5 ∧ i = .int .i64 m ∧ v = .slice A' n' c' ∧ Hid (n' = ys.length) ∧ n' + m ≤ 5 ∧ n' ≤ c' ∧ c' ≤ maxLen ∧ q + 3 * m ≤ 20 ∧ (∃ g, A' = some ⟨g, 0, none⟩) ∧ Own 3 1 w1.heap.size wr A' n' c' ys ∧ RdAt wr w.heap.size A (min n 2000) c (zs.take 2000) q ∧ w1.grownBy wr (some w.heap.size)) (fun _ i _ => (intOf i).toNat)
  case atStart => exact ⟨K, _, _, [], 0, 1, hK, rfl, rfl, Lib.hid rfl, by omega, Nat.le_refl _, Nat.zero_le _, by omega, ⟨_, rfl⟩, o2, h2, G2⟩
  case round =>
    obtain ⟨m, A', c', ys, n', q, hm8, rfl, rfl, HL, hnm, hnc, hcm, hq, hpl, ho, hr, hg⟩ := hrel
    clear o2 h2 G2
    by_cases hm0 : 0 < m
    · go_wp2_with fail
      refine (pick_any w.heap.size A _ c _ q 256 _ hr (by omega) (by omega)).mono ?_
      rintro e w3 ⟨x, rfl, x0, x1, h3, g3⟩
      have x2 := x1 (by omega)
      go_wp2_with fail
      refine (pick_any w.heap.size A _ c _ (q + 1) 256 _ h3 (by omega) (by omega)).mono ?_
      rintro e w4 ⟨y, rfl, y0, y1, h4, g4⟩
      have y2 := y1 (by omega)
      go_wp2_with fail
      have bL := (New.refl w4).alloc (.cells #[.int .i64 x, .int .i64 (y * 3900), .int .i64 1000002] 3)
      refine (pick_any w.heap.size A _ c _ (q + 1 + 1) 3 _ (h4.new bL) (by omega) (by omega)).mono ?_
      rintro e w5 ⟨t, rfl, t0, t1, h5, g5⟩
      have t2 := t1 (by omega)
      have r1 := blk_gb (heap_alloc_new w4 (.cells #[.int .i64 x, .int .i64 (y * 3900), .int .i64 1000002] 3)) g5 (by have := h4.lt; omega)
      have d0 : w5.cell? ⟨w4.heap.size, 0, none⟩ = some (.int .i64 x) := by rw [cell_of_row _ _ _ _ _ _ r1]; rfl
      have d1 : w5.cell? ⟨w4.heap.size, 1, none⟩ = some (.int .i64 (y * 3900)) := by rw [cell_of_row _ _ _ _ _ _ r1]; rfl
      have d2 : w5.cell? ⟨w4.heap.size, 2, none⟩ = some (.int .i64 1000002) := by rw [cell_of_row _ _ _ _ _ _ r1]; rfl
      have o5 := (((ho.gb g3 hlt1).gb g4 hlt1).new bL).gb g5 hlt1
      have G5 := gb_trans (gb_new (gb_trans (gb_trans hg g3) g4) bL) g5
      clear ho hr hg g3 h3 g4 h4 g5 bL r1 x1 y1 t1
      rcases (show t = 0 ∨ t = 1 ∨ t = 2 by omega) with rfl | rfl | rfl
      · have bA := (New.refl w5).alloc (.cells #[.int .i64 x] 3)
        have HO := Lib.hid (o5.new bA)
        have HR := Lib.hid (h5.new bA)
        have HG := Lib.hid (gb_new G5 bA)
        clear o5 h5 G5 bA
        go_wp2_with (at_builtin; refine wpList_append_Rd _ rfl (.tmp 15) (.tmp 26) 30 rfl w1 3 i0 _ 1 8 Try.underlying30 hi hz0 hz1 hz2 rfl (by omega) (by omega) A' n' c' _ rfl HO.out _ 1 1 [x] rfl rfl (Ints.lit _ _ [_] _ (by simp)) (by omega) (by omega) HR.out hlt1 HG.out ?_; intro A2 c2 w6 e1 e2 o6 h6 G6)
        go_roundw
        case rel => exact ⟨m - 1, A2, c2, _, n' + 1, q + 1 + 1 + 1, by omega, by go_num, rfl, Lib.hid (by rw [HL.out]; simp), by omega, e1, e2, by omega, o6.some_ (by omega), o6, h6, G6⟩
        case measure => simp [intOf]; omega
      · have bA := (New.refl w5).alloc (.cells #[.int .i64 (y * 3900)] 3)
        have HO := Lib.hid (o5.new bA)
        have HR := Lib.hid (h5.new bA)
        have HG := Lib.hid (gb_new G5 bA)
        clear o5 h5 G5 bA
        go_wp2_with (at_builtin; refine wpList_append_Rd _ rfl (.tmp 15) (.tmp 26) 30 rfl w1 3 i0 _ 1 8 Try.underlying30 hi hz0 hz1 hz2 rfl (by omega) (by omega) A' n' c' _ rfl HO.out _ 1 1 [y * 3900] rfl rfl (Ints.lit _ _ [_] _ (by simp)) (by omega) (by omega) HR.out hlt1 HG.out ?_; intro A2 c2 w6 e1 e2 o6 h6 G6)
        go_roundw
        case rel => exact ⟨m - 1, A2, c2, _, n' + 1, q + 1 + 1 + 1, by omega, by go_num, rfl, Lib.hid (by rw [HL.out]; simp), by omega, e1, e2, by omega, o6.some_ (by omega), o6, h6, G6⟩
        case measure => simp [intOf]; omega
      · have bA := (New.refl w5).alloc (.cells #[.int .i64 1000002] 3)
        have HO := Lib.hid (o5.new bA)
        have HR := Lib.hid (h5.new bA)
        have HG := Lib.hid (gb_new G5 bA)
        clear o5 h5 G5 bA
        go_wp2_with (at_builtin; refine wpList_append_Rd _ rfl (.tmp 15) (.tmp 26) 30 rfl w1 3 i0 _ 1 8 Try.underlying30 hi hz0 hz1 hz2 rfl (by omega) (by omega) A' n' c' _ rfl HO.out _ 1 1 [1000002] rfl rfl (Ints.lit _ _ [_] _ (by simp)) (by omega) (by omega) HR.out hlt1 HG.out ?_; intro A2 c2 w6 e1 e2 o6 h6 G6)
        go_roundw
        case rel => exact ⟨m - 1, A2, c2, _, n' + 1, q + 1 + 1 + 1, by omega, by go_num, rfl, Lib.hid (by rw [HL.out]; simp), by omega, e1, e2, by omega, o6.some_ (by omega), o6, h6, G6⟩
        case measure => simp [intOf]; omega
    · obtain rfl : m = 0 := by omega
      go_wp2_with fail
      refine (odd_any w.heap.size A _ c _ q 6 _ hr (by omega) (by omega) (by omega)).mono ?_
      rintro e w3 ⟨v, q1, rfl, ⟨b, rfl⟩, hq1, hq2, h3, g3⟩
      have o3 := ho.gb g3 hlt1
      have G3 := gb_trans hg g3
      clear ho hr hg g3
      cases b
      · skip
        go_wp2_with fail
        refine (odd_any w.heap.size A _ c _ (q1) 24 _ h3 (by omega) (by omega) (by omega)).mono ?_
        rintro e w8 ⟨v, q8, rfl, ⟨b8, rfl⟩, hq8, hq9, h8, g8⟩
        have o8 := o3.gb g8 hlt1
        have G8 := gb_trans G3 g8
        clear o3 h3 G3 g8
        have hN : New w w8 := new_gb b1 G8 (Nat.le_refl _)
        cases b8
        · go_wp2_with fail
          go_ret
          exact ⟨A', c', ys, by simp only [← HL.out]; rfl, by simp only [← HL.out]; omega, by simp only [← HL.out]; omega, by assumption, by assumption, o8.ints, hN⟩
        · clear o8
          go_wp2_with (at_make; refine wpList_make_full _ rfl _ _ 30 rfl w8.heap.size 3 i0 (.int .i64 0) 1 Try.underlying30 hi hz0 hz1 .i64 .i64 9 9 9 rfl rfl rfl rfl (by rw [hz2]; omega) (by unfold maxLen; omega) (Nat.le_refl _) ?_; intro w9 hown hgrow)
          have o9 : Own 3 1 w8.heap.size w9 (some ⟨w8.heap.size, 0, none⟩) 9 9 (List.replicate 9 0) := by
            unfold Own
            rw [← zerosI_map]
            exact hown
          have hb9 : New w8 w9 := (New.refl w8).grown hgrow (by simp)
          go_ret
          exact ⟨_, 9, List.replicate 9 0, rfl, by simp, by simp, by unfold maxLen; omega, ⟨_, rfl⟩, o9.ints, hN.trans hb9⟩
      · go_wp2_with fail
        have bL := (New.refl w3).alloc (.cells #[.int .i64 (-1), .int .i64 1000003] 3)
        refine (pick_any w.heap.size A _ c _ q1 2 _ (h3.new bL) (by omega) (by omega)).mono ?_
        rintro e w5 ⟨t, rfl, t0, t1, h5, g5⟩
        have t2 := t1 (by omega)
        have r1 := blk_gb (heap_alloc_new w3 (.cells #[.int .i64 (-1), .int .i64 1000003] 3)) g5 (by have := h3.lt; omega)
        have d0 : w5.cell? ⟨w3.heap.size, 0, none⟩ = some (.int .i64 (-1)) := by rw [cell_of_row _ _ _ _ _ _ r1]; rfl
        have d1 : w5.cell? ⟨w3.heap.size, 1, none⟩ = some (.int .i64 1000003) := by rw [cell_of_row _ _ _ _ _ _ r1]; rfl
        have o5 := (o3.new bL).gb g5 hlt1
        have G5 := gb_trans (gb_new G3 bL) g5
        clear o3 h3 G3 g5 bL r1 t1
        rcases (show t = 0 ∨ t = 1 by omega) with rfl | rfl
        · have bA := (New.refl w5).alloc (.cells #[.int .i64 (-1)] 3)
          have HO := Lib.hid (o5.new bA)
          have HR := Lib.hid (h5.new bA)
          have HG := Lib.hid (gb_new G5 bA)
          clear o5 h5 G5 bA
          go_wp2_with (at_builtin; refine wpList_append_Rd _ rfl (.tmp 30) (.tmp 36) 30 rfl w1 3 i0 _ 1 8 Try.underlying30 hi hz0 hz1 hz2 rfl (by omega) (by omega) A' n' c' _ rfl HO.out _ 1 1 [-1] rfl rfl (Ints.lit _ _ [_] _ (by simp)) (by omega) (by omega) HR.out hlt1 HG.out ?_; intro A2 c2 w6 e1 e2 o6 h6 G6)
          have hpl2 := o6.some_ (by omega)
          go_wp2_with fail
          refine (odd_any w.heap.size A _ c _ (q1 + 1) 24 _ h6 (by omega) (by omega) (by omega)).mono ?_
          rintro e w8 ⟨v, q8, rfl, ⟨b8, rfl⟩, hq8, hq9, h8, g8⟩
          have o8 := o6.gb g8 hlt1
          have G8 := gb_trans G6 g8
          clear o6 h6 G6 g8
          have hN : New w w8 := new_gb b1 G8 (Nat.le_refl _)
          cases b8
          · go_wp2_with fail
            go_ret
            exact ⟨A2, c2, ys ++ [-1], by simp only [List.length_append, ← HL.out, List.length_cons, List.length_nil]; rfl, by simp only [List.length_append, ← HL.out, List.length_cons, List.length_nil]; omega, by simp only [List.length_append, ← HL.out, List.length_cons, List.length_nil]; omega, by assumption, by assumption, o8.ints, hN⟩
          · clear o8
            go_wp2_with (at_make; refine wpList_make_full _ rfl _ _ 30 rfl w8.heap.size 3 i0 (.int .i64 0) 1 Try.underlying30 hi hz0 hz1 .i64 .i64 9 9 9 rfl rfl rfl rfl (by rw [hz2]; omega) (by unfold maxLen; omega) (Nat.le_refl _) ?_; intro w9 hown hgrow)
            have o9 : Own 3 1 w8.heap.size w9 (some ⟨w8.heap.size, 0, none⟩) 9 9 (List.replicate 9 0) := by
              unfold Own
              rw [← zerosI_map]
              exact hown
            have hb9 : New w8 w9 := (New.refl w8).grown hgrow (by simp)
            go_ret
            exact ⟨_, 9, List.replicate 9 0, rfl, by simp, by simp, by unfold maxLen; omega, ⟨_, rfl⟩, o9.ints, hN.trans hb9⟩
        · have bA := (New.refl w5).alloc (.cells #[.int .i64 1000003] 3)
          have HO := Lib.hid (o5.new bA)
          have HR := Lib.hid (h5.new bA)
          have HG := Lib.hid (gb_new G5 bA)
          clear o5 h5 G5 bA
          go_wp2_with (at_builtin; refine wpList_append_Rd _ rfl (.tmp 30) (.tmp 36) 30 rfl w1 3 i0 _ 1 8 Try.underlying30 hi hz0 hz1 hz2 rfl (by omega) (by omega) A' n' c' _ rfl HO.out _ 1 1 [1000003] rfl rfl (Ints.lit _ _ [_] _ (by simp)) (by omega) (by omega) HR.out hlt1 HG.out ?_; intro A2 c2 w6 e1 e2 o6 h6 G6)
          have hpl2 := o6.some_ (by omega)
          go_wp2_with fail
          refine (odd_any w.heap.size A _ c _ (q1 + 1) 24 _ h6 (by omega) (by omega) (by omega)).mono ?_
          rintro e w8 ⟨v, q8, rfl, ⟨b8, rfl⟩, hq8, hq9, h8, g8⟩
          have o8 := o6.gb g8 hlt1
          have G8 := gb_trans G6 g8
          clear o6 h6 G6 g8
          have hN : New w w8 := new_gb b1 G8 (Nat.le_refl _)
          cases b8
          · go_wp2_with fail
            go_ret
            exact ⟨A2, c2, ys ++ [1000003], by simp only [List.length_append, ← HL.out, List.length_cons, List.length_nil]; rfl, by simp only [List.length_append, ← HL.out, List.length_cons, List.length_nil]; omega, by simp only [List.length_append, ← HL.out, List.length_cons, List.length_nil]; omega, by assumption, by assumption, o8.ints, hN⟩
          · clear o8
            go_wp2_with (at_make; refine wpList_make_full _ rfl _ _ 30 rfl w8.heap.size 3 i0 (.int .i64 0) 1 Try.underlying30 hi hz0 hz1 .i64 .i64 9 9 9 rfl rfl rfl rfl (by rw [hz2]; omega) (by unfold maxLen; omega) (Nat.le_refl _) ?_; intro w9 hown hgrow)
            have o9 : Own 3 1 w8.heap.size w9 (some ⟨w8.heap.size, 0, none⟩) 9 9 (List.replicate 9 0) := by
              unfold Own
              rw [← zerosI_map]
              exact hown
            have hb9 : New w8 w9 := (New.refl w8).grown hgrow (by simp)
            go_ret
            exact ⟨_, 9, List.replicate 9 0, rfl, by simp, by simp, by unfold maxLen; omega, ⟨_, rfl⟩, o9.ints, hN.trans hb9⟩
end Go.Proofs.Ytgheimmhicpefaa
