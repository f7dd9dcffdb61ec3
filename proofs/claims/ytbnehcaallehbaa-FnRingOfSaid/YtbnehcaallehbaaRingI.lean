/- impl.RingOf: its points, sorted by slices.SortFunc. -/
import Derived.Shelf.SlSortCmp.NoneTotal
import Derived.Shelf.SlicesG.Cmp
import Derived.Shelf.SlGeneric
import Derived.Test.YtbnehcaallehbaaRing
namespace Go.Proofs.Ytbnehcaallehbaa
set_option linter.unusedVariables false
set_option linter.unusedSimpArgs false
open Go.RowKit Go.Sort Go.Shelf

instance : Inhabited Pnt := ⟨⟨0, 0⟩⟩
def sortPts_ren : Go.Shelf.Ren := ⟨fun | 6 => 64 | 15 => 97 | 14 => 96 | 28 => 113 | 29 => 114 | 20 => 105 | 21 => 106 | 22 => 107 | 23 => 108 | 24 => 109 | 25 => 110 | 26 => 111 | 27 => 112 | 46 => 117 | 47 => 118 | 48 => 119 | 49 => 120 | 50 => 121 | 57 => 122 | n => n, fun | 22 => 25 | 24 => 28 | 25 => 81 | 3 => 3 | 39 => 104 | 0 => 0 | 53 => 120 | 55 => 122 | 4 => 4 | 46 => 113 | 45 => 112 | 50 => 117 | 5 => 5 | 9 => 9 | 66 => 125 | 70 => 129 | 76 => 131 | 77 => 132 | n => n, fun | n => n⟩
theorem sortPts : Go.Proofs.SlLaysF0.n6 Try.prog sortPts_ren := {
  mixed := by kernel_rfl,
  f6 := ⟨Try.f64.name, by decide, Try.func64.trans (congrArg some (by kernel_rfl))⟩,
  f14 := ⟨Try.f96.name, by decide, Try.func96.trans (congrArg some (by kernel_rfl))⟩,
  f15 := Try.func97.trans (congrArg some (by kernel_rfl)),
  f20 := ⟨Try.f105.name, by decide, Try.func105.trans (congrArg some (by kernel_rfl))⟩,
  f21 := ⟨Try.f106.name, by decide, Try.func106.trans (congrArg some (by kernel_rfl))⟩,
  f22 := ⟨Try.f107.name, by decide, Try.func107.trans (congrArg some (by kernel_rfl))⟩,
  f23 := ⟨Try.f108.name, by decide, Try.func108.trans (congrArg some (by kernel_rfl))⟩,
  f24 := ⟨Try.f109.name, by decide, Try.func109.trans (congrArg some (by kernel_rfl))⟩,
  f25 := ⟨Try.f110.name, by decide, Try.func110.trans (congrArg some (by kernel_rfl))⟩,
  f26 := ⟨Try.f111.name, by decide, Try.func111.trans (congrArg some (by kernel_rfl))⟩,
  f27 := ⟨Try.f112.name, by decide, Try.func112.trans (congrArg some (by kernel_rfl))⟩,
  f28 := Try.func113.trans (congrArg some (by kernel_rfl)),
  f29 := Try.func114.trans (congrArg some (by kernel_rfl)),
  f46 := ⟨Try.f117.name, by decide, Try.func117.trans (congrArg some (by kernel_rfl))⟩,
  f47 := Try.func118.trans (congrArg some (by kernel_rfl)),
  f48 := Try.func119.trans (congrArg some (by kernel_rfl)),
  f49 := ⟨Try.f120.name, by decide, Try.func120.trans (congrArg some (by kernel_rfl))⟩,
  f50 := ⟨Try.f121.name, by decide, Try.func121.trans (congrArg some (by kernel_rfl))⟩,
  f57 := ⟨Try.f122.name, by decide, Try.func122.trans (congrArg some (by kernel_rfl))⟩,
  t0 := Try.underlying0,
  a0 := Try.isAgg0,
  z0 := Try.sizeOf0,
  v0 := Try.zeroValue0,
  t3 := Try.underlying3,
  a3 := Try.isAgg3,
  z3 := Try.sizeOf3,
  v3 := Try.zeroValue3,
  t4 := Try.underlying4,
  a4 := Try.isAgg4,
  z4 := Try.sizeOf4,
  v4 := Try.zeroValue4,
  t5 := Try.underlying5,
  a5 := Try.isAgg5,
  z5 := Try.sizeOf5,
  v5 := Try.zeroValue5,
  t9 := Try.underlying9,
  a9 := Try.isAgg9,
  z9 := Try.sizeOf9,
  v9 := Try.zeroValue9,
  t22 := Try.underlying25,
  a22 := Try.isAgg25,
  z22 := Try.sizeOf25,
  v22 := Try.zeroValue25,
  t25 := Try.underlying81,
  a25 := Try.isAgg81,
  z25 := Try.sizeOf81,
  v25 := Try.zeroValue81,
  t39 := Try.underlying104,
  a39 := Try.isAgg104,
  z39 := Try.sizeOf104,
  v39 := Try.zeroValue104,
  t45 := Try.underlying112,
  a45 := Try.isAgg112,
  z45 := Try.sizeOf112,
  v45 := Try.zeroValue112,
  t46 := Try.underlying113,
  a46 := Try.isAgg113,
  z46 := Try.sizeOf113,
  v46 := Try.zeroValue113,
  t50 := Try.underlying117,
  a50 := Try.isAgg117,
  z50 := Try.sizeOf117,
  v50 := Try.zeroValue117,
  t53 := Try.underlying120,
  a53 := Try.isAgg120,
  z53 := Try.sizeOf120,
  v53 := Try.zeroValue120,
  t55 := Try.underlying122,
  a55 := Try.isAgg122,
  z55 := Try.sizeOf122,
  v55 := Try.zeroValue122,
  t66 := Try.underlying125,
  a66 := Try.isAgg125,
  z66 := Try.sizeOf125,
  v66 := Try.zeroValue125,
  t70 := Try.underlying129,
  a70 := Try.isAgg129,
  z70 := Try.sizeOf129,
  v70 := Try.zeroValue129,
  t76 := Try.underlying131,
  a76 := Try.isAgg131,
  z76 := Try.sizeOf131,
  v76 := Try.zeroValue131,
  t77 := Try.underlying132,
  a77 := Try.isAgg132,
  z77 := Try.sizeOf132,
  v77 := Try.zeroValue132 }
def cmpInt_ren : Go.Shelf.Ren := ⟨fun | 5 => 67 | 7 => 98 | n => n, fun | 22 => 3 | 3 => 3 | 4 => 4 | n => n, fun | n => n⟩
theorem cmpInt : Go.Proofs.SlLaysC2.n5 Try.prog cmpInt_ren := {
  mixed := by kernel_rfl,
  f5 := ⟨Try.f67.name, by decide, Try.func67.trans (congrArg some (by kernel_rfl))⟩,
  f7 := ⟨Try.f98.name, by decide, Try.func98.trans (congrArg some (by kernel_rfl))⟩,
  t3 := Try.underlying3,
  a3 := Try.isAgg3,
  z3 := Try.sizeOf3,
  v3 := Try.zeroValue3,
  t4 := Try.underlying4,
  a4 := Try.isAgg4,
  z4 := Try.sizeOf4,
  v4 := Try.zeroValue4,
  t22 := Try.underlying3,
  a22 := Try.isAgg3,
  z22 := Try.sizeOf3,
  v22 := Try.zeroValue3 }

def encP (p : Pnt) : List Value := [.int .i64 p.at_, .int .i64 p.to]
/-- w' is w, some draws on, with blocks behind. -/
def GrD (w w' : World) : Prop := ∃ q os, w' = grow (w.drewN q) os
def GrI (w0 : World) (_ : Nat) (w : World) : Prop := GrD w0 w
theorem GrD.refl (w : World) : GrD w w := ⟨0, #[], by simp [World.drewN]⟩
theorem GrD.alloc {w w' : World} (h : GrD w w') (o : Obj) : GrD w (w'.alloc o) := by
  obtain ⟨q, os, rfl⟩ := h
  exact ⟨q, os ++ #[o], by rw [alloc_eq_grow, grow_grow]⟩
theorem GrD.drew {w w' : World} (h : GrD w w') : GrD w w'.drew := by
  obtain ⟨q, os, rfl⟩ := h
  exact ⟨q + 1, os, rfl⟩
theorem GrD.trans {a b c : World} (h : GrD a b) (k : GrD b c) : GrD a c := by
  obtain ⟨q, os, rfl⟩ := h
  obtain ⟨q', os', rfl⟩ := k
  refine ⟨q + q', os ++ os', ?_⟩
  rw [show (grow (a.drewN q) os).drewN q' = grow (a.drewN (q + q')) os by simp [grow, World.drewN, Nat.add_assoc], grow_grow]
theorem GrD.new {w w' : World} (h : GrD w w') : New w w' := by
  obtain ⟨q, os, rfl⟩ := h
  refine ⟨rfl, rfl, rfl, by simp [grow, World.drewN], fun k hk => ?_⟩
  simp only [grow, World.drewN]
  rw [Array.getElem?_append_left hk]
theorem compare_any (x y : Int) (w : World) : Calls Try.prog 67 #[.int .i64 x, .int .i64 y] w fun e w' => e = .returned (.int .i64 (Lib.compareInt x y)) ∧ w = w' :=
  (AnyG.cmp_Compare_int cmpInt x y w).mono fun _ _ h => ⟨h.1, h.2.symm⟩
def orZ (a b : Int) : Int := if a = 0 then b else a
set_option maxRecDepth 100000 in
theorem or_any (A : Option Addr) (c : Nat) (a b : Int) (w : World) (h : Ints w A [a, b]) : Calls Try.prog 66 #[.slice A 2 c] w fun e w' => e = .returned (.int .i64 (orZ a b)) ∧ w = w' := by
  obtain ⟨g, o, rfl, hc⟩ := h (by simp)
  have c0 : w.cell? ⟨g, o, none⟩ = some (.int .i64 a) := hc 0 (by simp)
  have c1 : w.cell? ⟨g, o + 1, none⟩ = some (.int .i64 b) := hc 1 (by simp)
  have hg := World.block_lt_of_cell? w _ c0
  clear hc h
  by_cases ha : a = 0
  · subst ha
    have e : orZ 0 b = b := by simp [orZ]
    rw [e]
    go_enter Try.func66, Try.ntmps66
    go_wp2_with fail
    go_loop [8] (fun i => ∃ k : Nat, k ≤ 2 ∧ i = .int .i64 k ∧ (k = 2 → b = 0)) (fun i => 2 - (intOf i).toNat)
    case atStart => exact ⟨0, by omega, rfl, fun h => by omega⟩
    case round =>
      obtain ⟨k, hk, rfl, hb⟩ := hrel
      rcases (show k = 0 ∨ k = 1 ∨ k = 2 by omega) with rfl | rfl | rfl
      · go_wp2_with fail
        go_round
        case rel => exact ⟨1, by omega, by go_num, fun h => by omega⟩
        case measure => simp [intOf]
      · by_cases hb0 : b = 0
        · subst hb0
          go_wp2_with fail
          go_round
          case rel => exact ⟨2, by omega, by go_num, by simp⟩
          case measure => simp [intOf]
        · have hbb : (b != 0) = true := by simpa using hb0
          go_wp2_with fail
          go_ret
          exact ⟨rfl, rfl⟩
      · obtain rfl := hb rfl
        go_wp2_with fail
        go_ret
        exact ⟨rfl, rfl⟩
  · have e : orZ a b = a := by simp [orZ, ha]
    rw [e]
    have hab : (a != 0) = true := by simpa using ha
    go_enter Try.func66, Try.ntmps66
    go_wp2_with fail
    go_loop [8] (fun i => i = .int .i64 0) (fun _ => 0)
    case atStart => exact rfl
    case round =>
      obtain rfl := hrel
      go_wp2_with fail
      go_ret
      exact ⟨rfl, rfl⟩
def cfP (x y : Pnt) : Int := orZ (Lib.compareInt x.at_ y.at_) (Lib.compareInt x.to y.to)
set_option maxRecDepth 100000 in
set_option maxHeartbeats 1000000 in
theorem closure_any (xa xt ya yt : Int) (W : World) : Calls Try.prog 65 #[.agg #[.int .i64 xa, .int .i64 xt], .agg #[.int .i64 ya, .int .i64 yt]] W fun e w' => e = .returned (.int .i64 (cfP ⟨xa, xt⟩ ⟨ya, yt⟩)) ∧ GrD W w' := by
  show Calls _ _ _ _ fun e w' => e = .returned (.int .i64 (orZ (Lib.compareInt xa ya) (Lib.compareInt xt yt))) ∧ GrD W w'
  have hW1 := ((GrD.refl W).alloc (.cells #[.int .i64 xa, .int .i64 xt] 28)).alloc (.cells #[.int .i64 ya, .int .i64 yt] 28)
  have r0 := blk_new (heap_alloc_new W (.cells #[.int .i64 xa, .int .i64 xt] 28)) ((New.refl _).alloc (.cells #[.int .i64 ya, .int .i64 yt] 28))
  have r1 := heap_alloc_new (W.alloc (.cells #[.int .i64 xa, .int .i64 xt] 28)) (.cells #[.int .i64 ya, .int .i64 yt] 28)
  rw [World.size_alloc] at r1
  go_enter Try.func65, Try.ntmps65
  go_wp2_with fail
  generalize (W.alloc (.cells #[.int .i64 xa, .int .i64 xt] 28)).alloc (.cells #[.int .i64 ya, .int .i64 yt] 28) = w1 at *
  obtain ⟨C0, C1⟩ := cells2 r0
  obtain ⟨D0, D1⟩ := cells2 r1
  have hl0 := blk_lt r0
  have hl1 := blk_lt r1
  clear r0 r1
  obtain ⟨FF, hFF⟩ : ∃ FF, FF = factAt [pVal (.pointer (some ⟨W.heap.size, 0, none⟩)), pVal (.int .i64 xa), pVal (.pointer (some ⟨(W.heap.size + 1), 0, none⟩)), pVal (.int .i64 ya), pVal (.int .i64 (Lib.compareInt xa ya)), pVal (.pointer (some ⟨W.heap.size, 1, none⟩)), pVal (.int .i64 xt), pVal (.pointer (some ⟨(W.heap.size + 1), 1, none⟩)), pVal (.int .i64 yt), pVal (.int .i64 (Lib.compareInt xt yt)), pIL [Lib.compareInt xa ya, Lib.compareInt xt yt], pVal (.int .i64 (orZ (Lib.compareInt xa ya) (Lib.compareInt xt yt)))] := ⟨_, rfl⟩
  have HFF := Lib.hid hFF
  clear hFF
  refine wp_region_tail 12 (by kernel_rfl) (by kernel_rfl) (by kernel_rfl) (by decide) (GrI w1) FF (New) (by rw [HFF.out]; exact factAt_keptN (by
      intro P hP
      simp only [List.mem_cons, List.not_mem_nil, or_false] at hP
      rcases hP with rfl | rfl | rfl | rfl | rfl | rfl | rfl | rfl | rfl | rfl | rfl | rfl
      · exact keptN_val _
      · exact keptN_val _
      · exact keptN_val _
      · exact keptN_val _
      · exact keptN_val _
      · exact keptN_val _
      · exact keptN_val _
      · exact keptN_val _
      · exact keptN_val _
      · exact keptN_val _
      · exact keptN_il _
      · exact keptN_val _
      )) (GrD.drew (GrD.refl _)) ?_ ?_
  · refine ⟨?_, ?_, ?_, ?_, ?_, ?_, ?_, ?_, ?_, ?_, ?_, ?_, trivial⟩
    · -- 0
      intro vs kq wq hI hF
      clear hF
      have hI : GrD w1 wq := hI
      have hN := hI.new
      simp only [fillTo, dstOf, List.getElem?_toArray, List.getElem?_cons_zero, List.getElem?_cons_succ, Option.bind_some, Act.put, List.setIfInBounds_toArray, List.set_cons_zero, List.set_cons_succ]
      have hcq := New.cells hN; have hzq := New.le hN
      go_wp2_with fail
      exact ⟨_, rfl, hI, New.refl _, by rw [HFF.out]; exact rfl⟩
    · -- 1
      intro vs kq wq hI hF
      have f0 : pVal (.pointer (some ⟨W.heap.size, 0, none⟩)) (vs 0) wq := (by have h := hF 0 (by rfl); rw [HFF.out] at h; exact h)
      unfold pVal at f0
      clear hF
      have hI : GrD w1 wq := hI
      have hN := hI.new
      simp only [fillTo, dstOf, List.getElem?_toArray, List.getElem?_cons_zero, List.getElem?_cons_succ, Option.bind_some, Act.put, List.setIfInBounds_toArray, List.set_cons_zero, List.set_cons_succ, f0]
      clear f0
      have hcq := New.cells hN; have hzq := New.le hN
      go_wp2_with fail
      exact ⟨_, rfl, hI, New.refl _, by rw [HFF.out]; exact rfl⟩
    · -- 2
      intro vs kq wq hI hF
      clear hF
      have hI : GrD w1 wq := hI
      have hN := hI.new
      simp only [fillTo, dstOf, List.getElem?_toArray, List.getElem?_cons_zero, List.getElem?_cons_succ, Option.bind_some, Act.put, List.setIfInBounds_toArray, List.set_cons_zero, List.set_cons_succ]
      have hcq := New.cells hN; have hzq := New.le hN
      go_wp2_with fail
      exact ⟨_, rfl, hI, New.refl _, by rw [HFF.out]; exact rfl⟩
    · -- 3
      intro vs kq wq hI hF
      have f2 : pVal (.pointer (some ⟨(W.heap.size + 1), 0, none⟩)) (vs 2) wq := (by have h := hF 2 (by rfl); rw [HFF.out] at h; exact h)
      unfold pVal at f2
      clear hF
      have hI : GrD w1 wq := hI
      have hN := hI.new
      simp only [fillTo, dstOf, List.getElem?_toArray, List.getElem?_cons_zero, List.getElem?_cons_succ, Option.bind_some, Act.put, List.setIfInBounds_toArray, List.set_cons_zero, List.set_cons_succ, f2]
      clear f2
      have hcq := New.cells hN; have hzq := New.le hN
      go_wp2_with fail
      exact ⟨_, rfl, hI, New.refl _, by rw [HFF.out]; exact rfl⟩
    · -- 4
      intro vs kq wq hI hF
      have f1 : pVal (.int .i64 xa) (vs 1) wq := (by have h := hF 1 (by rfl); rw [HFF.out] at h; exact h)
      unfold pVal at f1
      have f3 : pVal (.int .i64 ya) (vs 3) wq := (by have h := hF 3 (by rfl); rw [HFF.out] at h; exact h)
      unfold pVal at f3
      clear hF
      have hI : GrD w1 wq := hI
      have hN := hI.new
      simp only [fillTo, dstOf, List.getElem?_toArray, List.getElem?_cons_zero, List.getElem?_cons_succ, Option.bind_some, Act.put, List.setIfInBounds_toArray, List.set_cons_zero, List.set_cons_succ, f1, f3]
      clear f1 f3
      go_wp2_with fail
      refine (compare_any xa ya _).mono ?_
      rintro e w' ⟨rfl, rfl⟩
      go_wp2_with fail
      exact ⟨_, rfl, hI, New.refl _, by rw [HFF.out]; exact rfl⟩
    · -- 5
      intro vs kq wq hI hF
      clear hF
      have hI : GrD w1 wq := hI
      have hN := hI.new
      simp only [fillTo, dstOf, List.getElem?_toArray, List.getElem?_cons_zero, List.getElem?_cons_succ, Option.bind_some, Act.put, List.setIfInBounds_toArray, List.set_cons_zero, List.set_cons_succ]
      have hcq := New.cells hN; have hzq := New.le hN
      go_wp2_with fail
      exact ⟨_, rfl, hI, New.refl _, by rw [HFF.out]; exact rfl⟩
    · -- 6
      intro vs kq wq hI hF
      have f5 : pVal (.pointer (some ⟨W.heap.size, 1, none⟩)) (vs 5) wq := (by have h := hF 5 (by rfl); rw [HFF.out] at h; exact h)
      unfold pVal at f5
      clear hF
      have hI : GrD w1 wq := hI
      have hN := hI.new
      simp only [fillTo, dstOf, List.getElem?_toArray, List.getElem?_cons_zero, List.getElem?_cons_succ, Option.bind_some, Act.put, List.setIfInBounds_toArray, List.set_cons_zero, List.set_cons_succ, f5]
      clear f5
      have hcq := New.cells hN; have hzq := New.le hN
      go_wp2_with fail
      exact ⟨_, rfl, hI, New.refl _, by rw [HFF.out]; exact rfl⟩
    · -- 7
      intro vs kq wq hI hF
      clear hF
      have hI : GrD w1 wq := hI
      have hN := hI.new
      simp only [fillTo, dstOf, List.getElem?_toArray, List.getElem?_cons_zero, List.getElem?_cons_succ, Option.bind_some, Act.put, List.setIfInBounds_toArray, List.set_cons_zero, List.set_cons_succ]
      have hcq := New.cells hN; have hzq := New.le hN
      go_wp2_with fail
      exact ⟨_, rfl, hI, New.refl _, by rw [HFF.out]; exact rfl⟩
    · -- 8
      intro vs kq wq hI hF
      have f7 : pVal (.pointer (some ⟨(W.heap.size + 1), 1, none⟩)) (vs 7) wq := (by have h := hF 7 (by rfl); rw [HFF.out] at h; exact h)
      unfold pVal at f7
      clear hF
      have hI : GrD w1 wq := hI
      have hN := hI.new
      simp only [fillTo, dstOf, List.getElem?_toArray, List.getElem?_cons_zero, List.getElem?_cons_succ, Option.bind_some, Act.put, List.setIfInBounds_toArray, List.set_cons_zero, List.set_cons_succ, f7]
      clear f7
      have hcq := New.cells hN; have hzq := New.le hN
      go_wp2_with fail
      exact ⟨_, rfl, hI, New.refl _, by rw [HFF.out]; exact rfl⟩
    · -- 9
      intro vs kq wq hI hF
      have f6 : pVal (.int .i64 xt) (vs 6) wq := (by have h := hF 6 (by rfl); rw [HFF.out] at h; exact h)
      unfold pVal at f6
      have f8 : pVal (.int .i64 yt) (vs 8) wq := (by have h := hF 8 (by rfl); rw [HFF.out] at h; exact h)
      unfold pVal at f8
      clear hF
      have hI : GrD w1 wq := hI
      have hN := hI.new
      simp only [fillTo, dstOf, List.getElem?_toArray, List.getElem?_cons_zero, List.getElem?_cons_succ, Option.bind_some, Act.put, List.setIfInBounds_toArray, List.set_cons_zero, List.set_cons_succ, f6, f8]
      clear f6 f8
      go_wp2_with fail
      refine (compare_any xt yt _).mono ?_
      rintro e w' ⟨rfl, rfl⟩
      go_wp2_with fail
      exact ⟨_, rfl, hI, New.refl _, by rw [HFF.out]; exact rfl⟩
    · -- 10
      intro vs kq wq hI hF
      have f4 : pVal (.int .i64 (Lib.compareInt xa ya)) (vs 4) wq := (by have h := hF 4 (by rfl); rw [HFF.out] at h; exact h)
      unfold pVal at f4
      have f9 : pVal (.int .i64 (Lib.compareInt xt yt)) (vs 9) wq := (by have h := hF 9 (by rfl); rw [HFF.out] at h; exact h)
      unfold pVal at f9
      clear hF
      have hI : GrD w1 wq := hI
      have hN := hI.new
      simp only [fillTo, dstOf, List.getElem?_toArray, List.getElem?_cons_zero, List.getElem?_cons_succ, Option.bind_some, Act.put, List.setIfInBounds_toArray, List.set_cons_zero, List.set_cons_succ, f4, f9]
      clear f4 f9
      go_wp2_with fail
      exact ⟨_, rfl, hI.alloc _, (New.refl _).alloc _, by rw [HFF.out]; exact ⟨_, rfl, Ints.lit _ _ [Lib.compareInt xa ya, Lib.compareInt xt yt] _ rfl⟩⟩
    · -- 11
      intro vs kq wq hI hF
      have f10 : pIL [Lib.compareInt xa ya, Lib.compareInt xt yt] (vs 10) wq := (by have h := hF 10 (by rfl); rw [HFF.out] at h; exact h)
      clear hF
      have hI : GrD w1 wq := hI
      have hN := hI.new
      obtain ⟨gl, e10, i10⟩ := f10
      simp only [fillTo, dstOf, List.getElem?_toArray, List.getElem?_cons_zero, List.getElem?_cons_succ, Option.bind_some, Act.put, List.setIfInBounds_toArray, List.set_cons_zero, List.set_cons_succ, e10]
      clear e10
      go_wp2_with fail
      refine (or_any _ 2 _ _ _ i10).mono ?_
      rintro e w' ⟨rfl, rfl⟩
      go_wp2_with fail
      exact ⟨_, rfl, hI, New.refl _, by rw [HFF.out]; exact rfl⟩
  · intro vs kq wq hI hF
    have f11 : pVal (.int .i64 (orZ (Lib.compareInt xa ya) (Lib.compareInt xt yt))) (vs 11) wq := (by have h := hF 11 (by omega); rw [HFF.out] at h; exact h)
    unfold pVal at f11
    clear hF HFF FF
    have hI : GrD w1 wq := hI
    simp only [fillTo, dstOf, List.getElem?_toArray, List.getElem?_cons_zero, List.getElem?_cons_succ, Option.bind_some, Act.put, List.setIfInBounds_toArray, List.set_cons_zero, List.set_cons_succ, f11, List.drop_succ_cons, List.drop_zero, List.drop_nil]
    clear f11
    go_wp2_with fail
    go_ret
    exact ⟨rfl, hW1.trans hI⟩

theorem cfP_lt (x y : Pnt) : ltOf cfP x y = gtP y x := by
  unfold ltOf cfP orZ Lib.compareInt gtP
  apply Bool.eq_iff_iff.2
  simp only [decide_eq_true_eq]
  split <;> split <;> (try split) <;> (try split) <;> omega
theorem swoP : SWO (ltOf cfP) where
  irrefl x := by rw [cfP_lt]; simp [gtP]
  trans x y z h1 h2 := by rw [cfP_lt] at *; simp only [gtP, decide_eq_true_eq] at *; omega
  ntrans x y z h1 h2 := by rw [cfP_lt] at *; simp only [gtP, decide_eq_false_iff_not, decide_eq_true_eq] at *; omega
theorem cfP_total (x y : Pnt) (h1 : ltOf cfP x y = false) (h2 : ltOf cfP y x = false) : x = y := by
  rw [cfP_lt] at h1 h2
  exact gtP_anti h2 h1
theorem cmpLays_any (blk off size : Nat) (w : World) : CmpLays Try.prog 65 #[] encP 2 cfP blk off size w := fun _ _ _ _ x y => closure_any x.at_ x.to y.at_ y.to _
theorem flat_encP (S : List Pnt) (t : Nat) (h : t < S.length * 2) : (flatK encP 2 S.toArray)[t]! = .int .i64 ((flatP S).getD t 0) := by
  rw [get_flatK _ _ _ _ (by simpa using h)]
  have hq : t / 2 < S.length := by omega
  obtain ⟨f0, f1⟩ := flatP_at S (t / 2) S[t / 2] (List.getElem?_eq_getElem hq)
  have e1 : S.toArray[t / 2]! = S[t / 2] := by rw [getElem!_pos S.toArray (t / 2) (by simpa using hq)]; simp
  rw [e1]
  rcases (show t % 2 = 0 ∨ t % 2 = 1 by omega) with h0 | h0
  · rw [h0, List.getD_eq_getElem?_getD]
    have : (flatP S)[t]? = some S[t / 2].at_ := by rw [← f0]; congr 1; omega
    rw [this]
    rfl
  · rw [h0, List.getD_eq_getElem?_getD]
    have : (flatP S)[t]? = some S[t / 2].to := by rw [← f1]; congr 1; omega
    rw [this]
    rfl
/-- A row of the call's own that has been sorted. -/
theorem sort_own {B m c G : Nat} {w : World} {out S : List Pnt} (h : Own 28 2 B w (some ⟨G, 0, none⟩) m c (flatP out)) (hS : S.length = m) (n : Nat) (os : Array Obj) :
    Own 28 2 B (sortWorldK encP 2 w G 0 n S.toArray os) (some ⟨G, 0, none⟩) m c (flatP S) ∧ w.grownBy (sortWorldK encP 2 w G 0 n S.toArray os) (some G) := by
  obtain ⟨hl, ho⟩ := h
  rcases ho with ⟨h0, _⟩ | ⟨g, cap, cur, hv, hg, hh, hnc, hcm, hsz, ht⟩
  · injection h0 with h0
    cases h0
  · obtain ⟨rfl, rfl⟩ : G = g ∧ c = cap := by
      injection hv with h1 _ h2
      injection h1 with h1
      injection h1 with h1
      exact ⟨h1, h2⟩
    have hlt : G < w.heap.size := (Array.getElem?_eq_some_iff.1 hh).1
    have hm2 : m * 2 ≤ cur.size := by rw [hsz]; exact Nat.mul_le_mul_right _ hnc
    have hheap : (sortWorldK encP 2 w G 0 n S.toArray os).heap[G]? = some (.cells (Sort.putCells id 0 (flatK encP 2 S.toArray) cur) 28 (0, 0)) := by
      simp only [sortWorldK, grow, putRowK, putRow, mapBlock, Sort.ahead]
      rw [Array.getElem?_append_left (by simpa using hlt), Array.getElem?_modify, if_pos rfl, hh]
      rfl
    refine ⟨⟨by rw [List.length_map, flatP_len, hS], .inr ⟨G, c, _, hv, hg, hheap, hnc, hcm, by simpa [Sort.putCells] using hsz, ?_⟩⟩, ⟨rfl, rfl, rfl, by simp [sortWorldK, grow, putRowK, putRow, mapBlock, Sort.ahead], fun i hi hne => ?_⟩⟩
    · apply List.ext_getElem?
      intro j
      by_cases hj : j < m * 2
      · rw [List.getElem?_take_of_lt hj, Array.getElem?_toList]
        simp only [Sort.putCells, Array.getElem?_mapIdx]
        rw [Array.getElem?_eq_getElem (by omega), Option.map_some, if_pos ⟨Nat.zero_le _, by simp [hS]; omega⟩, Nat.sub_zero, id, flat_encP S j (by omega)]
        simp [List.getD_eq_getElem?_getD, flatP_len, hS, hj]
      · rw [List.getElem?_eq_none (by simp; omega), List.getElem?_eq_none (by simp [flatP_len, hS]; omega)]
    · have hne' : G ≠ i := fun e => hne (by rw [e])
      simp only [sortWorldK, grow, putRowK, putRow, mapBlock, Sort.ahead]
      rw [Array.getElem?_append_left (by simpa using hi), Array.getElem?_modify, if_neg hne']
theorem holds_own {B m c G : Nat} {w : World} {out : List Pnt} (h : Own 28 2 B w (some ⟨G, 0, none⟩) m c (flatP out)) (hm : out.length = m) : HoldsK encP 2 w G 0 out.toArray := by
  intro j hj
  have hj2 : j < out.length * 2 := by simpa using hj
  obtain ⟨b, o, hA, hc⟩ := h.ints (by rw [flatP_len]; omega)
  obtain ⟨rfl, rfl⟩ : G = b ∧ 0 = o := by simpa using hA
  refine ⟨?_, ?_⟩
  · rw [hc j (by rw [flatP_len]; exact hj2), flat_encP out j hj2]
    rfl
  · rcases h.2 with ⟨h0, _⟩ | ⟨g, cap, cur, hv, hg, hh, _⟩
    · injection h0 with h0
      cases h0
    · obtain rfl : G = g := by
        injection hv with h1
        injection h1 with h1
        injection h1
      exact frozen_of_row _ _ _ _ _ hh
theorem sorted_ring {out : List Pnt} {hs : List Hst} (hP : poolB hs = true) (h : out.Perm (ptsOf (ups hs))) : out.mergeSort (fun x y => !ltOf cfP y x) = ringP hs := by
  refine ring_unique hP ?_ ((List.mergeSort_perm _ _).trans h)
  have := List.pairwise_mergeSort (le := fun x y : Pnt => !ltOf cfP y x) (fun a b c h1 h2 => by
    simp only [cfP_lt, Bool.not_eq_true'] at *
    exact gtP_trans h1 h2) (fun a b => by
    simp only [cfP_lt]
    exact gtP_total a b) out
  exact this.imp (fun h => by simpa [cfP_lt] using h)
theorem Own.otherT {E E' : TypeId} {size size' B B' n n' c c' : Nat} {w w' : World} {A A' : Option Addr} {zs zs' : List Int} (hE : E ≠ E') (h : Own E size B w A n c zs) (h' : Own E' size' B' w A' n' c' zs') (hg : w.grownBy w' (Value.ownBlock (.slice A' n' c'))) : Own E size B w' A n c zs := by
  refine World.ownsRow.kept h hg ?_
  rcases h.2 with ⟨hv, h0⟩ | ⟨g, cap, cur, hv, hg1, hh, _⟩
  · left
    rw [hv]; rfl
  · right
    rw [hv]
    rcases h'.2 with ⟨hv', _⟩ | ⟨g', cap', cur', hv', hg', hh', _⟩
    · rw [hv']
      simp [Value.ownBlock]
    · rw [hv']
      intro e
      have e : g = g' := by simpa [Value.ownBlock] using e
      subst e
      rw [hh] at hh'
      injection hh' with hh'
      injection hh' with _ ht
      exact hE ht
theorem blk_apart {E T : TypeId} {size B n c g : Nat} {w w' : World} {A : Option Addr} {zs : List Int} {cs : Array Value} (hE : T ≠ E) (hc : w.heap[g]? = some (.cells cs T (0, 0))) (h : Own E size B w A n c zs) (hg : w.grownBy w' (Value.ownBlock (.slice A n c))) : w'.heap[g]? = some (.cells cs T (0, 0)) := by
  rw [hg.block g (Array.getElem?_eq_some_iff.1 hc).1 (fun e => ?_)]
  · exact hc
  · rcases h.2 with ⟨h0, _⟩ | ⟨g', cap, cur, hv, _, hh, _⟩
    · rw [h0] at e
      simp [Value.ownBlock] at e
    · rw [hv] at e
      obtain rfl : g = g' := by simpa [Value.ownBlock] using e
      rw [hc] at hh
      injection hh with hh
      injection hh with _ ht
      exact hE ht
theorem Own.blk_ltP {E : TypeId} {size B n c g : Nat} {w : World} {zs : List Int} (h : Own E size B w (some ⟨g, 0, none⟩) n c zs) : g < w.heap.size ∧ B ≤ g := by
  have := World.ownsRow.lt h g rfl
  exact ⟨this.2, this.1⟩
theorem host_ne_point : (64 : TypeId) ≠ 28 := by decide
def pLitI (zs : List Int) (v : Value) (w : World) : Prop := ∃ g, v = .slice (some ⟨g, 0, none⟩) 1 1 ∧ Ints w (some ⟨g, 0, none⟩) zs
theorem keptN_liti (zs : List Int) : KeptN (pLitI zs) := fun _ _ _ hb ⟨g, h1, h2⟩ => ⟨g, h1, h2.new hb⟩
theorem ups_stR {hs : List Hst} {x : Hst} (h : x ∈ ups hs) : x.st = 1 := by simpa using (List.mem_filter.1 h).2
set_option maxRecDepth 100000 in
set_option maxHeartbeats 4000000 in
theorem ringOf_impl (A : Option Addr) (n c : Nat) (hs : List Hst) (w : World) (hn : hs.length = n) (hm : n ≤ 1048576) (h : Ints w A (flat hs)) :
    Calls Try.prog 15 #[.slice A n c] w (RetRow 28 2 w (ringP hs).length (flatP (ringP hs))) := by
  obtain ⟨i0, hi, iz0, iz1, iz2⟩ := info_parts point_info
  have hml : n ≤ maxLen := by unfold maxLen; omega
  have HN := Lib.hid hn
  have HH := Lib.hid h
  clear hn h
  cases hP : poolB hs
  · rw [ringP_no hP]
    go_enter Try.func15, Try.ntmps15
    go_wp2_with fail
    refine (poolValid_impl A n c hs _ HN.out hml HH.out).mono ?_
    rintro e w1 ⟨rfl, b1⟩
    rw [hP]
    go_wp2_with fail
    go_ret
    exact ⟨none, 0, rfl, Nat.le_refl _, Nat.zero_le _, World.ownsRow_nil _ _ _ _, b1⟩
  have HP := Lib.hid hP
  have hpl := pool_len hP
  have hul : (ups hs).length ≤ 6 := Nat.le_trans (ups_len hs) hpl
  have HWT := Lib.hid (fun x hx => wt_bd hP x (ups_mem (x := x) hx))
  obtain ⟨us, hus⟩ : ∃ us, ups hs = us := ⟨_, rfl⟩
  rw [hus] at hul HWT
  have HSR := Lib.hid (fun (out : List Pnt) (hp : out.Perm (ptsOf us)) => sorted_ring hP (by simpa [hus] using hp))
  have HST := Lib.hid (fun (x : Hst) (hx : x ∈ us) => ups_stR (x := x) (hs := hs) (by rw [hus]; exact hx))
  obtain ⟨nu, hnu⟩ : ∃ nu, us.length = nu := ⟨_, rfl⟩
  rw [hnu] at hul
  have HUS := Lib.hid hus
  have HNU := Lib.hid hnu
  clear hP hus hnu hpl
  go_enter Try.func15, Try.ntmps15
  go_wp2_with fail
  refine (poolValid_impl A n c hs _ HN.out hml HH.out).mono ?_
  rintro e w1 ⟨rfl, b1⟩
  rw [HP.out]
  go_wp2_with fail
  refine (up_any A n c hs _ HN.out (by omega) (HH.out.new b1)).mono ?_
  rintro e w3 ⟨A4, c4, rfl, lc4, cm4, o4, b3⟩
  rw [HUS.out] at lc4 o4 ⊢
  rw [HNU.out] at lc4 o4 ⊢
  have o4 := o4.less b1.le
  have hN3 := b1.trans b3
  clear b1 b3
  go_wp2_with fail
  go_loopw [3, 13] (fun v i wr => ∃ (k m : Nat) (A2 : Option Addr) (c1 : Nat), k ≤ nu ∧ i = .int .i64 k ∧ v = .slice A2 m c1 ∧ m ≤ 15 * k ∧ m ≤ c1 ∧ c1 ≤ maxLen ∧ Own 28 2 w.heap.size wr A2 m c1 (flatP (ptsOf (us.take k))) ∧ Own 64 3 w.heap.size wr A4 nu c4 (flat us) ∧ New w wr) (fun _ i _ => nu - (intOf i).toNat)
  case atStart => exact ⟨0, 0, none, 0, Nat.zero_le _, rfl, rfl, Nat.le_refl _, Nat.le_refl _, Nat.zero_le _, World.ownsRow_nil _ _ _ _, o4, hN3⟩
  case round =>
    clear o4 hN3
    obtain ⟨k, m, A2, c1, hk, rfl, rfl, hmk, hmc, hcm, ho, hp, hnew⟩ := hrel
    by_cases hlt : k < nu
    · have hki : (k : Int) < (nu : Int) := by omega
      obtain ⟨b, o, x, rfl, hx, hb, c0, c1', c2⟩ := hosts_at hp.ints (k := k) (by rw [HNU.out]; exact hlt)
      have hxw := HWT.out x (List.mem_of_getElem? hx)
      have hxs := HST.out x (List.mem_of_getElem? hx)
      have HX := Lib.hid (show ptsOf (us.take (k + 1)) = ptsOf (us.take k) ++ ptsH x.num (3 * x.wt.toNat) by rw [List.take_add_one, hx]; simp [ptsOf])
      obtain ⟨x0, x1, x2⟩ := x
      simp only at c0 c1' c2 hxw hxs HX
      subst hxs
      obtain ⟨y0, y1⟩ := hxw
      obtain ⟨W, rfl⟩ := Int.eq_ofNat_of_zero_le (show 0 ≤ x1 by omega)
      have hW : W ≤ 5 := by omega
      have hW0 : 0 < W := by omega
      clear hx
      have t5 := heap_alloc_new wr (.cells #[.int .i64 x0, .int .i64 (W : Int), .int .i64 1] 64)
      have bT := (New.refl wr).alloc (.cells #[.int .i64 x0, .int .i64 (W : Int), .int .i64 1] 64)
      have ho5 := ho.new bT
      have hp5 := hp.new bT
      have hn5 := hnew.trans bT
      clear ho hp hnew bT
      go_wp2_with fail
      clear c0 c1' c2
      generalize wr.alloc (.cells #[.int .i64 x0, .int .i64 (W : Int), .int .i64 1] 64) = w4 at *
      generalize wr.heap.size = g5 at *
      go_loopw [3, 20] (fun v i wr => ∃ (t m : Nat) (A2 : Option Addr) (c1 : Nat), t ≤ 3 * W ∧ i = .int .i64 t ∧ v = .slice A2 m c1 ∧ m ≤ 15 * k + t ∧ m ≤ c1 ∧ c1 ≤ maxLen ∧ Own 28 2 w.heap.size wr A2 m c1 (flatP (ptsOf (us.take k) ++ ptsH x0 t)) ∧ Own 64 3 w.heap.size wr (some ⟨b, o, none⟩) nu c4 (flat us) ∧ wr.heap[g5]? = some (.cells #[.int .i64 x0, .int .i64 (W : Int), .int .i64 1] 64 (0, 0)) ∧ New w wr) (fun _ i _ => 3 * W - (intOf i).toNat)
      case atStart => exact ⟨0, m, A2, c1, Nat.zero_le _, rfl, rfl, by omega, hmc, hcm, by simpa [ptsH] using ho5, hp5, t5, hn5⟩
      case round =>
        clear ho5 hp5 t5 hn5 hmc hcm hmk hb
        obtain ⟨t, m, A2, c1, ht, rfl, rfl, hmt, hmc, hcm, ho, hp, t5, hnew⟩ := hrel
        by_cases hlt2 : t < 3 * W
        · have hlt2i : (t : Int) < 3 * (W : Int) := by omega
          have HXP := Lib.hid (show flatP (ptsOf (us.take k) ++ ptsH x0 (t + 1)) = flatP (ptsOf (us.take k) ++ ptsH x0 t) ++ [mixZ [x0, (t : Int)], x0] by rw [ptsH_succ, ← List.append_assoc, flatP_append]; rfl)
          obtain ⟨C0, C1, C2⟩ := cellsT t5
          have hl5 := blk_lt t5
          go_wp2_with fail
          generalize wr = w2 at *
          obtain ⟨FF, hFF⟩ : ∃ FF, FF = factAt [pVal (.slice A2 m c1), pVal (.pointer (some ⟨g5, 0, none⟩)), pVal (.int .i64 x0), pVal (.int .i64 (t : Int)), pIL [x0, (t : Int)], pVal (.int .i64 (mixZ [x0, (t : Int)])), pVal (.pointer (some ⟨g5, 0, none⟩)), pVal (.int .i64 x0), pVal (.agg #[.int .i64 (mixZ [x0, (t : Int)]), .int .i64 x0]), pLitI [mixZ [x0, (t : Int)], x0]] := ⟨_, rfl⟩
          have HFF := Lib.hid hFF
          clear hFF
          refine wp_region_tail 10 (by kernel_rfl) (by kernel_rfl) (by kernel_rfl) (by decide) (LrI w2) FF (New) (by rw [HFF.out]; exact factAt_keptN (by
              intro P hP
              simp only [List.mem_cons, List.not_mem_nil, or_false] at hP
              rcases hP with rfl | rfl | rfl | rfl | rfl | rfl | rfl | rfl | rfl | rfl
              · exact keptN_val _
              · exact keptN_val _
              · exact keptN_val _
              · exact keptN_val _
              · exact keptN_il _
              · exact keptN_val _
              · exact keptN_val _
              · exact keptN_val _
              · exact keptN_val _
              · exact keptN_liti _
              )) (New.drew (New.refl _)) ?_ ?_
          · refine ⟨?_, ?_, ?_, ?_, ?_, ?_, ?_, ?_, ?_, ?_, trivial⟩
            · -- 0
              intro vs kq wq hI hF
              clear hF
              have hI : New w2 wq := hI
              simp only [fillTo, dstOf, List.getElem?_toArray, List.getElem?_cons_zero, List.getElem?_cons_succ, Option.bind_some, Act.put, List.setIfInBounds_toArray, List.set_cons_zero, List.set_cons_succ]
              have hcq := New.cells hI; have hzq := New.le hI
              go_wp2_with fail
              exact ⟨_, rfl, hI, New.refl _, by rw [HFF.out]; exact rfl⟩
            · -- 1
              intro vs kq wq hI hF
              clear hF
              have hI : New w2 wq := hI
              simp only [fillTo, dstOf, List.getElem?_toArray, List.getElem?_cons_zero, List.getElem?_cons_succ, Option.bind_some, Act.put, List.setIfInBounds_toArray, List.set_cons_zero, List.set_cons_succ]
              have hcq := New.cells hI; have hzq := New.le hI
              go_wp2_with fail
              exact ⟨_, rfl, hI, New.refl _, by rw [HFF.out]; exact rfl⟩
            · -- 2
              intro vs kq wq hI hF
              have f1 : pVal (.pointer (some ⟨g5, 0, none⟩)) (vs 1) wq := (by have h := hF 1 (by rfl); rw [HFF.out] at h; exact h)
              unfold pVal at f1
              clear hF
              have hI : New w2 wq := hI
              simp only [fillTo, dstOf, List.getElem?_toArray, List.getElem?_cons_zero, List.getElem?_cons_succ, Option.bind_some, Act.put, List.setIfInBounds_toArray, List.set_cons_zero, List.set_cons_succ, f1]
              clear f1
              have hcq := New.cells hI; have hzq := New.le hI
              go_wp2_with fail
              exact ⟨_, rfl, hI, New.refl _, by rw [HFF.out]; exact rfl⟩
            · -- 3
              intro vs kq wq hI hF
              clear hF
              have hI : New w2 wq := hI
              simp only [fillTo, dstOf, List.getElem?_toArray, List.getElem?_cons_zero, List.getElem?_cons_succ, Option.bind_some, Act.put, List.setIfInBounds_toArray, List.set_cons_zero, List.set_cons_succ]
              have hcq := New.cells hI; have hzq := New.le hI
              go_wp2_with fail
              exact ⟨_, rfl, hI, New.refl _, by rw [HFF.out]; exact rfl⟩
            · -- 4
              intro vs kq wq hI hF
              have f2 : pVal (.int .i64 x0) (vs 2) wq := (by have h := hF 2 (by rfl); rw [HFF.out] at h; exact h)
              unfold pVal at f2
              have f3 : pVal (.int .i64 (t : Int)) (vs 3) wq := (by have h := hF 3 (by rfl); rw [HFF.out] at h; exact h)
              unfold pVal at f3
              clear hF
              have hI : New w2 wq := hI
              simp only [fillTo, dstOf, List.getElem?_toArray, List.getElem?_cons_zero, List.getElem?_cons_succ, Option.bind_some, Act.put, List.setIfInBounds_toArray, List.set_cons_zero, List.set_cons_succ, f2, f3]
              clear f2 f3
              go_wp2_with fail
              exact ⟨_, rfl, New.trans hI ((New.refl _).alloc _), (New.refl _).alloc _, by rw [HFF.out]; exact ⟨_, rfl, Ints.lit _ _ [x0, (t : Int)] _ rfl⟩⟩
            · -- 5
              intro vs kq wq hI hF
              have f4 : pIL [x0, (t : Int)] (vs 4) wq := (by have h := hF 4 (by rfl); rw [HFF.out] at h; exact h)
              clear hF
              have hI : New w2 wq := hI
              obtain ⟨gl, e4, i4⟩ := f4
              simp only [fillTo, dstOf, List.getElem?_toArray, List.getElem?_cons_zero, List.getElem?_cons_succ, Option.bind_some, Act.put, List.setIfInBounds_toArray, List.set_cons_zero, List.set_cons_succ, e4]
              clear e4
              go_wp2_with fail
              refine (mix_any _ 2 2 [x0, (t : Int)] _ rfl (by unfold maxLen; omega) i4).mono ?_
              rintro e w' ⟨rfl, rfl⟩
              go_wp2_with fail
              exact ⟨_, rfl, hI, New.refl _, by rw [HFF.out]; exact rfl⟩
            · -- 6
              intro vs kq wq hI hF
              clear hF
              have hI : New w2 wq := hI
              simp only [fillTo, dstOf, List.getElem?_toArray, List.getElem?_cons_zero, List.getElem?_cons_succ, Option.bind_some, Act.put, List.setIfInBounds_toArray, List.set_cons_zero, List.set_cons_succ]
              have hcq := New.cells hI; have hzq := New.le hI
              go_wp2_with fail
              exact ⟨_, rfl, hI, New.refl _, by rw [HFF.out]; exact rfl⟩
            · -- 7
              intro vs kq wq hI hF
              have f6 : pVal (.pointer (some ⟨g5, 0, none⟩)) (vs 6) wq := (by have h := hF 6 (by rfl); rw [HFF.out] at h; exact h)
              unfold pVal at f6
              clear hF
              have hI : New w2 wq := hI
              simp only [fillTo, dstOf, List.getElem?_toArray, List.getElem?_cons_zero, List.getElem?_cons_succ, Option.bind_some, Act.put, List.setIfInBounds_toArray, List.set_cons_zero, List.set_cons_succ, f6]
              clear f6
              have hcq := New.cells hI; have hzq := New.le hI
              go_wp2_with fail
              exact ⟨_, rfl, hI, New.refl _, by rw [HFF.out]; exact rfl⟩
            · -- 8
              intro vs kq wq hI hF
              have f5 : pVal (.int .i64 (mixZ [x0, (t : Int)])) (vs 5) wq := (by have h := hF 5 (by rfl); rw [HFF.out] at h; exact h)
              unfold pVal at f5
              have f7 : pVal (.int .i64 x0) (vs 7) wq := (by have h := hF 7 (by rfl); rw [HFF.out] at h; exact h)
              unfold pVal at f7
              clear hF
              have hI : New w2 wq := hI
              simp only [fillTo, dstOf, List.getElem?_toArray, List.getElem?_cons_zero, List.getElem?_cons_succ, Option.bind_some, Act.put, List.setIfInBounds_toArray, List.set_cons_zero, List.set_cons_succ, f5, f7]
              clear f5 f7
              have hcq := New.cells hI; have hzq := New.le hI
              go_wp2_with fail
              exact ⟨_, rfl, hI, New.refl _, by rw [HFF.out]; exact rfl⟩
            · -- 9
              intro vs kq wq hI hF
              have f8 : pVal (.agg #[.int .i64 (mixZ [x0, (t : Int)]), .int .i64 x0]) (vs 8) wq := (by have h := hF 8 (by rfl); rw [HFF.out] at h; exact h)
              unfold pVal at f8
              clear hF
              have hI : New w2 wq := hI
              simp only [fillTo, dstOf, List.getElem?_toArray, List.getElem?_cons_zero, List.getElem?_cons_succ, Option.bind_some, Act.put, List.setIfInBounds_toArray, List.set_cons_zero, List.set_cons_succ, f8]
              clear f8
              go_wp2_with fail
              exact ⟨_, rfl, New.trans hI ((New.refl _).alloc _), (New.refl _).alloc _, by rw [HFF.out]; exact ⟨_, rfl, Ints.lit _ _ [mixZ [x0, (t : Int)], x0] _ rfl⟩⟩
          · intro vs kq wq hI hF
            have f0 : pVal (.slice A2 m c1) (vs 0) wq := (by have h := hF 0 (by omega); rw [HFF.out] at h; exact h)
            unfold pVal at f0
            have f9 : pLitI [mixZ [x0, (t : Int)], x0] (vs 9) wq := (by have h := hF 9 (by omega); rw [HFF.out] at h; exact h)
            clear hF HFF FF
            have hI : New w2 wq := hI
            obtain ⟨gl, e9, i9⟩ := f9
            have HO := Lib.hid (ho.new hI)
            have HB := Lib.hid (hnew.trans hI)
            have HI9 := Lib.hid i9
            have hp9 := hp.new hI
            have t59 := blk_new t5 hI
            clear ho hnew i9 hI hp t5 C0 C1 C2
            simp only [fillTo, dstOf, List.getElem?_toArray, List.getElem?_cons_zero, List.getElem?_cons_succ, Option.bind_some, Act.put, List.setIfInBounds_toArray, List.set_cons_zero, List.set_cons_succ, f0, e9, List.drop_succ_cons, List.drop_zero, List.drop_nil]
            clear f0 e9
            go_wp2_with (at_builtin; refine wpList_append_Own _ rfl (.tmp 23) (.tmp 32) 25 rfl w 28 i0 _ 2 16 Try.underlying25 hi iz0 iz1 iz2 rfl (by omega) (by omega) A2 m c1 _ rfl HO.out _ 1 1 [mixZ [x0, (t : Int)], x0] rfl rfl HI9.out (by omega) (by omega) HB.out ?_; intro A3 c3 w9 h1 h2 o9 n9 g9)
            have hp10 := hp9.otherT host_ne_point HO.out g9
            have t510 := blk_apart host_ne_point t59 HO.out g9
            go_roundw
            case rel => exact ⟨t + 1, m + 1, A3, c3, by omega, by go_num, rfl, by omega, h1, h2, by rw [HXP.out]; exact o9, hp10, t510, n9⟩
            case measure => simp [intOf]; omega
        · obtain rfl : t = 3 * W := by omega
          go_wp2_with fail
          go_roundw
          case rel => exact ⟨k + 1, m, A2, c1, by omega, by go_num, rfl, by omega, hmc, hcm, by rw [HX.out]; exact ho, hp, hnew⟩
          case measure => simp [intOf]; omega
    · obtain rfl : k = nu := by omega
      have htk : us.take k = us := List.take_of_length_le (Nat.le_of_eq HNU.out)
      rw [htk] at ho
      obtain ⟨out, hout⟩ : ∃ out, ptsOf us = out := ⟨_, rfl⟩
      rw [hout] at ho
      have hSort := HSR.out out (by rw [hout])
      have holen : out.length = m := by have := ho.len; rw [flatP_len] at this; omega
      have hRl : (ringP hs).length = m := by rw [← hSort, (List.mergeSort_perm _ _).length_eq, holen]
      have hSort2 := Lib.hid hSort
      have HRL := Lib.hid hRl
      clear hSort hRl htk
      by_cases hm0 : m = 0
      · subst hm0
        have hR0 : ringP hs = [] := List.eq_nil_of_length_eq_zero HRL.out
        have hO0 : out = [] := List.eq_nil_of_length_eq_zero holen
        subst hO0
        have hcon := fun W' => AnyF.slices_SortFunc_none (P := Try.prog) (ρ := sortPts_ren) { sortPts with } A2 c1 (.func (.func 65) #[] #[]) W'
        change ∀ W', Calls Try.prog 64 _ _ _ at hcon
        go_wp2_with fail
        refine (hcon _).mono ?_
        rintro e w9 ⟨rfl, rfl⟩
        go_wp2_with fail
        go_ret
        rw [hR0]
        exact ⟨A2, c1, rfl, hmc, hcm, ho, hnew⟩
      · obtain ⟨G, rfl⟩ : ∃ G, A2 = some ⟨G, 0, none⟩ := by
          rcases ho.2 with ⟨_, h0⟩ | ⟨g, cap, cur, hv, _⟩
          · exact absurd h0 hm0
          · injection hv with h1
            exact ⟨g, h1⟩
        have hG := Own.blk_ltP ho
        have eg : ∀ args w, (callFunc 65 args).run Try.prog w = .ok (.enter 65 args) w := enters_of Try.func65 (by kernel_rfl) rfl
        have hcon := AnyQ.slices_SortFunc_total sortPts 2 Try.isAgg28 Try.sizeOf28 encP (fun _ => rfl) (fun x v hv => by simp [encP] at hv; rcases hv with rfl | rfl <;> rfl) cfP swoP 65 #[] G 0 c1 out.toArray wr eg (cmpLays_any G 0 out.toArray.size wr) (holds_own ho holen) hG.1 (by simp [holen]; omega) cfP_total
        change Calls Try.prog 64 _ _ _ at hcon
        simp only [hSort2.out, List.size_toArray, holen] at hcon
        have HF := Lib.hid (fun n os => sort_own ho HRL.out n os)
        have hge := hG.2
        clear ho hp eg
        go_wp2_with fail
        refine hcon.mono ?_
        rintro e w9 ⟨rfl, n9, os9, rfl⟩
        obtain ⟨o9, g9⟩ := HF.out n9 os9
        have hn9 := hnew.grown g9 (fun k hk => by cases hk; exact hge)
        clear hcon HF
        generalize sortWorldK encP 2 wr G 0 n9 (ringP hs).toArray os9 = w9 at *
        go_wp2_with fail
        go_ret
        rw [HRL.out]
        exact ⟨_, c1, rfl, hmc, hcm, o9, hn9⟩
end Go.Proofs.Ytbnehcaallehbaa
