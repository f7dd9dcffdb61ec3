/- Draws of tables of slots; the laws FnSlotHost, FnMovedSlots. -/
import Derived.Test.YtbnehcaallehbaaSlotS
import Derived.Test.YtbnehcaallehbaaSetS
import Derived.Test.YtbnehcaallehbaaDrawK
import Derived.Test.YtbnehcaallehbaaDrawN
import Derived.Test.YtbnehcaallehbaaInts
import Derived.Test.YtbnehcaallehbaaFlow
namespace Go.Proofs.Ytbnehcaallehbaa
set_option linter.unusedVariables false
set_option linter.unusedSimpArgs false
open Go.RowKit Go.Sort

theorem slotZ_again {zs : List Int} {key : Int} (hk : 0 ≤ key) : slotZ zs (key + zs.length) = slotZ zs key := by
  unfold slotZ
  rcases Nat.eq_zero_or_pos zs.length with h | h
  · simp [h]
  · rw [if_neg (by omega), if_neg (by omega), Int.add_emod_right]
theorem slotZ_mem {zs : List Int} {key : Int} (h : 0 < zs.length) (hk : 0 ≤ key) : slotZ zs key ∈ zs := by
  unfold slotZ
  rw [if_neg (by omega)]
  have h1 := Int.emod_nonneg key (show (zs.length : Int) ≠ 0 by omega)
  have h2 := Int.emod_lt_of_pos key (show (0 : Int) < zs.length by omega)
  have hlt : (key % (zs.length : Int)).toNat < zs.length := by omega
  rw [List.getD_eq_getElem?_getD, List.getElem?_eq_getElem hlt]
  exact List.getElem_mem hlt
theorem movedTo_comm (xs ys : List Int) : ∀ k, movedTo xs ys k = movedTo ys xs k
  | 0 => rfl
  | k + 1 => by
    unfold movedTo
    rw [movedTo_comm xs ys k]
    by_cases h : xs.getD k 0 = ys.getD k 0
    · rw [if_pos h, if_pos h.symm]
    · rw [if_neg h, if_neg (fun e => h e.symm)]
theorem movedZ_comm (xs ys : List Int) : movedZ ys xs = movedZ xs ys := by
  unfold movedZ
  by_cases h : xs.length = ys.length
  · rw [if_pos h, if_pos h.symm, movedTo_comm ys xs, h]
  · rw [if_neg h, if_neg (fun e => h e.symm)]
theorem movedZ_self (xs : List Int) : movedZ xs xs = 0 := by
  have : ∀ k, movedTo xs xs k = 0 := by
    intro k
    induction k with
    | zero => rfl
    | succ k ih => unfold movedTo; rw [ih, if_pos rfl]
  simp [movedZ, this]
theorem movedZ_le (xs ys : List Int) : -1 ≤ movedZ xs ys ∧ movedZ xs ys ≤ xs.length := by
  unfold movedZ
  have := movedTo_le xs ys xs.length
  split <;> omega
/-- A drawn table of slots and a key. -/
def SlotDrawn (w : World) (e : Ending) (w' : World) : Prop :=
  ∃ A' c', ∃ zs : List Int, ∃ z : Int, e = .returned (.tuple #[.slice A' zs.length c', .int .i64 z]) ∧ zs.length ≤ 31 ∧ -1 ≤ z ∧ z ≤ 1000003 ∧ Ints w' A' zs ∧ New w w'
theorem DrawSlotHost_any (A : Option Addr) (n c : Nat) (zs : List Int) (w : World) (h : CodeArg w A n c zs) : Calls Try.prog 33 #[.slice A n c] w (SlotDrawn w) := by
  go_enter Try.func33, Try.ntmps33
  go_wp2_with fail
  refine (open_code h).mono ?_
  rintro e w1 ⟨rfl, h1, b1⟩
  have hlt1 := h1.lt
  go_wp2_with fail
  refine (l20Pool_any _ A _ c _ 0 0 _ h1 (by omega) (by omega) (by omega)).mono ?_
  rintro e w2 ⟨A', c', q, hs, rfl, l7, lc, cm, o2, q0, q1, h2, g2⟩
  have hN : New w w2 := new_gb b1 g2 (by omega)
  obtain ⟨m, hm⟩ : ∃ m, hs.length = m := ⟨_, rfl⟩
  rw [hm] at l7 lc o2 ⊢
  have HM := Lib.hid hm
  clear hm
  go_wp2_with fail
  refine (slotTable_spec A' m c' hs _ HM.out (by omega) o2.ints).mono ?_
  rintro e w3 ⟨A3, c3, rfl, lc3, cm3, o3, b3⟩
  have h3 := h2.new b3
  have hs2 := g2.size
  have h31 := stabZ_len hs
  obtain ⟨xs, hxs⟩ : ∃ xs, stabZ hs = xs := ⟨_, rfl⟩
  rw [hxs] at lc3 o3 h31 ⊢
  clear hxs
  obtain ⟨L, hL⟩ : ∃ L, xs.length = L := ⟨_, rfl⟩
  rw [hL] at lc3 o3 h31 ⊢
  have HL := Lib.hid hL
  clear hL
  go_wp2_with fail
  refine (l20Key_any _ A _ c _ q 9 _ h3 (by omega) (by omega) (by omega)).mono ?_
  rintro e w4 ⟨v, q4, rfl, ⟨z, rfl, z0, z1⟩, _, _, _, g4⟩
  have o4 := o3.gb g4 (by omega)
  have hN4 : New w w4 := new_gb (hN.trans b3) g4 (by omega)
  go_wp2_with fail
  go_ret2
  exact ⟨A3, c3, xs, z, by rw [HL.out]; rfl, by rw [HL.out]; exact h31, z0, z1, o4.ints, hN4⟩
set_option maxRecDepth 100000 in
set_option maxHeartbeats 2000000 in
theorem walk_FnSlotHost (A : Option Addr) (n c : Nat) (zs : List Int) (w : World) (H : ArgInts .u8 w A n c 1 zs) :
    Calls Try.prog 7 #[.slice A n c] w fun e w' => e = .returned (.bool true) ∧ New w w' := by
  have hc := CodeArg.of H
  have hm := hc.2.1
  unfold maxLen at hm
  clear H
  by_cases hbig : 1048576 < n
  · go_enter Try.func7, Try.ntmps7
    go_wp2_with fail
    go_ret
    exact ⟨rfl, (by repeat (first | with_reducible assumption | with_reducible exact New.refl _ | with_reducible refine New.alloc ?_ _ | with_reducible refine New.drew ?_ | with_reducible refine New.drewN ?_ _ | refine New.setCell ?_ (by first | (simp; done) | omega | (simp; omega)) _ | with_reducible refine New.trans ?_ (by with_reducible assumption)))⟩
  go_enter Try.func7, Try.ntmps7
  go_wp2_with fail
  refine (DrawSlotHost_any A n c zs _ hc).mono ?_
  rintro e w1 ⟨A1, c1, xs, key, rfl, h31, k0, k1, hI, b1⟩
  obtain ⟨L, hL⟩ : ∃ L, xs.length = L := ⟨_, rfl⟩
  rw [hL] at h31 ⊢
  have HL := Lib.hid hL
  have HI := Lib.hid hI
  have hml : L ≤ maxLen := by unfold maxLen; omega
  obtain ⟨Z, hZ⟩ : ∃ Z, slotZ xs key = Z := ⟨_, rfl⟩
  have HZ := Lib.hid hZ
  clear hI hc
  by_cases hno : L = 0 ∨ key < 0
  · obtain rfl : Z = -1 := by rw [← hZ]; unfold slotZ; rw [if_pos (by rw [hL]; exact hno)]
    clear hZ hL
    rcases Decidable.em (L = 0) with h0 | h0
    · subst h0
      go_wp2_with fail
      refine (slotHost_impl A1 0 c1 xs key _ HL.out hml HI.out).mono ?_
      rintro e w' ⟨rfl, rfl⟩
      rw [HZ.out]
      go_wp2_with fail
      refine (slotHost_spec A1 0 c1 xs key _ HL.out hml HI.out).mono ?_
      rintro e w' ⟨rfl, rfl⟩
      rw [HZ.out]
      go_wp2_with fail
      refine (alive_any _).mono ?_
      rintro e w4 ⟨rfl, b4⟩
      go_wp2_with fail
      go_ret
      exact ⟨rfl, b1.trans b4⟩
    · have hk : key < 0 := by omega
      have hkd : decide (key < 0) = true := by simpa using hk
      have hL0 : ((L : Int) == 0) = false := by simp; omega
      go_wp2_with fail
      refine (slotHost_impl A1 L c1 xs key _ HL.out hml HI.out).mono ?_
      rintro e w' ⟨rfl, rfl⟩
      rw [HZ.out]
      go_wp2_with fail
      refine (slotHost_spec A1 L c1 xs key _ HL.out hml HI.out).mono ?_
      rintro e w' ⟨rfl, rfl⟩
      rw [HZ.out]
      go_wp2_with fail
      refine (alive_any _).mono ?_
      rintro e w4 ⟨rfl, b4⟩
      go_wp2_with fail
      go_ret
      exact ⟨rfl, b1.trans b4⟩
  · have hL0 : ((L : Int) == 0) = false := by simp; omega
    have hkd : decide (key < 0) = false := by simp; omega
    have hkn : 0 ≤ key := by omega
    have HAG := Lib.hid (show slotZ xs (key + (L : Int)) = Z by rw [← hL, slotZ_again hkn, hZ])
    have hcp : 0 < xs.count Z := by rw [← hZ]; exact List.count_pos_iff.2 (slotZ_mem (by omega) hkn)
    obtain ⟨C, hC⟩ : ∃ C, xs.count Z = C := ⟨_, rfl⟩
    rw [hC] at hcp
    have HC := Lib.hid hC
    have hcpi : decide ((0 : Int) < (C : Int)) = true := by simpa using hcp
    clear hZ hL hC
    go_wp2_with fail
    refine (slotHost_impl A1 L c1 xs key _ HL.out hml HI.out).mono ?_
    rintro e w' ⟨rfl, rfl⟩
    rw [HZ.out]
    go_wp2_with fail
    refine (slotHost_spec A1 L c1 xs key _ HL.out hml HI.out).mono ?_
    rintro e w' ⟨rfl, rfl⟩
    rw [HZ.out]
    go_wp2_with fail
    refine (slotHost_impl A1 L c1 xs (key + (L : Int)) _ HL.out hml HI.out).mono ?_
    rintro e w' ⟨rfl, rfl⟩
    rw [HAG.out]
    go_wp2_with fail
    refine (countOf_impl A1 L c1 xs Z _ HL.out hml HI.out).mono ?_
    rintro e w' ⟨rfl, rfl⟩
    rw [HC.out]
    go_wp2_with fail
    go_ret
    exact ⟨rfl, b1⟩
/-- Two drawn tables of slots. -/
def SlotsDrawn (w : World) (e : Ending) (w' : World) : Prop :=
  ∃ A' c' A'' c'', ∃ xs ys : List Int, e = .returned (.tuple #[.slice A' xs.length c', .slice A'' ys.length c'']) ∧ xs.length ≤ 31 ∧ ys.length ≤ 31 ∧ Ints w' A' xs ∧ Ints w' A'' ys ∧ New w w'
theorem tables_end {w wk : World} (A1 : Option Addr) (m1 c1 : Nat) (hs1 : List Hst) (A2 : Option Addr) (m2 c2 : Nat) (hs2 : List Hst) (h1 : hs1.length = m1) (h2 : hs2.length = m2) (l1 : m1 ≤ 1048576) (l2 : m2 ≤ 1048576) (i1 : Ints wk A1 (flat hs1)) (i2 : Ints wk A2 (flat hs2)) (hN : New w wk) :
    Calls Try.prog 43 #[.slice A1 m1 c1] wk fun e w' => ∃ A3 c3, ∃ xs : List Int, e = .returned (.slice A3 xs.length c3) ∧ xs.length ≤ 31 ∧ Ints w' A3 xs ∧ Ints w' A2 (flat hs2) ∧ New w w' :=
  (slotTable_spec A1 m1 c1 hs1 wk h1 l1 i1).mono fun _ _ ⟨A3, c3, he, _, _, o3, b3⟩ => ⟨A3, c3, stabZ hs1, he, stabZ_len hs1, o3.ints, i2.new b3, hN.trans b3⟩
set_option maxRecDepth 100000 in
theorem DrawMovedSlots_any (A : Option Addr) (n c : Nat) (zs : List Int) (w : World) (h : CodeArg w A n c zs) : Calls Try.prog 37 #[.slice A n c] w (SlotsDrawn w) := by
  go_enter Try.func37, Try.ntmps37
  go_wp2_with fail
  refine (open_code h).mono ?_
  rintro e w1 ⟨rfl, h1, b1⟩
  have hlt1 := h1.lt
  go_wp2_with fail
  refine (l20Pool_any _ A _ c _ 0 0 _ h1 (by omega) (by omega) (by omega)).mono ?_
  rintro e w2 ⟨A', c', q, hs, rfl, l7, lc, cm, o2, q0, q1, h2, g2⟩
  have hN : New w w2 := new_gb b1 g2 (by omega)
  obtain ⟨m, hm⟩ : ∃ m, hs.length = m := ⟨_, rfl⟩
  rw [hm] at l7 lc o2 ⊢
  have HM := Lib.hid hm
  clear hm
  have HNE := Lib.hid (show ∀ g, A' = some ⟨g, 0, none⟩ → g ≠ w.heap.size from fun g hg => by
    subst hg
    have := o2.blkGe
    omega)
  have hs2 := g2.size
  go_wp2_with fail
  refine (l20Number_any _ A _ c _ q A' m c' hs _ h2 (by omega) HM.out l7 o2.ints HNE.out o2.plain).mono ?_
  rintro e w3 ⟨v, q3, rfl, ⟨z, rfl, _⟩, _, _, h3, g3⟩
  have o3 := o2.gb g3 hlt1
  have hN3 : New w w3 := new_gb hN g3 (by omega)
  have hs3 := g3.size
  go_wp2_with fail
  refine (pick_any _ A _ c _ q3 3 _ h3 (by omega) (by omega)).mono ?_
  rintro e w4 ⟨x, rfl, x0, x1, h4, g4⟩
  have o4 := o3.gb g4 hlt1
  have hN4 : New w w4 := new_gb hN3 g4 (by omega)
  have hs4 := g4.size
  clear o2 o3 h1 h2 h3 g2 g3 g4 hN hN3 b1
  go_wp2_with fail
  refine (setState_spec A' m c' hs z x _ HM.out (by omega) o4.ints).mono ?_
  rintro e w5 ⟨A5, c5, rfl, lc5, cm5, o5, b5⟩
  have hI5 := o4.ints.new b5
  have hN5 := hN4.trans b5
  have hl5 := setH_len hs z x
  have h5 := h4.new b5
  have ob := o4.new b5
  obtain ⟨X, hX⟩ : ∃ X, setH hs z x = X := ⟨_, rfl⟩
  rw [hX] at lc5 o5 hl5 ⊢
  obtain ⟨L, hL⟩ : ∃ L, X.length = L := ⟨_, rfl⟩
  rw [hL] at lc5 o5 hl5 ⊢
  have HL := Lib.hid hL
  have hs5 := b5.le
  clear hX hL o4 hN4 h4 b5
  cases hok : okS hs z x
  · go_wp2_with fail
    refine (l20Pool_any _ A _ c _ _ 0 _ h5 (by omega) (by omega) (by omega)).mono ?_
    rintro e w6 ⟨A6, c6, q6, hs6, rfl, l76, lc6, cm6, o6, _, _, _, g6⟩
    have ob6 := ob.gb g6 hlt1
    have hN6 : New w w6 := new_gb hN5 g6 (Nat.le_refl _)
    obtain ⟨M, hM⟩ : ∃ M, hs6.length = M := ⟨_, rfl⟩
    rw [hM] at l76 o6 ⊢
    have HM6 := Lib.hid hM
    clear hM ob g6 hI5 h5 o5
    go_wp2_with fail
    refine (tables_end A' m c' hs A6 M c6 hs6 HM.out HM6.out (by omega) (by omega) ob6.ints o6.ints hN6).mono ?_
    rintro e w7 ⟨A7, c7, xs, rfl, l7x, i7, i67, hN7⟩
    obtain ⟨K, hK⟩ : ∃ K, xs.length = K := ⟨_, rfl⟩
    rw [hK] at l7x ⊢
    have HK := Lib.hid hK
    clear hK
    go_wp2_with fail
    refine (slotTable_spec A6 M c6 hs6 _ HM6.out (by omega) i67).mono ?_
    rintro e w8 ⟨A8, c8, rfl, _, _, o8, b8⟩
    have h8l := stabZ_len hs6
    obtain ⟨ys, hys⟩ : ∃ ys, stabZ hs6 = ys := ⟨_, rfl⟩
    rw [hys] at o8 h8l ⊢
    obtain ⟨J, hJ⟩ : ∃ J, ys.length = J := ⟨_, rfl⟩
    rw [hJ] at o8 h8l ⊢
    have HJ := Lib.hid hJ
    clear hJ hys
    go_wp2_with fail
    go_ret2
    exact ⟨A7, c7, A8, c8, xs, ys, by rw [HK.out, HJ.out]; rfl, by rw [HK.out]; exact l7x, by rw [HJ.out]; exact h8l, i7.new b8, o8.ints, hN7.trans b8⟩
  · clear ob h5
    go_wp2_with fail
    refine (tables_end A' m c' hs A5 L c5 X HM.out HL.out (by omega) (by omega) hI5 o5.ints hN5).mono ?_
    rintro e w7 ⟨A7, c7, xs, rfl, l7x, i7, i67, hN7⟩
    obtain ⟨K, hK⟩ : ∃ K, xs.length = K := ⟨_, rfl⟩
    rw [hK] at l7x ⊢
    have HK := Lib.hid hK
    clear hK
    go_wp2_with fail
    refine (slotTable_spec A5 L c5 X _ HL.out (by omega) i67).mono ?_
    rintro e w8 ⟨A8, c8, rfl, _, _, o8, b8⟩
    have h8l := stabZ_len X
    obtain ⟨ys, hys⟩ : ∃ ys, stabZ X = ys := ⟨_, rfl⟩
    rw [hys] at o8 h8l ⊢
    obtain ⟨J, hJ⟩ : ∃ J, ys.length = J := ⟨_, rfl⟩
    rw [hJ] at o8 h8l ⊢
    have HJ := Lib.hid hJ
    clear hJ hys
    go_wp2_with fail
    go_ret2
    exact ⟨A7, c7, A8, c8, xs, ys, by rw [HK.out, HJ.out]; rfl, by rw [HK.out]; exact l7x, by rw [HJ.out]; exact h8l, i7.new b8, o8.ints, hN7.trans b8⟩
set_option maxRecDepth 100000 in
set_option maxHeartbeats 2000000 in
theorem walk_FnMovedSlots (A : Option Addr) (n c : Nat) (zs : List Int) (w : World) (H : ArgInts .u8 w A n c 1 zs) :
    Calls Try.prog 8 #[.slice A n c] w fun e w' => e = .returned (.bool true) ∧ New w w' := by
  have hc := CodeArg.of H
  have hm := hc.2.1
  unfold maxLen at hm
  clear H
  by_cases hbig : 1048576 < n
  · go_enter Try.func8, Try.ntmps8
    go_wp2_with fail
    go_ret
    exact ⟨rfl, (by repeat (first | with_reducible assumption | with_reducible exact New.refl _ | with_reducible refine New.alloc ?_ _ | with_reducible refine New.drew ?_ | with_reducible refine New.drewN ?_ _ | refine New.setCell ?_ (by first | (simp; done) | omega | (simp; omega)) _ | with_reducible refine New.trans ?_ (by with_reducible assumption)))⟩
  go_enter Try.func8, Try.ntmps8
  go_wp2_with fail
  refine (DrawMovedSlots_any A n c zs _ hc).mono ?_
  rintro e w1 ⟨A1, c1, A2, c2, xs, ys, rfl, lx, ly, hI, hJ, b1⟩
  obtain ⟨L, hL⟩ : ∃ L, xs.length = L := ⟨_, rfl⟩
  obtain ⟨K, hK⟩ : ∃ K, ys.length = K := ⟨_, rfl⟩
  rw [hL] at lx ⊢
  rw [hK] at ly ⊢
  have HL := Lib.hid hL
  have HK := Lib.hid hK
  have HI := Lib.hid hI
  have HJ := Lib.hid hJ
  have hml : L ≤ maxLen := by unfold maxLen; omega
  have hmk : K ≤ maxLen := by unfold maxLen; omega
  obtain ⟨Z, hZ⟩ : ∃ Z, movedZ xs ys = Z := ⟨_, rfl⟩
  have HZ := Lib.hid hZ
  have HZ2 := Lib.hid (show movedZ ys xs = Z by rw [movedZ_comm, hZ])
  have HS := Lib.hid (movedZ_self xs)
  have hb := movedZ_le xs ys
  rw [hZ, hL] at hb
  obtain ⟨hb0, hb1⟩ := hb
  have hbd : decide (Z ≤ (L : Int)) = true := by simpa using hb1
  clear hI hJ hc hZ hL hK
  go_wp2_with fail
  refine (movedSlots_impl A1 A2 L c1 K c2 xs ys _ HL.out HK.out hml hmk HI.out HJ.out).mono ?_
  rintro e w2 ⟨rfl, b2⟩
  rw [HZ.out]
  have hc2 := New.cells b2; have hf2 := New.marks b2; have hz2 := New.le b2; try simp only [World.size_alloc, World.size_setCell] at hz2
  try have z2_0_0 : w.heap.size < w2.heap.size := by omega
  try have z2_0_1 : w.heap.size + 1 < w2.heap.size := by omega
  try have z2_0_2 : w.heap.size + 2 < w2.heap.size := by omega
  try have z2_1_0 : w1.heap.size < w2.heap.size := by omega
  try have z2_1_1 : w1.heap.size + 1 < w2.heap.size := by omega
  try have z2_1_2 : w1.heap.size + 2 < w2.heap.size := by omega
  go_wp2_with fail
  refine (movedSlots_spec A1 A2 L c1 K c2 xs ys _ HL.out HK.out hml hmk (HI.out.new (by repeat (first | with_reducible assumption | with_reducible exact New.refl _ | with_reducible refine New.alloc ?_ _ | with_reducible refine New.drew ?_ | with_reducible refine New.drewN ?_ _ | refine New.setCell ?_ (by first | (simp; done) | omega | (simp; omega)) _ | with_reducible refine New.trans ?_ (by with_reducible assumption)))) (HJ.out.new (by repeat (first | with_reducible assumption | with_reducible exact New.refl _ | with_reducible refine New.alloc ?_ _ | with_reducible refine New.drew ?_ | with_reducible refine New.drewN ?_ _ | refine New.setCell ?_ (by first | (simp; done) | omega | (simp; omega)) _ | with_reducible refine New.trans ?_ (by with_reducible assumption))))).mono ?_
  rintro e w3 ⟨rfl, b3⟩
  rw [HZ.out]
  have hc3 := New.cells b3; have hf3 := New.marks b3; have hz3 := New.le b3; try simp only [World.size_alloc, World.size_setCell] at hz3
  try have z3_0_0 : w.heap.size < w3.heap.size := by omega
  try have z3_0_1 : w.heap.size + 1 < w3.heap.size := by omega
  try have z3_0_2 : w.heap.size + 2 < w3.heap.size := by omega
  try have z3_1_0 : w1.heap.size < w3.heap.size := by omega
  try have z3_1_1 : w1.heap.size + 1 < w3.heap.size := by omega
  try have z3_1_2 : w1.heap.size + 2 < w3.heap.size := by omega
  try have z3_2_0 : w2.heap.size < w3.heap.size := by omega
  try have z3_2_1 : w2.heap.size + 1 < w3.heap.size := by omega
  try have z3_2_2 : w2.heap.size + 2 < w3.heap.size := by omega
  go_wp2_with fail
  refine (movedSlots_impl A2 A1 K c2 L c1 ys xs _ HK.out HL.out hmk hml (HJ.out.new (by repeat (first | with_reducible assumption | with_reducible exact New.refl _ | with_reducible refine New.alloc ?_ _ | with_reducible refine New.drew ?_ | with_reducible refine New.drewN ?_ _ | refine New.setCell ?_ (by first | (simp; done) | omega | (simp; omega)) _ | with_reducible refine New.trans ?_ (by with_reducible assumption)))) (HI.out.new (by repeat (first | with_reducible assumption | with_reducible exact New.refl _ | with_reducible refine New.alloc ?_ _ | with_reducible refine New.drew ?_ | with_reducible refine New.drewN ?_ _ | refine New.setCell ?_ (by first | (simp; done) | omega | (simp; omega)) _ | with_reducible refine New.trans ?_ (by with_reducible assumption))))).mono ?_
  rintro e w4 ⟨rfl, b4⟩
  rw [HZ2.out]
  have hc4 := New.cells b4; have hf4 := New.marks b4; have hz4 := New.le b4; try simp only [World.size_alloc, World.size_setCell] at hz4
  try have z4_0_0 : w.heap.size < w4.heap.size := by omega
  try have z4_0_1 : w.heap.size + 1 < w4.heap.size := by omega
  try have z4_0_2 : w.heap.size + 2 < w4.heap.size := by omega
  try have z4_1_0 : w1.heap.size < w4.heap.size := by omega
  try have z4_1_1 : w1.heap.size + 1 < w4.heap.size := by omega
  try have z4_1_2 : w1.heap.size + 2 < w4.heap.size := by omega
  try have z4_2_0 : w2.heap.size < w4.heap.size := by omega
  try have z4_2_1 : w2.heap.size + 1 < w4.heap.size := by omega
  try have z4_2_2 : w2.heap.size + 2 < w4.heap.size := by omega
  try have z4_3_0 : w3.heap.size < w4.heap.size := by omega
  try have z4_3_1 : w3.heap.size + 1 < w4.heap.size := by omega
  try have z4_3_2 : w3.heap.size + 2 < w4.heap.size := by omega
  go_wp2_with fail
  refine (movedSlots_impl A1 A1 L c1 L c1 xs xs _ HL.out HL.out hml hml (HI.out.new (by repeat (first | with_reducible assumption | with_reducible exact New.refl _ | with_reducible refine New.alloc ?_ _ | with_reducible refine New.drew ?_ | with_reducible refine New.drewN ?_ _ | refine New.setCell ?_ (by first | (simp; done) | omega | (simp; omega)) _ | with_reducible refine New.trans ?_ (by with_reducible assumption)))) (HI.out.new (by repeat (first | with_reducible assumption | with_reducible exact New.refl _ | with_reducible refine New.alloc ?_ _ | with_reducible refine New.drew ?_ | with_reducible refine New.drewN ?_ _ | refine New.setCell ?_ (by first | (simp; done) | omega | (simp; omega)) _ | with_reducible refine New.trans ?_ (by with_reducible assumption))))).mono ?_
  rintro e w5 ⟨rfl, b5⟩
  rw [HS.out]
  have hc5 := New.cells b5; have hf5 := New.marks b5; have hz5 := New.le b5; try simp only [World.size_alloc, World.size_setCell] at hz5
  try have z5_0_0 : w.heap.size < w5.heap.size := by omega
  try have z5_0_1 : w.heap.size + 1 < w5.heap.size := by omega
  try have z5_0_2 : w.heap.size + 2 < w5.heap.size := by omega
  try have z5_1_0 : w1.heap.size < w5.heap.size := by omega
  try have z5_1_1 : w1.heap.size + 1 < w5.heap.size := by omega
  try have z5_1_2 : w1.heap.size + 2 < w5.heap.size := by omega
  try have z5_2_0 : w2.heap.size < w5.heap.size := by omega
  try have z5_2_1 : w2.heap.size + 1 < w5.heap.size := by omega
  try have z5_2_2 : w2.heap.size + 2 < w5.heap.size := by omega
  try have z5_3_0 : w3.heap.size < w5.heap.size := by omega
  try have z5_3_1 : w3.heap.size + 1 < w5.heap.size := by omega
  try have z5_3_2 : w3.heap.size + 2 < w5.heap.size := by omega
  try have z5_4_0 : w4.heap.size < w5.heap.size := by omega
  try have z5_4_1 : w4.heap.size + 1 < w5.heap.size := by omega
  try have z5_4_2 : w4.heap.size + 2 < w5.heap.size := by omega
  go_wp2_with fail
  refine (alive_any _).mono ?_
  rintro e w6 ⟨rfl, b6⟩
  have hc6 := New.cells b6; have hf6 := New.marks b6; have hz6 := New.le b6; try simp only [World.size_alloc, World.size_setCell] at hz6
  try have z6_0_0 : w.heap.size < w6.heap.size := by omega
  try have z6_0_1 : w.heap.size + 1 < w6.heap.size := by omega
  try have z6_0_2 : w.heap.size + 2 < w6.heap.size := by omega
  try have z6_1_0 : w1.heap.size < w6.heap.size := by omega
  try have z6_1_1 : w1.heap.size + 1 < w6.heap.size := by omega
  try have z6_1_2 : w1.heap.size + 2 < w6.heap.size := by omega
  try have z6_2_0 : w2.heap.size < w6.heap.size := by omega
  try have z6_2_1 : w2.heap.size + 1 < w6.heap.size := by omega
  try have z6_2_2 : w2.heap.size + 2 < w6.heap.size := by omega
  try have z6_3_0 : w3.heap.size < w6.heap.size := by omega
  try have z6_3_1 : w3.heap.size + 1 < w6.heap.size := by omega
  try have z6_3_2 : w3.heap.size + 2 < w6.heap.size := by omega
  try have z6_4_0 : w4.heap.size < w6.heap.size := by omega
  try have z6_4_1 : w4.heap.size + 1 < w6.heap.size := by omega
  try have z6_4_2 : w4.heap.size + 2 < w6.heap.size := by omega
  try have z6_5_0 : w5.heap.size < w6.heap.size := by omega
  try have z6_5_1 : w5.heap.size + 1 < w6.heap.size := by omega
  try have z6_5_2 : w5.heap.size + 2 < w6.heap.size := by omega
  go_wp2_with fail
  go_ret
  exact ⟨rfl, (by repeat (first | with_reducible assumption | with_reducible exact New.refl _ | with_reducible refine New.alloc ?_ _ | with_reducible refine New.drew ?_ | with_reducible refine New.drewN ?_ _ | refine New.setCell ?_ (by first | (simp; done) | omega | (simp; omega)) _ | with_reducible refine New.trans ?_ (by with_reducible assumption)))⟩
end Go.Proofs.Ytbnehcaallehbaa
