/- The draw of a ring and a key; the law FnRingHost. -/
import Derived.Test.YtbnehcaallehbaaRing
import Derived.Test.YtbnehcaallehbaaDrawK
import Derived.Test.YtbnehcaallehbaaDrawN
import Derived.Test.YtbnehcaallehbaaFlow
namespace Go.Proofs.Ytbnehcaallehbaa
set_option linter.unusedVariables false
set_option linter.unusedSimpArgs false
open Go.RowKit Go.Sort

theorem ptsH_mem {num : Int} {t : Nat} {p : Pnt} (h : p ∈ ptsH num t) : p.to = num ∧ p.at_ ≤ 1000002 := by
  obtain ⟨i, _, rfl⟩ := List.mem_map.1 h
  exact ⟨rfl, (mixZ_bd _).2⟩
theorem ringP_mem {hs : List Hst} {p : Pnt} (h : p ∈ ringP hs) : poolB hs = true ∧ p.at_ ≤ 1000002 ∧ ∃ x ∈ ups hs, p.to = x.num := by
  cases hP : poolB hs
  · rw [ringP_no hP] at h
    exact absurd h (by simp)
  · have := (ringP_perm hP).mem_iff.1 h
    obtain ⟨x, hx, hp⟩ := List.mem_flatMap.1 this
    obtain ⟨h1, h2⟩ := ptsH_mem hp
    exact ⟨rfl, h2, x, hx, h1⟩
theorem ptsOf_len : ∀ (us : List Hst), (∀ x ∈ us, 1 ≤ x.wt ∧ x.wt ≤ 5) → ((ptsOf us).length : Int) = 3 * sumW us
  | [], _ => by simp [ptsOf, sumW]
  | x :: us, h => by
    have ih := ptsOf_len us (fun y hy => h y (by simp [hy]))
    have hx := h x (by simp)
    have e : (ptsOf (x :: us)).length = 3 * x.wt.toNat + (ptsOf us).length := by simp [ptsOf, ptsH]
    have e2 : sumW (x :: us) = x.wt + sumW us := by simp [sumW]
    rw [e, e2]
    omega
theorem ringP_len {hs : List Hst} (h : poolB hs = true) : ((ringP hs).length : Int) = 3 * totZ hs := by
  rw [(ringP_perm h).length_eq, totZ_yes h]
  exact ptsOf_len _ (fun x hx => wt_bd h x (ups_mem hx))
theorem ringP_short (hs : List Hst) : (ringP hs).length ≤ 90 := by
  cases h : poolB hs
  · rw [ringP_no h]; simp
  · have := ringP_len h
    have := (totZ_bd hs).2
    omega
theorem ring_to {ps : List Pnt} {key : Int} (h : 0 < ps.length) : ∃ p ∈ ps, p.to = ringZ ps key := by
  unfold ringZ
  cases hf : ps.findIdx? (fun x => decide (key ≤ x.at_)) with
  | none =>
    match ps, h with
    | x :: t, _ => exact ⟨x, by simp, rfl⟩
  | some k =>
    obtain ⟨hk, _⟩ := List.findIdx?_eq_some_iff_getElem.1 hf
    exact ⟨ps[k], by simp, by simp [List.getD_eq_getElem?_getD, hk]⟩
theorem anyP_take {ps : List Pnt} {k : Nat} {x : Pnt} (hx : ps[k]? = some x) (Z : Int) : ((ps.take (k + 1)).any fun p => p.to == Z) = (((ps.take k).any fun p => p.to == Z) || x.to == Z) := by
  rw [List.take_add_one, hx]
  simp [List.any_append]
/-- A drawn ring and a key. -/
def RingDrawn (w : World) (e : Ending) (w' : World) : Prop :=
  ∃ A' c', ∃ hs : List Hst, ∃ z : Int, e = .returned (.tuple #[.slice A' (ringP hs).length c', .int .i64 z]) ∧ (ringP hs).length ≤ c' ∧ c' ≤ maxLen ∧ Ints w' A' (flatP (ringP hs)) ∧ New w w'
theorem DrawRingHost_any (A : Option Addr) (n c : Nat) (zs : List Int) (w : World) (h : CodeArg w A n c zs) : Calls Try.prog 27 #[.slice A n c] w (RingDrawn w) := by
  go_enter Try.func27, Try.ntmps27
  go_wp2_with fail
  refine (open_code h).mono ?_
  rintro e w1 ⟨rfl, h1, b1⟩
  have hlt1 := h1.lt
  go_wp2_with fail
  refine (l20Pool_any _ A _ c _ 0 0 _ h1 (by omega) (by omega) (by omega)).mono ?_
  rintro e w2 ⟨A', c', q, hs, rfl, l7, lc, cm, o2, q0, q1, h2, g2⟩
  have hN : New w w2 := new_gb b1 g2 (by omega)
  obtain ⟨m, hm⟩ : ∃ m, hs.length = m := ⟨_, rfl⟩
  rw [hm] at l7 lc o2 ⊢
  have HM := Lib.hid hm
  clear hm
  go_wp2_with fail
  refine (ringOf_spec A' m c' hs _ HM.out (by omega) o2.ints).mono ?_
  rintro e w3 ⟨A3, c3, rfl, lc3, cm3, o3, b3⟩
  have h3 := h2.new b3
  have hs2 := g2.size
  obtain ⟨L, hL⟩ : ∃ L, (ringP hs).length = L := ⟨_, rfl⟩
  rw [hL] at lc3 o3 ⊢
  have HL := Lib.hid hL
  clear hL
  go_wp2_with fail
  refine (l20Key_any _ A _ c _ q 9 _ h3 (by omega) (by omega) (by omega)).mono ?_
  rintro e w4 ⟨v, q4, rfl, ⟨z, rfl, _, _⟩, _, _, _, g4⟩
  have o4 := o3.gb g4 (by omega)
  have hN4 : New w w4 := new_gb (hN.trans b3) g4 (by omega)
  go_wp2_with fail
  go_ret2
  exact ⟨A3, c3, hs, z, by rw [HL.out]; rfl, by rw [HL.out]; exact lc3, cm3, o4.ints, hN4⟩
set_option maxRecDepth 100000 in
set_option maxHeartbeats 2000000 in
theorem walk_FnRingHost (A : Option Addr) (n c : Nat) (zs : List Int) (w : World) (H : ArgInts .u8 w A n c 1 zs) :
    Calls Try.prog 5 #[.slice A n c] w fun e w' => e = .returned (.bool true) ∧ New w w' := by
  have hc := CodeArg.of H
  have hm := hc.2.1
  have hgr := gr_cells
  unfold maxLen at hm
  clear H
  by_cases hbig : 1048576 < n
  · go_enter Try.func5, Try.ntmps5
    go_wp2_with fail
    go_ret
    exact ⟨rfl, (by repeat (first | with_reducible assumption | with_reducible exact New.refl _ | with_reducible refine New.alloc ?_ _ | with_reducible refine New.drew ?_ | with_reducible refine New.drewN ?_ _ | refine New.setCell ?_ (by first | (simp; done) | omega | (simp; omega)) _ | with_reducible refine New.trans ?_ (by with_reducible assumption)))⟩
  go_enter Try.func5, Try.ntmps5
  go_wp2_with fail
  refine (DrawRingHost_any A n c zs _ hc).mono ?_
  rintro e w1 ⟨A1, c1, hs, key, rfl, hlc, hcm, hI, b1⟩
  have h90 := ringP_short hs
  obtain ⟨ps, hps⟩ : ∃ ps, ringP hs = ps := ⟨_, rfl⟩
  have hat := Lib.hid (show ∀ p ∈ ps, p.at_ ≤ 1000002 from fun p hp => (ringP_mem (hs := hs) (by rw [hps]; exact hp)).2.1)
  rw [hps] at hlc hI h90 ⊢
  clear hps
  obtain ⟨m, hl⟩ : ∃ m, ps.length = m := ⟨_, rfl⟩
  rw [hl] at hlc h90 ⊢
  have hmm : m ≤ maxLen := by unfold maxLen; omega
  have HL := Lib.hid hl
  have HI := Lib.hid hI
  obtain ⟨Z, hZ⟩ : ∃ Z, ringZ ps key = Z := ⟨_, rfl⟩
  have HZ := Lib.hid hZ
  clear hI hc
  by_cases h0 : m = 0
  · subst h0
    obtain rfl : ps = [] := List.eq_nil_of_length_eq_zero hl
    obtain rfl : Z = -1 := by rw [← hZ, ring_nil]
    clear hl hZ
    go_wp2_with fail
    refine (ringHost_impl A1 0 c1 [] key _ rfl hmm (HI.out.new (by repeat (first | with_reducible assumption | with_reducible exact New.refl _ | with_reducible refine New.alloc ?_ _ | with_reducible refine New.drew ?_ | with_reducible refine New.drewN ?_ _ | refine New.setCell ?_ (by first | (simp; done) | omega | (simp; omega)) _ | with_reducible refine New.trans ?_ (by with_reducible assumption))))).mono ?_
    rintro e w2 ⟨rfl, b2⟩
    rw [HZ.out]
    have hc2 := New.cells b2; have hf2 := New.marks b2; have hz2 := New.le b2; try simp only [World.size_alloc, World.size_setCell] at hz2
    try have z2_0_0 : w.heap.size < w2.heap.size := by omega
    try have z2_0_1 : w.heap.size + 1 < w2.heap.size := by omega
    try have z2_0_2 : w.heap.size + 2 < w2.heap.size := by omega
    try have z2_1_0 : w1.heap.size < w2.heap.size := by omega
    try have z2_1_1 : w1.heap.size + 1 < w2.heap.size := by omega
    try have z2_1_2 : w1.heap.size + 2 < w2.heap.size := by omega
    go_wp2_with fail
    refine (ringHost_spec A1 0 c1 [] key _ rfl hmm (HI.out.new (by repeat (first | with_reducible assumption | with_reducible exact New.refl _ | with_reducible refine New.alloc ?_ _ | with_reducible refine New.drew ?_ | with_reducible refine New.drewN ?_ _ | refine New.setCell ?_ (by first | (simp; done) | omega | (simp; omega)) _ | with_reducible refine New.trans ?_ (by with_reducible assumption))))).mono ?_
    rintro e w3 ⟨rfl, b3⟩
    rw [HZ.out]
    have hc3 := New.cells b3; have hf3 := New.marks b3; have hz3 := New.le b3; try simp only [World.size_alloc, World.size_setCell] at hz3
    try have z3_0_0 : w.heap.size < w3.heap.size := by omega
    try have z3_0_1 : w.heap.size + 1 < w3.heap.size := by omega
    try have z3_0_2 : w.heap.size + 2 < w3.heap.size := by omega
    try have z3_1_0 : w1.heap.size < w3.heap.size := by omega
    try have z3_1_1 : w1.heap.size + 1 < w3.heap.size := by omega
    try have z3_1_2 : w1.heap.size + 2 < w3.heap.size := by omega
    try have z3_2_0 : w2.heap.size < w3.heap.size := by omega
    try have z3_2_1 : w2.heap.size + 1 < w3.heap.size := by omega
    try have z3_2_2 : w2.heap.size + 2 < w3.heap.size := by omega
    go_wp2_with fail
    refine (alive_any _).mono ?_
    rintro e w4 ⟨rfl, b4⟩
    have hc4 := New.cells b4; have hf4 := New.marks b4; have hz4 := New.le b4; try simp only [World.size_alloc, World.size_setCell] at hz4
    try have z4_0_0 : w.heap.size < w4.heap.size := by omega
    try have z4_0_1 : w.heap.size + 1 < w4.heap.size := by omega
    try have z4_0_2 : w.heap.size + 2 < w4.heap.size := by omega
    try have z4_1_0 : w1.heap.size < w4.heap.size := by omega
    try have z4_1_1 : w1.heap.size + 1 < w4.heap.size := by omega
    try have z4_1_2 : w1.heap.size + 2 < w4.heap.size := by omega
    try have z4_2_0 : w2.heap.size < w4.heap.size := by omega
    try have z4_2_1 : w2.heap.size + 1 < w4.heap.size := by omega
    try have z4_2_2 : w2.heap.size + 2 < w4.heap.size := by omega
    try have z4_3_0 : w3.heap.size < w4.heap.size := by omega
    try have z4_3_1 : w3.heap.size + 1 < w4.heap.size := by omega
    try have z4_3_2 : w3.heap.size + 2 < w4.heap.size := by omega
    go_wp2_with fail
    go_ret
    exact ⟨rfl, (by repeat (first | with_reducible assumption | with_reducible exact New.refl _ | with_reducible refine New.alloc ?_ _ | with_reducible refine New.drew ?_ | with_reducible refine New.drewN ?_ _ | refine New.setCell ?_ (by first | (simp; done) | omega | (simp; omega)) _ | with_reducible refine New.trans ?_ (by with_reducible assumption)))⟩
  · have hall := Lib.hid (show (ps.any fun p => p.to == Z) = true by
      obtain ⟨p, hp, hpz⟩ := ring_to (ps := ps) (key := key) (by omega)
      rw [List.any_eq_true]
      exact ⟨p, hp, by rw [hpz, hZ]; simp⟩)
    obtain ⟨b, o, x, rfl, hx, hb, c0, c1', hrest⟩ : ∃ b o x, A1 = some ⟨b, o, none⟩ ∧ ps[0]? = some x ∧ b < w1.heap.size ∧ w1.cell? ⟨b, o + 0 * 2, none⟩ = some (.int .i64 x.at_) ∧ w1.cell? ⟨b, o + 0 * 2 + 1, none⟩ = some (.int .i64 x.to) ∧ True := by
      obtain ⟨b, o, x, h1, h2, h3, h4, h5⟩ := points_at HI.out (k := 0) (by omega)
      exact ⟨b, o, x, h1, h2, h3, h4, h5, trivial⟩
    have HZ0 := Lib.hid (show ringZ ps 1000007 = x.to from ring_none hx (fun j hj y hy => by have := hat.out y (List.mem_of_getElem? hy); omega))
    simp only [Nat.zero_mul, Nat.add_zero] at c0 c1'
    clear hrest hx hl hZ c0
    obtain ⟨x0, x1⟩ := x
    simp only at c1' HZ0
    go_wp2_with fail
    refine (ringHost_impl (some ⟨b, o, none⟩) m c1 ps key _ HL.out hmm (HI.out.new (by repeat (first | with_reducible assumption | with_reducible exact New.refl _ | with_reducible refine New.alloc ?_ _ | with_reducible refine New.drew ?_ | with_reducible refine New.drewN ?_ _ | refine New.setCell ?_ (by first | (simp; done) | omega | (simp; omega)) _ | with_reducible refine New.trans ?_ (by with_reducible assumption))))).mono ?_
    rintro e w2 ⟨rfl, b2⟩
    rw [HZ.out]
    have hc2 := New.cells b2; have hf2 := New.marks b2; have hz2 := New.le b2; try simp only [World.size_alloc, World.size_setCell] at hz2
    try have z2_0_0 : w.heap.size < w2.heap.size := by omega
    try have z2_0_1 : w.heap.size + 1 < w2.heap.size := by omega
    try have z2_0_2 : w.heap.size + 2 < w2.heap.size := by omega
    try have z2_1_0 : w1.heap.size < w2.heap.size := by omega
    try have z2_1_1 : w1.heap.size + 1 < w2.heap.size := by omega
    try have z2_1_2 : w1.heap.size + 2 < w2.heap.size := by omega
    go_wp2_with fail
    refine (ringHost_spec (some ⟨b, o, none⟩) m c1 ps key _ HL.out hmm (HI.out.new (by repeat (first | with_reducible assumption | with_reducible exact New.refl _ | with_reducible refine New.alloc ?_ _ | with_reducible refine New.drew ?_ | with_reducible refine New.drewN ?_ _ | refine New.setCell ?_ (by first | (simp; done) | omega | (simp; omega)) _ | with_reducible refine New.trans ?_ (by with_reducible assumption))))).mono ?_
    rintro e w3 ⟨rfl, b3⟩
    rw [HZ.out]
    have hc3 := New.cells b3; have hf3 := New.marks b3; have hz3 := New.le b3; try simp only [World.size_alloc, World.size_setCell] at hz3
    try have z3_0_0 : w.heap.size < w3.heap.size := by omega
    try have z3_0_1 : w.heap.size + 1 < w3.heap.size := by omega
    try have z3_0_2 : w.heap.size + 2 < w3.heap.size := by omega
    try have z3_1_0 : w1.heap.size < w3.heap.size := by omega
    try have z3_1_1 : w1.heap.size + 1 < w3.heap.size := by omega
    try have z3_1_2 : w1.heap.size + 2 < w3.heap.size := by omega
    try have z3_2_0 : w2.heap.size < w3.heap.size := by omega
    try have z3_2_1 : w2.heap.size + 1 < w3.heap.size := by omega
    try have z3_2_2 : w2.heap.size + 2 < w3.heap.size := by omega
    go_wp2_with fail
    have hN13 : New w1 w3 := (by repeat (first | with_reducible assumption | with_reducible exact New.refl _ | with_reducible refine New.alloc ?_ _ | with_reducible refine New.drew ?_ | with_reducible refine New.drewN ?_ _ | refine New.setCell ?_ (by first | (simp; done) | omega | (simp; omega)) _ | with_reducible refine New.trans ?_ (by with_reducible assumption)))
    have HI3 := Lib.hid (HI.out.new hN13)
    have hN3 : New w w3 := b1.trans hN13
    have hx3 : w3.cell? ⟨b, o + 1, none⟩ = some (.int .i64 x1) := (Below.cell hN13 (p := ⟨b, o + 1, none⟩) hb).trans c1'
    have hb3 : b < w3.heap.size := New.lts hN13 b hb
    clear hN13 c1' hb hc2 hf2 hc3 hf3 b1 b2 b3
    go_loopw [6, 7] (fun f i wr => ∃ k : Nat, k ≤ m ∧ i = .int .i64 k ∧ f = .bool ((ps.take k).any fun p => p.to == Z) ∧ New w3 wr) (fun _ i _ => m - (intOf i).toNat)
    case atStart => exact ⟨0, Nat.zero_le _, rfl, rfl, New.refl _⟩
    case round =>
      obtain ⟨k, hk, rfl, rfl, hnew⟩ := hrel
      by_cases hlt : k < m
      · have hlti : (k : Int) < (m : Int) := by omega
        obtain ⟨b', o', y, hbo, hy, hby, d0, d1⟩ := points_at (HI3.out.new hnew) (k := k) (by rw [HL.out]; exact hlt)
        obtain ⟨rfl, rfl⟩ : b = b' ∧ o = o' := by simpa using hbo
        have HT := Lib.hid (anyP_take hy Z)
        clear hy hbo d0
        obtain ⟨y0, y1⟩ := y
        simp only at d1 HT
        cases hB : (ps.take k).any fun p => p.to == Z
        · go_wp2_with fail
          go_roundw
          case rel => exact ⟨k + 1, by omega, by go_num, by rw [HT.out, hB, Bool.false_or], hnew⟩
          case measure => simp [intOf]; omega
        · go_wp2_with fail
          go_roundw
          case rel => exact ⟨k + 1, by omega, by go_num, by rw [HT.out, hB, Bool.true_or], hnew⟩
          case measure => simp [intOf]; omega
      · obtain rfl : k = m := by omega
        have hcr := New.cells hnew; have hzr := New.le hnew
        have hall' : ((ps.take k).any fun p => p.to == Z) = true := by rw [List.take_of_length_le (Nat.le_of_eq HL.out)]; exact hall.out
        rw [hall']
        have hx4 : wr.cell? ⟨b, o + 1, none⟩ = some (.int .i64 x1) := (Below.cell hnew (p := ⟨b, o + 1, none⟩) hb3).trans hx3
        have hb4 : b < wr.heap.size := New.lts hnew b hb3
        have hkp : (0 : Int) < (k : Int) := by omega
        have HIR := Lib.hid (HI3.out.new hnew)
        clear hcr hall'
        go_wp2_with fail
        refine wp_region_qb (by kernel_rfl) (by kernel_rfl) ?_
        repeat (go_big_quiet_step ((exact gr_call ((ringHost_impl (some ⟨b, o, none⟩) k c1 ps 1000007 _ HL.out hmm (HIR.out.new (gr_new _ _ _))).mono fun _ _ h => by rw [HZ0.out] at h; exact h))))
        with_reducible refine wpQuiet_nil ?_
        intro w5 b5
        have hc5 := New.cells b5; have hf5 := New.marks b5; have hz5 := New.le b5; try simp only [World.size_alloc, World.size_setCell] at hz5
        try have z5_0_0 : w.heap.size < w5.heap.size := by omega
        try have z5_0_1 : w.heap.size + 1 < w5.heap.size := by omega
        try have z5_0_2 : w.heap.size + 2 < w5.heap.size := by omega
        try have z5_1_0 : w1.heap.size < w5.heap.size := by omega
        try have z5_1_1 : w1.heap.size + 1 < w5.heap.size := by omega
        try have z5_1_2 : w1.heap.size + 2 < w5.heap.size := by omega
        try have z5_2_0 : w2.heap.size < w5.heap.size := by omega
        try have z5_2_1 : w2.heap.size + 1 < w5.heap.size := by omega
        try have z5_2_2 : w2.heap.size + 2 < w5.heap.size := by omega
        try have z5_3_0 : w3.heap.size < w5.heap.size := by omega
        try have z5_3_1 : w3.heap.size + 1 < w5.heap.size := by omega
        try have z5_3_2 : w3.heap.size + 2 < w5.heap.size := by omega
        try have z5_4_0 : w4.heap.size < w5.heap.size := by omega
        try have z5_4_1 : w4.heap.size + 1 < w5.heap.size := by omega
        try have z5_4_2 : w4.heap.size + 2 < w5.heap.size := by omega
        go_wp2_with fail
        go_ret
        exact ⟨rfl, hN3.trans (hnew.trans b5)⟩
end Go.Proofs.Ytbnehcaallehbaa
