/- The law FnSlotTable. -/
import Derived.Test.YtbnehcaallehbaaSlotS
import Derived.Test.YtbnehcaallehbaaSlotI
import Derived.Test.YtbnehcaallehbaaDrawK
import Derived.Test.YtbnehcaallehbaaInts
import Derived.Test.YtbnehcaallehbaaUpN
import Derived.Test.YtbnehcaallehbaaPlain
import Derived.Test.YtbnehcaallehbaaFlow
namespace Go.Proofs.Ytbnehcaallehbaa
set_option linter.unusedVariables false
set_option linter.unusedSimpArgs false
open Go.RowKit

theorem totN_sum : ∀ {us : List Hst}, (∀ x ∈ us, 1 ≤ x.wt ∧ x.wt ≤ 5) → (totN us : Int) = sumW us
  | [], _ => rfl
  | x :: us, h => by
    have ih := totN_sum (us := us) fun y hy => h y (by simp [hy])
    have hx := h x (by simp)
    have e : totN (x :: us) = x.wt.toNat + totN us := by simp [totN]
    have e2 : sumW (x :: us) = x.wt + sumW us := by simp [sumW]
    rw [e, e2]
    omega
theorem wtN_zero : ∀ {us : List Hst} {M : Int}, (∀ x ∈ us, M < x.num) → wtN us M = 0
  | [], _, _ => rfl
  | x :: us, M, h => by
    have ih := wtN_zero (us := us) (M := M) fun y hy => h y (by simp [hy])
    have hx := h x (by simp)
    have e : wtN (x :: us) M = (if M = x.num then x.wt.toNat else 0) + wtN us M := by simp [wtN]
    rw [e, ih, if_neg (by omega)]
theorem wtN_self : ∀ {us : List Hst}, us.Pairwise (fun a b => a.num < b.num) → ∀ x ∈ us, wtN us x.num = x.wt.toNat
  | [], _, _, h => by simp at h
  | y :: us, hp, x, hx => by
    have e : wtN (y :: us) x.num = (if x.num = y.num then y.wt.toNat else 0) + wtN us x.num := by simp [wtN]
    obtain ⟨h1, h2⟩ := List.pairwise_cons.1 hp
    rcases List.mem_cons.1 hx with rfl | hx
    · rw [e, if_pos rfl, wtN_zero h1, Nat.add_zero]
    · have := h1 x hx
      rw [e, wtN_self h2 x hx, if_neg (by omega)]
      omega
theorem ups_pairwise {hs : List Hst} (hP : poolB hs = true) : (ups hs).Pairwise (fun a b => a.num < b.num) := (poolB_iff.1 hP).2.1.sublist (ups_sub hs)
theorem stabB_pool {hs : List Hst} (h : stabB hs = true) : poolB hs = true ∧ 0 < (ups hs).length := by simpa [stabB] using h
theorem stab_tot {hs : List Hst} (h : stabB hs = true) : (totN (ups hs) : Int) = totZ hs ∧ 1 ≤ totN (ups hs) := by
  obtain ⟨hP, h0⟩ := stabB_pool h
  have hw : ∀ x ∈ ups hs, 1 ≤ x.wt ∧ x.wt ≤ 5 := fun x hx => wt_bd hP x (ups_mem hx)
  exact ⟨by rw [totN_sum hw, totZ_yes hP], totN_pos hw h0⟩
theorem stab_okN {hs : List Hst} (hP : poolB hs = true) : ∀ x ∈ hs, okN x.num := fun x hx => by
  have := (hostB_bd (pool_mem hP hx)).1
  exact inB_true.2 this
theorem stab_full {hs : List Hst} (h : stabB hs = true) : negs (stabZ hs) = 0 ∧ (stabZ hs).length = 31 := by
  obtain ⟨hP, _⟩ := stabB_pool h
  rw [stabZ_yes h]
  exact ⟨(slots_fair (fun x hx => stab_okN hP x (ups_mem hx)) (stab_tot h).2).1, by rw [roundsS_len, start_len]⟩
theorem stab_in {hs : List Hst} (h : stabB hs = true) {z : Int} (hz : z ∈ stabZ hs) : z ∈ numsOf (ups hs) := by
  have h0 := negs_zero_mem (stab_full h).1 hz
  rw [stabZ_yes h] at hz
  rcases roundsS_mem (S := numsOf (ups hs)) (us := ups hs) (fun u hu => List.mem_map_of_mem hu) start_mem 31 z hz with h1 | h1
  · omega
  · exact h1
theorem num_inj {hs : List Hst} (hp : hs.Pairwise (fun a b => a.num < b.num)) {x y : Hst} (hx : x ∈ hs) (hy : y ∈ hs) (e : x.num = y.num) : x = y := by
  obtain ⟨i, hi, rfl⟩ := List.getElem_of_mem hx
  obtain ⟨j, hj, rfl⟩ := List.getElem_of_mem hy
  rcases Nat.lt_trichotomy i j with h | h | h
  · have := List.pairwise_iff_getElem.1 hp i j hi hj h
    omega
  · subst h; rfl
  · have := List.pairwise_iff_getElem.1 hp j i hj hi h
    omega
theorem stab_down {hs : List Hst} (h : stabB hs = true) {x : Hst} (hx : x ∈ hs) (hst : x.st ≠ 1) : (stabZ hs).count x.num = 0 := by
  obtain ⟨hP, _⟩ := stabB_pool h
  rw [List.count_eq_zero]
  intro hm
  obtain ⟨y, hy, e⟩ := List.mem_map.1 (stab_in h hm)
  have := num_inj (poolB_iff.1 hP).2.1 (ups_mem hy) hx e
  subst this
  exact hst (ups_st hy)
theorem stab_up {hs : List Hst} (h : stabB hs = true) {x : Hst} (hx : x ∈ hs) (hst : x.st = 1) :
    (31 / totN (ups hs)) * x.wt.toNat ≤ (stabZ hs).count x.num ∧ (stabZ hs).count x.num ≤ (31 / totN (ups hs) + 1) * x.wt.toNat := by
  obtain ⟨hP, _⟩ := stabB_pool h
  have hxu : x ∈ ups hs := by unfold ups; rw [List.mem_filter]; exact ⟨hx, by simpa using hst⟩
  have := (slots_fair (fun x hx => stab_okN hP x (ups_mem hx)) (stab_tot h).2).2 x.num (okN_nonneg (stab_okN hP x hx))
  rw [wtN_self (ups_pairwise hP) x hxu, ← stabZ_yes h] at this
  exact this
/-- How often the first hosts' numbers come. -/
def csum (hs : List Hst) (L : List Int) : Nat := (hs.map fun x => L.count x.num).sum
theorem csum_append (a b : List Hst) (L : List Int) : csum (a ++ b) L = csum a L + csum b L := by simp [csum, List.map_append, List.sum_append]
theorem csum_take {hs : List Hst} {k : Nat} {x : Hst} (hx : hs[k]? = some x) (L : List Int) : csum (hs.take (k + 1)) L = csum (hs.take k) L + L.count x.num := by
  rw [List.take_add_one, hx, Option.toList_some, csum_append]
  simp [csum]
theorem stab_sum {hs : List Hst} (h : stabB hs = true) : csum hs (stabZ hs) = 31 := by
  obtain ⟨hP, _⟩ := stabB_pool h
  have hnd : (numsOf hs).Nodup := by
    unfold numsOf
    rw [List.nodup_iff_pairwise_ne, List.pairwise_map]
    exact (poolB_iff.1 hP).2.1.imp fun h => Int.ne_of_lt h
  have := sum_counts (stabZ hs) (numsOf hs) hnd (fun z hz => by
    obtain ⟨y, hy, e⟩ := List.mem_map.1 (stab_in h hz)
    exact List.mem_map.2 ⟨y, ups_mem hy, e⟩)
  rw [(stab_full h).2] at this
  rw [← this]
  unfold csum numsOf
  rw [List.map_map]
  rfl
theorem csum_le {hs : List Hst} (L : List Int) (k : Nat) : csum (hs.take k) L ≤ csum hs L := by
  have := csum_append (hs.take k) (hs.drop k) L
  rw [List.take_append_drop] at this
  omega
/-- What the law asks of a host that is up. -/
theorem fair_int {R W C : Nat} {v : Int} (hv : 1 ≤ v ∧ v ≤ 5) (hW : v.toNat = W) (hR : R ≤ 31) (h1 : R * W ≤ C) (h2 : C ≤ (R + 1) * W) :
    (0 ≤ v * (R : Int) ∧ v * (R : Int) ≤ 200) ∧ (0 ≤ v * ((R : Int) + 1) ∧ v * ((R : Int) + 1) ≤ 200) ∧ decide ((C : Int) < v * (R : Int)) = false ∧ decide (v * ((R : Int) + 1) < (C : Int)) = false := by
  have e : v = (W : Int) := by omega
  subst e
  have hW5 : W ≤ 5 := by omega
  have a1 : (W : Int) * (R : Int) = ((R * W : Nat) : Int) := by rw [Nat.mul_comm]; exact (Int.natCast_mul _ _).symm
  have a2 : (W : Int) * ((R : Int) + 1) = (((R + 1) * W : Nat) : Int) := by rw [Nat.mul_comm]; exact (Int.natCast_mul W (R + 1)).symm
  have b1 : R * W ≤ 31 * 5 := Nat.mul_le_mul hR hW5
  have b2 : (R + 1) * W ≤ 32 * 5 := Nat.mul_le_mul (by omega) hW5
  rw [a1, a2]
  exact ⟨by omega, by omega, decide_eq_false (by omega), decide_eq_false (by omega)⟩
set_option maxRecDepth 100000 in
set_option maxHeartbeats 4000000 in
theorem walk_FnSlotTable (A : Option Addr) (n c : Nat) (zs : List Int) (w : World) (H : ArgInts .u8 w A n c 1 zs) :
    Calls Try.prog 11 #[.slice A n c] w fun e w' => e = .returned (.bool true) ∧ New w w' := by
  have hc := CodeArg.of H
  have hm := hc.2.1
  unfold maxLen at hm
  clear H
  by_cases hbig : 1048576 < n
  · go_enter Try.func11, Try.ntmps11
    go_wp2_with fail
    go_ret
    exact ⟨rfl, (by repeat (first | with_reducible assumption | with_reducible exact New.refl _ | with_reducible refine New.alloc ?_ _ | with_reducible refine New.drew ?_ | with_reducible refine New.drewN ?_ _ | refine New.setCell ?_ (by first | (simp; done) | omega | (simp; omega)) _ | with_reducible refine New.trans ?_ (by with_reducible assumption)))⟩
  go_enter Try.func11, Try.ntmps11
  go_wp2_with fail
  refine (DrawSlotTable_any A n c zs _ hc).mono ?_
  rintro e w1 ⟨A1, c1, hs, rfl, l7, lc1, cm1, _, hI, b1⟩
  obtain ⟨m, hmm⟩ : ∃ m, hs.length = m := ⟨_, rfl⟩
  rw [hmm] at l7 lc1 ⊢
  have HM := Lib.hid hmm
  have HI := Lib.hid hI
  have hml : m ≤ maxLen := by unfold maxLen; omega
  clear hmm hI hc
  have hZl := stabZ_len hs
  obtain ⟨Z, hZ⟩ : ∃ Z, stabZ hs = Z := ⟨_, rfl⟩
  rw [hZ] at hZl
  obtain ⟨L, hL⟩ : ∃ L, Z.length = L := ⟨_, rfl⟩
  rw [hL] at hZl
  have hLml : L ≤ maxLen := by unfold maxLen; omega
  have HZ := Lib.hid hZ
  have HL := Lib.hid hL
  have HLL := Lib.hid (show (stabZ hs).length = L by rw [hZ, hL])
  clear hZ hL
  go_wp2_with fail
  refine (slotTable_impl A1 m c1 hs _ HM.out (by omega) HI.out).mono ?_
  rintro e w2 ⟨A2, c2, rfl, lc2, cm2, o2, b2⟩
  rw [HLL.out] at lc2 o2 ⊢
  rw [HZ.out] at o2
  go_wp2_with fail
  refine (slotTable_spec A1 m c1 hs _ HM.out (by omega) (HI.out.new b2)).mono ?_
  rintro e w3 ⟨A3, c3, rfl, lc3, cm3, o3, b3⟩
  rw [HLL.out] at lc3 o3 ⊢
  rw [HZ.out] at o3
  go_wp2_with fail
  refine (sameInts_any A2 A3 L c2 L c3 Z Z _ HL.out HL.out hLml hLml (o2.new b3).ints o3.ints).mono ?_
  rintro e w4 ⟨rfl, b4⟩
  simp only [decide_true]
  have HX := Lib.hid (((o2.ints).new b3).new b4)
  have HP := Lib.hid (((HI.out.new b2).new b3).new b4)
  have hN4 := ((b1.trans b2).trans b3).trans b4
  clear o2 o3 b1 b2 b3 b4
  cases hB : stabB hs
  · obtain rfl : Z = [] := by rw [← HZ.out]; exact stabZ_no hB
    obtain rfl : 0 = L := by rw [← HL.out]; rfl
    have HU := Lib.hid (show (upNums hs).length = 0 by
      cases hP : poolB hs
      · rw [upNums_no hP]; rfl
      · rw [upNums_yes hP, numsOf_len]
        simp only [stabB, hP, Bool.true_and, decide_eq_false_iff_not] at hB
        omega)
    go_wp2_with fail
    refine (hostsUp_impl A1 m c1 hs _ HM.out (by omega) HP.out).mono ?_
    rintro e w5 ⟨A5, c5, rfl, _, _, _, b5⟩
    rw [HU.out]
    go_wp2_with fail
    refine (alive_any _).mono ?_
    rintro e w6 ⟨rfl, b6⟩
    go_wp2_with fail
    go_ret
    exact ⟨rfl, hN4.trans (b5.trans b6)⟩
  · obtain rfl : 31 = L := by rw [← HLL.out, (stab_full hB).2]
    obtain ⟨hT, hT1⟩ := stab_tot hB
    have HUP := Lib.hid fun (x : Hst) (hx : x ∈ hs) => stab_up hB hx
    have HDN := Lib.hid fun (x : Hst) (hx : x ∈ hs) => stab_down hB hx
    have HSUM := Lib.hid (stab_sum hB)
    have HWT := Lib.hid (wt_bd (stabB_pool hB).1)
    rw [HZ.out] at HUP HDN HSUM
    have hTb := totZ_bd hs
    obtain ⟨T, hTe⟩ : ∃ T, totN (ups hs) = T := ⟨_, rfl⟩
    rw [hTe] at hT hT1 HUP
    obtain ⟨R, hR⟩ : ∃ R, 31 / T = R := ⟨_, rfl⟩
    rw [hR] at HUP
    have hR31 : R ≤ 31 := by rw [← hR]; exact Nat.div_le_self _ _
    have hRi : (31 : Int) / (T : Int) = (R : Int) := by rw [← hR]; rfl
    have HT := Lib.hid hT.symm
    rw [← hT] at hTb
    have hT0 : ((T : Int) == 0) = false := by simp; omega
    clear hT hTe hR hB
    have HRi := Lib.hid hRi
    clear hRi
    go_wp2_with fail
    refine (totalWeight_impl A1 m c1 hs _ HM.out (by omega) HP.out).mono ?_
    rintro e w5 ⟨rfl, b5⟩
    rw [HT.out]
    have HXW := Lib.hid (HX.out.new b5)
    have HPW := Lib.hid (HP.out.new b5)
    have hN5 := hN4.trans b5
    clear b5
    go_wp2_with fail
    rw [HRi.out]
    go_loopw [6, 7] (fun v i wr => ∃ k : Nat, k ≤ m ∧ i = .int .i64 k ∧ v = .int .i64 (csum (hs.take k) Z : Nat) ∧ New w5 wr) (fun _ i _ => m - (intOf i).toNat)
    case atStart => exact ⟨0, Nat.zero_le _, rfl, rfl, New.refl _⟩
    case round =>
      obtain ⟨k, hk, rfl, rfl, hnew⟩ := hrel
      have hcs := csum_le (hs := hs) Z k
      rw [HSUM.out] at hcs
      obtain ⟨s, hs0⟩ : ∃ s, csum (hs.take k) Z = s := ⟨_, rfl⟩
      rw [hs0] at hcs ⊢
      by_cases hlt : k < m
      · obtain ⟨b, o, x, rfl, hx, hb, c0, c1', c2'⟩ := hosts_at (HPW.out.new hnew) (k := k) (by rw [HM.out]; exact hlt)
        have hmem := List.mem_of_getElem? hx
        have hxw := HWT.out x hmem
        have HX2 := Lib.hid (csum_take hx Z)
        have hle := csum_le (hs := hs) Z (k + 1)
        rw [HSUM.out, HX2.out, hs0] at hle
        rw [hs0] at HX2
        have hup := HUP.out x hmem
        have hdn := HDN.out x hmem
        clear hx hmem hs0
        obtain ⟨x0, x1, x2⟩ := x
        simp only at c0 c1' c2' hxw hup hdn hle HX2
        obtain ⟨C, hC⟩ : ∃ C, Z.count x0 = C := ⟨_, rfl⟩
        rw [hC] at hup hdn hle HX2
        have HC := Lib.hid hC
        clear hC
        have hki : (k : Int) < (m : Int) := by omega
        by_cases hst : x2 = 1
        · subst hst
          obtain ⟨u1, u2⟩ := hup rfl
          obtain ⟨⟨g0, g1⟩, ⟨g2, g3⟩, d1, d2⟩ := fair_int hxw rfl hR31 u1 u2
          clear hup hdn u1 u2
          obtain ⟨y0, y1⟩ := hxw
          go_wp2_with fail
          refine (countOf_impl A2 31 c2 Z x0 _ HL.out hLml (HXW.out.new hnew)).mono ?_
          rintro e w' ⟨rfl, rfl⟩
          rw [HC.out]
          go_wp2_with fail
          go_roundw
          case rel => exact ⟨k + 1, by omega, by go_num, by rw [HX2.out]; go_num, hnew⟩
          case measure => simp [intOf]; omega
        · obtain rfl : 0 = C := (hdn hst).symm
          have hst' : (x2 == 1) = false := by simpa using hst
          clear hup hdn
          obtain ⟨y0, y1⟩ := hxw
          go_wp2_with fail
          refine (countOf_impl A2 31 c2 Z x0 _ HL.out hLml (HXW.out.new hnew)).mono ?_
          rintro e w' ⟨rfl, rfl⟩
          rw [HC.out]
          go_wp2_with fail
          go_roundw
          case rel => exact ⟨k + 1, by omega, by go_num, by rw [HX2.out]; go_num, hnew⟩
          case measure => simp [intOf]; omega
      · obtain rfl : k = m := by omega
        obtain rfl : 31 = s := by rw [← hs0, List.take_of_length_le (by rw [HM.out]; exact Nat.le_refl _), HSUM.out]
        go_wp2_with fail
        go_ret
        exact ⟨rfl, hN5.trans hnew⟩
end Go.Proofs.Ytbnehcaallehbaa
