/- Laws on drawn pools: FnFewestHost, FnRendezvousHost, FnJumpHost. -/
import Derived.Test.YtdcobkngbpkdfaaDrawW
import Derived.Test.YtdcobkngbpkdfaaPlain2
import Derived.Test.YtdcobkngbpkdfaaJump
import Derived.Test.YtdcobkngbpkdfaaFlow
import Derived.Test.YtdcobkngbpkdfaaQb
import Derived.Test.YtdcobkngbpkdfaaInts
namespace Go.Proofs.Ytdcobkngbpkdfaa
set_option linter.unusedVariables false
set_option linter.unusedSimpArgs false
open Go.RowKit Go.Sort

set_option maxRecDepth 100000 in
set_option maxHeartbeats 1000000 in
theorem walk_FnJumpHost (A : Option Addr) (n c : Nat) (zs : List Int) (w : World) (H : ArgInts .u8 w A n c 1 zs) :
    Calls Try.prog 12 #[.slice A n c] w fun e w' => e = .returned (.bool true) ∧ New w w' := by
  have hc := CodeArg.of H
  have hm := hc.2.1
  unfold maxLen at hm
  clear H
  have hgr := gr_cells
  by_cases hbig : 1048576 < n
  · go_enter Try.func12, Try.ntmps12
    go_wp2_with fail
    go_ret
    exact ⟨rfl, (by repeat (first | with_reducible assumption | with_reducible exact New.refl _ | with_reducible refine New.alloc ?_ _ | with_reducible refine New.drew ?_ | with_reducible refine New.drewN ?_ _ | refine New.setCell ?_ (by first | (simp; done) | omega | (simp; omega)) _ | with_reducible refine New.trans ?_ (by with_reducible assumption)))⟩
  go_enter Try.func12, Try.ntmps12
  go_wp2_with fail
  refine (DrawJumpHost_any A n c zs _ hc).mono ?_
  rintro e w1 ⟨A', c', hs, key, rfl, l7, lc, cm, hpl, hI, z0, z1, b1⟩
  obtain ⟨K, hK⟩ : ∃ K, hs.length = K := ⟨_, rfl⟩
  rw [hK] at l7 lc ⊢
  have HK := Lib.hid hK
  have hml : K ≤ maxLen := by unfold maxLen; omega
  obtain ⟨us, hus⟩ : ∃ us, us = upNums hs := ⟨_, rfl⟩
  obtain ⟨m, hm2⟩ : ∃ m, us.length = m := ⟨_, rfl⟩
  have hul := (upNums_len hs).1
  rw [← hus, hm2] at hul
  have HM := Lib.hid hm2
  have IM : Hid (∀ w, Ints w A' (flat hs) → Calls Try.prog 41 #[.slice A' K c'] w (RetRow 3 1 w m us)) := Lib.hid fun w h => by
    rw [← hm2, hus]; exact hostsUp_impl _ K c' hs w hK (by omega) h
  have HU := Lib.hid hus
  obtain ⟨J, hJ⟩ : ∃ J, jumpHZ hs key = J := ⟨_, rfl⟩
  have HJ := Lib.hid hJ
  by_cases hbad : m = 0 ∨ inB key 0 1000002 = false
  · have hJ1 : J = -1 := by
      rw [← hJ]
      rcases hbad with h | h
      · exact jumpHZ_none (by rw [← hus, hm2]; exact h)
      · exact jumpHZ_nokey h
    subst hJ1
    clear hus hm2 hK hc hpl hbad hJ
    go_wp2_with fail
    refine (jumpHost_impl A' K c' hs key _ HK.out (by omega) hI).mono ?_
    rintro e w2 ⟨rfl, b2⟩
    rw [HJ.out]
    go_wp2_with fail
    refine (jumpHost_spec A' K c' hs key _ HK.out (by omega) (hI.new b2)).mono ?_
    rintro e w3 ⟨rfl, b3⟩
    rw [HJ.out]
    go_wp2_with fail
    refine (IM.out _ ((hI.new b2).new b3)).mono ?_
    rintro e w4 ⟨A4, c4, rfl, nc4, cm4, o4, b4⟩
    go_wp2_with fail
    refine (alive_any _).mono ?_
    rintro e w5 ⟨rfl, b5⟩
    go_wp2_with fail
    go_ret
    exact ⟨rfl, (((b1.trans b2).trans b3).trans b4).trans b5⟩
  · have hmp : 1 ≤ m := by omega
    have hk : inB key 0 1000002 = true := by
      cases h : inB key 0 1000002
      · exact absurd (.inr h) hbad
      · rfl
    obtain ⟨j, hj, hjm⟩ := jumpZ_at hk hmp (by omega)
    have hz : us[j]? = some us[j] := by simp [hm2, hjm]
    have hJz : J = us[j] := by
      rw [← hJ]
      exact jumpHZ_hit (hs := hs) (by rw [← hus, hm2]; exact hmp) hk (by rw [← hus, hm2]; exact hj) (by rw [← hus]; exact hz)
    have hJ0 : 0 ≤ J := by
      rw [hJz]
      cases hp : poolB hs
      · have h0 := upNums_no hp
        rw [← hus] at h0
        rw [h0] at hm2
        simp at hm2
        omega
      · have hmem : us[j] ∈ upNums hs := by rw [← hus]; exact List.getElem_mem _
        rw [upNums_yes hp] at hmem
        obtain ⟨x, hx, he⟩ := List.mem_map.1 hmem
        have := hostB_bd (pool_mem hp (ups_mem hx))
        omega
    have hJn : decide (J < 0) = false := by simp; omega
    have HJB := Lib.hid hj
    have hji : (j : Int) < (m : Int) := by omega
    rw [← hJz] at hz
    have HZ := Lib.hid hz
    clear hus hm2 hK hc hpl hbad hJ hJz hz hj
    go_wp2_with fail
    refine (jumpHost_impl A' K c' hs key _ HK.out (by omega) hI).mono ?_
    rintro e w2 ⟨rfl, b2⟩
    rw [HJ.out]
    go_wp2_with fail
    refine (jumpHost_spec A' K c' hs key _ HK.out (by omega) (hI.new b2)).mono ?_
    rintro e w3 ⟨rfl, b3⟩
    rw [HJ.out]
    go_wp2_with fail
    refine (IM.out _ ((hI.new b2).new b3)).mono ?_
    rintro e w4 ⟨A4, c4, rfl, nc4, cm4, o4, b4⟩
    go_wp2_with fail
    refine (jumpBucket_impl _ _ _).mono ?_
    rintro e w5 ⟨rfl, b5⟩
    rw [HJB.out]
    obtain ⟨b, o, z, rfl, hz, hb, c0⟩ := (o4.new b5).ints.elem (k := j) (by rw [HM.out]; exact hjm)
    obtain rfl : J = z := by rw [HZ.out] at hz; exact Option.some.inj hz
    clear hz o4
    go_wp2_with fail
    go_ret
    exact ⟨rfl, (((b1.trans b2).trans b3).trans b4).trans b5⟩
set_option maxRecDepth 100000 in
set_option maxHeartbeats 1000000 in
theorem walk_FnRendezvousHost (A : Option Addr) (n c : Nat) (zs : List Int) (w : World) (H : ArgInts .u8 w A n c 1 zs) :
    Calls Try.prog 10 #[.slice A n c] w fun e w' => e = .returned (.bool true) ∧ New w w' := by
  have hc := CodeArg.of H
  have hm := hc.2.1
  unfold maxLen at hm
  clear H
  have hgr := gr_cells
  by_cases hbig : 1048576 < n
  · go_enter Try.func10, Try.ntmps10
    go_wp2_with fail
    go_ret
    exact ⟨rfl, (by repeat (first | with_reducible assumption | with_reducible exact New.refl _ | with_reducible refine New.alloc ?_ _ | with_reducible refine New.drew ?_ | with_reducible refine New.drewN ?_ _ | refine New.setCell ?_ (by first | (simp; done) | omega | (simp; omega)) _ | with_reducible refine New.trans ?_ (by with_reducible assumption)))⟩
  go_enter Try.func10, Try.ntmps10
  go_wp2_with fail
  refine (DrawRendezvousHost_any A n c zs _ hc).mono ?_
  rintro e w1 ⟨A', c', hs, key, rfl, l7, lc, cm, hpl, hI, z0, z1, b1⟩
  obtain ⟨K, hK⟩ : ∃ K, hs.length = K := ⟨_, rfl⟩
  rw [hK] at l7 lc ⊢
  have HK := Lib.hid hK
  have hml : K ≤ maxLen := by unfold maxLen; omega
  obtain ⟨F, hF⟩ : ∃ F, rvZ hs key = F := ⟨_, rfl⟩
  have HF := Lib.hid hF
  have hge := rv_ge hs key
  rw [hF] at hge
  clear hpl hc hK
  by_cases hF0 : 0 ≤ F
  · have hFn : decide (F < 0) = false := by simp; omega
    have hst := rv_up (hs := hs) (key := key) (by rw [hF]; exact hF0)
    rw [hF] at hst
    have HST := Lib.hid hst
    have HP := Lib.hid (rv_pool (hs := hs) (key := key) (by rw [hF]; exact hF0))
    clear hst hF
    go_wp2_with fail
    refine (rvHost_impl A' K c' hs key _ HK.out (by omega) hI).mono ?_
    rintro e w2 ⟨rfl, b2⟩
    rw [HF.out]
    go_wp2_with fail
    refine (rvHost_spec A' K c' hs key _ HK.out (by omega) (hI.new b2)).mono ?_
    rintro e w3 ⟨rfl, b3⟩
    rw [HF.out]
    have I3 := (hI.new b2).new b3
    have B3 := (b1.trans b2).trans b3
    clear hI b1 b2 b3
    go_wp2_with fail
    go_loopw [6, 7, 8] (fun i u v wr => ∃ k : Nat, k ≤ K ∧ i = .int .i64 k ∧ New w3 wr) (fun i _ _ _ => K - (intOf i).toNat)
    case atStart => exact ⟨0, Nat.zero_le _, rfl, New.refl _⟩
    case round =>
      obtain ⟨k, hk, rfl, hnew⟩ := hrel
      have Ir := I3.new hnew
      by_cases hlt : k < K
      · obtain ⟨b, o, x, rfl, hx, hb, c0, c1, c2⟩ := hosts_at Ir (k := k) (by rw [HK.out]; exact hlt)
        have hki : (k : Int) < (K : Int) := by omega
        obtain ⟨x0, x1, x2⟩ := x
        simp only at c0 c1 c2
        have hok := okS_mem (N := x0) (st := 0) HP.out hx rfl (by omega)
        have hl := setH_length hok
        rw [HK.out] at hl
        have SS := setState_impl (some ⟨b, o, none⟩) K c' hs x0 0
        rw [hok, hl] at SS
        have HSS := Lib.hid SS
        have HL := Lib.hid hl
        have HOK := Lib.hid hok
        clear hx hok hl SS
        go_wp2_with fail
        refine (HSS.out _ HK.out (by omega) Ir).mono ?_
        rintro e w4 ⟨A4, c4, rfl, nc4, cm4, o4, b4⟩
        have d0 : w4.cell? ⟨b, o + k * 3, none⟩ = some (.int .i64 x0) := (Below.cell b4 (p := ⟨b, o + k * 3, none⟩) hb).trans c0
        have hb4 : b < w4.heap.size := b4.lts _ hb
        clear c0 c1 c2
        by_cases hN : x0 = F
        · subst hN
          go_wp2_with fail
          go_roundw
          case rel => exact ⟨k + 1, by omega, by go_num, hnew.trans b4⟩
          case measure => simp [intOf]; omega
        · have hN1 : decide (x0 = F) = false := by simpa using hN
          have hN2 : (x0 != F) = true := by simpa using hN
          have hN3 : (x0 == F) = false := by simpa using hN
          have HR := Lib.hid (show rvZ (setH hs x0 0) key = F by rw [rv_stays HOK.out (by rw [HF.out]; exact hF0) (by rw [HF.out]; exact hN), HF.out])
          go_wp2_with fail
          refine (rvHost_impl A4 K c4 (setH hs x0 0) key _ HL.out (by omega) o4.ints).mono ?_
          rintro e w5 ⟨rfl, b5⟩
          rw [HR.out]
          go_wp2_with fail
          go_roundw
          case rel => exact ⟨k + 1, by omega, by go_num, (hnew.trans b4).trans b5⟩
          case measure => simp [intOf]; omega
      · obtain rfl : k = K := by omega
        go_wp2_with fail
        refine (hostState_impl A' k c' hs F _ HK.out hml Ir).mono ?_
        rintro e w4 ⟨rfl, b4⟩
        rw [HST.out]
        go_wp2_with fail
        go_ret
        exact ⟨rfl, (B3.trans hnew).trans b4⟩
  · obtain rfl : F = -1 := by omega
    clear hF
    go_wp2_with fail
    refine (rvHost_impl A' K c' hs key _ HK.out (by omega) hI).mono ?_
    rintro e w2 ⟨rfl, b2⟩
    rw [HF.out]
    go_wp2_with fail
    refine (rvHost_spec A' K c' hs key _ HK.out (by omega) (hI.new b2)).mono ?_
    rintro e w3 ⟨rfl, b3⟩
    rw [HF.out]
    go_wp2_with fail
    refine (alive_any _).mono ?_
    rintro e w5 ⟨rfl, b5⟩
    go_wp2_with fail
    go_ret
    exact ⟨rfl, ((b1.trans b2).trans b3).trans b5⟩
set_option maxRecDepth 100000 in
set_option maxHeartbeats 1000000 in
theorem walk_FnFewestHost (A : Option Addr) (n c : Nat) (zs : List Int) (w : World) (H : ArgInts .u8 w A n c 1 zs) :
    Calls Try.prog 8 #[.slice A n c] w fun e w' => e = .returned (.bool true) ∧ New w w' := by
  have hc := CodeArg.of H
  have hm := hc.2.1
  unfold maxLen at hm
  clear H
  have hgr := gr_cells
  by_cases hbig : 1048576 < n
  · go_enter Try.func8, Try.ntmps8
    go_wp2_with fail
    go_ret
    exact ⟨rfl, (by repeat (first | with_reducible assumption | with_reducible exact New.refl _ | with_reducible refine New.alloc ?_ _ | with_reducible refine New.drew ?_ | with_reducible refine New.drewN ?_ _ | refine New.setCell ?_ (by first | (simp; done) | omega | (simp; omega)) _ | with_reducible refine New.trans ?_ (by with_reducible assumption)))⟩
  go_enter Try.func8, Try.ntmps8
  go_wp2_with fail
  refine (DrawFewestHost_any A n c zs _ hc).mono ?_
  rintro e w1 ⟨A', c', hs, A0, c0', ys, rfl, l7, lc, cm, hpl, hI, y11, yc, ycm, hY, b1⟩
  obtain ⟨K, hK⟩ : ∃ K, hs.length = K := ⟨_, rfl⟩
  rw [hK] at l7 lc ⊢
  obtain ⟨L, hL⟩ : ∃ L, ys.length = L := ⟨_, rfl⟩
  rw [hL] at y11 yc ⊢
  have HK := Lib.hid hK
  have HL := Lib.hid hL
  have hml : K ≤ maxLen := by unfold maxLen; omega
  have hmL : L ≤ maxLen := by unfold maxLen; omega
  clear hpl hc hK
  rcases few_cases hs ys with ⟨hF, hU⟩ | ⟨hp, x, hx, hst, hF, hx0, hw1, hw5, hmin⟩
  · have HF := Lib.hid hF
    have IM : Hid (∀ w, Ints w A' (flat hs) → Calls Try.prog 41 #[.slice A' K c'] w (RetRow 3 1 w 0 [])) := Lib.hid fun w h => by
      have := hostsUp_impl _ K c' hs w HK.out (by omega) h
      rw [hU] at this
      exact this
    clear hF hU hL
    go_wp2_with fail
    refine (fewHost_impl A' K c' hs A0 L c0' ys _ HK.out (by omega) hI HL.out (by omega) hY).mono ?_
    rintro e w2 ⟨rfl, b2⟩
    rw [HF.out]
    go_wp2_with fail
    refine (fewHost_spec A' K c' hs A0 L c0' ys _ HK.out (by omega) (hI.new b2) HL.out (by omega) (hY.new b2)).mono ?_
    rintro e w3 ⟨rfl, b3⟩
    rw [HF.out]
    go_wp2_with fail
    refine (IM.out _ ((hI.new b2).new b3)).mono ?_
    rintro e w4 ⟨A4, c4, rfl, nc4, cm4, o4, b4⟩
    go_wp2_with fail
    refine (alive_any _).mono ?_
    rintro e w5 ⟨rfl, b5⟩
    go_wp2_with fail
    go_ret
    exact ⟨rfl, (((b1.trans b2).trans b3).trans b4).trans b5⟩
  · obtain ⟨ix, hix, hxe⟩ := List.getElem_of_mem hx
    have hxi : hs[ix]? = some x := by rw [← hxe]; simp
    obtain ⟨F, hF2⟩ : ∃ F, x.num = F := ⟨_, rfl⟩
    obtain ⟨W, hW2⟩ : ∃ W, x.wt = W := ⟨_, rfl⟩
    have hstF : stateZ hs F = 1 := by rw [← hF2, stateZ_in hp hx, hst]
    rw [hF2] at hF hx0 hmin
    rw [hW2] at hw1 hw5 hmin
    have HF := Lib.hid hF
    have HST := Lib.hid hstF
    have hinj : ∀ (i : Nat) (y : Hst), hs[i]? = some y → y.num = F → i = ix ∧ y.wt = W := fun i y hy hN => by
      obtain rfl := pool_inj hp hy hxi (by rw [hN, hF2])
      rw [hxi] at hy
      obtain rfl := Option.some.inj hy
      exact ⟨rfl, hW2⟩
    have hat : ∀ y : Hst, hs[ix]? = some y → y.num = F := fun y hy => by
      rw [hxi] at hy
      obtain rfl := Option.some.inj hy
      exact hF2
    have hixK : ix < K := by rw [← HK.out]; exact hix
    have HINJ := Lib.hid hinj
    have HAT := Lib.hid hat
    have HMIN := Lib.hid hmin
    have HPB := Lib.hid hp
    have hFn : decide (F < 0) = false := by simp; omega
    obtain ⟨CF, hCF⟩ : ∃ CF, ys.count F = CF := ⟨_, rfl⟩
    have hCF11 : CF ≤ 11 := by rw [← hCF]; exact Nat.le_trans List.count_le_length (by omega)
    have HCF := Lib.hid hCF
    clear hF hF2 hW2 hstF hinj hat hmin hx hst hix hxe hxi hL hCF hp
    go_wp2_with fail
    refine (fewHost_impl A' K c' hs A0 L c0' ys _ HK.out (by omega) hI HL.out (by omega) hY).mono ?_
    rintro e w2 ⟨rfl, b2⟩
    rw [HF.out]
    go_wp2_with fail
    refine (fewHost_spec A' K c' hs A0 L c0' ys _ HK.out (by omega) (hI.new b2) HL.out (by omega) (hY.new b2)).mono ?_
    rintro e w3 ⟨rfl, b3⟩
    rw [HF.out]
    have I3 := (hI.new b2).new b3
    have Y3 := (hY.new b2).new b3
    have B3 := (b1.trans b2).trans b3
    clear hI hY b1 b2 b3
    go_wp2_with fail
    go_loopw [6, 7] (fun v i wr => ∃ (k : Nat) (V : Int), k ≤ K ∧ i = .int .i64 k ∧ v = .int .i64 V ∧ Hid (ix < k → V = W) ∧ w3 = wr) (fun _ i _ => K - (intOf i).toNat)
    case atStart => exact ⟨0, 0, Nat.zero_le _, rfl, rfl, Lib.hid (fun h => absurd h (by omega)), rfl⟩
    case round =>
      obtain ⟨k, V, hk, rfl, rfl, HV, rfl⟩ := hrel
      by_cases hlt : k < K
      · obtain ⟨b, o, y, rfl, hy, hb, c0, c1, c2⟩ := hosts_at I3 (k := k) (by rw [HK.out]; exact hlt)
        have hki : (k : Int) < (K : Int) := by omega
        have HY := Lib.hid hy
        clear hy
        obtain ⟨y0, y1, y2⟩ := y
        simp only at c0 c1 c2
        by_cases hN : y0 = F
        · have hw := (HINJ.out k _ HY.out hN)
          simp only at hw
          obtain ⟨rfl, rfl⟩ := hw
          subst hN
          go_wp2_with fail
          go_roundw
          case rel => exact ⟨k + 1, y1, by omega, by go_num, rfl, Lib.hid (fun _ => rfl), by first | rfl | trivial⟩
          case measure => simp [intOf]; omega
        · have hN3 : (y0 == F) = false := by simpa using hN
          have hV2 := Lib.hid (show ix < k + 1 → V = W from fun h => HV.out (by
            rcases Nat.lt_or_ge ix k with h' | h'
            · exact h'
            · obtain rfl : ix = k := by omega
              exact absurd (HAT.out _ HY.out) hN))
          go_wp2_with fail
          go_roundw
          case rel => exact ⟨k + 1, V, by omega, by go_num, rfl, hV2, by first | rfl | trivial⟩
          case measure => simp [intOf]; omega
      · obtain rfl : k = K := by omega
        obtain rfl : V = W := HV.out hixK
        clear HV
        go_wp2_with fail
        go_loopw [8] (fun i wr => ∃ j : Nat, j ≤ k ∧ i = .int .i64 j ∧ New w3 wr) (fun i _ => k - (intOf i).toNat)
        case atStart => exact ⟨0, Nat.zero_le _, rfl, New.refl _⟩
        case round =>
          obtain ⟨j, hj, rfl, hnew⟩ := hrel
          have Ir := I3.new hnew
          have Yr := Y3.new hnew
          by_cases hlt2 : j < k
          · obtain ⟨b, o, y, rfl, hy, hb, c0, c1, c2⟩ := hosts_at Ir (k := j) (by rw [HK.out]; exact hlt2)
            have hji : (j : Int) < (k : Int) := by omega
            have hm2 := HMIN.out y (List.mem_of_getElem? hy)
            have hyb := (hostB_bd (pool_mem HPB.out (List.mem_of_getElem? hy))).2.1
            obtain ⟨y0, y1, y2⟩ := y
            simp only at c0 c1 c2 hm2 hyb
            obtain ⟨hy1, hy5⟩ := hyb
            clear hy
            by_cases hup : y2 = 1
            · subst hup
              have hm3 := hm2 rfl
              obtain ⟨C, hC⟩ : ∃ C, ys.count y0 = C := ⟨_, rfl⟩
              have hC11 : C ≤ 11 := by rw [← hC]; exact Nat.le_trans List.count_le_length (by rw [HL.out]; omega)
              rw [hC, HCF.out] at hm3
              have HC := Lib.hid hC
              obtain ⟨P1, hP1⟩ : ∃ P1, (C : Int) * V = P1 := ⟨_, rfl⟩
              obtain ⟨P2, hP2⟩ : ∃ P2, (CF : Int) * y1 = P2 := ⟨_, rfl⟩
              have hbd1 := mul_bd (a := C) (b := V) (by omega) (by omega) (by omega) hw5
              have hbd2 := mul_bd (a := CF) (b := y1) (by omega) (by omega) (by omega) hy5
              rw [hP1] at hbd1 hm3
              rw [hP2] at hbd2 hm3
              obtain ⟨p10, p11⟩ := hbd1
              obtain ⟨p20, p21⟩ := hbd2
              have hlt3 : decide (P1 < P2) = false := by simp; omega
              clear hC hm2
              go_wp2_with fail
              refine wp_region_qb (by kernel_rfl) (by kernel_rfl) ?_
              repeat (go_big_quiet_step ((first | with_reducible exact gr_same ((countOf_impl A0 L c0' ys y0 _ HL.out hmL (Yr.new (gr_new _ _ _))).mono fun _ _ h => by rw [HC.out] at h; exact h) | with_reducible exact gr_same ((countOf_impl A0 L c0' ys F _ HL.out hmL (Yr.new (gr_new _ _ _))).mono fun _ _ h => by rw [HCF.out] at h; exact h))))
              with_reducible refine wpQuiet_nil ?_
              intro w5 b5
              have hc5 := New.cells b5; have hf5 := New.marks b5; have hz5 := New.le b5; try simp only [World.size_alloc, World.size_setCell] at hz5
              try have z5_0_0 : w.heap.size < w5.heap.size := by omega
              try have z5_0_1 : w.heap.size + 1 < w5.heap.size := by omega
              try have z5_0_2 : w.heap.size + 2 < w5.heap.size := by omega
              try have z5_1_0 : w1.heap.size < w5.heap.size := by omega
              try have z5_1_1 : w1.heap.size + 1 < w5.heap.size := by omega
              try have z5_1_2 : w1.heap.size + 2 < w5.heap.size := by omega
              try have z5_2_0 : w2.heap.size < w5.heap.size := by omega
              try have z5_2_1 : w2.heap.size + 1 < w5.heap.size := by omega
              try have z5_2_2 : w2.heap.size + 2 < w5.heap.size := by omega
              try have z5_3_0 : w3.heap.size < w5.heap.size := by omega
              try have z5_3_1 : w3.heap.size + 1 < w5.heap.size := by omega
              try have z5_3_2 : w3.heap.size + 2 < w5.heap.size := by omega
              try have z5_4_0 : w4.heap.size < w5.heap.size := by omega
              try have z5_4_1 : w4.heap.size + 1 < w5.heap.size := by omega
              try have z5_4_2 : w4.heap.size + 2 < w5.heap.size := by omega
              go_wp2_with fail
              go_roundw
              case rel => exact ⟨j + 1, by omega, by go_num, hnew.trans b5⟩
              case measure => simp [intOf]; omega
            · have hup' : (y2 == 1) = false := by simpa using hup
              clear hm2
              go_wp2_with fail
              refine wp_region_qb (by kernel_rfl) (by kernel_rfl) ?_
              repeat (go_big_quiet_step ((fail)))
              with_reducible refine wpQuiet_nil ?_
              intro w5 b5
              have hc5 := New.cells b5; have hf5 := New.marks b5; have hz5 := New.le b5; try simp only [World.size_alloc, World.size_setCell] at hz5
              try have z5_0_0 : w.heap.size < w5.heap.size := by omega
              try have z5_0_1 : w.heap.size + 1 < w5.heap.size := by omega
              try have z5_0_2 : w.heap.size + 2 < w5.heap.size := by omega
              try have z5_1_0 : w1.heap.size < w5.heap.size := by omega
              try have z5_1_1 : w1.heap.size + 1 < w5.heap.size := by omega
              try have z5_1_2 : w1.heap.size + 2 < w5.heap.size := by omega
              try have z5_2_0 : w2.heap.size < w5.heap.size := by omega
              try have z5_2_1 : w2.heap.size + 1 < w5.heap.size := by omega
              try have z5_2_2 : w2.heap.size + 2 < w5.heap.size := by omega
              try have z5_3_0 : w3.heap.size < w5.heap.size := by omega
              try have z5_3_1 : w3.heap.size + 1 < w5.heap.size := by omega
              try have z5_3_2 : w3.heap.size + 2 < w5.heap.size := by omega
              try have z5_4_0 : w4.heap.size < w5.heap.size := by omega
              try have z5_4_1 : w4.heap.size + 1 < w5.heap.size := by omega
              try have z5_4_2 : w4.heap.size + 2 < w5.heap.size := by omega
              go_wp2_with fail
              go_roundw
              case rel => exact ⟨j + 1, by omega, by go_num, hnew.trans b5⟩
              case measure => simp [intOf]; omega
          · obtain rfl : j = k := by omega
            go_wp2_with fail
            refine (hostState_impl A' j c' hs F _ HK.out hml Ir).mono ?_
            rintro e w4 ⟨rfl, b4⟩
            rw [HST.out]
            go_wp2_with fail
            go_ret
            exact ⟨rfl, (B3.trans hnew).trans b4⟩
end Go.Proofs.Ytdcobkngbpkdfaa
