/- spec.SlotTable. -/
import Derived.Test.YtbnehcaallehbaaSlotR
namespace Go.Proofs.Ytbnehcaallehbaa
set_option linter.unusedVariables false
set_option linter.unusedSimpArgs false
open Go.RowKit Go.Sort

set_option maxRecDepth 100000 in
set_option maxHeartbeats 8000000 in
theorem slotTable_spec (A : Option Addr) (n c : Nat) (hs : List Hst) (w : World) (hn : hs.length = n) (hm : n ≤ 1048576) (h : Ints w A (flat hs)) :
    Calls Try.prog 43 #[.slice A n c] w (RetRow 3 1 w (stabZ hs).length (stabZ hs)) := by
  obtain ⟨i0, hi, iz0, iz1, iz2⟩ := info_parts int_info
  obtain ⟨j0, hj, jz0, jz1, jz2⟩ := info_parts row_info
  have hgr := gr_cells
  have hml : n ≤ maxLen := by unfold maxLen; omega
  have o0 : Own 3 1 w.heap.size (w.alloc (.cells #[] 3)) (some ⟨w.heap.size, 0, none⟩) 0 0 [] := World.ownsRow_lit w #[] 0 (Nat.le_refl _) (Nat.zero_le _) rfl
  have b0 := (New.refl w).alloc (.cells #[] 3)
  have O0 := Lib.hid o0
  have HB0 := Lib.hid b0
  clear o0 b0
  obtain ⟨us, hus⟩ : ∃ us, us = ups hs := ⟨_, rfl⟩
  obtain ⟨m, hm2⟩ : ∃ m, us.length = m := ⟨_, rfl⟩
  have hmn : m ≤ n := by rw [← hm2, hus, ← hn]; exact ups_len hs
  have UPC : Hid (∀ w, Ints w A (flat hs) → Calls Try.prog 84 #[.slice A n c] w (RetRow 64 3 w m (flat us))) := Lib.hid fun w h => by
    rw [← hm2, hus]; exact l4Up_any A n c hs w hn hm h
  have HU := Lib.hid hus
  have HM := Lib.hid hm2
  have HN := Lib.hid hn
  have HH := Lib.hid h
  clear hus hm2 hn h
  cases hP : poolB hs
  · have HZ := Lib.hid (stabZ_no (hs := hs) (by simp [stabB, hP]))
    rw [HZ.out]
    go_enter Try.func43, Try.ntmps43
    go_wp2_with fail
    refine (UPC.out _ (HH.out.new HB0.out)).mono ?_
    rintro e w1 ⟨A1, c1, rfl, nc1, cm1, o1, b1⟩
    go_wp2_with fail
    refine (poolValid_spec A n c hs _ HN.out hml ((HH.out.new HB0.out).new b1)).mono ?_
    rintro e w2 ⟨rfl, b2⟩
    rw [hP]
    go_wp2_with fail
    go_ret
    exact ⟨_, 0, rfl, Nat.le_refl _, Nat.zero_le _, (O0.out.new b1).new b2, (HB0.out.trans b1).trans b2⟩
  by_cases hm0 : m = 0
  · have hu0 : (ups hs).length = 0 := by rw [← HU.out, HM.out]; exact hm0
    have HZ := Lib.hid (stabZ_no (hs := hs) (by simp [stabB, hu0]))
    clear hu0
    subst hm0
    rw [HZ.out]
    go_enter Try.func43, Try.ntmps43
    go_wp2_with fail
    refine (UPC.out _ (HH.out.new HB0.out)).mono ?_
    rintro e w1 ⟨A1, c1, rfl, nc1, cm1, o1, b1⟩
    go_wp2_with fail
    refine (poolValid_spec A n c hs _ HN.out hml ((HH.out.new HB0.out).new b1)).mono ?_
    rintro e w2 ⟨rfl, b2⟩
    rw [hP]
    go_wp2_with fail
    go_ret
    exact ⟨_, 0, rfl, Nat.le_refl _, Nat.zero_le _, (O0.out.new b1).new b2, (HB0.out.trans b1).trans b2⟩
  have hmp : 0 < m := by omega
  have hmb : ((m : Int) == 0) = false := by simp; omega
  have hZ := stabZ_yes (hs := hs) (by simp [stabB, hP, ← HU.out, HM.out]; exact hmp)
  rw [← HU.out] at hZ
  have HOK := Lib.hid (show ∀ x ∈ us, okN x.num from fun x hx => okN_of hP (by rw [← HU.out]; exact hx))
  have HWT := Lib.hid (show ∀ x ∈ us, 1 ≤ x.wt ∧ x.wt ≤ 5 from fun x hx => wt_bd hP x (ups_mem (by rw [← HU.out]; exact hx)))
  have HZL := Lib.hid (show (stabZ hs).length = 31 by rw [hZ, roundsS_len, start_len])
  have HZ := Lib.hid hZ
  have htot := totN_pos HWT.out (by rw [HM.out]; exact hmp)
  have hmle : m ≤ 6 := by rw [← HM.out, HU.out]; exact Nat.le_trans (ups_len hs) (pool_len hP)
  have hmml : m ≤ maxLen := by unfold maxLen; omega
  clear hZ
  go_enter Try.func43, Try.ntmps43
  go_wp2_with fail
  refine (UPC.out _ (HH.out.new HB0.out)).mono ?_
  rintro e w1 ⟨A1, c1, rfl, nc1, cm1, o1, b1⟩
  go_wp2_with fail
  refine (poolValid_spec A n c hs _ HN.out hml ((HH.out.new HB0.out).new b1)).mono ?_
  rintro e w2 ⟨rfl, b2⟩
  rw [hP]
  have bO := (New.refl w2).alloc (.cells #[] 51)
  have HB2 := Lib.hid ((HB0.out.trans b1).trans b2)
  have hu2 := (o1.new b2).new bO
  have hr2 : (w2.alloc (.cells #[] 51)).ownsRow w2.heap.size 51 1 (.slice (some ⟨w2.heap.size, 0, none⟩) 0 0) 0 [] := World.ownsRow_lit w2 #[] 0 (Nat.le_refl _) (Nat.zero_le _) rfl
  obtain ⟨BU, hBU⟩ : ∃ BU, (w.alloc (.cells #[] 3)).heap.size = BU := ⟨_, rfl⟩
  rw [hBU] at hu2
  clear o1 b1 b2 hBU
  go_wp2_with fail
  go_loopw [5, 6] (fun v i wr => ∃ (k : Nat) (os : List Value) (A5 : Option Addr) (c5 : Nat), k ≤ m ∧ i = .int .i64 k ∧ v = .slice A5 k c5 ∧ wr.ownsRow w2.heap.size 51 1 (.slice A5 k c5) k os ∧ os.length = k ∧ OrdsAt w2.heap.size us os k wr ∧ Own 64 3 BU wr A1 m c1 (flat us) ∧ New w2 wr) (fun _ i _ => m - (intOf i).toNat)
  case atStart => exact ⟨0, [], _, _, Nat.zero_le _, rfl, rfl, hr2, rfl, fun j x hj => absurd hj (Nat.not_lt_zero j), hu2, bO⟩
  case round =>
    clear hr2 hu2 bO
    obtain ⟨k, os, A5, c5, hk, rfl, rfl, hrow, hol, hord, hup, hnew⟩ := hrel
    by_cases hlt : k < m
    · obtain ⟨b, o, x, rfl, hx, hb, c0, _, _⟩ := hosts_at hup.ints (k := k) (by rw [HM.out]; exact hlt)
      have hki : (k : Int) < (m : Int) := by omega
      have hokx := HOK.out x (List.mem_of_getElem? hx)
      have hoz : orderZ x.num = ordTo x.num 31 := orderZ_yes hokx
      have HX := Lib.hid hx
      clear hx
      obtain ⟨x0, x1, x2⟩ := x
      simp only at c0 hoz HX
      go_wp2_with fail
      refine (slotOrder_spec x0 _).mono ?_
      rintro e w5 ⟨A6, cc, rfl, hcc, hccm, o6, b6⟩
      rw [hoz, ordTo_len] at hcc o6 ⊢
      obtain ⟨g, rfl⟩ : ∃ g, A6 = some ⟨g, 0, none⟩ := by
        rcases o6.2 with ⟨_, h0⟩ | ⟨g, _, _, hv, _⟩
        · omega
        · injection hv with h1
          exact ⟨g, h1⟩
      have bA := (New.refl w5).alloc (.cells #[.slice (some ⟨g, 0, none⟩) 31 cc] 51)
      have HR := Lib.hid (rowNewV hrow (b6.trans bA))
      have HO6 := Lib.hid ((o6.less hnew.le).new bA)
      have HOR := Lib.hid (hord.new (b6.trans bA))
      have HUP := Lib.hid (hup.new (b6.trans bA))
      have HNW := Lib.hid (hnew.trans (b6.trans bA))
      have hlit := heap_alloc_new w5 (.cells #[.slice (some ⟨g, 0, none⟩) 31 cc] 51)
      have HLIT := Lib.hid (show ∀ j u, ([Value.slice (some ⟨g, 0, none⟩) 31 cc])[j]? = some u → (w5.alloc (.cells #[.slice (some ⟨g, 0, none⟩) 31 cc] 51)).cell? ((⟨w5.heap.size, 0, none⟩ : Addr).add j) = some u from fun j u hu => by
        have hj : j = 0 := by
          have := (List.getElem?_eq_some_iff.1 hu).1
          simpa using this
        subst hj
        rw [add_plain', cell_of_row _ _ _ _ _ _ hlit]
        simpa using hu)
      clear hrow o6 hord hup hnew b6 bA hlit hoz
      go_wp2_with (at_builtin; refine wpList_append_own _ rfl (.tmp 31) (.tmp 38) 95 rfl w2.heap.size 51 j0 _ 1 24 Try.underlying95 hj jz0 jz1 jz2 rfl (by omega) (.slice A5 k c5) k os rfl HR.out _ 1 1 [.slice (some ⟨g, 0, none⟩) 31 cc] rfl rfl HLIT.out (by simp [Value.oneCell']) (by unfold maxLen; omega) (by omega) HNW.out.le ?_; intro v9 w9 r9 g9 _; obtain ⟨G9, c9, rfl, _, _, _⟩ := Own.shape r9 (Nat.succ_pos k))
      have hor9 : OrdsAt w2.heap.size us (os ++ [.slice (some ⟨g, 0, none⟩) 31 cc]) (k + 1) w9 := fun j x hj hx => by
        rcases Nat.lt_or_ge j k with hjk | hjk
        · obtain ⟨g1, cc1, e1, e2, e3⟩ := HOR.out j x hjk hx
          exact ⟨g1, cc1, by rw [List.getElem?_append_left (by omega)]; exact e1, e2, rowKept row_ne_int e3 HR.out g9⟩
        · obtain rfl : j = k := by omega
          obtain rfl := Option.some.inj (HX.out.symm.trans hx)
          exact ⟨g, cc, by rw [List.getElem?_append_right (by omega), hol]; simp, hcc, rowKept row_ne_int HO6.out HR.out g9⟩
      have hup9 : Own 64 3 BU w9 (some ⟨b, o, none⟩) m c1 (flat us) := rowKept host_ne_row HUP.out HR.out g9
      have hn9 : New w2 w9 := HNW.out.grown g9 (fun q hq => (World.ownsRow.lt HR.out q hq).1)
      go_roundw
      case rel => exact ⟨k + 1, _, _, c9, by omega, by go_num, rfl, r9, by simp [hol], hor9, hup9, hn9⟩
      case measure => simp [intOf]; omega
    · obtain rfl : m = k := by omega
      obtain ⟨GO, rfl⟩ : ∃ GO, A5 = some ⟨GO, 0, none⟩ := by
        rcases hrow.2 with ⟨_, h0⟩ | ⟨g, _, _, hv, _⟩
        · omega
        · injection hv with h1
          exact ⟨g, h1⟩
      have hGO := (World.ownsRow.lt hrow GO rfl).2
      have HORD := Lib.hid (show ∀ (j : Nat) (x : Hst), us[j]? = some x → ∃ g cc, wr.cell? ⟨GO, j, none⟩ = some (.slice (some ⟨g, 0, none⟩) 31 cc) ∧ 31 ≤ cc ∧ g < wr.heap.size ∧ ∀ i, i < 31 → wr.cell? ⟨g, i, none⟩ = some (.int .i64 (ordN x.num i : Int)) from fun j x hx => by
        obtain ⟨g, cc, e1, e2, e3⟩ := hord j x (by rw [← HM.out]; exact (List.getElem?_eq_some_iff.1 hx).1) hx
        have hcl := World.ownsRow.cells hrow (g := GO) rfl j _ e1
        rw [add_plain', Nat.zero_add] at hcl
        exact ⟨g, cc, hcl, e2, e3.blkS.2, fun i hi => e3.cellS hi (ordTo_at hi)⟩)
      have HUP := Lib.hid hup.ints
      have HN1 := Lib.hid (HB2.out.trans hnew)
      clear hrow hord hup hnew hol
      go_wp2_with fail
      generalize wr = W1 at *
      clear hgr
      have hgr := gr_cells
      go_loopw [3, 7] (fun v i wr => ∃ (q : Nat) (A3 : Option Addr) (c3 : Nat), q ≤ 31 ∧ i = .int .i64 q ∧ v = .slice A3 q c3 ∧ q ≤ c3 ∧ c3 ≤ maxLen ∧ OutAt W1.heap.size wr A3 q c3 (List.replicate q (-1)) ∧ New W1 wr) (fun _ i _ => 31 - (intOf i).toNat)
      case atStart => exact ⟨0, _, 0, Nat.zero_le _, rfl, rfl, Nat.le_refl _, Nat.zero_le _, .inr ⟨rfl, rfl, rfl, by simp⟩, New.refl _⟩
      case round =>
        obtain ⟨q, A3, c3, hq, rfl, rfl, hqc, hcm3, hout, hnew⟩ := hrel
        by_cases hlt2 : q < 31
        · have hlt2i : (q : Int) < 31 := by omega
          have bA := (New.refl wr).alloc (.cells #[.int .i64 (-1)] 3)
          have HOU := Lib.hid (hout.new bA)
          have HNW := Lib.hid (hnew.trans bA)
          clear hout hnew bA
          go_wp2_with (at_builtin; refine wpList_append_OutB _ rfl (.tmp 44) (.tmp 45) 51 rfl W1 W1.heap.size i0 _ 8 Try.underlying51 hi iz0 iz1 iz2 rfl (by omega) A3 q c3 _ rfl HOU.out _ 1 (-1) rfl (Ints.lit _ _ [-1] _ (by simp)) (by omega) (Nat.le_refl _) HNW.out.le HNW.out ?_; intro A9 c9 w9 h1 h2 o9 n9 _ _)
          go_roundw
          case rel => exact ⟨q + 1, A9, c9, by omega, by go_num, rfl, h1, h2, .inl (by rw [List.replicate_succ']; exact o9), n9⟩
          case measure => simp [intOf]; omega
        · obtain rfl : q = 31 := by omega
          have hou := hout.own (by omega)
          obtain ⟨G3, rfl⟩ : ∃ G3, A3 = some ⟨G3, 0, none⟩ := by
            rcases hou.2 with ⟨_, h0⟩ | ⟨g, _, _, hv, _⟩
            · omega
            · injection hv with h1
              exact ⟨g, h1⟩
          clear hout
          go_wp2_with (at_make; refine wpList_make_full _ rfl _ _ 51 rfl wr.heap.size 3 i0 (.int .i64 0) 1 Try.underlying51 hi iz0 iz1 .i64 .i64 (m : Int) (m : Int) m rfl rfl rfl rfl (by rw [iz2]; omega) hmml (Nat.le_refl _) ?_; intro w3 hown hgrow)
          have hown3 : Own 3 1 wr.heap.size w3 (some ⟨wr.heap.size, 0, none⟩) m m (plZ (List.replicate m 0)) := by
            unfold Own
            rw [plZ_zero, ← zerosT_map]
            exact hown
          have hb3 : New wr w3 := (New.refl wr).grown hgrow (by simp)
          have ho3 := hou.new hb3
          have hn3 := hnew.trans hb3
          have hp3 := hown3.less hnew.le
          have hG3l := hou.blkS
          have hG38 : G3 ≠ wr.heap.size := by omega
          have hG8l : W1.heap.size ≤ wr.heap.size := hnew.le
          clear hown hgrow hown3 hb3 hou hnew
          generalize wr.heap.size = G8 at *
          have hG3 : W1.heap.size ≤ G3 := hG3l.1
          have hl : (List.replicate 31 (-1 : Int)) = start31 := rfl
          rw [hl] at ho3
          clear hl hG3l
          have HKS : Hid (w.heap.size ≤ W1.heap.size) := Lib.hid HN1.out.le
          go_loopw [9] (fun l wr => ∃ (r L : Nat) (P : List Nat), l = .int .i64 L ∧ r + L ≤ 31 ∧ Hid (L = negs (roundsS us r start31)) ∧ Own 3 1 W1.heap.size wr (some ⟨G3, 0, none⟩) 31 c3 (roundsS us r start31) ∧ Own 3 1 W1.heap.size wr (some ⟨G8, 0, none⟩) m m (plZ P) ∧ P.length = m ∧ Hid (PlacesOk us P (roundsS us r start31)) ∧ New W1 wr) (fun l _ => (intOf l).toNat)
          case atStart => exact ⟨0, 31, List.replicate m 0, rfl, by omega, Lib.hid start_negs.symm, ho3, hp3, by simp, Lib.hid (places_start us m _), hn3⟩
          case round =>
            clear ho3 hp3 hn3
            obtain ⟨r, L, P, rfl, hrL, HL, ho, hp, hPl, HPO, hnew⟩ := hrel
            obtain ⟨O0, hO0⟩ : ∃ O0, roundsS us r start31 = O0 := ⟨_, rfl⟩
            rw [hO0] at HL ho HPO
            have hO0l : O0.length = 31 := by rw [← hO0, roundsS_len, start_len]
            have HO0 := Lib.hid hO0
            clear hO0
            by_cases hL0 : 0 < L
            · have hL0i : (0 : Int) < (L : Int) := by omega
              go_wp2_with fail
              go_loopw [9, 10] (fun l i wr => ∃ (k L : Nat) (P : List Nat), k ≤ m ∧ i = .int .i64 k ∧ l = .int .i64 L ∧ Hid (L = negs (roundS (us.take k) O0)) ∧ Own 3 1 W1.heap.size wr (some ⟨G3, 0, none⟩) 31 c3 (roundS (us.take k) O0) ∧ Own 3 1 W1.heap.size wr (some ⟨G8, 0, none⟩) m m (plZ P) ∧ P.length = m ∧ Hid (PlacesOk us P (roundS (us.take k) O0)) ∧ New W1 wr) (fun _ i _ => m - (intOf i).toNat)
              case atStart => exact ⟨0, L, P, Nat.zero_le _, rfl, rfl, HL, ho, hp, hPl, HPO, hnew⟩
              case round =>
                clear ho hp hPl HPO hnew
                obtain ⟨k, L2, P, hk, rfl, rfl, HL2, ho, hp, hPl, HPO, hnew⟩ := hrel
                by_cases hlt : k < m
                · have hki : (k : Int) < (m : Int) := by omega
                  obtain ⟨b, o, x, rfl, hx, hb, c0', c1', _⟩ := hosts_at (HUP.out) (k := k) (by rw [HM.out]; exact hlt)
                  have hxw := HWT.out x (List.mem_of_getElem? hx)
                  have hokx := HOK.out x (List.mem_of_getElem? hx)
                  have HRT := Lib.hid (roundS_take hx O0)
                  obtain ⟨g, cc, d0w, hcc, hgl, d2w⟩ := HORD.out k x hx
                  have HX := Lib.hid hx
                  clear hx
                  obtain ⟨x0, x1, x2⟩ := x
                  simp only at c0' c1' hxw hokx HRT d2w HX
                  have hx00 := okN_nonneg hokx
                  obtain ⟨y0, y1⟩ := hxw
                  obtain ⟨W, rfl⟩ := Int.eq_ofNat_of_zero_le (show 0 ≤ x1 by omega)
                  have hW : W ≤ 5 := by omega
                  rw [Int.toNat_natCast] at HRT
                  obtain ⟨O1, hO1⟩ : ∃ O1, roundS (us.take k) O0 = O1 := ⟨_, rfl⟩
                  rw [hO1] at HL2 ho HPO HRT
                  have hO1l : O1.length = 31 := by rw [← hO1, roundS_len, hO0l]
                  have HO1 := Lib.hid hO1
                  clear hO1
                  go_wp2_with fail
                  go_loopw [9, 11] (fun l i wr => ∃ (t L : Nat) (P : List Nat), t ≤ W ∧ i = .int .i64 t ∧ l = .int .i64 L ∧ Hid (L = negs (takesS x0 t O1)) ∧ Own 3 1 W1.heap.size wr (some ⟨G3, 0, none⟩) 31 c3 (takesS x0 t O1) ∧ Own 3 1 W1.heap.size wr (some ⟨G8, 0, none⟩) m m (plZ P) ∧ P.length = m ∧ Hid (PlacesOk us P (takesS x0 t O1)) ∧ New W1 wr) (fun _ i _ => W - (intOf i).toNat)
                  case atStart => exact ⟨0, L2, P, Nat.zero_le _, rfl, rfl, HL2, ho, hp, hPl, HPO, hnew⟩
                  case round =>
                    clear ho hp hPl HPO hnew HL2
                    obtain ⟨t, L, P, ht, rfl, rfl, HL, ho, hp, hPl, HPO, hnew⟩ := hrel
                    have k0 : wr.cell? ⟨b, o + k * 3 + 1, none⟩ = some (.int .i64 (W : Int)) := (Below.cell hnew (p := ⟨b, o + k * 3 + 1, none⟩) hb).trans c1'
                    obtain ⟨O2, hO2⟩ : ∃ O2, takesS x0 t O1 = O2 := ⟨_, rfl⟩
                    rw [hO2] at HL ho HPO
                    have hO2l : O2.length = 31 := by rw [← hO2, takesS_len, hO1l]
                    have HO2 := Lib.hid hO2
                    clear hO2
                    have hLb : L ≤ 31 := by rw [HL.out, ← hO2l]; exact List.countP_le_length
                    have hLbi : (L : Int) ≤ 31 := by omega
                    by_cases htW : t < W
                    · have htWi : (t : Int) < (W : Int) := by omega
                      by_cases hLL : 0 < L
                      · have hLLi : (0 : Int) < (L : Int) := by omega
                        obtain ⟨jj, hjj, hjz, hjno⟩ := free_ex hokx hO2l (by rw [← HL.out]; exact hLL)
                        have HNG0 := Lib.hid (takeS_step hokx hO2l (by rw [← HL.out]; exact hLL)).1
                        have HJZ := Lib.hid hjz
                        clear hjz hjno
                        go_wp2_with fail
                        go_loopw [85] (fun _ wr => ∃ (p : Nat) (P : List Nat), P[k]? = some p ∧ Own 3 1 W1.heap.size wr (some ⟨G3, 0, none⟩) 31 c3 O2 ∧ Own 3 1 W1.heap.size wr (some ⟨G8, 0, none⟩) m m (plZ P) ∧ P.length = m ∧ Hid (PlacesOk us P O2) ∧ New W1 wr) (fun _ wr => 31 - (intOf ((wr.cell? ⟨G8, k, none⟩).getD undef)).toNat)
                        case atStart => exact ⟨P[k]'(by omega), P, List.getElem?_eq_getElem _, ho, hp, hPl, HPO, hnew⟩
                        case round =>
                          clear ho hp hPl HPO hnew
                          obtain ⟨p, P, hPk, ho, hp, hPl, HPO, hnew⟩ := hrel
                          have hpj := (HPO.out k _ p HX.out hPk).le HJZ.out
                          have hp31 : p < 31 := by omega
                          obtain ⟨s, hs⟩ : ∃ s, ordN x0 p = s := ⟨_, rfl⟩
                          have hs31 : s < 31 := by rw [← hs]; exact ordN_lt x0 p
                          obtain ⟨z, hz⟩ : ∃ z, O2.getD s 0 = z := ⟨_, rfl⟩
                          have d0 : wr.cell? ⟨GO, k, none⟩ = some (.slice (some ⟨g, 0, none⟩) 31 cc) := (Below.cell hnew (p := ⟨GO, k, none⟩) hGO).trans d0w
                          have d1 : wr.cell? ⟨G8, k, none⟩ = some (.int .i64 (p : Int)) := hp.cellS hlt (plZ_at hPk)
                          have d2 : wr.cell? ⟨g, p, none⟩ = some (.int .i64 (s : Int)) := by rw [← hs]; exact (Below.cell hnew (p := ⟨g, p, none⟩) hgl).trans (d2w p hp31)
                          have d3 : wr.cell? ⟨G3, s, none⟩ = some (.int .i64 z) := ho.cellS hs31 hz
                          have q0 : wr.cell? ⟨b, o + k * 3, none⟩ = some (.int .i64 x0) := (Below.cell hnew (p := ⟨b, o + k * 3, none⟩) hb).trans c0'
                          have lO : GO < wr.heap.size := New.lts hnew GO hGO
                          have lg : g < wr.heap.size := New.lts hnew g hgl
                          have lb : b < wr.heap.size := New.lts hnew b hb
                          have l3 : G3 < wr.heap.size := ho.blkS.2
                          have l8 : G8 < wr.heap.size := hp.blkS.2
                          have hpi : (p : Int) < 31 := by omega
                          have hsi : (s : Int) < 31 := by omega
                          have f8 := hp.frz k
                          by_cases hz0 : 0 ≤ z
                          · have HPN := Lib.hid (HPO.out.next HX.out hPk (by rw [hs, hz]; exact hz0))
                            have hge : decide (0 ≤ z) = true := by simpa using hz0
                            go_wp2_with fail
                            refine wp_region_qb (by kernel_rfl) (by kernel_rfl) ?_
                            repeat (go_big_quiet_step ((fail)))
                            with_reducible refine wpQuiet_nil ?_
                            intro w5 b5
                            have hc5 := New.cells b5; have hf5 := New.marks b5; have hz5 := New.le b5; try simp only [World.size_alloc, World.size_setCell] at hz5
                            try have z5_0_0 : w.heap.size < w5.heap.size := by omega
                            try have z5_0_1 : w.heap.size + 1 < w5.heap.size := by omega
                            try have z5_0_2 : w.heap.size + 2 < w5.heap.size := by omega
                            try have z5_1_0 : w1.heap.size < w5.heap.size := by omega
                            try have z5_1_1 : w1.heap.size + 1 < w5.heap.size := by omega
                            try have z5_1_2 : w1.heap.size + 2 < w5.heap.size := by omega
                            try have z5_2_0 : w2.heap.size < w5.heap.size := by omega
                            try have z5_2_1 : w2.heap.size + 1 < w5.heap.size := by omega
                            try have z5_2_2 : w2.heap.size + 2 < w5.heap.size := by omega
                            try have z5_3_0 : w3.heap.size < w5.heap.size := by omega
                            try have z5_3_1 : w3.heap.size + 1 < w5.heap.size := by omega
                            try have z5_3_2 : w3.heap.size + 2 < w5.heap.size := by omega
                            try have z5_4_0 : w4.heap.size < w5.heap.size := by omega
                            try have z5_4_1 : w4.heap.size + 1 < w5.heap.size := by omega
                            try have z5_4_2 : w4.heap.size + 2 < w5.heap.size := by omega
                            have d1' : w5.cell? ⟨G8, k, none⟩ = some (.int .i64 (p : Int)) := (Below.cell b5 (p := ⟨G8, k, none⟩) l8).trans d1
                            have f8' := (hp.new b5).frz k
                            have HP9 := Lib.hid ((hp.new b5).set_ k ((p : Int) + 1))
                            have HO9 := Lib.hid ((ho.new b5).setNe hG38.symm k (.int .i64 ((p : Int) + 1)))
                            have HN9 := Lib.hid ((hnew.trans b5).setCell (p := ⟨G8, k, none⟩) hG8l (.int .i64 ((p : Int) + 1)))
                            have hPk9 : (P.set k (p + 1))[k]? = some (p + 1) := by rw [List.getElem?_set, if_pos rfl, if_pos (by omega)]
                            have HPZ := Lib.hid (show (plZ P).set k ((p : Int) + 1) = plZ (P.set k (p + 1)) by rw [plZ_set]; rfl)
                            have l85 : G8 < w5.heap.size := New.lts b5 G8 l8
                            clear d0 d2 d3 q0 ho hp hnew f8 hc5 hf5 hz5
                            go_wp2_with fail
                            go_roundw
                            case rel => exact ⟨p + 1, P.set k (p + 1), hPk9, HO9.out, by rw [← HPZ.out]; exact HP9.out, by rw [List.length_set]; exact hPl, HPN, HN9.out⟩
                            case measure =>
                              have e1 := HP9.out.cellS (j := k) (z := ((p + 1 : Nat) : Int)) hlt (by rw [HPZ.out]; exact plZ_at hPk9)
                              rw [d1, e1]
                              simp [intOf]
                              omega
                          · have hge : decide (0 ≤ z) = false := by simpa using hz0
                            have HTK0 := Lib.hid (show takeS x0 O2 = O2.set s x0 by rw [← hs]; exact takeS_some hp31 (by rw [hs, hz]; omega) (HPO.out k _ p HX.out hPk))
                            have HTK := Lib.hid (show takesS x0 (t + 1) O1 = O2.set s x0 by rw [takesS, HO2.out, HTK0.out])
                            have HNG := Lib.hid (Lib.hid (show L - 1 = negs (takesS x0 (t + 1) O1) by have := HNG0.out; have := HL.out; rw [takesS, HO2.out]; omega))
                            have hPO := HPO.out
                            go_wp2_with fail
                            refine wp_region_qb (by kernel_rfl) (by kernel_rfl) ?_
                            repeat (go_big_quiet_step ((fail)))
                            with_reducible refine wpQuiet_nil ?_
                            intro w5 b5
                            have hc5 := New.cells b5; have hf5 := New.marks b5; have hz5 := New.le b5; try simp only [World.size_alloc, World.size_setCell] at hz5
                            try have z5_0_0 : w.heap.size < w5.heap.size := by omega
                            try have z5_0_1 : w.heap.size + 1 < w5.heap.size := by omega
                            try have z5_0_2 : w.heap.size + 2 < w5.heap.size := by omega
                            try have z5_1_0 : w1.heap.size < w5.heap.size := by omega
                            try have z5_1_1 : w1.heap.size + 1 < w5.heap.size := by omega
                            try have z5_1_2 : w1.heap.size + 2 < w5.heap.size := by omega
                            try have z5_2_0 : w2.heap.size < w5.heap.size := by omega
                            try have z5_2_1 : w2.heap.size + 1 < w5.heap.size := by omega
                            try have z5_2_2 : w2.heap.size + 2 < w5.heap.size := by omega
                            try have z5_3_0 : w3.heap.size < w5.heap.size := by omega
                            try have z5_3_1 : w3.heap.size + 1 < w5.heap.size := by omega
                            try have z5_3_2 : w3.heap.size + 2 < w5.heap.size := by omega
                            try have z5_4_0 : w4.heap.size < w5.heap.size := by omega
                            try have z5_4_1 : w4.heap.size + 1 < w5.heap.size := by omega
                            try have z5_4_2 : w4.heap.size + 2 < w5.heap.size := by omega
                            have d0' : w5.cell? ⟨GO, k, none⟩ = some (.slice (some ⟨g, 0, none⟩) 31 cc) := (Below.cell b5 (p := ⟨GO, k, none⟩) lO).trans d0
                            have d1' : w5.cell? ⟨G8, k, none⟩ = some (.int .i64 (p : Int)) := (Below.cell b5 (p := ⟨G8, k, none⟩) l8).trans d1
                            have d2' : w5.cell? ⟨g, p, none⟩ = some (.int .i64 (s : Int)) := (Below.cell b5 (p := ⟨g, p, none⟩) lg).trans d2
                            have d3' : w5.cell? ⟨G3, s, none⟩ = some (.int .i64 z) := (Below.cell b5 (p := ⟨G3, s, none⟩) l3).trans d3
                            have q0' : w5.cell? ⟨b, o + k * 3, none⟩ = some (.int .i64 x0) := (Below.cell b5 (p := ⟨b, o + k * 3, none⟩) lb).trans q0
                            have lO := New.lts b5 GO lO
                            have lg := New.lts b5 g lg
                            have lb := New.lts b5 b lb
                            have l3 := New.lts b5 G3 l3
                            have l8 := New.lts b5 G8 l8
                            have ho5 := ho.new b5
                            have hp5 := hp.new b5
                            have hn5 := hnew.trans b5
                            clear d0 d1 d2 d3 q0 ho hp hnew b5 hc5 hf5 hz5 f8
                            have h38 := hG38
                            go_wp2_with fail
                            obtain ⟨FF, hFF⟩ : ∃ FF, FF = factAt [pVal (.slice (some ⟨G3, 0, none⟩) 31 c3), pVal (.slice (some ⟨GO, 0, none⟩) m c5), pVal (.int .i64 (k : Int)), pVal (.pointer (some ⟨GO, k, none⟩)), pVal (.slice (some ⟨g, 0, none⟩) 31 cc), pVal (.slice (some ⟨G8, 0, none⟩) m m), pVal (.int .i64 (k : Int)), pVal (.pointer (some ⟨G8, k, none⟩)), pVal (.int .i64 (p : Int)), pVal (.pointer (some ⟨g, p, none⟩)), pVal (.int .i64 (s : Int)), pVal (.slice (some ⟨b, o, none⟩) m c1), pVal (.int .i64 (k : Int)), pVal (.pointer (some ⟨b, o + k * 3, none⟩)), pVal (.pointer (some ⟨b, o + k * 3, none⟩)), pVal (.int .i64 x0), pVal (.pointer (some ⟨G3, s, none⟩))] := ⟨_, rfl⟩
                            have HFF := Lib.hid hFF
                            clear hFF
                            refine wp_region_tail 17 (by kernel_rfl) (by kernel_rfl) (by kernel_rfl) (by decide) (LrI w5) FF (New) (by rw [HFF.out]; exact factAt_keptN (by
                                intro P hP
                                simp only [List.mem_cons, List.not_mem_nil, or_false] at hP
                                rcases hP with rfl | rfl | rfl | rfl | rfl | rfl | rfl | rfl | rfl | rfl | rfl | rfl | rfl | rfl | rfl | rfl | rfl
                                · exact keptN_val _
                                · exact keptN_val _
                                · exact keptN_val _
                                · exact keptN_val _
                                · exact keptN_val _
                                · exact keptN_val _
                                · exact keptN_val _
                                · exact keptN_val _
                                · exact keptN_val _
                                · exact keptN_val _
                                · exact keptN_val _
                                · exact keptN_val _
                                · exact keptN_val _
                                · exact keptN_val _
                                · exact keptN_val _
                                · exact keptN_val _
                                · exact keptN_val _
                                )) (New.drew (New.refl _)) ?_ ?_
                            · refine ⟨?_, ?_, ?_, ?_, ?_, ?_, ?_, ?_, ?_, ?_, ?_, ?_, ?_, ?_, ?_, ?_, ?_, trivial⟩
                              · -- 0
                                intro vs kq wq hI hF
                                clear hF
                                have hI : New w5 wq := hI
                                simp only [fillTo, dstOf, List.getElem?_toArray, List.getElem?_cons_zero, List.getElem?_cons_succ, Option.bind_some, Act.put, List.setIfInBounds_toArray, List.set_cons_zero, List.set_cons_succ]
                                have hcq := New.cells hI; have hzq := New.le hI
                                go_wp2_with fail
                                exact ⟨_, rfl, hI, New.refl _, by rw [HFF.out]; exact rfl⟩
                              · -- 1
                                intro vs kq wq hI hF
                                clear hF
                                have hI : New w5 wq := hI
                                simp only [fillTo, dstOf, List.getElem?_toArray, List.getElem?_cons_zero, List.getElem?_cons_succ, Option.bind_some, Act.put, List.setIfInBounds_toArray, List.set_cons_zero, List.set_cons_succ]
                                have hcq := New.cells hI; have hzq := New.le hI
                                go_wp2_with fail
                                exact ⟨_, rfl, hI, New.refl _, by rw [HFF.out]; exact rfl⟩
                              · -- 2
                                intro vs kq wq hI hF
                                clear hF
                                have hI : New w5 wq := hI
                                simp only [fillTo, dstOf, List.getElem?_toArray, List.getElem?_cons_zero, List.getElem?_cons_succ, Option.bind_some, Act.put, List.setIfInBounds_toArray, List.set_cons_zero, List.set_cons_succ]
                                have hcq := New.cells hI; have hzq := New.le hI
                                go_wp2_with fail
                                exact ⟨_, rfl, hI, New.refl _, by rw [HFF.out]; exact rfl⟩
                              · -- 3
                                intro vs kq wq hI hF
                                have f1 : pVal (.slice (some ⟨GO, 0, none⟩) m c5) (vs 1) wq := (by have h := hF 1 (by rfl); rw [HFF.out] at h; exact h)
                                unfold pVal at f1
                                have f2 : pVal (.int .i64 (k : Int)) (vs 2) wq := (by have h := hF 2 (by rfl); rw [HFF.out] at h; exact h)
                                unfold pVal at f2
                                clear hF
                                have hI : New w5 wq := hI
                                simp only [fillTo, dstOf, List.getElem?_toArray, List.getElem?_cons_zero, List.getElem?_cons_succ, Option.bind_some, Act.put, List.setIfInBounds_toArray, List.set_cons_zero, List.set_cons_succ, f1, f2]
                                clear f1 f2
                                have hcq := New.cells hI; have hzq := New.le hI
                                go_wp2_with fail
                                exact ⟨_, rfl, hI, New.refl _, by rw [HFF.out]; exact rfl⟩
                              · -- 4
                                intro vs kq wq hI hF
                                have f3 : pVal (.pointer (some ⟨GO, k, none⟩)) (vs 3) wq := (by have h := hF 3 (by rfl); rw [HFF.out] at h; exact h)
                                unfold pVal at f3
                                clear hF
                                have hI : New w5 wq := hI
                                simp only [fillTo, dstOf, List.getElem?_toArray, List.getElem?_cons_zero, List.getElem?_cons_succ, Option.bind_some, Act.put, List.setIfInBounds_toArray, List.set_cons_zero, List.set_cons_succ, f3]
                                clear f3
                                have hcq := New.cells hI; have hzq := New.le hI
                                go_wp2_with fail
                                exact ⟨_, rfl, hI, New.refl _, by rw [HFF.out]; exact rfl⟩
                              · -- 5
                                intro vs kq wq hI hF
                                clear hF
                                have hI : New w5 wq := hI
                                simp only [fillTo, dstOf, List.getElem?_toArray, List.getElem?_cons_zero, List.getElem?_cons_succ, Option.bind_some, Act.put, List.setIfInBounds_toArray, List.set_cons_zero, List.set_cons_succ]
                                have hcq := New.cells hI; have hzq := New.le hI
                                go_wp2_with fail
                                exact ⟨_, rfl, hI, New.refl _, by rw [HFF.out]; exact rfl⟩
                              · -- 6
                                intro vs kq wq hI hF
                                clear hF
                                have hI : New w5 wq := hI
                                simp only [fillTo, dstOf, List.getElem?_toArray, List.getElem?_cons_zero, List.getElem?_cons_succ, Option.bind_some, Act.put, List.setIfInBounds_toArray, List.set_cons_zero, List.set_cons_succ]
                                have hcq := New.cells hI; have hzq := New.le hI
                                go_wp2_with fail
                                exact ⟨_, rfl, hI, New.refl _, by rw [HFF.out]; exact rfl⟩
                              · -- 7
                                intro vs kq wq hI hF
                                have f5 : pVal (.slice (some ⟨G8, 0, none⟩) m m) (vs 5) wq := (by have h := hF 5 (by rfl); rw [HFF.out] at h; exact h)
                                unfold pVal at f5
                                have f6 : pVal (.int .i64 (k : Int)) (vs 6) wq := (by have h := hF 6 (by rfl); rw [HFF.out] at h; exact h)
                                unfold pVal at f6
                                clear hF
                                have hI : New w5 wq := hI
                                simp only [fillTo, dstOf, List.getElem?_toArray, List.getElem?_cons_zero, List.getElem?_cons_succ, Option.bind_some, Act.put, List.setIfInBounds_toArray, List.set_cons_zero, List.set_cons_succ, f5, f6]
                                clear f5 f6
                                have hcq := New.cells hI; have hzq := New.le hI
                                go_wp2_with fail
                                exact ⟨_, rfl, hI, New.refl _, by rw [HFF.out]; exact rfl⟩
                              · -- 8
                                intro vs kq wq hI hF
                                have f7 : pVal (.pointer (some ⟨G8, k, none⟩)) (vs 7) wq := (by have h := hF 7 (by rfl); rw [HFF.out] at h; exact h)
                                unfold pVal at f7
                                clear hF
                                have hI : New w5 wq := hI
                                simp only [fillTo, dstOf, List.getElem?_toArray, List.getElem?_cons_zero, List.getElem?_cons_succ, Option.bind_some, Act.put, List.setIfInBounds_toArray, List.set_cons_zero, List.set_cons_succ, f7]
                                clear f7
                                have hcq := New.cells hI; have hzq := New.le hI
                                go_wp2_with fail
                                exact ⟨_, rfl, hI, New.refl _, by rw [HFF.out]; exact rfl⟩
                              · -- 9
                                intro vs kq wq hI hF
                                have f4 : pVal (.slice (some ⟨g, 0, none⟩) 31 cc) (vs 4) wq := (by have h := hF 4 (by rfl); rw [HFF.out] at h; exact h)
                                unfold pVal at f4
                                have f8 : pVal (.int .i64 (p : Int)) (vs 8) wq := (by have h := hF 8 (by rfl); rw [HFF.out] at h; exact h)
                                unfold pVal at f8
                                clear hF
                                have hI : New w5 wq := hI
                                simp only [fillTo, dstOf, List.getElem?_toArray, List.getElem?_cons_zero, List.getElem?_cons_succ, Option.bind_some, Act.put, List.setIfInBounds_toArray, List.set_cons_zero, List.set_cons_succ, f4, f8]
                                clear f4 f8
                                have hcq := New.cells hI; have hzq := New.le hI
                                go_wp2_with fail
                                exact ⟨_, rfl, hI, New.refl _, by rw [HFF.out]; exact rfl⟩
                              · -- 10
                                intro vs kq wq hI hF
                                have f9 : pVal (.pointer (some ⟨g, p, none⟩)) (vs 9) wq := (by have h := hF 9 (by rfl); rw [HFF.out] at h; exact h)
                                unfold pVal at f9
                                clear hF
                                have hI : New w5 wq := hI
                                simp only [fillTo, dstOf, List.getElem?_toArray, List.getElem?_cons_zero, List.getElem?_cons_succ, Option.bind_some, Act.put, List.setIfInBounds_toArray, List.set_cons_zero, List.set_cons_succ, f9]
                                clear f9
                                have hcq := New.cells hI; have hzq := New.le hI
                                go_wp2_with fail
                                exact ⟨_, rfl, hI, New.refl _, by rw [HFF.out]; exact rfl⟩
                              · -- 11
                                intro vs kq wq hI hF
                                clear hF
                                have hI : New w5 wq := hI
                                simp only [fillTo, dstOf, List.getElem?_toArray, List.getElem?_cons_zero, List.getElem?_cons_succ, Option.bind_some, Act.put, List.setIfInBounds_toArray, List.set_cons_zero, List.set_cons_succ]
                                have hcq := New.cells hI; have hzq := New.le hI
                                go_wp2_with fail
                                exact ⟨_, rfl, hI, New.refl _, by rw [HFF.out]; exact rfl⟩
                              · -- 12
                                intro vs kq wq hI hF
                                clear hF
                                have hI : New w5 wq := hI
                                simp only [fillTo, dstOf, List.getElem?_toArray, List.getElem?_cons_zero, List.getElem?_cons_succ, Option.bind_some, Act.put, List.setIfInBounds_toArray, List.set_cons_zero, List.set_cons_succ]
                                have hcq := New.cells hI; have hzq := New.le hI
                                go_wp2_with fail
                                exact ⟨_, rfl, hI, New.refl _, by rw [HFF.out]; exact rfl⟩
                              · -- 13
                                intro vs kq wq hI hF
                                have f11 : pVal (.slice (some ⟨b, o, none⟩) m c1) (vs 11) wq := (by have h := hF 11 (by rfl); rw [HFF.out] at h; exact h)
                                unfold pVal at f11
                                have f12 : pVal (.int .i64 (k : Int)) (vs 12) wq := (by have h := hF 12 (by rfl); rw [HFF.out] at h; exact h)
                                unfold pVal at f12
                                clear hF
                                have hI : New w5 wq := hI
                                simp only [fillTo, dstOf, List.getElem?_toArray, List.getElem?_cons_zero, List.getElem?_cons_succ, Option.bind_some, Act.put, List.setIfInBounds_toArray, List.set_cons_zero, List.set_cons_succ, f11, f12]
                                clear f11 f12
                                have hcq := New.cells hI; have hzq := New.le hI
                                go_wp2_with fail
                                exact ⟨_, rfl, hI, New.refl _, by rw [HFF.out]; exact rfl⟩
                              · -- 14
                                intro vs kq wq hI hF
                                have f13 : pVal (.pointer (some ⟨b, o + k * 3, none⟩)) (vs 13) wq := (by have h := hF 13 (by rfl); rw [HFF.out] at h; exact h)
                                unfold pVal at f13
                                clear hF
                                have hI : New w5 wq := hI
                                simp only [fillTo, dstOf, List.getElem?_toArray, List.getElem?_cons_zero, List.getElem?_cons_succ, Option.bind_some, Act.put, List.setIfInBounds_toArray, List.set_cons_zero, List.set_cons_succ, f13]
                                clear f13
                                have hcq := New.cells hI; have hzq := New.le hI
                                go_wp2_with fail
                                exact ⟨_, rfl, hI, New.refl _, by rw [HFF.out]; exact rfl⟩
                              · -- 15
                                intro vs kq wq hI hF
                                have f14 : pVal (.pointer (some ⟨b, o + k * 3, none⟩)) (vs 14) wq := (by have h := hF 14 (by rfl); rw [HFF.out] at h; exact h)
                                unfold pVal at f14
                                clear hF
                                have hI : New w5 wq := hI
                                simp only [fillTo, dstOf, List.getElem?_toArray, List.getElem?_cons_zero, List.getElem?_cons_succ, Option.bind_some, Act.put, List.setIfInBounds_toArray, List.set_cons_zero, List.set_cons_succ, f14]
                                clear f14
                                have hcq := New.cells hI; have hzq := New.le hI
                                go_wp2_with fail
                                exact ⟨_, rfl, hI, New.refl _, by rw [HFF.out]; exact rfl⟩
                              · -- 16
                                intro vs kq wq hI hF
                                have f0 : pVal (.slice (some ⟨G3, 0, none⟩) 31 c3) (vs 0) wq := (by have h := hF 0 (by rfl); rw [HFF.out] at h; exact h)
                                unfold pVal at f0
                                have f10 : pVal (.int .i64 (s : Int)) (vs 10) wq := (by have h := hF 10 (by rfl); rw [HFF.out] at h; exact h)
                                unfold pVal at f10
                                clear hF
                                have hI : New w5 wq := hI
                                simp only [fillTo, dstOf, List.getElem?_toArray, List.getElem?_cons_zero, List.getElem?_cons_succ, Option.bind_some, Act.put, List.setIfInBounds_toArray, List.set_cons_zero, List.set_cons_succ, f0, f10]
                                clear f0 f10
                                have hcq := New.cells hI; have hzq := New.le hI
                                go_wp2_with fail
                                exact ⟨_, rfl, hI, New.refl _, by rw [HFF.out]; exact rfl⟩
                            · intro vs kq wq hI hF
                              have f15 : pVal (.int .i64 x0) (vs 15) wq := (by have h := hF 15 (by omega); rw [HFF.out] at h; exact h)
                              unfold pVal at f15
                              have f16 : pVal (.pointer (some ⟨G3, s, none⟩)) (vs 16) wq := (by have h := hF 16 (by omega); rw [HFF.out] at h; exact h)
                              unfold pVal at f16
                              clear hF HFF FF
                              have hI : New w5 wq := hI
                              have HO9 := Lib.hid ((ho5.new hI).set_ s x0)
                              have HP9 := Lib.hid ((hp5.new hI).setNe h38 s (.int .i64 x0))
                              have HN9 := Lib.hid ((hn5.trans hI).setCell (p := ⟨G3, s, none⟩) hG3 (.int .i64 x0))
                              have e9 : wq.cell? ⟨G3, s, none⟩ = some (.int .i64 z) := (Below.cell hI (p := ⟨G3, s, none⟩) l3).trans d3'
                              have z9 := (ho5.new hI).frz s
                              clear ho5 hp5 hn5 hI
                              simp only [fillTo, dstOf, List.getElem?_toArray, List.getElem?_cons_zero, List.getElem?_cons_succ, Option.bind_some, Act.put, List.setIfInBounds_toArray, List.set_cons_zero, List.set_cons_succ, f15, f16, List.drop_succ_cons, List.drop_zero, List.drop_nil]
                              clear f15 f16
                              clear d0' d1' d2' d3' q0'
                              go_wp2_with fail
                              go_roundw
                              case rel => exact ⟨t + 1, L - 1, P, by omega, by go_num, by go_num, HNG.out, by rw [HTK.out]; exact HO9.out, HP9.out, hPl, by rw [HTK.out]; exact Lib.hid (hPO.out hx00), HN9.out⟩
                              case measure => simp [intOf]; omega
                      · obtain rfl : L = 0 := by omega
                        have hfull := takesS_stop (N := x0) (out := O1) (W := W) ht (by rw [HO2.out]; exact HL.out.symm)
                        rw [HO2.out] at hfull
                        have HRT2 := Lib.hid (HRT.out.trans hfull)
                        go_wp2_with fail
                        go_roundw
                        case rel => exact ⟨k + 1, 0, P, by omega, by go_num, rfl, by rw [HRT2.out]; exact HL, by rw [HRT2.out]; exact ho, hp, hPl, by rw [HRT2.out]; exact HPO, hnew⟩
                        case measure => simp [intOf]; omega
                    · obtain rfl : t = W := by omega
                      have HRT2 := Lib.hid (HRT.out.trans HO2.out)
                      go_wp2_with fail
                      go_roundw
                      case rel => exact ⟨k + 1, L, P, by omega, by go_num, rfl, by rw [HRT2.out]; exact HL, by rw [HRT2.out]; exact ho, hp, hPl, by rw [HRT2.out]; exact HPO, hnew⟩
                      case measure => simp [intOf]; omega
                · obtain rfl : k = m := by omega
                  have htk : us.take k = us := List.take_of_length_le (Nat.le_of_eq HM.out)
                  have HRR : Hid (roundS (us.take k) O0 = roundsS us (r + 1) start31) := Lib.hid (by rw [htk, roundsS, HO0.out])
                  have hst := (roundS_step us O0 HOK.out hO0l).1
                  have hL2 : L2 = L - totN us := by rw [HL2.out, htk, hst, ← HL.out]
                  clear htk
                  go_wp2_with fail
                  go_roundw
                  case rel => exact ⟨r + 1, L2, P, rfl, by omega, by rw [← HRR.out]; exact HL2, by rw [← HRR.out]; exact ho, hp, hPl, by rw [← HRR.out]; exact HPO, hnew⟩
                  case measure => simp [intOf]; omega
            · obtain rfl : L = 0 := by omega
              have hstop := roundsS_stop (us := us) (out := start31) (r := r) (by omega) (by rw [HO0.out]; exact HL.out.symm)
              rw [HO0.out] at hstop
              have HZ9 : Hid (stabZ hs = O0) := Lib.hid (by rw [HZ.out]; exact hstop)
              go_wp2_with fail
              go_ret
              rw [HZL.out, HZ9.out]
              exact ⟨_, c3, rfl, ho.capS, hcm3, ho.less HKS.out, HN1.out.trans hnew⟩
end Go.Proofs.Ytbnehcaallehbaa
