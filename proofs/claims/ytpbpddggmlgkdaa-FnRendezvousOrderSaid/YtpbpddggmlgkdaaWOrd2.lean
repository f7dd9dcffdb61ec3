/- The law FnRendezvousOrder. -/
import Derived.Test.YtpbpddggmlgkdaaOrder
import Derived.Test.YtpbpddggmlgkdaaDrawW
import Derived.Test.YtpbpddggmlgkdaaInts
import Derived.Test.YtpbpddggmlgkdaaFlow
import Derived.Test.YtpbpddggmlgkdaaQb
namespace Go.Proofs.Ytpbpddggmlgkdaa
set_option linter.unusedVariables false
set_option linter.unusedSimpArgs false
open Go.RowKit

theorem count_one {l : List Int} {z : Int} (h : l.Nodup) (hz : z ∈ l) : l.count z = 1 := by
  induction l with
  | nil => simp at hz
  | cons a t ih =>
    rw [List.nodup_cons] at h
    rw [List.count_cons]
    rcases List.mem_cons.1 hz with rfl | hm
    · have : t.count z = 0 := List.count_eq_zero.2 h.1
      simp [this]
    · have hne : ¬ a = z := fun e => h.1 (e ▸ hm)
      rw [ih h.2 hm]
      simp [hne]
theorem tkH_pos {key : Int} {x : Hst} (hk : inB key 0 1000002 = true) (hx : hostB x = true) : 0 ≤ tkH key x := by
  have hb := hostB_bd hx
  have hkb := inB_true.1 hk
  obtain ⟨t, ht⟩ : ∃ t, x.wt.toNat = t + 1 := ⟨x.wt.toNat - 1, by omega⟩
  have : ∀ t, t ≤ 4 → 0 ≤ tk key x.num (t + 1) := by
    intro t
    induction t with
    | zero =>
      intro _
      have h0 : 0 ≤ mixZ [key, x.num, ((0 : Nat) : Int)] := mixZ_nonneg (by simp) (by
        intro z hz
        simp at hz
        rcases hz with rfl | rfl | rfl <;> omega)
      unfold tk
      split
      · exact h0
      · rename_i h; simp only [tk] at h ⊢; omega
    | succ t ih =>
      intro h4
      have := ih (by omega)
      rw [tk]
      split <;> omega
  unfold tkH
  rw [ht]
  exact this t (by omega)
theorem rv_empty {P : List Hst} {key : Int} (hp : poolB P = true) (hk : inB key 0 1000002 = true) (h : rvZ P key < 0) : ups P = [] := by
  rw [rvZ_yes hp hk] at h
  rcases rvF_cases key (ups P) (-1, -1) (by simp) with ⟨e, h2⟩ | ⟨l1, x, l2, hl, e, h1, h2, h3⟩
  · rcases hu : ups P with _ | ⟨x, t⟩
    · rfl
    · have hx : x ∈ ups P := by rw [hu]; simp
      have := h2 x hx
      have := tkH_pos hk (pool_mem hp (ups_mem hx))
      simp only at *
      omega
  · have e1 : (rvL key (ups P)).1 = x.num := congrArg Prod.fst e
    have hx : x ∈ ups P := by rw [hl]; simp
    have := hostB_bd (pool_mem hp (ups_mem hx))
    omega
theorem ups_next {P : List Hst} {key : Int} (h0 : 0 ≤ rvZ P key) : (ups (setH P (rvZ P key) 0)).length + 1 = (ups P).length ∧ ∀ y ∈ ups (setH P (rvZ P key) 0), y ∈ ups P ∧ y.num ≠ rvZ P key := by
  have hok := rv_ok h0
  rcases rv_cases P key with h | ⟨hp, hk, l1, x, l2, hl, e, _⟩
  · omega
  · have hpw := ((poolB_iff.1 hp).2.1).sublist (ups_sub P)
    rw [hl, List.pairwise_append, List.pairwise_cons] at hpw
    have hu : ups (setH P (rvZ P key) 0) = l1 ++ l2 := by
      rw [setH_yes hok, ups_map_down, hl, List.filter_append, e]
      have e2 : List.filter (fun h : Hst => !(h.num == x.num)) (x :: l2) = List.filter (fun h : Hst => !(h.num == x.num)) l2 := List.filter_cons_of_neg (by simp)
      rw [e2]
      congr 1
      · rw [List.filter_eq_self]
        intro y hy
        have := hpw.2.2 y hy x (by simp)
        simp
        omega
      · rw [List.filter_eq_self]
        intro y hy
        have := hpw.2.1.1 y hy
        simp
        omega
    rw [hu, hl, e]
    refine ⟨by simp; omega, fun y hy => ?_⟩
    rcases List.mem_append.1 hy with hy | hy
    · have := hpw.2.2 y hy x (by simp)
      exact ⟨by simp [hy], by omega⟩
    · have := hpw.2.1.1 y hy
      exact ⟨by simp [hy], by omega⟩
theorem ordF_mem (key : Int) : ∀ (f : Nat) (P : List Hst), (∀ z ∈ ordF key f P, z ∈ numsOf (ups P)) ∧ (ordF key f P).Nodup
  | 0, P => ⟨fun z hz => absurd hz (by simp [ordF]), by simp [ordF]⟩
  | f + 1, P => by
    by_cases h0 : rvZ P key < 0
    · rw [ordF_stop h0]
      exact ⟨fun z hz => absurd hz (by simp), by simp⟩
    · rw [ordF_step h0]
      obtain ⟨ih1, ih2⟩ := ordF_mem key f (setH P (rvZ P key) 0)
      obtain ⟨_, hn⟩ := ups_next (P := P) (key := key) (by omega)
      have hsub : ∀ z ∈ ordF key f (setH P (rvZ P key) 0), z ∈ numsOf (ups P) ∧ z ≠ rvZ P key := fun z hz => by
        obtain ⟨y, hy, rfl⟩ := List.mem_map.1 (ih1 z hz)
        obtain ⟨h1, h2⟩ := hn y hy
        exact ⟨List.mem_map.2 ⟨y, h1, rfl⟩, h2⟩
      refine ⟨fun z hz => ?_, ?_⟩
      · rcases List.mem_cons.1 hz with rfl | hz
        · rcases rv_cases P key with h | ⟨hp, hk, l1, x, l2, hl, e, _⟩
          · omega
          · rw [e]
            exact List.mem_map.2 ⟨x, by rw [hl]; simp, rfl⟩
        · exact (hsub z hz).1
      · rw [List.nodup_cons]
        exact ⟨fun hm => (hsub _ hm).2 rfl, ih2⟩
theorem ordF_all {key : Int} (hk : inB key 0 1000002 = true) : ∀ (f : Nat) (P : List Hst), poolB P = true → (ups P).length ≤ f → (ordF key f P).length = (ups P).length
  | 0, P, _, h => by simp [ordF]; omega
  | f + 1, P, hp, h => by
    by_cases h0 : rvZ P key < 0
    · rw [ordF_stop h0, rv_empty hp hk h0]; rfl
    · rw [ordF_step h0]
      obtain ⟨h1, _⟩ := ups_next (P := P) (key := key) (by omega)
      have ih := ordF_all hk f (setH P (rvZ P key) 0) (setH_pool (rv_ok (by omega))) (by omega)
      rw [List.length_cons, ih]
      exact h1
/-- Either nothing is chosen, or all that are up are, each once, the key's host first. -/
theorem rvOrd_cases (hs : List Hst) (key : Int) : (rvOrdZ hs key = [] ∧ rvZ hs key = -1) ∨
    (∃ t, rvOrdZ hs key = rvZ hs key :: t ∧ (rvOrdZ hs key).length = (upNums hs).length ∧ ∀ z ∈ rvOrdZ hs key, (rvOrdZ hs key).count z = 1 ∧ stateZ hs z = 1) := by
  by_cases h0 : rvZ hs key < 0
  · exact .inl ⟨ordF_stop h0 _, by have := rv_ge hs key; omega⟩
  · right
    have hp := rv_pool (hs := hs) (key := key) (by omega)
    have hk : inB key 0 1000002 = true := by
      rcases rv_cases hs key with h | ⟨_, hk, _⟩
      · omega
      · exact hk
    have hne : 0 < hs.length := by
      rcases Nat.eq_zero_or_pos hs.length with h | h
      · have := List.eq_nil_of_length_eq_zero h
        subst this
        rcases rv_cases [] key with h | ⟨_, _, l1, x, l2, hl, _⟩
        · omega
        · simp [ups] at hl
      · exact h
    obtain ⟨f, hf⟩ : ∃ f, hs.length = f + 1 := ⟨hs.length - 1, by omega⟩
    have e : rvOrdZ hs key = rvZ hs key :: ordF key f (setH hs (rvZ hs key) 0) := by unfold rvOrdZ; rw [hf, ordF_step h0]
    obtain ⟨m1, m2⟩ := ordF_mem key hs.length hs
    refine ⟨_, e, ?_, fun z hz => ⟨count_one m2 hz, ?_⟩⟩
    · rw [upNums_yes hp, numsOf_len]
      exact ordF_all hk _ hs hp (ups_len hs)
    · have hm := m1 z hz
      rw [← upNums_yes hp] at hm
      obtain ⟨i, hi, rfl⟩ := List.getElem_of_mem hm
      exact upNums_state (k := i) (by simp)
set_option maxRecDepth 100000 in
set_option maxHeartbeats 1000000 in
theorem walk_FnRendezvousOrder (A : Option Addr) (n c : Nat) (zs : List Int) (w : World) (H : ArgInts .u8 w A n c 1 zs) :
    Calls Try.prog 6 #[.slice A n c] w fun e w' => e = .returned (.bool true) ∧ New w w' := by
  have hc := CodeArg.of H
  have hm := hc.2.1
  unfold maxLen at hm
  clear H
  by_cases hbig : 1048576 < n
  · go_enter Try.func6, Try.ntmps6
    go_wp2_with fail
    go_ret
    exact ⟨rfl, (by repeat (first | with_reducible assumption | with_reducible exact New.refl _ | with_reducible refine New.alloc ?_ _ | with_reducible refine New.drew ?_ | with_reducible refine New.drewN ?_ _ | refine New.setCell ?_ (by first | (simp; done) | omega | (simp; omega)) _ | with_reducible refine New.trans ?_ (by with_reducible assumption)))⟩
  go_enter Try.func6, Try.ntmps6
  go_wp2_with fail
  refine (DrawRendezvousOrder_any A n c zs _ hc).mono ?_
  rintro e w1 ⟨A', c', hs, key, rfl, l7, lc, cm, hpl, hI, z0, z1, hA0, b1⟩
  obtain ⟨K, hK⟩ : ∃ K, hs.length = K := ⟨_, rfl⟩
  rw [hK] at l7 lc ⊢
  have HK := Lib.hid hK
  have hml : K ≤ maxLen := by unfold maxLen; omega
  obtain ⟨us, hus⟩ : ∃ us, us = rvOrdZ hs key := ⟨_, rfl⟩
  obtain ⟨m, hm2⟩ : ∃ m, us.length = m := ⟨_, rfl⟩
  have hul := rvOrdZ_len hs key
  rw [← hus, hm2, hK] at hul
  have hmml : m ≤ maxLen := by unfold maxLen; omega
  have HM := Lib.hid hm2
  have IM : Hid (∀ w, Ints w A' (flat hs) → Calls Try.prog 15 #[.slice A' K c', .int .i64 key] w (RetRow 3 1 w m us)) := Lib.hid fun w h => by
    rw [← hm2, hus]; exact rvOrder_impl _ K c' hs key w hK (by omega) h
  have SP : Hid (∀ w, Ints w A' (flat hs) → Calls Try.prog 13 #[.slice A' K c', .int .i64 key] w (RetRow 3 1 w m us)) := Lib.hid fun w h => by
    rw [← hm2, hus]; exact rvOrder_spec _ K c' hs key w hK lc hA0 (by omega) h
  have hcs := rvOrd_cases hs key
  rw [← hus, hm2] at hcs
  have HCS := Lib.hid hcs
  clear hus hm2 hK hc hpl hcs hA0
  go_wp2_with fail
  refine (IM.out _ hI).mono ?_
  rintro e w2 ⟨A2, c2, rfl, nc2, cm2, o2, b2⟩
  have B2 := b1.trans b2
  have I2 := hI.new b2
  go_wp2_with fail
  refine (SP.out _ I2).mono ?_
  rintro e w3 ⟨A3, c3, rfl, nc3, cm3, o3, b3⟩
  have B3 := B2.trans b3
  have I3 := I2.new b3
  go_wp2_with fail
  refine (sameInts_any A2 A3 m c2 m c3 us us _ HM.out HM.out hmml hmml (o2.ints.new b3) o3.ints).mono ?_
  rintro e w4 ⟨rfl, b4⟩
  simp only [decide_true]
  have B4 := B3.trans b4
  have I4 := I3.new b4
  have X4 := (o2.ints.new b3).new b4
  clear o2 o3 hI I2 I3 b1 b2 b3 b4 B2 B3
  rcases HCS.out with ⟨hz, hrv⟩ | ⟨t, ht, hlen, hall⟩
  · have hm0 : m = 0 := by rw [← HM.out, hz]; rfl
    subst hm0
    have HR := Lib.hid hrv
    clear hz hrv HCS
    go_wp2_with fail
    refine (rvHost_impl A' K c' hs key _ HK.out (by omega) I4).mono ?_
    rintro e w5 ⟨rfl, b5⟩
    rw [HR.out]
    go_wp2_with fail
    refine (alive_any _).mono ?_
    rintro e w6 ⟨rfl, b6⟩
    go_wp2_with fail
    go_ret
    exact ⟨rfl, (B4.trans b5).trans b6⟩
  · have hmp : 0 < m := by rw [← HM.out, ht]; simp
    have hmb : ((m : Int) == 0) = false := by simp; omega
    have HLEN := Lib.hid hlen
    have HALL := Lib.hid hall
    have h0 := Lib.hid (show us[0]? = some (rvZ hs key) by rw [ht]; rfl)
    clear ht hlen hall HCS
    go_wp2_with fail
    go_loopw [6] (fun i wr => ∃ k : Nat, k ≤ m ∧ i = .int .i64 k ∧ New w4 wr) (fun i _ => m - (intOf i).toNat)
    case atStart => exact ⟨0, Nat.zero_le _, rfl, New.refl _⟩
    case round =>
      obtain ⟨k, hk, rfl, hnew⟩ := hrel
      have Xr := X4.new hnew
      have Ir := I4.new hnew
      by_cases hlt : k < m
      · obtain ⟨b, o, z, rfl, hz, hb, c0⟩ := Xr.elem (k := k) (by rw [HM.out]; exact hlt)
        have hzz := HALL.out z (List.mem_of_getElem? hz)
        have HC := Lib.hid hzz.1
        have HS := Lib.hid hzz.2
        have hki : (k : Int) < (m : Int) := by omega
        clear hz hzz
        go_wp2_with fail
        refine (countOf_impl (some ⟨b, o, none⟩) m c2 us z _ HM.out hmml Xr).mono ?_
        rintro e w' ⟨rfl, rfl⟩
        rw [HC.out]
        go_wp2_with fail
        refine (hostState_impl A' K c' hs z _ HK.out hml Ir).mono ?_
        rintro e w5 ⟨rfl, b5⟩
        rw [HS.out]
        go_wp2_with fail
        go_roundw
        case rel => exact ⟨k + 1, by omega, by go_num, hnew.trans b5⟩
        case measure => simp [intOf]; omega
      · obtain rfl : k = m := by omega
        obtain ⟨b, o, z, rfl, hz, hb, c0⟩ := Xr.elem (k := 0) (by rw [HM.out]; exact hmp)
        obtain ⟨Z, hZ⟩ : ∃ Z, rvZ hs key = Z := ⟨_, rfl⟩
        have HZ := Lib.hid hZ
        obtain rfl : Z = z := by rw [h0.out, hZ] at hz; exact Option.some.inj hz
        simp only [Nat.add_zero] at c0
        have IU : Hid (∀ w, Ints w A' (flat hs) → Calls Try.prog 25 #[.slice A' K c'] w (RetRow 3 1 w k (upNums hs))) := Lib.hid fun w h => by
          rw [HLEN.out]; exact hostsUp_impl _ K c' hs w HK.out (by omega) h
        clear hz hZ
        have HIr := Lib.hid Ir
        have HW := Lib.hid (B4.trans hnew)
        go_wp2_with fail
        obtain ⟨FF, hFF⟩ : ∃ FF, FF = factAt [pVal (.slice (some ⟨b, o, none⟩) k c2), pVal (.pointer (some ⟨b, o, none⟩)), pVal (.int .i64 Z), pVal (.slice A' K c'), pVal (.int .i64 key), pVal (.int .i64 Z), pVal (.bool true), pVal (.bool true), pVal (.slice (some ⟨b, o, none⟩) k c2), pVal (.int .i64 k), pVal (.slice A' K c'), pRow k (upNums hs), pVal (.int .i64 k), pVal (.bool true), pVal (.bool true), pVal (.bool true)] := ⟨_, rfl⟩
        have HFF := Lib.hid hFF
        clear hFF
        refine wp_region_tail 16 (by kernel_rfl) (by kernel_rfl) (by kernel_rfl) (by decide) (LrI wr) FF New (by rw [HFF.out]; exact factAt_keptN (by
            intro P hP
            simp only [List.mem_cons, List.not_mem_nil, or_false] at hP
            rcases hP with rfl | rfl | rfl | rfl | rfl | rfl | rfl | rfl | rfl | rfl | rfl | rfl | rfl | rfl | rfl | rfl
            · exact keptN_val _
            · exact keptN_val _
            · exact keptN_val _
            · exact keptN_val _
            · exact keptN_val _
            · exact keptN_val _
            · exact keptN_val _
            · exact keptN_val _
            · exact keptN_val _
            · exact keptN_val _
            · exact keptN_val _
            · exact keptN_row _ _
            · exact keptN_val _
            · exact keptN_val _
            · exact keptN_val _
            · exact keptN_val _
            )) (New.drew (New.refl _)) ?_ ?_
        · refine ⟨?_, ?_, ?_, ?_, ?_, ?_, ?_, ?_, ?_, ?_, ?_, ?_, ?_, ?_, ?_, ?_, trivial⟩
          · -- 0: Op.move t5
            intro vs kq wq hI hF
            have hI : New wr wq := hI
            clear hF
            simp only [fillTo, dstOf, List.getElem?_toArray, List.getElem?_cons_zero, List.getElem?_cons_succ, Option.bind_some, Act.put, List.setIfInBounds_toArray, List.set_cons_zero, List.set_cons_succ]
            go_wp2_with fail
            exact ⟨_, rfl, hI, New.refl _, by rw [HFF.out]; exact rfl⟩
          · -- 1: Op.indexAddr 24 t56 (const (0:i64))
            intro vs kq wq hI hF
            have hI : New wr wq := hI
            have f0 : pVal (.slice (some ⟨b, o, none⟩) k c2) (vs 0) wq := (by have h := hF 0 (by rfl); rw [HFF.out] at h; exact h)
            unfold pVal at f0
            clear hF
            simp only [fillTo, dstOf, List.getElem?_toArray, List.getElem?_cons_zero, List.getElem?_cons_succ, Option.bind_some, Act.put, List.setIfInBounds_toArray, List.set_cons_zero, List.set_cons_succ, f0]
            clear f0
            have hcq := New.cells hI; have hzq := New.le hI
            go_wp2_with fail
            exact ⟨_, rfl, hI, New.refl _, by rw [HFF.out]; exact rfl⟩
          · -- 2: Op.load 3 t57
            intro vs kq wq hI hF
            have hI : New wr wq := hI
            have f1 : pVal (.pointer (some ⟨b, o, none⟩)) (vs 1) wq := (by have h := hF 1 (by rfl); rw [HFF.out] at h; exact h)
            unfold pVal at f1
            clear hF
            simp only [fillTo, dstOf, List.getElem?_toArray, List.getElem?_cons_zero, List.getElem?_cons_succ, Option.bind_some, Act.put, List.setIfInBounds_toArray, List.set_cons_zero, List.set_cons_succ, f1]
            clear f1
            have hcq := New.cells hI; have hzq := New.le hI
            go_wp2_with fail
            exact ⟨_, rfl, hI, New.refl _, by rw [HFF.out]; exact rfl⟩
          · -- 3: Op.move t3
            intro vs kq wq hI hF
            have hI : New wr wq := hI
            clear hF
            simp only [fillTo, dstOf, List.getElem?_toArray, List.getElem?_cons_zero, List.getElem?_cons_succ, Option.bind_some, Act.put, List.setIfInBounds_toArray, List.set_cons_zero, List.set_cons_succ]
            go_wp2_with fail
            exact ⟨_, rfl, hI, New.refl _, by rw [HFF.out]; exact rfl⟩
          · -- 4: Op.move t4
            intro vs kq wq hI hF
            have hI : New wr wq := hI
            clear hF
            simp only [fillTo, dstOf, List.getElem?_toArray, List.getElem?_cons_zero, List.getElem?_cons_succ, Option.bind_some, Act.put, List.setIfInBounds_toArray, List.set_cons_zero, List.set_cons_succ]
            go_wp2_with fail
            exact ⟨_, rfl, hI, New.refl _, by rw [HFF.out]; exact rfl⟩
          · -- 5: Op.call { value (Operand.func 30), args := #[t59, t60], argT
            intro vs kq wq hI hF
            have hI : New wr wq := hI
            have f3 : pVal (.slice A' K c') (vs 3) wq := (by have h := hF 3 (by rfl); rw [HFF.out] at h; exact h)
            unfold pVal at f3
            have f4 : pVal (.int .i64 key) (vs 4) wq := (by have h := hF 4 (by rfl); rw [HFF.out] at h; exact h)
            unfold pVal at f4
            clear hF
            simp only [fillTo, dstOf, List.getElem?_toArray, List.getElem?_cons_zero, List.getElem?_cons_succ, Option.bind_some, Act.put, List.setIfInBounds_toArray, List.set_cons_zero, List.set_cons_succ, f3, f4]
            clear f3 f4
            go_wp2_with fail
            refine (rvHost_impl A' K c' hs key _ HK.out (by omega) (HIr.out.new hI)).mono ?_
            rintro e w' ⟨rfl, hb⟩
            rw [HZ.out]
            go_wp2_with fail
            exact ⟨_, rfl, New.trans hI hb, hb, by rw [HFF.out]; exact rfl⟩
          · -- 6: Op.binOp BinOp.eql 3 t58 t61 3
            intro vs kq wq hI hF
            have hI : New wr wq := hI
            have f2 : pVal (.int .i64 Z) (vs 2) wq := (by have h := hF 2 (by rfl); rw [HFF.out] at h; exact h)
            unfold pVal at f2
            have f5 : pVal (.int .i64 Z) (vs 5) wq := (by have h := hF 5 (by rfl); rw [HFF.out] at h; exact h)
            unfold pVal at f5
            clear hF
            simp only [fillTo, dstOf, List.getElem?_toArray, List.getElem?_cons_zero, List.getElem?_cons_succ, Option.bind_some, Act.put, List.setIfInBounds_toArray, List.set_cons_zero, List.set_cons_succ, f2, f5]
            clear f2 f5
            go_wp2_with fail
            exact ⟨_, rfl, hI, New.refl _, by rw [HFF.out]; exact rfl⟩
          · -- 7: Op.move t62
            intro vs kq wq hI hF
            have hI : New wr wq := hI
            have f6 : pVal (.bool true) (vs 6) wq := (by have h := hF 6 (by rfl); rw [HFF.out] at h; exact h)
            unfold pVal at f6
            clear hF
            simp only [fillTo, dstOf, List.getElem?_toArray, List.getElem?_cons_zero, List.getElem?_cons_succ, Option.bind_some, Act.put, List.setIfInBounds_toArray, List.set_cons_zero, List.set_cons_succ, f6]
            clear f6
            go_wp2_with fail
            exact ⟨_, rfl, hI, New.refl _, by rw [HFF.out]; exact rfl⟩
          · -- 8: Op.move t5   [guarded: some (7, true)]
            intro vs kq wq hI hF
            have hI : New wr wq := hI
            have f7 : pVal (.bool true) (vs 7) wq := (by have h := hF 7 (by rfl); rw [HFF.out] at h; exact h)
            unfold pVal at f7
            clear hF
            simp only [fillTo, dstOf, List.getElem?_toArray, List.getElem?_cons_zero, List.getElem?_cons_succ, Option.bind_some, Act.put, List.setIfInBounds_toArray, List.set_cons_zero, List.set_cons_succ, f7]
            clear f7
            go_wp2_with fail
            exact ⟨_, rfl, hI, New.refl _, by rw [HFF.out]; exact rfl⟩
          · -- 9: Op.call { builtin len, args := #[t64], argTypes := #[24] }  
            intro vs kq wq hI hF
            have hI : New wr wq := hI
            have f8 : pVal (.slice (some ⟨b, o, none⟩) k c2) (vs 8) wq := (by have h := hF 8 (by rfl); rw [HFF.out] at h; exact h)
            unfold pVal at f8
            have f7 : pVal (.bool true) (vs 7) wq := (by have h := hF 7 (by rfl); rw [HFF.out] at h; exact h)
            unfold pVal at f7
            clear hF
            simp only [fillTo, dstOf, List.getElem?_toArray, List.getElem?_cons_zero, List.getElem?_cons_succ, Option.bind_some, Act.put, List.setIfInBounds_toArray, List.set_cons_zero, List.set_cons_succ, f8, f7]
            clear f8 f7
            go_wp2_with fail
            exact ⟨_, rfl, hI, New.refl _, by rw [HFF.out]; exact rfl⟩
          · -- 10: Op.move t3   [guarded: some (7, true)]
            intro vs kq wq hI hF
            have hI : New wr wq := hI
            have f7 : pVal (.bool true) (vs 7) wq := (by have h := hF 7 (by rfl); rw [HFF.out] at h; exact h)
            unfold pVal at f7
            clear hF
            simp only [fillTo, dstOf, List.getElem?_toArray, List.getElem?_cons_zero, List.getElem?_cons_succ, Option.bind_some, Act.put, List.setIfInBounds_toArray, List.set_cons_zero, List.set_cons_succ, f7]
            clear f7
            go_wp2_with fail
            exact ⟨_, rfl, hI, New.refl _, by rw [HFF.out]; exact rfl⟩
          · -- 11: Op.call { value (Operand.func 25), args := #[t66], argTypes 
            intro vs kq wq hI hF
            have hI : New wr wq := hI
            have f10 : pVal (.slice A' K c') (vs 10) wq := (by have h := hF 10 (by rfl); rw [HFF.out] at h; exact h)
            unfold pVal at f10
            have f7 : pVal (.bool true) (vs 7) wq := (by have h := hF 7 (by rfl); rw [HFF.out] at h; exact h)
            unfold pVal at f7
            clear hF
            simp only [fillTo, dstOf, List.getElem?_toArray, List.getElem?_cons_zero, List.getElem?_cons_succ, Option.bind_some, Act.put, List.setIfInBounds_toArray, List.set_cons_zero, List.set_cons_succ, f10, f7]
            clear f10 f7
            go_wp2_with fail
            refine (IU.out _ (HIr.out.new hI)).mono ?_
            rintro e w' ⟨A14, c14, rfl, nc14, cm14, o14, hb⟩
            go_wp2_with fail
            exact ⟨_, rfl, New.trans hI hb, hb, by rw [HFF.out]; exact ⟨_, _, rfl, nc14, cm14, o14.ints⟩⟩
          · -- 12: Op.call { builtin len, args := #[t67], argTypes := #[24] }  
            intro vs kq wq hI hF
            have hI : New wr wq := hI
            have f11 : pRow k (upNums hs) (vs 11) wq := (by have h := hF 11 (by rfl); rw [HFF.out] at h; exact h)
            refine Shut.out ?_
            obtain ⟨A11, c11, f11, nc11, cm11, I11⟩ := f11
            refine Shut.mk ?_
            have f7 : pVal (.bool true) (vs 7) wq := (by have h := hF 7 (by rfl); rw [HFF.out] at h; exact h)
            unfold pVal at f7
            clear hF
            simp only [fillTo, dstOf, List.getElem?_toArray, List.getElem?_cons_zero, List.getElem?_cons_succ, Option.bind_some, Act.put, List.setIfInBounds_toArray, List.set_cons_zero, List.set_cons_succ, f11, f7]
            clear f11 f7
            go_wp2_with fail
            exact ⟨_, rfl, hI, New.refl _, by rw [HFF.out]; exact rfl⟩
          · -- 13: Op.binOp BinOp.eql 3 t65 t68 3   [guarded: some (7, true)]
            intro vs kq wq hI hF
            have hI : New wr wq := hI
            have f9 : pVal (.int .i64 k) (vs 9) wq := (by have h := hF 9 (by rfl); rw [HFF.out] at h; exact h)
            unfold pVal at f9
            have f12 : pVal (.int .i64 k) (vs 12) wq := (by have h := hF 12 (by rfl); rw [HFF.out] at h; exact h)
            unfold pVal at f12
            have f7 : pVal (.bool true) (vs 7) wq := (by have h := hF 7 (by rfl); rw [HFF.out] at h; exact h)
            unfold pVal at f7
            clear hF
            simp only [fillTo, dstOf, List.getElem?_toArray, List.getElem?_cons_zero, List.getElem?_cons_succ, Option.bind_some, Act.put, List.setIfInBounds_toArray, List.set_cons_zero, List.set_cons_succ, f9, f12, f7]
            clear f9 f12 f7
            go_wp2_with fail
            exact ⟨_, rfl, hI, New.refl _, by rw [HFF.out]; exact rfl⟩
          · -- 14: Op.pick t63 t69 (const (Value.bool false))
            intro vs kq wq hI hF
            have hI : New wr wq := hI
            have f7 : pVal (.bool true) (vs 7) wq := (by have h := hF 7 (by rfl); rw [HFF.out] at h; exact h)
            unfold pVal at f7
            have f13 : pVal (.bool true) (vs 13) wq := (by have h := hF 13 (by rfl); rw [HFF.out] at h; exact h)
            unfold pVal at f13
            clear hF
            simp only [fillTo, dstOf, List.getElem?_toArray, List.getElem?_cons_zero, List.getElem?_cons_succ, Option.bind_some, Act.put, List.setIfInBounds_toArray, List.set_cons_zero, List.set_cons_succ, f7, f13]
            clear f7 f13
            go_wp2_with fail
            exact ⟨_, rfl, hI, New.refl _, by rw [HFF.out]; exact rfl⟩
          · -- 15: Op.assign t70
            intro vs kq wq hI hF
            have hI : New wr wq := hI
            have f14 : pVal (.bool true) (vs 14) wq := (by have h := hF 14 (by rfl); rw [HFF.out] at h; exact h)
            unfold pVal at f14
            clear hF
            simp only [fillTo, dstOf, List.getElem?_toArray, List.getElem?_cons_zero, List.getElem?_cons_succ, Option.bind_some, Act.put, List.setIfInBounds_toArray, List.set_cons_zero, List.set_cons_succ, f14]
            clear f14
            go_wp2_with fail
            exact ⟨_, rfl, hI, New.refl _, by rw [HFF.out]; exact rfl⟩
        · intro vs kq w6 hI hF
          have f15 : pVal (.bool true) (vs 15) w6 := (by have h := hF 15 (by omega); rw [HFF.out] at h; exact h)
          unfold pVal at f15
          have hI : New wr w6 := hI
          clear hF
          simp only [fillTo, dstOf, List.getElem?_toArray, List.getElem?_cons_zero, List.getElem?_cons_succ, Option.bind_some, Act.put, List.setIfInBounds_toArray, List.set_cons_zero, List.set_cons_succ, List.drop_succ_cons, List.drop_zero, f15]
          go_wp2_with fail
          go_ret
          exact ⟨rfl, HW.out.trans hI⟩
end Go.Proofs.Ytpbpddggmlgkdaa
