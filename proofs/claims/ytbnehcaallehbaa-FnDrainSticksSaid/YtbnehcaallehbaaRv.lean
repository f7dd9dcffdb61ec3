/- Rendezvous: the host with the greatest number of all tickets. -/
import Derived.Test.YtbnehcaallehbaaTot
import Derived.Test.YtbnehcaallehbaaMix
namespace Go.Proofs.Ytbnehcaallehbaa
set_option linter.unusedVariables false
set_option linter.unusedSimpArgs false
open Go.RowKit

/-- The best host and its number, behind t tickets of a host. -/
def rvT (key num : Int) : Nat → Int × Int → Int × Int
  | 0, s => s
  | t + 1, s => if (rvT key num t s).2 < mixZ [key, num, (t : Int)] then (num, mixZ [key, num, (t : Int)]) else rvT key num t s
def rvL (key : Int) (l : List Hst) : Int × Int := l.foldl (fun s h => rvT key h.num h.wt.toNat s) (-1, -1)
def rvZ (hs : List Hst) (key : Int) : Int := if (poolB hs && inB key 0 1000002) = true then (rvL key (ups hs)).1 else -1
theorem rvZ_no {hs : List Hst} {key : Int} (h : poolB hs = false) : rvZ hs key = -1 := by simp [rvZ, h]
theorem rvZ_nokey {hs : List Hst} {key : Int} (h : inB key 0 1000002 = false) : rvZ hs key = -1 := by simp [rvZ, h]
theorem rvZ_yes {hs : List Hst} {key : Int} (h : poolB hs = true) (hk : inB key 0 1000002 = true) : rvZ hs key = (rvL key (ups hs)).1 := by simp [rvZ, h, hk]
theorem rvT_hit {key num : Int} {t : Nat} {s : Int × Int} (h : (rvT key num t s).2 < mixZ [key, num, (t : Int)]) : rvT key num (t + 1) s = (num, mixZ [key, num, (t : Int)]) := by rw [rvT, if_pos h]
theorem rvT_miss {key num : Int} {t : Nat} {s : Int × Int} (h : ¬ (rvT key num t s).2 < mixZ [key, num, (t : Int)]) : rvT key num (t + 1) s = rvT key num t s := by rw [rvT, if_neg h]
theorem rvL_take {key : Int} {l : List Hst} {k : Nat} {x : Hst} (hx : l[k]? = some x) : rvL key (l.take (k + 1)) = rvT key x.num x.wt.toNat (rvL key (l.take k)) := by
  unfold rvL
  rw [List.take_add_one, hx]
  simp
theorem rvL_snoc (key : Int) (l : List Hst) (x : Hst) : rvL key (l ++ [x]) = rvT key x.num x.wt.toNat (rvL key l) := by simp [rvL]

set_option maxRecDepth 100000 in
theorem rvHost_impl (A : Option Addr) (n c : Nat) (hs : List Hst) (key : Int) (w : World) (hn : hs.length = n) (hm : n ≤ 1048576) (h : Ints w A (flat hs)) :
    Calls Try.prog 57 #[.slice A n c, .int .i64 key] w fun e w' => e = .returned (.int .i64 (rvZ hs key)) ∧ New w w' := by
  have hml : n ≤ maxLen := by unfold maxLen; omega
  have HN := Lib.hid hn
  clear hn
  cases hP : poolB hs
  · have HS := Lib.hid (rvZ_no (key := key) hP)
    go_enter Try.func57, Try.ntmps57
    go_wp2_with fail
    refine (poolValid_impl A n c hs _ HN.out hml h).mono ?_
    rintro e w1 ⟨rfl, b1⟩
    rw [hP]
    have hc1 := New.cells b1; have hf1 := New.marks b1; have hz1 := New.le b1; try simp only [World.size_alloc, World.size_setCell] at hz1
    try have z1_0_0 : w.heap.size < w1.heap.size := by omega
    try have z1_0_1 : w.heap.size + 1 < w1.heap.size := by omega
    try have z1_0_2 : w.heap.size + 2 < w1.heap.size := by omega
    go_wp2_with fail
    go_ret
    exact ⟨by rw [HS.out]; rfl, (by repeat (first | with_reducible assumption | with_reducible exact New.refl _ | with_reducible refine New.alloc ?_ _ | with_reducible refine New.drew ?_ | with_reducible refine New.drewN ?_ _ | refine New.setCell ?_ (by first | (simp; done) | omega | (simp; omega)) _ | with_reducible refine New.trans ?_ (by with_reducible assumption)))⟩
  cases hk : inB key 0 1000002
  · have HS := Lib.hid (rvZ_nokey (hs := hs) hk)
    go_enter Try.func57, Try.ntmps57
    go_wp2_with fail
    refine (poolValid_impl A n c hs _ HN.out hml h).mono ?_
    rintro e w1 ⟨rfl, b1⟩
    rw [hP]
    have hc1 := New.cells b1; have hf1 := New.marks b1; have hz1 := New.le b1; try simp only [World.size_alloc, World.size_setCell] at hz1
    try have z1_0_0 : w.heap.size < w1.heap.size := by omega
    try have z1_0_1 : w.heap.size + 1 < w1.heap.size := by omega
    try have z1_0_2 : w.heap.size + 2 < w1.heap.size := by omega
    go_wp2_with (go_at_call 93; refine (isKey_any _ _).mono ?_; rintro e w' ⟨rfl, rfl⟩)
    go_ret
    exact ⟨by rw [HS.out]; rfl, (by repeat (first | with_reducible assumption | with_reducible exact New.refl _ | with_reducible refine New.alloc ?_ _ | with_reducible refine New.drew ?_ | with_reducible refine New.drewN ?_ _ | refine New.setCell ?_ (by first | (simp; done) | omega | (simp; omega)) _ | with_reducible refine New.trans ?_ (by with_reducible assumption)))⟩
  have HS := Lib.hid (rvZ_yes hP hk)
  have hul := ups_len hs
  have hpl := pool_len hP
  have hwt := Lib.hid (wt_bd hP)
  go_enter Try.func57, Try.ntmps57
  go_wp2_with fail
  refine (poolValid_impl A n c hs _ HN.out hml h).mono ?_
  rintro e w1 ⟨rfl, b1⟩
  rw [hP]
  have hc1 := New.cells b1; have hf1 := New.marks b1; have hz1 := New.le b1; try simp only [World.size_alloc, World.size_setCell] at hz1
  try have z1_0_0 : w.heap.size < w1.heap.size := by omega
  try have z1_0_1 : w.heap.size + 1 < w1.heap.size := by omega
  try have z1_0_2 : w.heap.size + 2 < w1.heap.size := by omega
  clear hP
  go_wp2_with (go_at_call 93; refine (isKey_any _ _).mono ?_; rintro e w' ⟨rfl, rfl⟩)
  refine (up_any A n c hs _ HN.out hm (h.new b1)).mono ?_
  rintro e w2 ⟨A2, c2, rfl, hnc2, hcm2, o2, b2⟩
  have hI := o2.ints
  have B2 := b1.trans b2
  have HU : Hid (∃ us, us = ups hs) := Lib.hid ⟨_, rfl⟩
  obtain ⟨us, hus⟩ := HU.out
  rw [← hus] at hI hul HS ⊢
  have HUS := Lib.hid hus
  clear hus o2 hc1 hf1 hk
  obtain ⟨m, hm2⟩ : ∃ m, m = us.length := ⟨_, rfl⟩
  rw [← hm2] at hul ⊢
  have HM := Lib.hid hm2
  clear hm2
  go_wp2_with fail
  go_loopw [5, 6, 22] (fun v s i wr => ∃ (k : Nat) (r : Int × Int), k ≤ m ∧ i = .int .i64 k ∧ Hid (rvL key (us.take k) = r) ∧ v = .int .i64 r.1 ∧ s = .int .i64 r.2 ∧ New w2 wr) (fun _ _ i _ => m - (intOf i).toNat)
  case atStart => exact ⟨0, (-1, -1), Nat.zero_le _, rfl, Lib.hid rfl, rfl, rfl, New.refl _⟩
  case round =>
    obtain ⟨k, ⟨r1, r2⟩, hk, rfl, HR, rfl, rfl, hnew⟩ := hrel
    by_cases hlt : k < m
    · obtain ⟨b, o, x, rfl, hx, hb, c0, c1, c2⟩ := hosts_at (hI.new hnew) (k := k) (by rw [← HM.out]; exact hlt)
      have hxw := hwt.out x (ups_mem (by rw [← HUS.out]; exact List.mem_of_getElem? hx))
      have HX := Lib.hid (rvL_take (key := key) hx)
      clear hx
      obtain ⟨x0, x1, x2⟩ := x
      simp only at c0 c1 c2 HX hxw
      have hki : (k : Int) < (m : Int) := by omega
      obtain ⟨y0, y1⟩ := hxw
      obtain ⟨W, rfl⟩ := Int.eq_ofNat_of_zero_le (show 0 ≤ x1 by omega)
      have hW : W ≤ 5 := by omega
      rw [HR.out, Int.toNat_natCast] at HX
      obtain ⟨w3, hw3⟩ : ∃ w3, w3 = wr.alloc (.cells #[.int .i64 x0, .int .i64 W, .int .i64 x2] 64) := ⟨_, rfl⟩
      have b3 : New wr w3 := by rw [hw3]; exact (New.refl wr).alloc _
      have row3 := heap_alloc_new wr (.cells #[.int .i64 x0, .int .i64 W, .int .i64 x2] 64)
      rw [← hw3] at row3
      have d0 : w3.cell? ⟨wr.heap.size, 0, none⟩ = some (.int .i64 x0) := by rw [cell_of_row _ _ _ _ _ _ row3]; rfl
      have d1 : w3.cell? ⟨wr.heap.size, 1, none⟩ = some (.int .i64 W) := by rw [cell_of_row _ _ _ _ _ _ row3]; rfl
      have hs3 : wr.heap.size < w3.heap.size := by rw [hw3, World.size_alloc]; omega
      have hnew3 := hnew.trans b3
      clear row3
      go_wp2_with fail
      rw [← hw3]
      clear hw3 b3 hnew c0 c1 c2
      generalize wr.heap.size = G at *
      go_loopw [5, 6, 28] (fun v s i wi => ∃ (t : Nat) (q : Int × Int), t ≤ W ∧ i = .int .i64 t ∧ Hid (rvT key x0 t (r1, r2) = q) ∧ v = .int .i64 q.1 ∧ s = .int .i64 q.2 ∧ New w3 wi) (fun _ _ i _ => W - (intOf i).toNat)
      case atStart => exact ⟨0, (r1, r2), Nat.zero_le _, rfl, Lib.hid rfl, rfl, rfl, New.refl _⟩
      case round =>
        obtain ⟨t, ⟨q1, q2⟩, ht, rfl, HQ, rfl, rfl, hnewI⟩ := hrel
        have e0 : (_ : World).cell? ⟨G, 0, none⟩ = _ := (Below.cell hnewI (p := ⟨G, 0, none⟩) hs3).trans d0
        have hsI : G < _ := Nat.lt_of_lt_of_le hs3 hnewI.le
        clear d0 d1
        by_cases htl : t < W
        · have hti : (t : Int) < (W : Int) := by omega
          by_cases hgt : q2 < mixZ [key, x0, (t : Int)]
          · have HS2 := Lib.hid (rvT_hit (key := key) (num := x0) (t := t) (s := (r1, r2)) (by rw [HQ.out]; exact hgt))
            go_wp2_with fail
            refine (mix_any _ 3 3 [key, x0, (t : Int)] _ rfl (by unfold maxLen; omega) (Ints.built _ _ _)).mono ?_
            rintro e w' ⟨rfl, rfl⟩
            go_wp2_with fail
            go_roundw
            case rel => exact ⟨t + 1, _, by omega, by go_num, HS2, rfl, rfl, (by repeat (first | with_reducible assumption | with_reducible exact New.refl _ | with_reducible refine New.alloc ?_ _ | with_reducible refine New.drew ?_ | with_reducible refine New.drewN ?_ _ | refine New.setCell ?_ (by first | (simp; done) | omega | (simp; omega)) _ | with_reducible refine New.trans ?_ (by with_reducible assumption)))⟩
            case measure => simp [intOf]; omega
          · have HS2 := Lib.hid (rvT_miss (key := key) (num := x0) (t := t) (s := (r1, r2)) (by rw [HQ.out]; exact hgt))
            rw [HQ.out] at HS2
            go_wp2_with fail
            refine (mix_any _ 3 3 [key, x0, (t : Int)] _ rfl (by unfold maxLen; omega) (Ints.built _ _ _)).mono ?_
            rintro e w' ⟨rfl, rfl⟩
            go_wp2_with fail
            go_roundw
            case rel => exact ⟨t + 1, _, by omega, by go_num, HS2, rfl, rfl, (by repeat (first | with_reducible assumption | with_reducible exact New.refl _ | with_reducible refine New.alloc ?_ _ | with_reducible refine New.drew ?_ | with_reducible refine New.drewN ?_ _ | refine New.setCell ?_ (by first | (simp; done) | omega | (simp; omega)) _ | with_reducible refine New.trans ?_ (by with_reducible assumption)))⟩
            case measure => simp [intOf]; omega
        · obtain rfl : t = W := by omega
          rw [HQ.out] at HX
          go_wp2_with fail
          go_roundw
          case rel => exact ⟨k + 1, _, by omega, by go_num, HX, rfl, rfl, hnew3.trans hnewI⟩
          case measure => simp [intOf]; omega
    · obtain rfl : k = m := by omega
      have HT := Lib.hid (show us.take k = us from List.take_of_length_le (by rw [← HM.out]; exact Nat.le_refl _))
      go_wp2_with fail
      go_ret
      have hr := HR.out
      rw [HT.out] at hr
      exact ⟨ret_int (by rw [HS.out, hr]), B2.trans hnew⟩
set_option maxRecDepth 100000 in
theorem rvHost_spec (A : Option Addr) (n c : Nat) (hs : List Hst) (key : Int) (w : World) (hn : hs.length = n) (hm : n ≤ 1048576) (h : Ints w A (flat hs)) :
    Calls Try.prog 90 #[.slice A n c, .int .i64 key] w fun e w' => e = .returned (.int .i64 (rvZ hs key)) ∧ New w w' := by
  have hml : n ≤ maxLen := by unfold maxLen; omega
  have HN := Lib.hid hn
  clear hn
  cases hPK : (poolB hs && inB key 0 1000002)
  · have HS := Lib.hid (show rvZ hs key = -1 by simp [rvZ, hPK])
    have hP2 : poolB hs = false ∨ (poolB hs = true ∧ inB key 0 1000002 = false) := by
      cases h1 : poolB hs
      · exact .inl rfl
      · rw [h1] at hPK; exact .inr ⟨rfl, by simpa using hPK⟩
    have HP2 := Lib.hid hP2
    clear hP2 hPK
    go_enter Try.func90, Try.ntmps90
    go_wp2_with fail
    go_loopw [5, 6, 7] (fun v s i wr => v = .int .i64 (-1) ∧ s = .int .i64 (-1) ∧ i = .int .i64 0 ∧ New w wr) (fun _ _ _ _ => 0)
    case atStart => exact ⟨rfl, rfl, rfl, New.refl _⟩
    case round =>
      obtain ⟨rfl, rfl, rfl, hnew⟩ := hrel
      by_cases h0 : 0 < n
      · go_wp2_with fail
        refine (poolValid_spec A n c hs _ HN.out hml (h.new hnew)).mono ?_
        rintro e w1 ⟨rfl, b1⟩
        rcases HP2.out with hP | ⟨hP, hk⟩
        · rw [hP]
          go_wp2_with fail
          go_ret
          exact ⟨by rw [HS.out]; rfl, (by repeat (first | with_reducible assumption | with_reducible exact New.refl _ | with_reducible refine New.alloc ?_ _ | with_reducible refine New.drew ?_ | with_reducible refine New.drewN ?_ _ | refine New.setCell ?_ (by first | (simp; done) | omega | (simp; omega)) _ | with_reducible refine New.trans ?_ (by with_reducible assumption)))⟩
        · rw [hP]
          go_wp2_with fail
          refine (l1In_any _ _ _ _).mono ?_
          rintro e w' ⟨rfl, rfl⟩
          rw [hk]
          go_wp2_with fail
          go_ret
          exact ⟨by rw [HS.out]; rfl, (by repeat (first | with_reducible assumption | with_reducible exact New.refl _ | with_reducible refine New.alloc ?_ _ | with_reducible refine New.drew ?_ | with_reducible refine New.drewN ?_ _ | refine New.setCell ?_ (by first | (simp; done) | omega | (simp; omega)) _ | with_reducible refine New.trans ?_ (by with_reducible assumption)))⟩
      · obtain rfl : n = 0 := by omega
        go_wp2_with fail
        go_ret
        exact ⟨by rw [HS.out]; rfl, (by repeat (first | with_reducible assumption | with_reducible exact New.refl _ | with_reducible refine New.alloc ?_ _ | with_reducible refine New.drew ?_ | with_reducible refine New.drewN ?_ _ | refine New.setCell ?_ (by first | (simp; done) | omega | (simp; omega)) _ | with_reducible refine New.trans ?_ (by with_reducible assumption)))⟩
  · have hPK' : poolB hs = true ∧ inB key 0 1000002 = true := by simpa using hPK
    have HS := Lib.hid (rvZ_yes hPK'.1 hPK'.2)
    have HP := Lib.hid hPK'.1
    have HK := Lib.hid hPK'.2
    have hpl := pool_len hPK'.1
    rw [HN.out] at hpl
    have hwt := Lib.hid (wt_bd hPK'.1)
    clear hPK hPK'
    go_enter Try.func90, Try.ntmps90
    go_wp2_with fail
    go_loopw [5, 6, 7] (fun s v i wr => ∃ (k : Nat) (r : Int × Int), k ≤ n ∧ i = .int .i64 k ∧ Hid (rvL key (ups (hs.take k)) = r) ∧ v = .int .i64 r.1 ∧ s = .int .i64 r.2 ∧ New w wr) (fun _ _ i _ => n - (intOf i).toNat)
    case atStart => exact ⟨0, (-1, -1), Nat.zero_le _, rfl, Lib.hid rfl, rfl, rfl, New.refl _⟩
    case round =>
      obtain ⟨k, ⟨r1, r2⟩, hk, rfl, HR, rfl, rfl, hnew⟩ := hrel
      by_cases hlt : k < n
      · have hki : (k : Int) < (n : Int) := by omega
        go_wp2_with fail
        refine (poolValid_spec A n c hs _ HN.out hml (h.new hnew)).mono ?_
        rintro e w1 ⟨rfl, b1⟩
        rw [HP.out]
        have hnew1 := hnew.trans b1
        go_wp2_with fail
        refine (l1In_any _ _ _ _).mono ?_
        rintro e w' ⟨rfl, rfl⟩
        rw [HK.out]
        obtain ⟨b, o, x, rfl, hx, hb, c0, c1, c2⟩ := hosts_at (h.new hnew1) (k := k) (by rw [HN.out]; exact hlt)
        have hxw := hwt.out x (List.mem_of_getElem? hx)
        have HX := Lib.hid (ups_take hx)
        clear hx
        obtain ⟨x0, x1, x2⟩ := x
        simp only at c0 c1 c2 HX hxw
        obtain ⟨y0, y1⟩ := hxw
        obtain ⟨W, rfl⟩ := Int.eq_ofNat_of_zero_le (show 0 ≤ x1 by omega)
        have hW : W ≤ 5 := by omega
        have hW0 : 0 < W := by omega
        by_cases hup : x2 = 1
        · subst hup
          have HV : Hid (rvL key (ups (hs.take (k + 1))) = rvT key x0 W (r1, r2)) := Lib.hid (by rw [HX.out]; simp only [beq_self_eq_true, if_true]; rw [rvL_snoc, HR.out]; simp)
          go_wp2_with fail
          go_loopw [5, 6, 8] (fun s v i wi => ∃ (t : Nat) (q : Int × Int), t ≤ W ∧ i = .int .i64 t ∧ Hid (rvT key x0 t (r1, r2) = q) ∧ v = .int .i64 q.1 ∧ s = .int .i64 q.2 ∧ New w1 wi) (fun _ _ i _ => W - (intOf i).toNat)
          case atStart => exact ⟨0, (r1, r2), Nat.zero_le _, rfl, Lib.hid rfl, rfl, rfl, New.refl _⟩
          case round =>
            obtain ⟨t, ⟨q1, q2⟩, ht, rfl, HQ, rfl, rfl, hnewI⟩ := hrel
            have e0 : (_ : World).cell? ⟨b, o + k * 3, none⟩ = _ := (Below.cell hnewI (p := ⟨b, o + k * 3, none⟩) hb).trans c0
            have e1 : (_ : World).cell? ⟨b, o + k * 3 + 1, none⟩ = _ := (Below.cell hnewI (p := ⟨b, o + k * 3 + 1, none⟩) hb).trans c1
            have e2 : (_ : World).cell? ⟨b, o + k * 3 + 2, none⟩ = _ := (Below.cell hnewI (p := ⟨b, o + k * 3 + 2, none⟩) hb).trans c2
            have hbI : b < _ := Nat.lt_of_lt_of_le hb hnewI.le
            clear c0 c1 c2
            by_cases htl : t < W
            · have hti : (t : Int) < (W : Int) := by omega
              by_cases hgt : q2 < mixZ [key, x0, (t : Int)]
              · have HS2 := Lib.hid (rvT_hit (key := key) (num := x0) (t := t) (s := (r1, r2)) (by rw [HQ.out]; exact hgt))
                go_wp2_with fail
                refine (mixNumbers_spec _ 3 3 [key, x0, (t : Int)] _ rfl (by unfold maxLen; omega) (Ints.built _ _ _)).mono ?_
                rintro e w' ⟨rfl, rfl⟩
                go_wp2_with fail
                go_roundw
                case rel => exact ⟨t + 1, _, by omega, by go_num, HS2, rfl, rfl, (by repeat (first | with_reducible assumption | with_reducible exact New.refl _ | with_reducible refine New.alloc ?_ _ | with_reducible refine New.drew ?_ | with_reducible refine New.drewN ?_ _ | refine New.setCell ?_ (by first | (simp; done) | omega | (simp; omega)) _ | with_reducible refine New.trans ?_ (by with_reducible assumption)))⟩
                case measure => simp [intOf]; omega
              · have HS2 := Lib.hid (rvT_miss (key := key) (num := x0) (t := t) (s := (r1, r2)) (by rw [HQ.out]; exact hgt))
                rw [HQ.out] at HS2
                go_wp2_with fail
                refine (mixNumbers_spec _ 3 3 [key, x0, (t : Int)] _ rfl (by unfold maxLen; omega) (Ints.built _ _ _)).mono ?_
                rintro e w' ⟨rfl, rfl⟩
                go_wp2_with fail
                go_roundw
                case rel => exact ⟨t + 1, _, by omega, by go_num, HS2, rfl, rfl, (by repeat (first | with_reducible assumption | with_reducible exact New.refl _ | with_reducible refine New.alloc ?_ _ | with_reducible refine New.drew ?_ | with_reducible refine New.drewN ?_ _ | refine New.setCell ?_ (by first | (simp; done) | omega | (simp; omega)) _ | with_reducible refine New.trans ?_ (by with_reducible assumption)))⟩
                case measure => simp [intOf]; omega
            · obtain rfl : t = W := by omega
              rw [HQ.out] at HV
              go_wp2_with fail
              go_roundw
              case rel => exact ⟨k + 1, _, by omega, by go_num, HV, rfl, rfl, hnew1.trans hnewI⟩
              case measure => simp [intOf]; omega
        · have hup' : (x2 == 1) = false := by simpa using hup
          have HV : Hid (rvL key (ups (hs.take (k + 1))) = (r1, r2)) := Lib.hid (by rw [HX.out, hup']; simpa using HR.out)
          go_wp2_with fail
          go_loopw [5, 6, 8] (fun s v i wi => i = .int .i64 0 ∧ v = .int .i64 r1 ∧ s = .int .i64 r2 ∧ New w1 wi) (fun _ _ _ _ => 0)
          case atStart => exact ⟨rfl, rfl, rfl, New.refl _⟩
          case round =>
            obtain ⟨rfl, rfl, rfl, hnewI⟩ := hrel
            have e0 : (_ : World).cell? ⟨b, o + k * 3, none⟩ = _ := (Below.cell hnewI (p := ⟨b, o + k * 3, none⟩) hb).trans c0
            have e1 : (_ : World).cell? ⟨b, o + k * 3 + 1, none⟩ = _ := (Below.cell hnewI (p := ⟨b, o + k * 3 + 1, none⟩) hb).trans c1
            have e2 : (_ : World).cell? ⟨b, o + k * 3 + 2, none⟩ = _ := (Below.cell hnewI (p := ⟨b, o + k * 3 + 2, none⟩) hb).trans c2
            have hbI : b < _ := Nat.lt_of_lt_of_le hb hnewI.le
            clear c0 c1 c2
            go_wp2_with fail
            go_roundw
            case rel => exact ⟨k + 1, _, by omega, by go_num, HV, rfl, rfl, hnew1.trans hnewI⟩
            case measure => simp [intOf]; omega
      · obtain rfl : k = n := by omega
        have HT := Lib.hid (show hs.take k = hs from List.take_of_length_le (by rw [HN.out]; exact Nat.le_refl _))
        go_wp2_with fail
        go_ret
        have hr := HR.out
        rw [HT.out] at hr
        exact ⟨ret_int (by rw [HS.out, hr]), hnew⟩
end Go.Proofs.Ytbnehcaallehbaa
