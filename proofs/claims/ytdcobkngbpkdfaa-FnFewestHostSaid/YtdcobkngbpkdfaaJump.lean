/- The host of a key's bucket. -/
import Derived.Test.YtdcobkngbpkdfaaUpN
import Derived.Test.YtdcobkngbpkdfaaMix
namespace Go.Proofs.Ytdcobkngbpkdfaa
set_option linter.unusedVariables false
set_option linter.unusedSimpArgs false
open Go.RowKit

theorem jumpAt_lt (key : Int) : ∀ m : Nat, 0 ≤ jumpAt key m ∧ (1 ≤ m → jumpAt key m < m)
  | 0 => by simp [jumpAt]
  | m + 1 => by
    have ih := jumpAt_lt key m
    unfold jumpAt
    split
    · omega
    · refine ⟨ih.1, fun _ => ?_⟩
      by_cases hm : 1 ≤ m
      · have := ih.2 hm; omega
      · obtain rfl : m = 0 := by omega
        simp [jumpAt]
/-- The bucket of a key that is fine is one of the buckets. -/
theorem jumpZ_at {key : Int} {m : Nat} (hk : inB key 0 1000002 = true) (h1 : 1 ≤ m) (h2 : m ≤ 50) : ∃ j : Nat, jumpZ key m = j ∧ j < m := by
  have hb : (inB key 0 1000002 && inB (m : Int) 1 50) = true := by
    rw [hk]; simp [inB]; omega
  have hz : jumpZ key m = jumpAt key m := by simp [jumpZ, hb]
  have hl := jumpAt_lt key m
  have hl2 := hl.2 h1
  exact ⟨(jumpAt key m).toNat, by rw [hz]; omega, by omega⟩
def jumpHZ (hs : List Hst) (key : Int) : Int := if (upNums hs).length = 0 ∨ inB key 0 1000002 = false then -1 else (upNums hs).getD (jumpZ key (upNums hs).length).toNat 0
theorem jumpHZ_none {hs : List Hst} {key : Int} (h : (upNums hs).length = 0) : jumpHZ hs key = -1 := by simp [jumpHZ, h]
theorem jumpHZ_nokey {hs : List Hst} {key : Int} (h : inB key 0 1000002 = false) : jumpHZ hs key = -1 := by simp [jumpHZ, h]
theorem jumpHZ_hit {hs : List Hst} {key z : Int} {j : Nat} (hm : 1 ≤ (upNums hs).length) (hk : inB key 0 1000002 = true) (hj : jumpZ key (upNums hs).length = j) (hz : (upNums hs)[j]? = some z) : jumpHZ hs key = z := by
  unfold jumpHZ
  rw [if_neg (by rw [hk]; simp; intro h; rw [h] at hm; simp at hm), hj]
  simp [List.getD_eq_getElem?_getD, hz]
set_option maxRecDepth 100000 in
theorem jumpHost_impl (A : Option Addr) (n c : Nat) (hs : List Hst) (key : Int) (w : World) (hn : hs.length = n) (hm : n ≤ 1048576) (h : Ints w A (flat hs)) :
    Calls Try.prog 23 #[.slice A n c, .int .i64 key] w fun e w' => e = .returned (.int .i64 (jumpHZ hs key)) ∧ New w w' := by
  obtain ⟨us, hus⟩ : ∃ us, us = upNums hs := ⟨_, rfl⟩
  obtain ⟨m, hm2⟩ : ∃ m, us.length = m := ⟨_, rfl⟩
  have hul := upNums_len hs
  rw [← hus, hm2] at hul
  have IM : Hid (∀ w, Ints w A (flat hs) → Calls Try.prog 41 #[.slice A n c] w (RetRow 3 1 w m us)) := Lib.hid fun w h => by
    rw [← hm2, hus]; exact hostsUp_impl _ n c hs w hn hm h
  have HM := Lib.hid hm2
  have HU := Lib.hid hus
  by_cases hm0 : m = 0
  · subst hm0
    have HZ := Lib.hid (jumpHZ_none (key := key) (by rw [← hus]; exact hm2))
    clear hus hm2 hn hul
    go_enter Try.func23, Try.ntmps23
    go_wp2_with fail
    refine (IM.out _ h).mono ?_
    rintro e w2 ⟨A2, c2, rfl, nc2, cm2, o2, b2⟩
    go_wp2_with fail
    go_ret
    exact ⟨by rw [HZ.out]; rfl, b2⟩
  have hmp : 1 ≤ m := by omega
  have hm6 : m ≤ 6 := hul.1
  have hmb : ((m : Int) == 0) = false := by simp; omega
  cases hk : inB key 0 1000002
  · have HZ := Lib.hid (jumpHZ_nokey (hs := hs) hk)
    clear hus hm2 hn hul
    go_enter Try.func23, Try.ntmps23
    go_wp2_with fail
    refine (IM.out _ h).mono ?_
    rintro e w2 ⟨A2, c2, rfl, nc2, cm2, o2, b2⟩
    go_wp2_with fail
    refine (isKey_any _ _).mono ?_
    rintro e w' ⟨rfl, rfl⟩
    rw [hk]
    go_wp2_with fail
    go_ret
    exact ⟨by rw [HZ.out]; rfl, b2⟩
  · obtain ⟨j, hj, hjm⟩ := jumpZ_at hk hmp (by omega)
    have HJ := Lib.hid hj
    have hji : (j : Int) < (m : Int) := by omega
    clear hus hm2 hn hul hj
    go_enter Try.func23, Try.ntmps23
    go_wp2_with fail
    refine (IM.out _ h).mono ?_
    rintro e w2 ⟨A2, c2, rfl, nc2, cm2, o2, b2⟩
    go_wp2_with fail
    refine (isKey_any _ _).mono ?_
    rintro e w' ⟨rfl, rfl⟩
    rw [hk]
    go_wp2_with fail
    refine (jumpBucket_impl _ _ _).mono ?_
    rintro e w3 ⟨rfl, b3⟩
    rw [HJ.out]
    obtain ⟨b, o, z, rfl, hz, hb, c0⟩ := (o2.new b3).ints.elem (k := j) (by rw [HM.out]; exact hjm)
    have HZ := Lib.hid (jumpHZ_hit (hs := hs) (by rw [← HU.out, HM.out]; exact hmp) hk (by rw [← HU.out, HM.out]; exact HJ.out) (by rw [← HU.out]; exact hz))
    clear hz o2
    go_wp2_with fail
    go_ret
    exact ⟨by rw [HZ.out]; rfl, b2.trans b3⟩
set_option maxRecDepth 100000 in
theorem jumpHost_spec (A : Option Addr) (n c : Nat) (hs : List Hst) (key : Int) (w : World) (hn : hs.length = n) (hm : n ≤ 1048576) (h : Ints w A (flat hs)) :
    Calls Try.prog 21 #[.slice A n c, .int .i64 key] w fun e w' => e = .returned (.int .i64 (jumpHZ hs key)) ∧ New w w' := by
  obtain ⟨us, hus⟩ : ∃ us, us = upNums hs := ⟨_, rfl⟩
  obtain ⟨m, hm2⟩ : ∃ m, us.length = m := ⟨_, rfl⟩
  have hul := upNums_len hs
  rw [← hus, hm2] at hul
  have IM : Hid (∀ w, Ints w A (flat hs) → Calls Try.prog 62 #[.slice A n c] w (RetRow 3 1 w m us)) := Lib.hid fun w h => by
    rw [← hm2, hus]; exact hostsUp_spec _ n c hs w hn hm h
  have HM := Lib.hid hm2
  have HU := Lib.hid hus
  by_cases hm0 : m = 0
  · subst hm0
    have HZ := Lib.hid (jumpHZ_none (key := key) (by rw [← hus]; exact hm2))
    clear hus hm2 hn hul
    go_enter Try.func21, Try.ntmps21
    go_wp2_with fail
    refine (IM.out _ h).mono ?_
    rintro e w2 ⟨A2, c2, rfl, nc2, cm2, o2, b2⟩
    go_wp2_with fail
    go_ret
    exact ⟨by rw [HZ.out]; rfl, b2⟩
  have hmp : 1 ≤ m := by omega
  have hm6 : m ≤ 6 := hul.1
  have hmb : ((m : Int) == 0) = false := by simp; omega
  cases hk : inB key 0 1000002
  · have HZ := Lib.hid (jumpHZ_nokey (hs := hs) hk)
    clear hus hm2 hn hul
    go_enter Try.func21, Try.ntmps21
    go_wp2_with fail
    refine (IM.out _ h).mono ?_
    rintro e w2 ⟨A2, c2, rfl, nc2, cm2, o2, b2⟩
    go_wp2_with fail
    refine (l1In_any _ _ _ _).mono ?_
    rintro e w' ⟨rfl, rfl⟩
    rw [hk]
    go_wp2_with fail
    go_ret
    exact ⟨by rw [HZ.out]; rfl, b2⟩
  · obtain ⟨j, hj, hjm⟩ := jumpZ_at hk hmp (by omega)
    have HJ := Lib.hid hj
    have hji : (j : Int) < (m : Int) := by omega
    clear hus hm2 hn hul hj
    go_enter Try.func21, Try.ntmps21
    go_wp2_with fail
    refine (IM.out _ h).mono ?_
    rintro e w2 ⟨A2, c2, rfl, nc2, cm2, o2, b2⟩
    go_wp2_with fail
    refine (l1In_any _ _ _ _).mono ?_
    rintro e w' ⟨rfl, rfl⟩
    rw [hk]
    go_wp2_with fail
    refine (jumpBucket_spec _ _ _).mono ?_
    rintro e w3 ⟨rfl, b3⟩
    rw [HJ.out]
    obtain ⟨b, o, z, rfl, hz, hb, c0⟩ := (o2.new b3).ints.elem (k := j) (by rw [HM.out]; exact hjm)
    have HZ := Lib.hid (jumpHZ_hit (hs := hs) (by rw [← HU.out, HM.out]; exact hmp) hk (by rw [← HU.out, HM.out]; exact HJ.out) (by rw [← HU.out]; exact hz))
    clear hz o2
    go_wp2_with fail
    go_ret
    exact ⟨by rw [HZ.out]; rfl, b2.trans b3⟩
end Go.Proofs.Ytdcobkngbpkdfaa
