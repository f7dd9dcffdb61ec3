/- The order in which a host wants the slots. -/
import Derived.Test.YtbnehcaallehbaaMix
import Derived.Test.YtbnehcaallehbaaOwn
import Derived.Test.YtbnehcaallehbaaTypes
namespace Go.Proofs.Ytbnehcaallehbaa
set_option linter.unusedVariables false
set_option linter.unusedSimpArgs false
open Go.RowKit

def ordAt (N : Int) (k : Nat) : Int := (mixZ [N, 1] + (k : Int) * (1 + mixZ [N, 2] % 30)) % 31
def ordTo (N : Int) (k : Nat) : List Int := (List.range k).map (ordAt N)
def orderZ (N : Int) : List Int := if inB N 0 30 = true then ordTo N 31 else []
theorem ordTo_len (N : Int) (k : Nat) : (ordTo N k).length = k := by simp [ordTo]
theorem ordTo_succ (N : Int) (k : Nat) : ordTo N (k + 1) = ordTo N k ++ [ordAt N k] := by simp [ordTo, List.range_succ]
theorem ordAt_bd (N : Int) (k : Nat) : 0 ≤ ordAt N k ∧ ordAt N k ≤ 30 := by unfold ordAt; omega
theorem ordAt_succ (N : Int) (k : Nat) : (ordAt N k + (1 + mixZ [N, 2] % 30)) % 31 = ordAt N (k + 1) := by
  unfold ordAt
  have e : ((k + 1 : Nat) : Int) * (1 + mixZ [N, 2] % 30) = (k : Int) * (1 + mixZ [N, 2] % 30) + (1 + mixZ [N, 2] % 30) := by
    rw [show ((k + 1 : Nat) : Int) = (k : Int) + 1 by omega, Int.add_mul, Int.one_mul]
  rw [e]
  generalize (k : Int) * (1 + mixZ [N, 2] % 30) = t
  generalize mixZ [N, 1] = a
  generalize 1 + mixZ [N, 2] % 30 = s
  omega
theorem orderZ_yes {N : Int} (h : inB N 0 30 = true) : orderZ N = ordTo N 31 := by simp [orderZ, h]
theorem orderZ_no {N : Int} (h : inB N 0 30 = false) : orderZ N = [] := by simp [orderZ, h]

set_option maxRecDepth 100000 in
theorem slotOrder_impl (N : Int) (w : World) : Calls Try.prog 86 #[.int .i64 N] w (RetRow 3 1 w (orderZ N).length (orderZ N)) := by
  obtain ⟨i0, hi, hz0, hz1, hz2⟩ := info_parts int_info
  cases hV : inB N 0 30
  · have HZ := Lib.hid (orderZ_no hV)
    go_enter Try.func86, Try.ntmps86
    go_wp2_with (go_at_call 76; refine (in_any _ _ _ _).mono ?_; rintro e w' ⟨rfl, rfl⟩)
    go_ret
    rw [HZ.out]
    exact ⟨none, 0, rfl, Nat.le_refl _, Nat.zero_le _, World.ownsRow_nil _ _ _ _, New.refl _⟩
  · have HZ := Lib.hid (orderZ_yes hV)
    obtain ⟨hN0, hN1⟩ := inB_true.1 hV
    have ha := mixZ_nonneg (zs := [N, 1]) (by simp) (by simp; omega)
    have hb := mixZ_nonneg (zs := [N, 2]) (by simp) (by simp; omega)
    have ha1 := (mixZ_bd [N, 1]).2
    have hb1 := (mixZ_bd [N, 2]).2
    obtain ⟨S, hS⟩ : ∃ S, 1 + mixZ [N, 2] % 30 = S := ⟨_, rfl⟩
    have hS0 : 1 ≤ S := by omega
    have hS1 : S ≤ 30 := by omega
    have HA := Lib.hid (show ∀ k : Nat, (mixZ [N, 1] + (k : Int) * S) % 31 = ordAt N k by intro k; unfold ordAt; rw [hS])
    go_enter Try.func86, Try.ntmps86
    go_wp2_with (go_at_call 76; refine (in_any _ _ _ _).mono ?_; rintro e w' ⟨rfl, rfl⟩)
    refine (mix_any _ 2 2 [N, 1] _ rfl (by unfold maxLen; omega) (Ints.built _ _ _)).mono ?_
    rintro e w' ⟨rfl, rfl⟩
    go_wp2_with fail
    refine (mix_any _ 2 2 [N, 2] _ rfl (by unfold maxLen; omega) (Ints.lit _ _ [N, 2] _ (by simp))).mono ?_
    rintro e w' ⟨rfl, rfl⟩
    go_wp2_with fail
    have b0 := ((New.refl w).alloc (.cells #[.int .i64 N, .int .i64 1] 3)).alloc (.cells #[.int .i64 N, .int .i64 2] 3)
    go_loopw [5, 16] (fun v i wr => ∃ (k : Nat) (A : Option Addr) (c : Nat), k ≤ 31 ∧ i = .int .i64 k ∧ v = .slice A k c ∧ k ≤ c ∧ c ≤ maxLen ∧ Own 3 1 w.heap.size wr A k c (ordTo N k) ∧ New w wr) (fun _ i _ => 31 - (intOf i).toNat)
    case atStart => exact ⟨0, none, 0, by omega, rfl, rfl, Nat.le_refl _, Nat.zero_le _, World.ownsRow_nil _ _ _ _, b0⟩
    case round =>
      obtain ⟨k, A, c, hk, rfl, rfl, hkc, hcm, hown, hnew⟩ := hrel
      clear b0
      by_cases hlt : k < 31
      · have p0 : 0 ≤ (k : Int) * S := Int.mul_nonneg (by omega) (by omega)
        have p1 : (k : Int) * S ≤ 900 := by
          have := Int.mul_le_mul (show (k : Int) ≤ 30 by omega) hS1 (by omega) (by omega)
          omega
        have hV' := HA.out k
        have HV := Lib.hid hV'
        have b1 := (New.refl wr).alloc (.cells #[.int .i64 ((mixZ [N, 1] + (k : Int) * S) % 31)] 3)
        have HO := Lib.hid (hown.new b1)
        have HB := Lib.hid (hnew.trans b1)
        clear b1 hown hV'
        go_wp2_with (at_builtin; refine wpList_append_Own _ rfl (.tmp 19) (.tmp 28) 51 rfl w 3 i0 _ 1 8 Try.underlying51 hi hz0 hz1 hz2 rfl (by omega) (by omega) A k c _ rfl HO.out _ 1 1 [(mixZ [N, 1] + (k : Int) * S) % 31] rfl rfl (Ints.lit _ _ [_] _ (by simp)) (by omega) (by omega) HB.out ?_; intro A2 c2' w2 h1 h2 hown2 hnew2 _)
        go_roundw
        case rel =>
          refine ⟨k + 1, A2, c2', by omega, by go_num, rfl, h1, h2, ?_, hnew2⟩
          rw [ordTo_succ, ← HV.out]
          exact hown2
        case measure => simp [intOf]; omega
      · obtain rfl : k = 31 := by omega
        go_wp2_with fail
        go_ret
        rw [HZ.out, ordTo_len]
        exact ⟨A, c, rfl, hkc, hcm, hown, hnew⟩
set_option maxRecDepth 100000 in
theorem slotOrder_spec (N : Int) (w : World) : Calls Try.prog 85 #[.int .i64 N] w (RetRow 3 1 w (orderZ N).length (orderZ N)) := by
  obtain ⟨i0, hi, hz0, hz1, hz2⟩ := info_parts int_info
  have o0 : Own 3 1 w.heap.size (w.alloc (.cells #[] 3)) (some ⟨w.heap.size, 0, none⟩) 0 0 [] := World.ownsRow_lit w #[] 0 (Nat.le_refl _) (Nat.zero_le _) rfl
  cases hV : inB N 0 30
  · have HZ := Lib.hid (orderZ_no hV)
    go_enter Try.func85, Try.ntmps85
    go_wp2_with (go_at_call 79; refine (l1In_any _ _ _ _).mono ?_; rintro e w' ⟨rfl, rfl⟩)
    go_ret
    rw [HZ.out]
    exact ⟨_, 0, rfl, Nat.le_refl _, Nat.zero_le _, o0, (by repeat (first | with_reducible assumption | with_reducible exact New.refl _ | with_reducible refine New.alloc ?_ _ | with_reducible refine New.drew ?_ | with_reducible refine New.drewN ?_ _ | refine New.setCell ?_ (by first | (simp; done) | omega | (simp; omega)) _ | with_reducible refine New.trans ?_ (by with_reducible assumption)))⟩
  · have HZ := Lib.hid (orderZ_yes hV)
    obtain ⟨hN0, hN1⟩ := inB_true.1 hV
    have ha := mixZ_nonneg (zs := [N, 1]) (by simp) (by simp; omega)
    have hb := mixZ_nonneg (zs := [N, 2]) (by simp) (by simp; omega)
    have ha1 := (mixZ_bd [N, 1]).2
    have hb1 := (mixZ_bd [N, 2]).2
    have HA0 := Lib.hid (show mixZ [N, 1] % 31 = ordAt N 0 by unfold ordAt; simp)
    have HA := Lib.hid (ordAt_succ N)
    have HBD := Lib.hid (ordAt_bd N)
    obtain ⟨S, hS⟩ : ∃ S, 1 + mixZ [N, 2] % 30 = S := ⟨_, rfl⟩
    have hS0 : 1 ≤ S := by omega
    have hS1 : S ≤ 30 := by omega
    rw [hS] at HA
    go_enter Try.func85, Try.ntmps85
    go_wp2_with (go_at_call 79; refine (l1In_any _ _ _ _).mono ?_; rintro e w' ⟨rfl, rfl⟩)
    refine (mixNumbers_spec _ 2 2 [N, 1] _ rfl (by unfold maxLen; omega) (Ints.lit _ _ [N, 1] _ (by simp))).mono ?_
    rintro e w' ⟨rfl, rfl⟩
    go_wp2_with fail
    refine (mixNumbers_spec _ 2 2 [N, 2] _ rfl (by unfold maxLen; omega) (Ints.lit _ _ [N, 2] _ (by simp))).mono ?_
    rintro e w' ⟨rfl, rfl⟩
    go_wp2_with fail
    have b0 := (((New.refl w).alloc (.cells #[] 3)).alloc (.cells #[.int .i64 N, .int .i64 1] 3)).alloc (.cells #[.int .i64 N, .int .i64 2] 3)
    have o1 := o0.new (((New.refl _).alloc (.cells #[.int .i64 N, .int .i64 1] 3)).alloc (.cells #[.int .i64 N, .int .i64 2] 3))
    go_loopw [3, 4, 6] (fun v a i wr => ∃ (k : Nat) (A : Option Addr) (c : Nat), k ≤ 31 ∧ i = .int .i64 k ∧ v = .slice A k c ∧ a = .int .i64 (ordAt N k) ∧ k ≤ c ∧ c ≤ maxLen ∧ Own 3 1 w.heap.size wr A k c (ordTo N k) ∧ New w wr) (fun _ _ i _ => 31 - (intOf i).toNat)
    case atStart => exact ⟨0, _, 0, by omega, rfl, rfl, by rw [← HA0.out], Nat.le_refl _, Nat.zero_le _, o1, b0⟩
    case round =>
      obtain ⟨k, A, c, hk, rfl, rfl, rfl, hkc, hcm, hown, hnew⟩ := hrel
      clear b0 o0 o1
      obtain ⟨t0, t1⟩ := HBD.out k
      by_cases hlt : k < 31
      · have HV := Lib.hid (HA.out k)
        have b1 := (New.refl wr).alloc (.cells #[.int .i64 (ordAt N k)] 3)
        have HO := Lib.hid (hown.new b1)
        have HB := Lib.hid (hnew.trans b1)
        clear b1 hown
        go_wp2_with (at_builtin; refine wpList_append_Own _ rfl (.tmp 25) (.tmp 27) 51 rfl w 3 i0 _ 1 8 Try.underlying51 hi hz0 hz1 hz2 rfl (by omega) (by omega) A k c _ rfl HO.out _ 1 1 [ordAt N k] rfl rfl (Ints.lit _ _ [_] _ (by simp)) (by omega) (by omega) HB.out ?_; intro A2 c2' w2 h1 h2 hown2 hnew2 _)
        go_roundw
        case rel =>
          refine ⟨k + 1, A2, c2', by omega, by go_num, rfl, by rw [← HV.out], h1, h2, ?_, hnew2⟩
          rw [ordTo_succ]
          exact hown2
        case measure => simp [intOf]; omega
      · obtain rfl : k = 31 := by omega
        go_wp2_with fail
        go_ret
        rw [HZ.out, ordTo_len]
        exact ⟨A, c, rfl, hkc, hcm, hown, hnew⟩
end Go.Proofs.Ytbnehcaallehbaa
