/- The law FnCountOf. -/
import Derived.Test.YtafnhheblnbjeaaDrawR
import Derived.Test.YtafnhheblnbjeaaInts
import Derived.Test.YtafnhheblnbjeaaFlow
import Derived.StillTailTactics
namespace Go.Proofs.Ytafnhheblnbjeaa
open Go.RowKit

theorem count_parts (ys : List Int) (h : Nat) (x : Int) : (((ys.take h).count x : Nat) : Int) + (((ys.drop h).count x : Nat) : Int) = ((ys.count x : Nat) : Int) := by
  have := List.count_append (a := x) (l₁ := ys.take h) (l₂ := ys.drop h)
  rw [List.take_append_drop] at this
  omega
theorem count_le_len (ys : List Int) (x : Int) : ((ys.count x : Nat) : Int) ≤ (ys.length : Int) := by
  have := List.count_le_length (a := x) (l := ys)
  omega
theorem ints_take {w : World} {A : Option Addr} {zs : List Int} (h : Ints w A zs) (k : Nat) : Ints w A (zs.take k) := by
  intro hn
  obtain ⟨b, o, hA, hc⟩ := h (by simp at hn; omega)
  refine ⟨b, o, hA, fun j hj => ?_⟩
  have hjk : j < k ∧ j < zs.length := by simp at hj; omega
  rw [hc j hjk.2]
  simp [List.getD_eq_getElem?_getD, List.getElem?_take, hjk.1]
theorem ints_nil {w : World} {A : Option Addr} {zs : List Int} (h : zs.length = 0) : Ints w A zs := fun hn => by omega
theorem wrap_small (k : Nat) (h : (k : Int) ≤ 8) : IntKind.i64.wrap (k : Int) = (k : Int) := by
  rw [IntKind.wrap_i64]
  omega
theorem ints_drop0 {w : World} {zs : List Int} (h : Ints w none zs) (k : Nat) : Ints w none (zs.drop k) := by
  intro hn
  obtain ⟨b', o', hA, hc⟩ := h (by simp at hn; omega)
  cases hA
theorem ints_drop {w : World} {b o : Nat} {zs : List Int} (h : Ints w (some ⟨b, o, none⟩) zs) (k : Nat) : Ints w (some ⟨b, o + k, none⟩) (zs.drop k) := by
  intro hn
  obtain ⟨b', o', hA, hc⟩ := h (by simp at hn; omega)
  obtain ⟨rfl, rfl⟩ : b = b' ∧ o = o' := by simpa using hA
  refine ⟨b, o + k, rfl, fun j hj => ?_⟩
  have hjk : k + j < zs.length := by simp at hj; omega
  rw [Nat.add_assoc, hc (k + j) hjk]
  simp [List.getD_eq_getElem?_getD, List.getElem?_drop]
set_option maxHeartbeats 1000000 in
theorem walk_FnCountOf (A : Option Addr) (n c : Nat) (zs : List Int) (w : World) (H : ArgInts .u8 w A n c 1 zs) :
    Calls Try.prog 10 #[.slice A n c] w fun e w' => e = .returned (.bool true) ∧ New w w' := by
  have hc := CodeArg.of H
  have hm := hc.2.1
  unfold maxLen at hm
  clear H
  by_cases hbig : 1048576 < n
  · go_enter Try.func10, Try.ntmps10
    go_wp2_with fail
    go_ret
    exact ⟨rfl, (by repeat (first | with_reducible assumption | with_reducible exact New.refl _ | with_reducible refine New.alloc ?_ _ | with_reducible refine New.drew ?_ | with_reducible refine New.drewN ?_ _ | refine New.setCell ?_ (by first | (simp; done) | omega | (simp; omega)) _ | with_reducible refine New.trans ?_ (by with_reducible assumption)))⟩
  go_enter Try.func10, Try.ntmps10
  go_wp2_with fail
  refine (DrawCountOf_any A n c zs _ hc).mono ?_
  rintro e w1 ⟨A', c', x, ys, rfl, l8, lc, cm, hpl, hi, x0, x4, b1⟩
  obtain ⟨k, hk⟩ : ∃ k, ys.length = k := ⟨_, rfl⟩
  rw [hk] at l8 lc ⊢
  clear hc
  go_wp2_with fail
  refine (countOf_impl A' k c' ys x _ hk (by unfold maxLen; omega) hi).mono ?_
  rintro e w2 ⟨rfl, rfl⟩
  go_wp2_with fail
  refine (countOf_spec A' k c' ys x _ hk (by unfold maxLen; omega) hi).mono ?_
  rintro e w2 ⟨rfl, rfl⟩
  have q0 : 0 ≤ (k : Int) / 2 := by omega
  have q1 : (k : Int) / 2 ≤ k := by omega
  have q2 : ((k : Int) / 2).toNat = k / 2 := by omega
  have q3 : k / 2 ≤ k := by omega
  have q4 : k / 2 ≤ c' := by omega
  have q5 : (k : Int) / 2 ≤ (c' : Int) := by omega
  have hcnt := count_parts ys (k / 2) x
  have hle := count_le_len ys x
  have hL1 : (ys.take (k / 2)).length = k / 2 := by simp [hk]; omega
  have hL2 : (ys.drop (k / 2)).length = k - k / 2 := by simp [hk]
  rw [hk] at hle
  have H1 := Lib.hid hL1
  have H2 := Lib.hid hL2
  have HI := Lib.hid (hi.new (New.refl w1).drew)
  have HC := Lib.hid hcnt
  have HS := Lib.hid hle
  clear hL1 hL2 hi hcnt hle hk
  have HW := Lib.hid (wrap_small (ys.count x) (by have := HS.out; omega))
  rcases hpl with rfl | ⟨g, rfl⟩
  · go_wp2_with fail
    go_still_tail 20, (by kernel_rfl)
    still_call ((countOf_impl none (k / 2) c' (ys.take (k / 2)) x w1.drew H1.out (by unfold maxLen; omega) (ints_take HI.out _)).mono fun e w' h => ⟨h.1, h.2.symm⟩)
    repeat still_step
    still_call ((countOf_impl none (k - k / 2) (c' - k / 2) (ys.drop (k / 2)) x w1.drew H2.out (by unfold maxLen; omega) (ints_drop0 HI.out _)).mono fun e w' h => ⟨h.1, h.2.symm⟩)
    have hC := HC.out
    have hS := HS.out
    have hW := HW.out
    repeat still_step
    refine wpStill_nil ?_
    change wpList _ _ _ _ _ w1.drew
    have hb1 : New w w1.drew := b1.drew
    generalize w1.drew = w2 at *
    go_wp2_with fail
    refine (alive_any _).mono ?_
    rintro e w3 ⟨rfl, b3⟩
    go_wp2_with fail
    go_ret
    exact ⟨rfl, hb1.trans b3⟩
  · by_cases hcc : c' = k / 2
    · subst hcc
      go_wp2_with fail
      go_still_tail 20, (by kernel_rfl)
      still_call ((countOf_impl (some ⟨g, 0, none⟩) (k / 2) (k / 2) (ys.take (k / 2)) x w1.drew H1.out (by unfold maxLen; omega) (ints_take HI.out _)).mono fun e w' h => ⟨h.1, h.2.symm⟩)
      repeat still_step
      still_call ((countOf_impl (some ⟨g, 0, none⟩) 0 0 (ys.drop (k / 2)) x w1.drew (by have := H2.out; omega) (by unfold maxLen; omega) (ints_nil (by have := H2.out; omega))).mono fun e w' h => ⟨h.1, h.2.symm⟩)
      have hC := HC.out
      have hS := HS.out
      have hW := HW.out
      repeat still_step
      refine wpStill_nil ?_
      change wpList _ _ _ _ _ w1.drew
      have hb1 : New w w1.drew := b1.drew
      generalize w1.drew = w2 at *
      go_wp2_with fail
      refine (alive_any _).mono ?_
      rintro e w3 ⟨rfl, b3⟩
      go_wp2_with fail
      go_ret
      exact ⟨rfl, hb1.trans b3⟩
    · go_wp2_with fail
      go_still_tail 20, (by kernel_rfl)
      still_call ((countOf_impl (some ⟨g, 0, none⟩) (k / 2) c' (ys.take (k / 2)) x w1.drew H1.out (by unfold maxLen; omega) (ints_take HI.out _)).mono fun e w' h => ⟨h.1, h.2.symm⟩)
      repeat still_step
      still_call ((countOf_impl (some ⟨g, k / 2, none⟩) (k - k / 2) (c' - k / 2) (ys.drop (k / 2)) x w1.drew H2.out (by unfold maxLen; omega) (by simpa using ints_drop HI.out (k / 2))).mono fun e w' h => ⟨h.1, h.2.symm⟩)
      have hC := HC.out
      have hS := HS.out
      have hW := HW.out
      repeat still_step
      refine wpStill_nil ?_
      change wpList _ _ _ _ _ w1.drew
      have hb1 : New w w1.drew := b1.drew
      generalize w1.drew = w2 at *
      go_wp2_with fail
      refine (alive_any _).mono ?_
      rintro e w3 ⟨rfl, b3⟩
      go_wp2_with fail
      go_ret
      exact ⟨rfl, hb1.trans b3⟩
end Go.Proofs.Ytafnhheblnbjeaa
