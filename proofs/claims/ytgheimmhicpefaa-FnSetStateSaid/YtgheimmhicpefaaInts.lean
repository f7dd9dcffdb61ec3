/- Lists of integers: copied, compared, counted, looked into. -/
import Derived.Test.YtgheimmhicpefaaIn
import Derived.Test.YtgheimmhicpefaaTypes
namespace Go.Proofs.Ytgheimmhicpefaa
set_option linter.unusedVariables false
set_option linter.unusedSimpArgs false
open Go.RowKit

theorem count_take {zs : List Int} {k : Nat} {z : Int} (h : zs[k]? = some z) (x : Int) : (zs.take (k + 1)).count x = (zs.take k).count x + if z = x then 1 else 0 := by
  have hk : k < zs.length := (List.getElem?_eq_some_iff.1 h).1
  have hz : zs[k] = z := (List.getElem?_eq_some_iff.1 h).2
  rw [List.take_succ_eq_append_getElem hk, List.count_append, hz]
  by_cases hx : z = x <;> simp [List.count_cons, hx]
theorem count_take_le (zs : List Int) (k : Nat) (x : Int) : (zs.take k).count x ≤ k := Nat.le_trans List.count_le_length (List.length_take_le _ _)

theorem sameInts_any (A A' : Option Addr) (n c n' c' : Nat) (xs ys : List Int) (w : World) (hn : xs.length = n) (hn' : ys.length = n') (hm : n ≤ maxLen) (hm' : n' ≤ maxLen) (h : Ints w A xs) (h' : Ints w A' ys) :
    Calls Try.prog 28 #[.slice A n c, .slice A' n' c'] w fun e w' => e = .returned (.bool (decide (xs = ys))) ∧ New w w' := by
  unfold maxLen at hm hm'
  by_cases he : n = n'
  · subst he
    have HN := Lib.hid hn
    have HN' := Lib.hid hn'
    clear hn hn' hm'
    go_enter Try.func28, Try.ntmps28
    go_wp2
    go_loopw [5] (fun i wr => ∃ k : Nat, k ≤ n ∧ i = .int .i64 k ∧ Hid (xs.take k = ys.take k) ∧ ∃ m, wr = w.drewN m) (fun i _ => n - (intOf i).toNat)
    case atStart => exact ⟨0, Nat.zero_le _, rfl, Lib.hid rfl, 0, rfl⟩
    case round =>
      obtain ⟨k, hk, rfl, HT, m, rfl⟩ := hrel
      by_cases hlt : k < n
      · obtain ⟨b, o, z, rfl, hz, _, hc⟩ := h.elem (k := k) (by rw [HN.out]; exact hlt)
        obtain ⟨b', o', z', rfl, hz', _, hc'⟩ := h'.elem (k := k) (by rw [HN'.out]; exact hlt)
        have HZ := Lib.hid hz
        have HZ' := Lib.hid hz'
        clear hz hz'
        have hki : (k : Int) < (n : Int) := by omega
        by_cases hx : z = z'
        · subst hx
          go_wp2
          go_quiet (fail)
          go_wp2
          go_roundw
          case rel => exact ⟨k + 1, by omega, by go_num, Lib.hid (by rw [List.take_add_one, List.take_add_one, HT.out, HZ.out, HZ'.out]), _, rfl⟩
          case measure => simp [intOf]; omega
        · have hx' : (z != z') = true := by simpa using hx
          go_wp2
          go_quiet (fail)
          go_wp2
          go_ret
          refine ⟨ret_bool (by
            symm
            rw [decide_eq_false_iff_not]
            rintro rfl
            have := HZ.out.symm.trans HZ'.out
            exact hx (by simpa using this)), (by repeat (first | with_reducible assumption | with_reducible exact New.refl _ | with_reducible refine New.alloc ?_ _ | with_reducible refine New.drew ?_ | with_reducible refine New.drewN ?_ _ | refine New.setCell ?_ (by first | (simp; done) | omega | (simp; omega)) _ | with_reducible refine New.trans ?_ (by with_reducible assumption)))⟩
      · obtain rfl : k = n := by omega
        go_wp2
        go_ret
        refine ⟨ret_bool (by
          symm
          rw [decide_eq_true_eq]
          have e := HT.out
          rwa [List.take_of_length_le (by rw [HN.out]; omega), List.take_of_length_le (by rw [HN'.out]; omega)] at e), (by repeat (first | with_reducible assumption | with_reducible exact New.refl _ | with_reducible refine New.alloc ?_ _ | with_reducible refine New.drew ?_ | with_reducible refine New.drewN ?_ _ | refine New.setCell ?_ (by first | (simp; done) | omega | (simp; omega)) _ | with_reducible refine New.trans ?_ (by with_reducible assumption)))⟩
  · have hne : ((n : Int) != (n' : Int)) = true := by simp; omega
    have HZ := Lib.hid (show decide (xs = ys) = false by
      rw [decide_eq_false_iff_not]
      rintro rfl
      omega)
    clear hn hn'
    go_enter Try.func28, Try.ntmps28
    go_wp2
    go_ret
    exact ⟨ret_bool HZ.out.symm, (by repeat (first | with_reducible assumption | with_reducible exact New.refl _ | with_reducible refine New.alloc ?_ _ | with_reducible refine New.drew ?_ | with_reducible refine New.drewN ?_ _ | refine New.setCell ?_ (by first | (simp; done) | omega | (simp; omega)) _ | with_reducible refine New.trans ?_ (by with_reducible assumption)))⟩
/-- The marks k, k + 1, .. -/
def marks (k : Int) (n : Nat) : List Int := (List.range n).map fun (i : Nat) => k + (i : Int)
theorem marks_len (k : Int) (n : Nat) : (marks k n).length = n := by simp [marks]
theorem marks_at (k : Int) {n i : Nat} (h : i < n) : (marks k n)[i]? = some (k + i) := by simp [marks, h]
end Go.Proofs.Ytgheimmhicpefaa
