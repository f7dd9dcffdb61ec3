/- Lists of integers: copied, compared, counted, looked into. -/
import Derived.Test.YtbnehcaallehbaaIn
import Derived.Test.YtbnehcaallehbaaTypes
namespace Go.Proofs.Ytbnehcaallehbaa
set_option linter.unusedVariables false
set_option linter.unusedSimpArgs false
open Go.RowKit

theorem count_take {zs : List Int} {k : Nat} {z : Int} (h : zs[k]? = some z) (x : Int) : (zs.take (k + 1)).count x = (zs.take k).count x + if z = x then 1 else 0 := by
  have hk : k < zs.length := (List.getElem?_eq_some_iff.1 h).1
  have hz : zs[k] = z := (List.getElem?_eq_some_iff.1 h).2
  rw [List.take_succ_eq_append_getElem hk, List.count_append, hz]
  by_cases hx : z = x <;> simp [List.count_cons, hx]
theorem count_take_le (zs : List Int) (k : Nat) (x : Int) : (zs.take k).count x ≤ k := Nat.le_trans List.count_le_length (List.length_take_le _ _)

theorem countOf_impl (A : Option Addr) (n c : Nat) (zs : List Int) (x : Int) (w : World) (hn : zs.length = n) (hm : n ≤ maxLen) (h : Ints w A zs) :
    Calls Try.prog 36 #[.slice A n c, .int .i64 x] w fun e w' => e = .returned (.int .i64 (zs.count x)) ∧ w = w' := by
  unfold maxLen at hm
  have HN := Lib.hid hn
  clear hn
  go_enter Try.func36, Try.ntmps36
  go_wp2
  go_loop [5, 10] (fun cnt i => ∃ k : Nat, k ≤ n ∧ i = .int .i64 k ∧ cnt = .int .i64 ((zs.take k).count x : Nat)) (fun _ i => n - (intOf i).toNat)
  case atStart => exact ⟨0, Nat.zero_le _, rfl, by simp⟩
  case round =>
    obtain ⟨k, hk, rfl, rfl⟩ := hrel
    have hle := count_take_le zs k x
    by_cases hlt : k < n
    · obtain ⟨b, o, z, rfl, hz, _, hc⟩ := h.elem (k := k) (by rw [HN.out]; exact hlt)
      have HZ := Lib.hid (count_take hz x)
      clear hz
      by_cases hx : z = x
      · subst hx
        go_wp2
        go_round
        case rel => exact ⟨k + 1, by omega, by go_num, by rw [HZ.out, if_pos rfl]; go_num⟩
        case measure => simp [intOf]; omega
      · have hx' : (z == x) = false := by simpa using hx
        go_wp2
        go_round
        case rel => exact ⟨k + 1, by omega, by go_num, by rw [HZ.out, if_neg hx]; go_num⟩
        case measure => simp [intOf]; omega
    · go_wp2
      go_ret
      exact ⟨ret_int (by rw [List.take_of_length_le (by rw [HN.out]; omega)]), rfl⟩
def slotZ (zs : List Int) (key : Int) : Int := if zs.length = 0 ∨ key < 0 then -1 else zs.getD (key % (zs.length : Int)).toNat 0
theorem slotHost_impl (A : Option Addr) (n c : Nat) (zs : List Int) (key : Int) (w : World) (hn : zs.length = n) (hm : n ≤ maxLen) (h : Ints w A zs) :
    Calls Try.prog 34 #[.slice A n c, .int .i64 key] w fun e w' => e = .returned (.int .i64 (slotZ zs key)) ∧ w = w' := by
  unfold maxLen at hm
  by_cases h0 : n = 0
  · have hz : slotZ zs key = -1 := by unfold slotZ; rw [if_pos (.inl (by omega))]
    have HZ := Lib.hid hz
    clear hz hn
    subst h0
    go_enter Try.func34, Try.ntmps34
    go_wp2
    go_ret
    exact ⟨by rw [HZ.out]; rfl, rfl⟩
  · have hn0 : ((n : Int) == 0) = false := by simp; omega
    by_cases hk : key < 0
    · have hz : slotZ zs key = -1 := by unfold slotZ; rw [if_pos (.inr hk)]
      have HZ := Lib.hid hz
      clear hz hn
      go_enter Try.func34, Try.ntmps34
      go_wp2
      go_ret
      exact ⟨by rw [HZ.out]; rfl, rfl⟩
    · have hr0 : 0 ≤ key % (n : Int) := Int.emod_nonneg _ (by omega)
      have hr1 : key % (n : Int) < n := Int.emod_lt_of_pos _ (by omega)
      obtain ⟨r, hr⟩ := Int.eq_ofNat_of_zero_le hr0
      obtain ⟨b, o, z, rfl, hz, _, hc⟩ := h.elem (k := r) (by omega)
      have hs : slotZ zs key = z := by
        unfold slotZ
        rw [if_neg (by omega), hn, hr]
        simp [hz]
      have HS := Lib.hid hs
      have hrn : r < n := by omega
      clear hs hz hn hr0 hr1
      go_enter Try.func34, Try.ntmps34
      go_wp2
      go_ret
      exact ⟨by rw [HS.out]; rfl, rfl⟩
theorem slotHost_spec (A : Option Addr) (n c : Nat) (zs : List Int) (key : Int) (w : World) (hn : zs.length = n) (hm : n ≤ maxLen) (h : Ints w A zs) :
    Calls Try.prog 35 #[.slice A n c, .int .i64 key] w fun e w' => e = .returned (.int .i64 (slotZ zs key)) ∧ w = w' := by
  unfold maxLen at hm
  by_cases h0 : n = 0
  · have hz : slotZ zs key = -1 := by unfold slotZ; rw [if_pos (.inl (by omega))]
    have HZ := Lib.hid hz
    clear hz hn
    subst h0
    go_enter Try.func35, Try.ntmps35
    go_wp2
    go_ret
    exact ⟨by rw [HZ.out]; rfl, rfl⟩
  · have hn0 : ((n : Int) == 0) = false := by simp; omega
    by_cases hk : key < 0
    · have hz : slotZ zs key = -1 := by unfold slotZ; rw [if_pos (.inr hk)]
      have HZ := Lib.hid hz
      clear hz hn
      go_enter Try.func35, Try.ntmps35
      go_wp2
      go_ret
      exact ⟨by rw [HZ.out]; rfl, rfl⟩
    · have hr0 : 0 ≤ key % (n : Int) := Int.emod_nonneg _ (by omega)
      have hr1 : key % (n : Int) < n := Int.emod_lt_of_pos _ (by omega)
      obtain ⟨r, hr⟩ := Int.eq_ofNat_of_zero_le hr0
      obtain ⟨b, o, z, rfl, hz, _, hc⟩ := h.elem (k := r) (by omega)
      have hs : slotZ zs key = z := by
        unfold slotZ
        rw [if_neg (by omega), hn, hr]
        simp [hz]
      have HS := Lib.hid hs
      have hrn : r < n := by omega
      clear hs hz hn hr0 hr1
      go_enter Try.func35, Try.ntmps35
      go_wp2
      go_ret
      exact ⟨by rw [HS.out]; rfl, rfl⟩
def movedTo (xs ys : List Int) : Nat → Nat
  | 0 => 0
  | k + 1 => movedTo xs ys k + if xs.getD k 0 = ys.getD k 0 then 0 else 1
def movedZ (xs ys : List Int) : Int := if xs.length = ys.length then (movedTo xs ys xs.length : Nat) else -1
theorem movedTo_le (xs ys : List Int) : ∀ k, movedTo xs ys k ≤ k
  | 0 => Nat.le_refl _
  | k + 1 => by have := movedTo_le xs ys k; unfold movedTo; split <;> omega
theorem movedSlots_impl (A A' : Option Addr) (n c n' c' : Nat) (xs ys : List Int) (w : World) (hn : xs.length = n) (hn' : ys.length = n') (hm : n ≤ maxLen) (hm' : n' ≤ maxLen) (h : Ints w A xs) (h' : Ints w A' ys) :
    Calls Try.prog 38 #[.slice A n c, .slice A' n' c'] w fun e w' => e = .returned (.int .i64 (movedZ xs ys)) ∧ New w w' := by
  unfold maxLen at hm hm'
  by_cases he : n = n'
  · subst he
    have HZ := Lib.hid (show movedZ xs ys = (movedTo xs ys n : Nat) by unfold movedZ; rw [if_pos (hn.trans hn'.symm), hn])
    have HN := Lib.hid hn
    have HN' := Lib.hid hn'
    clear hn hn' hm'
    go_enter Try.func38, Try.ntmps38
    go_wp2
    go_loopw [5, 6, 14] (fun cnt _ i wr => ∃ k : Nat, k ≤ n ∧ i = .int .i64 k ∧ cnt = .int .i64 (movedTo xs ys k : Nat) ∧ ∃ m, wr = w.drewN m) (fun _ _ i _ => n - (intOf i).toNat)
    case atStart => exact ⟨0, Nat.zero_le _, rfl, rfl, 0, rfl⟩
    case round =>
      obtain ⟨k, hk, rfl, rfl, m, rfl⟩ := hrel
      have hle := movedTo_le xs ys k
      by_cases hlt : k < n
      · obtain ⟨b, o, z, rfl, hz, _, hc⟩ := h.elem (k := k) (by rw [HN.out]; exact hlt)
        obtain ⟨b', o', z', rfl, hz', _, hc'⟩ := h'.elem (k := k) (by rw [HN'.out]; exact hlt)
        have HS := Lib.hid (show movedTo xs ys (k + 1) = movedTo xs ys k + if z = z' then 0 else 1 by simp [movedTo, hz, hz'])
        clear hz hz'
        have hki : (k : Int) < (n : Int) := by omega
        by_cases hx : z = z'
        · subst hx
          go_wp2
          go_quiet (fail)
          go_wp2
          go_roundw
          case rel => exact ⟨k + 1, by omega, by go_num, by rw [HS.out]; simp, _, rfl⟩
          case measure => simp [intOf]; omega
        · have hx' : (z != z') = true := by simpa using hx
          go_wp2
          go_quiet (fail)
          go_wp2
          go_roundw
          case rel => exact ⟨k + 1, by omega, by go_num, by rw [HS.out, if_neg hx]; go_num, _, rfl⟩
          case measure => simp [intOf]; omega
      · obtain rfl : k = n := by omega
        go_wp2
        go_ret
        exact ⟨ret_int HZ.out.symm, (by repeat (first | with_reducible assumption | with_reducible exact New.refl _ | with_reducible refine New.alloc ?_ _ | with_reducible refine New.drew ?_ | with_reducible refine New.drewN ?_ _ | refine New.setCell ?_ (by first | (simp; done) | omega | (simp; omega)) _ | with_reducible refine New.trans ?_ (by with_reducible assumption)))⟩
  · have HZ := Lib.hid (show movedZ xs ys = -1 by unfold movedZ; rw [if_neg (by omega)])
    have hne : ((n : Int) != (n' : Int)) = true := by simp; omega
    clear hn hn'
    go_enter Try.func38, Try.ntmps38
    go_wp2
    go_ret
    exact ⟨by rw [HZ.out]; rfl, (by repeat (first | with_reducible assumption | with_reducible exact New.refl _ | with_reducible refine New.alloc ?_ _ | with_reducible refine New.drew ?_ | with_reducible refine New.drewN ?_ _ | refine New.setCell ?_ (by first | (simp; done) | omega | (simp; omega)) _ | with_reducible refine New.trans ?_ (by with_reducible assumption)))⟩
theorem movedSlots_spec (A A' : Option Addr) (n c n' c' : Nat) (xs ys : List Int) (w : World) (hn : xs.length = n) (hn' : ys.length = n') (hm : n ≤ maxLen) (hm' : n' ≤ maxLen) (h : Ints w A xs) (h' : Ints w A' ys) :
    Calls Try.prog 39 #[.slice A n c, .slice A' n' c'] w fun e w' => e = .returned (.int .i64 (movedZ xs ys)) ∧ New w w' := by
  unfold maxLen at hm hm'
  by_cases he : n = n'
  · subst he
    have HZ := Lib.hid (show movedZ xs ys = (movedTo xs ys n : Nat) by unfold movedZ; rw [if_pos (hn.trans hn'.symm), hn])
    have HN := Lib.hid hn
    have HN' := Lib.hid hn'
    clear hn hn' hm'
    go_enter Try.func39, Try.ntmps39
    go_wp2
    go_loopw [5, 6] (fun cnt i wr => ∃ k : Nat, k ≤ n ∧ i = .int .i64 k ∧ cnt = .int .i64 (movedTo xs ys k : Nat) ∧ ∃ m, wr = w.drewN m) (fun _ i _ => n - (intOf i).toNat)
    case atStart => exact ⟨0, Nat.zero_le _, rfl, rfl, 0, rfl⟩
    case round =>
      obtain ⟨k, hk, rfl, rfl, m, rfl⟩ := hrel
      have hle := movedTo_le xs ys k
      by_cases hlt : k < n
      · obtain ⟨b, o, z, rfl, hz, _, hc⟩ := h.elem (k := k) (by rw [HN.out]; exact hlt)
        obtain ⟨b', o', z', rfl, hz', _, hc'⟩ := h'.elem (k := k) (by rw [HN'.out]; exact hlt)
        have HS := Lib.hid (show movedTo xs ys (k + 1) = movedTo xs ys k + if z = z' then 0 else 1 by simp [movedTo, hz, hz'])
        clear hz hz'
        have hki : (k : Int) < (n : Int) := by omega
        by_cases hx : z = z'
        · subst hx
          go_wp2
          go_quiet (fail)
          go_wp2
          go_roundw
          case rel => exact ⟨k + 1, by omega, by go_num, by rw [HS.out]; simp, _, rfl⟩
          case measure => simp [intOf]; omega
        · have hx' : (z != z') = true := by simpa using hx
          go_wp2
          go_quiet (fail)
          go_wp2
          go_roundw
          case rel => exact ⟨k + 1, by omega, by go_num, by rw [HS.out, if_neg hx]; go_num, _, rfl⟩
          case measure => simp [intOf]; omega
      · obtain rfl : k = n := by omega
        go_wp2
        go_ret
        exact ⟨ret_int HZ.out.symm, (by repeat (first | with_reducible assumption | with_reducible exact New.refl _ | with_reducible refine New.alloc ?_ _ | with_reducible refine New.drew ?_ | with_reducible refine New.drewN ?_ _ | refine New.setCell ?_ (by first | (simp; done) | omega | (simp; omega)) _ | with_reducible refine New.trans ?_ (by with_reducible assumption)))⟩
  · have HZ := Lib.hid (show movedZ xs ys = -1 by unfold movedZ; rw [if_neg (by omega)])
    have hne : ((n : Int) != (n' : Int)) = true := by simp; omega
    clear hn hn'
    go_enter Try.func39, Try.ntmps39
    go_wp2
    go_ret
    exact ⟨by rw [HZ.out]; rfl, (by repeat (first | with_reducible assumption | with_reducible exact New.refl _ | with_reducible refine New.alloc ?_ _ | with_reducible refine New.drew ?_ | with_reducible refine New.drewN ?_ _ | refine New.setCell ?_ (by first | (simp; done) | omega | (simp; omega)) _ | with_reducible refine New.trans ?_ (by with_reducible assumption)))⟩
theorem eqIntS_any (A A' : Option Addr) (n c n' c' : Nat) (xs ys : List Int) (w : World) (hn : xs.length = n) (hn' : ys.length = n') (hm : n ≤ maxLen) (hm' : n' ≤ maxLen) (h : Ints w A xs) (h' : Ints w A' ys) :
    Calls Try.prog 45 #[.slice A n c, .slice A' n' c'] w fun e w' => e = .returned (.bool (decide (xs = ys))) ∧ New w w' := by
  unfold maxLen at hm hm'
  by_cases he : n = n'
  · subst he
    have HN := Lib.hid hn
    have HN' := Lib.hid hn'
    clear hn hn' hm'
    go_enter Try.func45, Try.ntmps45
    go_wp2
    go_loopw [5] (fun i wr => ∃ k : Nat, k ≤ n ∧ i = .int .i64 k ∧ Hid (xs.take k = ys.take k) ∧ ∃ m, wr = w.drewN m) (fun i _ => n - (intOf i).toNat)
    case atStart => exact ⟨0, Nat.zero_le _, rfl, Lib.hid rfl, 0, rfl⟩
    case round =>
      obtain ⟨k, hk, rfl, HT, m, rfl⟩ := hrel
      by_cases hlt : k < n
      · obtain ⟨b, o, z, rfl, hz, _, hc⟩ := h.elem (k := k) (by rw [HN.out]; exact hlt)
        obtain ⟨b', o', z', rfl, hz', _, hc'⟩ := h'.elem (k := k) (by rw [HN'.out]; exact hlt)
        have HZ := Lib.hid hz
        have HZ' := Lib.hid hz'
        clear hz hz'
        have hki : (k : Int) < (n : Int) := by omega
        by_cases hx : z = z'
        · subst hx
          go_wp2
          go_quiet (fail)
          go_wp2
          go_roundw
          case rel => exact ⟨k + 1, by omega, by go_num, Lib.hid (by rw [List.take_add_one, List.take_add_one, HT.out, HZ.out, HZ'.out]), _, rfl⟩
          case measure => simp [intOf]; omega
        · have hx' : (z != z') = true := by simpa using hx
          go_wp2
          go_quiet (fail)
          go_wp2
          go_ret
          refine ⟨ret_bool (by
            symm
            rw [decide_eq_false_iff_not]
            rintro rfl
            have := HZ.out.symm.trans HZ'.out
            exact hx (by simpa using this)), (by repeat (first | with_reducible assumption | with_reducible exact New.refl _ | with_reducible refine New.alloc ?_ _ | with_reducible refine New.drew ?_ | with_reducible refine New.drewN ?_ _ | refine New.setCell ?_ (by first | (simp; done) | omega | (simp; omega)) _ | with_reducible refine New.trans ?_ (by with_reducible assumption)))⟩
      · obtain rfl : k = n := by omega
        go_wp2
        go_ret
        refine ⟨ret_bool (by
          symm
          rw [decide_eq_true_eq]
          have e := HT.out
          rwa [List.take_of_length_le (by rw [HN.out]; omega), List.take_of_length_le (by rw [HN'.out]; omega)] at e), (by repeat (first | with_reducible assumption | with_reducible exact New.refl _ | with_reducible refine New.alloc ?_ _ | with_reducible refine New.drew ?_ | with_reducible refine New.drewN ?_ _ | refine New.setCell ?_ (by first | (simp; done) | omega | (simp; omega)) _ | with_reducible refine New.trans ?_ (by with_reducible assumption)))⟩
  · have hne : ((n : Int) != (n' : Int)) = true := by simp; omega
    have HZ := Lib.hid (show decide (xs = ys) = false by
      rw [decide_eq_false_iff_not]
      rintro rfl
      omega)
    clear hn hn'
    go_enter Try.func45, Try.ntmps45
    go_wp2
    go_ret
    exact ⟨ret_bool HZ.out.symm, (by repeat (first | with_reducible assumption | with_reducible exact New.refl _ | with_reducible refine New.alloc ?_ _ | with_reducible refine New.drew ?_ | with_reducible refine New.drewN ?_ _ | refine New.setCell ?_ (by first | (simp; done) | omega | (simp; omega)) _ | with_reducible refine New.trans ?_ (by with_reducible assumption)))⟩
theorem sameInts_any (A A' : Option Addr) (n c n' c' : Nat) (xs ys : List Int) (w : World) (hn : xs.length = n) (hn' : ys.length = n') (hm : n ≤ maxLen) (hm' : n' ≤ maxLen) (h : Ints w A xs) (h' : Ints w A' ys) :
    Calls Try.prog 49 #[.slice A n c, .slice A' n' c'] w fun e w' => e = .returned (.bool (decide (xs = ys))) ∧ New w w' := by
  unfold maxLen at hm hm'
  by_cases he : n = n'
  · subst he
    have HN := Lib.hid hn
    have HN' := Lib.hid hn'
    clear hn hn' hm'
    go_enter Try.func49, Try.ntmps49
    go_wp2
    go_loopw [5] (fun i wr => ∃ k : Nat, k ≤ n ∧ i = .int .i64 k ∧ Hid (xs.take k = ys.take k) ∧ ∃ m, wr = w.drewN m) (fun i _ => n - (intOf i).toNat)
    case atStart => exact ⟨0, Nat.zero_le _, rfl, Lib.hid rfl, 0, rfl⟩
    case round =>
      obtain ⟨k, hk, rfl, HT, m, rfl⟩ := hrel
      by_cases hlt : k < n
      · obtain ⟨b, o, z, rfl, hz, _, hc⟩ := h.elem (k := k) (by rw [HN.out]; exact hlt)
        obtain ⟨b', o', z', rfl, hz', _, hc'⟩ := h'.elem (k := k) (by rw [HN'.out]; exact hlt)
        have HZ := Lib.hid hz
        have HZ' := Lib.hid hz'
        clear hz hz'
        have hki : (k : Int) < (n : Int) := by omega
        by_cases hx : z = z'
        · subst hx
          go_wp2
          go_quiet (fail)
          go_wp2
          go_roundw
          case rel => exact ⟨k + 1, by omega, by go_num, Lib.hid (by rw [List.take_add_one, List.take_add_one, HT.out, HZ.out, HZ'.out]), _, rfl⟩
          case measure => simp [intOf]; omega
        · have hx' : (z != z') = true := by simpa using hx
          go_wp2
          go_quiet (fail)
          go_wp2
          go_ret
          refine ⟨ret_bool (by
            symm
            rw [decide_eq_false_iff_not]
            rintro rfl
            have := HZ.out.symm.trans HZ'.out
            exact hx (by simpa using this)), (by repeat (first | with_reducible assumption | with_reducible exact New.refl _ | with_reducible refine New.alloc ?_ _ | with_reducible refine New.drew ?_ | with_reducible refine New.drewN ?_ _ | refine New.setCell ?_ (by first | (simp; done) | omega | (simp; omega)) _ | with_reducible refine New.trans ?_ (by with_reducible assumption)))⟩
      · obtain rfl : k = n := by omega
        go_wp2
        go_ret
        refine ⟨ret_bool (by
          symm
          rw [decide_eq_true_eq]
          have e := HT.out
          rwa [List.take_of_length_le (by rw [HN.out]; omega), List.take_of_length_le (by rw [HN'.out]; omega)] at e), (by repeat (first | with_reducible assumption | with_reducible exact New.refl _ | with_reducible refine New.alloc ?_ _ | with_reducible refine New.drew ?_ | with_reducible refine New.drewN ?_ _ | refine New.setCell ?_ (by first | (simp; done) | omega | (simp; omega)) _ | with_reducible refine New.trans ?_ (by with_reducible assumption)))⟩
  · have hne : ((n : Int) != (n' : Int)) = true := by simp; omega
    have HZ := Lib.hid (show decide (xs = ys) = false by
      rw [decide_eq_false_iff_not]
      rintro rfl
      omega)
    clear hn hn'
    go_enter Try.func49, Try.ntmps49
    go_wp2
    go_ret
    exact ⟨ret_bool HZ.out.symm, (by repeat (first | with_reducible assumption | with_reducible exact New.refl _ | with_reducible refine New.alloc ?_ _ | with_reducible refine New.drew ?_ | with_reducible refine New.drewN ?_ _ | refine New.setCell ?_ (by first | (simp; done) | omega | (simp; omega)) _ | with_reducible refine New.trans ?_ (by with_reducible assumption)))⟩
/-- The marks k, k + 1, .. -/
def marks (k : Int) (n : Nat) : List Int := (List.range n).map fun (i : Nat) => k + (i : Int)
theorem marks_len (k : Int) (n : Nat) : (marks k n).length = n := by simp [marks]
theorem marks_at (k : Int) {n i : Nat} (h : i < n) : (marks k n)[i]? = some (k + i) := by simp [marks, h]
theorem marks_set {zs : List Int} {n i : Nat} (q : Int) (hn : zs.length = n) (hi : i < n) : (marks q i ++ zs.drop i).set i (q + i) = marks q (i + 1) ++ zs.drop (i + 1) := by
  rw [List.set_append_right _ _ (by rw [marks_len]; exact Nat.le_refl _), marks_len, Nat.sub_self, List.drop_eq_getElem_cons (by omega), List.set_cons_zero]
  simp [marks, List.range_succ]
theorem markIntS_any (A : Option Addr) (n c B : Nat) (zs : List Int) (q : Int) (w : World) (hm : n ≤ 16777216) (hq0 : 0 ≤ q) (hq1 : q ≤ 1048576) (hB : B ≤ w.heap.size) (h : Own 3 1 B w A n c zs) :
    Calls Try.prog 46 #[.slice A n c, .int .i64 q] w fun e w' => e = .returned (.int .i64 (q + n)) ∧ Own 3 1 B w' A n c (marks q n) ∧ Below B w w' := by
  have hlen := h.len
  simp only [Nat.mul_one] at hlen
  have HN := Lib.hid hlen
  clear hlen
  go_enter Try.func46, Try.ntmps46
  go_wp2
  go_loopw [1, 5] (fun k i wr => ∃ j : Nat, j ≤ n ∧ i = .int .i64 j ∧ k = .int .i64 (q + j) ∧ Own 3 1 B wr A n c (marks q j ++ zs.drop j) ∧ Below B w wr) (fun _ i _ => n - (intOf i).toNat)
  case atStart => exact ⟨0, Nat.zero_le _, rfl, by simp, by simpa [marks] using h, Below.refl _ _⟩
  case round =>
    obtain ⟨j, hj, rfl, rfl, hown, hnew⟩ := hrel
    clear h
    by_cases hlt : j < n
    · have hll : j < (marks q j ++ zs.drop j).length := by have := HN.out; simp [marks_len]; omega
      obtain ⟨g, rfl, hBg, _, _, hcell, hfr⟩ := hown.at_ (by omega)
      have hcg := hcell j hll
      have hfg := hfr j
      have HO := Lib.hid (hown.set_ j (q + j))
      have HS := Lib.hid (marks_set q HN.out hlt)
      clear hcell hfr hown
      go_wp2
      go_roundw
      case rel =>
        refine ⟨j + 1, by omega, by go_num, by go_num, ?_, hnew.setCell hBg _⟩
        have := HO.out
        rwa [HS.out] at this
      case measure => simp [intOf]; omega
    · obtain rfl : j = n := by omega
      go_wp2
      go_ret
      refine ⟨rfl, ?_, hnew⟩
      rwa [List.drop_of_length_le (by rw [HN.out]; exact Nat.le_refl _), List.append_nil] at hown
theorem heldIntS_any (A : Option Addr) (n c : Nat) (q : Int) (w : World) (hm : n ≤ 16777216) (hq0 : 0 ≤ q) (hq1 : q ≤ 1048576) (h : Ints w A (marks q n)) :
    Calls Try.prog 47 #[.slice A n c, .int .i64 q] w fun e w' => e = .returned (.int .i64 (q + n)) ∧ w = w' := by
  go_enter Try.func47, Try.ntmps47
  go_wp2
  go_loop [1, 5] (fun k i => ∃ j : Nat, j ≤ n ∧ i = .int .i64 j ∧ k = .int .i64 (q + j)) (fun _ i => n - (intOf i).toNat)
  case atStart => exact ⟨0, Nat.zero_le _, rfl, by simp⟩
  case round =>
    obtain ⟨j, hj, rfl, rfl⟩ := hrel
    by_cases hlt : j < n
    · obtain ⟨b, o, z, rfl, hz, _, hc⟩ := h.elem (k := j) (by rw [marks_len]; exact hlt)
      rw [marks_at q hlt] at hz
      obtain rfl : q + (j : Int) = z := by simpa using hz
      clear hz
      go_wp2
      go_round
      case rel => exact ⟨j + 1, by omega, by go_num, by go_num⟩
      case measure => simp [intOf]; omega
    · obtain rfl : j = n := by omega
      go_wp2
      go_ret
      exact ⟨rfl, rfl⟩
end Go.Proofs.Ytbnehcaallehbaa
