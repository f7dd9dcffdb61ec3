/- Hashes of numbers: MixNumbers, mix, FlowHash, JumpBucket; what they compute. -/
import Derived.Test.YtbnehcaallehbaaIn
import Derived.Test.YtbnehcaallehbaaFlow
namespace Go.Proofs.Ytbnehcaallehbaa
set_option linter.unusedVariables false
set_option linter.unusedSimpArgs false
open Go.RowKit

/-- One number more. -/
def mix1 (h n : Int) : Int := ((31 * h + 7919 * n + 17) % 1000003 * ((31 * h + 7919 * n + 17) % 1000003) + (31 * h + 7919 * n + 17) % 1000003 + 7) % 1000003
theorem mix1_of {h n x : Int} (hx : (31 * h + 7919 * n + 17) % 1000003 = x) : mix1 h n = (x * x + x + 7) % 1000003 := by unfold mix1; rw [hx]
theorem mix1_bd (h n : Int) : 0 ≤ mix1 h n ∧ mix1 h n ≤ 1000002 := by unfold mix1; omega
theorem sq_bd {x : Int} (h0 : 0 ≤ x) (h1 : x ≤ 1000002) : 0 ≤ x * x ∧ x * x ≤ 1000004000004 := by
  refine ⟨Int.mul_nonneg h0 h0, ?_⟩
  have := Int.mul_le_mul h1 h1 h0 (by omega)
  omega
def okZ (n : Int) : Bool := inB n 0 1000002
def mixB (zs : List Int) : Bool := decide (zs.length ≤ 8) && zs.all okZ
def mixTo (zs : List Int) : Int := zs.foldl mix1 1
def mixZ (zs : List Int) : Int := if mixB zs = true then mixTo zs else -1
theorem mixTo_bd (zs : List Int) : 0 ≤ mixTo zs ∧ mixTo zs ≤ 1000002 := by
  rcases List.eq_nil_or_concat zs with rfl | ⟨l, z, rfl⟩
  · exact ⟨by decide, by decide⟩
  · unfold mixTo; rw [List.concat_eq_append, List.foldl_append]; exact mix1_bd _ _
theorem mixZ_bd (zs : List Int) : -1 ≤ mixZ zs ∧ mixZ zs ≤ 1000002 := by
  have := mixTo_bd zs
  unfold mixZ
  split <;> omega
theorem mixTo_take {zs : List Int} {k : Nat} {z : Int} (h : zs[k]? = some z) : mixTo (zs.take (k + 1)) = mix1 (mixTo (zs.take k)) z := by
  unfold mixTo
  rw [List.take_add_one, h]
  simp
theorem all_take {zs : List Int} {k : Nat} {z : Int} (h : zs[k]? = some z) (h1 : (zs.take k).all okZ = true) (h2 : okZ z = true) : (zs.take (k + 1)).all okZ = true := by
  rw [List.take_add_one, h]
  simp [List.all_append, h1, h2]
theorem mixB_no {zs : List Int} {k : Nat} {z : Int} (h : zs[k]? = some z) (h2 : okZ z = false) : mixZ zs = -1 := by
  have : zs.all okZ = false := by
    rw [List.all_eq_false]
    exact ⟨z, List.mem_of_getElem? h, by simp [h2]⟩
  simp [mixZ, mixB, this]
theorem mixB_long {zs : List Int} (h : 8 < zs.length) : mixZ zs = -1 := by
  have : ¬ zs.length ≤ 8 := by omega
  simp [mixZ, mixB, this]
theorem mixB_yes {zs : List Int} (h : zs.length ≤ 8) (h1 : zs.all okZ = true) : mixZ zs = mixTo zs := by simp [mixZ, mixB, h, h1]

theorem l2Mix_any (h n : Int) (w : World) (h0 : 0 ≤ h) (h1 : h ≤ 1000002) (n0 : 0 ≤ n) (n1 : n ≤ 1000002) :
    Calls Try.prog 99 #[.int .i64 h, .int .i64 n] w fun e w' => e = .returned (.int .i64 (mix1 h n)) ∧ w = w' := by
  obtain ⟨x, hx⟩ : ∃ x, (h * 31 + n * 7919 + 17) % 1000003 = x := ⟨_, rfl⟩
  have x0 : 0 ≤ x := by omega
  have x1 : x ≤ 1000002 := by omega
  obtain ⟨s0, s1⟩ := sq_bd x0 x1
  have HM := Lib.hid (mix1_of (h := h) (n := n) (x := x) (by rw [← hx]; congr 1; omega))
  go_enter Try.func99, Try.ntmps99
  go_wp2
  go_ret
  exact ⟨by rw [HM.out]; rfl, rfl⟩
theorem mixNumbers_spec (A : Option Addr) (n c : Nat) (zs : List Int) (w : World) (hn : zs.length = n) (hm : n ≤ maxLen) (h : Ints w A zs) :
    Calls Try.prog 69 #[.slice A n c] w fun e w' => e = .returned (.int .i64 (mixZ zs)) ∧ w = w' := by
  unfold maxLen at hm
  have HN := Lib.hid hn
  clear hn
  go_enter Try.func69, Try.ntmps69
  go_wp2
  go_loop [3, 4] (fun q i => ∃ k : Nat, k ≤ n ∧ i = .int .i64 k ∧ q = .int .i64 (mixTo (zs.take k)) ∧ Hid ((zs.take k).all okZ = true) ∧ (0 < k → n ≤ 8)) (fun _ i => n - (intOf i).toNat)
  case atStart => exact ⟨0, Nat.zero_le _, rfl, rfl, Lib.hid rfl, fun h => absurd h (by omega)⟩
  case round =>
    obtain ⟨k, hk, rfl, rfl, HA, h8⟩ := hrel
    have H8 := Lib.hid h8
    clear h8
    obtain ⟨q0, q1⟩ := mixTo_bd (zs.take k)
    by_cases hlt : k < n
    · obtain ⟨b, o, z, rfl, hz, _, hc⟩ := h.elem (k := k) (by rw [HN.out]; exact hlt)
      have HZ := Lib.hid hz
      clear hz
      cases hok : inB z 0 1000002
      · have HE := Lib.hid (mixB_no HZ.out hok)
        go_wp2_with (go_at_call 79; refine (l1In_any _ _ _ _).mono ?_; rintro e w' ⟨rfl, rfl⟩)
        go_ret
        exact ⟨by rw [HE.out]; rfl, rfl⟩
      · obtain ⟨z0, z1⟩ := inB_true.1 hok
        by_cases hn8 : 8 < n
        · have HE := Lib.hid (mixB_long (zs := zs) (by rw [HN.out]; exact hn8))
          go_wp2_with (go_at_call 79; refine (l1In_any _ _ _ _).mono ?_; rintro e w' ⟨rfl, rfl⟩)
          go_ret
          exact ⟨by rw [HE.out]; rfl, rfl⟩
        · have HT := Lib.hid (mixTo_take HZ.out)
          go_wp2_with (first | (go_at_call 79; refine (l1In_any _ _ _ _).mono ?_; rintro e w' ⟨rfl, rfl⟩) | (go_at_call 99; refine (l2Mix_any _ _ _ q0 q1 z0 z1).mono ?_; rintro e w' ⟨rfl, rfl⟩))
          go_round
          case rel => exact ⟨k + 1, by omega, by go_num, by rw [HT.out], Lib.hid (all_take HZ.out HA.out hok), fun _ => by omega⟩
          case measure => simp [intOf]; omega
    · have HE := Lib.hid (show mixZ zs = mixTo (zs.take k) by
        have e : zs.take k = zs := List.take_of_length_le (by rw [HN.out]; omega)
        have h1 := HA.out
        rw [e] at h1 ⊢
        refine mixB_yes ?_ h1
        rw [HN.out]
        rcases Nat.eq_zero_or_pos k with h0 | h0
        · omega
        · exact H8.out h0)
      go_wp2
      go_ret
      exact ⟨by rw [HE.out]; rfl, rfl⟩
theorem mixNumbers_impl (A : Option Addr) (n c : Nat) (zs : List Int) (w : World) (hn : zs.length = n) (hm : n ≤ maxLen) (h : Ints w A zs) :
    Calls Try.prog 95 #[.slice A n c] w fun e w' => e = .returned (.int .i64 (mixZ zs)) ∧ w = w' := by
  unfold maxLen at hm
  have HN := Lib.hid hn
  clear hn
  by_cases hn8 : 8 < n
  · have HE := Lib.hid (mixB_long (zs := zs) (by rw [HN.out]; exact hn8))
    go_enter Try.func95, Try.ntmps95
    go_wp2
    go_ret
    exact ⟨by rw [HE.out]; rfl, rfl⟩
  go_enter Try.func95, Try.ntmps95
  go_wp2
  go_loop [3, 12] (fun q i => ∃ k : Nat, k ≤ n ∧ i = .int .i64 k ∧ q = .int .i64 (mixTo (zs.take k)) ∧ Hid ((zs.take k).all okZ = true)) (fun _ i => n - (intOf i).toNat)
  case atStart => exact ⟨0, Nat.zero_le _, rfl, rfl, Lib.hid rfl⟩
  case round =>
    obtain ⟨k, hk, rfl, rfl, HA⟩ := hrel
    obtain ⟨q0, q1⟩ := mixTo_bd (zs.take k)
    by_cases hlt : k < n
    · obtain ⟨b, o, z, rfl, hz, _, hc⟩ := h.elem (k := k) (by rw [HN.out]; exact hlt)
      have HZ := Lib.hid hz
      clear hz
      cases hok : inB z 0 1000002
      · have HE := Lib.hid (mixB_no HZ.out hok)
        go_wp2_with (go_at_call 93; refine (isKey_any _ _).mono ?_; rintro e w' ⟨rfl, rfl⟩)
        go_ret
        exact ⟨by rw [HE.out]; rfl, rfl⟩
      · obtain ⟨z0, z1⟩ := inB_true.1 hok
        have HT := Lib.hid (mixTo_take HZ.out)
        obtain ⟨Q, hQ⟩ : ∃ Q, Q = mixTo (zs.take k) := ⟨_, rfl⟩
        rw [← hQ] at q0 q1 HT ⊢
        obtain ⟨x, hx⟩ : ∃ x, (31 * Q + 7919 * z + 17) % 1000003 = x := ⟨_, rfl⟩
        have x0 : 0 ≤ x := by omega
        have x1 : x ≤ 1000002 := by omega
        obtain ⟨s0, s1⟩ := sq_bd x0 x1
        have HM := Lib.hid (mix1_of hx)
        clear hQ
        go_wp2_with (go_at_call 93; refine (isKey_any _ _).mono ?_; rintro e w' ⟨rfl, rfl⟩)
        go_round
        case rel => exact ⟨k + 1, by omega, by go_num, by rw [HT.out, HM.out], Lib.hid (all_take HZ.out HA.out hok)⟩
        case measure => simp [intOf]; omega
    · have HE := Lib.hid (show mixZ zs = mixTo (zs.take k) by
        have e : zs.take k = zs := List.take_of_length_le (by rw [HN.out]; omega)
        have h1 := HA.out
        rw [e] at h1 ⊢
        exact mixB_yes (by rw [HN.out]; omega) h1)
      go_wp2
      go_ret
      exact ⟨by rw [HE.out]; rfl, rfl⟩
theorem mix_any (A : Option Addr) (n c : Nat) (zs : List Int) (w : World) (hn : zs.length = n) (hm : n ≤ maxLen) (h : Ints w A zs) :
    Calls Try.prog 63 #[.slice A n c] w fun e w' => e = .returned (.int .i64 (mixZ zs)) ∧ w = w' := by
  go_enter Try.func63, Try.ntmps63
  go_wp2_with fail
  refine (mixNumbers_impl A n c zs _ hn hm h).mono ?_
  rintro e w' ⟨rfl, rfl⟩
  go_wp2_with fail
  go_ret
  exact ⟨rfl, rfl⟩
def flowHashZ (a b c d k : Int) : Int := if flowB a b c d k = true then mixZ [a, b, c, d, k] else -1
theorem flowHash_impl (a b c d k : Int) (w : World) :
    Calls Try.prog 58 #[.agg #[.int .i64 a, .int .i64 b, .int .i64 c, .int .i64 d, .int .i64 k]] w fun e w' => e = .returned (.int .i64 (flowHashZ a b c d k)) ∧ New w w' := by
  cases hB : flowB a b c d k
  · have HZ := Lib.hid (show flowHashZ a b c d k = -1 by simp [flowHashZ, hB])
    go_enter Try.func58, Try.ntmps58
    go_wp2_with (go_at_call 55; refine (flowValid_impl _ _ _ _ _ _).mono ?_; rintro e w1 ⟨rfl, hb⟩; have hcell := New.cells hb; have hfroz := New.marks hb; have hlts := New.lts hb; have hsz := New.le hb; try simp only [World.size_alloc] at hsz)
    go_ret
    exact ⟨by rw [HZ.out]; rfl, (by repeat (first | with_reducible assumption | with_reducible exact New.refl _ | with_reducible refine New.alloc ?_ _ | with_reducible refine New.drew ?_ | with_reducible refine New.drewN ?_ _ | refine New.setCell ?_ (by first | (simp; done) | omega | (simp; omega)) _ | with_reducible refine New.trans ?_ (by with_reducible assumption)))⟩
  · have HZ := Lib.hid (show flowHashZ a b c d k = mixZ [a, b, c, d, k] by simp [flowHashZ, hB])
    go_enter Try.func58, Try.ntmps58
    go_wp2_with (go_at_call 55; refine (flowValid_impl _ _ _ _ _ _).mono ?_; rintro e w1 ⟨rfl, hb⟩; have hcell := New.cells hb; have hfroz := New.marks hb; have hlts := New.lts hb; have hsz := New.le hb; try simp only [World.size_alloc] at hsz)
    refine (mix_any _ 5 5 [a, b, c, d, k] _ rfl (by unfold maxLen; omega) (Ints.built _ _ _)).mono ?_
    rintro e w' ⟨rfl, rfl⟩
    go_wp2_with fail
    go_ret
    exact ⟨by rw [HZ.out]; rfl, (by repeat (first | with_reducible assumption | with_reducible exact New.refl _ | with_reducible refine New.alloc ?_ _ | with_reducible refine New.drew ?_ | with_reducible refine New.drewN ?_ _ | refine New.setCell ?_ (by first | (simp; done) | omega | (simp; omega)) _ | with_reducible refine New.trans ?_ (by with_reducible assumption)))⟩
theorem flowHash_spec (a b c d k : Int) (w : World) :
    Calls Try.prog 91 #[.agg #[.int .i64 a, .int .i64 b, .int .i64 c, .int .i64 d, .int .i64 k]] w fun e w' => e = .returned (.int .i64 (flowHashZ a b c d k)) ∧ New w w' := by
  cases hB : flowB a b c d k
  · have HZ := Lib.hid (show flowHashZ a b c d k = -1 by simp [flowHashZ, hB])
    go_enter Try.func91, Try.ntmps91
    go_wp2_with (go_at_call 78; refine (flowValid_spec _ _ _ _ _ _).mono ?_; rintro e w1 ⟨rfl, hb⟩; have hcell := New.cells hb; have hfroz := New.marks hb; have hlts := New.lts hb; have hsz := New.le hb; try simp only [World.size_alloc] at hsz)
    go_ret
    exact ⟨by rw [HZ.out]; rfl, (by repeat (first | with_reducible assumption | with_reducible exact New.refl _ | with_reducible refine New.alloc ?_ _ | with_reducible refine New.drew ?_ | with_reducible refine New.drewN ?_ _ | refine New.setCell ?_ (by first | (simp; done) | omega | (simp; omega)) _ | with_reducible refine New.trans ?_ (by with_reducible assumption)))⟩
  · have HZ := Lib.hid (show flowHashZ a b c d k = mixZ [a, b, c, d, k] by simp [flowHashZ, hB])
    go_enter Try.func91, Try.ntmps91
    go_wp2_with (go_at_call 78; refine (flowValid_spec _ _ _ _ _ _).mono ?_; rintro e w1 ⟨rfl, hb⟩; have hcell := New.cells hb; have hfroz := New.marks hb; have hlts := New.lts hb; have hsz := New.le hb; try simp only [World.size_alloc] at hsz)
    refine (mixNumbers_spec _ 5 5 [a, b, c, d, k] _ rfl (by unfold maxLen; omega) (Ints.built _ _ _)).mono ?_
    rintro e w' ⟨rfl, rfl⟩
    go_wp2_with fail
    go_ret
    exact ⟨by rw [HZ.out]; rfl, (by repeat (first | with_reducible assumption | with_reducible exact New.refl _ | with_reducible refine New.alloc ?_ _ | with_reducible refine New.drew ?_ | with_reducible refine New.drewN ?_ _ | refine New.setCell ?_ (by first | (simp; done) | omega | (simp; omega)) _ | with_reducible refine New.trans ?_ (by with_reducible assumption)))⟩
/-- The bucket among m buckets, by looking at the numbers 2..m. -/
def jumpAt (key : Int) : Nat → Int
  | 0 => 0
  | m + 1 => if 1 ≤ m ∧ mixZ [key, (m : Int) + 1] % ((m : Int) + 1) = 0 then (m : Int) else jumpAt key m
def jumpZ (key many : Int) : Int := if (inB key 0 1000002 && inB many 1 50) = true then jumpAt key many.toNat else -1
theorem jumpAt_yes {key : Int} {m : Nat} (hm : 1 ≤ m) (h : mixZ [key, (m : Int) + 1] % ((m : Int) + 1) = 0) : jumpAt key (m + 1) = m := by unfold jumpAt; rw [if_pos ⟨hm, h⟩]
theorem jumpAt_no {key : Int} {m : Nat} (h : ¬ mixZ [key, (m : Int) + 1] % ((m : Int) + 1) = 0) : jumpAt key (m + 1) = jumpAt key m := by rw [jumpAt, if_neg (fun x => h x.2)]
theorem mixZ_key {key : Int} (hk : inB key 0 1000002 = true) {n : Int} (h0 : 0 ≤ n) (h1 : n ≤ 1000002) : 0 ≤ mixZ [key, n] := by
  have h2 : inB n 0 1000002 = true := inB_true.2 ⟨h0, h1⟩
  rw [mixB_yes (by simp) (by simp [okZ, hk, h2])]
  exact (mixTo_bd _).1
/-- The turned flow's hash is asked for where the first end is the greater one. -/
def evenB (a b c d : Int) : Bool := decide (c < a ∨ (c = a ∧ d < b))
def evenZ (a b c d k : Int) : Int := if flowB a b c d k = true then (if evenB a b c d = true then flowHashZ c d a b k else flowHashZ a b c d k) else -1
theorem flowB_turn {a b c d k : Int} (h : flowB a b c d k = true) : flowB c d a b k = true := by
  simp only [flowB, Bool.and_eq_true] at h ⊢
  obtain ⟨⟨⟨⟨h1, h2⟩, h3⟩, h4⟩, h5⟩ := h
  exact ⟨⟨⟨⟨h2, h1⟩, h4⟩, h3⟩, h5⟩
theorem evenZ_turn {a b c d k : Int} (h : flowB a b c d k = true) : evenZ c d a b k = evenZ a b c d k := by
  have h' := flowB_turn h
  unfold evenZ
  rw [if_pos h, if_pos h']
  simp only [evenB, decide_eq_true_eq]
  by_cases h1 : c < a ∨ (c = a ∧ d < b)
  · rw [if_neg (by omega), if_pos h1]
  · rw [if_neg h1]
    by_cases h2 : a < c ∨ (a = c ∧ b < d)
    · rw [if_pos h2]
    · rw [if_neg h2]
      obtain ⟨rfl, rfl⟩ : a = c ∧ b = d := by omega
      rfl
theorem evenZ_of {a b c d k : Int} (h : flowB a b c d k = true) : evenZ a b c d k = flowHashZ a b c d k ∨ evenZ a b c d k = flowHashZ c d a b k := by
  unfold evenZ
  rw [if_pos h]
  split
  · exact .inr rfl
  · exact .inl rfl
theorem flowHashZ_bd (a b c d k : Int) : -1 ≤ flowHashZ a b c d k ∧ flowHashZ a b c d k ≤ 1000002 := by
  unfold flowHashZ
  split
  · exact mixZ_bd _
  · omega
theorem mixZ_nonneg {zs : List Int} (h : zs.length ≤ 8) (h1 : ∀ z ∈ zs, 0 ≤ z ∧ z ≤ 1000002) : 0 ≤ mixZ zs := by
  rw [mixB_yes h (by rw [List.all_eq_true]; intro z hz; exact inB_true.2 (h1 z hz))]
  exact (mixTo_bd _).1
theorem flowHashZ_nonneg {a b c d k : Int} (h : flowB a b c d k = true) : 0 ≤ flowHashZ a b c d k := by
  unfold flowHashZ
  rw [if_pos h]
  simp only [flowB, Bool.and_eq_true, inB_true] at h
  obtain ⟨⟨⟨⟨h1, h2⟩, h3⟩, h4⟩, h5⟩ := h
  refine mixZ_nonneg (by simp) fun z hz => ?_
  simp at hz
  rcases hz with rfl | rfl | rfl | rfl | rfl <;> omega
theorem flowHashZ_no {a b c d k : Int} (h : flowB a b c d k = false) : flowHashZ a b c d k = -1 := by simp [flowHashZ, h]
theorem evenZ_no {a b c d k : Int} (h : flowB a b c d k = false) : evenZ a b c d k = -1 := by simp [evenZ, h]
theorem evenZ_nonneg {a b c d k : Int} (h : flowB a b c d k = true) : 0 ≤ evenZ a b c d k := by
  rcases evenZ_of h with e | e <;> rw [e]
  · exact flowHashZ_nonneg h
  · exact flowHashZ_nonneg (flowB_turn h)
end Go.Proofs.Ytbnehcaallehbaa
