/- Points of a ring: copied, compared, searched. -/
import Derived.Test.YtbnehcaallehbaaTypes
import Derived.Test.YtbnehcaallehbaaOwn
import Derived.StillTailTactics
namespace Go.Proofs.Ytbnehcaallehbaa
set_option linter.unusedVariables false
set_option linter.unusedSimpArgs false
open Go.RowKit

/-- A point: where it lies, and its host. -/
structure Pnt where
  at_ : Int
  to : Int
def flatP : List Pnt → List Int
  | [] => []
  | h :: t => h.at_ :: h.to :: flatP t
theorem flatP_len : ∀ hs : List Pnt, (flatP hs).length = hs.length * 2
  | [] => rfl
  | h :: t => by simp only [flatP, List.length_cons, flatP_len t]; omega
theorem flatP_append : ∀ xs ys : List Pnt, flatP (xs ++ ys) = flatP xs ++ flatP ys
  | [], _ => rfl
  | h :: t, ys => by simp [flatP, flatP_append t ys]
theorem flatP_at : ∀ (hs : List Pnt) (k : Nat) (h : Pnt), hs[k]? = some h → (flatP hs)[k * 2]? = some h.at_ ∧ (flatP hs)[k * 2 + 1]? = some h.to
  | [], _, _, h => by simp at h
  | x :: t, 0, h, hk => by simp at hk; subst hk; simp [flatP]
  | x :: t, k + 1, h, hk => by
    have ih := flatP_at t k h (by simpa using hk)
    rw [show (k + 1) * 2 = k * 2 + 1 + 1 from by omega]
    simpa [flatP] using ih
theorem unflatP : ∀ (n : Nat) (zs : List Int), zs.length = n * 2 → ∃ hs : List Pnt, flatP hs = zs ∧ hs.length = n
  | 0, zs, h => ⟨[], by have : zs = [] := List.eq_nil_of_length_eq_zero (by simpa using h); rw [this]; rfl, rfl⟩
  | n + 1, zs, h => by
    match zs, h with
    | a :: b :: t, h =>
      obtain ⟨hs, h1, h2⟩ := unflatP n t (by simp at h; omega)
      exact ⟨⟨a, b⟩ :: hs, by simp [flatP, h1], by simp [h2]⟩
    | [], h => simp at h
    | [_], h => simp at h; omega
theorem points_of {w : World} {A : Option Addr} {n c : Nat} {zs : List Int} (H : ArgInts .i64 w A n c 2 zs) : ∃ hs, flatP hs = zs ∧ hs.length = n := unflatP n zs H.2.2.1
theorem point_info : (Try.prog.info? 28).map (fun i => (i.zero, i.size, i.bytes)) = some (some (.agg #[.int .i64 0, .int .i64 0]), 2, 16) := by kernel_rfl

theorem points_at {w : World} {A : Option Addr} {hs : List Pnt} (h : Ints w A (flatP hs)) {k : Nat} (hk : k < hs.length) : ∃ b o x, A = some ⟨b, o, none⟩ ∧ hs[k]? = some x ∧ b < w.heap.size ∧
    w.cell? ⟨b, o + k * 2, none⟩ = some (.int .i64 x.at_) ∧ w.cell? ⟨b, o + k * 2 + 1, none⟩ = some (.int .i64 x.to) := by
  have hl := flatP_len hs
  obtain ⟨b, o, hA, hc⟩ := h (by omega)
  have hx : hs[k]? = some hs[k] := by simp [hk]
  obtain ⟨f0, f1⟩ := flatP_at hs k _ hx
  have c0 := hc (k * 2) (by omega)
  have c1 := hc (k * 2 + 1) (by omega)
  simp only [List.getD_eq_getElem?_getD, f0, f1, Option.getD_some] at c0 c1
  exact ⟨b, o, hs[k], hA, hx, World.block_lt_of_cell? w _ c0, c0, by rw [Nat.add_assoc]; exact c1⟩

def pntEq (a b a' b' : Int) : Bool := decide (a = a' ∧ b = b')
theorem eqPoint_any (a b a' b' : Int) (w : World) :
    Calls Try.prog 72 #[.agg #[.int .i64 a, .int .i64 b], .agg #[.int .i64 a', .int .i64 b']] w fun e w' => e = .returned (.bool (pntEq a b a' b')) ∧ New w w' := by
  go_enter Try.func72, Try.ntmps72
  go_wp2_with fail
  all_goals
    go_ret
    exact ⟨by simp_all [pntEq], (by repeat (first | with_reducible assumption | with_reducible exact New.refl _ | with_reducible refine New.alloc ?_ _ | with_reducible refine New.drew ?_ | with_reducible refine New.drewN ?_ _ | refine New.setCell ?_ (by first | (simp; done) | omega | (simp; omega)) _ | with_reducible refine New.trans ?_ (by with_reducible assumption)))⟩
set_option maxRecDepth 100000 in
/-- Two equal rings compare equal. -/
theorem eqPointS_same (A A' : Option Addr) (n c c' : Nat) (hs : List Pnt) (w : World) (hn : hs.length = n) (hm : n ≤ maxLen) (h : Ints w A (flatP hs)) (h' : Ints w A' (flatP hs)) :
    Calls Try.prog 22 #[.slice A n c, .slice A' n c'] w fun e w' => e = .returned (.bool true) ∧ New w w' := by
  unfold maxLen at hm
  have HN := Lib.hid hn
  clear hn
  go_enter Try.func22, Try.ntmps22
  go_wp2_with fail
  go_loopw [5] (fun i wr => ∃ k : Nat, k ≤ n ∧ i = .int .i64 k ∧ New w wr) (fun i _ => n - (intOf i).toNat)
  case atStart => exact ⟨0, Nat.zero_le _, rfl, New.refl _⟩
  case round =>
    obtain ⟨k, hk, rfl, hnew⟩ := hrel
    by_cases hlt : k < n
    · obtain ⟨b, o, x, rfl, hx, hb, c0, c1⟩ := points_at (h.new hnew) (k := k) (by rw [HN.out]; exact hlt)
      obtain ⟨b', o', x', rfl, hx', hb', d0, d1⟩ := points_at (h'.new hnew) (k := k) (by rw [HN.out]; exact hlt)
      obtain rfl : x = x' := by rw [hx] at hx'; exact Option.some.inj hx'
      clear hx hx'
      obtain ⟨x0, x1⟩ := x
      simp only at c0 c1 d0 d1
      have hki : (k : Int) < (n : Int) := by omega
      go_wp2_with fail
      go_still_tail 8, (by kernel_rfl)
      change wpList _ _ _ _ _ wr.drew
      have hb1 : New w wr.drew := hnew.drew
      generalize wr.drew = w2 at *
      have HE := Lib.hid (show pntEq x0 x1 x0 x1 = true by simp [pntEq])
      go_wp2_with fail
      refine (eqPoint_any _ _ _ _ _).mono ?_
      rintro e w3 ⟨rfl, b3⟩
      rw [HE.out]
      go_wp2_with fail
      go_roundw
      case rel => exact ⟨k + 1, by omega, by go_num, hb1.trans b3⟩
      case measure => simp [intOf]; omega
    · obtain rfl : k = n := by omega
      go_wp2_with fail
      go_ret
      exact ⟨rfl, hnew⟩
/-- The host of the first point at or behind a key, else of the first point. -/
def ringZ (ps : List Pnt) (key : Int) : Int := match ps.findIdx? fun x => decide (key ≤ x.at_) with
  | some k => (ps.getD k ⟨0, 0⟩).to
  | none => match ps with
    | [] => -1
    | x :: _ => x.to
theorem ring_hit {ps : List Pnt} {key : Int} {k : Nat} {x : Pnt} (hx : ps[k]? = some x) (hN : key ≤ x.at_) (hno : ∀ j, j < k → ∀ y, ps[j]? = some y → y.at_ < key) : ringZ ps key = x.to := by
  have hk : k < ps.length := (List.getElem?_eq_some_iff.1 hx).1
  have : ps.findIdx? (fun x => decide (key ≤ x.at_)) = some k := by
    rw [List.findIdx?_eq_some_iff_getElem]
    refine ⟨hk, ?_, fun j hj => ?_⟩
    · rw [(List.getElem?_eq_some_iff.1 hx).2]; simpa using hN
    · have := hno j hj ps[j] (by simp [Nat.lt_trans hj hk])
      simp; omega
  simp [ringZ, this, List.getD_eq_getElem?_getD, hx]
theorem ring_none {ps : List Pnt} {key : Int} {x : Pnt} (hx : ps[0]? = some x) (hno : ∀ j, j < ps.length → ∀ y, ps[j]? = some y → y.at_ < key) : ringZ ps key = x.to := by
  have : ps.findIdx? (fun x => decide (key ≤ x.at_)) = none := by
    rw [List.findIdx?_eq_none_iff]
    intro y hy
    obtain ⟨k, hk, rfl⟩ := List.getElem_of_mem hy
    have := hno k hk ps[k] (by simp [hk])
    simp; omega
  cases ps with
  | nil => simp at hx
  | cons y t =>
    simp at hx
    subst hx
    unfold ringZ
    rw [this]
theorem ring_nil (key : Int) : ringZ [] key = -1 := by simp [ringZ]
theorem ringHost_impl (A : Option Addr) (n c : Nat) (ps : List Pnt) (key : Int) (w : World) (hn : ps.length = n) (hm : n ≤ maxLen) (h : Ints w A (flatP ps)) :
    Calls Try.prog 28 #[.slice A n c, .int .i64 key] w fun e w' => e = .returned (.int .i64 (ringZ ps key)) ∧ New w w' := by
  unfold maxLen at hm
  by_cases h0 : n = 0
  · have HZ := Lib.hid (show ringZ ps key = -1 by rw [List.eq_nil_of_length_eq_zero (hn.trans h0)]; exact ring_nil key)
    subst h0
    clear h hn
    go_enter Try.func28, Try.ntmps28
    go_wp2_with fail
    go_ret
    exact ⟨ret_int HZ.out.symm, (by repeat (first | with_reducible assumption | with_reducible exact New.refl _ | with_reducible refine New.alloc ?_ _ | with_reducible refine New.drew ?_ | with_reducible refine New.drewN ?_ _ | refine New.setCell ?_ (by first | (simp; done) | omega | (simp; omega)) _ | with_reducible refine New.trans ?_ (by with_reducible assumption)))⟩
  · have h0p : 0 < n := by omega
    have h0b : ((n : Int) == 0) = false := by simp; omega
    have HN := Lib.hid hn
    clear hn
    go_enter Try.func28, Try.ntmps28
    go_wp2_with fail
    go_loopw [12] (fun i wr => ∃ k : Nat, k ≤ n ∧ i = .int .i64 k ∧ Hid (∀ j, j < k → ∀ y, ps[j]? = some y → y.at_ < key) ∧ New w wr) (fun i _ => n - (intOf i).toNat)
    case atStart => exact ⟨0, Nat.zero_le _, rfl, Lib.hid fun j hj => absurd hj (by omega), New.refl _⟩
    case round =>
      obtain ⟨k, hk, rfl, HB, hnew⟩ := hrel
      by_cases hlt : k < n
      · obtain ⟨b, o, x, rfl, hx, hb, c0, c1⟩ := points_at (h.new hnew) (k := k) (by rw [HN.out]; exact hlt)
        have HX := Lib.hid hx
        clear hx
        obtain ⟨x0, x1⟩ := x
        simp only at c0 c1
        by_cases hge : key ≤ x0
        · have HZ := Lib.hid (ring_hit HX.out hge HB.out)
          simp only at HZ
          go_wp2_with fail
          go_ret
          exact ⟨ret_int HZ.out.symm, (by repeat (first | with_reducible assumption | with_reducible exact New.refl _ | with_reducible refine New.alloc ?_ _ | with_reducible refine New.drew ?_ | with_reducible refine New.drewN ?_ _ | refine New.setCell ?_ (by first | (simp; done) | omega | (simp; omega)) _ | with_reducible refine New.trans ?_ (by with_reducible assumption)))⟩
        · have hge' : x0 < key := by omega
          go_wp2_with fail
          go_roundw
          case rel => exact ⟨k + 1, by omega, by go_num, Lib.hid (all_succ HB.out (fun y hy => by rw [HX.out] at hy; cases hy; exact hge')), hnew.alloc _⟩
          case measure => simp [intOf]; omega
      · obtain rfl : k = n := by omega
        obtain ⟨b, o, x, rfl, hx, hb, c0, c1⟩ := points_at (h.new hnew) (k := 0) (by rw [HN.out]; exact h0p)
        have HZ := Lib.hid (ring_none hx fun j hj => HB.out j (by rw [← HN.out]; exact hj))
        clear hx
        obtain ⟨x0, x1⟩ := x
        simp only [Nat.zero_mul, Nat.add_zero] at c0 c1 HZ
        go_wp2_with fail
        go_ret
        exact ⟨ret_int HZ.out.symm, (by repeat (first | with_reducible assumption | with_reducible exact New.refl _ | with_reducible refine New.alloc ?_ _ | with_reducible refine New.drew ?_ | with_reducible refine New.drewN ?_ _ | refine New.setCell ?_ (by first | (simp; done) | omega | (simp; omega)) _ | with_reducible refine New.trans ?_ (by with_reducible assumption)))⟩
theorem ringHost_spec (A : Option Addr) (n c : Nat) (ps : List Pnt) (key : Int) (w : World) (hn : ps.length = n) (hm : n ≤ maxLen) (h : Ints w A (flatP ps)) :
    Calls Try.prog 29 #[.slice A n c, .int .i64 key] w fun e w' => e = .returned (.int .i64 (ringZ ps key)) ∧ New w w' := by
  unfold maxLen at hm
  by_cases h0 : n = 0
  · have HZ := Lib.hid (show ringZ ps key = -1 by rw [List.eq_nil_of_length_eq_zero (hn.trans h0)]; exact ring_nil key)
    subst h0
    clear h hn
    go_enter Try.func29, Try.ntmps29
    go_wp2_with fail
    go_ret
    exact ⟨ret_int HZ.out.symm, (by repeat (first | with_reducible assumption | with_reducible exact New.refl _ | with_reducible refine New.alloc ?_ _ | with_reducible refine New.drew ?_ | with_reducible refine New.drewN ?_ _ | refine New.setCell ?_ (by first | (simp; done) | omega | (simp; omega)) _ | with_reducible refine New.trans ?_ (by with_reducible assumption)))⟩
  · have h0p : 0 < n := by omega
    have h0b : ((n : Int) == 0) = false := by simp; omega
    have HN := Lib.hid hn
    clear hn
    go_enter Try.func29, Try.ntmps29
    go_wp2_with fail
    go_loopw [5] (fun i wr => ∃ k : Nat, k ≤ n ∧ i = .int .i64 k ∧ Hid (∀ j, j < k → ∀ y, ps[j]? = some y → y.at_ < key) ∧ New w wr) (fun i _ => n - (intOf i).toNat)
    case atStart => exact ⟨0, Nat.zero_le _, rfl, Lib.hid fun j hj => absurd hj (by omega), New.refl _⟩
    case round =>
      obtain ⟨k, hk, rfl, HB, hnew⟩ := hrel
      by_cases hlt : k < n
      · obtain ⟨b, o, x, rfl, hx, hb, c0, c1⟩ := points_at (h.new hnew) (k := k) (by rw [HN.out]; exact hlt)
        have HX := Lib.hid hx
        clear hx
        obtain ⟨x0, x1⟩ := x
        simp only at c0 c1
        have hki : (k : Int) < (n : Int) := by omega
        by_cases hge : key ≤ x0
        · have HZ := Lib.hid (ring_hit HX.out hge HB.out)
          simp only at HZ
          go_wp2_with fail
          go_ret
          exact ⟨ret_int HZ.out.symm, (by repeat (first | with_reducible assumption | with_reducible exact New.refl _ | with_reducible refine New.alloc ?_ _ | with_reducible refine New.drew ?_ | with_reducible refine New.drewN ?_ _ | refine New.setCell ?_ (by first | (simp; done) | omega | (simp; omega)) _ | with_reducible refine New.trans ?_ (by with_reducible assumption)))⟩
        · have hge' : x0 < key := by omega
          go_wp2_with fail
          go_roundw
          case rel => exact ⟨k + 1, by omega, by go_num, Lib.hid (all_succ HB.out (fun y hy => by rw [HX.out] at hy; cases hy; exact hge')), hnew⟩
          case measure => simp [intOf]; omega
      · obtain rfl : k = n := by omega
        obtain ⟨b, o, x, rfl, hx, hb, c0, c1⟩ := points_at (h.new hnew) (k := 0) (by rw [HN.out]; exact h0p)
        have HZ := Lib.hid (ring_none hx fun j hj => HB.out j (by rw [← HN.out]; exact hj))
        clear hx
        obtain ⟨x0, x1⟩ := x
        simp only [Nat.zero_mul, Nat.add_zero] at c0 c1 HZ
        go_wp2_with fail
        go_ret
        exact ⟨ret_int HZ.out.symm, (by repeat (first | with_reducible assumption | with_reducible exact New.refl _ | with_reducible refine New.alloc ?_ _ | with_reducible refine New.drew ?_ | with_reducible refine New.drewN ?_ _ | refine New.setCell ?_ (by first | (simp; done) | omega | (simp; omega)) _ | with_reducible refine New.trans ?_ (by with_reducible assumption)))⟩
end Go.Proofs.Ytbnehcaallehbaa
