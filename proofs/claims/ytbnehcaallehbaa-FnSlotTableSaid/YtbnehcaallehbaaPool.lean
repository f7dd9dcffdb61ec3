/- Pools: the test whether a pool is valid. -/
import Derived.Test.YtbnehcaallehbaaIn
import Derived.Test.YtbnehcaallehbaaTypes
namespace Go.Proofs.Ytbnehcaallehbaa
set_option linter.unusedVariables false
set_option linter.unusedSimpArgs false
open Go.RowKit

/-- A host: its number, weight and state. -/
structure Hst where
  num : Int
  wt : Int
  st : Int
def flat : List Hst → List Int
  | [] => []
  | h :: t => h.num :: h.wt :: h.st :: flat t
theorem flat_len : ∀ hs : List Hst, (flat hs).length = hs.length * 3
  | [] => rfl
  | h :: t => by simp only [flat, List.length_cons, flat_len t]; omega
theorem flat_append : ∀ xs ys : List Hst, flat (xs ++ ys) = flat xs ++ flat ys
  | [], _ => rfl
  | h :: t, ys => by simp [flat, flat_append t ys]
theorem flat_at : ∀ (hs : List Hst) (k : Nat) (h : Hst), hs[k]? = some h → (flat hs)[k * 3]? = some h.num ∧ (flat hs)[k * 3 + 1]? = some h.wt ∧ (flat hs)[k * 3 + 2]? = some h.st
  | [], _, _, h => by simp at h
  | x :: t, 0, h, hk => by simp at hk; subst hk; simp [flat]
  | x :: t, k + 1, h, hk => by
    have ih := flat_at t k h (by simpa using hk)
    rw [show (k + 1) * 3 = k * 3 + 1 + 1 + 1 from by omega]
    simpa [flat] using ih
theorem unflat : ∀ (n : Nat) (zs : List Int), zs.length = n * 3 → ∃ hs : List Hst, flat hs = zs ∧ hs.length = n
  | 0, zs, h => ⟨[], by have : zs = [] := List.eq_nil_of_length_eq_zero (by simpa using h); rw [this]; rfl, rfl⟩
  | n + 1, zs, h => by
    match zs, h with
    | a :: b :: c :: t, h =>
      obtain ⟨hs, h1, h2⟩ := unflat n t (by simp at h; omega)
      exact ⟨⟨a, b, c⟩ :: hs, by simp [flat, h1], by simp [h2]⟩
    | [], h => simp at h
    | [_], h => simp at h; omega
    | [_, _], h => simp at h; omega

section
variable {w w' : World} {A : Option Addr} {hs : List Hst}
theorem hosts_at (h : Ints w A (flat hs)) {k : Nat} (hk : k < hs.length) : ∃ b o x, A = some ⟨b, o, none⟩ ∧ hs[k]? = some x ∧ b < w.heap.size ∧
    w.cell? ⟨b, o + k * 3, none⟩ = some (.int .i64 x.num) ∧ w.cell? ⟨b, o + k * 3 + 1, none⟩ = some (.int .i64 x.wt) ∧ w.cell? ⟨b, o + k * 3 + 2, none⟩ = some (.int .i64 x.st) := by
  have hl := flat_len hs
  obtain ⟨b, o, hA, hc⟩ := h (by omega)
  have hx : hs[k]? = some hs[k] := by simp [hk]
  obtain ⟨f0, f1, f2⟩ := flat_at hs k _ hx
  have c0 := hc (k * 3) (by omega)
  have c1 := hc (k * 3 + 1) (by omega)
  have c2 := hc (k * 3 + 2) (by omega)
  simp only [List.getD_eq_getElem?_getD, f0, f1, f2, Option.getD_some] at c0 c1 c2
  exact ⟨b, o, hs[k], hA, hx, World.block_lt_of_cell? w _ c0, c0, by rw [Nat.add_assoc]; exact c1, by rw [Nat.add_assoc]; exact c2⟩
end

def hostB (h : Hst) : Bool := inB h.num 0 30 && inB h.wt 1 5 && inB h.st 0 2
/-- Host k of hs is fine, and behind the one before. -/
def stepB (hs : List Hst) (k : Nat) : Bool := match hs[k]? with
  | none => false
  | some h => hostB h && (match k with
    | 0 => true
    | j + 1 => match hs[j]? with
      | none => false
      | some g => decide (g.num < h.num))
def poolB (hs : List Hst) : Bool := (List.range hs.length).all (stepB hs) && decide (hs.length ≤ 6)
theorem poolB_no {hs : List Hst} {k : Nat} (hk : k < hs.length) (h : stepB hs k = false) : poolB hs = false := by
  have : (List.range hs.length).all (stepB hs) = false := by
    rw [List.all_eq_false]
    exact ⟨k, List.mem_range.2 hk, by simp [h]⟩
  simp [poolB, this]
theorem poolB_yes {hs : List Hst} (h : ∀ j, j < hs.length → stepB hs j = true) : poolB hs = decide (hs.length ≤ 6) := by
  have : (List.range hs.length).all (stepB hs) = true := by
    rw [List.all_eq_true]
    exact fun j hj => h j (List.mem_range.1 hj)
  simp [poolB, this]
theorem stepB_zero {hs : List Hst} {h : Hst} (hx : hs[0]? = some h) : stepB hs 0 = hostB h := by simp [stepB, hx]
theorem stepB_succ {hs : List Hst} {k : Nat} (h0 : 0 < k) {h g : Hst} (hx : hs[k]? = some h) (hg : hs[k - 1]? = some g) : stepB hs k = (hostB h && decide (g.num < h.num)) := by
  obtain ⟨j, rfl⟩ : ∃ j, k = j + 1 := ⟨k - 1, by omega⟩
  simp only [Nat.add_sub_cancel] at hg
  simp [stepB, hx, hg]

theorem stepB_host {hs : List Hst} {k : Nat} {x : Hst} (hx : hs[k]? = some x) (h : stepB hs k = true) : hostB x = true := by
  simp only [stepB, hx, Bool.and_eq_true] at h
  exact h.1
theorem pool_step {hs : List Hst} (h : poolB hs = true) {k : Nat} (hk : k < hs.length) : stepB hs k = true := by
  simp only [poolB, Bool.and_eq_true, List.all_eq_true, List.mem_range] at h
  exact h.1 k hk
theorem pool_len {hs : List Hst} (h : poolB hs = true) : hs.length ≤ 6 := by
  simp only [poolB, Bool.and_eq_true, decide_eq_true_eq] at h
  exact h.2
theorem pool_mem {hs : List Hst} (h : poolB hs = true) {x : Hst} (hx : x ∈ hs) : hostB x = true := by
  obtain ⟨k, hk, rfl⟩ := List.getElem_of_mem hx
  exact stepB_host (by simp [hk]) (pool_step h hk)
theorem hostB_bd {x : Hst} (h : hostB x = true) : (0 ≤ x.num ∧ x.num ≤ 30) ∧ (1 ≤ x.wt ∧ x.wt ≤ 5) ∧ (0 ≤ x.st ∧ x.st ≤ 2) := by
  simp only [hostB, Bool.and_eq_true, inB_true] at h
  exact ⟨h.1.1, h.1.2, h.2⟩
theorem pool_asc {hs : List Hst} (h : poolB hs = true) {k : Nat} {x y : Hst} (hx : hs[k]? = some x) (hy : hs[k + 1]? = some y) : x.num < y.num := by
  have h1 := pool_step h (k := k + 1) (List.getElem?_eq_some_iff.1 hy).1
  rw [stepB_succ (by omega) hy (by simpa using hx)] at h1
  simp at h1
  exact h1.2
theorem pool_lt {hs : List Hst} (h : poolB hs = true) : ∀ (d : Nat) {j : Nat} {x y : Hst}, hs[j]? = some x → hs[j + d + 1]? = some y → x.num < y.num
  | 0, j, x, y, hx, hy => pool_asc h hx hy
  | d + 1, j, x, y, hx, hy => by
    have hl := (List.getElem?_eq_some_iff.1 hy).1
    have hm : hs[j + d + 1]? = some hs[j + d + 1] := by simp
    have h1 := pool_lt h d hx hm
    have h2 := pool_asc h hm (by rw [show j + d + 1 + 1 = j + (d + 1) + 1 from by omega]; exact hy)
    omega
/-- In a valid pool a number names one place. -/
theorem pool_inj {hs : List Hst} (h : poolB hs = true) {i j : Nat} {x y : Hst} (hx : hs[i]? = some x) (hy : hs[j]? = some y) (he : x.num = y.num) : i = j := by
  rcases Nat.lt_trichotomy i j with hlt | heq | hlt
  · have := pool_lt h (j - i - 1) hx (by rw [show i + (j - i - 1) + 1 = j from by omega]; exact hy)
    omega
  · exact heq
  · have := pool_lt h (i - j - 1) hy (by rw [show j + (i - j - 1) + 1 = i from by omega]; exact hx)
    omega

set_option maxRecDepth 100000 in
set_option maxHeartbeats 4000000 in
theorem poolValid_impl (A : Option Addr) (n c : Nat) (hs : List Hst) (w : World) (hn : hs.length = n) (hm : n ≤ maxLen) (h : Ints w A (flat hs)) :
    Calls Try.prog 54 #[.slice A n c] w fun e w' => e = .returned (.bool (poolB hs)) ∧ New w w' := by
  unfold maxLen at hm
  have HN := Lib.hid hn
  clear hn
  go_enter Try.func54, Try.ntmps54
  go_wp2_with fail
  go_loopw [7] (fun i wr => ∃ k : Nat, k ≤ n ∧ i = .int .i64 k ∧ Hid (∀ j, j < k → stepB hs j = true) ∧ New w wr) (fun i _ => n - (intOf i).toNat)
  case atStart => exact ⟨0, Nat.zero_le _, rfl, Lib.hid (fun j hj => absurd hj (by omega)), New.refl _⟩
  case round =>
    obtain ⟨k, hk, rfl, HK, hnew⟩ := hrel
    by_cases hlt : k < n
    · obtain ⟨b, o, x, rfl, hx, hb, c0, c1, c2⟩ := hosts_at h (k := k) (by rw [HN.out]; exact hlt)
      have hbr : b < wr.heap.size := Nat.lt_of_lt_of_le hb hnew.le
      have e0 : wr.cell? ⟨b, o + k * 3, none⟩ = some (.int .i64 x.num) := (Below.cell hnew (p := ⟨b, o + k * 3, none⟩) hb).trans c0
      have e1 : wr.cell? ⟨b, o + k * 3 + 1, none⟩ = some (.int .i64 x.wt) := (Below.cell hnew (p := ⟨b, o + k * 3 + 1, none⟩) hb).trans c1
      have e2 : wr.cell? ⟨b, o + k * 3 + 2, none⟩ = some (.int .i64 x.st) := (Below.cell hnew (p := ⟨b, o + k * 3 + 2, none⟩) hb).trans c2
      have HX := Lib.hid hx
      clear hx c0 c1 c2
      obtain ⟨x0, x1, x2⟩ := x
      simp only at e0 e1 e2 HX
      have hki : (k : Int) < (n : Int) := by omega
      -- the host before
      have hprev : k = 0 ∨ (0 < k ∧ ∃ y : Hst, hs[k - 1]? = some y ∧ wr.cell? ⟨b, o + (k - 1) * 3, none⟩ = some (.int .i64 y.num)) := by
        rcases Nat.eq_zero_or_pos k with h0 | h0
        · exact .inl h0
        · obtain ⟨b', o', y, hA', hy, hb', d0, _, _⟩ := hosts_at h (k := k - 1) (by rw [HN.out]; omega)
          obtain ⟨rfl, rfl⟩ : b = b' ∧ o = o' := by simpa using hA'
          exact .inr ⟨h0, y, hy, (Below.cell hnew (p := ⟨b, o + (k - 1) * 3, none⟩) hb').trans d0⟩
      cases hA : inB x0 0 30
      · have HF := Lib.hid (poolB_no (hs := hs) (k := k) (by rw [HN.out]; exact hlt) (by simp [stepB, HX.out, hostB, hA]))
        go_wp2_with fail
        go_quiet ((go_at_call 76; exact quiet_left (in_any _ _ _ _)))
        go_wp2_with fail
        go_ret
        exact ⟨by rw [HF.out]; rfl, (by repeat (first | with_reducible assumption | with_reducible exact New.refl _ | with_reducible refine New.alloc ?_ _ | with_reducible refine New.drew ?_ | with_reducible refine New.drewN ?_ _ | refine New.setCell ?_ (by first | (simp; done) | omega | (simp; omega)) _ | with_reducible refine New.trans ?_ (by with_reducible assumption)))⟩
      · rcases hprev with h0 | ⟨h0, y, hy, d0⟩
        · have hd : decide ((0 : Int) < (k : Int)) = false := by simp; omega
          have hd' : decide (0 < k) = false := by simp; omega
          have H0 := Lib.hid h0
          clear h0
          cases hW : inB x1 1 5
          · have HF := Lib.hid (poolB_no (hs := hs) (k := k) (by rw [HN.out]; exact hlt) (by simp [stepB, HX.out, hostB, hW]))
            go_wp2_with fail
            go_quiet ((go_at_call 76; exact quiet_left (in_any _ _ _ _)))
            go_wp2_with fail
            go_ret
            exact ⟨by rw [HF.out]; rfl, (by repeat (first | with_reducible assumption | with_reducible exact New.refl _ | with_reducible refine New.alloc ?_ _ | with_reducible refine New.drew ?_ | with_reducible refine New.drewN ?_ _ | refine New.setCell ?_ (by first | (simp; done) | omega | (simp; omega)) _ | with_reducible refine New.trans ?_ (by with_reducible assumption)))⟩
          · cases hS : inB x2 0 2
            · have HF := Lib.hid (poolB_no (hs := hs) (k := k) (by rw [HN.out]; exact hlt) (by simp [stepB, HX.out, hostB, hS]))
              go_wp2_with fail
              go_quiet ((go_at_call 76; exact quiet_left (in_any _ _ _ _)))
              go_wp2_with fail
              go_ret
              exact ⟨by rw [HF.out]; rfl, (by repeat (first | with_reducible assumption | with_reducible exact New.refl _ | with_reducible refine New.alloc ?_ _ | with_reducible refine New.drew ?_ | with_reducible refine New.drewN ?_ _ | refine New.setCell ?_ (by first | (simp; done) | omega | (simp; omega)) _ | with_reducible refine New.trans ?_ (by with_reducible assumption)))⟩
            · have HF := Lib.hid (show stepB hs k = true by have h0 := H0.out; subst h0; rw [stepB_zero HX.out]; simp [hostB, hA, hW, hS])
              go_wp2_with fail
              go_quiet ((go_at_call 76; exact quiet_left (in_any _ _ _ _)))
              go_wp2_with fail
              go_roundw
              case rel => exact ⟨k + 1, by omega, by go_num, Lib.hid (all_succ HK.out HF.out), (by repeat (first | with_reducible assumption | with_reducible exact New.refl _ | with_reducible refine New.alloc ?_ _ | with_reducible refine New.drew ?_ | with_reducible refine New.drewN ?_ _ | refine New.setCell ?_ (by first | (simp; done) | omega | (simp; omega)) _ | with_reducible refine New.trans ?_ (by with_reducible assumption)))⟩
              case measure => simp [intOf]; omega
        · have hd : decide ((0 : Int) < (k : Int)) = true := by simp; omega
          have hd' : decide (0 < k) = true := by simp; omega
          have HY := Lib.hid hy
          clear hy
          obtain ⟨y0, y1, y2⟩ := y
          simp only at d0 HY
          by_cases hle : x0 ≤ y0
          · have hle' : decide (x0 ≤ y0) = true := by simpa using hle
            have HF := Lib.hid (poolB_no (hs := hs) (k := k) (by rw [HN.out]; exact hlt) (by rw [stepB_succ h0 HX.out HY.out]; simp; intro _; omega))
            go_wp2_with fail
            go_quiet ((go_at_call 76; exact quiet_left (in_any _ _ _ _)))
            go_wp2_with fail
            go_ret
            exact ⟨by rw [HF.out]; rfl, (by repeat (first | with_reducible assumption | with_reducible exact New.refl _ | with_reducible refine New.alloc ?_ _ | with_reducible refine New.drew ?_ | with_reducible refine New.drewN ?_ _ | refine New.setCell ?_ (by first | (simp; done) | omega | (simp; omega)) _ | with_reducible refine New.trans ?_ (by with_reducible assumption)))⟩
          · have hle' : decide (x0 ≤ y0) = false := by simpa using hle
            cases hW : inB x1 1 5
            · have HF := Lib.hid (poolB_no (hs := hs) (k := k) (by rw [HN.out]; exact hlt) (by simp [stepB, HX.out, hostB, hW]))
              go_wp2_with fail
              go_quiet ((go_at_call 76; exact quiet_left (in_any _ _ _ _)))
              go_wp2_with fail
              go_ret
              exact ⟨by rw [HF.out]; rfl, (by repeat (first | with_reducible assumption | with_reducible exact New.refl _ | with_reducible refine New.alloc ?_ _ | with_reducible refine New.drew ?_ | with_reducible refine New.drewN ?_ _ | refine New.setCell ?_ (by first | (simp; done) | omega | (simp; omega)) _ | with_reducible refine New.trans ?_ (by with_reducible assumption)))⟩
            · cases hS : inB x2 0 2
              · have HF := Lib.hid (poolB_no (hs := hs) (k := k) (by rw [HN.out]; exact hlt) (by simp [stepB, HX.out, hostB, hS]))
                go_wp2_with fail
                go_quiet ((go_at_call 76; exact quiet_left (in_any _ _ _ _)))
                go_wp2_with fail
                go_ret
                exact ⟨by rw [HF.out]; rfl, (by repeat (first | with_reducible assumption | with_reducible exact New.refl _ | with_reducible refine New.alloc ?_ _ | with_reducible refine New.drew ?_ | with_reducible refine New.drewN ?_ _ | refine New.setCell ?_ (by first | (simp; done) | omega | (simp; omega)) _ | with_reducible refine New.trans ?_ (by with_reducible assumption)))⟩
              · have HF := Lib.hid (show stepB hs k = true by rw [stepB_succ h0 HX.out HY.out]; simp [hostB, hA, hW, hS]; omega)
                go_wp2_with fail
                go_quiet ((go_at_call 76; exact quiet_left (in_any _ _ _ _)))
                go_wp2_with fail
                go_roundw
                case rel => exact ⟨k + 1, by omega, by go_num, Lib.hid (all_succ HK.out HF.out), (by repeat (first | with_reducible assumption | with_reducible exact New.refl _ | with_reducible refine New.alloc ?_ _ | with_reducible refine New.drew ?_ | with_reducible refine New.drewN ?_ _ | refine New.setCell ?_ (by first | (simp; done) | omega | (simp; omega)) _ | with_reducible refine New.trans ?_ (by with_reducible assumption)))⟩
                case measure => simp [intOf]; omega
    · obtain rfl : k = n := by omega
      have HF := Lib.hid (show poolB hs = decide ((k : Int) ≤ 6) by
        rw [poolB_yes (by rw [HN.out]; exact HK.out), HN.out]
        by_cases h6 : k ≤ 6
        · simp [h6]; omega
        · simp [h6]; omega)
      go_wp2_with fail
      go_ret
      exact ⟨by rw [HF.out]; rfl, (by repeat (first | with_reducible assumption | with_reducible exact New.refl _ | with_reducible refine New.alloc ?_ _ | with_reducible refine New.drew ?_ | with_reducible refine New.drewN ?_ _ | refine New.setCell ?_ (by first | (simp; done) | omega | (simp; omega)) _ | with_reducible refine New.trans ?_ (by with_reducible assumption)))⟩
set_option maxRecDepth 100000 in
set_option maxHeartbeats 4000000 in
theorem poolValid_spec (A : Option Addr) (n c : Nat) (hs : List Hst) (w : World) (hn : hs.length = n) (hm : n ≤ maxLen) (h : Ints w A (flat hs)) :
    Calls Try.prog 68 #[.slice A n c] w fun e w' => e = .returned (.bool (poolB hs)) ∧ New w w' := by
  unfold maxLen at hm
  have HN := Lib.hid hn
  clear hn
  go_enter Try.func68, Try.ntmps68
  go_wp2_with fail
  go_loopw [3] (fun i wr => ∃ k : Nat, k ≤ n ∧ i = .int .i64 k ∧ Hid (∀ j, j < k → stepB hs j = true) ∧ New w wr) (fun i _ => n - (intOf i).toNat)
  case atStart => exact ⟨0, Nat.zero_le _, rfl, Lib.hid (fun j hj => absurd hj (by omega)), New.refl _⟩
  case round =>
    obtain ⟨k, hk, rfl, HK, hnew⟩ := hrel
    by_cases hlt : k < n
    · obtain ⟨b, o, x, rfl, hx, hb, c0, c1, c2⟩ := hosts_at h (k := k) (by rw [HN.out]; exact hlt)
      have hbr : b < wr.heap.size := Nat.lt_of_lt_of_le hb hnew.le
      have e0 : wr.cell? ⟨b, o + k * 3, none⟩ = some (.int .i64 x.num) := (Below.cell hnew (p := ⟨b, o + k * 3, none⟩) hb).trans c0
      have e1 : wr.cell? ⟨b, o + k * 3 + 1, none⟩ = some (.int .i64 x.wt) := (Below.cell hnew (p := ⟨b, o + k * 3 + 1, none⟩) hb).trans c1
      have e2 : wr.cell? ⟨b, o + k * 3 + 2, none⟩ = some (.int .i64 x.st) := (Below.cell hnew (p := ⟨b, o + k * 3 + 2, none⟩) hb).trans c2
      have HX := Lib.hid hx
      clear hx c0 c1 c2
      obtain ⟨x0, x1, x2⟩ := x
      simp only at e0 e1 e2 HX
      have hki : (k : Int) < (n : Int) := by omega
      -- the host before
      have hprev : k = 0 ∨ (0 < k ∧ ∃ y : Hst, hs[k - 1]? = some y ∧ wr.cell? ⟨b, o + (k - 1) * 3, none⟩ = some (.int .i64 y.num)) := by
        rcases Nat.eq_zero_or_pos k with h0 | h0
        · exact .inl h0
        · obtain ⟨b', o', y, hA', hy, hb', d0, _, _⟩ := hosts_at h (k := k - 1) (by rw [HN.out]; omega)
          obtain ⟨rfl, rfl⟩ : b = b' ∧ o = o' := by simpa using hA'
          exact .inr ⟨h0, y, hy, (Below.cell hnew (p := ⟨b, o + (k - 1) * 3, none⟩) hb').trans d0⟩
      cases hA : inB x0 0 30
      · have HF := Lib.hid (poolB_no (hs := hs) (k := k) (by rw [HN.out]; exact hlt) (by simp [stepB, HX.out, hostB, hA]))
        go_wp2_with fail
        go_quiet ((go_at_call 79; exact quiet_left (l1In_any _ _ _ _)))
        go_wp2_with fail
        go_ret
        exact ⟨by rw [HF.out]; rfl, (by repeat (first | with_reducible assumption | with_reducible exact New.refl _ | with_reducible refine New.alloc ?_ _ | with_reducible refine New.drew ?_ | with_reducible refine New.drewN ?_ _ | refine New.setCell ?_ (by first | (simp; done) | omega | (simp; omega)) _ | with_reducible refine New.trans ?_ (by with_reducible assumption)))⟩
      · cases hW : inB x1 1 5
        · have HF := Lib.hid (poolB_no (hs := hs) (k := k) (by rw [HN.out]; exact hlt) (by simp [stepB, HX.out, hostB, hW]))
          go_wp2_with fail
          go_quiet ((go_at_call 79; exact quiet_left (l1In_any _ _ _ _)))
          go_wp2_with fail
          go_ret
          exact ⟨by rw [HF.out]; rfl, (by repeat (first | with_reducible assumption | with_reducible exact New.refl _ | with_reducible refine New.alloc ?_ _ | with_reducible refine New.drew ?_ | with_reducible refine New.drewN ?_ _ | refine New.setCell ?_ (by first | (simp; done) | omega | (simp; omega)) _ | with_reducible refine New.trans ?_ (by with_reducible assumption)))⟩
        · cases hS : inB x2 0 2
          · have HF := Lib.hid (poolB_no (hs := hs) (k := k) (by rw [HN.out]; exact hlt) (by simp [stepB, HX.out, hostB, hS]))
            go_wp2_with fail
            go_quiet ((go_at_call 79; exact quiet_left (l1In_any _ _ _ _)))
            go_wp2_with fail
            go_ret
            exact ⟨by rw [HF.out]; rfl, (by repeat (first | with_reducible assumption | with_reducible exact New.refl _ | with_reducible refine New.alloc ?_ _ | with_reducible refine New.drew ?_ | with_reducible refine New.drewN ?_ _ | refine New.setCell ?_ (by first | (simp; done) | omega | (simp; omega)) _ | with_reducible refine New.trans ?_ (by with_reducible assumption)))⟩
          · rcases hprev with h0 | ⟨h0, y, hy, d0⟩
            · have hd : decide ((0 : Int) < (k : Int)) = false := by simp; omega
              have hd' : decide (0 < k) = false := by simp; omega
              have H0 := Lib.hid h0
              clear h0
              have HF := Lib.hid (show stepB hs k = true by have h0 := H0.out; subst h0; rw [stepB_zero HX.out]; simp [hostB, hA, hW, hS])
              go_wp2_with fail
              go_quiet ((go_at_call 79; exact quiet_left (l1In_any _ _ _ _)))
              go_wp2_with fail
              go_roundw
              case rel => exact ⟨k + 1, by omega, by go_num, Lib.hid (all_succ HK.out HF.out), (by repeat (first | with_reducible assumption | with_reducible exact New.refl _ | with_reducible refine New.alloc ?_ _ | with_reducible refine New.drew ?_ | with_reducible refine New.drewN ?_ _ | refine New.setCell ?_ (by first | (simp; done) | omega | (simp; omega)) _ | with_reducible refine New.trans ?_ (by with_reducible assumption)))⟩
              case measure => simp [intOf]; omega
            · have hd : decide ((0 : Int) < (k : Int)) = true := by simp; omega
              have hd' : decide (0 < k) = true := by simp; omega
              have HY := Lib.hid hy
              clear hy
              obtain ⟨y0, y1, y2⟩ := y
              simp only at d0 HY
              by_cases hle : x0 ≤ y0
              · have hle' : decide (x0 ≤ y0) = true := by simpa using hle
                have HF := Lib.hid (poolB_no (hs := hs) (k := k) (by rw [HN.out]; exact hlt) (by rw [stepB_succ h0 HX.out HY.out]; simp; intro _; omega))
                go_wp2_with fail
                go_quiet ((go_at_call 79; exact quiet_left (l1In_any _ _ _ _)))
                go_wp2_with fail
                go_ret
                exact ⟨by rw [HF.out]; rfl, (by repeat (first | with_reducible assumption | with_reducible exact New.refl _ | with_reducible refine New.alloc ?_ _ | with_reducible refine New.drew ?_ | with_reducible refine New.drewN ?_ _ | refine New.setCell ?_ (by first | (simp; done) | omega | (simp; omega)) _ | with_reducible refine New.trans ?_ (by with_reducible assumption)))⟩
              · have hle' : decide (x0 ≤ y0) = false := by simpa using hle
                have HF := Lib.hid (show stepB hs k = true by rw [stepB_succ h0 HX.out HY.out]; simp [hostB, hA, hW, hS]; omega)
                go_wp2_with fail
                go_quiet ((go_at_call 79; exact quiet_left (l1In_any _ _ _ _)))
                go_wp2_with fail
                go_roundw
                case rel => exact ⟨k + 1, by omega, by go_num, Lib.hid (all_succ HK.out HF.out), (by repeat (first | with_reducible assumption | with_reducible exact New.refl _ | with_reducible refine New.alloc ?_ _ | with_reducible refine New.drew ?_ | with_reducible refine New.drewN ?_ _ | refine New.setCell ?_ (by first | (simp; done) | omega | (simp; omega)) _ | with_reducible refine New.trans ?_ (by with_reducible assumption)))⟩
                case measure => simp [intOf]; omega
    · obtain rfl : k = n := by omega
      have HF := Lib.hid (show poolB hs = decide ((k : Int) ≤ 6) by
        rw [poolB_yes (by rw [HN.out]; exact HK.out), HN.out]
        by_cases h6 : k ≤ 6
        · simp [h6]; omega
        · simp [h6]; omega)
      go_wp2_with fail
      go_ret
      exact ⟨by rw [HF.out]; rfl, (by repeat (first | with_reducible assumption | with_reducible exact New.refl _ | with_reducible refine New.alloc ?_ _ | with_reducible refine New.drew ?_ | with_reducible refine New.drewN ?_ _ | refine New.setCell ?_ (by first | (simp; done) | omega | (simp; omega)) _ | with_reducible refine New.trans ?_ (by with_reducible assumption)))⟩
end Go.Proofs.Ytbnehcaallehbaa
