/- Pools copied and compared. -/
import Derived.Test.YtbnehcaallehbaaUp
import Derived.StillTailTactics
namespace Go.Proofs.Ytbnehcaallehbaa
set_option linter.unusedVariables false
set_option linter.unusedSimpArgs false
open Go.RowKit

/-- A pool that a law was handed. -/
theorem hosts_of {w : World} {A : Option Addr} {n c : Nat} {zs : List Int} (H : ArgInts .i64 w A n c 3 zs) : ∃ hs, flat hs = zs ∧ hs.length = n := unflat n zs H.2.2.1

theorem toHost_any (a b c : Int) (w : World) :
    Calls Try.prog 71 #[.agg #[.int .i64 a, .int .i64 b, .int .i64 c]] w fun e w' => e = .returned (.agg #[.int .i64 a, .int .i64 b, .int .i64 c]) ∧ New w w' := by
  go_enter Try.func71, Try.ntmps71
  go_wp2_with fail
  exact bodyPost_ret (v := .agg #[.int .i64 a, .int .i64 b, .int .i64 c]) (by simp [results, Try.results71, go_sem]) rfl ⟨rfl, (by repeat (first | with_reducible assumption | with_reducible exact New.refl _ | with_reducible refine New.alloc ?_ _ | with_reducible refine New.drew ?_ | with_reducible refine New.drewN ?_ _ | refine New.setCell ?_ (by first | (simp; done) | omega | (simp; omega)) _ | with_reducible refine New.trans ?_ (by with_reducible assumption)))⟩
def hstEq (a b c a' b' c' : Int) : Bool := decide (a = a' ∧ b = b' ∧ c = c')
theorem eqHost_any (a b c a' b' c' : Int) (w : World) :
    Calls Try.prog 73 #[.agg #[.int .i64 a, .int .i64 b, .int .i64 c], .agg #[.int .i64 a', .int .i64 b', .int .i64 c']] w fun e w' => e = .returned (.bool (hstEq a b c a' b' c')) ∧ New w w' := by
  go_enter Try.func73, Try.ntmps73
  go_wp2_with fail
  all_goals
    go_ret
    exact ⟨by simp_all [hstEq], (by repeat (first | with_reducible assumption | with_reducible exact New.refl _ | with_reducible refine New.alloc ?_ _ | with_reducible refine New.drew ?_ | with_reducible refine New.drewN ?_ _ | refine New.setCell ?_ (by first | (simp; done) | omega | (simp; omega)) _ | with_reducible refine New.trans ?_ (by with_reducible assumption)))⟩
set_option maxRecDepth 100000 in
/-- Two equal pools compare equal. -/
theorem eqHostS_same (A A' : Option Addr) (n c c' : Nat) (hs : List Hst) (w : World) (hn : hs.length = n) (hm : n ≤ maxLen) (h : Ints w A (flat hs)) (h' : Ints w A' (flat hs)) :
    Calls Try.prog 23 #[.slice A n c, .slice A' n c'] w fun e w' => e = .returned (.bool true) ∧ New w w' := by
  unfold maxLen at hm
  have HN := Lib.hid hn
  clear hn
  go_enter Try.func23, Try.ntmps23
  go_wp2_with fail
  go_loopw [5] (fun i wr => ∃ k : Nat, k ≤ n ∧ i = .int .i64 k ∧ New w wr) (fun i _ => n - (intOf i).toNat)
  case atStart => exact ⟨0, Nat.zero_le _, rfl, New.refl _⟩
  case round =>
    obtain ⟨k, hk, rfl, hnew⟩ := hrel
    by_cases hlt : k < n
    · obtain ⟨b, o, x, rfl, hx, hb, c0, c1, c2⟩ := hosts_at (h.new hnew) (k := k) (by rw [HN.out]; exact hlt)
      obtain ⟨b', o', x', rfl, hx', hb', d0, d1, d2⟩ := hosts_at (h'.new hnew) (k := k) (by rw [HN.out]; exact hlt)
      obtain rfl : x = x' := by rw [hx] at hx'; exact Option.some.inj hx'
      clear hx hx'
      obtain ⟨x0, x1, x2⟩ := x
      simp only at c0 c1 c2 d0 d1 d2
      have hki : (k : Int) < (n : Int) := by omega
      go_wp2_with fail
      go_still_tail 8, (by kernel_rfl)
      change wpList _ _ _ _ _ wr.drew
      have hb1 : New w wr.drew := hnew.drew
      generalize wr.drew = w2 at *
      have HE := Lib.hid (show hstEq x0 x1 x2 x0 x1 x2 = true by simp [hstEq])
      go_wp2_with fail
      refine (eqHost_any _ _ _ _ _ _ _).mono ?_
      rintro e w3 ⟨rfl, b3⟩
      rw [HE.out]
      go_wp2_with fail
      go_roundw
      case rel => exact ⟨k + 1, by omega, by go_num, hb1.trans b3⟩
      case measure => simp [intOf]; omega
    · obtain rfl : k = n := by omega
      go_wp2_with fail
      go_ret
      exact ⟨rfl, hnew⟩
theorem szHostS_any (A : Option Addr) (n c : Nat) (q : Int) (w : World) (hm : n ≤ maxLen) (hq0 : 0 ≤ q) (hq1 : q ≤ 1048576) :
    Calls Try.prog 20 #[.slice A n c, .int .i64 q] w fun e w' => e = .returned (.int .i64 (if q < n then -1 else q - n)) ∧ w = w' := by
  unfold maxLen at hm
  by_cases hlt : q < n
  · go_enter Try.func20, Try.ntmps20
    go_wp2_with fail
    go_ret
    exact ⟨rfl, rfl⟩
  · go_enter Try.func20, Try.ntmps20
    go_wp2_with fail
    go_ret
    exact ⟨rfl, rfl⟩
theorem flat_set : ∀ (l : List Hst) (k : Nat) (x : Hst), k < l.length → (((flat l).set (k * 3) x.num).set (k * 3 + 1) x.wt).set (k * 3 + 2) x.st = flat (l.set k x)
  | [], _, _, h => absurd h (by simp)
  | y :: t, 0, x, _ => by simp [flat]
  | y :: t, k + 1, x, h => by
    have ih := flat_set t k x (by simpa using h)
    rw [show (k + 1) * 3 = k * 3 + 1 + 1 + 1 from by omega]
    simpa [flat] using ih
def zHst : Hst := ⟨0, 0, 0⟩
theorem copiedH_set {hs : List Hst} {n k : Nat} {x : Hst} (hn : hs.length = n) (hk : k < n) (hx : hs[k]? = some x) : (hs.take k ++ List.replicate (n - k) zHst).set k x = hs.take (k + 1) ++ List.replicate (n - (k + 1)) zHst := by
  have hl : (hs.take k).length = k := by simp; omega
  rw [List.set_append_right _ _ (by omega), hl, Nat.sub_self, show n - k = (n - (k + 1)) + 1 from by omega, List.replicate_succ, List.set_cons_zero, List.take_add_one, hx]
  simp
theorem zerosH_map (n : Nat) : (madeCells (Value.agg #[.int .i64 0, .int .i64 0, .int .i64 0]).cells (n * 3)).toList = (flat (List.replicate n zHst)).map (Value.int .i64) := by
  apply List.ext_getElem?
  intro j
  have hf : ∀ (n j : Nat), j < n * 3 → (flat (List.replicate n zHst))[j]? = some 0 := by
    intro n
    induction n with
    | zero => intro j hj; omega
    | succ n ih =>
      intro j hj
      match j with
      | 0 => rfl
      | 1 => rfl
      | 2 => rfl
      | j + 3 => simpa [List.replicate_succ, flat, zHst] using ih j (by omega)
  have hfl : (flat (List.replicate n zHst)).length = n * 3 := by rw [flat_len]; simp
  by_cases hj : j < n * 3
  · rw [List.getElem?_map, hf n j hj]
    have h3 : j % 3 = 0 ∨ j % 3 = 1 ∨ j % 3 = 2 := by omega
    rcases h3 with h | h | h <;> simp [madeCells, Value.cells, hj, h]
  · rw [List.getElem?_eq_none (by simp [madeCells, Value.cells]; omega), List.getElem?_eq_none (by rw [List.length_map, hfl]; omega)]
set_option maxHeartbeats 1000000 in
theorem toHostS_any (A : Option Addr) (n c : Nat) (hs : List Hst) (w : World) (hn : hs.length = n) (hm : n ≤ 16777216) (h : Ints w A (flat hs)) :
    Calls Try.prog 21 #[.slice A n c] w (RetRow 64 3 w n (flat hs)) := by
  obtain ⟨i0, hi, hz0, hz1, hz2⟩ := info_parts host_info
  have HN := Lib.hid hn
  clear hn
  have hml : n ≤ maxLen := by unfold maxLen; omega
  go_enter Try.func21, Try.ntmps21
  go_wp2_with (at_make; refine wpList_make_full _ rfl _ _ 23 rfl w.heap.size 64 i0 _ 3 Try.underlying23 hi hz0 hz1 .i64 .i64 (n : Int) (n : Int) n rfl rfl rfl rfl (by rw [hz2]; omega) hml (Nat.le_refl _) ?_; intro w1 hown hgrow)
  have hown1 : Own 64 3 w.heap.size w1 (some ⟨w.heap.size, 0, none⟩) n n (flat (List.replicate n zHst)) := by
    unfold Own
    rw [← zerosH_map]
    exact hown
  have hb1 : New w w1 := (New.refl w).grown hgrow (by simp)
  clear hown hgrow
  have hml' := hml
  unfold maxLen at hml'
  go_loopw [4] (fun i wr => ∃ k : Nat, k ≤ n ∧ i = .int .i64 k ∧ Own 64 3 w.heap.size wr (some ⟨w.heap.size, 0, none⟩) n n (flat (hs.take k ++ List.replicate (n - k) zHst)) ∧ New w wr) (fun i _ => n - (intOf i).toNat)
  case atStart => exact ⟨0, Nat.zero_le _, rfl, by simpa using hown1, hb1⟩
  case round =>
    obtain ⟨k, hk, rfl, hown, hnew⟩ := hrel
    clear hown1 hb1
    by_cases hlt : k < n
    · obtain ⟨b, o, x, rfl, hx, hbw, c0, c1, c2⟩ := hosts_at (h.new hnew) (k := k) (by rw [HN.out]; exact hlt)
      have HS := Lib.hid (copiedH_set HN.out hlt hx)
      clear hx
      have hll : k < (hs.take k ++ List.replicate (n - k) zHst).length := by have := HN.out; simp; omega
      have HF := Lib.hid (flat_set _ k x hll)
      obtain ⟨x0, x1, x2⟩ := x
      simp only at c0 c1 c2 HS HF
      have hfl := flat_len (hs.take k ++ List.replicate (n - k) zHst)
      have hki : (k : Int) < (n : Int) := by omega
      go_wp2_with fail
      refine (toHost_any x0 x1 x2 _).mono ?_
      rintro e w2 ⟨rfl, b2⟩
      have hown2 := hown.new b2
      have hnew2 := hnew.trans b2
      have HNEW := Lib.hid hnew2
      clear hown c0 c1 c2
      obtain ⟨g, hg, _, _, _, hcell, hfr⟩ := hown2.at_ (by omega)
      obtain rfl : w.heap.size = g := by simpa using hg
      have e0 := hcell (k * 3) (by omega)
      have e1 := hcell (k * 3 + 1) (by omega)
      have e2 := hcell (k * 3 + 2) (by omega)
      have f0 := hfr (k * 3)
      have f1 := hfr (k * 3 + 1)
      have f2 := hfr (k * 3 + 2)
      have HO := Lib.hid (((hown2.set_ (k * 3) x0).set_ (k * 3 + 1) x1).set_ (k * 3 + 2) x2)
      clear hcell hfr hg hown2 hfl
      go_wp2_with fail
      go_roundw
      case rel =>
        refine ⟨k + 1, by omega, by go_num, ?_, ((HNEW.out.setCell (Nat.le_refl _) _).setCell (Nat.le_refl _) _).setCell (Nat.le_refl _) _⟩
        have := HO.out
        rwa [HF.out, HS.out] at this
      case measure => simp [intOf]; omega
    · obtain rfl : k = n := by omega
      go_wp2_with fail
      go_ret
      refine ⟨_, _, rfl, Nat.le_refl _, hml, ?_, hnew⟩
      rwa [List.take_of_length_le (by rw [HN.out]; exact Nat.le_refl _), Nat.sub_self, List.replicate_zero, List.append_nil] at hown
end Go.Proofs.Ytbnehcaallehbaa
