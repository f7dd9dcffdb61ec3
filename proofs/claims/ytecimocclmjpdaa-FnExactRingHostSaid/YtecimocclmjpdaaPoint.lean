/- Points of a ring: copied, compared, searched. -/
import Derived.Test.YtecimocclmjpdaaTypes
import Derived.Test.YtecimocclmjpdaaOwn
import Derived.StillTailTactics
namespace Go.Proofs.Ytecimocclmjpdaa
open Go.RowKit

/-- A point: where it lies, and its host. -/
structure Pnt where
  at_ : Int
  to : Int
def flatP : List Pnt → List Int
  | [] => []
  | h :: t => h.at_ :: h.to :: flatP t
theorem flatP_len : ∀ hs : List Pnt, (flatP hs).length = hs.length * 2
  | [] => rfl
  | h :: t => by simp only [flatP, List.length_cons, flatP_len t]; omega
theorem flatP_append : ∀ xs ys : List Pnt, flatP (xs ++ ys) = flatP xs ++ flatP ys
  | [], _ => rfl
  | h :: t, ys => by simp [flatP, flatP_append t ys]
theorem flatP_at : ∀ (hs : List Pnt) (k : Nat) (h : Pnt), hs[k]? = some h → (flatP hs)[k * 2]? = some h.at_ ∧ (flatP hs)[k * 2 + 1]? = some h.to
  | [], _, _, h => by simp at h
  | x :: t, 0, h, hk => by simp at hk; subst hk; simp [flatP]
  | x :: t, k + 1, h, hk => by
    have ih := flatP_at t k h (by simpa using hk)
    rw [show (k + 1) * 2 = k * 2 + 1 + 1 from by omega]
    simpa [flatP] using ih
theorem unflatP : ∀ (n : Nat) (zs : List Int), zs.length = n * 2 → ∃ hs : List Pnt, flatP hs = zs ∧ hs.length = n
  | 0, zs, h => ⟨[], by have : zs = [] := List.eq_nil_of_length_eq_zero (by simpa using h); rw [this]; rfl, rfl⟩
  | n + 1, zs, h => by
    match zs, h with
    | a :: b :: t, h =>
      obtain ⟨hs, h1, h2⟩ := unflatP n t (by simp at h; omega)
      exact ⟨⟨a, b⟩ :: hs, by simp [flatP, h1], by simp [h2]⟩
    | [], h => simp at h
    | [_], h => simp at h; omega
theorem points_of {w : World} {A : Option Addr} {n c : Nat} {zs : List Int} (H : ArgInts .i64 w A n c 2 zs) : ∃ hs, flatP hs = zs ∧ hs.length = n := unflatP n zs H.2.2.1
theorem point_info : (Try.prog.info? 66).map (fun i => (i.zero, i.size, i.bytes)) = some (some (.agg #[.int .i64 0, .int .i64 0]), 2, 16) := by kernel_rfl

theorem points_at {w : World} {A : Option Addr} {hs : List Pnt} (h : Ints w A (flatP hs)) {k : Nat} (hk : k < hs.length) : ∃ b o x, A = some ⟨b, o, none⟩ ∧ hs[k]? = some x ∧ b < w.heap.size ∧
    w.cell? ⟨b, o + k * 2, none⟩ = some (.int .i64 x.at_) ∧ w.cell? ⟨b, o + k * 2 + 1, none⟩ = some (.int .i64 x.to) := by
  have hl := flatP_len hs
  obtain ⟨b, o, hA, hc⟩ := h (by omega)
  have hx : hs[k]? = some hs[k] := by simp [hk]
  obtain ⟨f0, f1⟩ := flatP_at hs k _ hx
  have c0 := hc (k * 2) (by omega)
  have c1 := hc (k * 2 + 1) (by omega)
  simp only [List.getD_eq_getElem?_getD, f0, f1, Option.getD_some] at c0 c1
  exact ⟨b, o, hs[k], hA, hx, World.block_lt_of_cell? w _ c0, c0, by rw [Nat.add_assoc]; exact c1⟩

theorem toPoint_any (a b : Int) (w : World) :
    Calls Try.prog 55 #[.agg #[.int .i64 a, .int .i64 b]] w fun e w' => e = .returned (.agg #[.int .i64 a, .int .i64 b]) ∧ New w w' := by
  go_enter Try.func55, Try.ntmps55
  go_wp2_with fail
  exact bodyPost_ret (v := .agg #[.int .i64 a, .int .i64 b]) (by simp [results, Try.results55, go_sem]) rfl ⟨rfl, (by repeat (first | with_reducible assumption | with_reducible exact New.refl _ | with_reducible refine New.alloc ?_ _ | with_reducible refine New.drew ?_ | with_reducible refine New.drewN ?_ _ | refine New.setCell ?_ (by first | (simp; done) | omega | (simp; omega)) _ | with_reducible refine New.trans ?_ (by with_reducible assumption)))⟩
def pntEq (a b a' b' : Int) : Bool := decide (a = a' ∧ b = b')
theorem eqPoint_any (a b a' b' : Int) (w : World) :
    Calls Try.prog 56 #[.agg #[.int .i64 a, .int .i64 b], .agg #[.int .i64 a', .int .i64 b']] w fun e w' => e = .returned (.bool (pntEq a b a' b')) ∧ New w w' := by
  go_enter Try.func56, Try.ntmps56
  go_wp2_with fail
  all_goals
    go_ret
    exact ⟨by simp_all [pntEq], (by repeat (first | with_reducible assumption | with_reducible exact New.refl _ | with_reducible refine New.alloc ?_ _ | with_reducible refine New.drew ?_ | with_reducible refine New.drewN ?_ _ | refine New.setCell ?_ (by first | (simp; done) | omega | (simp; omega)) _ | with_reducible refine New.trans ?_ (by with_reducible assumption)))⟩
set_option maxRecDepth 100000 in
/-- Two equal rings compare equal. -/
theorem eqPointS_same (A A' : Option Addr) (n c c' : Nat) (hs : List Pnt) (w : World) (hn : hs.length = n) (hm : n ≤ maxLen) (h : Ints w A (flatP hs)) (h' : Ints w A' (flatP hs)) :
    Calls Try.prog 19 #[.slice A n c, .slice A' n c'] w fun e w' => e = .returned (.bool true) ∧ New w w' := by
  unfold maxLen at hm
  have HN := Lib.hid hn
  clear hn
  go_enter Try.func19, Try.ntmps19
  go_wp2_with fail
  go_loopw [5] (fun i wr => ∃ k : Nat, k ≤ n ∧ i = .int .i64 k ∧ New w wr) (fun i _ => n - (intOf i).toNat)
  case atStart => exact ⟨0, Nat.zero_le _, rfl, New.refl _⟩
  case round =>
    obtain ⟨k, hk, rfl, hnew⟩ := hrel
    by_cases hlt : k < n
    · obtain ⟨b, o, x, rfl, hx, hb, c0, c1⟩ := points_at (h.new hnew) (k := k) (by rw [HN.out]; exact hlt)
      obtain ⟨b', o', x', rfl, hx', hb', d0, d1⟩ := points_at (h'.new hnew) (k := k) (by rw [HN.out]; exact hlt)
      obtain rfl : x = x' := by rw [hx] at hx'; exact Option.some.inj hx'
      clear hx hx'
      obtain ⟨x0, x1⟩ := x
      simp only at c0 c1 d0 d1
      have hki : (k : Int) < (n : Int) := by omega
      go_wp2_with fail
      go_still_tail 8, (by kernel_rfl)
      change wpList _ _ _ _ _ wr.drew
      have hb1 : New w wr.drew := hnew.drew
      generalize wr.drew = w2 at *
      have HE := Lib.hid (show pntEq x0 x1 x0 x1 = true by simp [pntEq])
      go_wp2_with fail
      refine (eqPoint_any _ _ _ _ _).mono ?_
      rintro e w3 ⟨rfl, b3⟩
      rw [HE.out]
      go_wp2_with fail
      go_roundw
      case rel => exact ⟨k + 1, by omega, by go_num, hb1.trans b3⟩
      case measure => simp [intOf]; omega
    · obtain rfl : k = n := by omega
      go_wp2_with fail
      go_ret
      exact ⟨rfl, hnew⟩
theorem szPointS_any (A : Option Addr) (n c : Nat) (q : Int) (w : World) (hm : n ≤ maxLen) (hq0 : 0 ≤ q) (hq1 : q ≤ 1048576) :
    Calls Try.prog 15 #[.slice A n c, .int .i64 q] w fun e w' => e = .returned (.int .i64 (if q < n then -1 else q - n)) ∧ w = w' := by
  unfold maxLen at hm
  by_cases hlt : q < n
  · go_enter Try.func15, Try.ntmps15
    go_wp2_with fail
    go_ret
    exact ⟨rfl, rfl⟩
  · go_enter Try.func15, Try.ntmps15
    go_wp2_with fail
    go_ret
    exact ⟨rfl, rfl⟩
theorem flatP_set : ∀ (l : List Pnt) (k : Nat) (x : Pnt), k < l.length → ((flatP l).set (k * 2) x.at_).set (k * 2 + 1) x.to = flatP (l.set k x)
  | [], _, _, h => absurd h (by simp)
  | y :: t, 0, x, _ => by simp [flatP]
  | y :: t, k + 1, x, h => by
    have ih := flatP_set t k x (by simpa using h)
    rw [show (k + 1) * 2 = k * 2 + 1 + 1 from by omega]
    simpa [flatP] using ih
def zPnt : Pnt := ⟨0, 0⟩
theorem copiedP_set {hs : List Pnt} {n k : Nat} {x : Pnt} (hn : hs.length = n) (hk : k < n) (hx : hs[k]? = some x) : (hs.take k ++ List.replicate (n - k) zPnt).set k x = hs.take (k + 1) ++ List.replicate (n - (k + 1)) zPnt := by
  have hl : (hs.take k).length = k := by simp; omega
  rw [List.set_append_right _ _ (by omega), hl, Nat.sub_self, show n - k = (n - (k + 1)) + 1 from by omega, List.replicate_succ, List.set_cons_zero, List.take_add_one, hx]
  simp
theorem zerosP_map (n : Nat) : (madeCells (Value.agg #[.int .i64 0, .int .i64 0]).cells (n * 2)).toList = (flatP (List.replicate n zPnt)).map (Value.int .i64) := by
  apply List.ext_getElem?
  intro j
  have hf : ∀ (n j : Nat), j < n * 2 → (flatP (List.replicate n zPnt))[j]? = some 0 := by
    intro n
    induction n with
    | zero => intro j hj; omega
    | succ n ih =>
      intro j hj
      match j with
      | 0 => rfl
      | 1 => rfl
      | j + 2 => simpa [List.replicate_succ, flatP, zPnt] using ih j (by omega)
  have hfl : (flatP (List.replicate n zPnt)).length = n * 2 := by rw [flatP_len]; simp
  by_cases hj : j < n * 2
  · rw [List.getElem?_map, hf n j hj]
    have h3 : j % 2 = 0 ∨ j % 2 = 1 := by omega
    rcases h3 with h | h <;> simp [madeCells, Value.cells, hj, h]
  · rw [List.getElem?_eq_none (by simp [madeCells, Value.cells]; omega), List.getElem?_eq_none (by rw [List.length_map, hfl]; omega)]
set_option maxHeartbeats 1000000 in
theorem toPointS_any (A : Option Addr) (n c : Nat) (hs : List Pnt) (w : World) (hn : hs.length = n) (hm : n ≤ 16777216) (h : Ints w A (flatP hs)) :
    Calls Try.prog 17 #[.slice A n c] w (RetRow 66 2 w n (flatP hs)) := by
  obtain ⟨i0, hi, hz0, hz1, hz2⟩ := info_parts point_info
  have HN := Lib.hid hn
  clear hn
  have hml : n ≤ maxLen := by unfold maxLen; omega
  go_enter Try.func17, Try.ntmps17
  go_wp2_with (at_make; refine wpList_make_full _ rfl _ _ 25 rfl w.heap.size 66 i0 _ 2 Try.underlying25 hi hz0 hz1 .i64 .i64 (n : Int) (n : Int) n rfl rfl rfl rfl (by rw [hz2]; omega) hml (Nat.le_refl _) ?_; intro w1 hown hgrow)
  have hown1 : Own 66 2 w.heap.size w1 (some ⟨w.heap.size, 0, none⟩) n n (flatP (List.replicate n zPnt)) := by
    unfold Own
    rw [← zerosP_map]
    exact hown
  have hb1 : New w w1 := (New.refl w).grown hgrow (by simp)
  clear hown hgrow
  have hml' := hml
  unfold maxLen at hml'
  go_loopw [4] (fun i wr => ∃ k : Nat, k ≤ n ∧ i = .int .i64 k ∧ Own 66 2 w.heap.size wr (some ⟨w.heap.size, 0, none⟩) n n (flatP (hs.take k ++ List.replicate (n - k) zPnt)) ∧ New w wr) (fun i _ => n - (intOf i).toNat)
  case atStart => exact ⟨0, Nat.zero_le _, rfl, by simpa using hown1, hb1⟩
  case round =>
    obtain ⟨k, hk, rfl, hown, hnew⟩ := hrel
    clear hown1 hb1
    by_cases hlt : k < n
    · obtain ⟨b, o, x, rfl, hx, hbw, c0, c1⟩ := points_at (h.new hnew) (k := k) (by rw [HN.out]; exact hlt)
      have HS := Lib.hid (copiedP_set HN.out hlt hx)
      clear hx
      have hll : k < (hs.take k ++ List.replicate (n - k) zPnt).length := by have := HN.out; simp; omega
      have HF := Lib.hid (flatP_set _ k x hll)
      obtain ⟨x0, x1⟩ := x
      simp only at c0 c1 HS HF
      have hfl := flatP_len (hs.take k ++ List.replicate (n - k) zPnt)
      have hki : (k : Int) < (n : Int) := by omega
      go_wp2_with fail
      refine (toPoint_any x0 x1 _).mono ?_
      rintro e w2 ⟨rfl, b2⟩
      have hown2 := hown.new b2
      have hnew2 := hnew.trans b2
      have HNEW := Lib.hid hnew2
      clear hown c0 c1
      obtain ⟨g, hg, _, _, _, hcell, hfr⟩ := hown2.at_ (by omega)
      obtain rfl : w.heap.size = g := by simpa using hg
      have e0 := hcell (k * 2) (by omega)
      have e1 := hcell (k * 2 + 1) (by omega)
      have f0 := hfr (k * 2)
      have f1 := hfr (k * 2 + 1)
      have HO := Lib.hid ((hown2.set_ (k * 2) x0).set_ (k * 2 + 1) x1)
      clear hcell hfr hg hown2 hfl
      go_wp2_with fail
      go_roundw
      case rel =>
        refine ⟨k + 1, by omega, by go_num, ?_, (HNEW.out.setCell (Nat.le_refl _) _).setCell (Nat.le_refl _) _⟩
        have := HO.out
        rwa [HF.out, HS.out] at this
      case measure => simp [intOf]; omega
    · obtain rfl : k = n := by omega
      go_wp2_with fail
      go_ret
      refine ⟨_, _, rfl, Nat.le_refl _, hml, ?_, hnew⟩
      rwa [List.take_of_length_le (by rw [HN.out]; exact Nat.le_refl _), Nat.sub_self, List.replicate_zero, List.append_nil] at hown
/-- The host of the first point at or behind a key, else of the first point. -/
def ringZ (ps : List Pnt) (key : Int) : Int := match ps.findIdx? fun x => decide (key ≤ x.at_) with
  | some k => (ps.getD k ⟨0, 0⟩).to
  | none => match ps with
    | [] => -1
    | x :: _ => x.to
theorem ring_hit {ps : List Pnt} {key : Int} {k : Nat} {x : Pnt} (hx : ps[k]? = some x) (hN : key ≤ x.at_) (hno : ∀ j, j < k → ∀ y, ps[j]? = some y → y.at_ < key) : ringZ ps key = x.to := by
  have hk : k < ps.length := (List.getElem?_eq_some_iff.1 hx).1
  have : ps.findIdx? (fun x => decide (key ≤ x.at_)) = some k := by
    rw [List.findIdx?_eq_some_iff_getElem]
    refine ⟨hk, ?_, fun j hj => ?_⟩
    · rw [(List.getElem?_eq_some_iff.1 hx).2]; simpa using hN
    · have := hno j hj ps[j] (by simp [Nat.lt_trans hj hk])
      simp; omega
  simp [ringZ, this, List.getD_eq_getElem?_getD, hx]
theorem ring_none {ps : List Pnt} {key : Int} {x : Pnt} (hx : ps[0]? = some x) (hno : ∀ j, j < ps.length → ∀ y, ps[j]? = some y → y.at_ < key) : ringZ ps key = x.to := by
  have : ps.findIdx? (fun x => decide (key ≤ x.at_)) = none := by
    rw [List.findIdx?_eq_none_iff]
    intro y hy
    obtain ⟨k, hk, rfl⟩ := List.getElem_of_mem hy
    have := hno k hk ps[k] (by simp [hk])
    simp; omega
  cases ps with
  | nil => simp at hx
  | cons y t =>
    simp at hx
    subst hx
    unfold ringZ
    rw [this]
theorem ring_nil (key : Int) : ringZ [] key = -1 := by simp [ringZ]
theorem ringHost_impl (A : Option Addr) (n c : Nat) (ps : List Pnt) (key : Int) (w : World) (hn : ps.length = n) (hm : n ≤ maxLen) (h : Ints w A (flatP ps)) :
    Calls Try.prog 18 #[.slice A n c, .int .i64 key] w fun e w' => e = .returned (.int .i64 (ringZ ps key)) ∧ New w w' := by
  unfold maxLen at hm
  by_cases h0 : n = 0
  · have HZ := Lib.hid (show ringZ ps key = -1 by rw [List.eq_nil_of_length_eq_zero (hn.trans h0)]; exact ring_nil key)
    subst h0
    clear h hn
    go_enter Try.func18, Try.ntmps18
    go_wp2_with fail
    go_ret
    exact ⟨ret_int HZ.out.symm, (by repeat (first | with_reducible assumption | with_reducible exact New.refl _ | with_reducible refine New.alloc ?_ _ | with_reducible refine New.drew ?_ | with_reducible refine New.drewN ?_ _ | refine New.setCell ?_ (by first | (simp; done) | omega | (simp; omega)) _ | with_reducible refine New.trans ?_ (by with_reducible assumption)))⟩
  · have h0p : 0 < n := by omega
    have h0b : ((n : Int) == 0) = false := by simp; omega
    have HN := Lib.hid hn
    clear hn
    go_enter Try.func18, Try.ntmps18
    go_wp2_with fail
    go_loopw [12] (fun i wr => ∃ k : Nat, k ≤ n ∧ i = .int .i64 k ∧ Hid (∀ j, j < k → ∀ y, ps[j]? = some y → y.at_ < key) ∧ New w wr) (fun i _ => n - (intOf i).toNat)
    case atStart => exact ⟨0, Nat.zero_le _, rfl, Lib.hid fun j hj => absurd hj (by omega), New.refl _⟩
    case round =>
      obtain ⟨k, hk, rfl, HB, hnew⟩ := hrel
      by_cases hlt : k < n
      · obtain ⟨b, o, x, rfl, hx, hb, c0, c1⟩ := points_at (h.new hnew) (k := k) (by rw [HN.out]; exact hlt)
        have HX := Lib.hid hx
        clear hx
        obtain ⟨x0, x1⟩ := x
        simp only at c0 c1
        by_cases hge : key ≤ x0
        · have HZ := Lib.hid (ring_hit HX.out hge HB.out)
          simp only at HZ
          go_wp2_with fail
          go_ret
          exact ⟨ret_int HZ.out.symm, (by repeat (first | with_reducible assumption | with_reducible exact New.refl _ | with_reducible refine New.alloc ?_ _ | with_reducible refine New.drew ?_ | with_reducible refine New.drewN ?_ _ | refine New.setCell ?_ (by first | (simp; done) | omega | (simp; omega)) _ | with_reducible refine New.trans ?_ (by with_reducible assumption)))⟩
        · have hge' : x0 < key := by omega
          go_wp2_with fail
          go_roundw
          case rel => exact ⟨k + 1, by omega, by go_num, Lib.hid (all_succ HB.out (fun y hy => by rw [HX.out] at hy; cases hy; exact hge')), hnew.alloc _⟩
          case measure => simp [intOf]; omega
      · obtain rfl : k = n := by omega
        obtain ⟨b, o, x, rfl, hx, hb, c0, c1⟩ := points_at (h.new hnew) (k := 0) (by rw [HN.out]; exact h0p)
        have HZ := Lib.hid (ring_none hx fun j hj => HB.out j (by rw [← HN.out]; exact hj))
        clear hx
        obtain ⟨x0, x1⟩ := x
        simp only [Nat.zero_mul, Nat.add_zero] at c0 c1 HZ
        go_wp2_with fail
        go_ret
        exact ⟨ret_int HZ.out.symm, (by repeat (first | with_reducible assumption | with_reducible exact New.refl _ | with_reducible refine New.alloc ?_ _ | with_reducible refine New.drew ?_ | with_reducible refine New.drewN ?_ _ | refine New.setCell ?_ (by first | (simp; done) | omega | (simp; omega)) _ | with_reducible refine New.trans ?_ (by with_reducible assumption)))⟩
theorem ringHost_spec (A : Option Addr) (n c : Nat) (ps : List Pnt) (key : Int) (w : World) (hn : ps.length = n) (hm : n ≤ maxLen) (h : Ints w A (flatP ps)) :
    Calls Try.prog 16 #[.slice A n c, .int .i64 key] w fun e w' => e = .returned (.int .i64 (ringZ ps key)) ∧ New w w' := by
  unfold maxLen at hm
  by_cases h0 : n = 0
  · have HZ := Lib.hid (show ringZ ps key = -1 by rw [List.eq_nil_of_length_eq_zero (hn.trans h0)]; exact ring_nil key)
    subst h0
    clear h hn
    go_enter Try.func16, Try.ntmps16
    go_wp2_with fail
    go_ret
    exact ⟨ret_int HZ.out.symm, (by repeat (first | with_reducible assumption | with_reducible exact New.refl _ | with_reducible refine New.alloc ?_ _ | with_reducible refine New.drew ?_ | with_reducible refine New.drewN ?_ _ | refine New.setCell ?_ (by first | (simp; done) | omega | (simp; omega)) _ | with_reducible refine New.trans ?_ (by with_reducible assumption)))⟩
  · have h0p : 0 < n := by omega
    have h0b : ((n : Int) == 0) = false := by simp; omega
    have HN := Lib.hid hn
    clear hn
    go_enter Try.func16, Try.ntmps16
    go_wp2_with fail
    go_loopw [5] (fun i wr => ∃ k : Nat, k ≤ n ∧ i = .int .i64 k ∧ Hid (∀ j, j < k → ∀ y, ps[j]? = some y → y.at_ < key) ∧ New w wr) (fun i _ => n - (intOf i).toNat)
    case atStart => exact ⟨0, Nat.zero_le _, rfl, Lib.hid fun j hj => absurd hj (by omega), New.refl _⟩
    case round =>
      obtain ⟨k, hk, rfl, HB, hnew⟩ := hrel
      by_cases hlt : k < n
      · obtain ⟨b, o, x, rfl, hx, hb, c0, c1⟩ := points_at (h.new hnew) (k := k) (by rw [HN.out]; exact hlt)
        have HX := Lib.hid hx
        clear hx
        obtain ⟨x0, x1⟩ := x
        simp only at c0 c1
        have hki : (k : Int) < (n : Int) := by omega
        by_cases hge : key ≤ x0
        · have HZ := Lib.hid (ring_hit HX.out hge HB.out)
          simp only at HZ
          go_wp2_with fail
          go_ret
          exact ⟨ret_int HZ.out.symm, (by repeat (first | with_reducible assumption | with_reducible exact New.refl _ | with_reducible refine New.alloc ?_ _ | with_reducible refine New.drew ?_ | with_reducible refine New.drewN ?_ _ | refine New.setCell ?_ (by first | (simp; done) | omega | (simp; omega)) _ | with_reducible refine New.trans ?_ (by with_reducible assumption)))⟩
        · have hge' : x0 < key := by omega
          go_wp2_with fail
          go_roundw
          case rel => exact ⟨k + 1, by omega, by go_num, Lib.hid (all_succ HB.out (fun y hy => by rw [HX.out] at hy; cases hy; exact hge')), hnew⟩
          case measure => simp [intOf]; omega
      · obtain rfl : k = n := by omega
        obtain ⟨b, o, x, rfl, hx, hb, c0, c1⟩ := points_at (h.new hnew) (k := 0) (by rw [HN.out]; exact h0p)
        have HZ := Lib.hid (ring_none hx fun j hj => HB.out j (by rw [← HN.out]; exact hj))
        clear hx
        obtain ⟨x0, x1⟩ := x
        simp only [Nat.zero_mul, Nat.add_zero] at c0 c1 HZ
        go_wp2_with fail
        go_ret
        exact ⟨ret_int HZ.out.symm, (by repeat (first | with_reducible assumption | with_reducible exact New.refl _ | with_reducible refine New.alloc ?_ _ | with_reducible refine New.drew ?_ | with_reducible refine New.drewN ?_ _ | refine New.setCell ?_ (by first | (simp; done) | omega | (simp; omega)) _ | with_reducible refine New.trans ?_ (by with_reducible assumption)))⟩
theorem walk_FnExactRingHost (A : Option Addr) (n c : Nat) (zs : List Int) (key : Int) (w : World) (H : ArgInts .i64 w A n c 2 zs) (_hN : (Lit.int .i64 key).wf = true) :
    Calls Try.prog 3 #[.slice A n c, .int .i64 key] w fun e w' => e = .returned (.bool true) ∧ New w w' := by
  obtain ⟨hs, rfl, hlen⟩ := points_of H
  have h := H.2.2.2.2
  have hml : n ≤ maxLen := Nat.le_trans H.1 H.2.1
  have hm' := hml
  unfold maxLen at hm'
  have HL := Lib.hid hlen
  clear hlen H
  by_cases hbig : 1048576 < n
  · have HZ := Lib.hid (show (if (1048576 : Int) < (n : Int) then (-1 : Int) else 1048576 - n) = -1 by rw [if_pos (by omega)])
    go_enter Try.func3, Try.ntmps3
    go_wp2_with fail
    refine (szPointS_any A n c 1048576 _ hml (by omega) (by omega)).mono ?_
    rintro e w' ⟨rfl, rfl⟩
    rw [HZ.out]
    go_wp2_with fail
    go_ret
    exact ⟨rfl, (by repeat (first | with_reducible assumption | with_reducible exact New.refl _ | with_reducible refine New.alloc ?_ _ | with_reducible refine New.drew ?_ | with_reducible refine New.drewN ?_ _ | refine New.setCell ?_ (by first | (simp; done) | omega | (simp; omega)) _ | with_reducible refine New.trans ?_ (by with_reducible assumption)))⟩
  · have HZ := Lib.hid (show (if (1048576 : Int) < (n : Int) then (-1 : Int) else 1048576 - n) = 1048576 - n by rw [if_neg (by omega)])
    go_enter Try.func3, Try.ntmps3
    go_wp2_with fail
    refine (szPointS_any A n c 1048576 _ hml (by omega) (by omega)).mono ?_
    rintro e w' ⟨rfl, rfl⟩
    rw [HZ.out]
    go_wp2_with fail
    refine (toPointS_any A n c hs _ HL.out (by omega) h).mono ?_
    rintro e w1 ⟨A1, c1, rfl, _, _, o1, b1⟩
    go_wp2_with fail
    refine (ringHost_spec A1 n c1 hs key _ HL.out hml o1.ints).mono ?_
    rintro e w2 ⟨rfl, b2⟩
    have B2 := b1.trans b2
    go_wp2_with fail
    refine (toPointS_any A n c hs _ HL.out (by omega) (h.new B2)).mono ?_
    rintro e w3 ⟨A3, c3, rfl, _, _, o3, b3⟩
    go_wp2_with fail
    refine (ringHost_impl A3 n c3 hs key _ HL.out hml o3.ints).mono ?_
    rintro e w4 ⟨rfl, b4⟩
    have B4 := (B2.trans b3).trans b4
    go_wp2_with fail
    refine (toPointS_any A n c hs _ HL.out (by omega) (h.new B4)).mono ?_
    rintro e w5 ⟨A5, c5, rfl, _, _, o5, b5⟩
    go_wp2_with fail
    refine (eqPointS_same A3 A5 n c3 c5 hs _ HL.out hml ((o3.ints.new b4).new b5) o5.ints).mono ?_
    rintro e w6 ⟨rfl, b6⟩
    go_wp2_with fail
    go_ret
    exact ⟨rfl, (B4.trans b5).trans b6⟩
end Go.Proofs.Ytecimocclmjpdaa
