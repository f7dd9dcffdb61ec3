/- Plain laws on turns: they are fair, and they come again. -/
import Derived.Test.YtdcobkngbpkdfaaTurns
import Derived.Test.YtdcobkngbpkdfaaPlain
namespace Go.Proofs.Ytdcobkngbpkdfaa
set_option linter.unusedVariables false
set_option linter.unusedSimpArgs false
open Go.RowKit

/-- The sum of f over 0..m-1. -/
def sumF (f : Nat → Int) : Nat → Int
  | 0 => 0
  | m + 1 => sumF f m + f m
theorem sumF_congr {f g : Nat → Int} : ∀ {m : Nat}, (∀ i, i < m → f i = g i) → sumF f m = sumF g m
  | 0, _ => rfl
  | m + 1, h => by
    unfold sumF
    rw [sumF_congr (m := m) fun i hi => h i (by omega), h m (by omega)]
theorem sumF_add (f g : Nat → Int) : ∀ m, sumF (fun i => f i + g i) m = sumF f m + sumF g m
  | 0 => rfl
  | m + 1 => by unfold sumF; rw [sumF_add f g m]; omega
theorem sumF_mul (c : Int) (f : Nat → Int) : ∀ m, sumF (fun i => c * f i) m = c * sumF f m
  | 0 => by simp [sumF]
  | m + 1 => by unfold sumF; rw [sumF_mul c f m, Int.mul_add]
theorem sumF_le {f g : Nat → Int} : ∀ {m : Nat}, (∀ i, i < m → f i ≤ g i) → sumF f m ≤ sumF g m
  | 0, _ => Int.le_refl _
  | m + 1, h => by
    have h1 := sumF_le (m := m) fun i hi => h i (by omega)
    have h2 := h m (by omega)
    unfold sumF
    omega
theorem sumF_eq {f g : Nat → Int} : ∀ {m : Nat}, (∀ i, i < m → f i ≤ g i) → sumF f m = sumF g m → ∀ i, i < m → f i = g i
  | 0, _, _, i, hi => absurd hi (by omega)
  | m + 1, h, he, i, hi => by
    have h1 := sumF_le (m := m) fun i hi => h i (by omega)
    have h2 := h m (by omega)
    unfold sumF at he
    rcases Nat.lt_or_ge i m with h3 | h3
    · exact sumF_eq (m := m) (fun i hi => h i (by omega)) (by omega) i h3
    · obtain rfl : i = m := by omega
      omega
theorem sumF_list : ∀ (l : List Int) (k : Nat), k ≤ l.length → sumF (fun i => l.getD i 0) k = (l.take k).sum
  | l, 0, _ => by simp [sumF]
  | l, k + 1, h => by
    have ih := sumF_list l k (by omega)
    have hk : l[k]? = some (l[k]'(by omega)) := by rw [List.getElem?_eq_getElem]
    have e : l.getD k 0 = l[k]'(by omega) := by rw [List.getD_eq_getElem?_getD, hk]; rfl
    unfold sumF
    rw [ih, e, List.take_add_one, hk, List.sum_append]
    simp only [Option.toList_some, List.sum_cons, List.sum_nil, Int.add_zero]
theorem sumF_count : ∀ (P : List Nat) (m : Nat), (∀ x ∈ P, x < m) → sumF (fun i => (P.count i : Int)) m = P.length
  | [], m, _ => by
    induction m with
    | zero => rfl
    | succ m ih => unfold sumF; rw [ih (by simp)]; simp
  | x :: t, m, h => by
    have ih := sumF_count t m fun y hy => h y (by simp [hy])
    have hx : x < m := h x (by simp)
    have e : sumF (fun i => ((x :: t).count i : Int)) m = sumF (fun i => (t.count i : Int) + if i = x then 1 else 0) m := by
      refine sumF_congr fun i _ => ?_
      rw [List.count_cons]
      by_cases hi : i = x
      · subst hi; simp
      · have : (x == i) = false := by simp; exact fun e => hi e.symm
        simp [this, hi]
    have one : ∀ (x m : Nat), sumF (fun i => if i = x then 1 else 0) m = if x < m then 1 else 0 := by
      intro x m
      induction m with
      | zero => simp [sumF]
      | succ m ih =>
        unfold sumF
        rw [ih]
        by_cases h1 : x < m
        · rw [if_pos h1, if_neg (by omega), if_pos (by omega)]; rfl
        · by_cases h2 : m = x
          · rw [if_neg h1, if_pos h2, if_pos (by omega)]; rfl
          · rw [if_neg h1, if_neg h2, if_neg (by omega)]; rfl
    rw [e, sumF_add, ih, one, if_pos hx]
    simp

section
variable {ws : List Int} {T : Int}
/-- The places that are chosen in the first r turns. -/
def picks (ws : List Int) (T : Int) (r : Nat) : List Nat := (List.range r).map (pickAt ws T)
theorem picks_succ (r : Nat) : picks ws T (r + 1) = picks ws T r ++ [pickAt ws T r] := by simp [picks, List.range_succ]
theorem picks_len (r : Nat) : (picks ws T r).length = r := by simp [picks]
theorem pickAt_lt (h : 0 < ws.length) (r : Nat) : pickAt ws T r < ws.length := bestAt_lt _ _ h
theorem picks_lt (h : 0 < ws.length) (r : Nat) : ∀ x ∈ picks ws T r, x < ws.length := fun x hx => by
  obtain ⟨i, _, rfl⟩ := List.mem_map.1 hx
  exact pickAt_lt h i
theorem getD_some {l : List Int} {i : Nat} (h : i < l.length) : l[i]? = some (l.getD i 0) := by
  rw [List.getD_eq_getElem?_getD, List.getElem?_eq_getElem h]; rfl
theorem addL_getD {cs : List Int} (hl : cs.length = ws.length) {i : Nat} (hi : i < ws.length) : (addL cs ws).getD i 0 = cs.getD i 0 + ws.getD i 0 := by
  have := addL_at (getD_some (l := cs) (i := i) (by omega)) (getD_some (l := ws) hi)
  rw [List.getD_eq_getElem?_getD, this]; rfl
theorem counts_step (r : Nat) {i : Nat} (hi : i < ws.length) : (countsAt ws T (r + 1)).getD i 0 = (countsAt ws T r).getD i 0 + ws.getD i 0 - if i = pickAt ws T r then T else 0 := by
  have hl := countsAt_len ws T r
  have hal : (addL (countsAt ws T r) ws).length = ws.length := by rw [addL_len hl, hl]
  have e : countsAt ws T (r + 1) = (addL (countsAt ws T r) ws).set (pickAt ws T r) ((addL (countsAt ws T r) ws).getD (pickAt ws T r) 0 - T) := rfl
  rw [e, List.getD_eq_getElem?_getD, List.getElem?_set]
  by_cases h : i = pickAt ws T r
  · rw [if_pos h, if_pos h.symm, ← h, if_pos (by omega)]
    simp only [Option.getD_some]
    rw [addL_getD hl hi]
  · rw [if_neg h, if_neg (fun e => h e.symm), ← List.getD_eq_getElem?_getD, addL_getD hl hi]
    omega
/-- A count is what is due less what was had. -/
theorem counts_eq (r : Nat) {i : Nat} (hi : i < ws.length) : (countsAt ws T r).getD i 0 = (r : Int) * ws.getD i 0 - T * ((picks ws T r).count i : Int) := by
  induction r with
  | zero =>
    have : (countsAt ws T 0).getD i 0 = 0 := by
      rw [countsAt, List.getD_eq_getElem?_getD, List.getElem?_replicate, if_pos hi]; rfl
    rw [this]; simp [picks]
  | succ r ih =>
    rw [counts_step r hi, ih, picks_succ, List.count_append]
    have h1 : ((r + 1 : Nat) : Int) * ws.getD i 0 = (r : Int) * ws.getD i 0 + ws.getD i 0 := by
      rw [show ((r + 1 : Nat) : Int) = (r : Int) + 1 from by omega, Int.add_mul, Int.one_mul]
    rw [h1]
    by_cases h : i = pickAt ws T r
    · rw [if_pos h]
      have : List.count i [pickAt ws T r] = 1 := by rw [← h]; simp
      rw [this, show (((picks ws T r).count i + 1 : Nat) : Int) = ((picks ws T r).count i : Int) + 1 from by omega, Int.mul_add, Int.mul_one]
      omega
    · rw [if_neg h]
      have : List.count i [pickAt ws T r] = 0 := by
        rw [List.count_eq_zero]; simpa using h
      rw [this, Nat.add_zero]
      omega
theorem bestAt_max (ds : List Int) : ∀ (n i : Nat), i < n → ds.getD i 0 ≤ ds.getD (bestAt ds n) 0
  | 0, i, h => absurd h (by omega)
  | n + 1, i, h => by
    unfold bestAt
    by_cases hc : ds.getD (bestAt ds n) 0 < ds.getD n 0
    · rw [if_pos hc]
      rcases Nat.lt_or_ge i n with h1 | h1
      · have := bestAt_max ds n i h1; omega
      · obtain rfl : i = n := by omega
        omega
    · rw [if_neg hc]
      rcases Nat.lt_or_ge i n with h1 | h1
      · exact bestAt_max ds n i h1
      · obtain rfl : i = n := by omega
        omega
theorem sumF_ws : sumF (fun i => ws.getD i 0) ws.length = ws.sum := by rw [sumF_list ws ws.length (Nat.le_refl _), List.take_length]
theorem counts_sum (h : 0 < ws.length) (hT : ws.sum = T) (r : Nat) : sumF (fun i => (countsAt ws T r).getD i 0) ws.length = 0 := by
  have e : sumF (fun i => (countsAt ws T r).getD i 0) ws.length = sumF (fun i => (r : Int) * ws.getD i 0 + (-T) * ((picks ws T r).count i : Int)) ws.length := by
    refine sumF_congr fun i hi => ?_
    rw [counts_eq r hi, Int.neg_mul]
    omega
  rw [e, sumF_add, sumF_mul, sumF_mul, sumF_ws, hT, sumF_count _ _ (picks_lt h r), picks_len, Int.neg_mul, Int.mul_comm T]
  omega
theorem counts_gt (h : 0 < ws.length) (hw : ∀ i, i < ws.length → 1 ≤ ws.getD i 0) (hT : ws.sum = T) (hT0 : 0 < T) : ∀ (r : Nat) {i : Nat}, i < ws.length → -T < (countsAt ws T r).getD i 0
  | 0, i, hi => by
    rw [countsAt, List.getD_eq_getElem?_getD, List.getElem?_replicate, if_pos hi]
    simp only [Option.getD_some]
    omega
  | r + 1, i, hi => by
    have ih := counts_gt h hw hT hT0 r hi
    rw [counts_step r hi]
    by_cases hp : i = pickAt ws T r
    · rw [if_pos hp]
      have hl := countsAt_len ws T r
      have hpos : 0 < (countsAt ws T r).getD i 0 + ws.getD i 0 := by
        rcases Int.lt_or_le 0 ((countsAt ws T r).getD i 0 + ws.getD i 0) with h1 | h1
        · exact h1
        · exfalso
          have hle : sumF (fun j => (countsAt ws T r).getD j 0 + ws.getD j 0) ws.length ≤ sumF (fun _ => 0) ws.length := sumF_le fun j hj => by
            have hm := bestAt_max (addL (countsAt ws T r) ws) ws.length j hj
            have hpk : bestAt (addL (countsAt ws T r) ws) ws.length = i := hp.symm
            rw [hpk, addL_getD hl hj, addL_getD hl hi] at hm
            omega
          rw [sumF_add, counts_sum h hT r, sumF_ws, hT] at hle
          have z : ∀ m, sumF (fun _ => 0) m = 0 := fun m => by
            induction m with
            | zero => rfl
            | succ m ih => unfold sumF; rw [ih]; rfl
          rw [z] at hle
          omega
      omega
    · rw [if_neg hp]
      have := hw i hi
      omega
/-- In as many turns as the weights together every place comes as often as its weight. -/
theorem picks_fair (h : 0 < ws.length) (hw : ∀ i, i < ws.length → 1 ≤ ws.getD i 0) (hT : ws.sum = T) (hT0 : 0 < T) {i : Nat} (hi : i < ws.length) : ((picks ws T T.toNat).count i : Int) = ws.getD i 0 := by
  have hTn : ((T.toNat : Nat) : Int) = T := by omega
  refine sumF_eq (f := fun i => ((picks ws T T.toNat).count i : Int)) (g := fun i => ws.getD i 0) (m := ws.length) (fun j hj => ?_) ?_ i hi
  · have h1 := counts_gt h hw hT hT0 T.toNat hj
    rw [counts_eq _ hj, hTn, ← Int.mul_sub] at h1
    have h2 : T * (-1) < T * (ws.getD j 0 - ((picks ws T T.toNat).count j : Int)) := by rw [Int.mul_neg, Int.mul_one]; exact h1
    have h3 := Int.lt_of_mul_lt_mul_left h2 (by omega)
    show ((picks ws T T.toNat).count j : Int) ≤ ws.getD j 0
    omega
  · rw [sumF_count _ _ (picks_lt h _), picks_len, sumF_ws, hT]
    exact hTn
theorem counts_back (h : 0 < ws.length) (hw : ∀ i, i < ws.length → 1 ≤ ws.getD i 0) (hT : ws.sum = T) (hT0 : 0 < T) : countsAt ws T T.toNat = countsAt ws T 0 := by
  have hTn : ((T.toNat : Nat) : Int) = T := by omega
  apply List.ext_getElem?
  intro i
  rcases Nat.lt_or_ge i ws.length with hi | hi
  · rw [getD_some (l := countsAt ws T T.toNat) (by rw [countsAt_len]; exact hi), getD_some (l := countsAt ws T 0) (by rw [countsAt_len]; exact hi), counts_eq _ hi, counts_eq _ hi, hTn, picks_fair h hw hT hT0 hi]
    simp [picks]
  · rw [List.getElem?_eq_none (by rw [countsAt_len]; exact hi), List.getElem?_eq_none (by rw [countsAt_len]; exact hi)]
theorem counts_again (h : 0 < ws.length) (hw : ∀ i, i < ws.length → 1 ≤ ws.getD i 0) (hT : ws.sum = T) (hT0 : 0 < T) : ∀ r, countsAt ws T (T.toNat + r) = countsAt ws T r
  | 0 => by rw [Nat.add_zero]; exact counts_back h hw hT hT0
  | r + 1 => by
    have ih := counts_again h hw hT hT0 r
    rw [← Nat.add_assoc, countsAt, ih, countsAt]
end
theorem turnsTo_eq (us : List Hst) (T : Int) (r : Nat) : turnsTo us T r = (picks (wtsOf us) T r).map fun i => (numsOf us).getD i 0 := by
  unfold turnsTo picks
  rw [List.map_map]
  rfl
theorem turnsTo_take (us : List Hst) (T : Int) {k r : Nat} (h : k ≤ r) : (turnsTo us T r).take k = turnsTo us T k := by
  unfold turnsTo
  rw [← List.map_take, List.take_range, Nat.min_eq_left h]
theorem wts_sum (us : List Hst) : (wtsOf us).sum = sumW us := rfl
structure FairUs (us : List Hst) (T : Int) : Prop where
  pos : 0 < us.length
  wt : ∀ x ∈ us, 1 ≤ x.wt
  sum : sumW us = T
  asc : us.Pairwise (fun a b => a.num < b.num)
theorem fair_of {hs : List Hst} (hp : poolB hs = true) (h0 : 0 < (ups hs).length) : FairUs (ups hs) (totZ hs) :=
  ⟨h0, fun x hx => (wt_bd hp x (ups_mem hx)).1, (totZ_yes hp).symm, ((poolB_iff.1 hp).2.1).sublist (ups_sub hs)⟩
theorem FairUs.hw {us : List Hst} {T : Int} (h : FairUs us T) : ∀ i, i < (wtsOf us).length → 1 ≤ (wtsOf us).getD i 0 := fun i hi => by
  rw [wtsOf_len] at hi
  have e : (wtsOf us).getD i 0 = us[i].wt := by
    rw [List.getD_eq_getElem?_getD]; unfold wtsOf; rw [List.getElem?_map, List.getElem?_eq_getElem hi]; rfl
  rw [e]
  exact h.wt _ (List.getElem_mem hi)
theorem FairUs.tpos {us : List Hst} {T : Int} (h : FairUs us T) : 0 < T := by
  have hl : 0 < (wtsOf us).length := by rw [wtsOf_len]; exact h.pos
  have h1 : sumF (fun _ => 1) (wtsOf us).length ≤ sumF (fun i => (wtsOf us).getD i 0) (wtsOf us).length := sumF_le fun i hi => h.hw i hi
  rw [sumF_ws, wts_sum, h.sum] at h1
  have z : ∀ m : Nat, sumF (fun _ => 1) m = m := fun m => by
    induction m with
    | zero => rfl
    | succ m ih => unfold sumF; rw [ih]; omega
  rw [z] at h1
  omega
/-- The turns come again. -/
theorem FairUs.again {us : List Hst} {T : Int} (h : FairUs us T) (r : Nat) : turnAt us T (T.toNat + r) = turnAt us T r := by
  have hl : 0 < (wtsOf us).length := by rw [wtsOf_len]; exact h.pos
  unfold turnAt pickAt
  rw [counts_again hl h.hw (by rw [wts_sum]; exact h.sum) h.tpos r]
theorem FairUs.halves {us : List Hst} {T : Int} (h : FairUs us T) : (turnsTo us T (T.toNat + T.toNat)).drop T.toNat = turnsTo us T T.toNat := by
  apply List.ext_getElem?
  intro i
  unfold turnsTo
  rw [List.getElem?_drop, List.getElem?_map, List.getElem?_map]
  rcases Nat.lt_or_ge i T.toNat with hi | hi
  · rw [List.getElem?_range (by omega), List.getElem?_range hi]
    simp only [Option.map_some]
    rw [h.again]
  · rw [List.getElem?_eq_none (by simp; omega), List.getElem?_eq_none (by simp; omega)]
theorem count_map_inj {f : Nat → Int} {P : List Nat} {m j : Nat} (hP : ∀ x ∈ P, x < m) (hj : j < m) (hf : ∀ a b, a < m → b < m → f a = f b → a = b) : (P.map f).count (f j) = P.count j := by
  induction P with
  | nil => rfl
  | cons x t ih =>
    rw [List.map_cons, List.count_cons, List.count_cons, ih fun y hy => hP y (by simp [hy])]
    by_cases h : x = j
    · subst h; simp
    · have h1 : ¬ f x = f j := fun e => h (hf x j (hP x (by simp)) hj e)
      simp [h, h1]
/-- In a round every host that is up has its weight, and no other number comes. -/
theorem FairUs.count_up {us : List Hst} {T : Int} (h : FairUs us T) {x : Hst} (hx : x ∈ us) : ((turnsTo us T T.toNat).count x.num : Int) = x.wt := by
  obtain ⟨j, hj, rfl⟩ := List.getElem_of_mem hx
  have hl : 0 < (wtsOf us).length := by rw [wtsOf_len]; exact h.pos
  have hjw : j < (wtsOf us).length := by rw [wtsOf_len]; exact hj
  have hn : ∀ i, (hi : i < us.length) → (numsOf us).getD i 0 = us[i].num := fun i hi => by
    rw [List.getD_eq_getElem?_getD]; unfold numsOf; rw [List.getElem?_map, List.getElem?_eq_getElem hi]; rfl
  rw [turnsTo_eq, ← hn j hj]
  rw [count_map_inj (f := fun i => (numsOf us).getD i 0) (m := (wtsOf us).length) (picks_lt hl _) hjw (fun a b ha hb e => by
    rw [wtsOf_len] at ha hb
    rw [hn a ha, hn b hb] at e
    have hp := h.asc
    rw [List.pairwise_iff_getElem] at hp
    rcases Nat.lt_trichotomy a b with h1 | h1 | h1
    · have := hp a b ha hb h1; omega
    · exact h1
    · have := hp b a hb ha h1; omega)]
  rw [picks_fair hl h.hw (by rw [wts_sum]; exact h.sum) h.tpos hjw, List.getD_eq_getElem?_getD]
  unfold wtsOf
  rw [List.getElem?_map, List.getElem?_eq_getElem hj]
  rfl
theorem FairUs.count_no {us : List Hst} {T : Int} (h : FairUs us T) {z : Int} (hz : ∀ x ∈ us, x.num ≠ z) (r : Nat) : (turnsTo us T r).count z = 0 := by
  have hl : 0 < (wtsOf us).length := by rw [wtsOf_len]; exact h.pos
  rw [turnsTo_eq, List.count_eq_zero]
  intro hm
  obtain ⟨i, hi, he⟩ := List.mem_map.1 hm
  have hiu : i < us.length := by have := picks_lt hl r i hi; rwa [wtsOf_len] at this
  refine hz us[i] (List.getElem_mem hiu) ?_
  rw [← he, List.getD_eq_getElem?_getD]
  unfold numsOf
  rw [List.getElem?_map, List.getElem?_eq_getElem hiu]
  rfl
/-- What a law asks: the host's number comes as often as its weight if it is up, else never. -/
theorem turns_count {hs : List Hst} (hp : poolB hs = true) (h0 : 0 < (ups hs).length) {y : Hst} (hy : y ∈ hs) : ((turnsTo (ups hs) (totZ hs) (totZ hs).toNat).count y.num : Int) = if y.st = 1 then y.wt else 0 := by
  have hf := fair_of hp h0
  by_cases hs1 : y.st = 1
  · rw [if_pos hs1]
    exact hf.count_up (List.mem_filter.2 ⟨hy, by simpa using hs1⟩)
  · rw [if_neg hs1, hf.count_no (z := y.num) (fun x hx e => ?_)]
    · rfl
    · obtain ⟨i, hi, hxi⟩ := List.getElem_of_mem (ups_mem hx)
      obtain ⟨j, hj, hyj⟩ := List.getElem_of_mem hy
      have hx2 : hs[i]? = some x := by rw [← hxi]; simp
      have hy2 : hs[j]? = some y := by rw [← hyj]; simp
      have := pool_inj hp hx2 hy2 e
      subst this
      rw [hx2] at hy2
      obtain rfl := Option.some.inj hy2
      exact hs1 (ups_st hx)
end Go.Proofs.Ytdcobkngbpkdfaa
