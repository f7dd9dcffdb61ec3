/- Plain laws: the host with the fewest flows; the host of a key when another host goes. -/
import Derived.Test.YtbnehcaallehbaaPlain
import Derived.Test.YtbnehcaallehbaaRv
import Derived.Test.YtbnehcaallehbaaFew
namespace Go.Proofs.Ytbnehcaallehbaa
set_option linter.unusedVariables false
set_option linter.unusedSimpArgs false
open Go.RowKit

theorem frac_trans {p q r a b c : Int} (hb : 0 < b) (ha : 0 ≤ a) (hc : 0 ≤ c) (h1 : p * b ≤ q * a) (h2 : q * c ≤ r * b) : p * c ≤ r * a := by
  have e1 : p * b * c ≤ q * a * c := Int.mul_le_mul_of_nonneg_right h1 hc
  have e2 : q * c * a ≤ r * b * a := Int.mul_le_mul_of_nonneg_right h2 ha
  have e3 : (p * c) * b ≤ (r * a) * b := by
    have l1 : (p * c) * b = p * b * c := by rw [Int.mul_assoc, Int.mul_comm c b, ← Int.mul_assoc]
    have l2 : q * a * c = q * c * a := by rw [Int.mul_assoc, Int.mul_comm a c, ← Int.mul_assoc]
    have l3 : r * b * a = (r * a) * b := by rw [Int.mul_assoc, Int.mul_comm b a, ← Int.mul_assoc]
    rw [l1, ← l3]
    rw [l2] at e1
    exact Int.le_trans e1 e2
  exact Int.le_of_mul_le_mul_right e3 hb

def goodH (x : Hst) : Prop := 0 ≤ x.num ∧ 1 ≤ x.wt
theorem few_fold (fs : List Int) : ∀ (l : List Hst) (a : Hst), goodH a → (∀ x ∈ l, goodH x) →
    ∃ r, l.foldl (fun a b => if fewB fs a b = true then b else a) a = r ∧ goodH r ∧ (r = a ∨ r ∈ l) ∧ (fs.count r.num : Int) * a.wt ≤ (fs.count a.num : Int) * r.wt ∧ ∀ y ∈ l, (fs.count r.num : Int) * y.wt ≤ (fs.count y.num : Int) * r.wt
  | [], a, ha, _ => ⟨a, rfl, ha, .inl rfl, Int.le_refl _, fun y hy => absurd hy (by simp)⟩
  | b :: t, a, ha, hl => by
    have hb := hl b (by simp)
    rw [List.foldl_cons]
    have hneg : decide (a.num < 0) = false := by simp; exact ha.1
    by_cases hc : (fs.count b.num : Int) * a.wt < (fs.count a.num : Int) * b.wt
    · rw [if_pos (by simp [fewB, hc])]
      obtain ⟨r, e, hr, hin, h1, h2⟩ := few_fold fs t b hb (fun x hx => hl x (by simp [hx]))
      refine ⟨r, e, hr, ?_, ?_, ?_⟩
      · rcases hin with rfl | h
        · exact .inr (by simp)
        · exact .inr (by simp [h])
      · exact frac_trans (by have := hb.2; omega) (by have := hr.2; omega) (by have := ha.2; omega) h1 (Int.le_of_lt hc)
      · intro y hy
        rcases List.mem_cons.1 hy with rfl | hy
        · exact h1
        · exact h2 y hy
    · rw [if_neg (by simp [fewB, hneg, hc])]
      obtain ⟨r, e, hr, hin, h1, h2⟩ := few_fold fs t a ha (fun x hx => hl x (by simp [hx]))
      refine ⟨r, e, hr, ?_, h1, ?_⟩
      · rcases hin with rfl | h
        · exact .inl rfl
        · exact .inr (by simp [h])
      · intro y hy
        rcases List.mem_cons.1 hy with rfl | hy
        · exact frac_trans (by have := ha.2; omega) (by have := hr.2; omega) (by have := hb.2; omega) h1 (Int.not_lt.1 hc)
        · exact h2 y hy
theorem goodH_pool {hs : List Hst} (h : poolB hs = true) : ∀ x ∈ hs, goodH x := fun x hx => by
  have := hostB_bd (pool_mem h hx)
  exact ⟨this.1.1, this.2.1.1⟩
/-- Either no host is up, or the chosen one is, and no other has fewer flows for its weight. -/
theorem few_cases (hs : List Hst) (fs : List Int) : (fewZ hs fs = -1 ∧ upNums hs = []) ∨
    (poolB hs = true ∧ ∃ x, x ∈ hs ∧ x.st = 1 ∧ fewZ hs fs = x.num ∧ 0 ≤ x.num ∧ 1 ≤ x.wt ∧ x.wt ≤ 5 ∧ ∀ y ∈ hs, y.st = 1 → (fs.count x.num : Int) * y.wt ≤ (fs.count y.num : Int) * x.wt) := by
  cases hp : poolB hs
  · exact .inl ⟨fewZ_no hp, upNums_no hp⟩
  · rw [fewZ_yes hp, upNums_yes hp]
    rcases hu : ups hs with _ | ⟨b, t⟩
    · exact .inl ⟨by simp [fewL], rfl⟩
    · right
      refine ⟨rfl, ?_⟩
      have hg : ∀ x ∈ ups hs, goodH x := fun x hx => goodH_pool hp x (ups_mem hx)
      rw [hu] at hg
      have e : fewL fs (b :: t) = t.foldl (fun a b => if fewB fs a b = true then b else a) b := by
        unfold fewL
        rw [List.foldl_cons, if_pos (by simp [fewB])]
      obtain ⟨r, hr, hgr, hin, h1, h2⟩ := few_fold fs t b (hg b (by simp)) (fun x hx => hg x (by simp [hx]))
      have hm : r ∈ ups hs := by
        rw [hu]
        rcases hin with rfl | h
        · simp
        · simp [h]
      refine ⟨r, ups_mem hm, ups_st hm, by rw [e, hr], hgr.1, hgr.2, (hostB_bd (pool_mem hp (ups_mem hm))).2.1.2, ?_⟩
      intro y hy hst
      have hy' : y ∈ ups hs := List.mem_filter.2 ⟨hy, by simpa using hst⟩
      rw [hu] at hy'
      rcases List.mem_cons.1 hy' with rfl | h
      · exact h1
      · exact h2 y h

/-! The key's host, once another host is down. -/
/-- The greatest hash of the first t tickets of a host, or -1. -/
def tk (key num : Int) : Nat → Int
  | 0 => -1
  | t + 1 => if tk key num t < mixZ [key, num, (t : Int)] then mixZ [key, num, (t : Int)] else tk key num t
theorem rvT_tk (key num : Int) : ∀ (t : Nat) (s : Int × Int), -1 ≤ s.2 → rvT key num t s = if s.2 < tk key num t then (num, tk key num t) else s
  | 0, s, h => by rw [show rvT key num 0 s = s from rfl, tk, if_neg (by omega)]
  | t + 1, s, h => by
    have ih := rvT_tk key num t s h
    rw [rvT, ih, tk]
    by_cases h1 : s.2 < tk key num t
    · rw [if_pos h1]
      by_cases h2 : tk key num t < mixZ [key, num, (t : Int)]
      · rw [if_pos h2, if_pos h2, if_pos (by omega)]
      · rw [if_neg h2, if_neg h2, if_pos h1]
    · rw [if_neg h1]
      by_cases h2 : tk key num t < mixZ [key, num, (t : Int)]
      · rw [if_pos h2]
      · rw [if_neg h2, if_neg h1, if_neg (by omega)]
theorem tk_ge (key num : Int) : ∀ t, -1 ≤ tk key num t
  | 0 => by simp [tk]
  | t + 1 => by
    have := tk_ge key num t
    unfold tk
    split <;> omega
abbrev tkH (key : Int) (x : Hst) : Int := tk key x.num x.wt.toNat
def rvF (key : Int) (l : List Hst) (s : Int × Int) : Int × Int := l.foldl (fun s h => rvT key h.num h.wt.toNat s) s
theorem rvF_keep (key : Int) : ∀ (l : List Hst) (s : Int × Int), -1 ≤ s.2 → (∀ y ∈ l, tkH key y ≤ s.2) → rvF key l s = s
  | [], s, _, _ => rfl
  | y :: t, s, hs, h => by
    unfold rvF
    rw [List.foldl_cons, rvT_tk _ _ _ _ hs, if_neg (by have := h y (by simp); unfold tkH at this; omega)]
    exact rvF_keep key t s hs fun z hz => h z (by simp [hz])
/-- What the fold leaves: what it began with, all tickets being no greater; or a first host with the greatest ticket. -/
theorem rvF_cases (key : Int) : ∀ (l : List Hst) (s : Int × Int), -1 ≤ s.2 → (rvF key l s = s ∧ ∀ y ∈ l, tkH key y ≤ s.2) ∨
    ∃ l1 x l2, l = l1 ++ x :: l2 ∧ rvF key l s = (x.num, tkH key x) ∧ s.2 < tkH key x ∧ (∀ y ∈ l1, tkH key y < tkH key x) ∧ ∀ y ∈ l2, tkH key y ≤ tkH key x
  | [], s, _ => .inl ⟨rfl, fun y hy => absurd hy (by simp)⟩
  | y :: t, s, hs => by
    have e : rvF key (y :: t) s = rvF key t (if s.2 < tkH key y then (y.num, tkH key y) else s) := by
      unfold rvF
      rw [List.foldl_cons, rvT_tk _ _ _ _ hs]
    rw [e]
    by_cases h : s.2 < tkH key y
    · rw [if_pos h]
      rcases rvF_cases key t (y.num, tkH key y) (by simp only; omega) with ⟨h1, h2⟩ | ⟨l1, x, l2, rfl, h2, h3, h4, h5⟩
      · exact .inr ⟨[], y, t, rfl, h1, h, fun z hz => absurd hz (by simp), h2⟩
      · refine .inr ⟨y :: l1, x, l2, rfl, h2, by simp only at h3; omega, ?_, h5⟩
        intro z hz
        rcases List.mem_cons.1 hz with rfl | hz
        · exact h3
        · exact h4 z hz
    · rw [if_neg h]
      rcases rvF_cases key t s hs with ⟨h1, h2⟩ | ⟨l1, x, l2, rfl, h2, h3, h4, h5⟩
      · refine .inl ⟨h1, ?_⟩
        intro z hz
        rcases List.mem_cons.1 hz with rfl | hz
        · omega
        · exact h2 z hz
      · refine .inr ⟨y :: l1, x, l2, rfl, h2, h3, ?_, h5⟩
        intro z hz
        rcases List.mem_cons.1 hz with rfl | hz
        · omega
        · exact h4 z hz
theorem rvF_first (key : Int) {l1 l2 : List Hst} {x : Hst} {s : Int × Int} (hs : -1 ≤ s.2) (hx : s.2 < tkH key x) (h1 : ∀ y ∈ l1, tkH key y < tkH key x) (h2 : ∀ y ∈ l2, tkH key y ≤ tkH key x) : rvF key (l1 ++ x :: l2) s = (x.num, tkH key x) := by
  have hm : -1 ≤ (rvF key l1 s).2 ∧ (rvF key l1 s).2 < tkH key x := by
    rcases rvF_cases key l1 s hs with ⟨e, _⟩ | ⟨m1, y, m2, rfl, e, _, _, _⟩
    · rw [e]; exact ⟨hs, hx⟩
    · rw [e]; exact ⟨tk_ge _ _ _, h1 y (by simp)⟩
  have e : rvF key (l1 ++ x :: l2) s = rvF key l2 (rvT key x.num x.wt.toNat (rvF key l1 s)) := by
    unfold rvF
    rw [List.foldl_append, List.foldl_cons]
  rw [e, rvT_tk _ _ _ _ hm.1, if_pos hm.2]
  exact rvF_keep key l2 _ (tk_ge _ _ _) h2
/-- A key's host: none is up, or it is up, and it stays when another is left out. -/
theorem rv_cases (hs : List Hst) (key : Int) : rvZ hs key = -1 ∨ (poolB hs = true ∧ inB key 0 1000002 = true ∧ ∃ l1 x l2, ups hs = l1 ++ x :: l2 ∧ rvZ hs key = x.num ∧ -1 < tkH key x ∧ (∀ y ∈ l1, tkH key y < tkH key x) ∧ ∀ y ∈ l2, tkH key y ≤ tkH key x) := by
  cases hp : poolB hs
  · exact .inl (rvZ_no hp)
  · cases hk : inB key 0 1000002
    · exact .inl (rvZ_nokey hk)
    · rw [rvZ_yes hp hk]
      rcases rvF_cases key (ups hs) (-1, -1) (by simp) with ⟨e, _⟩ | ⟨l1, x, l2, hl, e, h1, h2, h3⟩
      · left
        exact congrArg Prod.fst e
      · right
        exact ⟨rfl, rfl, l1, x, l2, hl, congrArg Prod.fst e, h1, h2, h3⟩
theorem ups_map_down {N : Int} : ∀ hs : List Hst, ups (hs.map (setOne N 0)) = (ups hs).filter fun h => !(h.num == N)
  | [] => rfl
  | x :: t => by
    have ih := ups_map_down (N := N) t
    unfold ups at ih ⊢
    rw [List.map_cons]
    by_cases hN : x.num = N
    · have e : (setOne N 0 x).st = 0 := by unfold setOne; rw [if_pos hN]
      rw [List.filter_cons_of_neg (by rw [e]; decide), ih]
      by_cases hs : x.st = 1
      · rw [List.filter_cons_of_pos (by simpa using hs), List.filter_cons_of_neg (by simpa using hN)]
      · rw [List.filter_cons_of_neg (by simpa using hs)]
    · have e : setOne N 0 x = x := by unfold setOne; rw [if_neg hN]
      rw [e]
      by_cases hs : x.st = 1
      · rw [List.filter_cons_of_pos (by simpa using hs), List.filter_cons_of_pos (by simpa using hs), List.filter_cons_of_pos (by simpa using hN), ih]
      · rw [List.filter_cons_of_neg (by simpa using hs), List.filter_cons_of_neg (by simpa using hs), ih]
theorem okS_mem {hs : List Hst} {N st : Int} (hp : poolB hs = true) {i : Nat} {x : Hst} (hx : hs[i]? = some x) (hN : x.num = N) (hst : 0 ≤ st ∧ st ≤ 2) : okS hs N st = true := by
  simp only [okS, Bool.and_eq_true, List.any_eq_true]
  exact ⟨⟨hp, x, List.mem_of_getElem? hx, by simpa using hN⟩, inB_true.2 hst⟩
/-- Another host down: the key's host stays. -/
theorem rv_stays {hs : List Hst} {key N : Int} (hok : okS hs N 0 = true) (h0 : 0 ≤ rvZ hs key) (hN : N ≠ rvZ hs key) : rvZ (setH hs N 0) key = rvZ hs key := by
  rcases rv_cases hs key with h | ⟨hp, hk, l1, x, l2, hl, e, h1, h2, h3⟩
  · omega
  · rw [rvZ_yes (setH_pool hok) hk, setH_yes hok, ups_map_down, hl, e]
    have hx : (!(x.num == N)) = true := by rw [e] at hN; simpa using fun h => hN h.symm
    have e2 : List.filter (fun h : Hst => !(h.num == N)) (x :: l2) = x :: List.filter (fun h : Hst => !(h.num == N)) l2 := List.filter_cons_of_pos hx
    rw [List.filter_append, e2]
    exact congrArg Prod.fst (rvF_first key (s := (-1, -1)) (by simp) h1 (fun y hy => h2 y (List.mem_filter.1 hy).1) (fun y hy => h3 y (List.mem_filter.1 hy).1))
theorem rv_up {hs : List Hst} {key : Int} (h0 : 0 ≤ rvZ hs key) : stateZ hs (rvZ hs key) = 1 := by
  rcases rv_cases hs key with h | ⟨hp, hk, l1, x, l2, hl, e, _⟩
  · omega
  · have hx : x ∈ ups hs := by rw [hl]; simp
    rw [e, stateZ_in hp (ups_mem hx), ups_st hx]
theorem rv_pool {hs : List Hst} {key : Int} (h0 : 0 ≤ rvZ hs key) : poolB hs = true := by
  rcases rv_cases hs key with h | ⟨hp, _⟩
  · omega
  · exact hp
theorem rv_ge (hs : List Hst) (key : Int) : -1 ≤ rvZ hs key := by
  rcases rv_cases hs key with h | ⟨hp, hk, l1, x, l2, hl, e, _⟩
  · omega
  · have hx : x ∈ ups hs := by rw [hl]; simp
    have := hostB_bd (pool_mem hp (ups_mem hx))
    omega
end Go.Proofs.Ytbnehcaallehbaa
