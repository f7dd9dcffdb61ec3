/- The tables of slots, without a program: rounds, what a host takes, that it is fair. -/
import Derived.Test.YtbnehcaallehbaaSlot
import Derived.Test.YtbnehcaallehbaaTot
import Derived.Test.YtbnehcaallehbaaUpN
namespace Go.Proofs.Ytbnehcaallehbaa
set_option linter.unusedVariables false
set_option linter.unusedSimpArgs false
open Go.RowKit

/-- Steps of S round 31 places come to each once. -/
theorem ord_inv31 (a x S : Int) (hS : 1 ≤ S ∧ S ≤ 30) (hx : 0 ≤ x ∧ x ≤ 30) : ∃ i : Nat, i < 31 ∧ ∀ j : Nat, j < 31 → ((a + (j : Int) * S) % 31 = x ↔ j = i) := by
  have : S = 1 ∨ S = 2 ∨ S = 3 ∨ S = 4 ∨ S = 5 ∨ S = 6 ∨ S = 7 ∨ S = 8 ∨ S = 9 ∨ S = 10 ∨ S = 11 ∨ S = 12 ∨ S = 13 ∨ S = 14 ∨ S = 15 ∨ S = 16 ∨ S = 17 ∨ S = 18 ∨ S = 19 ∨ S = 20 ∨ S = 21 ∨ S = 22 ∨ S = 23 ∨ S = 24 ∨ S = 25 ∨ S = 26 ∨ S = 27 ∨ S = 28 ∨ S = 29 ∨ S = 30 := by omega
  rcases this with rfl | rfl | rfl | rfl | rfl | rfl | rfl | rfl | rfl | rfl | rfl | rfl | rfl | rfl | rfl | rfl | rfl | rfl | rfl | rfl | rfl | rfl | rfl | rfl | rfl | rfl | rfl | rfl | rfl | rfl
  · exact ⟨(((x - a) * 1) % 31).toNat, by omega, fun j hj => by omega⟩
  · exact ⟨(((x - a) * 16) % 31).toNat, by omega, fun j hj => by omega⟩
  · exact ⟨(((x - a) * 21) % 31).toNat, by omega, fun j hj => by omega⟩
  · exact ⟨(((x - a) * 8) % 31).toNat, by omega, fun j hj => by omega⟩
  · exact ⟨(((x - a) * 25) % 31).toNat, by omega, fun j hj => by omega⟩
  · exact ⟨(((x - a) * 26) % 31).toNat, by omega, fun j hj => by omega⟩
  · exact ⟨(((x - a) * 9) % 31).toNat, by omega, fun j hj => by omega⟩
  · exact ⟨(((x - a) * 4) % 31).toNat, by omega, fun j hj => by omega⟩
  · exact ⟨(((x - a) * 7) % 31).toNat, by omega, fun j hj => by omega⟩
  · exact ⟨(((x - a) * 28) % 31).toNat, by omega, fun j hj => by omega⟩
  · exact ⟨(((x - a) * 17) % 31).toNat, by omega, fun j hj => by omega⟩
  · exact ⟨(((x - a) * 13) % 31).toNat, by omega, fun j hj => by omega⟩
  · exact ⟨(((x - a) * 12) % 31).toNat, by omega, fun j hj => by omega⟩
  · exact ⟨(((x - a) * 20) % 31).toNat, by omega, fun j hj => by omega⟩
  · exact ⟨(((x - a) * 29) % 31).toNat, by omega, fun j hj => by omega⟩
  · exact ⟨(((x - a) * 2) % 31).toNat, by omega, fun j hj => by omega⟩
  · exact ⟨(((x - a) * 11) % 31).toNat, by omega, fun j hj => by omega⟩
  · exact ⟨(((x - a) * 19) % 31).toNat, by omega, fun j hj => by omega⟩
  · exact ⟨(((x - a) * 18) % 31).toNat, by omega, fun j hj => by omega⟩
  · exact ⟨(((x - a) * 14) % 31).toNat, by omega, fun j hj => by omega⟩
  · exact ⟨(((x - a) * 3) % 31).toNat, by omega, fun j hj => by omega⟩
  · exact ⟨(((x - a) * 24) % 31).toNat, by omega, fun j hj => by omega⟩
  · exact ⟨(((x - a) * 27) % 31).toNat, by omega, fun j hj => by omega⟩
  · exact ⟨(((x - a) * 22) % 31).toNat, by omega, fun j hj => by omega⟩
  · exact ⟨(((x - a) * 5) % 31).toNat, by omega, fun j hj => by omega⟩
  · exact ⟨(((x - a) * 6) % 31).toNat, by omega, fun j hj => by omega⟩
  · exact ⟨(((x - a) * 23) % 31).toNat, by omega, fun j hj => by omega⟩
  · exact ⟨(((x - a) * 10) % 31).toNat, by omega, fun j hj => by omega⟩
  · exact ⟨(((x - a) * 15) % 31).toNat, by omega, fun j hj => by omega⟩
  · exact ⟨(((x - a) * 30) % 31).toNat, by omega, fun j hj => by omega⟩
/-- A host with a number. -/
def okN (N : Int) : Prop := inB N 0 30 = true
theorem okN_nonneg {N : Int} (h : okN N) : 0 ≤ N := (inB_true.1 h).1
theorem ord_onto (N : Int) (h : okN N) (x : Nat) (hx : x < 31) : ∃ j, j < 31 ∧ (ordAt N j).toNat = x := by
  have h2 := mixZ_nonneg (zs := [N, 2]) (by simp) (by
    intro z hz
    simp at hz
    have := inB_true.1 h
    rcases hz with rfl | rfl <;> omega)
  obtain ⟨i, hi, h⟩ := ord_inv31 (mixZ [N, 1]) x (1 + mixZ [N, 2] % 30) (by omega) (by omega)
  refine ⟨i, hi, ?_⟩
  have := (h i hi).2 rfl
  unfold ordAt
  omega
def negs (out : List Int) : Nat := out.countP fun z => decide (z < 0)
def ordN (N : Int) (j : Nat) : Nat := (ordAt N j).toNat
theorem ordN_lt (N : Int) (j : Nat) : ordN N j < 31 := by have := ordAt_bd N j; unfold ordN; omega
def freeAt (N : Int) (out : List Int) : Option Nat := (List.range 31).find? fun j => decide (out.getD (ordN N j) 0 < 0)
def takeS (N : Int) (out : List Int) : List Int := match freeAt N out with
  | some j => out.set (ordN N j) N
  | none => out
def takesS (N : Int) : Nat → List Int → List Int
  | 0, o => o
  | t + 1, o => takeS N (takesS N t o)
def roundS (us : List Hst) (o : List Int) : List Int := us.foldl (fun o h => takesS h.num h.wt.toNat o) o
def roundsS (us : List Hst) : Nat → List Int → List Int
  | 0, o => o
  | r + 1, o => roundS us (roundsS us r o)
theorem roundS_take {us : List Hst} {k : Nat} {x : Hst} (hx : us[k]? = some x) (o : List Int) : roundS (us.take (k + 1)) o = takesS x.num x.wt.toNat (roundS (us.take k) o) := by
  rw [List.take_add_one, hx]
  simp [roundS]
theorem free_some {N : Int} {out : List Int} {j : Nat} (hj : j < 31) (h : out.getD (ordN N j) 0 < 0) (hno : ∀ i, i < j → 0 ≤ out.getD (ordN N i) 0) : freeAt N out = some j := by
  unfold freeAt
  rw [List.find?_eq_some_iff_getElem]
  refine ⟨by simpa using h, j, by simpa using hj, by simp, fun i hi => ?_⟩
  have := hno i hi
  simpa using this
theorem free_none {N : Int} {out : List Int} (h : negs out = 0) : freeAt N out = none := by
  unfold freeAt
  rw [List.find?_eq_none]
  intro j _
  simp only [decide_eq_true_eq, Int.not_lt]
  rw [List.getD_eq_getElem?_getD]
  rcases h1 : out[ordN N j]? with _ | z
  · simp
  · have := List.countP_eq_zero.1 h z (List.mem_of_getElem? h1)
    simpa using this
theorem takeS_some {N : Int} {out : List Int} {j : Nat} (hj : j < 31) (h : out.getD (ordN N j) 0 < 0) (hno : ∀ i, i < j → 0 ≤ out.getD (ordN N i) 0) : takeS N out = out.set (ordN N j) N := by
  unfold takeS
  rw [free_some hj h hno]
theorem takeS_full {N : Int} {out : List Int} (h : negs out = 0) : takeS N out = out := by
  unfold takeS
  rw [free_none h]
theorem takeS_len (N : Int) (out : List Int) : (takeS N out).length = out.length := by
  unfold takeS
  split <;> simp
theorem takesS_len (N : Int) (t : Nat) (out : List Int) : (takesS N t out).length = out.length := by
  induction t with
  | zero => rfl
  | succ t ih => rw [takesS, takeS_len, ih]
theorem takesS_full {N : Int} {out : List Int} (h : negs out = 0) (t : Nat) : takesS N t out = out := by
  induction t with
  | zero => rfl
  | succ t ih => rw [takesS, ih, takeS_full h]
theorem roundS_full {out : List Int} (h : negs out = 0) : ∀ us : List Hst, roundS us out = out
  | [] => rfl
  | u :: us => by
    have := roundS_full h us
    unfold roundS at *
    rw [List.foldl_cons, takesS_full h, this]
theorem roundsS_full {us : List Hst} {out : List Int} (h : negs out = 0) (r : Nat) : roundsS us r out = out := by
  induction r with
  | zero => rfl
  | succ r ih => rw [roundsS, ih, roundS_full h]
theorem roundsS_add (us : List Hst) (a b : Nat) (out : List Int) : roundsS us (a + b) out = roundsS us b (roundsS us a out) := by
  induction b with
  | zero => rfl
  | succ b ih => rw [← Nat.add_assoc, roundsS, ih, roundsS]
theorem roundsS_stop {us : List Hst} {out : List Int} {r : Nat} (hr : r ≤ 31) (h : negs (roundsS us r out) = 0) : roundsS us 31 out = roundsS us r out := by
  obtain ⟨d, hd⟩ : ∃ d, 31 = r + d := ⟨31 - r, by omega⟩
  rw [hd, roundsS_add, roundsS_full h]
/-- Where a slot is free the host finds one. -/
theorem free_ex {N : Int} (hN : okN N) {out : List Int} (hl : out.length = 31) (h : 0 < negs out) : ∃ j, j < 31 ∧ out.getD (ordN N j) 0 < 0 ∧ ∀ i, i < j → 0 ≤ out.getD (ordN N i) 0 := by
  have hex : ∃ j, j < 31 ∧ out.getD (ordN N j) 0 < 0 := by
    obtain ⟨z, hz, hz0⟩ := List.countP_pos_iff.1 h
    obtain ⟨x, hx, hxz⟩ := List.getElem_of_mem hz
    obtain ⟨j, hj, hjx⟩ := ord_onto N hN x (by omega)
    refine ⟨j, hj, ?_⟩
    unfold ordN
    rw [hjx, List.getD_eq_getElem?_getD, List.getElem?_eq_getElem hx, hxz]
    simpa using hz0
  cases hf : freeAt N out with
  | none =>
    exfalso
    obtain ⟨j, hj, hj0⟩ := hex
    have := List.find?_eq_none.1 hf j (by simpa using hj)
    simp only [decide_eq_true_eq] at this
    omega
  | some j =>
    have h1 := List.find?_eq_some_iff_getElem.1 hf
    obtain ⟨h2, i, hi, rfl, h4⟩ := h1
    simp at hi
    refine ⟨i, hi, by simpa using h2, fun k hk => ?_⟩
    have := h4 k hk
    simpa using this
theorem countP_set (p : Int → Bool) : ∀ (l : List Int) (i : Nat) (v : Int), i < l.length → (l.set i v).countP p + (if p (l.getD i 0) = true then 1 else 0) = l.countP p + if p v = true then 1 else 0
  | [], _, _, h => by simp at h
  | a :: l, 0, v, _ => by
    simp only [List.set_cons_zero, List.countP_cons, List.getD_cons_zero]
    omega
  | a :: l, i + 1, v, h => by
    have := countP_set p l i v (by simpa using h)
    simp only [List.set_cons_succ, List.countP_cons, List.getD_cons_succ]
    omega
theorem takeS_step {N : Int} (hN : okN N) {out : List Int} (hl : out.length = 31) (h : 0 < negs out) :
    negs (takeS N out) + 1 = negs out ∧ ∀ M : Int, 0 ≤ M → (takeS N out).count M = out.count M + if M = N then 1 else 0 := by
  obtain ⟨j, hj, h0, hno⟩ := free_ex hN hl h
  rw [takeS_some hj h0 hno]
  have hlt : ordN N j < out.length := by rw [hl]; exact ordN_lt N j
  have hN0 := okN_nonneg hN
  refine ⟨?_, fun M hM => ?_⟩
  · have := countP_set (fun z => decide (z < 0)) out (ordN N j) N hlt
    simp only [h0, decide_true, if_true] at this
    have hn : decide (N < 0) = false := by simpa using hN0
    simp only [hn] at this
    unfold negs
    simpa using this
  · have := countP_set (fun z => z == M) out (ordN N j) N hlt
    have hne : (out.getD (ordN N j) 0 == M) = false := by rw [beq_eq_false_iff_ne]; omega
    rw [hne] at this
    simp only [List.count]
    have e : (if (N == M) = true then 1 else 0) = if M = N then 1 else 0 := by
      by_cases hMN : M = N
      · subst hMN; simp
      · rw [if_neg (by simpa using fun e => hMN e.symm), if_neg hMN]
    rw [e] at this
    simpa using this
theorem takesS_step {N : Int} (hN : okN N) {out : List Int} (hl : out.length = 31) (t : Nat) :
    negs (takesS N t out) = negs out - t ∧ ∀ M : Int, 0 ≤ M → (takesS N t out).count M = out.count M + if M = N then min t (negs out) else 0 := by
  induction t with
  | zero => exact ⟨rfl, fun M _ => by simp [takesS]⟩
  | succ t ih =>
    obtain ⟨i1, i2⟩ := ih
    rw [takesS]
    by_cases h : 0 < negs (takesS N t out)
    · obtain ⟨s1, s2⟩ := takeS_step hN (by rw [takesS_len, hl]) h
      refine ⟨by omega, fun M hM => ?_⟩
      rw [s2 M hM, i2 M hM]
      by_cases hMN : M = N
      · simp only [if_pos hMN]; omega
      · simp only [if_neg hMN]
    · have h' : negs (takesS N t out) = 0 := by omega
      rw [takeS_full h']
      refine ⟨by omega, fun M hM => ?_⟩
      rw [i2 M hM]
      by_cases hMN : M = N
      · simp only [if_pos hMN]; omega
      · simp only [if_neg hMN]
def totN (us : List Hst) : Nat := (us.map fun h => h.wt.toNat).sum
def wtN (us : List Hst) (M : Int) : Nat := (us.map fun h => if M = h.num then h.wt.toNat else 0).sum
theorem roundS_len (us : List Hst) : ∀ out : List Int, (roundS us out).length = out.length := by
  induction us with
  | nil => intro out; rfl
  | cons u us ih =>
    intro out
    have := ih (takesS u.num u.wt.toNat out)
    unfold roundS at *
    rw [List.foldl_cons, this, takesS_len]
theorem roundsS_len (us : List Hst) (r : Nat) (out : List Int) : (roundsS us r out).length = out.length := by
  induction r with
  | zero => rfl
  | succ r ih => rw [roundsS, roundS_len, ih]
theorem roundS_step : ∀ (us : List Hst) (out : List Int), (∀ u ∈ us, okN u.num) → out.length = 31 →
    negs (roundS us out) = negs out - totN us ∧ ∀ M : Int, 0 ≤ M → out.count M ≤ (roundS us out).count M ∧ (roundS us out).count M ≤ out.count M + wtN us M ∧ (totN us ≤ negs out → (roundS us out).count M = out.count M + wtN us M)
  | [], out, _, _ => ⟨by simp [roundS, totN], fun M _ => by simp [roundS, wtN]⟩
  | u :: us, out, hu, hl => by
    obtain ⟨t1, t2⟩ := takesS_step (hu u (by simp)) hl u.wt.toNat
    obtain ⟨r1, r2⟩ := roundS_step us (takesS u.num u.wt.toNat out) (fun x hx => hu x (by simp [hx])) (by rw [takesS_len, hl])
    have e : roundS (u :: us) out = roundS us (takesS u.num u.wt.toNat out) := rfl
    have et : totN (u :: us) = u.wt.toNat + totN us := by simp [totN]
    rw [e, et]
    refine ⟨by rw [r1, t1]; omega, fun M hM => ?_⟩
    have ew : wtN (u :: us) M = (if M = u.num then u.wt.toNat else 0) + wtN us M := by simp [wtN]
    obtain ⟨q1, q2, q3⟩ := r2 M hM
    have t2 := t2 M hM
    rw [ew]
    by_cases hMN : M = u.num
    · simp only [if_pos hMN] at t2 ⊢
      refine ⟨by omega, by omega, fun h => ?_⟩
      have := q3 (by omega)
      omega
    · simp only [if_neg hMN] at t2 ⊢
      refine ⟨by omega, by omega, fun h => ?_⟩
      have := q3 (by omega)
      omega
theorem rounds_fair {us : List Hst} (hu : ∀ u ∈ us, okN u.num) {out : List Int} (hl : out.length = 31) (r : Nat) (h : r * totN us ≤ negs out) :
    negs (roundsS us r out) = negs out - r * totN us ∧ ∀ M : Int, 0 ≤ M → (roundsS us r out).count M = out.count M + r * wtN us M := by
  induction r with
  | zero => exact ⟨by simp [roundsS], fun M _ => by simp [roundsS]⟩
  | succ r ih =>
    rw [Nat.succ_mul] at h
    obtain ⟨i1, i2⟩ := ih (by omega)
    obtain ⟨s1, s2⟩ := roundS_step us (roundsS us r out) hu (by rw [roundsS_len, hl])
    rw [roundsS, Nat.succ_mul]
    refine ⟨by rw [s1, i1]; omega, fun M hM => ?_⟩
    rw [(s2 M hM).2.2 (by omega), i2 M hM, Nat.succ_mul]
    omega
def start31 : List Int := List.replicate 31 (-1)
theorem start_len : start31.length = 31 := by simp [start31]
theorem start_negs : negs start31 = 31 := by decide
theorem start_count {M : Int} (h : 0 ≤ M) : start31.count M = 0 := by
  unfold start31
  rw [List.count_replicate, if_neg (by simp; omega)]
/-- After 31 rounds every slot is taken, and fairly. -/
theorem slots_fair {us : List Hst} (hu : ∀ u ∈ us, okN u.num) (hT : 1 ≤ totN us) :
    negs (roundsS us 31 start31) = 0 ∧ ∀ M : Int, 0 ≤ M → (31 / totN us) * wtN us M ≤ (roundsS us 31 start31).count M ∧ (roundsS us 31 start31).count M ≤ (31 / totN us + 1) * wtN us M := by
  have hR : 31 / totN us * totN us ≤ 31 := Nat.div_mul_le_self 31 _
  have hR2 : 31 < (31 / totN us + 1) * totN us := by
    have h1 := Nat.div_add_mod 31 (totN us)
    have h2 := Nat.mod_lt 31 (show 0 < totN us by omega)
    rw [Nat.succ_mul, Nat.mul_comm]
    omega
  obtain ⟨R, hRe⟩ : ∃ R, 31 / totN us = R := ⟨_, rfl⟩
  rw [hRe] at hR hR2 ⊢
  obtain ⟨f1, f2⟩ := rounds_fair hu start_len R (by rw [start_negs]; exact hR)
  obtain ⟨s1, s2⟩ := roundS_step us (roundsS us R start31) hu (by rw [roundsS_len, start_len])
  rw [start_negs] at f1
  rw [Nat.succ_mul] at hR2
  have hfull : negs (roundsS us (R + 1) start31) = 0 := by rw [roundsS, s1, f1]; omega
  have hR31 : R ≤ 31 := by
    have : R * 1 ≤ R * totN us := Nat.mul_le_mul_left _ hT
    omega
  by_cases h31 : R = 31
  · subst h31
    have hz : negs (roundsS us 31 start31) = 0 := by
      have : 31 * 1 ≤ 31 * totN us := Nat.mul_le_mul_left _ hT
      rw [f1]; omega
    refine ⟨hz, fun M hM => ?_⟩
    have := f2 M hM
    rw [start_count hM] at this
    rw [this]
    have : (31 + 1) * wtN us M = 31 * wtN us M + wtN us M := Nat.succ_mul _ _
    omega
  · have e := roundsS_stop (us := us) (out := start31) (r := R + 1) (by omega) hfull
    rw [e]
    refine ⟨hfull, fun M hM => ?_⟩
    obtain ⟨q1, q2, _⟩ := s2 M hM
    have := f2 M hM
    rw [start_count hM] at this
    rw [roundsS, Nat.succ_mul]
    omega
theorem takeS_mem {N : Int} {out : List Int} {S : List Int} (hN : N ∈ S) (h : ∀ z ∈ out, z = -1 ∨ z ∈ S) : ∀ z ∈ takeS N out, z = -1 ∨ z ∈ S := by
  intro z hz
  unfold takeS at hz
  split at hz
  · rcases List.mem_or_eq_of_mem_set hz with h1 | h1
    · exact h z h1
    · exact .inr (by rw [h1]; exact hN)
  · exact h z hz
theorem takesS_mem {N : Int} {out : List Int} {S : List Int} (hN : N ∈ S) (h : ∀ z ∈ out, z = -1 ∨ z ∈ S) (t : Nat) : ∀ z ∈ takesS N t out, z = -1 ∨ z ∈ S := by
  induction t with
  | zero => exact h
  | succ t ih => exact takeS_mem hN ih
theorem roundS_mem {S : List Int} : ∀ (us : List Hst) (out : List Int), (∀ u ∈ us, u.num ∈ S) → (∀ z ∈ out, z = -1 ∨ z ∈ S) → ∀ z ∈ roundS us out, z = -1 ∨ z ∈ S
  | [], _, _, h => h
  | u :: us, out, hu, h => roundS_mem us (takesS u.num u.wt.toNat out) (fun x hx => hu x (by simp [hx])) (takesS_mem (hu u (by simp)) h _)
theorem roundsS_mem {S : List Int} {us : List Hst} (hu : ∀ u ∈ us, u.num ∈ S) {out : List Int} (h : ∀ z ∈ out, z = -1 ∨ z ∈ S) (r : Nat) : ∀ z ∈ roundsS us r out, z = -1 ∨ z ∈ S := by
  induction r with
  | zero => exact h
  | succ r ih => exact roundS_mem us _ hu ih
theorem start_mem {S : List Int} : ∀ z ∈ start31, z = -1 ∨ z ∈ S := fun z hz => .inl (by simpa [start31] using hz)
theorem negs_zero_mem {out : List Int} (h : negs out = 0) {z : Int} (hz : z ∈ out) : 0 ≤ z := by
  have := List.countP_eq_zero.1 h z hz
  simpa using this
theorem sum_counts : ∀ (L S : List Int), S.Nodup → (∀ z ∈ L, z ∈ S) → (S.map fun s => L.count s).sum = L.length
  | [], S, _, _ => by
    have : ∀ S : List Int, (S.map fun s => ([] : List Int).count s).sum = 0 := by
      intro S
      induction S with
      | nil => rfl
      | cons a S ih => rw [List.map_cons, List.sum_cons, ih]; rfl
    simpa using this S
  | a :: L, S, hS, h => by
    have ih := sum_counts L S hS (fun z hz => h z (by simp [hz]))
    have h1 : (S.map fun s => (a :: L).count s).sum = (S.map fun s => L.count s).sum + S.count a := by
      clear ih hS h
      induction S with
      | nil => rfl
      | cons s S ih2 =>
        rw [List.map_cons, List.sum_cons, ih2, List.map_cons, List.sum_cons, List.count_cons, List.count_cons]
        have e : (if (a == s) = true then 1 else 0) = if (s == a) = true then 1 else 0 := by
          by_cases hsa : s = a
          · subst hsa; rfl
          · rw [if_neg (by simpa using fun e => hsa e.symm), if_neg (by simpa using hsa)]
        omega
    rw [h1, ih, hS.count, if_pos (h a (by simp))]
    simp
def stabB (hs : List Hst) : Bool := poolB hs && decide (0 < (ups hs).length)
def stabZ (hs : List Hst) : List Int := if stabB hs = true then roundsS (ups hs) 31 start31 else []
theorem stabZ_no {hs : List Hst} (h : stabB hs = false) : stabZ hs = [] := by simp [stabZ, h]
theorem stabZ_yes {hs : List Hst} (h : stabB hs = true) : stabZ hs = roundsS (ups hs) 31 start31 := by simp [stabZ, h]
theorem stabZ_len (hs : List Hst) : (stabZ hs).length ≤ 31 := by
  cases h : stabB hs
  · rw [stabZ_no h]; simp
  · rw [stabZ_yes h, roundsS_len, start_len]; exact Nat.le_refl _
/-- The first p slots in a host's order are taken. -/
def Taken (N : Int) (p : Nat) (out : List Int) : Prop := ∀ i, i < p → 0 ≤ out.getD (ordN N i) 0
theorem getD_set_nonneg {out : List Int} {j : Nat} (s : Nat) {M : Int} (hM : 0 ≤ M) (h : 0 ≤ out.getD j 0) : 0 ≤ (out.set s M).getD j 0 := by
  rw [List.getD_eq_getElem?_getD] at *
  rw [List.getElem?_set]
  split
  · split
    · exact hM
    · simp
  · exact h
theorem Taken.set {N M : Int} {p s : Nat} {out : List Int} (h : Taken N p out) (hM : 0 ≤ M) : Taken N p (out.set s M) := fun i hi => getD_set_nonneg s hM (h i hi)
theorem Taken.le {N : Int} {p j : Nat} {out : List Int} (h : Taken N p out) (hj : out.getD (ordN N j) 0 < 0) : p ≤ j := by
  rcases Nat.lt_or_ge j p with hlt | hge
  · have := h j hlt
    omega
  · exact hge
theorem Taken.succ {N : Int} {p : Nat} {out : List Int} (h : Taken N p out) (hp : 0 ≤ out.getD (ordN N p) 0) : Taken N (p + 1) out := fun i hi => by
  rcases Nat.lt_or_ge i p with hlt | hge
  · exact h i hlt
  · obtain rfl : i = p := by omega
    exact hp
theorem takesS_add (N : Int) (a b : Nat) (out : List Int) : takesS N (a + b) out = takesS N b (takesS N a out) := by
  induction b with
  | zero => rfl
  | succ b ih => rw [← Nat.add_assoc, takesS, ih, takesS]
theorem takesS_stop {N : Int} {out : List Int} {t W : Nat} (ht : t ≤ W) (h : negs (takesS N t out) = 0) : takesS N W out = takesS N t out := by
  obtain ⟨d, rfl⟩ : ∃ d, W = t + d := ⟨W - t, by omega⟩
  rw [takesS_add, takesS_full h]
/-- The places of all hosts. -/
def PlacesOk (us : List Hst) (P : List Nat) (out : List Int) : Prop := ∀ (k : Nat) (x : Hst) (p : Nat), us[k]? = some x → P[k]? = some p → Taken x.num p out
theorem PlacesOk.out {us : List Hst} {P : List Nat} {out : List Int} (h : PlacesOk us P out) {s : Nat} {M : Int} (hM : 0 ≤ M) : PlacesOk us P (out.set s M) := fun k x p hx hp => (h k x p hx hp).set hM
theorem PlacesOk.next {us : List Hst} {P : List Nat} {out : List Int} (h : PlacesOk us P out) {k p : Nat} {x : Hst} (hx : us[k]? = some x) (hp : P[k]? = some p) (hz : 0 ≤ out.getD (ordN x.num p) 0) : PlacesOk us (P.set k (p + 1)) out := by
  intro j y q hy hq
  rw [List.getElem?_set] at hq
  by_cases hkj : k = j
  · subst hkj
    obtain rfl := Option.some.inj (hx.symm.trans hy)
    have hlt : k < P.length := (List.getElem?_eq_some_iff.1 hp).1
    rw [if_pos rfl, if_pos hlt] at hq
    obtain rfl := Option.some.inj hq
    exact (h k x p hx hp).succ hz
  · rw [if_neg hkj] at hq
    exact h j y q hy hq
theorem places_start (us : List Hst) (m : Nat) (out : List Int) : PlacesOk us (List.replicate m 0) out := by
  intro k x p _ hp
  obtain ⟨_, rfl⟩ := List.getElem?_eq_some_iff.1 hp
  rw [List.getElem_replicate]
  exact fun i hi => absurd hi (Nat.not_lt_zero i)
def plZ (P : List Nat) : List Int := P.map fun (p : Nat) => (p : Int)
theorem plZ_len (P : List Nat) : (plZ P).length = P.length := by simp [plZ]
theorem plZ_set (P : List Nat) (k q : Nat) : plZ (P.set k q) = (plZ P).set k (q : Int) := by simp [plZ, List.map_set]
theorem plZ_at {P : List Nat} {k p : Nat} (h : P[k]? = some p) : (plZ P).getD k 0 = (p : Int) := by simp [plZ, List.getD_eq_getElem?_getD, h]
theorem plZ_zero (m : Nat) : plZ (List.replicate m 0) = List.replicate m 0 := by simp [plZ]
theorem totN_pos {us : List Hst} (h : ∀ x ∈ us, 1 ≤ x.wt ∧ x.wt ≤ 5) (h0 : 0 < us.length) : 1 ≤ totN us := by
  match us, h0 with
  | x :: t, _ =>
    have := h x (by simp)
    have e : totN (x :: t) = x.wt.toNat + totN t := by simp [totN]
    omega
end Go.Proofs.Ytbnehcaallehbaa
