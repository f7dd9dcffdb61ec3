/- A pool with the state of one host set. -/
import Derived.Test.YtbnehcaallehbaaTot
namespace Go.Proofs.Ytbnehcaallehbaa
set_option linter.unusedVariables false
set_option linter.unusedSimpArgs false
open Go.RowKit

def okS (hs : List Hst) (N st : Int) : Bool := poolB hs && hs.any (fun h => h.num == N) && inB st 0 2
def setOne (N st : Int) (h : Hst) : Hst := if h.num = N then ⟨h.num, h.wt, st⟩ else h
def setH (hs : List Hst) (N st : Int) : List Hst := if okS hs N st = true then hs.map (setOne N st) else []
theorem setH_no {hs : List Hst} {N st : Int} (h : okS hs N st = false) : setH hs N st = [] := by simp [setH, h]
theorem setH_yes {hs : List Hst} {N st : Int} (h : okS hs N st = true) : setH hs N st = hs.map (setOne N st) := by simp [setH, h]
theorem setH_len (hs : List Hst) (N st : Int) : (setH hs N st).length ≤ 6 := by
  cases h : okS hs N st
  · rw [setH_no h]; simp
  · rw [setH_yes h, List.length_map]
    simp [okS] at h
    exact pool_len h.1.1
/-- What a function leaves that returns a pool and whether. -/
def RetHB (w : World) (n : Nat) (us : List Hst) (b : Bool) (e : Ending) (w' : World) : Prop := ∃ A c, e = .returned (.tuple #[.slice A n c, .bool b]) ∧ n ≤ c ∧ c ≤ maxLen ∧ Own 64 3 w.heap.size w' A n c (flat us) ∧ New w w'
theorem flat_setSt : ∀ (l : List Hst) (k : Nat) (x : Hst) (st : Int), l[k]? = some x → (flat l).set (k * 3 + 2) st = flat (l.set k ⟨x.num, x.wt, st⟩)
  | [], _, _, _, h => by simp at h
  | y :: t, 0, x, st, h => by simp at h; subst h; simp [flat]
  | y :: t, k + 1, x, st, h => by
    have ih := flat_setSt t k x st (by simpa using h)
    rw [show (k + 1) * 3 + 2 = k * 3 + 2 + 1 + 1 + 1 from by omega]
    simpa [flat] using ih
theorem set_map {hs : List Hst} (hp : poolB hs = true) {k : Nat} {x : Hst} {N st : Int} (hx : hs[k]? = some x) (hN : x.num = N) : hs.set k ⟨x.num, x.wt, st⟩ = hs.map (setOne N st) := by
  apply List.ext_getElem?
  intro j
  rw [List.getElem?_set, List.getElem?_map]
  have hk : k < hs.length := (List.getElem?_eq_some_iff.1 hx).1
  by_cases hjk : k = j
  · subst hjk
    rw [if_pos rfl, hx]
    simp [hk, setOne, hN]
  · rw [if_neg hjk]
    cases hy : hs[j]? with
    | none => rfl
    | some y =>
      have : y.num ≠ N := fun e => hjk (pool_inj hp hx hy (hN.trans e.symm))
      simp [setOne, this]
theorem any_idx {hs : List Hst} {N : Int} : hs.any (fun h => h.num == N) = decide (0 ≤ idxZ hs N) := by
  rcases idx_cases hs N with ⟨k, x, hx, hN, _, he⟩ | ⟨hno, he⟩
  · rw [he]
    have : hs.any (fun h => h.num == N) = true := List.any_eq_true.2 ⟨x, List.mem_of_getElem? hx, by simpa using hN⟩
    rw [this]
    simp
  · rw [he]
    have : hs.any (fun h => h.num == N) = false := by
      rw [List.any_eq_false]
      intro y hy
      obtain ⟨j, hj, rfl⟩ := List.getElem_of_mem hy
      simpa using hno j hj hs[j] (by simp [hj])
    rw [this]
    simp
theorem any_take {hs : List Hst} {N : Int} {k : Nat} {x : Hst} (hx : hs[k]? = some x) : (hs.take (k + 1)).any (fun h => h.num == N) = ((hs.take k).any (fun h => h.num == N) || x.num == N) := by
  rw [List.take_add_one, hx]
  simp
theorem setOne_take {hs : List Hst} {N st : Int} {k : Nat} {x : Hst} (hx : hs[k]? = some x) : flat ((hs.take (k + 1)).map (setOne N st)) = flat ((hs.take k).map (setOne N st)) ++ flat [setOne N st x] := by
  rw [List.take_add_one, hx]
  simp [flat_append]

theorem Own.open3 {E : TypeId} {B n c k : Nat} {w : World} {A : Option Addr} {zs : List Int} (h : Own E 3 B w A n c zs) (hl : zs.length = n * 3) (hk : k < n) :
    ∃ g, A = some ⟨g, 0, none⟩ ∧ B ≤ g ∧ g < w.heap.size ∧ w.cell? ⟨g, k * 3, none⟩ = some (.int .i64 (zs.getD (k * 3) 0)) ∧ w.cell? ⟨g, k * 3 + 1, none⟩ = some (.int .i64 (zs.getD (k * 3 + 1) 0)) ∧ w.cell? ⟨g, k * 3 + 2, none⟩ = some (.int .i64 (zs.getD (k * 3 + 2) 0)) ∧ w.frozen? ⟨g, k * 3 + 2, none⟩ = false := by
  obtain ⟨g, hA, hBg, hgs, _, hcell, hfr⟩ := h.at_ (by omega)
  exact ⟨g, hA, hBg, hgs, hcell _ (by omega), hcell _ (by omega), hcell _ (by omega), hfr _⟩
set_option maxRecDepth 100000 in
theorem setState_impl (A : Option Addr) (n c : Nat) (hs : List Hst) (N st : Int) (w : World) (hn : hs.length = n) (hm : n ≤ 1048576) (h : Ints w A (flat hs)) :
    Calls Try.prog 59 #[.slice A n c, .int .i64 N, .int .i64 st] w (RetHB w (setH hs N st).length (setH hs N st) (okS hs N st)) := by
  obtain ⟨i0, hi, iz0, iz1, iz2⟩ := info_parts host_info
  have hml : n ≤ maxLen := by unfold maxLen; omega
  have HN := Lib.hid hn
  clear hn
  have hAny := any_idx (hs := hs) (N := N)
  cases hP : poolB hs
  · have hok : okS hs N st = false := by simp [okS, hP]
    rw [setH_no hok, hok]
    clear hok hAny
    go_enter Try.func59, Try.ntmps59
    go_wp2_with fail
    refine (hostAt_any A n c hs N _ HN.out hml h).mono ?_
    rintro e w1 ⟨rfl, b1⟩
    have hc1 := New.cells b1; have hf1 := New.marks b1; have hz1 := New.le b1; try simp only [World.size_alloc, World.size_setCell] at hz1
    try have z1_0_0 : w.heap.size < w1.heap.size := by omega
    try have z1_0_1 : w.heap.size + 1 < w1.heap.size := by omega
    try have z1_0_2 : w.heap.size + 2 < w1.heap.size := by omega
    go_wp2_with fail
    refine (poolValid_impl A n c hs _ HN.out hml (h.new b1)).mono ?_
    rintro e w2 ⟨rfl, b2⟩
    rw [hP]
    have hc2 := New.cells b2; have hf2 := New.marks b2; have hz2 := New.le b2; try simp only [World.size_alloc, World.size_setCell] at hz2
    try have z2_0_0 : w.heap.size < w2.heap.size := by omega
    try have z2_0_1 : w.heap.size + 1 < w2.heap.size := by omega
    try have z2_0_2 : w.heap.size + 2 < w2.heap.size := by omega
    try have z2_1_0 : w1.heap.size < w2.heap.size := by omega
    try have z2_1_1 : w1.heap.size + 1 < w2.heap.size := by omega
    try have z2_1_2 : w1.heap.size + 2 < w2.heap.size := by omega
    go_wp2_with fail
    go_ret2
    exact ⟨none, 0, rfl, Nat.le_refl _, Nat.zero_le _, World.ownsRow_nil _ _ _ _, (by repeat (first | with_reducible assumption | with_reducible exact New.refl _ | with_reducible refine New.alloc ?_ _ | with_reducible refine New.drew ?_ | with_reducible refine New.drewN ?_ _ | refine New.setCell ?_ (by first | (simp; done) | omega | (simp; omega)) _ | with_reducible refine New.trans ?_ (by with_reducible assumption)))⟩
  rcases idx_cases hs N with ⟨k, x, hx, hxN, _, he⟩ | ⟨hno, he⟩
  · rw [he] at hAny
    have hAny' : hs.any (fun h => h.num == N) = true := by rw [hAny]; simp
    cases hS : inB st 0 2
    · have hok : okS hs N st = false := by simp [okS, hS]
      rw [setH_no hok, hok]
      clear hok hAny hAny' hx
      have HE := Lib.hid he
      clear he
      go_enter Try.func59, Try.ntmps59
      go_wp2_with fail
      refine (hostAt_any A n c hs N _ HN.out hml h).mono ?_
      rintro e w1 ⟨rfl, b1⟩
      rw [HE.out]
      have hc1 := New.cells b1; have hf1 := New.marks b1; have hz1 := New.le b1; try simp only [World.size_alloc, World.size_setCell] at hz1
      try have z1_0_0 : w.heap.size < w1.heap.size := by omega
      try have z1_0_1 : w.heap.size + 1 < w1.heap.size := by omega
      try have z1_0_2 : w.heap.size + 2 < w1.heap.size := by omega
      go_wp2_with fail
      refine (poolValid_impl A n c hs _ HN.out hml (h.new b1)).mono ?_
      rintro e w2 ⟨rfl, b2⟩
      rw [hP]
      have hc2 := New.cells b2; have hf2 := New.marks b2; have hz2 := New.le b2; try simp only [World.size_alloc, World.size_setCell] at hz2
      try have z2_0_0 : w.heap.size < w2.heap.size := by omega
      try have z2_0_1 : w.heap.size + 1 < w2.heap.size := by omega
      try have z2_0_2 : w.heap.size + 2 < w2.heap.size := by omega
      try have z2_1_0 : w1.heap.size < w2.heap.size := by omega
      try have z2_1_1 : w1.heap.size + 1 < w2.heap.size := by omega
      try have z2_1_2 : w1.heap.size + 2 < w2.heap.size := by omega
      go_wp2_with fail
      refine (in_any _ _ _ _).mono ?_
      rintro e w' ⟨rfl, rfl⟩
      rw [hS]
      go_wp2_with fail
      go_ret2
      exact ⟨none, 0, rfl, Nat.le_refl _, Nat.zero_le _, World.ownsRow_nil _ _ _ _, (by repeat (first | with_reducible assumption | with_reducible exact New.refl _ | with_reducible refine New.alloc ?_ _ | with_reducible refine New.drew ?_ | with_reducible refine New.drewN ?_ _ | refine New.setCell ?_ (by first | (simp; done) | omega | (simp; omega)) _ | with_reducible refine New.trans ?_ (by with_reducible assumption)))⟩
    · have hok : okS hs N st = true := by simp [okS, hS, hP, hAny']
      have hl : (setH hs N st).length = n := by rw [setH_yes hok, List.length_map, HN.out]
      rw [hl, hok]
      have HF : Hid ((flat hs).set (k * 3 + 2) st = flat (setH hs N st)) := Lib.hid (by rw [flat_setSt hs k x st hx, set_map hP hx hxN, setH_yes hok])
      have hkn : k < n := by rw [← HN.out]; exact (List.getElem?_eq_some_iff.1 hx).1
      have hpl := pool_len hP
      rw [HN.out] at hpl
      clear hok hl hAny hAny' hx
      have HE := Lib.hid he
      clear he
      have hfl := flat_len hs
      rw [HN.out] at hfl
      obtain ⟨ad, hA, _⟩ : ∃ ad, A = some ad ∧ True := by
        obtain ⟨b, o, hA, _⟩ := h (by omega)
        exact ⟨_, hA, trivial⟩
      subst hA
      have HFL := Lib.hid hfl
      clear hfl
      go_enter Try.func59, Try.ntmps59
      go_wp2_with fail
      refine (hostAt_any (some ad) n c hs N _ HN.out hml h).mono ?_
      rintro e w1 ⟨rfl, b1⟩
      rw [HE.out]
      have hc1 := New.cells b1; have hf1 := New.marks b1; have hz1 := New.le b1; try simp only [World.size_alloc, World.size_setCell] at hz1
      try have z1_0_0 : w.heap.size < w1.heap.size := by omega
      try have z1_0_1 : w.heap.size + 1 < w1.heap.size := by omega
      try have z1_0_2 : w.heap.size + 2 < w1.heap.size := by omega
      go_wp2_with fail
      refine (poolValid_impl (some ad) n c hs _ HN.out hml (h.new b1)).mono ?_
      rintro e w2 ⟨rfl, b2⟩
      rw [hP]
      have hc2 := New.cells b2; have hf2 := New.marks b2; have hz2 := New.le b2; try simp only [World.size_alloc, World.size_setCell] at hz2
      try have z2_0_0 : w.heap.size < w2.heap.size := by omega
      try have z2_0_1 : w.heap.size + 1 < w2.heap.size := by omega
      try have z2_0_2 : w.heap.size + 2 < w2.heap.size := by omega
      try have z2_1_0 : w1.heap.size < w2.heap.size := by omega
      try have z2_1_1 : w1.heap.size + 1 < w2.heap.size := by omega
      try have z2_1_2 : w1.heap.size + 2 < w2.heap.size := by omega
      go_wp2_with fail
      refine (in_any _ _ _ _).mono ?_
      rintro e w' ⟨rfl, rfl⟩
      rw [hS]
      have B2 := b1.trans b2
      have hh := h.new B2
      have hki : (k : Int) < (n : Int) := by omega
      go_wp2_with (at_builtin; refine wpList_append_Own _ rfl (.const (.slice none 0 0)) (.tmp 25) 23 rfl w 64 i0 _ 3 24 Try.underlying23 hi iz0 iz1 iz2 rfl (by omega) (by omega) none 0 0 [] rfl (World.ownsRow_nil _ _ _ _) ad n c (flat hs) rfl HFL.out hh (by omega) (by omega) B2 ?_; intro A3 c3 w3 e1 e2 o3 n3 g3; simp only [Nat.zero_add, List.nil_append] at o3 e1 ⊢; obtain ⟨g, rfl, hBg, hgs, ea, eb, ec, ef⟩ := o3.open3 HFL.out hkn; have HO := Lib.hid (o3.set_ (k * 3 + 2) st); have HN3 := Lib.hid (n3.setCell (p := ⟨g, k * 3 + 2, none⟩) hBg (.int .i64 st)); clear o3 g3)
      go_ret2
      refine ⟨_, c3, rfl, e1, e2, ?_, HN3.out⟩
      have := HO.out
      rwa [HF.out] at this
  · rw [he] at hAny
    have hAny' : hs.any (fun h => h.num == N) = false := by rw [hAny]; simp
    have hok : okS hs N st = false := by simp only [okS, hAny']; simp
    rw [setH_no hok, hok]
    clear hok hAny hAny' hno
    have HE := Lib.hid he
    clear he
    go_enter Try.func59, Try.ntmps59
    go_wp2_with fail
    refine (hostAt_any A n c hs N _ HN.out hml h).mono ?_
    rintro e w1 ⟨rfl, b1⟩
    rw [HE.out]
    have hc1 := New.cells b1; have hf1 := New.marks b1; have hz1 := New.le b1; try simp only [World.size_alloc, World.size_setCell] at hz1
    try have z1_0_0 : w.heap.size < w1.heap.size := by omega
    try have z1_0_1 : w.heap.size + 1 < w1.heap.size := by omega
    try have z1_0_2 : w.heap.size + 2 < w1.heap.size := by omega
    go_wp2_with fail
    refine (poolValid_impl A n c hs _ HN.out hml (h.new b1)).mono ?_
    rintro e w2 ⟨rfl, b2⟩
    rw [hP]
    have hc2 := New.cells b2; have hf2 := New.marks b2; have hz2 := New.le b2; try simp only [World.size_alloc, World.size_setCell] at hz2
    try have z2_0_0 : w.heap.size < w2.heap.size := by omega
    try have z2_0_1 : w.heap.size + 1 < w2.heap.size := by omega
    try have z2_0_2 : w.heap.size + 2 < w2.heap.size := by omega
    try have z2_1_0 : w1.heap.size < w2.heap.size := by omega
    try have z2_1_1 : w1.heap.size + 1 < w2.heap.size := by omega
    try have z2_1_2 : w1.heap.size + 2 < w2.heap.size := by omega
    go_wp2_with fail
    go_ret2
    exact ⟨none, 0, rfl, Nat.le_refl _, Nat.zero_le _, World.ownsRow_nil _ _ _ _, (by repeat (first | with_reducible assumption | with_reducible exact New.refl _ | with_reducible refine New.alloc ?_ _ | with_reducible refine New.drew ?_ | with_reducible refine New.drewN ?_ _ | refine New.setCell ?_ (by first | (simp; done) | omega | (simp; omega)) _ | with_reducible refine New.trans ?_ (by with_reducible assumption)))⟩
set_option maxRecDepth 100000 in
set_option maxHeartbeats 1000000 in
theorem setState_spec (A : Option Addr) (n c : Nat) (hs : List Hst) (N st : Int) (w : World) (hn : hs.length = n) (hm : n ≤ 1048576) (h : Ints w A (flat hs)) :
    Calls Try.prog 81 #[.slice A n c, .int .i64 N, .int .i64 st] w (RetHB w (setH hs N st).length (setH hs N st) (okS hs N st)) := by
  obtain ⟨i0, hi, iz0, iz1, iz2⟩ := info_parts host_info
  have hml : n ≤ maxLen := by unfold maxLen; omega
  have HN := Lib.hid hn
  clear hn
  have b0 := (New.refl w).alloc (.cells #[] 64)
  have o0 : Own 64 3 w.heap.size (w.alloc (.cells #[] 64)) (some ⟨w.heap.size, 0, none⟩) 0 0 (flat []) := World.ownsRow_lit w #[] 0 (Nat.le_refl _) (Nat.zero_le _) rfl
  have O0 := Lib.hid o0
  have B0 := Lib.hid b0
  clear b0 o0
  cases hP : poolB hs
  · have hok : okS hs N st = false := by simp [okS, hP]
    rw [setH_no hok, hok]
    clear hok
    go_enter Try.func81, Try.ntmps81
    go_wp2_with fail
    go_loopw [8, 9, 10] (fun v f i wr => ∃ (A' : Option Addr) (c' : Nat), v = .slice A' 0 c' ∧ f = .bool false ∧ i = .int .i64 0 ∧ New w wr) (fun _ _ _ _ => 0)
    case atStart => exact ⟨_, 0, rfl, rfl, rfl, B0.out⟩
    case round =>
      obtain ⟨A', c', rfl, rfl, rfl, hnew⟩ := hrel
      by_cases h0 : 0 < n
      · go_wp2_with fail
        refine (poolValid_spec A n c hs _ HN.out hml (h.new hnew)).mono ?_
        rintro e w1 ⟨rfl, b1⟩
        rw [hP]
        have hn1 := hnew.trans b1
        have oz : Own 64 3 w.heap.size (w1.alloc (.cells #[] 64)) (some ⟨w1.heap.size, 0, none⟩) 0 0 (flat []) := Own.less (World.ownsRow_lit w1 #[] 0 (Nat.le_refl _) (Nat.zero_le _) rfl) hn1.le
        have OZ := Lib.hid oz
        clear oz
        go_wp2_with fail
        go_ret2
        exact ⟨_, 0, rfl, Nat.le_refl _, Nat.zero_le _, OZ.out, hn1.alloc _⟩
      · obtain rfl : n = 0 := by omega
        rename_i wr _
        have oz : Own 64 3 w.heap.size (wr.alloc (.cells #[] 64)) (some ⟨wr.heap.size, 0, none⟩) 0 0 (flat []) := Own.less (World.ownsRow_lit wr #[] 0 (Nat.le_refl _) (Nat.zero_le _) rfl) hnew.le
        have OZ := Lib.hid oz
        clear oz
        go_wp2_with fail
        go_ret2
        exact ⟨_, 0, rfl, Nat.le_refl _, Nat.zero_le _, OZ.out, hnew.alloc _⟩
  have HP := Lib.hid hP
  have hpl := pool_len hP
  rw [HN.out] at hpl
  clear hP
  go_enter Try.func81, Try.ntmps81
  go_wp2_with fail
  go_loopw [8, 9, 10] (fun v f i wr => ∃ (k : Nat) (A' : Option Addr) (c' : Nat) (fb : Bool), k ≤ n ∧ i = .int .i64 k ∧ v = .slice A' k c' ∧ f = .bool fb ∧ Hid ((hs.take k).any (fun h => h.num == N) = fb) ∧ k ≤ c' ∧ c' ≤ maxLen ∧ Own 64 3 w.heap.size wr A' k c' (flat ((hs.take k).map (setOne N st))) ∧ New w wr) (fun _ _ i _ => n - (intOf i).toNat)
  case atStart => exact ⟨0, _, 0, false, Nat.zero_le _, rfl, rfl, rfl, Lib.hid rfl, Nat.le_refl _, Nat.zero_le _, O0.out, B0.out⟩
  case round =>
    obtain ⟨k, A', c', fb, hk, rfl, rfl, rfl, HB, hkc, hcm, hown, hnew⟩ := hrel
    by_cases hlt : k < n
    · have hki : (k : Int) < (n : Int) := by omega
      go_wp2_with fail
      refine (poolValid_spec A n c hs _ HN.out hml (h.new hnew)).mono ?_
      rintro e w1 ⟨rfl, b1⟩
      rw [HP.out]
      have hnew1 := hnew.trans b1
      obtain ⟨b, o, x, rfl, hx, hb, c0, c1, c2⟩ := hosts_at (h.new hnew1) (k := k) (by rw [HN.out]; exact hlt)
      have HX := Lib.hid (setOne_take (N := N) (st := st) hx)
      have HA := Lib.hid (any_take (N := N) hx)
      clear hx
      obtain ⟨x0, x1, x2⟩ := x
      simp only at c0 c1 c2 HA
      rw [HB.out] at HA
      by_cases hxN : x0 = N
      · subst hxN
        have HA' : Hid ((hs.take (k + 1)).any (fun h => h.num == x0) = true) := Lib.hid (by rw [HA.out]; simp)
        have HX' : Hid (flat ((hs.take (k + 1)).map (setOne x0 st)) = flat ((hs.take k).map (setOne x0 st)) ++ [x0, x1, st]) := Lib.hid (by rw [HX.out]; simp [setOne, flat])
        have bA := ((New.refl w1).alloc (.cells #[.int .i64 x0, .int .i64 x1, .int .i64 st] 64)).alloc (.cells #[.int .i64 x0, .int .i64 x1, .int .i64 st] 64)
        have HO := Lib.hid ((hown.new b1).new bA)
        have HBN := Lib.hid (hnew1.trans bA)
        clear bA hown
        go_wp2_with (at_builtin; refine wpList_append_Own _ rfl (.tmp 33) (.tmp 35) 23 rfl w 64 i0 _ 3 24 Try.underlying23 hi iz0 iz1 iz2 rfl (by omega) (by omega) A' k c' _ rfl HO.out _ 1 1 [x0, x1, st] rfl rfl (Ints.lit _ _ [x0, x1, st] _ (by simp)) (by omega) (by omega) HBN.out ?_; intro A3 c3 w3 e1 e2 o3 n3 _)
        go_roundw
        case rel =>
          refine ⟨k + 1, A3, c3, true, by omega, by go_num, rfl, rfl, HA', e1, e2, ?_, n3⟩
          rw [HX'.out]
          exact o3
        case measure => simp [intOf]; omega
      · have hxN' : (x0 == N) = false := by simpa using hxN
        have HA' : Hid ((hs.take (k + 1)).any (fun h => h.num == N) = fb) := Lib.hid (by rw [HA.out, hxN']; simp)
        have HX' : Hid (flat ((hs.take (k + 1)).map (setOne N st)) = flat ((hs.take k).map (setOne N st)) ++ [x0, x1, x2]) := Lib.hid (by rw [HX.out]; simp [setOne, flat, hxN])
        have bA := ((New.refl w1).alloc (.cells #[.int .i64 x0, .int .i64 x1, .int .i64 x2] 64)).alloc (.cells #[.int .i64 x0, .int .i64 x1, .int .i64 x2] 64)
        have HO := Lib.hid ((hown.new b1).new bA)
        have HBN := Lib.hid (hnew1.trans bA)
        clear bA hown
        go_wp2_with (at_builtin; refine wpList_append_Own _ rfl (.tmp 33) (.tmp 35) 23 rfl w 64 i0 _ 3 24 Try.underlying23 hi iz0 iz1 iz2 rfl (by omega) (by omega) A' k c' _ rfl HO.out _ 1 1 [x0, x1, x2] rfl rfl (Ints.lit _ _ [x0, x1, x2] _ (by simp)) (by omega) (by omega) HBN.out ?_; intro A3 c3 w3 e1 e2 o3 n3 _)
        go_roundw
        case rel =>
          refine ⟨k + 1, A3, c3, fb, by omega, by go_num, rfl, rfl, HA', e1, e2, ?_, n3⟩
          rw [HX'.out]
          exact o3
        case measure => simp [intOf]; omega
    · obtain rfl : k = n := by omega
      have HT := Lib.hid (show hs.take k = hs from List.take_of_length_le (by rw [HN.out]; exact Nat.le_refl _))
      rename_i wr _ 
      have oz : Own 64 3 w.heap.size (wr.alloc (.cells #[] 64)) (some ⟨wr.heap.size, 0, none⟩) 0 0 (flat []) := Own.less (World.ownsRow_lit wr #[] 0 (Nat.le_refl _) (Nat.zero_le _) rfl) hnew.le
      have OZ := Lib.hid oz
      clear oz
      cases fb
      · have hok : okS hs N st = false := by have := HB.out; rw [HT.out] at this; simp only [okS, this]; simp
        have HK := Lib.hid hok
        clear hok
        go_wp2_with fail
        go_ret2
        rw [setH_no HK.out, HK.out]
        exact ⟨_, 0, rfl, Nat.le_refl _, Nat.zero_le _, OZ.out, hnew.alloc _⟩
      · cases hS : inB st 0 2
        · have HK := Lib.hid (show okS hs N st = false by simp [okS, hS])
          go_wp2_with fail
          refine (l1In_any _ _ _ _).mono ?_
          rintro e w' ⟨rfl, rfl⟩
          rw [hS]
          go_wp2_with fail
          go_ret2
          rw [setH_no HK.out, HK.out]
          exact ⟨_, 0, rfl, Nat.le_refl _, Nat.zero_le _, OZ.out, hnew.alloc _⟩
        · have HK := Lib.hid (show okS hs N st = true by have := HB.out; rw [HT.out] at this; simp only [okS, this, hS, HP.out]; rfl)
          go_wp2_with fail
          refine (l1In_any _ _ _ _).mono ?_
          rintro e w' ⟨rfl, rfl⟩
          rw [hS]
          go_wp2_with fail
          go_ret2
          have e3 : (setH hs N st).length = k := by rw [setH_yes HK.out, List.length_map, HN.out]
          rw [e3, HK.out, setH_yes HK.out]
          rw [HT.out] at hown
          exact ⟨A', c', rfl, hkc, hcm, hown, hnew⟩
end Go.Proofs.Ytbnehcaallehbaa
