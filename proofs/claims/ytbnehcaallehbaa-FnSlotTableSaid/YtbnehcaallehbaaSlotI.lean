/- impl.SlotTable. -/
import Derived.Test.YtbnehcaallehbaaSlotR
import Derived.Test.YtbnehcaallehbaaSlotM
namespace Go.Proofs.Ytbnehcaallehbaa
set_option linter.unusedVariables false
set_option linter.unusedSimpArgs false
open Go.RowKit Go.Sort

def tabOf (O : List Int) : List Int := O.map fun z => if z < 0 then 0 else z
theorem tabOf_len (O : List Int) : (tabOf O).length = O.length := by simp [tabOf]
theorem tabOf_start : tabOf start31 = List.replicate 31 0 := by decide
theorem tabOf_set {O : List Int} (s : Nat) {N : Int} (h : 0 ≤ N) : tabOf (O.set s N) = (tabOf O).set s N := by
  unfold tabOf
  rw [List.map_set, if_neg (by omega)]
theorem tabOf_full {O : List Int} (h : negs O = 0) : tabOf O = O := by
  unfold tabOf
  conv => rhs; rw [← List.map_id O]
  apply List.map_congr_left
  intro z hz
  have := negs_zero_mem h hz
  simp
  omega
/-- Block G tells which slots are taken. -/
def TakenAt (G : Nat) (w : World) (O : List Int) : Prop := ∃ cs : Array Value, w.heap[G]? = some (.cells cs 97 (0, 0)) ∧ cs.size = 31 ∧ ∀ s, s < 31 → cs[s]? = some (.bool (decide (0 ≤ O.getD s 0)))
theorem TakenAt.cell {G s : Nat} {w : World} {O : List Int} (h : TakenAt G w O) (hs : s < 31) {bb : Bool} (hb : decide (0 ≤ O.getD s 0) = bb) : w.cell? ⟨G, s, none⟩ = some (.bool bb) := by
  obtain ⟨cs, h1, _, h3⟩ := h
  rw [cell_of_row _ _ _ _ _ _ h1, h3 s hs, hb]
theorem TakenAt.frz {G : Nat} {w : World} {O : List Int} (h : TakenAt G w O) (j : Nat) : w.frozen? ⟨G, j, none⟩ = false := by
  obtain ⟨cs, h1, _⟩ := h
  exact frozen_of_row _ _ _ _ _ h1
theorem TakenAt.lt {G : Nat} {w : World} {O : List Int} (h : TakenAt G w O) : G < w.heap.size := by
  obtain ⟨cs, h1, _⟩ := h
  exact (Array.getElem?_eq_some_iff.1 h1).1
theorem TakenAt.new {G : Nat} {w w' : World} {O : List Int} (h : TakenAt G w O) (hb : New w w') : TakenAt G w' O := by
  obtain ⟨cs, h1, h2, h3⟩ := h
  exact ⟨cs, blk_new h1 hb, h2, h3⟩
theorem TakenAt.other {G b : Nat} {w : World} {O : List Int} (h : TakenAt G w O) (hb : G ≠ b) (j : Nat) (u : Value) : TakenAt G (w.setCell ⟨b, j, none⟩ u) O := by
  obtain ⟨cs, h1, h2, h3⟩ := h
  exact ⟨cs, blk_set h1 (a := ⟨b, j, none⟩) hb u, h2, h3⟩
theorem TakenAt.gb {G R : Nat} {w w' : World} {O : List Int} (h : TakenAt G w O) (hg : w.grownBy w' (some R)) (hR : G ≠ R) : TakenAt G w' O := by
  obtain ⟨cs, h1, h2, h3⟩ := h
  exact ⟨cs, blk_gb h1 hg hR, h2, h3⟩
theorem TakenAt.set {G s : Nat} {w : World} {O : List Int} (h : TakenAt G w O) (hl : O.length = 31) {N : Int} (hN : 0 ≤ N) : TakenAt G (w.setCell ⟨G, s, none⟩ (.bool true)) (O.set s N) := by
  obtain ⟨cs, h1, h2, h3⟩ := h
  refine ⟨_, blk_at h1 s (.bool true), by simpa using h2, fun j hj => ?_⟩
  rw [Array.getElem?_setIfInBounds, List.getD_eq_getElem?_getD, List.getElem?_set]
  by_cases hsj : s = j
  · subst hsj
    rw [if_pos rfl, if_pos (by rw [h2]; exact hj), if_pos rfl, if_pos (by omega)]
    simp [hN]
  · rw [if_neg hsj, if_neg hsj, ← List.getD_eq_getElem?_getD]
    exact h3 j hj
theorem Own.gbNe {E : TypeId} {size B n c g R : Nat} {w w' : World} {zs : List Int} (h : Own E size B w (some ⟨g, 0, none⟩) n c zs) (hg : w.grownBy w' (some R)) (hR : g ≠ R) : Own E size B w' (some ⟨g, 0, none⟩) n c zs :=
  World.ownsRow.kept h hg (.inr (fun e => hR (by
    have e : some g = some R := e
    injection e)))
/-- Whatever lay in w outside three blocks lies there still. -/
def Off (a b c : Nat) (w w' : World) : Prop := w.heap.size ≤ w'.heap.size ∧ ∀ i, i < w.heap.size → i ≠ a → i ≠ b → i ≠ c → w'.heap[i]? = w.heap[i]?
section
variable {a b c : Nat} {w w' w2 : World}
theorem Off.refl (w : World) : Off a b c w w := ⟨Nat.le_refl _, fun _ _ _ _ _ => rfl⟩
theorem Off.new (h : Off a b c w w') (hb : New w' w2) : Off a b c w w2 := ⟨Nat.le_trans h.1 hb.le, fun i hi h1 h2 h3 => (Below.block hb i (Nat.lt_of_lt_of_le hi h.1)).trans (h.2 i hi h1 h2 h3)⟩
theorem Off.set (h : Off a b c w w') {p : Addr} (hp : p.block = a ∨ p.block = b ∨ p.block = c) (u : Value) : Off a b c w (w'.setCell p u) := by
  refine ⟨by simpa [World.setCell] using h.1, fun i hi h1 h2 h3 => ?_⟩
  rw [Below.heap_setCell _ _ _ _ (fun e => ?_)]
  · exact h.2 i hi h1 h2 h3
  · rcases hp with hp | hp | hp <;> rw [← e] at hp <;> contradiction
theorem Off.gb (h : Off a b c w w') (hg : w'.grownBy w2 (some c)) : Off a b c w w2 :=
  ⟨Nat.le_trans h.1 hg.size, fun i hi h1 h2 h3 => (hg.block i (Nat.lt_of_lt_of_le hi h.1) (by simpa using h3)).trans (h.2 i hi h1 h2 h3)⟩
theorem Off.cell (h : Off a b c w w') {g : Nat} (hg : g < w.heap.size) (h1 : g ≠ a) (h2 : g ≠ b) (h3 : g ≠ c) (j : Nat) : w'.cell? ⟨g, j, none⟩ = w.cell? ⟨g, j, none⟩ := by
  have := h.2 g hg h1 h2 h3
  simp [World.cell?, this]
end
/-- The orders, cut to what the hosts have not been past. -/
def OrdL (G4 G5 BM : Nat) (W1 : World) (us : List Hst) (O : List Int) (l : List (Int × Value)) : Prop :=
  l.map Prod.fst = numsOf us ∧ ∀ (j : Nat) (x : Hst), us[j]? = some x → ∃ g cc p off, l[j]? = some (x.num, .slice (some ⟨g, off, none⟩) (31 - p) (cc - p)) ∧ p ≤ 31 ∧ 31 ≤ cc ∧ (p < 31 → off = p) ∧ Taken x.num p O ∧ g < W1.heap.size ∧ g ≠ G4 ∧ g ≠ G5 ∧ g ≠ BM ∧ ∀ i, i < 31 → W1.cell? ⟨g, i, none⟩ = some (.int .i64 (ordN x.num i : Int))
section
variable {G4 G5 BM : Nat} {W1 : World} {us : List Hst} {O : List Int} {l : List (Int × Value)}
theorem OrdL.keys (h : OrdL G4 G5 BM W1 us O l) (hk : ∀ x ∈ us, okN x.num) : ∀ p ∈ l, okN p.1 := by
  intro p hp
  have : p.1 ∈ numsOf us := by rw [← h.1]; exact List.mem_map.2 ⟨p, hp, rfl⟩
  obtain ⟨x, hx, e⟩ := List.mem_map.1 this
  rw [← e]
  exact hk x hx
theorem OrdL.apart (h : OrdL G4 G5 BM W1 us O l) (hn : (numsOf us).Pairwise fun a b => a ≠ b) : l.Pairwise fun a b => a.1 ≠ b.1 := by
  rw [← h.1, List.pairwise_map] at hn
  exact hn
theorem OrdL.out (h : OrdL G4 G5 BM W1 us O l) (s : Nat) {M : Int} (hM : 0 ≤ M) : OrdL G4 G5 BM W1 us (O.set s M) l := by
  refine ⟨h.1, fun j x hx => ?_⟩
  obtain ⟨g, cc, p, off, h1, h2, h3, h4, h5, h6⟩ := h.2 j x hx
  exact ⟨g, cc, p, off, h1, h2, h3, h4, h5.set hM, h6⟩
theorem OrdL.cut (h : OrdL G4 G5 BM W1 us O l) {k : Nat} {x : Hst} (hx : us[k]? = some x) {g cc p off : Nat} (h2 : p ≤ 31) (h3 : 31 ≤ cc) (h4 : p < 31 → off = p) (h5 : Taken x.num p O) (h6 : g < W1.heap.size) (h7 : g ≠ G4) (h8 : g ≠ G5) (h9 : g ≠ BM) (h10 : ∀ i, i < 31 → W1.cell? ⟨g, i, none⟩ = some (.int .i64 (ordN x.num i : Int))) :
    OrdL G4 G5 BM W1 us O (l.set k (x.num, .slice (some ⟨g, off, none⟩) (31 - p) (cc - p))) := by
  have hlen : l.length = us.length := by have := congrArg List.length h.1; simpa [numsOf] using this
  have hku : k < us.length := (List.getElem?_eq_some_iff.1 hx).1
  refine ⟨?_, fun j y hy => ?_⟩
  · rw [List.map_set, h.1]
    apply List.ext_getElem?
    intro j
    rw [List.getElem?_set]
    by_cases hkj : k = j
    · subst hkj
      rw [if_pos rfl, if_pos (by rw [numsOf_len]; exact hku)]
      simp [numsOf, hx]
    · rw [if_neg hkj]
  · rw [List.getElem?_set]
    by_cases hkj : k = j
    · subst hkj
      obtain rfl := Option.some.inj (hx.symm.trans hy)
      rw [if_pos rfl, if_pos (by omega)]
      exact ⟨g, cc, p, off, rfl, h2, h3, h4, h5, h6, h7, h8, h9, h10⟩
    · rw [if_neg hkj]
      exact h.2 j y hy
end
/-- The state of the rounds. -/
def SlotSt (w : World) (G4 G5 BM : Nat) (W1 : World) (us : List Hst) (O : List Int) (wr : World) : Prop :=
  Own 3 1 w.heap.size wr (some ⟨G4, 0, none⟩) 31 31 (tabOf O) ∧ TakenAt G5 wr O ∧ (∃ l, Mapped BM wr l ∧ OrdL G4 G5 BM W1 us O l) ∧ Off G4 G5 BM W1 wr ∧ New w wr
theorem SlotSt.new {w W1 wr w' : World} {G4 G5 BM : Nat} {us : List Hst} {O : List Int} (h : SlotSt w G4 G5 BM W1 us O wr) (hb : New wr w') : SlotSt w G4 G5 BM W1 us O w' := by
  obtain ⟨h1, h2, ⟨l, h3, h4⟩, h5, h6⟩ := h
  exact ⟨h1.new hb, h2.new hb, ⟨l, h3.new hb, h4⟩, h5.new hb, h6.trans hb⟩
theorem cellsH {w : World} {g : Nat} {T : TypeId} {x0 x1 x2 : Value} (h : w.heap[g]? = some (.cells #[x0, x1, x2] T (0, 0))) : w.cell? ⟨g, 0, none⟩ = some x0 ∧ w.cell? ⟨g, 1, none⟩ = some x1 ∧ w.cell? ⟨g, 2, none⟩ = some x2 := by
  refine ⟨?_, ?_, ?_⟩
  all_goals (rw [cell_of_row _ _ _ _ _ _ h]; rfl)
theorem start_at {s : Nat} (hs : s < 31) : start31.getD s 0 = -1 := by
  unfold start31
  rw [List.getD_eq_getElem?_getD, List.getElem?_replicate, if_pos hs]
  rfl
theorem negs_pos {out : List Int} {s : Nat} (h : out.getD s 0 < 0) : 0 < negs out := by
  unfold negs
  rw [List.countP_pos_iff]
  rw [List.getD_eq_getElem?_getD] at h
  rcases hs : out[s]? with _ | z
  · rw [hs] at h; simp at h
  · rw [hs] at h
    exact ⟨z, List.mem_of_getElem? hs, by simpa using h⟩
theorem numsTake {us : List Hst} {k : Nat} {x : Hst} (hx : us[k]? = some x) : (numsOf us).take (k + 1) = (numsOf us).take k ++ [x.num] := by
  rw [List.take_add_one]
  simp [numsOf, hx]
theorem nums_fresh {us : List Hst} (hn : (numsOf us).Pairwise fun a b => a ≠ b) {k : Nat} {x : Hst} (hx : us[k]? = some x) {z : Int} (hz : z ∈ (numsOf us).take k) : z ≠ x.num := by
  obtain ⟨i, hi, rfl⟩ := List.getElem_of_mem hz
  simp at hi
  have hk : k < (numsOf us).length := by rw [numsOf_len]; exact (List.getElem?_eq_some_iff.1 hx).1
  have h1 := List.pairwise_iff_getElem.1 hn i k (by omega) hk (by omega)
  have h2 : (numsOf us)[k] = x.num := by
    have : (numsOf us)[k]? = some x.num := by simp [numsOf, hx]
    exact (List.getElem?_eq_some_iff.1 this).2
  rw [List.getElem_take]
  rw [h2] at h1
  exact h1
def pMap (B : Nat) (v : Value) (_ : World) : Prop := v = .map (some B)
/-- A row that holds an order. -/
def pOrd (B B0 : Nat) (N : Int) (v : Value) (w : World) : Prop := ∃ g cc, v = .slice (some ⟨g, 0, none⟩) 31 cc ∧ 31 ≤ cc ∧ B0 ≤ g ∧ Own 3 1 B w (some ⟨g, 0, none⟩) 31 cc (ordTo N 31)
theorem keptN_ord (B B0 : Nat) (N : Int) : KeptN (pOrd B B0 N) := fun _ _ _ hb ⟨g, cc, h1, h2, h3, h4⟩ => ⟨g, cc, h1, h2, h3, h4.new hb⟩
set_option maxRecDepth 100000 in
set_option maxHeartbeats 8000000 in
theorem slotTable_impl (A : Option Addr) (n c : Nat) (hs : List Hst) (w : World) (hn : hs.length = n) (hm : n ≤ 1048576) (h : Ints w A (flat hs)) :
    Calls Try.prog 44 #[.slice A n c] w (RetRow 3 1 w (stabZ hs).length (stabZ hs)) := by
  obtain ⟨i0, hi, iz0, iz1, iz2⟩ := info_parts int_info
  have hmm := @run_makeMap Try.prog
  have hml : n ≤ maxLen := by unfold maxLen; omega
  obtain ⟨us, hus⟩ : ∃ us, us = ups hs := ⟨_, rfl⟩
  obtain ⟨m, hm2⟩ : ∃ m, us.length = m := ⟨_, rfl⟩
  have hmn : m ≤ n := by rw [← hm2, hus, ← hn]; exact ups_len hs
  have UPC : Hid (∀ w, Ints w A (flat hs) → Calls Try.prog 62 #[.slice A n c] w (RetRow 64 3 w m (flat us))) := Lib.hid fun w h => by
    rw [← hm2, hus]; exact up_any A n c hs w hn hm h
  have HU := Lib.hid hus
  have HM := Lib.hid hm2
  have HN := Lib.hid hn
  have HH := Lib.hid h
  clear hus hm2 hn h
  cases hP : poolB hs
  · have HZ := Lib.hid (stabZ_no (hs := hs) (by simp [stabB, hP]))
    rw [HZ.out]
    go_enter Try.func44, Try.ntmps44
    go_wp2_with fail
    refine (UPC.out _ HH.out).mono ?_
    rintro e w1 ⟨A1, c1, rfl, nc1, cm1, o1, b1⟩
    go_wp2_with fail
    refine (poolValid_impl A n c hs _ HN.out hml (HH.out.new b1)).mono ?_
    rintro e w2 ⟨rfl, b2⟩
    rw [hP]
    go_wp2_with fail
    go_ret
    exact ⟨none, 0, rfl, Nat.le_refl _, Nat.zero_le _, World.ownsRow_nil _ _ _ _, b1.trans b2⟩
  by_cases hm0 : m = 0
  · have hu0 : (ups hs).length = 0 := by rw [← HU.out, HM.out]; exact hm0
    have HZ := Lib.hid (stabZ_no (hs := hs) (by simp [stabB, hu0]))
    clear hu0
    subst hm0
    rw [HZ.out]
    go_enter Try.func44, Try.ntmps44
    go_wp2_with fail
    refine (UPC.out _ HH.out).mono ?_
    rintro e w1 ⟨A1, c1, rfl, nc1, cm1, o1, b1⟩
    go_wp2_with fail
    refine (poolValid_impl A n c hs _ HN.out hml (HH.out.new b1)).mono ?_
    rintro e w2 ⟨rfl, b2⟩
    rw [hP]
    go_wp2_with fail
    go_ret
    exact ⟨none, 0, rfl, Nat.le_refl _, Nat.zero_le _, World.ownsRow_nil _ _ _ _, b1.trans b2⟩
  have hmp : 0 < m := by omega
  have hmb : ((m : Int) == 0) = false := by simp; omega
  have hZ := stabZ_yes (hs := hs) (by simp [stabB, hP, ← HU.out, HM.out]; exact hmp)
  rw [← HU.out] at hZ
  have HOK := Lib.hid (show ∀ x ∈ us, okN x.num from fun x hx => okN_of hP (by rw [← HU.out]; exact hx))
  have HWT := Lib.hid (show ∀ x ∈ us, 1 ≤ x.wt ∧ x.wt ≤ 5 from fun x hx => wt_bd hP x (ups_mem (by rw [← HU.out]; exact hx)))
  have HNE := Lib.hid (show (numsOf us).Pairwise fun a b => a ≠ b from by
    rw [HU.out]
    unfold numsOf
    rw [List.pairwise_map, List.pairwise_iff_getElem]
    intro i j hi hj hij
    have hsub : (ups hs).Sublist hs := List.filter_sublist
    have hpw : hs.Pairwise fun a b => a.num < b.num := by
      rw [List.pairwise_iff_getElem]
      intro i j hi hj hij
      obtain ⟨d, rfl⟩ : ∃ d, j = i + d + 1 := ⟨j - i - 1, by omega⟩
      exact pool_lt hP d (List.getElem?_eq_getElem hi) (List.getElem?_eq_getElem hj)
    have := List.pairwise_iff_getElem.1 (hpw.sublist hsub) i j hi hj hij
    omega)
  have HZL := Lib.hid (show (stabZ hs).length = 31 by rw [hZ, roundsS_len, start_len])
  have HZ := Lib.hid hZ
  have htot := totN_pos HWT.out (by rw [HM.out]; exact hmp)
  have hmle : m ≤ 6 := by rw [← HM.out, HU.out]; exact Nat.le_trans (ups_len hs) (pool_len hP)
  clear hZ
  go_enter Try.func44, Try.ntmps44
  go_wp2_with fail
  refine (UPC.out _ HH.out).mono ?_
  rintro e w1 ⟨A1, c1, rfl, nc1, cm1, o1, b1⟩
  go_wp2_with fail
  refine (poolValid_impl A n c hs _ HN.out hml (HH.out.new b1)).mono ?_
  rintro e w2 ⟨rfl, b2⟩
  rw [hP]
  have HB2 := Lib.hid (b1.trans b2)
  obtain ⟨GU, rfl⟩ : ∃ GU, A1 = some ⟨GU, 0, none⟩ := by
    rcases o1.2 with ⟨_, h0⟩ | ⟨g, _, _, hv, _⟩
    · omega
    · injection hv with h1
      exact ⟨g, h1⟩
  have hu2 := o1.new b2
  have hGU : GU < w2.heap.size := hu2.blkS.2
  clear o1 b1 b2
  go_wp2_with (at_make; refine wpList_make_full _ rfl _ _ 51 rfl w2.heap.size 3 i0 (.int .i64 0) 1 Try.underlying51 hi iz0 iz1 .i64 .i64 (31 : Int) (31 : Int) 31 rfl rfl rfl rfl (by rw [iz2]; omega) (by unfold maxLen; omega) (Nat.le_refl _) ?_; intro w3 hown hgrow)
  have hown3 : Own 3 1 w2.heap.size w3 (some ⟨w2.heap.size, 0, none⟩) 31 31 (tabOf start31) := by
    unfold Own
    rw [tabOf_start, ← zerosT_map]
    exact hown
  have hb3 : New w2 w3 := (New.refl w2).grown hgrow (by simp)
  have hG43 := hown3.blkS.2
  have t5 := blk_new (heap_alloc_new w3 (.cells #[.bool false, .bool false, .bool false, .bool false, .bool false, .bool false, .bool false, .bool false, .bool false, .bool false, .bool false, .bool false, .bool false, .bool false, .bool false, .bool false, .bool false, .bool false, .bool false, .bool false, .bool false, .bool false, .bool false, .bool false, .bool false, .bool false, .bool false, .bool false, .bool false, .bool false, .bool false] 97)) ((New.refl _).alloc (.map #[] 0))
  have hM0 := Mapped.made (w3.alloc (.cells #[.bool false, .bool false, .bool false, .bool false, .bool false, .bool false, .bool false, .bool false, .bool false, .bool false, .bool false, .bool false, .bool false, .bool false, .bool false, .bool false, .bool false, .bool false, .bool false, .bool false, .bool false, .bool false, .bool false, .bool false, .bool false, .bool false, .bool false, .bool false, .bool false, .bool false, .bool false] 97))
  have bM := ((New.refl w3).alloc (.cells #[.bool false, .bool false, .bool false, .bool false, .bool false, .bool false, .bool false, .bool false, .bool false, .bool false, .bool false, .bool false, .bool false, .bool false, .bool false, .bool false, .bool false, .bool false, .bool false, .bool false, .bool false, .bool false, .bool false, .bool false, .bool false, .bool false, .bool false, .bool false, .bool false, .bool false, .bool false] 97)).alloc (.map #[] 0)
  rw [World.size_alloc] at hM0
  have ht0 : TakenAt w3.heap.size ((w3.alloc (.cells #[.bool false, .bool false, .bool false, .bool false, .bool false, .bool false, .bool false, .bool false, .bool false, .bool false, .bool false, .bool false, .bool false, .bool false, .bool false, .bool false, .bool false, .bool false, .bool false, .bool false, .bool false, .bool false, .bool false, .bool false, .bool false, .bool false, .bool false, .bool false, .bool false, .bool false, .bool false] 97)).alloc (.map #[] 0)) start31 := ⟨_, t5, rfl, fun s hs => by
    rw [start_at hs]
    have e2 : (#[.bool false, .bool false, .bool false, .bool false, .bool false, .bool false, .bool false, .bool false, .bool false, .bool false, .bool false, .bool false, .bool false, .bool false, .bool false, .bool false, .bool false, .bool false, .bool false, .bool false, .bool false, .bool false, .bool false, .bool false, .bool false, .bool false, .bool false, .bool false, .bool false, .bool false, .bool false] : Array Value) = (List.replicate 31 (Value.bool false)).toArray := rfl
    rw [e2, List.getElem?_toArray, List.getElem?_replicate, if_pos hs]
    rfl⟩
  have hu4 := (hu2.less (Nat.le_refl w.heap.size)).new (hb3.trans bM)
  have htb4 := (hown3.new bM).less HB2.out.le
  have hn4 := HB2.out.trans (hb3.trans bM)
  have hw24 := HB2.out.le
  clear hown hgrow hown3 hb3 t5 bM hu2
  go_wp2_with fail
  generalize (w3.alloc (.cells #[.bool false, .bool false, .bool false, .bool false, .bool false, .bool false, .bool false, .bool false, .bool false, .bool false, .bool false, .bool false, .bool false, .bool false, .bool false, .bool false, .bool false, .bool false, .bool false, .bool false, .bool false, .bool false, .bool false, .bool false, .bool false, .bool false, .bool false, .bool false, .bool false, .bool false, .bool false] 97)).alloc (.map #[] 0) = w4 at *
  obtain ⟨BM, hBM⟩ : ∃ BM, w3.heap.size + 1 = BM := ⟨_, rfl⟩
  obtain ⟨G5, hG5⟩ : ∃ G5, w3.heap.size = G5 := ⟨_, rfl⟩
  obtain ⟨G4, hG4⟩ : ∃ G4, w2.heap.size = G4 := ⟨_, rfl⟩
  rw [hBM] at hM0 ⊢
  rw [hG5] at ht0 ⊢
  rw [hG4] at htb4 ⊢
  have h45 : G4 < G5 := by omega
  have h5M : G5 < BM := by omega
  have hU4 : GU < G4 := by omega
  have hw4 : w.heap.size ≤ G4 := by omega
  clear hBM hG5 hG4 hG43 hGU hw24
  go_loopw [27] (fun i wr => ∃ (k : Nat) (l : List (Int × Value)), k ≤ m ∧ i = .int .i64 k ∧ Mapped BM wr l ∧ l.length = k ∧ l.map Prod.fst = (numsOf us).take k ∧ (∀ (j : Nat) (x : Hst), j < k → us[j]? = some x → ∃ g cc, l[j]? = some (x.num, .slice (some ⟨g, 0, none⟩) 31 cc) ∧ 31 ≤ cc ∧ BM < g ∧ Own 3 1 BM wr (some ⟨g, 0, none⟩) 31 cc (ordTo x.num 31)) ∧ Own 64 3 w.heap.size wr (some ⟨GU, 0, none⟩) m c1 (flat us) ∧ Own 3 1 w.heap.size wr (some ⟨G4, 0, none⟩) 31 31 (tabOf start31) ∧ TakenAt G5 wr start31 ∧ New w wr) (fun i _ => m - (intOf i).toNat)
  case atStart => exact ⟨0, [], Nat.zero_le _, rfl, hM0, rfl, rfl, fun j x hj => absurd hj (Nat.not_lt_zero j), hu4, htb4, ht0, hn4⟩
  case round =>
    clear hM0 hu4 htb4 ht0 hn4
    obtain ⟨k, l, hk, rfl, hmp, hll, hlk, hor, hup, htb, htk, hnew⟩ := hrel
    by_cases hlt : k < m
    · have hki : (k : Int) < (m : Int) := by omega
      obtain ⟨b', o', x, hbo, hx, hb, c0, c1', c2⟩ := hosts_at hup.ints (k := k) (by rw [HM.out]; exact hlt)
      obtain ⟨rfl, rfl⟩ : GU = b' ∧ 0 = o' := by simpa using hbo
      rw [Nat.zero_add] at c0 c1' c2
      have hokx := HOK.out x (List.mem_of_getElem? hx)
      have HOZ := Lib.hid (show orderZ x.num = ordTo x.num 31 from orderZ_yes hokx)
      have HX := Lib.hid hx
      have HNK := Lib.hid (numsTake hx)
      have HKO := Lib.hid (show ∀ p ∈ l, okN p.1 from fun p hp => by
        have hm1 : p.1 ∈ l.map Prod.fst := List.mem_map.2 ⟨p, hp, rfl⟩
        rw [hlk] at hm1
        obtain ⟨y, hy, e⟩ := List.mem_map.1 (List.mem_of_mem_take hm1)
        rw [← e]
        exact HOK.out y hy)
      have HNO := Lib.hid (show ∀ p ∈ l, p.1 ≠ x.num from fun p hp => by
        have hm1 : p.1 ∈ l.map Prod.fst := List.mem_map.2 ⟨p, hp, rfl⟩
        rw [hlk] at hm1
        exact nums_fresh HNE.out hx hm1)
      clear hx hbo
      obtain ⟨x0, x1, x2⟩ := x
      simp only at c0 c1' c2 hokx HOZ HNK HNO
      have t9 := heap_alloc_new wr (.cells #[.int .i64 x0, .int .i64 x1, .int .i64 x2] 64)
      have b9 := (New.refl wr).alloc (.cells #[.int .i64 x0, .int .i64 x1, .int .i64 x2] 64)
      have HMP := Lib.hid (hmp.new b9)
      have HOR := Lib.hid (show ∀ (j : Nat) (x : Hst), j < k → us[j]? = some x → ∃ g cc, l[j]? = some (x.num, .slice (some ⟨g, 0, none⟩) 31 cc) ∧ 31 ≤ cc ∧ BM < g ∧ Own 3 1 BM (wr.alloc (.cells #[.int .i64 x0, .int .i64 x1, .int .i64 x2] 64)) (some ⟨g, 0, none⟩) 31 cc (ordTo x.num 31) from fun j x hj hx => by
        obtain ⟨g, cc, e1, e2, e3, e4⟩ := hor j x hj hx
        exact ⟨g, cc, e1, e2, e3, e4.new b9⟩)
      have hup5 := hup.new b9
      have htb5 := htb.new b9
      have htk5 := htk.new b9
      have hn5 := hnew.trans b9
      have hMl : BM < wr.heap.size := hmp.lt
      clear hmp hor hup htb htk hnew b9
      go_wp2_with fail
      clear c0 c1' c2
      generalize wr.alloc (.cells #[.int .i64 x0, .int .i64 x1, .int .i64 x2] 64) = w5 at *
      generalize wr.heap.size = g9 at *
      obtain ⟨C0, C1, C2⟩ := cellsH t9
      have hl9 := blk_lt t9
      have hrun' := hmm
      clear hrun'
      obtain ⟨FF, hFF⟩ : ∃ FF, FF = factAt [pVal (.map (some BM)), pVal (.pointer (some ⟨g9, 0, none⟩)), pVal (.int .i64 x0), pVal (.pointer (some ⟨g9, 0, none⟩)), pVal (.int .i64 x0), pOrd BM (BM + 1) x0] := ⟨_, rfl⟩
      have HFF := Lib.hid hFF
      clear hFF
      refine wp_region_tail 6 (by kernel_rfl) (by kernel_rfl) (by kernel_rfl) (by decide) (LrI w5) FF (New) (by rw [HFF.out]; exact factAt_keptN (by
          intro P hP
          simp only [List.mem_cons, List.not_mem_nil, or_false] at hP
          rcases hP with rfl | rfl | rfl | rfl | rfl | rfl
          · exact keptN_val _
          · exact keptN_val _
          · exact keptN_val _
          · exact keptN_val _
          · exact keptN_val _
          · exact keptN_ord _ _ _
          )) (New.drew (New.refl _)) ?_ ?_
      · refine ⟨?_, ?_, ?_, ?_, ?_, ?_, trivial⟩
        · -- 0
          intro vs kq wq hI hF
          clear hF
          have hI : New w5 wq := hI
          simp only [fillTo, dstOf, List.getElem?_toArray, List.getElem?_cons_zero, List.getElem?_cons_succ, Option.bind_some, Act.put, List.setIfInBounds_toArray, List.set_cons_zero, List.set_cons_succ]
          have hcq := New.cells hI; have hzq := New.le hI
          go_wp2_with fail
          exact ⟨_, rfl, hI, New.refl _, by rw [HFF.out]; exact rfl⟩
        · -- 1
          intro vs kq wq hI hF
          clear hF
          have hI : New w5 wq := hI
          simp only [fillTo, dstOf, List.getElem?_toArray, List.getElem?_cons_zero, List.getElem?_cons_succ, Option.bind_some, Act.put, List.setIfInBounds_toArray, List.set_cons_zero, List.set_cons_succ]
          have hcq := New.cells hI; have hzq := New.le hI
          go_wp2_with fail
          exact ⟨_, rfl, hI, New.refl _, by rw [HFF.out]; exact rfl⟩
        · -- 2
          intro vs kq wq hI hF
          have f1 : pVal (.pointer (some ⟨g9, 0, none⟩)) (vs 1) wq := (by have h := hF 1 (by rfl); rw [HFF.out] at h; exact h)
          unfold pVal at f1
          clear hF
          have hI : New w5 wq := hI
          simp only [fillTo, dstOf, List.getElem?_toArray, List.getElem?_cons_zero, List.getElem?_cons_succ, Option.bind_some, Act.put, List.setIfInBounds_toArray, List.set_cons_zero, List.set_cons_succ, f1]
          clear f1
          have hcq := New.cells hI; have hzq := New.le hI
          go_wp2_with fail
          exact ⟨_, rfl, hI, New.refl _, by rw [HFF.out]; exact rfl⟩
        · -- 3
          intro vs kq wq hI hF
          clear hF
          have hI : New w5 wq := hI
          simp only [fillTo, dstOf, List.getElem?_toArray, List.getElem?_cons_zero, List.getElem?_cons_succ, Option.bind_some, Act.put, List.setIfInBounds_toArray, List.set_cons_zero, List.set_cons_succ]
          have hcq := New.cells hI; have hzq := New.le hI
          go_wp2_with fail
          exact ⟨_, rfl, hI, New.refl _, by rw [HFF.out]; exact rfl⟩
        · -- 4
          intro vs kq wq hI hF
          have f3 : pVal (.pointer (some ⟨g9, 0, none⟩)) (vs 3) wq := (by have h := hF 3 (by rfl); rw [HFF.out] at h; exact h)
          unfold pVal at f3
          clear hF
          have hI : New w5 wq := hI
          simp only [fillTo, dstOf, List.getElem?_toArray, List.getElem?_cons_zero, List.getElem?_cons_succ, Option.bind_some, Act.put, List.setIfInBounds_toArray, List.set_cons_zero, List.set_cons_succ, f3]
          clear f3
          have hcq := New.cells hI; have hzq := New.le hI
          go_wp2_with fail
          exact ⟨_, rfl, hI, New.refl _, by rw [HFF.out]; exact rfl⟩
        · -- 5
          intro vs kq wq hI hF
          have f4 : pVal (.int .i64 x0) (vs 4) wq := (by have h := hF 4 (by rfl); rw [HFF.out] at h; exact h)
          unfold pVal at f4
          clear hF
          have hI : New w5 wq := hI
          simp only [fillTo, dstOf, List.getElem?_toArray, List.getElem?_cons_zero, List.getElem?_cons_succ, Option.bind_some, Act.put, List.setIfInBounds_toArray, List.set_cons_zero, List.set_cons_succ, f4]
          clear f4
          have hs5 := hI.le
          go_wp2_with fail
          refine (slotOrder_impl x0 _).mono ?_
          rintro e w' ⟨A6, cc, rfl, hcc, hccm, o6, b6⟩
          simp only [HOZ.out, ordTo_len] at hcc o6 ⊢
          obtain ⟨g, rfl⟩ : ∃ g, A6 = some ⟨g, 0, none⟩ := by
            rcases o6.2 with ⟨_, h0⟩ | ⟨g, _, _, hv, _⟩
            · omega
            · injection hv with h1
              exact ⟨g, h1⟩
          have hgb := o6.blkS.1
          go_wp2_with fail
          exact ⟨_, rfl, New.trans hI b6, b6, by rw [HFF.out]; exact ⟨g, cc, rfl, hcc, by omega, o6.less (by omega)⟩⟩
      · intro vs kq wq hI hF
        have f0 : pVal (.map (some BM)) (vs 0) wq := (by have h := hF 0 (by omega); rw [HFF.out] at h; exact h)
        unfold pVal at f0
        have f2 : pVal (.int .i64 x0) (vs 2) wq := (by have h := hF 2 (by omega); rw [HFF.out] at h; exact h)
        unfold pVal at f2
        have f5 : pOrd BM (BM + 1) x0 (vs 5) wq := (by have h := hF 5 (by omega); rw [HFF.out] at h; exact h)
        clear hF HFF FF
        have hI : New w5 wq := hI
        obtain ⟨g, cc, e5, hcc, hgB, o5⟩ := f5
        obtain ⟨w9, hrun, hmp9, g9b⟩ := (HMP.out.new hI).push HKO.out hokx HNO.out (.slice (some ⟨g, 0, none⟩) 31 cc)
        have HM9 := Lib.hid hmp9
        have hor9 : ∀ (j : Nat) (x : Hst), j < k + 1 → us[j]? = some x → ∃ g2 cc2, (l ++ [(x0, Value.slice (some ⟨g, 0, none⟩) 31 cc)])[j]? = some (x.num, .slice (some ⟨g2, 0, none⟩) 31 cc2) ∧ 31 ≤ cc2 ∧ BM < g2 ∧ Own 3 1 BM w9 (some ⟨g2, 0, none⟩) 31 cc2 (ordTo x.num 31) := fun j x hj hx => by
          rcases Nat.lt_or_ge j k with hjk | hjk
          · obtain ⟨g1, cc1, e1, e2, e3, e4⟩ := HOR.out j x hjk hx
            exact ⟨g1, cc1, by rw [List.getElem?_append_left (by omega)]; exact e1, e2, e3, (e4.new hI).gbNe g9b (by omega)⟩
          · obtain rfl : j = k := by omega
            obtain rfl := Option.some.inj (HX.out.symm.trans hx)
            exact ⟨g, cc, by rw [List.getElem?_append_right (by omega), hll]; simp, hcc, by omega, o5.gbNe g9b (by omega)⟩
        have hup9 := (hup5.new hI).gbNe g9b (by omega)
        have htb9 := (htb5.new hI).gbNe g9b (by omega)
        have htk9 := (htk5.new hI).gb g9b (by omega)
        have hn9 : New w w9 := (hn5.trans hI).grown g9b (fun q hq => by cases hq; omega)
        have hlf : (l ++ [(x0, Value.slice (some ⟨g, 0, none⟩) 31 cc)]).map Prod.fst = (numsOf us).take (k + 1) := by rw [List.map_append, hlk, HNK.out]; rfl
        have hll9 : (l ++ [(x0, Value.slice (some ⟨g, 0, none⟩) 31 cc)]).length = k + 1 := by simp [hll]
        clear hmp9 g9b hup5 htb5 htk5 hn5 t9 C0 C1 C2 o5
        simp only [fillTo, dstOf, List.getElem?_toArray, List.getElem?_cons_zero, List.getElem?_cons_succ, Option.bind_some, Act.put, List.setIfInBounds_toArray, List.set_cons_zero, List.set_cons_succ, f0, f2, e5, List.drop_succ_cons, List.drop_zero, List.drop_nil]
        clear f0 f2 e5
        go_wp2_with fail
        go_roundw
        case rel => exact ⟨k + 1, _, by omega, by go_num, HM9.out, hll9, hlf, hor9, hup9, htb9, htk9, hn9⟩
        case measure => simp [intOf]; omega
    · obtain rfl : m = k := by omega
      have hst0 : SlotSt w G4 G5 BM wr us start31 wr := by
        refine ⟨htb, htk, ⟨l, hmp, ?_, fun j x hx => ?_⟩, Off.refl _, hnew⟩
        · rw [hlk, List.take_of_length_le (by rw [numsOf_len, HM.out]; exact Nat.le_refl _)]
        · obtain ⟨g, cc, e1, e2, e3, e4⟩ := hor j x (by rw [← HM.out]; exact (List.getElem?_eq_some_iff.1 hx).1) hx
          exact ⟨g, cc, 0, 0, e1, Nat.zero_le _, e2, fun _ => rfl, fun i hi => absurd hi (Nat.not_lt_zero i), e4.blkS.2, by omega, by omega, by omega, fun i hi => e4.cellS hi (ordTo_at hi)⟩
      have hGUl := hup.blkS.2
      have HUP := Lib.hid hup.ints
      have hM1 := hmp.lt
      clear hmp hlk hor hup htb htk hnew hll
      go_wp2_with fail
      generalize wr = W1 at *
      go_loopw [6] (fun l wr => ∃ (r L : Nat), l = .int .i64 L ∧ r + L ≤ 31 ∧ Hid (L = negs (roundsS us r start31)) ∧ SlotSt w G4 G5 BM W1 us (roundsS us r start31) wr) (fun l _ => (intOf l).toNat)
      case atStart => exact ⟨0, 31, rfl, by omega, Lib.hid start_negs.symm, hst0⟩
      case round =>
        clear hst0
        obtain ⟨r, L, rfl, hrL, HL, hst⟩ := hrel
        obtain ⟨O0, hO0⟩ : ∃ O0, roundsS us r start31 = O0 := ⟨_, rfl⟩
        rw [hO0] at HL hst
        have hO0l : O0.length = 31 := by rw [← hO0, roundsS_len, start_len]
        have HO0 := Lib.hid hO0
        clear hO0
        by_cases hL0 : 0 < L
        · have hL0i : (0 : Int) < (L : Int) := by omega
          go_wp2_with fail
          go_loopw [6, 42] (fun l i wr => ∃ (k L : Nat), k ≤ m ∧ i = .int .i64 k ∧ l = .int .i64 L ∧ Hid (L = negs (roundS (us.take k) O0)) ∧ SlotSt w G4 G5 BM W1 us (roundS (us.take k) O0) wr) (fun _ i _ => m - (intOf i).toNat)
          case atStart => exact ⟨0, L, Nat.zero_le _, rfl, rfl, HL, hst⟩
          case round =>
            clear hst
            obtain ⟨k, L2, hk, rfl, rfl, HL2, hst⟩ := hrel
            by_cases hlt : k < m
            · have hki : (k : Int) < (m : Int) := by omega
              obtain ⟨b', o', x, hbo, hx, hb, c0', c1', c2'⟩ := hosts_at (HUP.out) (k := k) (by rw [HM.out]; exact hlt)
              obtain ⟨rfl, rfl⟩ : GU = b' ∧ 0 = o' := by simpa using hbo
              rw [Nat.zero_add] at c0' c1' c2'
              have hxw := HWT.out x (List.mem_of_getElem? hx)
              have hokx := HOK.out x (List.mem_of_getElem? hx)
              have HRT := Lib.hid (roundS_take hx O0)
              have HX := Lib.hid hx
              clear hx hbo
              obtain ⟨x0, x1, x2⟩ := x
              simp only at c0' c1' c2' hxw hokx HRT HX
              have hx00 := okN_nonneg hokx
              obtain ⟨y0, y1⟩ := hxw
              obtain ⟨W, rfl⟩ := Int.eq_ofNat_of_zero_le (show 0 ≤ x1 by omega)
              have hW : W ≤ 5 := by omega
              rw [Int.toNat_natCast] at HRT
              obtain ⟨O1, hO1⟩ : ∃ O1, roundS (us.take k) O0 = O1 := ⟨_, rfl⟩
              rw [hO1] at HL2 hst HRT
              have hO1l : O1.length = 31 := by rw [← hO1, roundS_len, hO0l]
              have HO1 := Lib.hid hO1
              clear hO1
              have hoffr := hst.2.2.2.1
              have hGr : GU < wr.heap.size := Nat.lt_of_lt_of_le hGUl hoffr.1
              have d0 := (hoffr.cell hGUl (by omega) (by omega) (by omega) (k * 3)).trans c0'
              have d1 := (hoffr.cell hGUl (by omega) (by omega) (by omega) (k * 3 + 1)).trans c1'
              have d2 := (hoffr.cell hGUl (by omega) (by omega) (by omega) (k * 3 + 2)).trans c2'
              have b11 := (New.refl wr).alloc (.cells #[.int .i64 x0, .int .i64 (W : Int), .int .i64 x2] 64)
              have t11 := heap_alloc_new wr (.cells #[.int .i64 x0, .int .i64 (W : Int), .int .i64 x2] 64)
              have hst1 := hst.new b11
              have hg11 : W1.heap.size ≤ wr.heap.size := hoffr.1
              clear hst b11 hoffr
              go_wp2_with fail
              clear d0 d1 d2
              generalize wr.alloc (.cells #[.int .i64 x0, .int .i64 (W : Int), .int .i64 x2] 64) = w6 at *
              generalize wr.heap.size = g11 at *
              obtain ⟨C0, C1, C2⟩ := cellsH t11
              have hl11 := blk_lt t11
              go_wp2_with fail
              clear C0 C1 C2 hl11 hGr
              go_loopw [6, 48] (fun l i wr => ∃ (t L : Nat), t ≤ W ∧ i = .int .i64 t ∧ l = .int .i64 L ∧ Hid (L = negs (takesS x0 t O1)) ∧ SlotSt w G4 G5 BM W1 us (takesS x0 t O1) wr ∧ wr.heap[g11]? = some (.cells #[.int .i64 x0, .int .i64 (W : Int), .int .i64 x2] 64 (0, 0))) (fun _ i _ => W - (intOf i).toNat)
              case atStart => exact ⟨0, L2, Nat.zero_le _, rfl, rfl, HL2, hst1, t11⟩
              case round =>
                clear hst1 t11 HL2
                obtain ⟨t, L, ht, rfl, rfl, HL, hst, h11⟩ := hrel
                obtain ⟨O2, hO2⟩ : ∃ O2, takesS x0 t O1 = O2 := ⟨_, rfl⟩
                rw [hO2] at HL hst
                have hO2l : O2.length = 31 := by rw [← hO2, takesS_len, hO1l]
                have HO2 := Lib.hid hO2
                clear hO2
                have hLb : L ≤ 31 := by rw [HL.out, ← hO2l]; exact List.countP_le_length
                have hLbi : (L : Int) ≤ 31 := by omega
                by_cases htW : t < W
                · have htWi : (t : Int) < (W : Int) := by omega
                  obtain ⟨htb, htk, ⟨l, hmp, hOL⟩, hoff, hnw⟩ := hst
                  have HOL := Lib.hid hOL
                  obtain ⟨g, cc, p0, off0, hlj, hp031, hcc, hoff0, hTk0, hgl, hg4, hg5, hgM, hgc⟩ := hOL.2 k _ HX.out
                  have hlook := hmp.look (hOL.keys HOK.out) (hOL.apart HNE.out) hlj
                  obtain ⟨C0, C1, C2⟩ := cellsH h11
                  have hl11 := blk_lt h11
                  simp only at hTk0 hgc
                  clear hOL
                  go_wp2_with fail
                  clear hlook
                  go_loop [12] (fun v => ∃ (p off ln cp : Nat), v = .slice (some ⟨g, off, none⟩) ln cp ∧ ln + p = 31 ∧ cp + p = cc ∧ (0 < ln → off = p) ∧ Taken x0 p O2) (fun v => lenOf v)
                  case atStart => exact ⟨p0, off0, 31 - p0, cc - p0, rfl, by omega, by omega, fun h => hoff0 (by omega), hTk0⟩
                  case round =>
                    obtain ⟨p, off, ln, cp, rfl, hlp, hcp, hoffp, hTk⟩ := hrel
                    by_cases hln : 0 < ln
                    · obtain rfl := hoffp hln
                      have hlni : (0 : Int) < (ln : Int) := by omega
                      obtain ⟨s, hs⟩ : ∃ s, ordN x0 off = s := ⟨_, rfl⟩
                      have hs31 : s < 31 := by rw [← hs]; exact ordN_lt x0 off
                      have hsi : (s : Int) < 31 := by omega
                      have dg : wr.cell? ⟨g, off, none⟩ = some (.int .i64 (s : Int)) := by rw [← hs]; exact (hoff.cell hgl hg4 hg5 hgM off).trans (hgc off (by omega))
                      have lg : g < wr.heap.size := Nat.lt_of_lt_of_le hgl hoff.1
                      have l5 := htk.lt
                      by_cases hz : 0 ≤ O2.getD s 0
                      · have q5 := htk.cell hs31 (bb := true) (by simpa using hz)
                        have hTk2 := Lib.hid (Taken.succ hTk (by rw [hs]; exact hz))
                        by_cases hc1 : cp = 1
                        · subst hc1
                          go_wp2_with fail
                          go_round
                          case rel => exact ⟨off + 1, off, ln - 1, 0, by simp, by omega, by omega, fun h => by omega, hTk2.out⟩
                          case measure => simp [lenOf]; omega
                        · go_wp2_with fail
                          go_round
                          case rel => exact ⟨off + 1, off + 1, ln - 1, cp - 1, by simp [hc1], by omega, by omega, fun _ => rfl, hTk2.out⟩
                          case measure => simp [lenOf]; omega
                      · have q5 := htk.cell hs31 (bb := false) (by simpa using hz)
                        obtain ⟨p, rfl⟩ : ∃ p, off = p := ⟨_, rfl⟩
                        have hTKS := takeS_some (N := x0) (out := O2) (j := off) (by omega) (by rw [hs]; omega) hTk
                        rw [hs] at hTKS
                        have HTK := Lib.hid (show takesS x0 (t + 1) O1 = O2.set s x0 by rw [takesS, HO2.out, hTKS])
                        have hnp := negs_pos (out := O2) (s := s) (by omega)
                        have HNG := Lib.hid (Lib.hid (show L - 1 = negs (takesS x0 (t + 1) O1) by have := (takeS_step hokx hO2l hnp).1; have := HL.out; rw [takesS, HO2.out]; omega))
                        have hL1 : 1 ≤ L := by have := HL.out; omega
                        have hp31 : off ≤ 31 := by omega
                        obtain ⟨zt, hzt⟩ : ∃ zt, (tabOf O2).getD s 0 = zt := ⟨_, rfl⟩
                        have q4 := htb.cellS hs31 hzt
                        have l4 := htb.blkS.2
                        have l11 := hl11
                        have d11 := C0
                        have h54 : G5 ≠ G4 := by omega
                        have n114 : g11 ≠ G4 := by omega
                        have n115 : g11 ≠ G5 := by omega
                        have n11M : g11 ≠ BM := by omega
                        have nM4 : BM ≠ G4 := by omega
                        have nM5 : BM ≠ G5 := by omega
                        have n4M : G4 ≠ BM := by omega
                        have n5M : G5 ≠ BM := by omega
                        have hw5 : w.heap.size ≤ G5 := by omega
                        have hwM : w.heap.size ≤ BM := by omega
                        clear hTKS hnp hzt C1 C2
                        go_wp2_with fail
                        clear C0
                        generalize off = p at *
                        obtain ⟨FF, hFF⟩ : ∃ FF, FF = factAt [pVal (.slice (some ⟨G4, 0, none⟩) 31 31), pVal (.slice (some ⟨g, p, none⟩) ln cp), pVal (.pointer (some ⟨g, p, none⟩)), pVal (.int .i64 (s : Int)), pVal (.pointer (some ⟨g11, 0, none⟩)), pVal (.int .i64 x0), pVal (.pointer (some ⟨G4, s, none⟩))] := ⟨_, rfl⟩
                        have HFF := Lib.hid hFF
                        clear hFF
                        refine wp_region_tail 7 (by kernel_rfl) (by kernel_rfl) (by kernel_rfl) (by decide) (LrI wr) FF (New) (by rw [HFF.out]; exact factAt_keptN (by
                            intro P hP
                            simp only [List.mem_cons, List.not_mem_nil, or_false] at hP
                            rcases hP with rfl | rfl | rfl | rfl | rfl | rfl | rfl
                            · exact keptN_val _
                            · exact keptN_val _
                            · exact keptN_val _
                            · exact keptN_val _
                            · exact keptN_val _
                            · exact keptN_val _
                            · exact keptN_val _
                            )) (New.drew (New.refl _)) ?_ ?_
                        · refine ⟨?_, ?_, ?_, ?_, ?_, ?_, ?_, trivial⟩
                          · -- 0
                            intro vs kq wq hI hF
                            clear hF
                            have hI : New wr wq := hI
                            simp only [fillTo, dstOf, List.getElem?_toArray, List.getElem?_cons_zero, List.getElem?_cons_succ, Option.bind_some, Act.put, List.setIfInBounds_toArray, List.set_cons_zero, List.set_cons_succ]
                            have hcq := New.cells hI; have hzq := New.le hI
                            go_wp2_with fail
                            exact ⟨_, rfl, hI, New.refl _, by rw [HFF.out]; exact rfl⟩
                          · -- 1
                            intro vs kq wq hI hF
                            clear hF
                            have hI : New wr wq := hI
                            simp only [fillTo, dstOf, List.getElem?_toArray, List.getElem?_cons_zero, List.getElem?_cons_succ, Option.bind_some, Act.put, List.setIfInBounds_toArray, List.set_cons_zero, List.set_cons_succ]
                            have hcq := New.cells hI; have hzq := New.le hI
                            go_wp2_with fail
                            exact ⟨_, rfl, hI, New.refl _, by rw [HFF.out]; exact rfl⟩
                          · -- 2
                            intro vs kq wq hI hF
                            have f1 : pVal (.slice (some ⟨g, p, none⟩) ln cp) (vs 1) wq := (by have h := hF 1 (by rfl); rw [HFF.out] at h; exact h)
                            unfold pVal at f1
                            clear hF
                            have hI : New wr wq := hI
                            simp only [fillTo, dstOf, List.getElem?_toArray, List.getElem?_cons_zero, List.getElem?_cons_succ, Option.bind_some, Act.put, List.setIfInBounds_toArray, List.set_cons_zero, List.set_cons_succ, f1]
                            clear f1
                            have hcq := New.cells hI; have hzq := New.le hI
                            go_wp2_with fail
                            exact ⟨_, rfl, hI, New.refl _, by rw [HFF.out]; exact rfl⟩
                          · -- 3
                            intro vs kq wq hI hF
                            have f2 : pVal (.pointer (some ⟨g, p, none⟩)) (vs 2) wq := (by have h := hF 2 (by rfl); rw [HFF.out] at h; exact h)
                            unfold pVal at f2
                            clear hF
                            have hI : New wr wq := hI
                            simp only [fillTo, dstOf, List.getElem?_toArray, List.getElem?_cons_zero, List.getElem?_cons_succ, Option.bind_some, Act.put, List.setIfInBounds_toArray, List.set_cons_zero, List.set_cons_succ, f2]
                            clear f2
                            have hcq := New.cells hI; have hzq := New.le hI
                            go_wp2_with fail
                            exact ⟨_, rfl, hI, New.refl _, by rw [HFF.out]; exact rfl⟩
                          · -- 4
                            intro vs kq wq hI hF
                            clear hF
                            have hI : New wr wq := hI
                            simp only [fillTo, dstOf, List.getElem?_toArray, List.getElem?_cons_zero, List.getElem?_cons_succ, Option.bind_some, Act.put, List.setIfInBounds_toArray, List.set_cons_zero, List.set_cons_succ]
                            have hcq := New.cells hI; have hzq := New.le hI
                            go_wp2_with fail
                            exact ⟨_, rfl, hI, New.refl _, by rw [HFF.out]; exact rfl⟩
                          · -- 5
                            intro vs kq wq hI hF
                            have f4 : pVal (.pointer (some ⟨g11, 0, none⟩)) (vs 4) wq := (by have h := hF 4 (by rfl); rw [HFF.out] at h; exact h)
                            unfold pVal at f4
                            clear hF
                            have hI : New wr wq := hI
                            simp only [fillTo, dstOf, List.getElem?_toArray, List.getElem?_cons_zero, List.getElem?_cons_succ, Option.bind_some, Act.put, List.setIfInBounds_toArray, List.set_cons_zero, List.set_cons_succ, f4]
                            clear f4
                            have hcq := New.cells hI; have hzq := New.le hI
                            go_wp2_with fail
                            exact ⟨_, rfl, hI, New.refl _, by rw [HFF.out]; exact rfl⟩
                          · -- 6
                            intro vs kq wq hI hF
                            have f0 : pVal (.slice (some ⟨G4, 0, none⟩) 31 31) (vs 0) wq := (by have h := hF 0 (by rfl); rw [HFF.out] at h; exact h)
                            unfold pVal at f0
                            have f3 : pVal (.int .i64 (s : Int)) (vs 3) wq := (by have h := hF 3 (by rfl); rw [HFF.out] at h; exact h)
                            unfold pVal at f3
                            clear hF
                            have hI : New wr wq := hI
                            simp only [fillTo, dstOf, List.getElem?_toArray, List.getElem?_cons_zero, List.getElem?_cons_succ, Option.bind_some, Act.put, List.setIfInBounds_toArray, List.set_cons_zero, List.set_cons_succ, f0, f3]
                            clear f0 f3
                            have hcq := New.cells hI; have hzq := New.le hI
                            go_wp2_with fail
                            exact ⟨_, rfl, hI, New.refl _, by rw [HFF.out]; exact rfl⟩
                        · intro vs kq wq hI hF
                          have f5 : pVal (.int .i64 x0) (vs 5) wq := (by have h := hF 5 (by omega); rw [HFF.out] at h; exact h)
                          unfold pVal at f5
                          have f6 : pVal (.pointer (some ⟨G4, s, none⟩)) (vs 6) wq := (by have h := hF 6 (by omega); rw [HFF.out] at h; exact h)
                          unfold pVal at f6
                          clear hF HFF FF
                          have hI : New wr wq := hI
                          have e4 : wq.cell? ⟨G4, s, none⟩ = some (.int .i64 zt) := (Below.cell hI (p := ⟨G4, s, none⟩) l4).trans q4
                          have z4 := (htb.new hI).frz s
                          have htb9 := ((htb.new hI).set_ s x0).setNe h54 s (.bool true)
                          have htk9 := ((htk.new hI).other h54 s (.int .i64 x0)).set (s := s) hO2l hx00
                          have e5 : wq.cell? ⟨G5, s, none⟩ = some (.bool false) := (Below.cell hI (p := ⟨G5, s, none⟩) l5).trans q5
                          have z5 := (htk.new hI).frz s
                          have dgq : wq.cell? ⟨g, p, none⟩ = some (.int .i64 (s : Int)) := (Below.cell hI (p := ⟨g, p, none⟩) lg).trans dg
                          have d11q := (Below.cell hI (p := ⟨g11, 0, none⟩) l11).trans d11
                          have h11q := blk_set (blk_set (blk_new h11 hI) (a := ⟨G4, s, none⟩) n114 (.int .i64 x0)) (a := ⟨G5, s, none⟩) n115 (.bool true)
                          have hmp9 := ((hmp.new hI).set (p := ⟨G4, s, none⟩) nM4 (.int .i64 x0)).set (p := ⟨G5, s, none⟩) nM5 (.bool true)
                          have hoff9 := ((hoff.new hI).set (p := ⟨G4, s, none⟩) (.inl rfl) (.int .i64 x0)).set (p := ⟨G5, s, none⟩) (.inr (.inl rfl)) (.bool true)
                          have hnw9 := ((hnw.trans hI).setCell (p := ⟨G4, s, none⟩) hw4 (.int .i64 x0)).setCell (p := ⟨G5, s, none⟩) hw5 (.bool true)
                          obtain ⟨w9, hrun, hmpF, g9b⟩ := hmp9.put (HOL.out.keys HOK.out) (HOL.out.apart HNE.out) hlj (.slice (some ⟨g, p, none⟩) ln cp)
                          have hOLF := (HOL.out.out s hx00).cut HX.out (p := p) (off := p) (cc := cc) (g := g) hp31 hcc (fun _ => rfl) (hTk.set hx00) hgl hg4 hg5 hgM hgc
                          rw [show 31 - p = ln by omega, show cc - p = cp by omega] at hOLF
                          have ho2 := (htb9.gbNe g9b n4M)
                          rw [← tabOf_set s hx00] at ho2
                          have hSt9 : SlotSt w G4 G5 BM W1 us (O2.set s x0) w9 := ⟨ho2, htk9.gb g9b n5M, ⟨_, hmpF, hOLF⟩, hoff9.gb g9b, hnw9.grown g9b (fun q hq => by cases hq; exact hwM)⟩
                          have h119 := blk_gb h11q g9b n11M
                          have HS9 := Lib.hid hSt9
                          clear hmp9 htb9 htk9 hoff9 hnw9 hmpF g9b hOLF ho2 hSt9 h11q hmp htb htk hoff hnw h11 hI q4 q5 dg d11
                          simp only [fillTo, dstOf, List.getElem?_toArray, List.getElem?_cons_zero, List.getElem?_cons_succ, Option.bind_some, Act.put, List.setIfInBounds_toArray, List.set_cons_zero, List.set_cons_succ, f5, f6, List.drop_succ_cons, List.drop_zero, List.drop_nil]
                          clear f5 f6
                          go_wp2_with fail
                          go_roundw
                          case rel => exact ⟨t + 1, L - 1, by omega, by go_num, by go_num, HNG.out, by rw [HTK.out]; exact HS9.out, h119⟩
                          case measure => simp [intOf]; omega
                    · obtain rfl : ln = 0 := by omega
                      have hneg0 : negs O2 = 0 := by
                        rcases Nat.eq_zero_or_pos (negs O2) with h | h
                        · exact h
                        · obtain ⟨j, hj, hjz, _⟩ := free_ex hokx hO2l h
                          have := hTk j (by omega)
                          omega
                      have HTK := Lib.hid (show takesS x0 (t + 1) O1 = O2 by rw [takesS, HO2.out, takeS_full hneg0])
                      obtain ⟨w9, hrun, hmpF, g9b⟩ := hmp.put (HOL.out.keys HOK.out) (HOL.out.apart HNE.out) hlj (.slice (some ⟨g, off, none⟩) 0 cp)
                      have hOLF := HOL.out.cut HX.out (p := p) (off := off) (cc := cc) (g := g) (by omega) hcc (fun h => by omega) hTk hgl hg4 hg5 hgM hgc
                      rw [show 31 - p = 0 by omega, show cc - p = cp by omega] at hOLF
                      have hSt9 : SlotSt w G4 G5 BM W1 us O2 w9 := ⟨htb.gbNe g9b (by omega), htk.gb g9b (by omega), ⟨_, hmpF, hOLF⟩, hoff.gb g9b, hnw.grown g9b (fun q hq => by cases hq; omega)⟩
                      have h119 := blk_gb h11 g9b (by omega)
                      have HS9 := Lib.hid hSt9
                      clear hmpF hOLF hSt9 g9b hmp htb htk hoff hnw
                      go_wp2_with fail
                      go_roundw
                      case rel => exact ⟨t + 1, L, by omega, by go_num, rfl, by rw [HTK.out]; exact HL, by rw [HTK.out]; exact HS9.out, h119⟩
                      case measure => simp [intOf]; omega
                · obtain rfl : t = W := by omega
                  have HRT2 := Lib.hid (HRT.out.trans HO2.out)
                  go_wp2_with fail
                  go_roundw
                  case rel => exact ⟨k + 1, L, by omega, by go_num, rfl, by rw [HRT2.out]; exact HL, by rw [HRT2.out]; exact hst⟩
                  case measure => simp [intOf]; omega
            · obtain rfl : k = m := by omega
              have htk : us.take k = us := List.take_of_length_le (Nat.le_of_eq HM.out)
              have HRR : Hid (roundS (us.take k) O0 = roundsS us (r + 1) start31) := Lib.hid (by rw [htk, roundsS, HO0.out])
              have hstp := (roundS_step us O0 HOK.out hO0l).1
              have hL2 : L2 = L - totN us := by rw [HL2.out, htk, hstp, ← HL.out]
              clear htk
              go_wp2_with fail
              go_roundw
              case rel => exact ⟨r + 1, L2, rfl, by omega, by rw [← HRR.out]; exact HL2, by rw [← HRR.out]; exact hst⟩
              case measure => simp [intOf]; omega
        · obtain rfl : L = 0 := by omega
          have hstop := roundsS_stop (us := us) (out := start31) (r := r) (by omega) (by rw [HO0.out]; exact HL.out.symm)
          rw [HO0.out] at hstop
          have HZ9 : Hid (stabZ hs = O0) := Lib.hid (by rw [HZ.out]; exact hstop)
          have hfull := tabOf_full HL.out.symm
          have ho9 := hst.1
          rw [hfull] at ho9
          have hn9 := hst.2.2.2.2
          clear hst
          go_wp2_with fail
          go_ret
          rw [HZL.out, HZ9.out]
          exact ⟨_, 31, rfl, Nat.le_refl _, by unfold maxLen; omega, ho9, hn9⟩
end Go.Proofs.Ytbnehcaallehbaa
