/- The points of a ring: what they are, that they come sorted; spec.RingOf. -/
import Derived.Test.YtbnehcaallehbaaPoint
import Derived.Test.YtbnehcaallehbaaMix
import Derived.Test.YtbnehcaallehbaaTot
import Derived.Test.YtbnehcaallehbaaRowT
import Derived.Test.YtbnehcaallehbaaDrawTab
import Derived.Test.YtbnehcaallehbaaQb
namespace Go.Proofs.Ytbnehcaallehbaa
set_option linter.unusedVariables false
set_option linter.unusedSimpArgs false
open Go.RowKit Go.Sort

/-- a comes behind b. -/
def gtP (a b : Pnt) : Bool := decide (b.at_ < a.at_ ∨ (a.at_ = b.at_ ∧ b.to < a.to))
def SortedP (l : List Pnt) : Prop := l.Pairwise fun a b => gtP a b = false
def ptsH (num : Int) (t : Nat) : List Pnt := (List.range t).map fun (t : Nat) => ⟨mixZ [num, (t : Int)], num⟩
def ptsOf (us : List Hst) : List Pnt := us.flatMap fun h => ptsH h.num (3 * h.wt.toNat)
def ringP (hs : List Hst) : List Pnt := if poolB hs = true then (ptsOf (ups hs)).mergeSort fun a b => !gtP a b else []
theorem ringP_no {hs : List Hst} (h : poolB hs = false) : ringP hs = [] := by simp [ringP, h]
theorem ptsH_succ (num : Int) (t : Nat) : ptsH num (t + 1) = ptsH num t ++ [⟨mixZ [num, (t : Int)], num⟩] := by simp [ptsH, List.range_succ]
theorem ptsOf_append (us : List Hst) (x0 : Int) (W : Nat) : ptsOf (us ++ if ((1 : Int) == 1) = true then [⟨x0, (W : Int), 1⟩] else []) = ptsOf us ++ ptsH x0 (3 * W) := by simp [ptsOf]
theorem gtP_trans {a b c : Pnt} (h1 : gtP a b = false) (h2 : gtP b c = false) : gtP a c = false := by
  simp only [gtP, decide_eq_false_iff_not] at *
  omega
theorem gtP_asymm {a b : Pnt} (h : gtP a b = true) : gtP b a = false := by
  simp only [gtP, decide_eq_true_eq, decide_eq_false_iff_not] at *
  omega
theorem gtP_anti {a b : Pnt} (h1 : gtP a b = false) (h2 : gtP b a = false) : a = b := by
  obtain ⟨a1, a2⟩ := a
  obtain ⟨b1, b2⟩ := b
  simp only [gtP, decide_eq_false_iff_not] at h1 h2
  obtain rfl : a1 = b1 := by omega
  obtain rfl : a2 = b2 := by omega
  rfl
theorem gtP_total (a b : Pnt) : ((!gtP a b) || !gtP b a) = true := by
  cases h : gtP a b
  · rfl
  · simp [gtP_asymm h]
theorem sorted_eq {l l' : List Pnt} (h : SortedP l) (h' : SortedP l') (hp : l.Perm l') : l = l' :=
  List.Perm.eq_of_pairwise (le := fun a b => gtP a b = false) (fun a b _ _ h1 h2 => gtP_anti h1 h2) h h' hp
theorem ringP_sorted (hs : List Hst) : SortedP (ringP hs) := by
  unfold ringP
  split
  · have := List.pairwise_mergeSort (le := fun a b : Pnt => !gtP a b) (fun a b c h1 h2 => by
      simp only [Bool.not_eq_true'] at *
      exact gtP_trans h1 h2) gtP_total (ptsOf (ups hs))
    exact this.imp (fun h => by simpa using h)
  · exact List.Pairwise.nil
theorem ringP_perm {hs : List Hst} (h : poolB hs = true) : (ringP hs).Perm (ptsOf (ups hs)) := by
  unfold ringP
  rw [if_pos h]
  exact List.mergeSort_perm _ _
theorem ring_unique {hs : List Hst} (h : poolB hs = true) {out : List Pnt} (h1 : SortedP out) (h2 : out.Perm (ptsOf (ups hs))) : out = ringP hs :=
  sorted_eq h1 (ringP_sorted hs) (h2.trans (ringP_perm h).symm)
theorem ins_perm (out : List Pnt) (x : Pnt) (a : Nat) : (out.take a ++ x :: out.drop a).Perm (out ++ [x]) := by
  have h1 : (out.take a ++ x :: out.drop a).Perm (x :: (out.take a ++ out.drop a)) := List.perm_middle
  rw [List.take_append_drop] at h1
  exact h1.trans (List.perm_append_singleton x out).symm
theorem ins_sorted {out : List Pnt} {x : Pnt} {a : Nat} (h : SortedP out) (ha : a ≤ out.length) (h1 : ∀ j y, a ≤ j → out[j]? = some y → gtP y x = true) (h2 : a = 0 ∨ ∃ y, out[a - 1]? = some y ∧ gtP y x = false) : SortedP (out.take a ++ x :: out.drop a) := by
  have hget := List.pairwise_iff_getElem.1 h
  have hlow : ∀ p ∈ out.take a, gtP p x = false := by
    intro p hp
    obtain ⟨i, hi, rfl⟩ := List.getElem_of_mem hp
    simp at hi
    rw [List.getElem_take]
    rcases h2 with rfl | ⟨y, hy, hyx⟩
    · omega
    · obtain ⟨hl, rfl⟩ := List.getElem?_eq_some_iff.1 hy
      rcases Nat.lt_or_ge i (a - 1) with hlt | hge
      · exact gtP_trans (hget i (a - 1) (by omega) hl hlt) hyx
      · obtain rfl : i = a - 1 := by omega
        exact hyx
  have hhigh : ∀ q ∈ out.drop a, gtP x q = false := by
    intro q hq
    obtain ⟨i, hi, rfl⟩ := List.getElem_of_mem hq
    simp at hi
    rw [List.getElem_drop]
    exact gtP_asymm (h1 (a + i) _ (by omega) (List.getElem?_eq_getElem (by omega)))
  unfold SortedP at h ⊢
  rw [List.pairwise_append, List.pairwise_cons]
  have hs := h
  rw [← List.take_append_drop a out, List.pairwise_append] at hs
  refine ⟨hs.1, ⟨hhigh, hs.2.1⟩, fun p hp q hq => ?_⟩
  rcases List.mem_cons.1 hq with rfl | hq
  · exact hlow p hp
  · exact hs.2.2 p hp q hq
theorem flatP_take : ∀ (es : List Pnt) (k : Nat), (flatP es).take (k * 2) = flatP (es.take k)
  | [], k => by simp [flatP]
  | e :: t, 0 => by simp [flatP]
  | e :: t, k + 1 => by
    rw [List.take_succ_cons, flatP, flatP, ← flatP_take t k, show (k + 1) * 2 = k * 2 + 1 + 1 by omega, List.take_succ_cons, List.take_succ_cons]
theorem flatP_drop : ∀ (es : List Pnt) (k : Nat), (flatP es).drop (k * 2) = flatP (es.drop k)
  | [], k => by simp [flatP]
  | e :: t, 0 => by simp [flatP]
  | e :: t, k + 1 => by
    rw [List.drop_succ_cons, flatP, ← flatP_drop t k, show (k + 1) * 2 = k * 2 + 1 + 1 by omega, List.drop_succ_cons, List.drop_succ_cons]
theorem points_take {w : World} {A : Option Addr} {es : List Pnt} (h : Ints w A (flatP es)) (k : Nat) : Ints w A (flatP (es.take k)) := by
  rw [← flatP_take]
  intro hn
  simp at hn
  obtain ⟨b, o, hA, hc⟩ := h (by omega)
  refine ⟨b, o, hA, fun j hj => ?_⟩
  simp at hj
  have hj1 : j < k * 2 := by omega
  rw [hc j (by omega)]
  simp [List.getD_eq_getElem?_getD, List.getElem?_take, hj1]
theorem points_drop {w : World} {b o : Nat} {es : List Pnt} (h : Ints w (some ⟨b, o, none⟩) (flatP es)) (k : Nat) : Ints w (some ⟨b, o + k * 2, none⟩) (flatP (es.drop k)) := by
  rw [← flatP_drop]
  intro hn
  simp at hn
  obtain ⟨b', o', hA, hc⟩ := h (by omega)
  obtain ⟨rfl, rfl⟩ : b = b' ∧ o = o' := by simpa using hA
  refine ⟨b, o + k * 2, rfl, fun j hj => ?_⟩
  simp at hj
  have := hc (k * 2 + j) (by omega)
  rw [Nat.add_assoc, this]
  simp [List.getD_eq_getElem?_getD]
theorem cells2 {w : World} {g : Nat} {T : TypeId} {x0 x1 : Value} (h : w.heap[g]? = some (.cells #[x0, x1] T (0, 0))) : w.cell? ⟨g, 0, none⟩ = some x0 ∧ w.cell? ⟨g, 1, none⟩ = some x1 := by
  refine ⟨?_, ?_⟩
  all_goals (rw [cell_of_row _ _ _ _ _ _ h]; rfl)
theorem Own.capMP {E : TypeId} {size B n c : Nat} {w : World} {A : Option Addr} {zs : List Int} (h : Own E size B w A n c zs) : c ≤ maxLen := by
  rcases h.2 with ⟨hv, h0⟩ | ⟨g, cap, cur, hv, _, _, _, hcm, _⟩
  · injection hv with _ _ h3
    omega
  · injection hv with _ _ h3
    omega
def pIL (zs : List Int) (v : Value) (w : World) : Prop := ∃ g, v = .slice (some ⟨g, 0, none⟩) 2 2 ∧ Ints w (some ⟨g, 0, none⟩) zs
theorem keptN_il (zs : List Int) : KeptN (pIL zs) := fun _ _ _ hb ⟨g, h1, h2⟩ => ⟨g, h1, h2.new hb⟩
def pZP (W : Nat) (v : Value) (w : World) : Prop := ∃ g, v = .pointer (some ⟨g, 0, none⟩) ∧ W ≤ g ∧ w.heap[g]? = some (.cells #[.int .i64 0, .int .i64 0] 28 (0, 0))
theorem keptN_zp (W : Nat) : KeptN (pZP W) := fun _ _ _ hb ⟨g, h1, h2, h3⟩ => ⟨g, h1, h2, blk_new h3 hb⟩
/-- What stays behind each step of a region that appends onto rows that begin T. -/
def StayG (T : List Int) (E : TypeId) (size B : Nat) (w w' : World) : Prop := (∀ v n, RowT T E size B w v n → RowT T E size B w' v n) ∧ ∀ (b : Nat) (cs : Array Value) (T' : TypeId), cs.size ≤ size → w.heap[b]? = some (.cells cs T' (0, 0)) → w'.heap[b]? = some (.cells cs T' (0, 0))
theorem StayG.refl (T : List Int) (E : TypeId) (size B : Nat) (w : World) : StayG T E size B w w := ⟨fun _ _ h => h, fun _ _ _ _ h => h⟩
theorem StayG.new {T : List Int} {E : TypeId} {size B : Nat} {w w' : World} (hb : New w w') : StayG T E size B w w' := ⟨fun _ _ h => h.new hb, fun _ _ _ _ h => blk_new h hb⟩
def KeptG (T : List Int) (B : Nat) (P : Value → World → Prop) : Prop := ∀ v w w', StayG T 28 2 B w w' → P v w → P v w'
def pG (T : List Int) (B n : Nat) (v : Value) (w : World) : Prop := RowT T 28 2 B w v n
def pLitP (cs : Array Value) (v : Value) (w : World) : Prop := ∃ g, v = .slice (some ⟨g, 0, none⟩) 1 1 ∧ w.heap[g]? = some (.cells cs 28 (0, 0))
section
variable {T : List Int} {B : Nat}
theorem keptG_any {P : Value → World → Prop} (h : ∀ v w w', P v w → P v w') : KeptG T B P := fun v w w' _ hp => h v w w' hp
theorem keptG_t {n : Nat} : KeptG T B (pG T B n) := fun _ _ _ h hp => h.1 _ _ hp
theorem keptG_lit {cs : Array Value} (hs : cs.size ≤ 2) : KeptG T B (pLitP cs) := fun _ _ _ h ⟨g, hv, hg⟩ => ⟨g, hv, h.2 g _ _ hs hg⟩
theorem factAt_keptG {ks : List (Value → World → Prop)} (h : ∀ P ∈ ks, KeptG T B P) (i : Nat) (v : Value) (w w' : World) (hS : StayG T 28 2 B w w') (hf : factAt ks i v w) : factAt ks i v w' := by
  unfold factAt at *
  rw [List.getD_eq_getElem?_getD] at *
  rcases hk : ks[i]? with _ | P
  · simp
  · simp only [hk, Option.getD_some] at hf ⊢
    exact h P (List.mem_of_getElem? hk) v w w' hS hf
end
theorem litP_ints {w : World} {g : Nat} {x : Pnt} (h : w.heap[g]? = some (.cells #[.int .i64 x.at_, .int .i64 x.to] 28 (0, 0))) : Ints w (some ⟨g, 0, none⟩) (flatP [x]) := by
  intro _
  refine ⟨g, 0, rfl, fun j hj => ?_⟩
  have hj2 : j < 2 := by simpa [flatP] using hj
  rw [Nat.zero_add, cell_of_row _ _ _ _ _ _ h]
  rcases (show j = 0 ∨ j = 1 by omega) with rfl | rfl <;> rfl
set_option maxRecDepth 100000 in
set_option maxHeartbeats 8000000 in
theorem ringOf_spec (A : Option Addr) (n c : Nat) (hs : List Hst) (w : World) (hn : hs.length = n) (hm : n ≤ 1048576) (h : Ints w A (flat hs)) :
    Calls Try.prog 16 #[.slice A n c] w (RetRow 28 2 w (ringP hs).length (flatP (ringP hs))) := by
  obtain ⟨i0, hi, iz0, iz1, iz2⟩ := info_parts point_info
  have hgr := gr_cells
  have hml : n ≤ maxLen := by unfold maxLen; omega
  have HN := Lib.hid hn
  clear hn
  have b0 := (New.refl w).alloc (.cells #[] 28)
  have o0 : Own 28 2 w.heap.size (w.alloc (.cells #[] 28)) (some ⟨w.heap.size, 0, none⟩) 0 0 [] := World.ownsRow_lit w #[] 0 (Nat.le_refl _) (Nat.zero_le _) rfl
  have O0 := Lib.hid o0
  have B0 := Lib.hid b0
  clear b0 o0
  cases hP : poolB hs
  · rw [ringP_no hP]
    go_enter Try.func16, Try.ntmps16
    go_wp2_with fail
    go_loopw [3, 4] (fun v i wr => ∃ (A' : Option Addr) (c' : Nat), v = .slice A' 0 c' ∧ i = .int .i64 0 ∧ c' ≤ maxLen ∧ Own 28 2 w.heap.size wr A' 0 c' [] ∧ New w wr) (fun _ _ _ => 0)
    case atStart => exact ⟨_, 0, rfl, rfl, Nat.zero_le _, O0.out, B0.out⟩
    case round =>
      obtain ⟨A', c', rfl, rfl, hcm, hown, hnew⟩ := hrel
      by_cases h0 : 0 < n
      · go_wp2_with fail
        refine (poolValid_spec A n c hs _ HN.out hml (h.new hnew)).mono ?_
        rintro e w1 ⟨rfl, b1⟩
        rw [hP]
        go_wp2_with fail
        go_ret
        exact ⟨A', c', rfl, Nat.zero_le _, hcm, hown.new b1, (by repeat (first | with_reducible assumption | with_reducible exact New.refl _ | with_reducible refine New.alloc ?_ _ | with_reducible refine New.drew ?_ | with_reducible refine New.drewN ?_ _ | refine New.setCell ?_ (by first | (simp; done) | omega | (simp; omega)) _ | with_reducible refine New.trans ?_ (by with_reducible assumption)))⟩
      · obtain rfl : n = 0 := by omega
        go_wp2_with fail
        go_ret
        exact ⟨A', c', rfl, Nat.zero_le _, hcm, hown, (by repeat (first | with_reducible assumption | with_reducible exact New.refl _ | with_reducible refine New.alloc ?_ _ | with_reducible refine New.drew ?_ | with_reducible refine New.drewN ?_ _ | refine New.setCell ?_ (by first | (simp; done) | omega | (simp; omega)) _ | with_reducible refine New.trans ?_ (by with_reducible assumption)))⟩
  · have HUQ := Lib.hid (fun out hs' hp' => (ring_unique hP (out := out) hs' hp').symm)
    have HP := Lib.hid hP
    have hpl := pool_len hP
    rw [HN.out] at hpl
    have hwt := Lib.hid (wt_bd hP)
    clear hP
    go_enter Try.func16, Try.ntmps16
    go_wp2_with fail
    go_loopw [3, 4] (fun v i wr => ∃ (k G m c1 : Nat) (out : List Pnt), k ≤ n ∧ i = .int .i64 k ∧ v = .slice (some ⟨G, 0, none⟩) m c1 ∧ m ≤ 15 * k ∧ out.length = m ∧ Own 28 2 w.heap.size wr (some ⟨G, 0, none⟩) m c1 (flatP out) ∧ SortedP out ∧ out.Perm (ptsOf (ups (hs.take k))) ∧ New w wr) (fun _ i _ => n - (intOf i).toNat)
    case atStart => exact ⟨0, _, 0, 0, [], Nat.zero_le _, rfl, rfl, Nat.le_refl _, rfl, O0.out, List.Pairwise.nil, List.Perm.refl _, B0.out⟩
    case round =>
      obtain ⟨k, G, m, c1, out, hk, rfl, rfl, hmk, hlo, ho, hso, hpe, hnew⟩ := hrel
      by_cases hlt : k < n
      · have hki : (k : Int) < (n : Int) := by omega
        go_wp2_with fail
        refine (poolValid_spec A n c hs _ HN.out hml (h.new hnew)).mono ?_
        rintro e w1 ⟨rfl, b1⟩
        rw [HP.out]
        have hnew1 := hnew.trans b1
        obtain ⟨b, o, x, rfl, hx, hb, _⟩ := hosts_at h (k := k) (by rw [HN.out]; exact hlt)
        have hxw := hwt.out x (List.mem_of_getElem? hx)
        have HX := Lib.hid (ups_take hx)
        obtain ⟨x0, x1, x2⟩ := x
        simp only at HX hxw
        have HXX0 := Lib.hid hx
        clear hx hb
        obtain ⟨y0, y1⟩ := hxw
        obtain ⟨W, rfl⟩ := Int.eq_ofNat_of_zero_le (show 0 ≤ x1 by omega)
        have hW : W ≤ 5 := by omega
        have hW0 : 0 < W := by omega
        have ho1 := ho.new b1
        clear ho hnew b1
        by_cases hup : x2 = 1
        · subst hup
          go_wp2_with fail
          go_loopw [3, 5] (fun v i wr => ∃ (t G m c1 : Nat) (out : List Pnt), t ≤ 3 * W ∧ i = .int .i64 t ∧ v = .slice (some ⟨G, 0, none⟩) m c1 ∧ m ≤ 15 * k + t ∧ out.length = m ∧ Own 28 2 w.heap.size wr (some ⟨G, 0, none⟩) m c1 (flatP out) ∧ SortedP out ∧ out.Perm (ptsOf (ups (hs.take k)) ++ ptsH x0 t) ∧ New w wr) (fun _ i _ => 3 * W - (intOf i).toNat)
          case atStart => exact ⟨0, G, m, c1, out, Nat.zero_le _, rfl, rfl, by omega, hlo, ho1, hso, by simpa [ptsH] using hpe, hnew1⟩
          case round =>
            clear ho1 hso hpe hnew1 hlo hmk
            obtain ⟨t, G, m, c1, out, ht, rfl, rfl, hmt, hlo, ho, hso, hpe, hnew⟩ := hrel
            obtain ⟨b2, o2, x, hbo, hx, hb, c0, c1', c2⟩ := hosts_at (h.new hnew) (k := k) (by rw [HN.out]; exact hlt)
            obtain ⟨rfl, rfl⟩ : b = b2 ∧ o = o2 := by simpa using hbo
            obtain rfl := Option.some.inj (hx.symm.trans HXX0.out)
            simp only at c0 c1' c2
            clear hx hbo
            by_cases hlt2 : t < 3 * W
            · have hlt2i : (t : Int) < 3 * (W : Int) := by omega
              have HL := Lib.hid hlo
              have HSO := Lib.hid hso
              have HPE := Lib.hid hpe
              have hmc := ho.capX
              clear hlo hso hpe
              go_wp2_with fail
              generalize wr = w2 at *
              obtain ⟨FF, hFF⟩ : ∃ FF, FF = factAt [pVal (.slice (some ⟨b, o, none⟩) n c), pVal (.int .i64 (k : Int)), pVal (.pointer (some ⟨b, o + k * 3, none⟩)), pVal (.pointer (some ⟨b, o + k * 3, none⟩)), pVal (.int .i64 x0), pVal (.int .i64 (t : Int)), pIL [x0, (t : Int)], pVal (.int .i64 (mixZ [x0, (t : Int)])), pVal (.slice (some ⟨b, o, none⟩) n c), pVal (.int .i64 (k : Int)), pVal (.pointer (some ⟨b, o + k * 3, none⟩)), pVal (.pointer (some ⟨b, o + k * 3, none⟩)), pVal (.int .i64 x0), pVal (.agg #[.int .i64 (mixZ [x0, (t : Int)]), .int .i64 x0]), pZP w2.heap.size] := ⟨_, rfl⟩
              have HFF := Lib.hid hFF
              clear hFF
              refine wp_region_tail 15 (by kernel_rfl) (by kernel_rfl) (by kernel_rfl) (by decide) (LrI w2) FF (New) (by rw [HFF.out]; exact factAt_keptN (by
                  intro P hP
                  simp only [List.mem_cons, List.not_mem_nil, or_false] at hP
                  rcases hP with rfl | rfl | rfl | rfl | rfl | rfl | rfl | rfl | rfl | rfl | rfl | rfl | rfl | rfl | rfl
                  · exact keptN_val _
                  · exact keptN_val _
                  · exact keptN_val _
                  · exact keptN_val _
                  · exact keptN_val _
                  · exact keptN_val _
                  · exact keptN_il _
                  · exact keptN_val _
                  · exact keptN_val _
                  · exact keptN_val _
                  · exact keptN_val _
                  · exact keptN_val _
                  · exact keptN_val _
                  · exact keptN_val _
                  · exact keptN_zp _
                  )) (New.drew (New.refl _)) ?_ ?_
              · refine ⟨?_, ?_, ?_, ?_, ?_, ?_, ?_, ?_, ?_, ?_, ?_, ?_, ?_, ?_, ?_, trivial⟩
                · -- 0
                  intro vs kq wq hI hF
                  clear hF
                  have hI : New w2 wq := hI
                  simp only [fillTo, dstOf, List.getElem?_toArray, List.getElem?_cons_zero, List.getElem?_cons_succ, Option.bind_some, Act.put, List.setIfInBounds_toArray, List.set_cons_zero, List.set_cons_succ]
                  go_wp2_with fail
                  exact ⟨_, rfl, hI, New.refl _, by rw [HFF.out]; exact rfl⟩
                · -- 1
                  intro vs kq wq hI hF
                  clear hF
                  have hI : New w2 wq := hI
                  simp only [fillTo, dstOf, List.getElem?_toArray, List.getElem?_cons_zero, List.getElem?_cons_succ, Option.bind_some, Act.put, List.setIfInBounds_toArray, List.set_cons_zero, List.set_cons_succ]
                  go_wp2_with fail
                  exact ⟨_, rfl, hI, New.refl _, by rw [HFF.out]; exact rfl⟩
                · -- 2
                  intro vs kq wq hI hF
                  have f0 : pVal (.slice (some ⟨b, o, none⟩) n c) (vs 0) wq := (by have h := hF 0 (by rfl); rw [HFF.out] at h; exact h)
                  unfold pVal at f0
                  have f1 : pVal (.int .i64 (k : Int)) (vs 1) wq := (by have h := hF 1 (by rfl); rw [HFF.out] at h; exact h)
                  unfold pVal at f1
                  clear hF
                  have hI : New w2 wq := hI
                  simp only [fillTo, dstOf, List.getElem?_toArray, List.getElem?_cons_zero, List.getElem?_cons_succ, Option.bind_some, Act.put, List.setIfInBounds_toArray, List.set_cons_zero, List.set_cons_succ, f0, f1]
                  clear f0 f1
                  have hcq := New.cells hI; have hzq := New.le hI
                  go_wp2_with fail
                  exact ⟨_, rfl, hI, New.refl _, by rw [HFF.out]; exact rfl⟩
                · -- 3
                  intro vs kq wq hI hF
                  have f2 : pVal (.pointer (some ⟨b, o + k * 3, none⟩)) (vs 2) wq := (by have h := hF 2 (by rfl); rw [HFF.out] at h; exact h)
                  unfold pVal at f2
                  clear hF
                  have hI : New w2 wq := hI
                  simp only [fillTo, dstOf, List.getElem?_toArray, List.getElem?_cons_zero, List.getElem?_cons_succ, Option.bind_some, Act.put, List.setIfInBounds_toArray, List.set_cons_zero, List.set_cons_succ, f2]
                  clear f2
                  have hcq := New.cells hI; have hzq := New.le hI
                  go_wp2_with fail
                  exact ⟨_, rfl, hI, New.refl _, by rw [HFF.out]; exact rfl⟩
                · -- 4
                  intro vs kq wq hI hF
                  have f3 : pVal (.pointer (some ⟨b, o + k * 3, none⟩)) (vs 3) wq := (by have h := hF 3 (by rfl); rw [HFF.out] at h; exact h)
                  unfold pVal at f3
                  clear hF
                  have hI : New w2 wq := hI
                  simp only [fillTo, dstOf, List.getElem?_toArray, List.getElem?_cons_zero, List.getElem?_cons_succ, Option.bind_some, Act.put, List.setIfInBounds_toArray, List.set_cons_zero, List.set_cons_succ, f3]
                  clear f3
                  have hcq := New.cells hI; have hzq := New.le hI
                  go_wp2_with fail
                  exact ⟨_, rfl, hI, New.refl _, by rw [HFF.out]; exact rfl⟩
                · -- 5
                  intro vs kq wq hI hF
                  clear hF
                  have hI : New w2 wq := hI
                  simp only [fillTo, dstOf, List.getElem?_toArray, List.getElem?_cons_zero, List.getElem?_cons_succ, Option.bind_some, Act.put, List.setIfInBounds_toArray, List.set_cons_zero, List.set_cons_succ]
                  go_wp2_with fail
                  exact ⟨_, rfl, hI, New.refl _, by rw [HFF.out]; exact rfl⟩
                · -- 6
                  intro vs kq wq hI hF
                  have f4 : pVal (.int .i64 x0) (vs 4) wq := (by have h := hF 4 (by rfl); rw [HFF.out] at h; exact h)
                  unfold pVal at f4
                  have f5 : pVal (.int .i64 (t : Int)) (vs 5) wq := (by have h := hF 5 (by rfl); rw [HFF.out] at h; exact h)
                  unfold pVal at f5
                  clear hF
                  have hI : New w2 wq := hI
                  simp only [fillTo, dstOf, List.getElem?_toArray, List.getElem?_cons_zero, List.getElem?_cons_succ, Option.bind_some, Act.put, List.setIfInBounds_toArray, List.set_cons_zero, List.set_cons_succ, f4, f5]
                  clear f4 f5
                  go_wp2_with fail
                  exact ⟨_, rfl, New.trans hI ((New.refl _).alloc _), (New.refl _).alloc _, by rw [HFF.out]; exact ⟨_, rfl, Ints.lit _ _ [x0, (t : Int)] _ rfl⟩⟩
                · -- 7
                  intro vs kq wq hI hF
                  have f6 : pIL [x0, (t : Int)] (vs 6) wq := (by have h := hF 6 (by rfl); rw [HFF.out] at h; exact h)
                  clear hF
                  have hI : New w2 wq := hI
                  obtain ⟨gl, e6, i6⟩ := f6
                  simp only [fillTo, dstOf, List.getElem?_toArray, List.getElem?_cons_zero, List.getElem?_cons_succ, Option.bind_some, Act.put, List.setIfInBounds_toArray, List.set_cons_zero, List.set_cons_succ, e6]
                  clear e6
                  go_wp2_with fail
                  refine (mixNumbers_spec _ 2 2 [x0, (t : Int)] _ rfl (by unfold maxLen; omega) i6).mono ?_
                  rintro e w' ⟨rfl, rfl⟩
                  go_wp2_with fail
                  exact ⟨_, rfl, hI, New.refl _, by rw [HFF.out]; exact rfl⟩
                · -- 8
                  intro vs kq wq hI hF
                  clear hF
                  have hI : New w2 wq := hI
                  simp only [fillTo, dstOf, List.getElem?_toArray, List.getElem?_cons_zero, List.getElem?_cons_succ, Option.bind_some, Act.put, List.setIfInBounds_toArray, List.set_cons_zero, List.set_cons_succ]
                  go_wp2_with fail
                  exact ⟨_, rfl, hI, New.refl _, by rw [HFF.out]; exact rfl⟩
                · -- 9
                  intro vs kq wq hI hF
                  clear hF
                  have hI : New w2 wq := hI
                  simp only [fillTo, dstOf, List.getElem?_toArray, List.getElem?_cons_zero, List.getElem?_cons_succ, Option.bind_some, Act.put, List.setIfInBounds_toArray, List.set_cons_zero, List.set_cons_succ]
                  go_wp2_with fail
                  exact ⟨_, rfl, hI, New.refl _, by rw [HFF.out]; exact rfl⟩
                · -- 10
                  intro vs kq wq hI hF
                  have f8 : pVal (.slice (some ⟨b, o, none⟩) n c) (vs 8) wq := (by have h := hF 8 (by rfl); rw [HFF.out] at h; exact h)
                  unfold pVal at f8
                  have f9 : pVal (.int .i64 (k : Int)) (vs 9) wq := (by have h := hF 9 (by rfl); rw [HFF.out] at h; exact h)
                  unfold pVal at f9
                  clear hF
                  have hI : New w2 wq := hI
                  simp only [fillTo, dstOf, List.getElem?_toArray, List.getElem?_cons_zero, List.getElem?_cons_succ, Option.bind_some, Act.put, List.setIfInBounds_toArray, List.set_cons_zero, List.set_cons_succ, f8, f9]
                  clear f8 f9
                  have hcq := New.cells hI; have hzq := New.le hI
                  go_wp2_with fail
                  exact ⟨_, rfl, hI, New.refl _, by rw [HFF.out]; exact rfl⟩
                · -- 11
                  intro vs kq wq hI hF
                  have f10 : pVal (.pointer (some ⟨b, o + k * 3, none⟩)) (vs 10) wq := (by have h := hF 10 (by rfl); rw [HFF.out] at h; exact h)
                  unfold pVal at f10
                  clear hF
                  have hI : New w2 wq := hI
                  simp only [fillTo, dstOf, List.getElem?_toArray, List.getElem?_cons_zero, List.getElem?_cons_succ, Option.bind_some, Act.put, List.setIfInBounds_toArray, List.set_cons_zero, List.set_cons_succ, f10]
                  clear f10
                  have hcq := New.cells hI; have hzq := New.le hI
                  go_wp2_with fail
                  exact ⟨_, rfl, hI, New.refl _, by rw [HFF.out]; exact rfl⟩
                · -- 12
                  intro vs kq wq hI hF
                  have f11 : pVal (.pointer (some ⟨b, o + k * 3, none⟩)) (vs 11) wq := (by have h := hF 11 (by rfl); rw [HFF.out] at h; exact h)
                  unfold pVal at f11
                  clear hF
                  have hI : New w2 wq := hI
                  simp only [fillTo, dstOf, List.getElem?_toArray, List.getElem?_cons_zero, List.getElem?_cons_succ, Option.bind_some, Act.put, List.setIfInBounds_toArray, List.set_cons_zero, List.set_cons_succ, f11]
                  clear f11
                  have hcq := New.cells hI; have hzq := New.le hI
                  go_wp2_with fail
                  exact ⟨_, rfl, hI, New.refl _, by rw [HFF.out]; exact rfl⟩
                · -- 13
                  intro vs kq wq hI hF
                  have f7 : pVal (.int .i64 (mixZ [x0, (t : Int)])) (vs 7) wq := (by have h := hF 7 (by rfl); rw [HFF.out] at h; exact h)
                  unfold pVal at f7
                  have f12 : pVal (.int .i64 x0) (vs 12) wq := (by have h := hF 12 (by rfl); rw [HFF.out] at h; exact h)
                  unfold pVal at f12
                  clear hF
                  have hI : New w2 wq := hI
                  simp only [fillTo, dstOf, List.getElem?_toArray, List.getElem?_cons_zero, List.getElem?_cons_succ, Option.bind_some, Act.put, List.setIfInBounds_toArray, List.set_cons_zero, List.set_cons_succ, f7, f12]
                  clear f7 f12
                  have hcq := New.cells hI; have hzq := New.le hI
                  go_wp2_with fail
                  exact ⟨_, rfl, hI, New.refl _, by rw [HFF.out]; exact rfl⟩
                · -- 14
                  intro vs kq wq hI hF
                  clear hF
                  have hI : New w2 wq := hI
                  simp only [fillTo, dstOf, List.getElem?_toArray, List.getElem?_cons_zero, List.getElem?_cons_succ, Option.bind_some, Act.put, List.setIfInBounds_toArray, List.set_cons_zero, List.set_cons_succ]
                  go_wp2_with fail
                  exact ⟨_, rfl, New.trans hI ((New.refl _).alloc _), (New.refl _).alloc _, by rw [HFF.out]; exact ⟨_, rfl, New.le hI, heap_alloc_new _ _⟩⟩
              · intro vs kq wq hI hF
                have f13 : pVal (.agg #[.int .i64 (mixZ [x0, (t : Int)]), .int .i64 x0]) (vs 13) wq := (by have h := hF 13 (by omega); rw [HFF.out] at h; exact h)
                unfold pVal at f13
                have f14 : pZP w2.heap.size (vs 14) wq := (by have h := hF 14 (by omega); rw [HFF.out] at h; exact h)
                clear hF HFF FF
                have hI : New w2 wq := hI
                obtain ⟨g6, e14, hg6, hb6⟩ := f14
                obtain ⟨X, hX⟩ : ∃ X, mixZ [x0, (t : Int)] = X := ⟨_, rfl⟩
                rw [hX] at f13
                have HXX := Lib.hid hX
                clear hX
                have t6 := blk_at (blk_at hb6 0 (.int .i64 X)) 1 (.int .i64 x0)
                obtain ⟨Z0, Z1⟩ := cells2 hb6
                have zz : ∀ j, wq.frozen? ⟨g6, j, none⟩ = false := fun j => frozen_of_row _ _ _ _ _ hb6
                have N3 : New w2 ((wq.setCell ⟨g6, 0, none⟩ (.int .i64 X)).setCell ⟨g6, 1, none⟩ (.int .i64 x0)) := (New.setCell hI (p := ⟨g6, 0, none⟩) hg6 _).setCell (p := ⟨g6, 1, none⟩) hg6 _
                have HO2 := Lib.hid (ho.new N3)
                have HN2 := Lib.hid (hnew.trans N3)
                have hm15 : m ≤ 105 := by omega
                clear hb6 hI ho hnew N3 hb c0 c1' c2 hg6
                simp only [fillTo, dstOf, List.getElem?_toArray, List.getElem?_cons_zero, List.getElem?_cons_succ, Option.bind_some, Act.put, List.setIfInBounds_toArray, List.set_cons_zero, List.set_cons_succ, f13, e14, List.drop_succ_cons, List.drop_zero, List.drop_nil]
                clear f13 e14
                go_wp2_with fail
                clear Z0 Z1 zz
                generalize (wq.setCell ⟨g6, 0, none⟩ (.int .i64 X)).setCell ⟨g6, 1, none⟩ (.int .i64 x0) = w3 at *
                go_loopw [7] (fun i wr => ∃ a : Nat, a ≤ m ∧ i = .int .i64 a ∧ (∀ j y, a ≤ j → out[j]? = some y → gtP y ⟨X, x0⟩ = true) ∧ New w3 wr) (fun i _ => (intOf i).toNat)
                case atStart => exact ⟨m, Nat.le_refl _, rfl, fun j y hj hy => by have := (List.getElem?_eq_some_iff.1 hy).1; rw [HL.out] at this; omega, New.refl _⟩
                case round =>
                  obtain ⟨a, ham, rfl, hgt, hr3⟩ := hrel
                  have t6r := blk_new t6 hr3
                  have hl6 := blk_lt t6r
                  obtain ⟨C0, C1⟩ := cells2 t6r
                  have hor := HO2.out.new hr3
                  have HGT := Lib.hid hgt
                  have HR3 := Lib.hid hr3
                  clear hgt hr3
                  by_cases ha0 : a = 0
                  · subst ha0
                    go_wp2_with fail
                    refine wp_region_qb (by kernel_rfl) (by kernel_rfl) ?_
                    repeat (go_big_quiet_step ((fail)))
                    with_reducible refine wpQuiet_nil ?_
                    intro w5 b5
                    have hc5 := New.cells b5; have hf5 := New.marks b5; have hz5 := New.le b5; try simp only [World.size_alloc, World.size_setCell] at hz5
                    try have z5_0_0 : w.heap.size < w5.heap.size := by omega
                    try have z5_0_1 : w.heap.size + 1 < w5.heap.size := by omega
                    try have z5_0_2 : w.heap.size + 2 < w5.heap.size := by omega
                    try have z5_1_0 : w1.heap.size < w5.heap.size := by omega
                    try have z5_1_1 : w1.heap.size + 1 < w5.heap.size := by omega
                    try have z5_1_2 : w1.heap.size + 2 < w5.heap.size := by omega
                    try have z5_2_0 : w2.heap.size < w5.heap.size := by omega
                    try have z5_2_1 : w2.heap.size + 1 < w5.heap.size := by omega
                    try have z5_2_2 : w2.heap.size + 2 < w5.heap.size := by omega
                    try have z5_3_0 : w3.heap.size < w5.heap.size := by omega
                    try have z5_3_1 : w3.heap.size + 1 < w5.heap.size := by omega
                    try have z5_3_2 : w3.heap.size + 2 < w5.heap.size := by omega
                    try have z5_4_0 : w4.heap.size < w5.heap.size := by omega
                    try have z5_4_1 : w4.heap.size + 1 < w5.heap.size := by omega
                    try have z5_4_2 : w4.heap.size + 2 < w5.heap.size := by omega
                    have hdec : (0 : Nat) = 0 ∨ ∃ y, out[0 - 1]? = some y ∧ gtP y ⟨X, x0⟩ = false := .inl rfl
                    have hor5 := hor.new b5
                    have hN5 := HN2.out.trans (HR3.out.trans b5)
                    have t65 := blk_new t6r b5
                    have hl65 := blk_lt t65
                    clear hor t6r C0 C1 hl6
                    obtain ⟨C0, C1⟩ := cells2 t65
                    have hins := ins_sorted HSO.out (by rw [HL.out]; exact ham) HGT.out hdec
                    have hperm := (ins_perm out (⟨X, x0⟩ : Pnt) 0).trans (HPE.out.append_right [(⟨X, x0⟩ : Pnt)])
                    clear hdec
                    obtain ⟨T, hT⟩ : ∃ T, flatP (out.take 0 ++ ⟨X, x0⟩ :: out.drop 0) = T := ⟨_, rfl⟩
                    have hlT : (out.take 0).length = 0 := by rw [List.length_take, HL.out]; omega
                    have HTL := Lib.hid (show T.length = (m + 1) * 2 by rw [← hT, flatP_len, (ins_perm out (⟨X, x0⟩ : Pnt) 0).length_eq, List.length_append, HL.out]; rfl)
                    have HT1 := Lib.hid (show (T.drop (0 * 2)).take (0 * 2) = flatP (out.take 0) by rw [← hT, flatP_append, Nat.zero_mul, List.drop_zero, List.take_left' (by rw [flatP_len, hlT])])
                    have HT2 := Lib.hid (show (T.drop (0 * 2)).take (1 * 2) = flatP [⟨X, x0⟩] by rw [← hT, flatP_append, List.drop_left' (by rw [flatP_len, hlT])]; rfl)
                    have HT3 := Lib.hid (show (T.drop ((0 + 1) * 2)).take ((m - 0) * 2) = flatP (out.drop 0) by rw [← hT, show out.take 0 ++ (⟨X, x0⟩ : Pnt) :: out.drop 0 = (out.take 0 ++ [(⟨X, x0⟩ : Pnt)]) ++ out.drop 0 by simp, flatP_append, List.drop_left' (by rw [flatP_len, List.length_append, hlT]; rfl), List.take_of_length_le (by rw [flatP_len, List.length_drop, HL.out]; omega)])
                    have HT4 := Lib.hid (show T.take ((m + 1) * 2) = flatP (out.take 0 ++ ⟨X, x0⟩ :: out.drop 0) by rw [hT, List.take_of_length_le (Nat.le_of_eq HTL.out)])
                    have HO1 := Lib.hid (show Ints w5 (some ⟨G, 0, none⟩) (flatP (out.take 0)) from points_take hor5.ints 0)
                    obtain ⟨oo, hoo⟩ : ∃ oo, (if c1 = 0 then 0 else 0 * 2) = oo := ⟨_, rfl⟩
                    have HDR : Hid (∀ wq, New w5 wq → Ints wq (some ⟨G, oo, none⟩) (flatP (out.drop 0))) := Lib.hid fun wq hI => by
                      by_cases hc : c1 = 0
                      · rw [List.drop_of_length_le (by rw [HL.out]; omega)]
                        exact IntsK.nil
                      · rw [← hoo, if_neg hc]
                        have := points_drop (hor5.ints.new hI) 0
                        rwa [Nat.zero_add] at this
                    have HSX := Lib.hid hins
                    have HLX := Lib.hid (show (out.take 0 ++ (⟨X, x0⟩ : Pnt) :: out.drop 0).length = m + 1 by rw [(ins_perm out (⟨X, x0⟩ : Pnt) 0).length_eq, List.length_append, HL.out]; rfl)
                    have HPX := Lib.hid (show (out.take 0 ++ (⟨X, x0⟩ : Pnt) :: out.drop 0).Perm (ptsOf (ups (hs.take k)) ++ ptsH x0 (t + 1)) from hperm.trans (by rw [ptsH_succ, HXX.out, List.append_assoc]))
                    clear hT hins hperm hlT hor5
                    go_wp2_with fail
                    obtain ⟨FF, hFF⟩ : ∃ FF, FF = factAt [pG T w5.heap.size 0, pVal (.slice (some ⟨G, 0, none⟩) m c1), pVal (.int .i64 (0 : Int)), pVal (.slice (some ⟨G, 0, none⟩) 0 c1), pG T w5.heap.size 0, pVal (.agg #[.int .i64 X, .int .i64 x0]), pLitP #[.int .i64 X, .int .i64 x0], pG T w5.heap.size (0 + 1), pVal (.slice (some ⟨G, 0, none⟩) m c1), pVal (.int .i64 (0 : Int)), pVal (.slice (some ⟨G, oo, none⟩) (m - 0) (c1 - 0)), pG T w5.heap.size (0 + 1 + (m - 0))] := ⟨_, rfl⟩
                    have HFF := Lib.hid hFF
                    clear hFF
                    refine wp_region_tail 12 (by kernel_rfl) (by kernel_rfl) (by kernel_rfl) (by decide) (LrI w5) FF (StayG T 28 2 w5.heap.size) (by rw [HFF.out]; exact factAt_keptG (by
                        intro P hP
                        simp only [List.mem_cons, List.not_mem_nil, or_false] at hP
                        rcases hP with rfl | rfl | rfl | rfl | rfl | rfl | rfl | rfl | rfl | rfl | rfl | rfl
                        · exact keptG_t
                        · exact keptG_any (fun _ _ _ h => h)
                        · exact keptG_any (fun _ _ _ h => h)
                        · exact keptG_any (fun _ _ _ h => h)
                        · exact keptG_t
                        · exact keptG_any (fun _ _ _ h => h)
                        · exact keptG_lit (Nat.le_refl 2)
                        · exact keptG_t
                        · exact keptG_any (fun _ _ _ h => h)
                        · exact keptG_any (fun _ _ _ h => h)
                        · exact keptG_any (fun _ _ _ h => h)
                        · exact keptG_t
                        )) (New.drew (New.refl _)) ?_ ?_
                    · refine ⟨?_, ?_, ?_, ?_, ?_, ?_, ?_, ?_, ?_, ?_, ?_, ?_, trivial⟩
                      · -- 0
                        intro vs kq wq hI hF
                        clear hF
                        have hI : New w5 wq := hI
                        simp only [fillTo, dstOf, List.getElem?_toArray, List.getElem?_cons_zero, List.getElem?_cons_succ, Option.bind_some, Act.put, List.setIfInBounds_toArray, List.set_cons_zero, List.set_cons_succ]
                        go_wp2_with fail
                        exact ⟨_, rfl, New.trans hI ((New.refl _).alloc _), StayG.new ((New.refl _).alloc _), by rw [HFF.out]; exact ⟨Nat.le_trans (Nat.le_of_eq (Nat.zero_mul _)) (Nat.zero_le _), _, 0, rfl, fun _ => rfl, by rw [Nat.zero_mul, List.take_zero]; exact World.ownsRow_lit wq #[] 0 (New.le hI) (Nat.zero_le _) rfl⟩⟩
                      · -- 1
                        intro vs kq wq hI hF
                        clear hF
                        have hI : New w5 wq := hI
                        simp only [fillTo, dstOf, List.getElem?_toArray, List.getElem?_cons_zero, List.getElem?_cons_succ, Option.bind_some, Act.put, List.setIfInBounds_toArray, List.set_cons_zero, List.set_cons_succ]
                        go_wp2_with fail
                        exact ⟨_, rfl, hI, StayG.refl _ _ _ _ _, by rw [HFF.out]; exact rfl⟩
                      · -- 2
                        intro vs kq wq hI hF
                        clear hF
                        have hI : New w5 wq := hI
                        simp only [fillTo, dstOf, List.getElem?_toArray, List.getElem?_cons_zero, List.getElem?_cons_succ, Option.bind_some, Act.put, List.setIfInBounds_toArray, List.set_cons_zero, List.set_cons_succ]
                        go_wp2_with fail
                        exact ⟨_, rfl, hI, StayG.refl _ _ _ _ _, by rw [HFF.out]; exact rfl⟩
                      · -- 3
                        intro vs kq wq hI hF
                        have f1 : pVal (.slice (some ⟨G, 0, none⟩) m c1) (vs 1) wq := (by have h := hF 1 (by rfl); rw [HFF.out] at h; exact h)
                        unfold pVal at f1
                        have f2 : pVal (.int .i64 (0 : Int)) (vs 2) wq := (by have h := hF 2 (by rfl); rw [HFF.out] at h; exact h)
                        unfold pVal at f2
                        clear hF
                        have hI : New w5 wq := hI
                        simp only [fillTo, dstOf, List.getElem?_toArray, List.getElem?_cons_zero, List.getElem?_cons_succ, Option.bind_some, Act.put, List.setIfInBounds_toArray, List.set_cons_zero, List.set_cons_succ, f1, f2]
                        clear f1 f2
                        go_wp2_with fail
                        exact ⟨_, rfl, hI, StayG.refl _ _ _ _ _, by rw [HFF.out]; exact rfl⟩
                      · -- 4
                        intro vs kq wq hI hF
                        have f0 : pG T w5.heap.size 0 (vs 0) wq := (by have h := hF 0 (by rfl); rw [HFF.out] at h; exact h)
                        have f3 : pVal (.slice (some ⟨G, 0, none⟩) 0 c1) (vs 3) wq := (by have h := hF 3 (by rfl); rw [HFF.out] at h; exact h)
                        unfold pVal at f3
                        clear hF
                        have hI : New w5 wq := hI
                        simp only [fillTo, dstOf, List.getElem?_toArray, List.getElem?_cons_zero, List.getElem?_cons_succ, Option.bind_some, Act.put, List.setIfInBounds_toArray, List.set_cons_zero, List.set_cons_succ, f3]
                        clear f3
                        obtain ⟨VV, hVV⟩ : ∃ VV, vs 0 = VV := ⟨_, rfl⟩
                        rw [hVV] at f0 ⊢
                        clear hVV
                        have f0 : RowT T 28 2 w5.heap.size wq VV 0 := f0
                        go_wp2_with (at_builtin; refine wpList_append_T _ rfl (.tmp 90) (.tmp 93) 25 rfl w5 w5.heap.size T 28 i0 _ 2 16 Try.underlying25 hi iz0 iz1 iz2 rfl (by omega) (by omega) VV 0 rfl f0 (some ⟨G, 0, none⟩) 0 c1 rfl (fun e => by cases e) (by rw [HTL.out]; omega) (by rw [HT1.out]; exact HO1.out.new hI) (by omega) (Nat.le_refl _) (New.le hI) hI ?_; intro v2 w9 r2 n2 k2 l2)
                        exact ⟨_, rfl, n2, ⟨k2, l2⟩, by rw [HFF.out]; rw [Nat.zero_add] at r2; exact r2⟩
                      · -- 5
                        intro vs kq wq hI hF
                        clear hF
                        have hI : New w5 wq := hI
                        clear C0 C1
                        obtain ⟨C0, C1⟩ := cells2 (blk_new t65 hI)
                        simp only [fillTo, dstOf, List.getElem?_toArray, List.getElem?_cons_zero, List.getElem?_cons_succ, Option.bind_some, Act.put, List.setIfInBounds_toArray, List.set_cons_zero, List.set_cons_succ]
                        go_wp2_with fail
                        exact ⟨_, rfl, hI, StayG.refl _ _ _ _ _, by rw [HFF.out]; exact rfl⟩
                      · -- 6
                        intro vs kq wq hI hF
                        have f5 : pVal (.agg #[.int .i64 X, .int .i64 x0]) (vs 5) wq := (by have h := hF 5 (by rfl); rw [HFF.out] at h; exact h)
                        unfold pVal at f5
                        clear hF
                        have hI : New w5 wq := hI
                        simp only [fillTo, dstOf, List.getElem?_toArray, List.getElem?_cons_zero, List.getElem?_cons_succ, Option.bind_some, Act.put, List.setIfInBounds_toArray, List.set_cons_zero, List.set_cons_succ, f5]
                        clear f5
                        go_wp2_with fail
                        exact ⟨_, rfl, New.trans hI ((New.refl _).alloc _), StayG.new ((New.refl _).alloc _), by rw [HFF.out]; exact ⟨_, rfl, heap_alloc_new _ _⟩⟩
                      · -- 7
                        intro vs kq wq hI hF
                        have f4 : pG T w5.heap.size 0 (vs 4) wq := (by have h := hF 4 (by rfl); rw [HFF.out] at h; exact h)
                        have f6 : pLitP #[.int .i64 X, .int .i64 x0] (vs 6) wq := (by have h := hF 6 (by rfl); rw [HFF.out] at h; exact h)
                        clear hF
                        have hI : New w5 wq := hI
                        obtain ⟨gl, e6, hgl⟩ := f6
                        simp only [fillTo, dstOf, List.getElem?_toArray, List.getElem?_cons_zero, List.getElem?_cons_succ, Option.bind_some, Act.put, List.setIfInBounds_toArray, List.set_cons_zero, List.set_cons_succ, e6]
                        clear e6
                        obtain ⟨VV, hVV⟩ : ∃ VV, vs 4 = VV := ⟨_, rfl⟩
                        rw [hVV] at f4 ⊢
                        clear hVV
                        have f4 : RowT T 28 2 w5.heap.size wq VV 0 := f4
                        go_wp2_with (at_builtin; refine wpList_append_T _ rfl (.tmp 94) (.tmp 96) 25 rfl w5 w5.heap.size T 28 i0 _ 2 16 Try.underlying25 hi iz0 iz1 iz2 rfl (by omega) (by omega) VV 0 rfl f4 (some ⟨gl, 0, none⟩) 1 1 rfl (fun e => by cases e) (by rw [HTL.out]; omega) (by rw [HT2.out]; exact litP_ints hgl) (by omega) (Nat.le_refl _) (New.le hI) hI ?_; intro v2 w9 r2 n2 k2 l2)
                        exact ⟨_, rfl, n2, ⟨k2, l2⟩, by rw [HFF.out]; exact r2⟩
                      · -- 8
                        intro vs kq wq hI hF
                        clear hF
                        have hI : New w5 wq := hI
                        simp only [fillTo, dstOf, List.getElem?_toArray, List.getElem?_cons_zero, List.getElem?_cons_succ, Option.bind_some, Act.put, List.setIfInBounds_toArray, List.set_cons_zero, List.set_cons_succ]
                        go_wp2_with fail
                        exact ⟨_, rfl, hI, StayG.refl _ _ _ _ _, by rw [HFF.out]; exact rfl⟩
                      · -- 9
                        intro vs kq wq hI hF
                        clear hF
                        have hI : New w5 wq := hI
                        simp only [fillTo, dstOf, List.getElem?_toArray, List.getElem?_cons_zero, List.getElem?_cons_succ, Option.bind_some, Act.put, List.setIfInBounds_toArray, List.set_cons_zero, List.set_cons_succ]
                        go_wp2_with fail
                        exact ⟨_, rfl, hI, StayG.refl _ _ _ _ _, by rw [HFF.out]; exact rfl⟩
                      · -- 10
                        intro vs kq wq hI hF
                        have f8 : pVal (.slice (some ⟨G, 0, none⟩) m c1) (vs 8) wq := (by have h := hF 8 (by rfl); rw [HFF.out] at h; exact h)
                        unfold pVal at f8
                        have f9 : pVal (.int .i64 (0 : Int)) (vs 9) wq := (by have h := hF 9 (by rfl); rw [HFF.out] at h; exact h)
                        unfold pVal at f9
                        clear hF
                        have hI : New w5 wq := hI
                        simp only [fillTo, dstOf, List.getElem?_toArray, List.getElem?_cons_zero, List.getElem?_cons_succ, Option.bind_some, Act.put, List.setIfInBounds_toArray, List.set_cons_zero, List.set_cons_succ, f8, f9]
                        clear f8 f9
                        by_cases hc : c1 = 0
                        · have ho : oo = 0 := by rw [← hoo, if_pos hc]
                          go_wp2_with fail
                          exact ⟨_, rfl, hI, StayG.refl _ _ _ _ _, by rw [HFF.out]; simp [factAt, pVal, ho, hc]⟩
                        · have ho : oo = 0 * 2 := by rw [← hoo, if_neg hc]
                          go_wp2_with fail
                          exact ⟨_, rfl, hI, StayG.refl _ _ _ _ _, by rw [HFF.out]; simp [factAt, pVal, ho, hc]⟩
                      · -- 11
                        intro vs kq wq hI hF
                        have f7 : pG T w5.heap.size (0 + 1) (vs 7) wq := (by have h := hF 7 (by rfl); rw [HFF.out] at h; exact h)
                        have f10 : pVal (.slice (some ⟨G, oo, none⟩) (m - 0) (c1 - 0)) (vs 10) wq := (by have h := hF 10 (by rfl); rw [HFF.out] at h; exact h)
                        unfold pVal at f10
                        clear hF
                        have hI : New w5 wq := hI
                        simp only [fillTo, dstOf, List.getElem?_toArray, List.getElem?_cons_zero, List.getElem?_cons_succ, Option.bind_some, Act.put, List.setIfInBounds_toArray, List.set_cons_zero, List.set_cons_succ, f10]
                        clear f10
                        obtain ⟨VV, hVV⟩ : ∃ VV, vs 7 = VV := ⟨_, rfl⟩
                        rw [hVV] at f7 ⊢
                        clear hVV
                        have f7 : RowT T 28 2 w5.heap.size wq VV (0 + 1) := f7
                        go_wp2_with (at_builtin; refine wpList_append_T _ rfl (.tmp 97) (.tmp 100) 25 rfl w5 w5.heap.size T 28 i0 _ 2 16 Try.underlying25 hi iz0 iz1 iz2 rfl (by omega) (by omega) VV (0 + 1) rfl f7 (some ⟨G, oo, none⟩) (m - 0) (c1 - 0) rfl (fun e => by cases e) (by rw [HTL.out]; omega) (by rw [HT3.out]; exact HDR.out wq hI) (by omega) (Nat.le_refl _) (New.le hI) hI ?_; intro v2 w9 r2 n2 k2 l2)
                        exact ⟨_, rfl, n2, ⟨k2, l2⟩, by rw [HFF.out]; exact r2⟩
                    · intro vs kq wq hI hF
                      have f11 : pG T w5.heap.size (0 + 1 + (m - 0)) (vs 11) wq := (by have h := hF 11 (by omega); rw [HFF.out] at h; exact h)
                      clear hF HFF FF
                      have hI : New w5 wq := hI
                      obtain ⟨hT0, g9, c9, e11, _, o9⟩ := f11
                      have em : 0 + 1 + (m - 0) = m + 1 := by omega
                      rw [em] at o9
                      simp only [em] at e11
                      rw [HT4.out] at o9
                      simp only [fillTo, dstOf, List.getElem?_toArray, List.getElem?_cons_zero, List.getElem?_cons_succ, Option.bind_some, Act.put, List.setIfInBounds_toArray, List.set_cons_zero, List.set_cons_succ, e11, List.drop_succ_cons, List.drop_zero, List.drop_nil]
                      clear e11
                      have HO9 := Lib.hid (o9.less (hN5.le))
                      have HN9 := Lib.hid (hN5.trans hI)
                      clear o9 hI
                      go_wp2_with fail
                      go_roundw
                      case rel => exact ⟨t + 1, g9, m + 1, c9, _, by omega, by go_num, rfl, by omega, HLX.out, HO9.out, HSX.out, HPX.out, HN9.out⟩
                      case measure => simp [intOf]; omega
                  · have hap : 0 < a := by omega
                    have hap2 : (0 : Int) < (a : Int) := by omega
                    obtain ⟨j, rfl⟩ : ∃ j, a = j + 1 := ⟨a - 1, by omega⟩
                    obtain ⟨bo, oo, y, hbo, hy, hbl, d0, d1⟩ := points_at hor.ints (k := j) (by rw [HL.out]; omega)
                    obtain ⟨rfl, rfl⟩ : G = bo ∧ 0 = oo := by simpa using hbo
                    have HY := Lib.hid hy
                    clear hy hbo
                    rw [Nat.zero_add] at d0 d1
                    obtain ⟨ya, yt⟩ := y
                    simp only at d0 d1
                    have hjm : (j : Int) < (m : Int) := by omega
                    rcases (show X < ya ∨ (¬ X < ya ∧ ya ≠ X) ∨ (ya = X ∧ x0 < yt) ∨ (ya = X ∧ ¬ x0 < yt) by omega) with h | ⟨h, h2⟩ | ⟨h, h2⟩ | ⟨h, h2⟩
                    · have hd1 : decide (X < ya) = true := by simpa using h
                      go_wp2_with fail
                      refine wp_region_qb (by kernel_rfl) (by kernel_rfl) ?_
                      repeat (go_big_quiet_step ((fail)))
                      with_reducible refine wpQuiet_nil ?_
                      intro w5 b5
                      have hc5 := New.cells b5; have hf5 := New.marks b5; have hz5 := New.le b5; try simp only [World.size_alloc, World.size_setCell] at hz5
                      try have z5_0_0 : w.heap.size < w5.heap.size := by omega
                      try have z5_0_1 : w.heap.size + 1 < w5.heap.size := by omega
                      try have z5_0_2 : w.heap.size + 2 < w5.heap.size := by omega
                      try have z5_1_0 : w1.heap.size < w5.heap.size := by omega
                      try have z5_1_1 : w1.heap.size + 1 < w5.heap.size := by omega
                      try have z5_1_2 : w1.heap.size + 2 < w5.heap.size := by omega
                      try have z5_2_0 : w2.heap.size < w5.heap.size := by omega
                      try have z5_2_1 : w2.heap.size + 1 < w5.heap.size := by omega
                      try have z5_2_2 : w2.heap.size + 2 < w5.heap.size := by omega
                      try have z5_3_0 : w3.heap.size < w5.heap.size := by omega
                      try have z5_3_1 : w3.heap.size + 1 < w5.heap.size := by omega
                      try have z5_3_2 : w3.heap.size + 2 < w5.heap.size := by omega
                      try have z5_4_0 : w4.heap.size < w5.heap.size := by omega
                      try have z5_4_1 : w4.heap.size + 1 < w5.heap.size := by omega
                      try have z5_4_2 : w4.heap.size + 2 < w5.heap.size := by omega
                      go_wp2_with fail
                      go_roundw
                      case rel =>
                        refine ⟨j, by omega, by go_num, fun i z hi hz => ?_, HR3.out.trans b5⟩
                        rcases Nat.lt_or_ge j i with hji | hji
                        · exact HGT.out i z (by omega) hz
                        · obtain rfl : i = j := by omega
                          obtain rfl := Option.some.inj (hz.symm.trans HY.out)
                          simp [gtP]; omega
                      case measure => simp [intOf]
                    · have hd1 : decide (X < ya) = false := by simpa using h
                      have hd2 : (ya == X) = false := by simpa using h2
                      go_wp2_with fail
                      refine wp_region_qb (by kernel_rfl) (by kernel_rfl) ?_
                      repeat (go_big_quiet_step ((fail)))
                      with_reducible refine wpQuiet_nil ?_
                      intro w5 b5
                      have hc5 := New.cells b5; have hf5 := New.marks b5; have hz5 := New.le b5; try simp only [World.size_alloc, World.size_setCell] at hz5
                      try have z5_0_0 : w.heap.size < w5.heap.size := by omega
                      try have z5_0_1 : w.heap.size + 1 < w5.heap.size := by omega
                      try have z5_0_2 : w.heap.size + 2 < w5.heap.size := by omega
                      try have z5_1_0 : w1.heap.size < w5.heap.size := by omega
                      try have z5_1_1 : w1.heap.size + 1 < w5.heap.size := by omega
                      try have z5_1_2 : w1.heap.size + 2 < w5.heap.size := by omega
                      try have z5_2_0 : w2.heap.size < w5.heap.size := by omega
                      try have z5_2_1 : w2.heap.size + 1 < w5.heap.size := by omega
                      try have z5_2_2 : w2.heap.size + 2 < w5.heap.size := by omega
                      try have z5_3_0 : w3.heap.size < w5.heap.size := by omega
                      try have z5_3_1 : w3.heap.size + 1 < w5.heap.size := by omega
                      try have z5_3_2 : w3.heap.size + 2 < w5.heap.size := by omega
                      try have z5_4_0 : w4.heap.size < w5.heap.size := by omega
                      try have z5_4_1 : w4.heap.size + 1 < w5.heap.size := by omega
                      try have z5_4_2 : w4.heap.size + 2 < w5.heap.size := by omega
                      have hor5 := hor.new b5
                      have hN5 := HN2.out.trans (HR3.out.trans b5)
                      have t65 := blk_new t6r b5
                      have hl65 := blk_lt t65
                      clear hor t6r C0 C1 hl6
                      obtain ⟨C0, C1⟩ := cells2 t65
                      have hdec : j + 1 = 0 ∨ ∃ y, out[j + 1 - 1]? = some y ∧ gtP y ⟨X, x0⟩ = false := .inr ⟨_, HY.out, by simp [gtP]; omega⟩
                      have hins := ins_sorted HSO.out (by rw [HL.out]; exact ham) HGT.out hdec
                      have hperm := (ins_perm out (⟨X, x0⟩ : Pnt) (j + 1)).trans (HPE.out.append_right [(⟨X, x0⟩ : Pnt)])
                      clear hdec
                      obtain ⟨T, hT⟩ : ∃ T, flatP (out.take (j + 1) ++ ⟨X, x0⟩ :: out.drop (j + 1)) = T := ⟨_, rfl⟩
                      have hlT : (out.take (j + 1)).length = (j + 1) := by rw [List.length_take, HL.out]; omega
                      have HTL := Lib.hid (show T.length = (m + 1) * 2 by rw [← hT, flatP_len, (ins_perm out (⟨X, x0⟩ : Pnt) (j + 1)).length_eq, List.length_append, HL.out]; rfl)
                      have HT1 := Lib.hid (show (T.drop (0 * 2)).take ((j + 1) * 2) = flatP (out.take (j + 1)) by rw [← hT, flatP_append, Nat.zero_mul, List.drop_zero, List.take_left' (by rw [flatP_len, hlT])])
                      have HT2 := Lib.hid (show (T.drop ((j + 1) * 2)).take (1 * 2) = flatP [⟨X, x0⟩] by rw [← hT, flatP_append, List.drop_left' (by rw [flatP_len, hlT])]; rfl)
                      have HT3 := Lib.hid (show (T.drop (((j + 1) + 1) * 2)).take ((m - (j + 1)) * 2) = flatP (out.drop (j + 1)) by rw [← hT, show out.take (j + 1) ++ (⟨X, x0⟩ : Pnt) :: out.drop (j + 1) = (out.take (j + 1) ++ [(⟨X, x0⟩ : Pnt)]) ++ out.drop (j + 1) by simp, flatP_append, List.drop_left' (by rw [flatP_len, List.length_append, hlT]; rfl), List.take_of_length_le (by rw [flatP_len, List.length_drop, HL.out]; omega)])
                      have HT4 := Lib.hid (show T.take ((m + 1) * 2) = flatP (out.take (j + 1) ++ ⟨X, x0⟩ :: out.drop (j + 1)) by rw [hT, List.take_of_length_le (Nat.le_of_eq HTL.out)])
                      have HO1 := Lib.hid (show Ints w5 (some ⟨G, 0, none⟩) (flatP (out.take (j + 1))) from points_take hor5.ints (j + 1))
                      obtain ⟨oo, hoo⟩ : ∃ oo, (if c1 = (j + 1) then 0 else (j + 1) * 2) = oo := ⟨_, rfl⟩
                      have HDR : Hid (∀ wq, New w5 wq → Ints wq (some ⟨G, oo, none⟩) (flatP (out.drop (j + 1)))) := Lib.hid fun wq hI => by
                        by_cases hc : c1 = (j + 1)
                        · rw [List.drop_of_length_le (by rw [HL.out]; omega)]
                          exact IntsK.nil
                        · rw [← hoo, if_neg hc]
                          have := points_drop (hor5.ints.new hI) (j + 1)
                          rwa [Nat.zero_add] at this
                      have HSX := Lib.hid hins
                      have HLX := Lib.hid (show (out.take (j + 1) ++ (⟨X, x0⟩ : Pnt) :: out.drop (j + 1)).length = m + 1 by rw [(ins_perm out (⟨X, x0⟩ : Pnt) (j + 1)).length_eq, List.length_append, HL.out]; rfl)
                      have HPX := Lib.hid (show (out.take (j + 1) ++ (⟨X, x0⟩ : Pnt) :: out.drop (j + 1)).Perm (ptsOf (ups (hs.take k)) ++ ptsH x0 (t + 1)) from hperm.trans (by rw [ptsH_succ, HXX.out, List.append_assoc]))
                      clear hT hins hperm hlT hor5
                      go_wp2_with fail
                      obtain ⟨FF, hFF⟩ : ∃ FF, FF = factAt [pG T w5.heap.size 0, pVal (.slice (some ⟨G, 0, none⟩) m c1), pVal (.int .i64 ((j + 1) : Int)), pVal (.slice (some ⟨G, 0, none⟩) (j + 1) c1), pG T w5.heap.size (j + 1), pVal (.agg #[.int .i64 X, .int .i64 x0]), pLitP #[.int .i64 X, .int .i64 x0], pG T w5.heap.size ((j + 1) + 1), pVal (.slice (some ⟨G, 0, none⟩) m c1), pVal (.int .i64 ((j + 1) : Int)), pVal (.slice (some ⟨G, oo, none⟩) (m - (j + 1)) (c1 - (j + 1))), pG T w5.heap.size ((j + 1) + 1 + (m - (j + 1)))] := ⟨_, rfl⟩
                      have HFF := Lib.hid hFF
                      clear hFF
                      refine wp_region_tail 12 (by kernel_rfl) (by kernel_rfl) (by kernel_rfl) (by decide) (LrI w5) FF (StayG T 28 2 w5.heap.size) (by rw [HFF.out]; exact factAt_keptG (by
                          intro P hP
                          simp only [List.mem_cons, List.not_mem_nil, or_false] at hP
                          rcases hP with rfl | rfl | rfl | rfl | rfl | rfl | rfl | rfl | rfl | rfl | rfl | rfl
                          · exact keptG_t
                          · exact keptG_any (fun _ _ _ h => h)
                          · exact keptG_any (fun _ _ _ h => h)
                          · exact keptG_any (fun _ _ _ h => h)
                          · exact keptG_t
                          · exact keptG_any (fun _ _ _ h => h)
                          · exact keptG_lit (Nat.le_refl 2)
                          · exact keptG_t
                          · exact keptG_any (fun _ _ _ h => h)
                          · exact keptG_any (fun _ _ _ h => h)
                          · exact keptG_any (fun _ _ _ h => h)
                          · exact keptG_t
                          )) (New.drew (New.refl _)) ?_ ?_
                      · refine ⟨?_, ?_, ?_, ?_, ?_, ?_, ?_, ?_, ?_, ?_, ?_, ?_, trivial⟩
                        · -- 0
                          intro vs kq wq hI hF
                          clear hF
                          have hI : New w5 wq := hI
                          simp only [fillTo, dstOf, List.getElem?_toArray, List.getElem?_cons_zero, List.getElem?_cons_succ, Option.bind_some, Act.put, List.setIfInBounds_toArray, List.set_cons_zero, List.set_cons_succ]
                          go_wp2_with fail
                          exact ⟨_, rfl, New.trans hI ((New.refl _).alloc _), StayG.new ((New.refl _).alloc _), by rw [HFF.out]; exact ⟨Nat.le_trans (Nat.le_of_eq (Nat.zero_mul _)) (Nat.zero_le _), _, 0, rfl, fun _ => rfl, by rw [Nat.zero_mul, List.take_zero]; exact World.ownsRow_lit wq #[] 0 (New.le hI) (Nat.zero_le _) rfl⟩⟩
                        · -- 1
                          intro vs kq wq hI hF
                          clear hF
                          have hI : New w5 wq := hI
                          simp only [fillTo, dstOf, List.getElem?_toArray, List.getElem?_cons_zero, List.getElem?_cons_succ, Option.bind_some, Act.put, List.setIfInBounds_toArray, List.set_cons_zero, List.set_cons_succ]
                          go_wp2_with fail
                          exact ⟨_, rfl, hI, StayG.refl _ _ _ _ _, by rw [HFF.out]; exact rfl⟩
                        · -- 2
                          intro vs kq wq hI hF
                          clear hF
                          have hI : New w5 wq := hI
                          simp only [fillTo, dstOf, List.getElem?_toArray, List.getElem?_cons_zero, List.getElem?_cons_succ, Option.bind_some, Act.put, List.setIfInBounds_toArray, List.set_cons_zero, List.set_cons_succ]
                          go_wp2_with fail
                          exact ⟨_, rfl, hI, StayG.refl _ _ _ _ _, by rw [HFF.out]; exact rfl⟩
                        · -- 3
                          intro vs kq wq hI hF
                          have f1 : pVal (.slice (some ⟨G, 0, none⟩) m c1) (vs 1) wq := (by have h := hF 1 (by rfl); rw [HFF.out] at h; exact h)
                          unfold pVal at f1
                          have f2 : pVal (.int .i64 ((j + 1) : Int)) (vs 2) wq := (by have h := hF 2 (by rfl); rw [HFF.out] at h; exact h)
                          unfold pVal at f2
                          clear hF
                          have hI : New w5 wq := hI
                          simp only [fillTo, dstOf, List.getElem?_toArray, List.getElem?_cons_zero, List.getElem?_cons_succ, Option.bind_some, Act.put, List.setIfInBounds_toArray, List.set_cons_zero, List.set_cons_succ, f1, f2]
                          clear f1 f2
                          go_wp2_with fail
                          exact ⟨_, rfl, hI, StayG.refl _ _ _ _ _, by rw [HFF.out]; exact rfl⟩
                        · -- 4
                          intro vs kq wq hI hF
                          have f0 : pG T w5.heap.size 0 (vs 0) wq := (by have h := hF 0 (by rfl); rw [HFF.out] at h; exact h)
                          have f3 : pVal (.slice (some ⟨G, 0, none⟩) (j + 1) c1) (vs 3) wq := (by have h := hF 3 (by rfl); rw [HFF.out] at h; exact h)
                          unfold pVal at f3
                          clear hF
                          have hI : New w5 wq := hI
                          simp only [fillTo, dstOf, List.getElem?_toArray, List.getElem?_cons_zero, List.getElem?_cons_succ, Option.bind_some, Act.put, List.setIfInBounds_toArray, List.set_cons_zero, List.set_cons_succ, f3]
                          clear f3
                          obtain ⟨VV, hVV⟩ : ∃ VV, vs 0 = VV := ⟨_, rfl⟩
                          rw [hVV] at f0 ⊢
                          clear hVV
                          have f0 : RowT T 28 2 w5.heap.size wq VV 0 := f0
                          go_wp2_with (at_builtin; refine wpList_append_T _ rfl (.tmp 90) (.tmp 93) 25 rfl w5 w5.heap.size T 28 i0 _ 2 16 Try.underlying25 hi iz0 iz1 iz2 rfl (by omega) (by omega) VV 0 rfl f0 (some ⟨G, 0, none⟩) (j + 1) c1 rfl (fun e => by cases e) (by rw [HTL.out]; omega) (by rw [HT1.out]; exact HO1.out.new hI) (by omega) (Nat.le_refl _) (New.le hI) hI ?_; intro v2 w9 r2 n2 k2 l2)
                          exact ⟨_, rfl, n2, ⟨k2, l2⟩, by rw [HFF.out]; rw [Nat.zero_add] at r2; exact r2⟩
                        · -- 5
                          intro vs kq wq hI hF
                          clear hF
                          have hI : New w5 wq := hI
                          clear C0 C1
                          obtain ⟨C0, C1⟩ := cells2 (blk_new t65 hI)
                          simp only [fillTo, dstOf, List.getElem?_toArray, List.getElem?_cons_zero, List.getElem?_cons_succ, Option.bind_some, Act.put, List.setIfInBounds_toArray, List.set_cons_zero, List.set_cons_succ]
                          go_wp2_with fail
                          exact ⟨_, rfl, hI, StayG.refl _ _ _ _ _, by rw [HFF.out]; exact rfl⟩
                        · -- 6
                          intro vs kq wq hI hF
                          have f5 : pVal (.agg #[.int .i64 X, .int .i64 x0]) (vs 5) wq := (by have h := hF 5 (by rfl); rw [HFF.out] at h; exact h)
                          unfold pVal at f5
                          clear hF
                          have hI : New w5 wq := hI
                          simp only [fillTo, dstOf, List.getElem?_toArray, List.getElem?_cons_zero, List.getElem?_cons_succ, Option.bind_some, Act.put, List.setIfInBounds_toArray, List.set_cons_zero, List.set_cons_succ, f5]
                          clear f5
                          go_wp2_with fail
                          exact ⟨_, rfl, New.trans hI ((New.refl _).alloc _), StayG.new ((New.refl _).alloc _), by rw [HFF.out]; exact ⟨_, rfl, heap_alloc_new _ _⟩⟩
                        · -- 7
                          intro vs kq wq hI hF
                          have f4 : pG T w5.heap.size (j + 1) (vs 4) wq := (by have h := hF 4 (by rfl); rw [HFF.out] at h; exact h)
                          have f6 : pLitP #[.int .i64 X, .int .i64 x0] (vs 6) wq := (by have h := hF 6 (by rfl); rw [HFF.out] at h; exact h)
                          clear hF
                          have hI : New w5 wq := hI
                          obtain ⟨gl, e6, hgl⟩ := f6
                          simp only [fillTo, dstOf, List.getElem?_toArray, List.getElem?_cons_zero, List.getElem?_cons_succ, Option.bind_some, Act.put, List.setIfInBounds_toArray, List.set_cons_zero, List.set_cons_succ, e6]
                          clear e6
                          obtain ⟨VV, hVV⟩ : ∃ VV, vs 4 = VV := ⟨_, rfl⟩
                          rw [hVV] at f4 ⊢
                          clear hVV
                          have f4 : RowT T 28 2 w5.heap.size wq VV (j + 1) := f4
                          go_wp2_with (at_builtin; refine wpList_append_T _ rfl (.tmp 94) (.tmp 96) 25 rfl w5 w5.heap.size T 28 i0 _ 2 16 Try.underlying25 hi iz0 iz1 iz2 rfl (by omega) (by omega) VV (j + 1) rfl f4 (some ⟨gl, 0, none⟩) 1 1 rfl (fun e => by cases e) (by rw [HTL.out]; omega) (by rw [HT2.out]; exact litP_ints hgl) (by omega) (Nat.le_refl _) (New.le hI) hI ?_; intro v2 w9 r2 n2 k2 l2)
                          exact ⟨_, rfl, n2, ⟨k2, l2⟩, by rw [HFF.out]; exact r2⟩
                        · -- 8
                          intro vs kq wq hI hF
                          clear hF
                          have hI : New w5 wq := hI
                          simp only [fillTo, dstOf, List.getElem?_toArray, List.getElem?_cons_zero, List.getElem?_cons_succ, Option.bind_some, Act.put, List.setIfInBounds_toArray, List.set_cons_zero, List.set_cons_succ]
                          go_wp2_with fail
                          exact ⟨_, rfl, hI, StayG.refl _ _ _ _ _, by rw [HFF.out]; exact rfl⟩
                        · -- 9
                          intro vs kq wq hI hF
                          clear hF
                          have hI : New w5 wq := hI
                          simp only [fillTo, dstOf, List.getElem?_toArray, List.getElem?_cons_zero, List.getElem?_cons_succ, Option.bind_some, Act.put, List.setIfInBounds_toArray, List.set_cons_zero, List.set_cons_succ]
                          go_wp2_with fail
                          exact ⟨_, rfl, hI, StayG.refl _ _ _ _ _, by rw [HFF.out]; exact rfl⟩
                        · -- 10
                          intro vs kq wq hI hF
                          have f8 : pVal (.slice (some ⟨G, 0, none⟩) m c1) (vs 8) wq := (by have h := hF 8 (by rfl); rw [HFF.out] at h; exact h)
                          unfold pVal at f8
                          have f9 : pVal (.int .i64 ((j + 1) : Int)) (vs 9) wq := (by have h := hF 9 (by rfl); rw [HFF.out] at h; exact h)
                          unfold pVal at f9
                          clear hF
                          have hI : New w5 wq := hI
                          simp only [fillTo, dstOf, List.getElem?_toArray, List.getElem?_cons_zero, List.getElem?_cons_succ, Option.bind_some, Act.put, List.setIfInBounds_toArray, List.set_cons_zero, List.set_cons_succ, f8, f9]
                          clear f8 f9
                          by_cases hc : c1 = (j + 1)
                          · have ho : oo = 0 := by rw [← hoo, if_pos hc]
                            go_wp2_with fail
                            exact ⟨_, rfl, hI, StayG.refl _ _ _ _ _, by rw [HFF.out]; simp [factAt, pVal, ho, hc]⟩
                          · have ho : oo = (j + 1) * 2 := by rw [← hoo, if_neg hc]
                            go_wp2_with fail
                            exact ⟨_, rfl, hI, StayG.refl _ _ _ _ _, by rw [HFF.out]; simp [factAt, pVal, ho, hc]⟩
                        · -- 11
                          intro vs kq wq hI hF
                          have f7 : pG T w5.heap.size ((j + 1) + 1) (vs 7) wq := (by have h := hF 7 (by rfl); rw [HFF.out] at h; exact h)
                          have f10 : pVal (.slice (some ⟨G, oo, none⟩) (m - (j + 1)) (c1 - (j + 1))) (vs 10) wq := (by have h := hF 10 (by rfl); rw [HFF.out] at h; exact h)
                          unfold pVal at f10
                          clear hF
                          have hI : New w5 wq := hI
                          simp only [fillTo, dstOf, List.getElem?_toArray, List.getElem?_cons_zero, List.getElem?_cons_succ, Option.bind_some, Act.put, List.setIfInBounds_toArray, List.set_cons_zero, List.set_cons_succ, f10]
                          clear f10
                          obtain ⟨VV, hVV⟩ : ∃ VV, vs 7 = VV := ⟨_, rfl⟩
                          rw [hVV] at f7 ⊢
                          clear hVV
                          have f7 : RowT T 28 2 w5.heap.size wq VV ((j + 1) + 1) := f7
                          go_wp2_with (at_builtin; refine wpList_append_T _ rfl (.tmp 97) (.tmp 100) 25 rfl w5 w5.heap.size T 28 i0 _ 2 16 Try.underlying25 hi iz0 iz1 iz2 rfl (by omega) (by omega) VV ((j + 1) + 1) rfl f7 (some ⟨G, oo, none⟩) (m - (j + 1)) (c1 - (j + 1)) rfl (fun e => by cases e) (by rw [HTL.out]; omega) (by rw [HT3.out]; exact HDR.out wq hI) (by omega) (Nat.le_refl _) (New.le hI) hI ?_; intro v2 w9 r2 n2 k2 l2)
                          exact ⟨_, rfl, n2, ⟨k2, l2⟩, by rw [HFF.out]; exact r2⟩
                      · intro vs kq wq hI hF
                        have f11 : pG T w5.heap.size ((j + 1) + 1 + (m - (j + 1))) (vs 11) wq := (by have h := hF 11 (by omega); rw [HFF.out] at h; exact h)
                        clear hF HFF FF
                        have hI : New w5 wq := hI
                        obtain ⟨hT0, g9, c9, e11, _, o9⟩ := f11
                        have em : (j + 1) + 1 + (m - (j + 1)) = m + 1 := by omega
                        rw [em] at o9
                        simp only [em] at e11
                        rw [HT4.out] at o9
                        simp only [fillTo, dstOf, List.getElem?_toArray, List.getElem?_cons_zero, List.getElem?_cons_succ, Option.bind_some, Act.put, List.setIfInBounds_toArray, List.set_cons_zero, List.set_cons_succ, e11, List.drop_succ_cons, List.drop_zero, List.drop_nil]
                        clear e11
                        have HO9 := Lib.hid (o9.less (hN5.le))
                        have HN9 := Lib.hid (hN5.trans hI)
                        clear o9 hI
                        go_wp2_with fail
                        go_roundw
                        case rel => exact ⟨t + 1, g9, m + 1, c9, _, by omega, by go_num, rfl, by omega, HLX.out, HO9.out, HSX.out, HPX.out, HN9.out⟩
                        case measure => simp [intOf]; omega
                    · have h := h.symm
                      subst h
                      have hd1 : decide (X < X) = false := by simp
                      have hd3 : decide (x0 < yt) = true := by simpa using h2
                      go_wp2_with fail
                      refine wp_region_qb (by kernel_rfl) (by kernel_rfl) ?_
                      repeat (go_big_quiet_step ((fail)))
                      with_reducible refine wpQuiet_nil ?_
                      intro w5 b5
                      have hc5 := New.cells b5; have hf5 := New.marks b5; have hz5 := New.le b5; try simp only [World.size_alloc, World.size_setCell] at hz5
                      try have z5_0_0 : w.heap.size < w5.heap.size := by omega
                      try have z5_0_1 : w.heap.size + 1 < w5.heap.size := by omega
                      try have z5_0_2 : w.heap.size + 2 < w5.heap.size := by omega
                      try have z5_1_0 : w1.heap.size < w5.heap.size := by omega
                      try have z5_1_1 : w1.heap.size + 1 < w5.heap.size := by omega
                      try have z5_1_2 : w1.heap.size + 2 < w5.heap.size := by omega
                      try have z5_2_0 : w2.heap.size < w5.heap.size := by omega
                      try have z5_2_1 : w2.heap.size + 1 < w5.heap.size := by omega
                      try have z5_2_2 : w2.heap.size + 2 < w5.heap.size := by omega
                      try have z5_3_0 : w3.heap.size < w5.heap.size := by omega
                      try have z5_3_1 : w3.heap.size + 1 < w5.heap.size := by omega
                      try have z5_3_2 : w3.heap.size + 2 < w5.heap.size := by omega
                      try have z5_4_0 : w4.heap.size < w5.heap.size := by omega
                      try have z5_4_1 : w4.heap.size + 1 < w5.heap.size := by omega
                      try have z5_4_2 : w4.heap.size + 2 < w5.heap.size := by omega
                      go_wp2_with fail
                      go_roundw
                      case rel =>
                        refine ⟨j, by omega, by go_num, fun i z hi hz => ?_, HR3.out.trans b5⟩
                        rcases Nat.lt_or_ge j i with hji | hji
                        · exact HGT.out i z (by omega) hz
                        · obtain rfl : i = j := by omega
                          obtain rfl := Option.some.inj (hz.symm.trans HY.out)
                          simp [gtP]; omega
                      case measure => simp [intOf]
                    · have h := h.symm
                      subst h
                      have hd1 : decide (X < X) = false := by simp
                      have hd3 : decide (x0 < yt) = false := by simpa using h2
                      go_wp2_with fail
                      refine wp_region_qb (by kernel_rfl) (by kernel_rfl) ?_
                      repeat (go_big_quiet_step ((fail)))
                      with_reducible refine wpQuiet_nil ?_
                      intro w5 b5
                      have hc5 := New.cells b5; have hf5 := New.marks b5; have hz5 := New.le b5; try simp only [World.size_alloc, World.size_setCell] at hz5
                      try have z5_0_0 : w.heap.size < w5.heap.size := by omega
                      try have z5_0_1 : w.heap.size + 1 < w5.heap.size := by omega
                      try have z5_0_2 : w.heap.size + 2 < w5.heap.size := by omega
                      try have z5_1_0 : w1.heap.size < w5.heap.size := by omega
                      try have z5_1_1 : w1.heap.size + 1 < w5.heap.size := by omega
                      try have z5_1_2 : w1.heap.size + 2 < w5.heap.size := by omega
                      try have z5_2_0 : w2.heap.size < w5.heap.size := by omega
                      try have z5_2_1 : w2.heap.size + 1 < w5.heap.size := by omega
                      try have z5_2_2 : w2.heap.size + 2 < w5.heap.size := by omega
                      try have z5_3_0 : w3.heap.size < w5.heap.size := by omega
                      try have z5_3_1 : w3.heap.size + 1 < w5.heap.size := by omega
                      try have z5_3_2 : w3.heap.size + 2 < w5.heap.size := by omega
                      try have z5_4_0 : w4.heap.size < w5.heap.size := by omega
                      try have z5_4_1 : w4.heap.size + 1 < w5.heap.size := by omega
                      try have z5_4_2 : w4.heap.size + 2 < w5.heap.size := by omega
                      have hor5 := hor.new b5
                      have hN5 := HN2.out.trans (HR3.out.trans b5)
                      have t65 := blk_new t6r b5
                      have hl65 := blk_lt t65
                      clear hor t6r C0 C1 hl6
                      obtain ⟨C0, C1⟩ := cells2 t65
                      have hdec : j + 1 = 0 ∨ ∃ y, out[j + 1 - 1]? = some y ∧ gtP y ⟨X, x0⟩ = false := .inr ⟨_, HY.out, by simp [gtP]; omega⟩
                      have hins := ins_sorted HSO.out (by rw [HL.out]; exact ham) HGT.out hdec
                      have hperm := (ins_perm out (⟨X, x0⟩ : Pnt) (j + 1)).trans (HPE.out.append_right [(⟨X, x0⟩ : Pnt)])
                      clear hdec
                      obtain ⟨T, hT⟩ : ∃ T, flatP (out.take (j + 1) ++ ⟨X, x0⟩ :: out.drop (j + 1)) = T := ⟨_, rfl⟩
                      have hlT : (out.take (j + 1)).length = (j + 1) := by rw [List.length_take, HL.out]; omega
                      have HTL := Lib.hid (show T.length = (m + 1) * 2 by rw [← hT, flatP_len, (ins_perm out (⟨X, x0⟩ : Pnt) (j + 1)).length_eq, List.length_append, HL.out]; rfl)
                      have HT1 := Lib.hid (show (T.drop (0 * 2)).take ((j + 1) * 2) = flatP (out.take (j + 1)) by rw [← hT, flatP_append, Nat.zero_mul, List.drop_zero, List.take_left' (by rw [flatP_len, hlT])])
                      have HT2 := Lib.hid (show (T.drop ((j + 1) * 2)).take (1 * 2) = flatP [⟨X, x0⟩] by rw [← hT, flatP_append, List.drop_left' (by rw [flatP_len, hlT])]; rfl)
                      have HT3 := Lib.hid (show (T.drop (((j + 1) + 1) * 2)).take ((m - (j + 1)) * 2) = flatP (out.drop (j + 1)) by rw [← hT, show out.take (j + 1) ++ (⟨X, x0⟩ : Pnt) :: out.drop (j + 1) = (out.take (j + 1) ++ [(⟨X, x0⟩ : Pnt)]) ++ out.drop (j + 1) by simp, flatP_append, List.drop_left' (by rw [flatP_len, List.length_append, hlT]; rfl), List.take_of_length_le (by rw [flatP_len, List.length_drop, HL.out]; omega)])
                      have HT4 := Lib.hid (show T.take ((m + 1) * 2) = flatP (out.take (j + 1) ++ ⟨X, x0⟩ :: out.drop (j + 1)) by rw [hT, List.take_of_length_le (Nat.le_of_eq HTL.out)])
                      have HO1 := Lib.hid (show Ints w5 (some ⟨G, 0, none⟩) (flatP (out.take (j + 1))) from points_take hor5.ints (j + 1))
                      obtain ⟨oo, hoo⟩ : ∃ oo, (if c1 = (j + 1) then 0 else (j + 1) * 2) = oo := ⟨_, rfl⟩
                      have HDR : Hid (∀ wq, New w5 wq → Ints wq (some ⟨G, oo, none⟩) (flatP (out.drop (j + 1)))) := Lib.hid fun wq hI => by
                        by_cases hc : c1 = (j + 1)
                        · rw [List.drop_of_length_le (by rw [HL.out]; omega)]
                          exact IntsK.nil
                        · rw [← hoo, if_neg hc]
                          have := points_drop (hor5.ints.new hI) (j + 1)
                          rwa [Nat.zero_add] at this
                      have HSX := Lib.hid hins
                      have HLX := Lib.hid (show (out.take (j + 1) ++ (⟨X, x0⟩ : Pnt) :: out.drop (j + 1)).length = m + 1 by rw [(ins_perm out (⟨X, x0⟩ : Pnt) (j + 1)).length_eq, List.length_append, HL.out]; rfl)
                      have HPX := Lib.hid (show (out.take (j + 1) ++ (⟨X, x0⟩ : Pnt) :: out.drop (j + 1)).Perm (ptsOf (ups (hs.take k)) ++ ptsH x0 (t + 1)) from hperm.trans (by rw [ptsH_succ, HXX.out, List.append_assoc]))
                      clear hT hins hperm hlT hor5
                      go_wp2_with fail
                      obtain ⟨FF, hFF⟩ : ∃ FF, FF = factAt [pG T w5.heap.size 0, pVal (.slice (some ⟨G, 0, none⟩) m c1), pVal (.int .i64 ((j + 1) : Int)), pVal (.slice (some ⟨G, 0, none⟩) (j + 1) c1), pG T w5.heap.size (j + 1), pVal (.agg #[.int .i64 X, .int .i64 x0]), pLitP #[.int .i64 X, .int .i64 x0], pG T w5.heap.size ((j + 1) + 1), pVal (.slice (some ⟨G, 0, none⟩) m c1), pVal (.int .i64 ((j + 1) : Int)), pVal (.slice (some ⟨G, oo, none⟩) (m - (j + 1)) (c1 - (j + 1))), pG T w5.heap.size ((j + 1) + 1 + (m - (j + 1)))] := ⟨_, rfl⟩
                      have HFF := Lib.hid hFF
                      clear hFF
                      refine wp_region_tail 12 (by kernel_rfl) (by kernel_rfl) (by kernel_rfl) (by decide) (LrI w5) FF (StayG T 28 2 w5.heap.size) (by rw [HFF.out]; exact factAt_keptG (by
                          intro P hP
                          simp only [List.mem_cons, List.not_mem_nil, or_false] at hP
                          rcases hP with rfl | rfl | rfl | rfl | rfl | rfl | rfl | rfl | rfl | rfl | rfl | rfl
                          · exact keptG_t
                          · exact keptG_any (fun _ _ _ h => h)
                          · exact keptG_any (fun _ _ _ h => h)
                          · exact keptG_any (fun _ _ _ h => h)
                          · exact keptG_t
                          · exact keptG_any (fun _ _ _ h => h)
                          · exact keptG_lit (Nat.le_refl 2)
                          · exact keptG_t
                          · exact keptG_any (fun _ _ _ h => h)
                          · exact keptG_any (fun _ _ _ h => h)
                          · exact keptG_any (fun _ _ _ h => h)
                          · exact keptG_t
                          )) (New.drew (New.refl _)) ?_ ?_
                      · refine ⟨?_, ?_, ?_, ?_, ?_, ?_, ?_, ?_, ?_, ?_, ?_, ?_, trivial⟩
                        · -- 0
                          intro vs kq wq hI hF
                          clear hF
                          have hI : New w5 wq := hI
                          simp only [fillTo, dstOf, List.getElem?_toArray, List.getElem?_cons_zero, List.getElem?_cons_succ, Option.bind_some, Act.put, List.setIfInBounds_toArray, List.set_cons_zero, List.set_cons_succ]
                          go_wp2_with fail
                          exact ⟨_, rfl, New.trans hI ((New.refl _).alloc _), StayG.new ((New.refl _).alloc _), by rw [HFF.out]; exact ⟨Nat.le_trans (Nat.le_of_eq (Nat.zero_mul _)) (Nat.zero_le _), _, 0, rfl, fun _ => rfl, by rw [Nat.zero_mul, List.take_zero]; exact World.ownsRow_lit wq #[] 0 (New.le hI) (Nat.zero_le _) rfl⟩⟩
                        · -- 1
                          intro vs kq wq hI hF
                          clear hF
                          have hI : New w5 wq := hI
                          simp only [fillTo, dstOf, List.getElem?_toArray, List.getElem?_cons_zero, List.getElem?_cons_succ, Option.bind_some, Act.put, List.setIfInBounds_toArray, List.set_cons_zero, List.set_cons_succ]
                          go_wp2_with fail
                          exact ⟨_, rfl, hI, StayG.refl _ _ _ _ _, by rw [HFF.out]; exact rfl⟩
                        · -- 2
                          intro vs kq wq hI hF
                          clear hF
                          have hI : New w5 wq := hI
                          simp only [fillTo, dstOf, List.getElem?_toArray, List.getElem?_cons_zero, List.getElem?_cons_succ, Option.bind_some, Act.put, List.setIfInBounds_toArray, List.set_cons_zero, List.set_cons_succ]
                          go_wp2_with fail
                          exact ⟨_, rfl, hI, StayG.refl _ _ _ _ _, by rw [HFF.out]; exact rfl⟩
                        · -- 3
                          intro vs kq wq hI hF
                          have f1 : pVal (.slice (some ⟨G, 0, none⟩) m c1) (vs 1) wq := (by have h := hF 1 (by rfl); rw [HFF.out] at h; exact h)
                          unfold pVal at f1
                          have f2 : pVal (.int .i64 ((j + 1) : Int)) (vs 2) wq := (by have h := hF 2 (by rfl); rw [HFF.out] at h; exact h)
                          unfold pVal at f2
                          clear hF
                          have hI : New w5 wq := hI
                          simp only [fillTo, dstOf, List.getElem?_toArray, List.getElem?_cons_zero, List.getElem?_cons_succ, Option.bind_some, Act.put, List.setIfInBounds_toArray, List.set_cons_zero, List.set_cons_succ, f1, f2]
                          clear f1 f2
                          go_wp2_with fail
                          exact ⟨_, rfl, hI, StayG.refl _ _ _ _ _, by rw [HFF.out]; exact rfl⟩
                        · -- 4
                          intro vs kq wq hI hF
                          have f0 : pG T w5.heap.size 0 (vs 0) wq := (by have h := hF 0 (by rfl); rw [HFF.out] at h; exact h)
                          have f3 : pVal (.slice (some ⟨G, 0, none⟩) (j + 1) c1) (vs 3) wq := (by have h := hF 3 (by rfl); rw [HFF.out] at h; exact h)
                          unfold pVal at f3
                          clear hF
                          have hI : New w5 wq := hI
                          simp only [fillTo, dstOf, List.getElem?_toArray, List.getElem?_cons_zero, List.getElem?_cons_succ, Option.bind_some, Act.put, List.setIfInBounds_toArray, List.set_cons_zero, List.set_cons_succ, f3]
                          clear f3
                          obtain ⟨VV, hVV⟩ : ∃ VV, vs 0 = VV := ⟨_, rfl⟩
                          rw [hVV] at f0 ⊢
                          clear hVV
                          have f0 : RowT T 28 2 w5.heap.size wq VV 0 := f0
                          go_wp2_with (at_builtin; refine wpList_append_T _ rfl (.tmp 90) (.tmp 93) 25 rfl w5 w5.heap.size T 28 i0 _ 2 16 Try.underlying25 hi iz0 iz1 iz2 rfl (by omega) (by omega) VV 0 rfl f0 (some ⟨G, 0, none⟩) (j + 1) c1 rfl (fun e => by cases e) (by rw [HTL.out]; omega) (by rw [HT1.out]; exact HO1.out.new hI) (by omega) (Nat.le_refl _) (New.le hI) hI ?_; intro v2 w9 r2 n2 k2 l2)
                          exact ⟨_, rfl, n2, ⟨k2, l2⟩, by rw [HFF.out]; rw [Nat.zero_add] at r2; exact r2⟩
                        · -- 5
                          intro vs kq wq hI hF
                          clear hF
                          have hI : New w5 wq := hI
                          clear C0 C1
                          obtain ⟨C0, C1⟩ := cells2 (blk_new t65 hI)
                          simp only [fillTo, dstOf, List.getElem?_toArray, List.getElem?_cons_zero, List.getElem?_cons_succ, Option.bind_some, Act.put, List.setIfInBounds_toArray, List.set_cons_zero, List.set_cons_succ]
                          go_wp2_with fail
                          exact ⟨_, rfl, hI, StayG.refl _ _ _ _ _, by rw [HFF.out]; exact rfl⟩
                        · -- 6
                          intro vs kq wq hI hF
                          have f5 : pVal (.agg #[.int .i64 X, .int .i64 x0]) (vs 5) wq := (by have h := hF 5 (by rfl); rw [HFF.out] at h; exact h)
                          unfold pVal at f5
                          clear hF
                          have hI : New w5 wq := hI
                          simp only [fillTo, dstOf, List.getElem?_toArray, List.getElem?_cons_zero, List.getElem?_cons_succ, Option.bind_some, Act.put, List.setIfInBounds_toArray, List.set_cons_zero, List.set_cons_succ, f5]
                          clear f5
                          go_wp2_with fail
                          exact ⟨_, rfl, New.trans hI ((New.refl _).alloc _), StayG.new ((New.refl _).alloc _), by rw [HFF.out]; exact ⟨_, rfl, heap_alloc_new _ _⟩⟩
                        · -- 7
                          intro vs kq wq hI hF
                          have f4 : pG T w5.heap.size (j + 1) (vs 4) wq := (by have h := hF 4 (by rfl); rw [HFF.out] at h; exact h)
                          have f6 : pLitP #[.int .i64 X, .int .i64 x0] (vs 6) wq := (by have h := hF 6 (by rfl); rw [HFF.out] at h; exact h)
                          clear hF
                          have hI : New w5 wq := hI
                          obtain ⟨gl, e6, hgl⟩ := f6
                          simp only [fillTo, dstOf, List.getElem?_toArray, List.getElem?_cons_zero, List.getElem?_cons_succ, Option.bind_some, Act.put, List.setIfInBounds_toArray, List.set_cons_zero, List.set_cons_succ, e6]
                          clear e6
                          obtain ⟨VV, hVV⟩ : ∃ VV, vs 4 = VV := ⟨_, rfl⟩
                          rw [hVV] at f4 ⊢
                          clear hVV
                          have f4 : RowT T 28 2 w5.heap.size wq VV (j + 1) := f4
                          go_wp2_with (at_builtin; refine wpList_append_T _ rfl (.tmp 94) (.tmp 96) 25 rfl w5 w5.heap.size T 28 i0 _ 2 16 Try.underlying25 hi iz0 iz1 iz2 rfl (by omega) (by omega) VV (j + 1) rfl f4 (some ⟨gl, 0, none⟩) 1 1 rfl (fun e => by cases e) (by rw [HTL.out]; omega) (by rw [HT2.out]; exact litP_ints hgl) (by omega) (Nat.le_refl _) (New.le hI) hI ?_; intro v2 w9 r2 n2 k2 l2)
                          exact ⟨_, rfl, n2, ⟨k2, l2⟩, by rw [HFF.out]; exact r2⟩
                        · -- 8
                          intro vs kq wq hI hF
                          clear hF
                          have hI : New w5 wq := hI
                          simp only [fillTo, dstOf, List.getElem?_toArray, List.getElem?_cons_zero, List.getElem?_cons_succ, Option.bind_some, Act.put, List.setIfInBounds_toArray, List.set_cons_zero, List.set_cons_succ]
                          go_wp2_with fail
                          exact ⟨_, rfl, hI, StayG.refl _ _ _ _ _, by rw [HFF.out]; exact rfl⟩
                        · -- 9
                          intro vs kq wq hI hF
                          clear hF
                          have hI : New w5 wq := hI
                          simp only [fillTo, dstOf, List.getElem?_toArray, List.getElem?_cons_zero, List.getElem?_cons_succ, Option.bind_some, Act.put, List.setIfInBounds_toArray, List.set_cons_zero, List.set_cons_succ]
                          go_wp2_with fail
                          exact ⟨_, rfl, hI, StayG.refl _ _ _ _ _, by rw [HFF.out]; exact rfl⟩
                        · -- 10
                          intro vs kq wq hI hF
                          have f8 : pVal (.slice (some ⟨G, 0, none⟩) m c1) (vs 8) wq := (by have h := hF 8 (by rfl); rw [HFF.out] at h; exact h)
                          unfold pVal at f8
                          have f9 : pVal (.int .i64 ((j + 1) : Int)) (vs 9) wq := (by have h := hF 9 (by rfl); rw [HFF.out] at h; exact h)
                          unfold pVal at f9
                          clear hF
                          have hI : New w5 wq := hI
                          simp only [fillTo, dstOf, List.getElem?_toArray, List.getElem?_cons_zero, List.getElem?_cons_succ, Option.bind_some, Act.put, List.setIfInBounds_toArray, List.set_cons_zero, List.set_cons_succ, f8, f9]
                          clear f8 f9
                          by_cases hc : c1 = (j + 1)
                          · have ho : oo = 0 := by rw [← hoo, if_pos hc]
                            go_wp2_with fail
                            exact ⟨_, rfl, hI, StayG.refl _ _ _ _ _, by rw [HFF.out]; simp [factAt, pVal, ho, hc]⟩
                          · have ho : oo = (j + 1) * 2 := by rw [← hoo, if_neg hc]
                            go_wp2_with fail
                            exact ⟨_, rfl, hI, StayG.refl _ _ _ _ _, by rw [HFF.out]; simp [factAt, pVal, ho, hc]⟩
                        · -- 11
                          intro vs kq wq hI hF
                          have f7 : pG T w5.heap.size ((j + 1) + 1) (vs 7) wq := (by have h := hF 7 (by rfl); rw [HFF.out] at h; exact h)
                          have f10 : pVal (.slice (some ⟨G, oo, none⟩) (m - (j + 1)) (c1 - (j + 1))) (vs 10) wq := (by have h := hF 10 (by rfl); rw [HFF.out] at h; exact h)
                          unfold pVal at f10
                          clear hF
                          have hI : New w5 wq := hI
                          simp only [fillTo, dstOf, List.getElem?_toArray, List.getElem?_cons_zero, List.getElem?_cons_succ, Option.bind_some, Act.put, List.setIfInBounds_toArray, List.set_cons_zero, List.set_cons_succ, f10]
                          clear f10
                          obtain ⟨VV, hVV⟩ : ∃ VV, vs 7 = VV := ⟨_, rfl⟩
                          rw [hVV] at f7 ⊢
                          clear hVV
                          have f7 : RowT T 28 2 w5.heap.size wq VV ((j + 1) + 1) := f7
                          go_wp2_with (at_builtin; refine wpList_append_T _ rfl (.tmp 97) (.tmp 100) 25 rfl w5 w5.heap.size T 28 i0 _ 2 16 Try.underlying25 hi iz0 iz1 iz2 rfl (by omega) (by omega) VV ((j + 1) + 1) rfl f7 (some ⟨G, oo, none⟩) (m - (j + 1)) (c1 - (j + 1)) rfl (fun e => by cases e) (by rw [HTL.out]; omega) (by rw [HT3.out]; exact HDR.out wq hI) (by omega) (Nat.le_refl _) (New.le hI) hI ?_; intro v2 w9 r2 n2 k2 l2)
                          exact ⟨_, rfl, n2, ⟨k2, l2⟩, by rw [HFF.out]; exact r2⟩
                      · intro vs kq wq hI hF
                        have f11 : pG T w5.heap.size ((j + 1) + 1 + (m - (j + 1))) (vs 11) wq := (by have h := hF 11 (by omega); rw [HFF.out] at h; exact h)
                        clear hF HFF FF
                        have hI : New w5 wq := hI
                        obtain ⟨hT0, g9, c9, e11, _, o9⟩ := f11
                        have em : (j + 1) + 1 + (m - (j + 1)) = m + 1 := by omega
                        rw [em] at o9
                        simp only [em] at e11
                        rw [HT4.out] at o9
                        simp only [fillTo, dstOf, List.getElem?_toArray, List.getElem?_cons_zero, List.getElem?_cons_succ, Option.bind_some, Act.put, List.setIfInBounds_toArray, List.set_cons_zero, List.set_cons_succ, e11, List.drop_succ_cons, List.drop_zero, List.drop_nil]
                        clear e11
                        have HO9 := Lib.hid (o9.less (hN5.le))
                        have HN9 := Lib.hid (hN5.trans hI)
                        clear o9 hI
                        go_wp2_with fail
                        go_roundw
                        case rel => exact ⟨t + 1, g9, m + 1, c9, _, by omega, by go_num, rfl, by omega, HLX.out, HO9.out, HSX.out, HPX.out, HN9.out⟩
                        case measure => simp [intOf]; omega
            · obtain rfl : t = 3 * W := by omega
              go_wp2_with fail
              go_roundw
              case rel =>
                refine ⟨k + 1, G, m, c1, out, by omega, by go_num, rfl, by omega, hlo, ho, hso, ?_, hnew⟩
                rw [HX.out, ptsOf_append]
                exact hpe
              case measure => simp [intOf]; omega
        · have hup' : (x2 == 1) = false := by simpa using hup
          go_wp2_with fail
          go_loopw [3, 5] (fun v i wr => v = .slice (some ⟨G, 0, none⟩) m c1 ∧ i = .int .i64 0 ∧ New w1 wr) (fun _ _ _ => 0)
          case atStart => exact ⟨rfl, rfl, New.refl _⟩
          case round =>
            obtain ⟨rfl, rfl, hr1⟩ := hrel
            have hnr := hnew1.trans hr1
            obtain ⟨b2, o2, x, hbo, hx, hb, c0, c1', c2⟩ := hosts_at (h.new hnr) (k := k) (by rw [HN.out]; exact hlt)
            obtain ⟨rfl, rfl⟩ : b = b2 ∧ o = o2 := by simpa using hbo
            obtain rfl := Option.some.inj (hx.symm.trans HXX0.out)
            simp only at c0 c1' c2
            clear hx hbo
            have h3W : (0 : Int) < 3 * (W : Int) := by omega
            have h3d : decide ((0 : Int) < 3 * (W : Int)) = true := by simpa using h3W
            go_wp2_with fail
            go_roundw
            case rel =>
              refine ⟨k + 1, G, m, c1, out, by omega, by go_num, rfl, by omega, hlo, ho1.new hr1, hso, ?_, hnr⟩
              rw [HX.out, hup']
              simpa using hpe
            case measure => simp [intOf]; omega
      · obtain rfl : k = n := by omega
        have HU := Lib.hid (HUQ.out out hso (by rwa [List.take_of_length_le (Nat.le_of_eq HN.out)] at hpe))
        have hcm := ho.capMP
        have hcx := ho.capX
        go_wp2_with fail
        go_ret
        rw [HU.out, hlo]
        exact ⟨_, c1, rfl, hcx, hcm, ho, hnew⟩
end Go.Proofs.Ytbnehcaallehbaa
