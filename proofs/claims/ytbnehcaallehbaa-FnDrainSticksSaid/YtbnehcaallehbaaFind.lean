/- The host of a flow; how many flows are on a host. -/
import Derived.Test.YtbnehcaallehbaaTabI
import Derived.Test.YtbnehcaallehbaaInts
namespace Go.Proofs.Ytbnehcaallehbaa
set_option linter.unusedVariables false
set_option linter.unusedSimpArgs false
open Go.RowKit Go.Sort

def tosOf (es : List Ent) : List Int := es.map fun e => e.to
theorem tosOf_at {es : List Ent} {i : Nat} {e : Ent} (h : es[i]? = some e) : (tosOf es)[i]? = some e.to := by simp [tosOf, h]
theorem tosOf_len (es : List Ent) : (tosOf es).length = es.length := by simp [tosOf]
def flowsZ (sz st : Int) (es : List Ent) (H : Int) : Int := if tabB sz st es = true then (((tosOf es).count H : Nat) : Int) else -1
theorem flowsZ_no {sz st : Int} {es : List Ent} {H : Int} (h : tabB sz st es = false) : flowsZ sz st es H = -1 := by simp [flowsZ, h]
theorem flowsZ_yes {sz st : Int} {es : List Ent} {H : Int} (h : tabB sz st es = true) : flowsZ sz st es H = (((tosOf es).count H : Nat) : Int) := by simp [flowsZ, h]
def findZ (sz st : Int) (es : List Ent) (a b c d k : Int) : Int := if tabB sz st es = true then (match es.find? fun e => eqF e a b c d k with
  | some e => e.to
  | none => -1) else -1
theorem findZ_no {sz st : Int} {es : List Ent} {a b c d k : Int} (h : tabB sz st es = false) : findZ sz st es a b c d k = -1 := by simp [findZ, h]
theorem findZ_hit {sz st : Int} {es : List Ent} {a b c d k : Int} (h : tabB sz st es = true) {i : Nat} {x : Ent} (hx : es[i]? = some x) (hN : eqF x a b c d k = true) (hno : ∀ j, j < i → ∀ y, es[j]? = some y → eqF y a b c d k = false) : findZ sz st es a b c d k = x.to := by
  have hk : i < es.length := (List.getElem?_eq_some_iff.1 hx).1
  have : es.find? (fun e => eqF e a b c d k) = some x := by
    rw [List.find?_eq_some_iff_getElem]
    refine ⟨hN, i, hk, (List.getElem?_eq_some_iff.1 hx).2, fun j hj => ?_⟩
    have := hno j hj es[j] (by simp [Nat.lt_trans hj hk])
    simpa using this
  simp [findZ, h, this]
theorem findZ_none {sz st : Int} {es : List Ent} {a b c d k : Int} (hno : ∀ j, j < es.length → ∀ y, es[j]? = some y → eqF y a b c d k = false) : findZ sz st es a b c d k = -1 := by
  have : es.find? (fun e => eqF e a b c d k) = none := by
    rw [List.find?_eq_none]
    intro x hx
    obtain ⟨i, hi, rfl⟩ := List.getElem_of_mem hx
    simpa using hno i hi es[i] (by simp [hi])
  unfold findZ
  rw [this]
  split <;> rfl

theorem find1_any (x0 x1 x2 x3 x4 x5 x6 fa fb fc fd fk : Int) (g : Nat) (w : World) (hg : w.heap[g]? = some (.cells #[.int .i64 fa, .int .i64 fb, .int .i64 fc, .int .i64 fd, .int .i64 fk] 48 (0, 0))) :
    Calls Try.prog 104 #[.agg #[.int .i64 x0, .int .i64 x1, .int .i64 x2, .int .i64 x3, .int .i64 x4, .int .i64 x5, .int .i64 x6], .pointer (some ⟨g, 0, none⟩)] w fun e w' => e = .returned (.bool (eqF ⟨x0, x1, x2, x3, x4, x5, x6⟩ fa fb fc fd fk)) ∧ New w w' := by
  have hlt : g < w.heap.size := (Array.getElem?_eq_some_iff.1 hg).1
  obtain ⟨C0, C1, C2, C3, C4, Z0, Z1, Z2, Z3, Z4⟩ := cells5 hg
  clear hg
  by_cases he : x0 = fa ∧ x1 = fb ∧ x2 = fc ∧ x3 = fd ∧ x4 = fk
  · have HE := Lib.hid (show eqF ⟨x0, x1, x2, x3, x4, x5, x6⟩ fa fb fc fd fk = true from eqF_true.2 he)
    obtain ⟨rfl, rfl, rfl, rfl, rfl⟩ := he
    go_enter Try.func104, Try.ntmps104
    go_wp2_with fail
    go_ret
    exact ⟨by rw [HE.out]; rfl, (by repeat (first | with_reducible assumption | with_reducible exact New.refl _ | with_reducible refine New.alloc ?_ _ | with_reducible refine New.drew ?_ | with_reducible refine New.drewN ?_ _ | refine New.setCell ?_ (by first | (simp; done) | omega | (simp; omega)) _ | with_reducible refine New.trans ?_ (by with_reducible assumption)))⟩
  · have HE := Lib.hid (show eqF ⟨x0, x1, x2, x3, x4, x5, x6⟩ fa fb fc fd fk = false by
      cases hq : eqF ⟨x0, x1, x2, x3, x4, x5, x6⟩ fa fb fc fd fk
      · rfl
      · exact absurd (eqF_true.1 hq) he)
    have hcases : x0 ≠ fa ∨ (x0 = fa ∧ x1 ≠ fb) ∨ (x0 = fa ∧ x1 = fb ∧ x2 ≠ fc) ∨ (x0 = fa ∧ x1 = fb ∧ x2 = fc ∧ x3 ≠ fd) ∨ (x0 = fa ∧ x1 = fb ∧ x2 = fc ∧ x3 = fd ∧ x4 ≠ fk) := by omega
    clear he
    rcases hcases with h0 | ⟨rfl, h0⟩ | ⟨rfl, rfl, h0⟩ | ⟨rfl, rfl, rfl, h0⟩ | ⟨rfl, rfl, rfl, rfl, h0⟩
    all_goals
      have h1 := beq_false_of_ne h0
      have h2 := decide_eq_false h0
      go_enter Try.func104, Try.ntmps104
      go_wp2_with fail
      go_ret
      exact ⟨by rw [HE.out]; rfl, (by repeat (first | with_reducible assumption | with_reducible exact New.refl _ | with_reducible refine New.alloc ?_ _ | with_reducible refine New.drew ?_ | with_reducible refine New.drewN ?_ _ | refine New.setCell ?_ (by first | (simp; done) | omega | (simp; omega)) _ | with_reducible refine New.trans ?_ (by with_reducible assumption)))⟩
theorem indexEnt_any (A : Option Addr) (n c : Nat) (es : List Ent) (fa fb fc fd fk : Int) (g : Nat) (w : World) (hn : es.length = n) (hm : n ≤ maxLen) (h : Ints w A (flatE es)) (hg : w.heap[g]? = some (.cells #[.int .i64 fa, .int .i64 fb, .int .i64 fc, .int .i64 fd, .int .i64 fk] 48 (0, 0))) :
    Calls Try.prog 103 #[.slice A n c, .func (.func 104) #[] #[.pointer (some ⟨g, 0, none⟩)]] w fun e w' => e = .returned (.int .i64 (placeZ es fa fb fc fd fk)) ∧ New w w' := by
  unfold maxLen at hm
  have HN := Lib.hid hn
  have HG := Lib.hid hg
  have hgl : g < w.heap.size := (Array.getElem?_eq_some_iff.1 hg).1
  clear hn hg
  go_enter Try.func103, Try.ntmps103
  go_wp2_with fail
  go_loopw [8] (fun i wr => ∃ k : Nat, k ≤ n ∧ i = .int .i64 k ∧ Hid (∀ j, j < k → ∀ y, es[j]? = some y → eqF y fa fb fc fd fk = false) ∧ New w wr) (fun i _ => n - (intOf i).toNat)
  case atStart => exact ⟨0, Nat.zero_le _, rfl, Lib.hid (fun j hj => absurd hj (by omega)), New.refl _⟩
  case round =>
    obtain ⟨k, hk, rfl, HK, hnew⟩ := hrel
    by_cases hlt : k < n
    · obtain ⟨b, o, x, rfl, hx, hb, c0, c1, c2, c3, c4, c5, c6⟩ := ents_at (h.new hnew) (i := k) (by rw [HN.out]; exact hlt)
      have HX := Lib.hid hx
      clear hx
      obtain ⟨x0, x1, x2, x3, x4, x5, x6⟩ := x
      simp only at c0 c1 c2 c3 c4 c5 c6 HX
      have hki : (k : Int) < (n : Int) := by omega
      have HGr := Lib.hid ((Below.block hnew g hgl).trans HG.out)
      cases he : eqF ⟨x0, x1, x2, x3, x4, x5, x6⟩ fa fb fc fd fk
      · have HI := Lib.hid (show ∀ y, es[k]? = some y → eqF y fa fb fc fd fk = false by
          intro y hy
          rw [HX.out] at hy
          obtain rfl := Option.some.inj hy
          exact he)
        go_wp2_with fail
        refine (find1_any x0 x1 x2 x3 x4 x5 x6 fa fb fc fd fk g _ HGr.out).mono ?_
        rintro e w1 ⟨rfl, b1⟩
        rw [he]
        go_wp2_with fail
        go_roundw
        case rel => exact ⟨k + 1, by omega, by go_num, Lib.hid (all_succ (P := fun j => ∀ y, es[j]? = some y → eqF y fa fb fc fd fk = false) HK.out HI.out), (by repeat (first | with_reducible assumption | with_reducible exact New.refl _ | with_reducible refine New.alloc ?_ _ | with_reducible refine New.drew ?_ | with_reducible refine New.drewN ?_ _ | refine New.setCell ?_ (by first | (simp; done) | omega | (simp; omega)) _ | with_reducible refine New.trans ?_ (by with_reducible assumption)))⟩
        case measure => simp [intOf]; omega
      · have HI := Lib.hid (place_hit HX.out he HK.out)
        go_wp2_with fail
        refine (find1_any x0 x1 x2 x3 x4 x5 x6 fa fb fc fd fk g _ HGr.out).mono ?_
        rintro e w1 ⟨rfl, b1⟩
        rw [he]
        go_wp2_with fail
        go_ret
        exact ⟨by rw [HI.out]; rfl, (by repeat (first | with_reducible assumption | with_reducible exact New.refl _ | with_reducible refine New.alloc ?_ _ | with_reducible refine New.drew ?_ | with_reducible refine New.drewN ?_ _ | refine New.setCell ?_ (by first | (simp; done) | omega | (simp; omega)) _ | with_reducible refine New.trans ?_ (by with_reducible assumption)))⟩
    · obtain rfl : k = n := by omega
      have HI := Lib.hid (place_none (es := es) (by rw [HN.out]; exact HK.out))
      go_wp2_with fail
      go_ret
      exact ⟨by rw [HI.out]; rfl, (by repeat (first | with_reducible assumption | with_reducible exact New.refl _ | with_reducible refine New.alloc ?_ _ | with_reducible refine New.drew ?_ | with_reducible refine New.drewN ?_ _ | refine New.setCell ?_ (by first | (simp; done) | omega | (simp; omega)) _ | with_reducible refine New.trans ?_ (by with_reducible assumption)))⟩
theorem find_any (x y : Int) (A : Option Addr) (n c : Nat) (es : List Ent) (fa fb fc fd fk : Int) (w : World) (hn : es.length = n) (hm : n ≤ maxLen) (h : Ints w A (flatE es)) :
    Calls Try.prog 92 #[.agg #[.int .i64 x, .int .i64 y, .slice A n c], .agg #[.int .i64 fa, .int .i64 fb, .int .i64 fc, .int .i64 fd, .int .i64 fk]] w fun e w' => e = .returned (.int .i64 (placeZ es fa fb fc fd fk)) ∧ New w w' := by
  have hs := World.size_alloc (w := w) (o := .cells #[.int .i64 x, .int .i64 y, .slice A n c] 44)
  have hres : ((w.alloc (.cells #[.int .i64 x, .int .i64 y, .slice A n c] 44)).alloc (.cells #[.int .i64 fa, .int .i64 fb, .int .i64 fc, .int .i64 fd, .int .i64 fk] 48)).heap[w.heap.size + 1]? = some (.cells #[.int .i64 fa, .int .i64 fb, .int .i64 fc, .int .i64 fd, .int .i64 fk] 48 (0, 0)) := by
    rw [← hs]; exact heap_alloc_new _ _
  have HR := Lib.hid hres
  clear hs hres
  go_enter Try.func92, Try.ntmps92
  go_wp2_with fail
  refine (indexEnt_any A n c es fa fb fc fd fk (w.heap.size + 1) _ hn hm ((h.alloc _).alloc _) HR.out).mono ?_
  rintro e w1 ⟨rfl, b1⟩
  go_wp2_with fail
  go_ret
  exact ⟨rfl, (by repeat (first | with_reducible assumption | with_reducible exact New.refl _ | with_reducible refine New.alloc ?_ _ | with_reducible refine New.drew ?_ | with_reducible refine New.drewN ?_ _ | refine New.setCell ?_ (by first | (simp; done) | omega | (simp; omega)) _ | with_reducible refine New.trans ?_ (by with_reducible assumption)))⟩
set_option maxRecDepth 100000 in
theorem findFlow_impl (sz st : Int) (A : Option Addr) (n c : Nat) (es : List Ent) (fa fb fc fd fk : Int) (w : World) (hn : es.length = n) (hm : n ≤ 1048576) (h : Ints w A (flatE es)) :
    Calls Try.prog 56 #[.agg #[.int .i64 sz, .int .i64 st, .slice A n c], .agg #[.int .i64 fa, .int .i64 fb, .int .i64 fc, .int .i64 fd, .int .i64 fk]] w fun e w' => e = .returned (.int .i64 (findZ sz st es fa fb fc fd fk)) ∧ New w w' := by
  have hml : n ≤ maxLen := by unfold maxLen; omega
  have HN := Lib.hid hn
  have HH := Lib.hid h
  have hgr := gr_cells
  clear hn h
  cases hT : tabB sz st es
  · have HZ := Lib.hid (findZ_no (a := fa) (b := fb) (c := fc) (d := fd) (k := fk) hT)
    go_enter Try.func56, Try.ntmps56
    go_wp2_with fail
    refine (tableValid_impl sz st A n c es _ HN.out hm ((HH.out.alloc _).alloc _)).mono ?_
    rintro e w1 ⟨rfl, b1⟩
    rw [hT]
    have hc1 := New.cells b1; have hf1 := New.marks b1; have hz1 := New.le b1; try simp only [World.size_alloc, World.size_setCell] at hz1
    try have z1_0_0 : w.heap.size < w1.heap.size := by omega
    try have z1_0_1 : w.heap.size + 1 < w1.heap.size := by omega
    try have z1_0_2 : w.heap.size + 2 < w1.heap.size := by omega
    go_wp2_with fail
    go_ret
    exact ⟨by rw [HZ.out]; rfl, (by repeat (first | with_reducible assumption | with_reducible exact New.refl _ | with_reducible refine New.alloc ?_ _ | with_reducible refine New.drew ?_ | with_reducible refine New.drewN ?_ _ | refine New.setCell ?_ (by first | (simp; done) | omega | (simp; omega)) _ | with_reducible refine New.trans ?_ (by with_reducible assumption)))⟩
  rcases place_cases es fa fb fc fd fk with ⟨i, x, hx, hN, hno, hp⟩ | ⟨hno, hp⟩
  · have hin : i < n := by rw [← HN.out]; exact (List.getElem?_eq_some_iff.1 hx).1
    have HZ := Lib.hid (findZ_hit hT hx hN hno)
    have HP := Lib.hid hp
    have HX := Lib.hid hx
    clear hx hN hno hp
    go_enter Try.func56, Try.ntmps56
    go_wp2_with fail
    refine (tableValid_impl sz st A n c es _ HN.out hm ((HH.out.alloc _).alloc _)).mono ?_
    rintro e w1 ⟨rfl, b1⟩
    rw [hT]
    have hc1 := New.cells b1; have hf1 := New.marks b1; have hz1 := New.le b1; try simp only [World.size_alloc, World.size_setCell] at hz1
    try have z1_0_0 : w.heap.size < w1.heap.size := by omega
    try have z1_0_1 : w.heap.size + 1 < w1.heap.size := by omega
    try have z1_0_2 : w.heap.size + 2 < w1.heap.size := by omega
    have HI1 := Lib.hid (((HH.out.alloc (.cells #[.int .i64 sz, .int .i64 st, .slice A n c] 44)).alloc (.cells #[.int .i64 fa, .int .i64 fb, .int .i64 fc, .int .i64 fd, .int .i64 fk] 48)).new b1)
    go_wp2_with fail
    refine (find_any sz st A n c es fa fb fc fd fk _ HN.out hml HI1.out).mono ?_
    rintro e w2 ⟨rfl, b2⟩
    rw [HP.out]
    have hc2 := New.cells b2; have hf2 := New.marks b2; have hz2 := New.le b2; try simp only [World.size_alloc, World.size_setCell] at hz2
    try have z2_0_0 : w.heap.size < w2.heap.size := by omega
    try have z2_0_1 : w.heap.size + 1 < w2.heap.size := by omega
    try have z2_0_2 : w.heap.size + 2 < w2.heap.size := by omega
    try have z2_1_0 : w1.heap.size < w2.heap.size := by omega
    try have z2_1_1 : w1.heap.size + 1 < w2.heap.size := by omega
    try have z2_1_2 : w1.heap.size + 2 < w2.heap.size := by omega
    have HI2 := Lib.hid (HI1.out.new b2)
    obtain ⟨b, o, y, rfl, hy, hb, c0, c1, c2, c3, c4, c5, c6⟩ := ents_at HH.out (i := i) (by rw [HN.out]; exact hin)
    obtain rfl : x = y := by rw [HX.out] at hy; exact Option.some.inj hy
    clear hy c0 c1 c2 c3 c4 c6
    have hii : (i : Int) < (n : Int) := by omega
    go_wp2_with fail
    refine wp_region_qb (by kernel_rfl) (by kernel_rfl) ?_
    repeat (go_big_quiet_step ((exact gr_call ((find_any sz st (some ⟨b, o, none⟩) n c es fa fb fc fd fk _ HN.out hml (HI2.out.new (gr_new _ _ _))).mono fun _ _ h => by rw [HP.out] at h; exact h))))
    with_reducible refine wpQuiet_nil ?_
    intro w3 b3
    have hc3 := New.cells b3; have hf3 := New.marks b3; have hz3 := New.le b3; try simp only [World.size_alloc, World.size_setCell] at hz3
    try have z3_0_0 : w.heap.size < w3.heap.size := by omega
    try have z3_0_1 : w.heap.size + 1 < w3.heap.size := by omega
    try have z3_0_2 : w.heap.size + 2 < w3.heap.size := by omega
    try have z3_1_0 : w1.heap.size < w3.heap.size := by omega
    try have z3_1_1 : w1.heap.size + 1 < w3.heap.size := by omega
    try have z3_1_2 : w1.heap.size + 2 < w3.heap.size := by omega
    try have z3_2_0 : w2.heap.size < w3.heap.size := by omega
    try have z3_2_1 : w2.heap.size + 1 < w3.heap.size := by omega
    try have z3_2_2 : w2.heap.size + 2 < w3.heap.size := by omega
    go_wp2_with fail
    go_ret
    exact ⟨by rw [HZ.out]; rfl, (by repeat (first | with_reducible assumption | with_reducible exact New.refl _ | with_reducible refine New.alloc ?_ _ | with_reducible refine New.drew ?_ | with_reducible refine New.drewN ?_ _ | refine New.setCell ?_ (by first | (simp; done) | omega | (simp; omega)) _ | with_reducible refine New.trans ?_ (by with_reducible assumption)))⟩
  · have HZ := Lib.hid (findZ_none (sz := sz) (st := st) hno)
    have HP := Lib.hid hp
    clear hno hp
    go_enter Try.func56, Try.ntmps56
    go_wp2_with fail
    refine (tableValid_impl sz st A n c es _ HN.out hm ((HH.out.alloc _).alloc _)).mono ?_
    rintro e w1 ⟨rfl, b1⟩
    rw [hT]
    have hc1 := New.cells b1; have hf1 := New.marks b1; have hz1 := New.le b1; try simp only [World.size_alloc, World.size_setCell] at hz1
    try have z1_0_0 : w.heap.size < w1.heap.size := by omega
    try have z1_0_1 : w.heap.size + 1 < w1.heap.size := by omega
    try have z1_0_2 : w.heap.size + 2 < w1.heap.size := by omega
    have HI1 := Lib.hid (((HH.out.alloc (.cells #[.int .i64 sz, .int .i64 st, .slice A n c] 44)).alloc (.cells #[.int .i64 fa, .int .i64 fb, .int .i64 fc, .int .i64 fd, .int .i64 fk] 48)).new b1)
    go_wp2_with fail
    refine (find_any sz st A n c es fa fb fc fd fk _ HN.out hml HI1.out).mono ?_
    rintro e w2 ⟨rfl, b2⟩
    rw [HP.out]
    have hc2 := New.cells b2; have hf2 := New.marks b2; have hz2 := New.le b2; try simp only [World.size_alloc, World.size_setCell] at hz2
    try have z2_0_0 : w.heap.size < w2.heap.size := by omega
    try have z2_0_1 : w.heap.size + 1 < w2.heap.size := by omega
    try have z2_0_2 : w.heap.size + 2 < w2.heap.size := by omega
    try have z2_1_0 : w1.heap.size < w2.heap.size := by omega
    try have z2_1_1 : w1.heap.size + 1 < w2.heap.size := by omega
    try have z2_1_2 : w1.heap.size + 2 < w2.heap.size := by omega
    go_wp2_with fail
    go_ret
    exact ⟨by rw [HZ.out]; rfl, (by repeat (first | with_reducible assumption | with_reducible exact New.refl _ | with_reducible refine New.alloc ?_ _ | with_reducible refine New.drew ?_ | with_reducible refine New.drewN ?_ _ | refine New.setCell ?_ (by first | (simp; done) | omega | (simp; omega)) _ | with_reducible refine New.trans ?_ (by with_reducible assumption)))⟩
set_option maxRecDepth 100000 in
theorem findFlow_spec (sz st : Int) (A : Option Addr) (n c : Nat) (es : List Ent) (fa fb fc fd fk : Int) (w : World) (hn : es.length = n) (hnc : n ≤ c) (hm : n ≤ 1048576) (h : Ints w A (flatE es)) :
    Calls Try.prog 88 #[.agg #[.int .i64 sz, .int .i64 st, .slice A n c], .agg #[.int .i64 fa, .int .i64 fb, .int .i64 fc, .int .i64 fd, .int .i64 fk]] w fun e w' => e = .returned (.int .i64 (findZ sz st es fa fb fc fd fk)) ∧ New w w' := by
  have hml : n ≤ maxLen := by unfold maxLen; omega
  have HN := Lib.hid hn
  have HH := Lib.hid h
  clear hn h
  cases hT : tabB sz st es
  · have HZ := Lib.hid (findZ_no (a := fa) (b := fb) (c := fc) (d := fd) (k := fk) hT)
    go_enter Try.func88, Try.ntmps88
    go_wp2_with fail
    refine (tableValid_spec sz st A n c es _ HN.out hnc hm ((HH.out.alloc _).alloc _)).mono ?_
    rintro e w1 ⟨rfl, b1⟩
    rw [hT]
    have hc1 := New.cells b1; have hf1 := New.marks b1; have hz1 := New.le b1; try simp only [World.size_alloc, World.size_setCell] at hz1
    try have z1_0_0 : w.heap.size < w1.heap.size := by omega
    try have z1_0_1 : w.heap.size + 1 < w1.heap.size := by omega
    try have z1_0_2 : w.heap.size + 2 < w1.heap.size := by omega
    go_wp2_with fail
    go_ret
    exact ⟨by rw [HZ.out]; rfl, (by repeat (first | with_reducible assumption | with_reducible exact New.refl _ | with_reducible refine New.alloc ?_ _ | with_reducible refine New.drew ?_ | with_reducible refine New.drewN ?_ _ | refine New.setCell ?_ (by first | (simp; done) | omega | (simp; omega)) _ | with_reducible refine New.trans ?_ (by with_reducible assumption)))⟩
  rcases place_cases es fa fb fc fd fk with ⟨i, x, hx, hN, hno, hp⟩ | ⟨hno, hp⟩
  · have hin : i < n := by rw [← HN.out]; exact (List.getElem?_eq_some_iff.1 hx).1
    have HZ := Lib.hid (findZ_hit hT hx hN hno)
    have HP := Lib.hid hp
    have HX := Lib.hid hx
    clear hx hN hno hp
    go_enter Try.func88, Try.ntmps88
    go_wp2_with fail
    refine (tableValid_spec sz st A n c es _ HN.out hnc hm ((HH.out.alloc _).alloc _)).mono ?_
    rintro e w1 ⟨rfl, b1⟩
    rw [hT]
    have hc1 := New.cells b1; have hf1 := New.marks b1; have hz1 := New.le b1; try simp only [World.size_alloc, World.size_setCell] at hz1
    try have z1_0_0 : w.heap.size < w1.heap.size := by omega
    try have z1_0_1 : w.heap.size + 1 < w1.heap.size := by omega
    try have z1_0_2 : w.heap.size + 2 < w1.heap.size := by omega
    have HI1 := Lib.hid (((HH.out.alloc (.cells #[.int .i64 sz, .int .i64 st, .slice A n c] 44)).alloc (.cells #[.int .i64 fa, .int .i64 fb, .int .i64 fc, .int .i64 fd, .int .i64 fk] 48)).new b1)
    go_wp2_with fail
    refine (l9Place_any A n c es fa fb fc fd fk _ HN.out hml HI1.out).mono ?_
    rintro e w2 ⟨rfl, b2⟩
    rw [HP.out]
    have hc2 := New.cells b2; have hf2 := New.marks b2; have hz2 := New.le b2; try simp only [World.size_alloc, World.size_setCell] at hz2
    try have z2_0_0 : w.heap.size < w2.heap.size := by omega
    try have z2_0_1 : w.heap.size + 1 < w2.heap.size := by omega
    try have z2_0_2 : w.heap.size + 2 < w2.heap.size := by omega
    try have z2_1_0 : w1.heap.size < w2.heap.size := by omega
    try have z2_1_1 : w1.heap.size + 1 < w2.heap.size := by omega
    try have z2_1_2 : w1.heap.size + 2 < w2.heap.size := by omega
    obtain ⟨b, o, y, rfl, hy, hb, c0, c1, c2, c3, c4, c5, c6⟩ := ents_at HH.out (i := i) (by rw [HN.out]; exact hin)
    obtain rfl : x = y := by rw [HX.out] at hy; exact Option.some.inj hy
    clear hy c0 c1 c2 c3 c4 c6
    have hii : (i : Int) < (n : Int) := by omega
    go_wp2_with fail
    go_ret
    exact ⟨by rw [HZ.out]; rfl, (by repeat (first | with_reducible assumption | with_reducible exact New.refl _ | with_reducible refine New.alloc ?_ _ | with_reducible refine New.drew ?_ | with_reducible refine New.drewN ?_ _ | refine New.setCell ?_ (by first | (simp; done) | omega | (simp; omega)) _ | with_reducible refine New.trans ?_ (by with_reducible assumption)))⟩
  · have HZ := Lib.hid (findZ_none (sz := sz) (st := st) hno)
    have HP := Lib.hid hp
    clear hno hp
    go_enter Try.func88, Try.ntmps88
    go_wp2_with fail
    refine (tableValid_spec sz st A n c es _ HN.out hnc hm ((HH.out.alloc _).alloc _)).mono ?_
    rintro e w1 ⟨rfl, b1⟩
    rw [hT]
    have hc1 := New.cells b1; have hf1 := New.marks b1; have hz1 := New.le b1; try simp only [World.size_alloc, World.size_setCell] at hz1
    try have z1_0_0 : w.heap.size < w1.heap.size := by omega
    try have z1_0_1 : w.heap.size + 1 < w1.heap.size := by omega
    try have z1_0_2 : w.heap.size + 2 < w1.heap.size := by omega
    have HI1 := Lib.hid (((HH.out.alloc (.cells #[.int .i64 sz, .int .i64 st, .slice A n c] 44)).alloc (.cells #[.int .i64 fa, .int .i64 fb, .int .i64 fc, .int .i64 fd, .int .i64 fk] 48)).new b1)
    go_wp2_with fail
    refine (l9Place_any A n c es fa fb fc fd fk _ HN.out hml HI1.out).mono ?_
    rintro e w2 ⟨rfl, b2⟩
    rw [HP.out]
    have hc2 := New.cells b2; have hf2 := New.marks b2; have hz2 := New.le b2; try simp only [World.size_alloc, World.size_setCell] at hz2
    try have z2_0_0 : w.heap.size < w2.heap.size := by omega
    try have z2_0_1 : w.heap.size + 1 < w2.heap.size := by omega
    try have z2_0_2 : w.heap.size + 2 < w2.heap.size := by omega
    try have z2_1_0 : w1.heap.size < w2.heap.size := by omega
    try have z2_1_1 : w1.heap.size + 1 < w2.heap.size := by omega
    try have z2_1_2 : w1.heap.size + 2 < w2.heap.size := by omega
    go_wp2_with fail
    go_ret
    exact ⟨by rw [HZ.out]; rfl, (by repeat (first | with_reducible assumption | with_reducible exact New.refl _ | with_reducible refine New.alloc ?_ _ | with_reducible refine New.drew ?_ | with_reducible refine New.drewN ?_ _ | refine New.setCell ?_ (by first | (simp; done) | omega | (simp; omega)) _ | with_reducible refine New.trans ?_ (by with_reducible assumption)))⟩
set_option maxRecDepth 100000 in
theorem flowsOn_impl (sz st : Int) (A : Option Addr) (n c : Nat) (es : List Ent) (H : Int) (w : World) (hn : es.length = n) (hm : n ≤ 1048576) (h : Ints w A (flatE es)) :
    Calls Try.prog 41 #[.agg #[.int .i64 sz, .int .i64 st, .slice A n c], .int .i64 H] w fun e w' => e = .returned (.int .i64 (flowsZ sz st es H)) ∧ New w w' := by
  have hml : n ≤ maxLen := by unfold maxLen; omega
  have HN := Lib.hid hn
  have HH := Lib.hid h
  clear hn h
  cases hT : tabB sz st es
  · have HZ := Lib.hid (flowsZ_no (H := H) hT)
    go_enter Try.func41, Try.ntmps41
    go_wp2_with fail
    refine (tableValid_impl sz st A n c es _ HN.out hm (HH.out.alloc _)).mono ?_
    rintro e w1 ⟨rfl, b1⟩
    rw [hT]
    have hc1 := New.cells b1; have hf1 := New.marks b1; have hz1 := New.le b1; try simp only [World.size_alloc, World.size_setCell] at hz1
    try have z1_0_0 : w.heap.size < w1.heap.size := by omega
    try have z1_0_1 : w.heap.size + 1 < w1.heap.size := by omega
    try have z1_0_2 : w.heap.size + 2 < w1.heap.size := by omega
    go_wp2_with fail
    go_ret
    exact ⟨by rw [HZ.out]; rfl, (by repeat (first | with_reducible assumption | with_reducible exact New.refl _ | with_reducible refine New.alloc ?_ _ | with_reducible refine New.drew ?_ | with_reducible refine New.drewN ?_ _ | refine New.setCell ?_ (by first | (simp; done) | omega | (simp; omega)) _ | with_reducible refine New.trans ?_ (by with_reducible assumption)))⟩
  · have HZ := Lib.hid (flowsZ_yes (H := H) hT)
    have hres : (w.alloc (.cells #[.int .i64 sz, .int .i64 st, .slice A n c] 44)).heap[w.heap.size]? = some (.cells #[.int .i64 sz, .int .i64 st, .slice A n c] 44 (0, 0)) := heap_alloc_new _ _
    have b0 := (New.refl w).alloc (.cells #[.int .i64 sz, .int .i64 st, .slice A n c] 44)
    go_enter Try.func41, Try.ntmps41
    go_wp2_with fail
    refine (tableValid_impl sz st A n c es _ HN.out hm (HH.out.alloc _)).mono ?_
    rintro e w1 ⟨rfl, b1⟩
    rw [hT]
    have hr1 := (Below.block b1 w.heap.size (by simp)).trans hres
    have B1 := b0.trans b1
    have hlt1 : w.heap.size < w1.heap.size := (Array.getElem?_eq_some_iff.1 hr1).1
    have HR := Lib.hid hr1
    obtain ⟨C0, C1, C2⟩ := cellsT hr1
    clear hres hr1 b0 b1
    go_wp2_with fail
    go_loopw [5, 14] (fun v i wr => ∃ j : Nat, j ≤ n ∧ i = .int .i64 j ∧ v = .int .i64 (((tosOf es).take j).count H : Nat) ∧ New w1 wr) (fun _ i _ => n - (intOf i).toNat)
    case atStart => exact ⟨0, Nat.zero_le _, rfl, rfl, New.refl _⟩
    case round =>
      obtain ⟨j, hj, rfl, rfl, hnew⟩ := hrel
      have hcb := count_take_le (tosOf es) j H
      have hr3 : wr.heap[w.heap.size]? = some (.cells #[.int .i64 sz, .int .i64 st, .slice A n c] 44 (0, 0)) := (Below.block hnew w.heap.size hlt1).trans HR.out
      have hwr : w.heap.size < wr.heap.size := (Array.getElem?_eq_some_iff.1 hr3).1
      obtain ⟨D0, D1, D2⟩ := cellsT hr3
      clear hr3
      by_cases hlt : j < n
      · obtain ⟨b, o, x, rfl, hx, hb, c0, c1, c2, c3, c4, c5, c6⟩ := ents_at ((HH.out.new B1).new hnew) (i := j) (by rw [HN.out]; exact hlt)
        have HT := Lib.hid (count_take (tosOf_at hx) H)
        clear hx
        obtain ⟨x0, x1, x2, x3, x4, x5, x6⟩ := x
        simp only at c0 c1 c2 c3 c4 c5 c6 HT
        have hji : (j : Int) < (n : Int) := by omega
        by_cases he : x5 = H
        · subst he
          go_wp2_with fail
          go_roundw
          case rel => exact ⟨j + 1, by omega, by go_num, by rw [HT.out, if_pos rfl]; go_num, (by repeat (first | with_reducible assumption | with_reducible exact New.refl _ | with_reducible refine New.alloc ?_ _ | with_reducible refine New.drew ?_ | with_reducible refine New.drewN ?_ _ | refine New.setCell ?_ (by first | (simp; done) | omega | (simp; omega)) _ | with_reducible refine New.trans ?_ (by with_reducible assumption)))⟩
          case measure => simp [intOf]; omega
        · have he' : (x5 == H) = false := by simpa using he
          go_wp2_with fail
          go_roundw
          case rel => exact ⟨j + 1, by omega, by go_num, by rw [HT.out, if_neg he]; rfl, (by repeat (first | with_reducible assumption | with_reducible exact New.refl _ | with_reducible refine New.alloc ?_ _ | with_reducible refine New.drew ?_ | with_reducible refine New.drewN ?_ _ | refine New.setCell ?_ (by first | (simp; done) | omega | (simp; omega)) _ | with_reducible refine New.trans ?_ (by with_reducible assumption)))⟩
          case measure => simp [intOf]; omega
      · obtain rfl : j = n := by omega
        have HE := Lib.hid (show (tosOf es).take j = tosOf es from List.take_of_length_le (by rw [tosOf_len, HN.out]; exact Nat.le_refl _))
        go_wp2_with fail
        go_ret
        exact ⟨by rw [HZ.out, HE.out]; rfl, B1.trans hnew⟩
set_option maxRecDepth 100000 in
theorem flowsOn_spec (sz st : Int) (A : Option Addr) (n c : Nat) (es : List Ent) (H : Int) (w : World) (hn : es.length = n) (hnc : n ≤ c) (hm : n ≤ 1048576) (h : Ints w A (flatE es)) :
    Calls Try.prog 42 #[.agg #[.int .i64 sz, .int .i64 st, .slice A n c], .int .i64 H] w fun e w' => e = .returned (.int .i64 (flowsZ sz st es H)) ∧ New w w' := by
  have hml : n ≤ maxLen := by unfold maxLen; omega
  have HN := Lib.hid hn
  have HH := Lib.hid h
  clear hn h
  cases hT : tabB sz st es
  · have HZ := Lib.hid (flowsZ_no (H := H) hT)
    go_enter Try.func42, Try.ntmps42
    go_wp2_with fail
    refine (tableValid_spec sz st A n c es _ HN.out hnc hm (HH.out.alloc _)).mono ?_
    rintro e w1 ⟨rfl, b1⟩
    rw [hT]
    have hc1 := New.cells b1; have hf1 := New.marks b1; have hz1 := New.le b1; try simp only [World.size_alloc, World.size_setCell] at hz1
    try have z1_0_0 : w.heap.size < w1.heap.size := by omega
    try have z1_0_1 : w.heap.size + 1 < w1.heap.size := by omega
    try have z1_0_2 : w.heap.size + 2 < w1.heap.size := by omega
    go_wp2_with fail
    go_ret
    exact ⟨by rw [HZ.out]; rfl, (by repeat (first | with_reducible assumption | with_reducible exact New.refl _ | with_reducible refine New.alloc ?_ _ | with_reducible refine New.drew ?_ | with_reducible refine New.drewN ?_ _ | refine New.setCell ?_ (by first | (simp; done) | omega | (simp; omega)) _ | with_reducible refine New.trans ?_ (by with_reducible assumption)))⟩
  · have HZ := Lib.hid (flowsZ_yes (H := H) hT)
    have hres : (w.alloc (.cells #[.int .i64 sz, .int .i64 st, .slice A n c] 44)).heap[w.heap.size]? = some (.cells #[.int .i64 sz, .int .i64 st, .slice A n c] 44 (0, 0)) := heap_alloc_new _ _
    have b0 := (New.refl w).alloc (.cells #[.int .i64 sz, .int .i64 st, .slice A n c] 44)
    go_enter Try.func42, Try.ntmps42
    go_wp2_with fail
    refine (tableValid_spec sz st A n c es _ HN.out hnc hm (HH.out.alloc _)).mono ?_
    rintro e w1 ⟨rfl, b1⟩
    rw [hT]
    have hr1 := (Below.block b1 w.heap.size (by simp)).trans hres
    have B1 := b0.trans b1
    have hlt1 : w.heap.size < w1.heap.size := (Array.getElem?_eq_some_iff.1 hr1).1
    have HR := Lib.hid hr1
    obtain ⟨C0, C1, C2⟩ := cellsT hr1
    clear hres hr1 b0 b1
    go_wp2_with fail
    go_loopw [5, 6] (fun v i wr => ∃ j : Nat, j ≤ n ∧ i = .int .i64 j ∧ v = .int .i64 (((tosOf es).take j).count H : Nat) ∧ New w1 wr) (fun _ i _ => n - (intOf i).toNat)
    case atStart => exact ⟨0, Nat.zero_le _, rfl, rfl, New.refl _⟩
    case round =>
      obtain ⟨j, hj, rfl, rfl, hnew⟩ := hrel
      have hcb := count_take_le (tosOf es) j H
      have hr3 : wr.heap[w.heap.size]? = some (.cells #[.int .i64 sz, .int .i64 st, .slice A n c] 44 (0, 0)) := (Below.block hnew w.heap.size hlt1).trans HR.out
      have hwr : w.heap.size < wr.heap.size := (Array.getElem?_eq_some_iff.1 hr3).1
      obtain ⟨D0, D1, D2⟩ := cellsT hr3
      clear hr3
      by_cases hlt : j < n
      · obtain ⟨b, o, x, rfl, hx, hb, c0, c1, c2, c3, c4, c5, c6⟩ := ents_at ((HH.out.new B1).new hnew) (i := j) (by rw [HN.out]; exact hlt)
        have HT := Lib.hid (count_take (tosOf_at hx) H)
        clear hx
        obtain ⟨x0, x1, x2, x3, x4, x5, x6⟩ := x
        simp only at c0 c1 c2 c3 c4 c5 c6 HT
        have hji : (j : Int) < (n : Int) := by omega
        by_cases he : x5 = H
        · subst he
          go_wp2_with fail
          go_roundw
          case rel => exact ⟨j + 1, by omega, by go_num, by rw [HT.out, if_pos rfl]; go_num, (by repeat (first | with_reducible assumption | with_reducible exact New.refl _ | with_reducible refine New.alloc ?_ _ | with_reducible refine New.drew ?_ | with_reducible refine New.drewN ?_ _ | refine New.setCell ?_ (by first | (simp; done) | omega | (simp; omega)) _ | with_reducible refine New.trans ?_ (by with_reducible assumption)))⟩
          case measure => simp [intOf]; omega
        · have he' : (x5 == H) = false := by simpa using he
          go_wp2_with fail
          go_roundw
          case rel => exact ⟨j + 1, by omega, by go_num, by rw [HT.out, if_neg he]; rfl, (by repeat (first | with_reducible assumption | with_reducible exact New.refl _ | with_reducible refine New.alloc ?_ _ | with_reducible refine New.drew ?_ | with_reducible refine New.drewN ?_ _ | refine New.setCell ?_ (by first | (simp; done) | omega | (simp; omega)) _ | with_reducible refine New.trans ?_ (by with_reducible assumption)))⟩
          case measure => simp [intOf]; omega
      · obtain rfl : j = n := by omega
        have HE := Lib.hid (show (tosOf es).take j = tosOf es from List.take_of_length_le (by rw [tosOf_len, HN.out]; exact Nat.le_refl _))
        go_wp2_with fail
        go_ret
        exact ⟨by rw [HZ.out, HE.out]; rfl, B1.trans hnew⟩
end Go.Proofs.Ytbnehcaallehbaa
