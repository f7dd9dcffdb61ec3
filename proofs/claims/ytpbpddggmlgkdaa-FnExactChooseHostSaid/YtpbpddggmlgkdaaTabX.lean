/- Tables copied and compared. -/
import Derived.Test.YtpbpddggmlgkdaaTabV
import Derived.Test.YtpbpddggmlgkdaaDrawR
import Derived.Lib.SmallJoins
namespace Go.Proofs.Ytpbpddggmlgkdaa
set_option linter.unusedVariables false
set_option linter.unusedSimpArgs false
open Go.RowKit Go.Sort Go.Maps Go.ChangeShapes Go.WideShapes Go.Joins Go.Deep

section
variable {H : Type} {enc : TypeId × Value → H} {P : Program} {w : World}
theorem open_table {t s e ti : TypeId} {f0 f1 f2 : Field} {v : Value} {d : DataW H} {p : List MemPlace} {r : Reach} {b0 : Nat} (ht : P.underlying t = some (.struct #[f0, f1, f2])) (o0 : f0.offset = 0) (o1 : f1.offset = 1) (o2 : f2.offset = 2) (t0 : f0.type = ti) (t1 : f1.type = ti) (t2 : f2.type = s)
    (hi : P.underlying ti = some (.int .i64)) (hs : P.underlying s = some (.slice e)) (hC : P.cellsOf t = 3) (ci : P.cellsOf ti = 1) (cs1 : P.cellsOf s = 1) (hE : P.cellsOf e = 7) (hall : AllInts P e)
    (hv : Value.okWide P w r b0 t v) (h : DataW.Trod enc P w 0 (fun _ => true) true t v d p) :
    ∃ (x y : Int) (a : Option Addr) (len cap : Nat) (zs : List Int), v = .agg #[.int .i64 x, .int .i64 y, .slice a len cap] ∧ (Lit.int .i64 x).wf = true ∧ (Lit.int .i64 y).wf = true ∧ ArgInts .i64 w a len cap 7 zs := by
  obtain ⟨cs, rfl, hsz⟩ := okWide_struct ht hv
  obtain ⟨l⟩ := cs
  obtain ⟨fuel, hf⟩ := h
  have hl : l.length = 3 := hsz.trans hC
  obtain ⟨xs, n, _, _, _, hxl, hfs⟩ := DataW.trod_struct ht hf
  match l, hl, xs, hxl with
  | [c0, c1, c2], _, [y0, y1, y2], _ =>
    have h0 := hfs 0 f0 rfl
    have h1 := hfs 1 f1 rfl
    have h2 := hfs 2 f2 rfl
    simp only [o0, o1, o2, t0, t1, t2, ci, cs1, Value.cells, List.drop_zero, List.drop_succ_cons, List.take_succ_cons, List.take_zero, List.getElem?_cons_zero, List.getElem?_cons_succ] at h0 h1 h2
    obtain ⟨x, hx, _, wx⟩ := DataW.trod_int hi h0
    obtain ⟨y, hy, _, wy⟩ := DataW.trod_int hi h1
    obtain rfl : c0 = .int .i64 x := by simpa using hx
    obtain rfl : c1 = .int .i64 y := by simpa using hy
    obtain ⟨a, len, cap, rfl⟩ : ∃ a len cap, c2 = .slice a len cap := by
      rcases open_slice hs h2 with ⟨hcs, _⟩ | ⟨ad, len', cap', m, n, D, Pl, hcs, _⟩
      · exact ⟨none, 0, 0, by simpa using hcs⟩
      · exact ⟨some ad, len', cap', by simpa using hcs⟩
    obtain ⟨zs, hz⟩ := open_intStructs hs hE hall h2
    exact ⟨x, y, a, len, cap, zs, rfl, wx, wy, hz⟩
end
/-- Entries that a law was handed. -/
theorem ents_of {w : World} {A : Option Addr} {n c : Nat} {zs : List Int} (H : ArgInts .i64 w A n c 7 zs) : ∃ es, flatE es = zs ∧ es.length = n := unflatE n zs H.2.2.1
theorem entry_info : (Try.prog.info? 90).map (fun i => (i.zero, i.size, i.bytes)) = some (some (.agg #[.int .i64 0, .int .i64 0, .int .i64 0, .int .i64 0, .int .i64 0, .int .i64 0, .int .i64 0]), 7, 56) := by kernel_rfl

theorem szEntryS_any (A : Option Addr) (n c : Nat) (q : Int) (w : World) (hm : n ≤ maxLen) (hq0 : 0 ≤ q) (hq1 : q ≤ 1048576) :
    Calls Try.prog 77 #[.slice A n c, .int .i64 q] w fun e w' => e = .returned (.int .i64 (if q < n then -1 else q - n)) ∧ w = w' := by
  unfold maxLen at hm
  by_cases hlt : q < n
  · go_enter Try.func77, Try.ntmps77
    go_wp2_with fail
    go_ret
    exact ⟨rfl, rfl⟩
  · go_enter Try.func77, Try.ntmps77
    go_wp2_with fail
    go_ret
    exact ⟨rfl, rfl⟩
theorem szTable_any (x y : Int) (A : Option Addr) (n c : Nat) (q : Int) (w : World) (hm : n ≤ maxLen) (hq0 : 0 ≤ q) (hq1 : q ≤ 1048576) :
    Calls Try.prog 41 #[.agg #[.int .i64 x, .int .i64 y, .slice A n c], .int .i64 q] w fun e w' => e = .returned (.int .i64 (if q < n then -1 else q - n)) ∧ New w w' := by
  by_cases hlt : q < n
  · have HZ := Lib.hid (show (if q < (n : Int) then (-1 : Int) else q - n) = -1 by rw [if_pos hlt])
    go_enter Try.func41, Try.ntmps41
    go_wp2_with fail
    refine (szEntryS_any A n c q _ hm hq0 hq1).mono ?_
    rintro e w' ⟨rfl, rfl⟩
    rw [HZ.out]
    go_wp2_with fail
    go_ret
    exact ⟨rfl, (by repeat (first | with_reducible assumption | with_reducible exact New.refl _ | with_reducible refine New.alloc ?_ _ | with_reducible refine New.drew ?_ | with_reducible refine New.drewN ?_ _ | refine New.setCell ?_ (by first | (simp; done) | omega | (simp; omega)) _ | with_reducible refine New.trans ?_ (by with_reducible assumption)))⟩
  · have HZ := Lib.hid (show (if q < (n : Int) then (-1 : Int) else q - n) = q - n by rw [if_neg hlt])
    have hqn : decide (q - (n : Int) < 0) = false := by simp; omega
    go_enter Try.func41, Try.ntmps41
    go_wp2_with fail
    refine (szEntryS_any A n c q _ hm hq0 hq1).mono ?_
    rintro e w' ⟨rfl, rfl⟩
    rw [HZ.out]
    go_wp2_with fail
    go_ret
    exact ⟨rfl, (by repeat (first | with_reducible assumption | with_reducible exact New.refl _ | with_reducible refine New.alloc ?_ _ | with_reducible refine New.drew ?_ | with_reducible refine New.drewN ?_ _ | refine New.setCell ?_ (by first | (simp; done) | omega | (simp; omega)) _ | with_reducible refine New.trans ?_ (by with_reducible assumption)))⟩
set_option maxRecDepth 100000 in
theorem toEntry_any (a b c d k x y : Int) (w : World) :
    Calls Try.prog 97 #[.agg #[.int .i64 a, .int .i64 b, .int .i64 c, .int .i64 d, .int .i64 k, .int .i64 x, .int .i64 y]] w fun e w' => e = .returned (.agg #[.int .i64 a, .int .i64 b, .int .i64 c, .int .i64 d, .int .i64 k, .int .i64 x, .int .i64 y]) ∧ New w w' := by
  go_enter Try.func97, Try.ntmps97
  go_wp2_with (go_at_call 43; refine (toFlow_any _ _ _ _ _ _).mono ?_; rintro e w1 ⟨rfl, hb⟩; have hcell := New.cells hb; have hfroz := New.marks hb; have hlts := New.lts hb; have hsz := New.le hb; try simp only [World.size_alloc] at hsz)
  exact bodyPost_ret (v := .agg #[.int .i64 a, .int .i64 b, .int .i64 c, .int .i64 d, .int .i64 k, .int .i64 x, .int .i64 y]) (by simp [results, Try.results97, go_sem, *, ↓IntWalk.iteOmega]) rfl ⟨rfl, (by repeat (first | with_reducible assumption | with_reducible exact New.refl _ | with_reducible refine New.alloc ?_ _ | with_reducible refine New.drew ?_ | with_reducible refine New.drewN ?_ _ | refine New.setCell ?_ (by first | (simp; done) | omega | (simp; omega)) _ | with_reducible refine New.trans ?_ (by with_reducible assumption)))⟩
theorem flowEq_same (a b c d k : Int) : flowEq a b c d k a b c d k = true := by simp [flowEq]
theorem eqEntry_same (a b c d k x y : Int) (w : World) :
    Calls Try.prog 98 #[.agg #[.int .i64 a, .int .i64 b, .int .i64 c, .int .i64 d, .int .i64 k, .int .i64 x, .int .i64 y], .agg #[.int .i64 a, .int .i64 b, .int .i64 c, .int .i64 d, .int .i64 k, .int .i64 x, .int .i64 y]] w fun e w' => e = .returned (.bool true) ∧ New w w' := by
  go_enter Try.func98, Try.ntmps98
  go_wp2_with fail
  refine (eqFlow_any _ _ _ _ _ _ _ _ _ _ _).mono ?_
  rintro e w1 ⟨rfl, b1⟩
  rw [flowEq_same]
  have hc1 := New.cells b1; have hf1 := New.marks b1; have hz1 := New.le b1; try simp only [World.size_alloc, World.size_setCell] at hz1
  try have z1_0_0 : w.heap.size < w1.heap.size := by omega
  try have z1_0_1 : w.heap.size + 1 < w1.heap.size := by omega
  try have z1_0_2 : w.heap.size + 2 < w1.heap.size := by omega
  go_wp2_with fail
  go_ret
  exact ⟨rfl, (by repeat (first | with_reducible assumption | with_reducible exact New.refl _ | with_reducible refine New.alloc ?_ _ | with_reducible refine New.drew ?_ | with_reducible refine New.drewN ?_ _ | refine New.setCell ?_ (by first | (simp; done) | omega | (simp; omega)) _ | with_reducible refine New.trans ?_ (by with_reducible assumption)))⟩
set_option maxRecDepth 100000 in
theorem eqEntryS_same (A A' : Option Addr) (n c c' : Nat) (es : List Ent) (w : World) (hn : es.length = n) (hm : n ≤ maxLen) (h : Ints w A (flatE es)) (h' : Ints w A' (flatE es)) :
    Calls Try.prog 79 #[.slice A n c, .slice A' n c'] w fun e w' => e = .returned (.bool true) ∧ New w w' := by
  unfold maxLen at hm
  have HN := Lib.hid hn
  clear hn
  have hgr := gr_cells
  go_enter Try.func79, Try.ntmps79
  go_wp2_with fail
  go_loopw [5] (fun i wr => ∃ k : Nat, k ≤ n ∧ i = .int .i64 k ∧ New w wr) (fun i _ => n - (intOf i).toNat)
  case atStart => exact ⟨0, Nat.zero_le _, rfl, New.refl _⟩
  case round =>
    obtain ⟨k, hk, rfl, hnew⟩ := hrel
    by_cases hlt : k < n
    · obtain ⟨b, o, x, rfl, hx, hb, c0, c1, c2, c3, c4, c5, c6⟩ := ents_at (h.new hnew) (i := k) (by rw [HN.out]; exact hlt)
      obtain ⟨b', o', x', rfl, hx', hb', d0, d1, d2, d3, d4, d5, d6⟩ := ents_at (h'.new hnew) (i := k) (by rw [HN.out]; exact hlt)
      obtain rfl : x = x' := by rw [hx] at hx'; exact Option.some.inj hx'
      clear hx hx'
      obtain ⟨x0, x1, x2, x3, x4, x5, x6⟩ := x
      simp only at c0 c1 c2 c3 c4 c5 c6 d0 d1 d2 d3 d4 d5 d6
      have hki : (k : Int) < (n : Int) := by omega
      go_wp2_with fail
      refine wp_region_qb (by kernel_rfl) (by kernel_rfl) ?_
      repeat (go_big_quiet_step ((exact gr_call (eqEntry_same x0 x1 x2 x3 x4 x5 x6 _))))
      with_reducible refine wpQuiet_nil ?_
      intro w3 b3
      have hc3 := New.cells b3; have hf3 := New.marks b3; have hz3 := New.le b3; try simp only [World.size_alloc, World.size_setCell] at hz3
      try have z3_0_0 : w.heap.size < w3.heap.size := by omega
      try have z3_0_1 : w.heap.size + 1 < w3.heap.size := by omega
      try have z3_0_2 : w.heap.size + 2 < w3.heap.size := by omega
      try have z3_1_0 : w1.heap.size < w3.heap.size := by omega
      try have z3_1_1 : w1.heap.size + 1 < w3.heap.size := by omega
      try have z3_1_2 : w1.heap.size + 2 < w3.heap.size := by omega
      try have z3_2_0 : w2.heap.size < w3.heap.size := by omega
      try have z3_2_1 : w2.heap.size + 1 < w3.heap.size := by omega
      try have z3_2_2 : w2.heap.size + 2 < w3.heap.size := by omega
      go_wp2_with fail
      go_roundw
      case rel => exact ⟨k + 1, by omega, by go_num, hnew.trans b3⟩
      case measure => simp [intOf]; omega
    · obtain rfl : k = n := by omega
      go_wp2_with fail
      go_ret
      exact ⟨rfl, hnew⟩
theorem eqTable_same (x y : Int) (A A' : Option Addr) (n c c' : Nat) (es : List Ent) (w : World) (hn : es.length = n) (hm : n ≤ maxLen) (h : Ints w A (flatE es)) (h' : Ints w A' (flatE es)) :
    Calls Try.prog 44 #[.agg #[.int .i64 x, .int .i64 y, .slice A n c], .agg #[.int .i64 x, .int .i64 y, .slice A' n c']] w fun e w' => e = .returned (.bool true) ∧ New w w' := by
  have HN := Lib.hid hn
  clear hn
  go_enter Try.func44, Try.ntmps44
  go_wp2_with fail
  refine (eqEntryS_same A A' n c c' es _ HN.out hm ((h.alloc _).alloc _) ((h'.alloc _).alloc _)).mono ?_
  rintro e w1 ⟨rfl, b1⟩
  go_wp2_with fail
  go_ret
  exact ⟨rfl, (by repeat (first | with_reducible assumption | with_reducible exact New.refl _ | with_reducible refine New.alloc ?_ _ | with_reducible refine New.drew ?_ | with_reducible refine New.drewN ?_ _ | refine New.setCell ?_ (by first | (simp; done) | omega | (simp; omega)) _ | with_reducible refine New.trans ?_ (by with_reducible assumption)))⟩
theorem flatE_set : ∀ (l : List Ent) (k : Nat) (x : Ent), k < l.length → (((((((flatE l).set (k * 7) x.a).set (k * 7 + 1) x.b).set (k * 7 + 2) x.c).set (k * 7 + 3) x.d).set (k * 7 + 4) x.k).set (k * 7 + 5) x.to).set (k * 7 + 6) x.last = flatE (l.set k x)
  | [], _, _, h => absurd h (by simp)
  | y :: t, 0, x, _ => by simp [flatE]
  | y :: t, k + 1, x, h => by
    have ih := flatE_set t k x (by simpa using h)
    rw [show (k + 1) * 7 = k * 7 + 1 + 1 + 1 + 1 + 1 + 1 + 1 from by omega]
    simpa [flatE] using ih
def zEnt : Ent := ⟨0, 0, 0, 0, 0, 0, 0⟩
theorem copiedE_set {es : List Ent} {n k : Nat} {x : Ent} (hn : es.length = n) (hk : k < n) (hx : es[k]? = some x) : (es.take k ++ List.replicate (n - k) zEnt).set k x = es.take (k + 1) ++ List.replicate (n - (k + 1)) zEnt := by
  have hl : (es.take k).length = k := by simp; omega
  rw [List.set_append_right _ _ (by omega), hl, Nat.sub_self, show n - k = (n - (k + 1)) + 1 from by omega, List.replicate_succ, List.set_cons_zero, List.take_add_one, hx]
  simp
theorem zerosE_map (n : Nat) : (madeCells (Value.agg #[.int .i64 0, .int .i64 0, .int .i64 0, .int .i64 0, .int .i64 0, .int .i64 0, .int .i64 0]).cells (n * 7)).toList = (flatE (List.replicate n zEnt)).map (Value.int .i64) := by
  apply List.ext_getElem?
  intro j
  have hf : ∀ (n j : Nat), j < n * 7 → (flatE (List.replicate n zEnt))[j]? = some 0 := by
    intro n
    induction n with
    | zero => intro j hj; omega
    | succ n ih =>
      intro j hj
      match j with
      | 0 => rfl
      | 1 => rfl
      | 2 => rfl
      | 3 => rfl
      | 4 => rfl
      | 5 => rfl
      | 6 => rfl
      | j + 7 => simpa [List.replicate_succ, flatE, zEnt] using ih j (by omega)
  have hfl : (flatE (List.replicate n zEnt)).length = n * 7 := by rw [flatE_len]; simp
  by_cases hj : j < n * 7
  · rw [List.getElem?_map, hf n j hj]
    have h7 : j % 7 = 0 ∨ j % 7 = 1 ∨ j % 7 = 2 ∨ j % 7 = 3 ∨ j % 7 = 4 ∨ j % 7 = 5 ∨ j % 7 = 6 := by omega
    rcases h7 with h | h | h | h | h | h | h <;> simp [madeCells, Value.cells, hj, h]
  · rw [List.getElem?_eq_none (by simp [madeCells, Value.cells]; omega), List.getElem?_eq_none (by rw [List.length_map, hfl]; omega)]
set_option maxHeartbeats 2000000 in
set_option maxRecDepth 100000 in
theorem toEntryS_any (A : Option Addr) (n c : Nat) (es : List Ent) (w : World) (hn : es.length = n) (hm : n ≤ 2097152) (h : Ints w A (flatE es)) :
    Calls Try.prog 78 #[.slice A n c] w (RetRow 90 7 w n (flatE es)) := by
  obtain ⟨i0, hi, hz0, hz1, hz2⟩ := info_parts entry_info
  have HN := Lib.hid hn
  clear hn
  have hml : n ≤ maxLen := by unfold maxLen; omega
  go_enter Try.func78, Try.ntmps78
  go_wp2_with (at_make; refine wpList_make_full _ rfl _ _ 44 rfl w.heap.size 90 i0 _ 7 Try.underlying44 hi hz0 hz1 .i64 .i64 (n : Int) (n : Int) n rfl rfl rfl rfl (by rw [hz2]; omega) hml (Nat.le_refl _) ?_; intro w1 hown hgrow)
  have hown1 : Own 90 7 w.heap.size w1 (some ⟨w.heap.size, 0, none⟩) n n (flatE (List.replicate n zEnt)) := by
    unfold Own
    rw [← zerosE_map]
    exact hown
  have hb1 : New w w1 := (New.refl w).grown hgrow (by simp)
  clear hown hgrow
  have hml' := hml
  unfold maxLen at hml'
  go_loopw [4] (fun i wr => ∃ k : Nat, k ≤ n ∧ i = .int .i64 k ∧ Own 90 7 w.heap.size wr (some ⟨w.heap.size, 0, none⟩) n n (flatE (es.take k ++ List.replicate (n - k) zEnt)) ∧ New w wr) (fun i _ => n - (intOf i).toNat)
  case atStart => exact ⟨0, Nat.zero_le _, rfl, by simpa using hown1, hb1⟩
  case round =>
    obtain ⟨k, hk, rfl, hown, hnew⟩ := hrel
    clear hown1 hb1
    by_cases hlt : k < n
    · obtain ⟨b, o, x, rfl, hx, hbw, c0, c1, c2, c3, c4, c5, c6⟩ := ents_at (h.new hnew) (i := k) (by rw [HN.out]; exact hlt)
      have HS := Lib.hid (copiedE_set HN.out hlt hx)
      clear hx
      have hll : k < (es.take k ++ List.replicate (n - k) zEnt).length := by have := HN.out; simp; omega
      have HF := Lib.hid (flatE_set _ k x hll)
      obtain ⟨x0, x1, x2, x3, x4, x5, x6⟩ := x
      simp only at c0 c1 c2 c3 c4 c5 c6 HS HF
      have hfl := flatE_len (es.take k ++ List.replicate (n - k) zEnt)
      have hki : (k : Int) < (n : Int) := by omega
      go_wp2_with fail
      refine (toEntry_any x0 x1 x2 x3 x4 x5 x6 _).mono ?_
      rintro e w2 ⟨rfl, b2⟩
      have hown2 := hown.new b2
      have hnew2 := hnew.trans b2
      have HNEW := Lib.hid hnew2
      clear hown c0 c1 c2 c3 c4 c5 c6
      obtain ⟨g, hg, _, _, _, hcell, hfr⟩ := hown2.at_ (by omega)
      obtain rfl : w.heap.size = g := by simpa using hg
      have e0 := hcell (k * 7) (by omega)
      have e1 := hcell (k * 7 + 1) (by omega)
      have e2 := hcell (k * 7 + 2) (by omega)
      have e3 := hcell (k * 7 + 3) (by omega)
      have e4 := hcell (k * 7 + 4) (by omega)
      have e5 := hcell (k * 7 + 5) (by omega)
      have e6 := hcell (k * 7 + 6) (by omega)
      have f0 := hfr (k * 7)
      have f1 := hfr (k * 7 + 1)
      have f2 := hfr (k * 7 + 2)
      have f3 := hfr (k * 7 + 3)
      have f4 := hfr (k * 7 + 4)
      have f5 := hfr (k * 7 + 5)
      have f6 := hfr (k * 7 + 6)
      have HO := Lib.hid (((((((hown2.set_ (k * 7) x0).set_ (k * 7 + 1) x1).set_ (k * 7 + 2) x2).set_ (k * 7 + 3) x3).set_ (k * 7 + 4) x4).set_ (k * 7 + 5) x5).set_ (k * 7 + 6) x6)
      clear hcell hfr hg hown2 hfl
      go_wp2_with fail
      go_roundw
      case rel =>
        refine ⟨k + 1, by omega, by go_num, ?_, ((((((HNEW.out.setCell (Nat.le_refl _) _).setCell (Nat.le_refl _) _).setCell (Nat.le_refl _) _).setCell (Nat.le_refl _) _).setCell (Nat.le_refl _) _).setCell (Nat.le_refl _) _).setCell (Nat.le_refl _) _⟩
        have := HO.out
        rwa [HF.out, HS.out] at this
      case measure => simp [intOf]; omega
    · obtain rfl : k = n := by omega
      go_wp2_with fail
      go_ret
      refine ⟨_, _, rfl, Nat.le_refl _, hml, ?_, hnew⟩
      rwa [List.take_of_length_le (by rw [HN.out]; exact Nat.le_refl _), Nat.sub_self, List.replicate_zero, List.append_nil] at hown
theorem setCell_gb (w : World) (p : Addr) (u : Value) : w.grownBy (w.setCell p u) (some p.block) :=
  ⟨rfl, rfl, rfl, by simp [World.setCell], fun i _ hi => Below.heap_setCell _ _ _ _ (fun e => hi (by rw [e]))⟩
theorem Own.setOther {E : TypeId} {size B n c : Nat} {w : World} {A : Option Addr} {zs : List Int} (h : Own E size B w A n c zs) {p : Addr} (hp : p.block < B) (u : Value) : Own E size B (w.setCell p u) A n c zs := h.gb (setCell_gb w p u) hp
/-- What a function leaves that hands back a new table. -/
def RetTab (w : World) (x y : Int) (n : Nat) (es : List Ent) (e : Ending) (w' : World) : Prop := ∃ A c, e = .returned (.agg #[.int .i64 x, .int .i64 y, .slice A n c]) ∧ n ≤ c ∧ c ≤ maxLen ∧ Own 90 7 w.heap.size w' A n c (flatE es) ∧ New w w'
set_option maxRecDepth 100000 in
theorem toTable_any (x y : Int) (A : Option Addr) (n c : Nat) (es : List Ent) (w : World) (hn : es.length = n) (hm : n ≤ 2097152) (h : Ints w A (flatE es)) :
    Calls Try.prog 42 #[.agg #[.int .i64 x, .int .i64 y, .slice A n c]] w (RetTab w x y n es) := by
  have HN := Lib.hid hn
  clear hn
  go_enter Try.func42, Try.ntmps42
  have b0 := (((New.refl w).alloc (.cells #[.int .i64 x, .int .i64 y, .slice A n c] 61)).alloc (.cells #[.int .i64 0, .int .i64 0, .slice none 0 0] 46)).alloc (.cells #[.int .i64 0, .int .i64 0, .slice none 0 0] 46)
  go_wp2_with fail
  refine (toEntryS_any A n c es _ HN.out hm (h.new (by repeat (first | with_reducible assumption | with_reducible exact New.refl _ | with_reducible refine New.alloc ?_ _ | with_reducible refine New.drew ?_ | with_reducible refine New.drewN ?_ _ | refine New.setCell ?_ (by first | (simp; done) | omega | (simp; omega)) _ | with_reducible refine New.trans ?_ (by with_reducible assumption))))).mono ?_
  rintro e w1 ⟨A1, c1, rfl, nc1, cm1, o1, b1⟩
  have hc1 := New.cells b1
  have hf1 := New.marks b1
  have hz1 := New.le b1
  try simp only [World.size_alloc, World.size_setCell] at hz1 o1
  go_wp2_with fail
  refine bodyPost_ret (v := .agg #[.int .i64 x, .int .i64 y, .slice A1 n c1]) (by simp [results, Try.results42, go_sem, *, ↓IntWalk.iteOmega]) rfl ?_
  refine ⟨A1, c1, rfl, nc1, cm1, Own.less (B := w.heap.size + 1 + 1 + 1) ?_ (by omega), (by repeat (first | with_reducible assumption | with_reducible exact New.refl _ | with_reducible refine New.alloc ?_ _ | with_reducible refine New.drew ?_ | with_reducible refine New.drewN ?_ _ | refine New.setCell ?_ (by first | (simp; done) | omega | (simp; omega)) _ | with_reducible refine New.trans ?_ (by with_reducible assumption)))⟩
  repeat (first | with_reducible assumption | refine Own.setOther ?_ (by first | (simp; done) | omega | (simp; omega)) _)
end Go.Proofs.Ytpbpddggmlgkdaa
