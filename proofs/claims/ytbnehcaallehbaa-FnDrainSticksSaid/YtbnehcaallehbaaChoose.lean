/- The host for a packet of a flow. -/
import Derived.Test.YtbnehcaallehbaaFind
import Derived.Test.YtbnehcaallehbaaRv
import Derived.Test.YtbnehcaallehbaaMix
namespace Go.Proofs.Ytbnehcaallehbaa
set_option linter.unusedVariables false
set_option linter.unusedSimpArgs false
open Go.RowKit Go.Sort

def chooseZ (hs : List Hst) (sz st : Int) (es : List Ent) (a b c d k : Int) : Int :=
  if (poolB hs && tabB sz st es && flowB a b c d k) = true then (if 0 ≤ findZ sz st es a b c d k ∧ stateZ hs (findZ sz st es a b c d k) ≠ 0 then findZ sz st es a b c d k else rvZ hs (flowHashZ a b c d k)) else -1
theorem chooseZ_no {hs : List Hst} {sz st : Int} {es : List Ent} {a b c d k : Int} (h : (poolB hs && tabB sz st es && flowB a b c d k) = false) : chooseZ hs sz st es a b c d k = -1 := by simp [chooseZ, h]
theorem chooseZ_old {hs : List Hst} {sz st : Int} {es : List Ent} {a b c d k : Int} (h : (poolB hs && tabB sz st es && flowB a b c d k) = true) (h0 : 0 ≤ findZ sz st es a b c d k) (h1 : stateZ hs (findZ sz st es a b c d k) ≠ 0) : chooseZ hs sz st es a b c d k = findZ sz st es a b c d k := by
  unfold chooseZ
  rw [if_pos h, if_pos ⟨h0, h1⟩]
theorem chooseZ_new {hs : List Hst} {sz st : Int} {es : List Ent} {a b c d k : Int} (h : (poolB hs && tabB sz st es && flowB a b c d k) = true) (h1 : ¬ (0 ≤ findZ sz st es a b c d k ∧ stateZ hs (findZ sz st es a b c d k) ≠ 0)) : chooseZ hs sz st es a b c d k = rvZ hs (flowHashZ a b c d k) := by
  unfold chooseZ
  rw [if_pos h, if_neg h1]
set_option maxRecDepth 100000 in
set_option maxHeartbeats 1000000 in
theorem choose_impl (A : Option Addr) (n c : Nat) (hs : List Hst) (sz st : Int) (A' : Option Addr) (n' c' : Nat) (es : List Ent) (fa fb fc fd fk : Int) (w : World) (hn : hs.length = n) (hm : n ≤ 1048576) (h : Ints w A (flat hs)) (hn' : es.length = n') (hnc : n' ≤ c') (hm' : n' ≤ 1048576) (h' : Ints w A' (flatE es)) :
    Calls Try.prog 52 #[.slice A n c, .agg #[.int .i64 sz, .int .i64 st, .slice A' n' c'], .agg #[.int .i64 fa, .int .i64 fb, .int .i64 fc, .int .i64 fd, .int .i64 fk]] w fun e w' => e = .returned (.int .i64 (chooseZ hs sz st es fa fb fc fd fk)) ∧ New w w' := by
  have hml : n ≤ maxLen := by unfold maxLen; omega
  have HN := Lib.hid hn
  have HH := Lib.hid h
  have HN' := Lib.hid hn'
  have HH' := Lib.hid h'
  clear hn h hn' h'
  cases hP : poolB hs
  · have HZ := Lib.hid (chooseZ_no (hs := hs) (sz := sz) (st := st) (es := es) (a := fa) (b := fb) (c := fc) (d := fd) (k := fk) (by simp [hP]))
    go_enter Try.func52, Try.ntmps52
    go_wp2_with fail
    refine (poolValid_impl A n c hs _ HN.out hml (HH.out.new (by repeat (first | with_reducible assumption | with_reducible exact New.refl _ | with_reducible refine New.alloc ?_ _ | with_reducible refine New.drew ?_ | with_reducible refine New.drewN ?_ _ | refine New.setCell ?_ (by first | (simp; done) | omega | (simp; omega)) _ | with_reducible refine New.trans ?_ (by with_reducible assumption))))).mono ?_
    rintro e w1 ⟨rfl, b1⟩
    rw [hP]
    have hc1 := New.cells b1; have hf1 := New.marks b1; have hz1 := New.le b1; try simp only [World.size_alloc, World.size_setCell] at hz1
    try have z1_0_0 : w.heap.size < w1.heap.size := by omega
    try have z1_0_1 : w.heap.size + 1 < w1.heap.size := by omega
    try have z1_0_2 : w.heap.size + 2 < w1.heap.size := by omega
    go_wp2_with fail
    go_ret
    exact ⟨by rw [HZ.out]; rfl, (by repeat (first | with_reducible assumption | with_reducible exact New.refl _ | with_reducible refine New.alloc ?_ _ | with_reducible refine New.drew ?_ | with_reducible refine New.drewN ?_ _ | refine New.setCell ?_ (by first | (simp; done) | omega | (simp; omega)) _ | with_reducible refine New.trans ?_ (by with_reducible assumption)))⟩
  cases hT : tabB sz st es
  · have HZ := Lib.hid (chooseZ_no (hs := hs) (sz := sz) (st := st) (es := es) (a := fa) (b := fb) (c := fc) (d := fd) (k := fk) (by simp [hT]))
    go_enter Try.func52, Try.ntmps52
    go_wp2_with fail
    refine (poolValid_impl A n c hs _ HN.out hml (HH.out.new (by repeat (first | with_reducible assumption | with_reducible exact New.refl _ | with_reducible refine New.alloc ?_ _ | with_reducible refine New.drew ?_ | with_reducible refine New.drewN ?_ _ | refine New.setCell ?_ (by first | (simp; done) | omega | (simp; omega)) _ | with_reducible refine New.trans ?_ (by with_reducible assumption))))).mono ?_
    rintro e w1 ⟨rfl, b1⟩
    rw [hP]
    have hc1 := New.cells b1; have hf1 := New.marks b1; have hz1 := New.le b1; try simp only [World.size_alloc, World.size_setCell] at hz1
    try have z1_0_0 : w.heap.size < w1.heap.size := by omega
    try have z1_0_1 : w.heap.size + 1 < w1.heap.size := by omega
    try have z1_0_2 : w.heap.size + 2 < w1.heap.size := by omega
    go_wp2_with fail
    refine (tableValid_impl sz st A' n' c' es _ HN'.out hm' (HH'.out.new (by repeat (first | with_reducible assumption | with_reducible exact New.refl _ | with_reducible refine New.alloc ?_ _ | with_reducible refine New.drew ?_ | with_reducible refine New.drewN ?_ _ | refine New.setCell ?_ (by first | (simp; done) | omega | (simp; omega)) _ | with_reducible refine New.trans ?_ (by with_reducible assumption))))).mono ?_
    rintro e w2 ⟨rfl, b2⟩
    rw [hT]
    have hc2 := New.cells b2; have hf2 := New.marks b2; have hz2 := New.le b2; try simp only [World.size_alloc, World.size_setCell] at hz2
    try have z2_0_0 : w.heap.size < w2.heap.size := by omega
    try have z2_0_1 : w.heap.size + 1 < w2.heap.size := by omega
    try have z2_0_2 : w.heap.size + 2 < w2.heap.size := by omega
    try have z2_1_0 : w1.heap.size < w2.heap.size := by omega
    try have z2_1_1 : w1.heap.size + 1 < w2.heap.size := by omega
    try have z2_1_2 : w1.heap.size + 2 < w2.heap.size := by omega
    go_wp2_with fail
    go_ret
    exact ⟨by rw [HZ.out]; rfl, (by repeat (first | with_reducible assumption | with_reducible exact New.refl _ | with_reducible refine New.alloc ?_ _ | with_reducible refine New.drew ?_ | with_reducible refine New.drewN ?_ _ | refine New.setCell ?_ (by first | (simp; done) | omega | (simp; omega)) _ | with_reducible refine New.trans ?_ (by with_reducible assumption)))⟩
  cases hF : flowB fa fb fc fd fk
  · have HZ := Lib.hid (chooseZ_no (hs := hs) (sz := sz) (st := st) (es := es) (a := fa) (b := fb) (c := fc) (d := fd) (k := fk) (by simp [hF]))
    go_enter Try.func52, Try.ntmps52
    go_wp2_with fail
    refine (poolValid_impl A n c hs _ HN.out hml (HH.out.new (by repeat (first | with_reducible assumption | with_reducible exact New.refl _ | with_reducible refine New.alloc ?_ _ | with_reducible refine New.drew ?_ | with_reducible refine New.drewN ?_ _ | refine New.setCell ?_ (by first | (simp; done) | omega | (simp; omega)) _ | with_reducible refine New.trans ?_ (by with_reducible assumption))))).mono ?_
    rintro e w1 ⟨rfl, b1⟩
    rw [hP]
    have hc1 := New.cells b1; have hf1 := New.marks b1; have hz1 := New.le b1; try simp only [World.size_alloc, World.size_setCell] at hz1
    try have z1_0_0 : w.heap.size < w1.heap.size := by omega
    try have z1_0_1 : w.heap.size + 1 < w1.heap.size := by omega
    try have z1_0_2 : w.heap.size + 2 < w1.heap.size := by omega
    go_wp2_with fail
    refine (tableValid_impl sz st A' n' c' es _ HN'.out hm' (HH'.out.new (by repeat (first | with_reducible assumption | with_reducible exact New.refl _ | with_reducible refine New.alloc ?_ _ | with_reducible refine New.drew ?_ | with_reducible refine New.drewN ?_ _ | refine New.setCell ?_ (by first | (simp; done) | omega | (simp; omega)) _ | with_reducible refine New.trans ?_ (by with_reducible assumption))))).mono ?_
    rintro e w2 ⟨rfl, b2⟩
    rw [hT]
    have hc2 := New.cells b2; have hf2 := New.marks b2; have hz2 := New.le b2; try simp only [World.size_alloc, World.size_setCell] at hz2
    try have z2_0_0 : w.heap.size < w2.heap.size := by omega
    try have z2_0_1 : w.heap.size + 1 < w2.heap.size := by omega
    try have z2_0_2 : w.heap.size + 2 < w2.heap.size := by omega
    try have z2_1_0 : w1.heap.size < w2.heap.size := by omega
    try have z2_1_1 : w1.heap.size + 1 < w2.heap.size := by omega
    try have z2_1_2 : w1.heap.size + 2 < w2.heap.size := by omega
    go_wp2_with fail
    refine (flowValid_impl fa fb fc fd fk _).mono ?_
    rintro e w3 ⟨rfl, b3⟩
    rw [hF]
    have hc3 := New.cells b3; have hf3 := New.marks b3; have hz3 := New.le b3; try simp only [World.size_alloc, World.size_setCell] at hz3
    try have z3_0_0 : w.heap.size < w3.heap.size := by omega
    try have z3_0_1 : w.heap.size + 1 < w3.heap.size := by omega
    try have z3_0_2 : w.heap.size + 2 < w3.heap.size := by omega
    try have z3_1_0 : w1.heap.size < w3.heap.size := by omega
    try have z3_1_1 : w1.heap.size + 1 < w3.heap.size := by omega
    try have z3_1_2 : w1.heap.size + 2 < w3.heap.size := by omega
    try have z3_2_0 : w2.heap.size < w3.heap.size := by omega
    try have z3_2_1 : w2.heap.size + 1 < w3.heap.size := by omega
    try have z3_2_2 : w2.heap.size + 2 < w3.heap.size := by omega
    go_wp2_with fail
    go_ret
    exact ⟨by rw [HZ.out]; rfl, (by repeat (first | with_reducible assumption | with_reducible exact New.refl _ | with_reducible refine New.alloc ?_ _ | with_reducible refine New.drew ?_ | with_reducible refine New.drewN ?_ _ | refine New.setCell ?_ (by first | (simp; done) | omega | (simp; omega)) _ | with_reducible refine New.trans ?_ (by with_reducible assumption)))⟩
  have hok : (poolB hs && tabB sz st es && flowB fa fb fc fd fk) = true := by rw [hP, hT, hF]; rfl
  obtain ⟨Fh, hFh⟩ : ∃ Fh, findZ sz st es fa fb fc fd fk = Fh := ⟨_, rfl⟩
  have HFh := Lib.hid hFh
  by_cases h0 : 0 ≤ Fh
  · obtain ⟨S, hS⟩ : ∃ S, stateZ hs Fh = S := ⟨_, rfl⟩
    have HS := Lib.hid hS
    by_cases hS0 : S = 0
    · have HZ := Lib.hid (chooseZ_new hok (by rw [hFh, hS]; exact fun h => h.2 hS0))
      subst hS0
      clear hok hFh hS
      go_enter Try.func52, Try.ntmps52
      go_wp2_with fail
      refine (poolValid_impl A n c hs _ HN.out hml (HH.out.new (by repeat (first | with_reducible assumption | with_reducible exact New.refl _ | with_reducible refine New.alloc ?_ _ | with_reducible refine New.drew ?_ | with_reducible refine New.drewN ?_ _ | refine New.setCell ?_ (by first | (simp; done) | omega | (simp; omega)) _ | with_reducible refine New.trans ?_ (by with_reducible assumption))))).mono ?_
      rintro e w1 ⟨rfl, b1⟩
      rw [hP]
      have hc1 := New.cells b1; have hf1 := New.marks b1; have hz1 := New.le b1; try simp only [World.size_alloc, World.size_setCell] at hz1
      try have z1_0_0 : w.heap.size < w1.heap.size := by omega
      try have z1_0_1 : w.heap.size + 1 < w1.heap.size := by omega
      try have z1_0_2 : w.heap.size + 2 < w1.heap.size := by omega
      go_wp2_with fail
      refine (tableValid_impl sz st A' n' c' es _ HN'.out hm' (HH'.out.new (by repeat (first | with_reducible assumption | with_reducible exact New.refl _ | with_reducible refine New.alloc ?_ _ | with_reducible refine New.drew ?_ | with_reducible refine New.drewN ?_ _ | refine New.setCell ?_ (by first | (simp; done) | omega | (simp; omega)) _ | with_reducible refine New.trans ?_ (by with_reducible assumption))))).mono ?_
      rintro e w2 ⟨rfl, b2⟩
      rw [hT]
      have hc2 := New.cells b2; have hf2 := New.marks b2; have hz2 := New.le b2; try simp only [World.size_alloc, World.size_setCell] at hz2
      try have z2_0_0 : w.heap.size < w2.heap.size := by omega
      try have z2_0_1 : w.heap.size + 1 < w2.heap.size := by omega
      try have z2_0_2 : w.heap.size + 2 < w2.heap.size := by omega
      try have z2_1_0 : w1.heap.size < w2.heap.size := by omega
      try have z2_1_1 : w1.heap.size + 1 < w2.heap.size := by omega
      try have z2_1_2 : w1.heap.size + 2 < w2.heap.size := by omega
      go_wp2_with fail
      refine (flowValid_impl fa fb fc fd fk _).mono ?_
      rintro e w3 ⟨rfl, b3⟩
      rw [hF]
      have hc3 := New.cells b3; have hf3 := New.marks b3; have hz3 := New.le b3; try simp only [World.size_alloc, World.size_setCell] at hz3
      try have z3_0_0 : w.heap.size < w3.heap.size := by omega
      try have z3_0_1 : w.heap.size + 1 < w3.heap.size := by omega
      try have z3_0_2 : w.heap.size + 2 < w3.heap.size := by omega
      try have z3_1_0 : w1.heap.size < w3.heap.size := by omega
      try have z3_1_1 : w1.heap.size + 1 < w3.heap.size := by omega
      try have z3_1_2 : w1.heap.size + 2 < w3.heap.size := by omega
      try have z3_2_0 : w2.heap.size < w3.heap.size := by omega
      try have z3_2_1 : w2.heap.size + 1 < w3.heap.size := by omega
      try have z3_2_2 : w2.heap.size + 2 < w3.heap.size := by omega
      go_wp2_with fail
      refine (findFlow_impl sz st A' n' c' es fa fb fc fd fk _ HN'.out hm' (HH'.out.new (by repeat (first | with_reducible assumption | with_reducible exact New.refl _ | with_reducible refine New.alloc ?_ _ | with_reducible refine New.drew ?_ | with_reducible refine New.drewN ?_ _ | refine New.setCell ?_ (by first | (simp; done) | omega | (simp; omega)) _ | with_reducible refine New.trans ?_ (by with_reducible assumption))))).mono ?_
      rintro e w4 ⟨rfl, b4⟩
      rw [HFh.out]
      have hc4 := New.cells b4; have hf4 := New.marks b4; have hz4 := New.le b4; try simp only [World.size_alloc, World.size_setCell] at hz4
      try have z4_0_0 : w.heap.size < w4.heap.size := by omega
      try have z4_0_1 : w.heap.size + 1 < w4.heap.size := by omega
      try have z4_0_2 : w.heap.size + 2 < w4.heap.size := by omega
      try have z4_1_0 : w1.heap.size < w4.heap.size := by omega
      try have z4_1_1 : w1.heap.size + 1 < w4.heap.size := by omega
      try have z4_1_2 : w1.heap.size + 2 < w4.heap.size := by omega
      try have z4_2_0 : w2.heap.size < w4.heap.size := by omega
      try have z4_2_1 : w2.heap.size + 1 < w4.heap.size := by omega
      try have z4_2_2 : w2.heap.size + 2 < w4.heap.size := by omega
      try have z4_3_0 : w3.heap.size < w4.heap.size := by omega
      try have z4_3_1 : w3.heap.size + 1 < w4.heap.size := by omega
      try have z4_3_2 : w3.heap.size + 2 < w4.heap.size := by omega
      go_wp2_with fail
      refine (hostState_impl A n c hs Fh _ HN.out hml (HH.out.new (by repeat (first | with_reducible assumption | with_reducible exact New.refl _ | with_reducible refine New.alloc ?_ _ | with_reducible refine New.drew ?_ | with_reducible refine New.drewN ?_ _ | refine New.setCell ?_ (by first | (simp; done) | omega | (simp; omega)) _ | with_reducible refine New.trans ?_ (by with_reducible assumption))))).mono ?_
      rintro e w5 ⟨rfl, b5⟩
      rw [HS.out]
      have hc5 := New.cells b5; have hf5 := New.marks b5; have hz5 := New.le b5; try simp only [World.size_alloc, World.size_setCell] at hz5
      try have z5_0_0 : w.heap.size < w5.heap.size := by omega
      try have z5_0_1 : w.heap.size + 1 < w5.heap.size := by omega
      try have z5_0_2 : w.heap.size + 2 < w5.heap.size := by omega
      try have z5_1_0 : w1.heap.size < w5.heap.size := by omega
      try have z5_1_1 : w1.heap.size + 1 < w5.heap.size := by omega
      try have z5_1_2 : w1.heap.size + 2 < w5.heap.size := by omega
      try have z5_2_0 : w2.heap.size < w5.heap.size := by omega
      try have z5_2_1 : w2.heap.size + 1 < w5.heap.size := by omega
      try have z5_2_2 : w2.heap.size + 2 < w5.heap.size := by omega
      try have z5_3_0 : w3.heap.size < w5.heap.size := by omega
      try have z5_3_1 : w3.heap.size + 1 < w5.heap.size := by omega
      try have z5_3_2 : w3.heap.size + 2 < w5.heap.size := by omega
      try have z5_4_0 : w4.heap.size < w5.heap.size := by omega
      try have z5_4_1 : w4.heap.size + 1 < w5.heap.size := by omega
      try have z5_4_2 : w4.heap.size + 2 < w5.heap.size := by omega
      go_wp2_with fail
      refine (flowHash_impl fa fb fc fd fk _).mono ?_
      rintro e w6 ⟨rfl, b6⟩
      have hc6 := New.cells b6; have hf6 := New.marks b6; have hz6 := New.le b6; try simp only [World.size_alloc, World.size_setCell] at hz6
      try have z6_0_0 : w.heap.size < w6.heap.size := by omega
      try have z6_0_1 : w.heap.size + 1 < w6.heap.size := by omega
      try have z6_0_2 : w.heap.size + 2 < w6.heap.size := by omega
      try have z6_1_0 : w1.heap.size < w6.heap.size := by omega
      try have z6_1_1 : w1.heap.size + 1 < w6.heap.size := by omega
      try have z6_1_2 : w1.heap.size + 2 < w6.heap.size := by omega
      try have z6_2_0 : w2.heap.size < w6.heap.size := by omega
      try have z6_2_1 : w2.heap.size + 1 < w6.heap.size := by omega
      try have z6_2_2 : w2.heap.size + 2 < w6.heap.size := by omega
      try have z6_3_0 : w3.heap.size < w6.heap.size := by omega
      try have z6_3_1 : w3.heap.size + 1 < w6.heap.size := by omega
      try have z6_3_2 : w3.heap.size + 2 < w6.heap.size := by omega
      try have z6_4_0 : w4.heap.size < w6.heap.size := by omega
      try have z6_4_1 : w4.heap.size + 1 < w6.heap.size := by omega
      try have z6_4_2 : w4.heap.size + 2 < w6.heap.size := by omega
      try have z6_5_0 : w5.heap.size < w6.heap.size := by omega
      try have z6_5_1 : w5.heap.size + 1 < w6.heap.size := by omega
      try have z6_5_2 : w5.heap.size + 2 < w6.heap.size := by omega
      go_wp2_with fail
      refine (rvHost_impl A n c hs (flowHashZ fa fb fc fd fk) _ HN.out hm (HH.out.new (by repeat (first | with_reducible assumption | with_reducible exact New.refl _ | with_reducible refine New.alloc ?_ _ | with_reducible refine New.drew ?_ | with_reducible refine New.drewN ?_ _ | refine New.setCell ?_ (by first | (simp; done) | omega | (simp; omega)) _ | with_reducible refine New.trans ?_ (by with_reducible assumption))))).mono ?_
      rintro e w7 ⟨rfl, b7⟩
      have hc7 := New.cells b7; have hf7 := New.marks b7; have hz7 := New.le b7; try simp only [World.size_alloc, World.size_setCell] at hz7
      try have z7_0_0 : w.heap.size < w7.heap.size := by omega
      try have z7_0_1 : w.heap.size + 1 < w7.heap.size := by omega
      try have z7_0_2 : w.heap.size + 2 < w7.heap.size := by omega
      try have z7_1_0 : w1.heap.size < w7.heap.size := by omega
      try have z7_1_1 : w1.heap.size + 1 < w7.heap.size := by omega
      try have z7_1_2 : w1.heap.size + 2 < w7.heap.size := by omega
      try have z7_2_0 : w2.heap.size < w7.heap.size := by omega
      try have z7_2_1 : w2.heap.size + 1 < w7.heap.size := by omega
      try have z7_2_2 : w2.heap.size + 2 < w7.heap.size := by omega
      try have z7_3_0 : w3.heap.size < w7.heap.size := by omega
      try have z7_3_1 : w3.heap.size + 1 < w7.heap.size := by omega
      try have z7_3_2 : w3.heap.size + 2 < w7.heap.size := by omega
      try have z7_4_0 : w4.heap.size < w7.heap.size := by omega
      try have z7_4_1 : w4.heap.size + 1 < w7.heap.size := by omega
      try have z7_4_2 : w4.heap.size + 2 < w7.heap.size := by omega
      try have z7_5_0 : w5.heap.size < w7.heap.size := by omega
      try have z7_5_1 : w5.heap.size + 1 < w7.heap.size := by omega
      try have z7_5_2 : w5.heap.size + 2 < w7.heap.size := by omega
      try have z7_6_0 : w6.heap.size < w7.heap.size := by omega
      try have z7_6_1 : w6.heap.size + 1 < w7.heap.size := by omega
      try have z7_6_2 : w6.heap.size + 2 < w7.heap.size := by omega
      go_wp2_with fail
      go_ret
      exact ⟨by rw [HZ.out]; rfl, (by repeat (first | with_reducible assumption | with_reducible exact New.refl _ | with_reducible refine New.alloc ?_ _ | with_reducible refine New.drew ?_ | with_reducible refine New.drewN ?_ _ | refine New.setCell ?_ (by first | (simp; done) | omega | (simp; omega)) _ | with_reducible refine New.trans ?_ (by with_reducible assumption)))⟩
    · have HZ := Lib.hid (chooseZ_old hok (by rw [hFh]; exact h0) (by rw [hFh, hS]; exact hS0))
      have hSb : (S == 0) = false := by simpa using hS0
      have hSn : (S != 0) = true := by simpa using hS0
      clear hok hFh hS
      go_enter Try.func52, Try.ntmps52
      go_wp2_with fail
      refine (poolValid_impl A n c hs _ HN.out hml (HH.out.new (by repeat (first | with_reducible assumption | with_reducible exact New.refl _ | with_reducible refine New.alloc ?_ _ | with_reducible refine New.drew ?_ | with_reducible refine New.drewN ?_ _ | refine New.setCell ?_ (by first | (simp; done) | omega | (simp; omega)) _ | with_reducible refine New.trans ?_ (by with_reducible assumption))))).mono ?_
      rintro e w1 ⟨rfl, b1⟩
      rw [hP]
      have hc1 := New.cells b1; have hf1 := New.marks b1; have hz1 := New.le b1; try simp only [World.size_alloc, World.size_setCell] at hz1
      try have z1_0_0 : w.heap.size < w1.heap.size := by omega
      try have z1_0_1 : w.heap.size + 1 < w1.heap.size := by omega
      try have z1_0_2 : w.heap.size + 2 < w1.heap.size := by omega
      go_wp2_with fail
      refine (tableValid_impl sz st A' n' c' es _ HN'.out hm' (HH'.out.new (by repeat (first | with_reducible assumption | with_reducible exact New.refl _ | with_reducible refine New.alloc ?_ _ | with_reducible refine New.drew ?_ | with_reducible refine New.drewN ?_ _ | refine New.setCell ?_ (by first | (simp; done) | omega | (simp; omega)) _ | with_reducible refine New.trans ?_ (by with_reducible assumption))))).mono ?_
      rintro e w2 ⟨rfl, b2⟩
      rw [hT]
      have hc2 := New.cells b2; have hf2 := New.marks b2; have hz2 := New.le b2; try simp only [World.size_alloc, World.size_setCell] at hz2
      try have z2_0_0 : w.heap.size < w2.heap.size := by omega
      try have z2_0_1 : w.heap.size + 1 < w2.heap.size := by omega
      try have z2_0_2 : w.heap.size + 2 < w2.heap.size := by omega
      try have z2_1_0 : w1.heap.size < w2.heap.size := by omega
      try have z2_1_1 : w1.heap.size + 1 < w2.heap.size := by omega
      try have z2_1_2 : w1.heap.size + 2 < w2.heap.size := by omega
      go_wp2_with fail
      refine (flowValid_impl fa fb fc fd fk _).mono ?_
      rintro e w3 ⟨rfl, b3⟩
      rw [hF]
      have hc3 := New.cells b3; have hf3 := New.marks b3; have hz3 := New.le b3; try simp only [World.size_alloc, World.size_setCell] at hz3
      try have z3_0_0 : w.heap.size < w3.heap.size := by omega
      try have z3_0_1 : w.heap.size + 1 < w3.heap.size := by omega
      try have z3_0_2 : w.heap.size + 2 < w3.heap.size := by omega
      try have z3_1_0 : w1.heap.size < w3.heap.size := by omega
      try have z3_1_1 : w1.heap.size + 1 < w3.heap.size := by omega
      try have z3_1_2 : w1.heap.size + 2 < w3.heap.size := by omega
      try have z3_2_0 : w2.heap.size < w3.heap.size := by omega
      try have z3_2_1 : w2.heap.size + 1 < w3.heap.size := by omega
      try have z3_2_2 : w2.heap.size + 2 < w3.heap.size := by omega
      go_wp2_with fail
      refine (findFlow_impl sz st A' n' c' es fa fb fc fd fk _ HN'.out hm' (HH'.out.new (by repeat (first | with_reducible assumption | with_reducible exact New.refl _ | with_reducible refine New.alloc ?_ _ | with_reducible refine New.drew ?_ | with_reducible refine New.drewN ?_ _ | refine New.setCell ?_ (by first | (simp; done) | omega | (simp; omega)) _ | with_reducible refine New.trans ?_ (by with_reducible assumption))))).mono ?_
      rintro e w4 ⟨rfl, b4⟩
      rw [HFh.out]
      have hc4 := New.cells b4; have hf4 := New.marks b4; have hz4 := New.le b4; try simp only [World.size_alloc, World.size_setCell] at hz4
      try have z4_0_0 : w.heap.size < w4.heap.size := by omega
      try have z4_0_1 : w.heap.size + 1 < w4.heap.size := by omega
      try have z4_0_2 : w.heap.size + 2 < w4.heap.size := by omega
      try have z4_1_0 : w1.heap.size < w4.heap.size := by omega
      try have z4_1_1 : w1.heap.size + 1 < w4.heap.size := by omega
      try have z4_1_2 : w1.heap.size + 2 < w4.heap.size := by omega
      try have z4_2_0 : w2.heap.size < w4.heap.size := by omega
      try have z4_2_1 : w2.heap.size + 1 < w4.heap.size := by omega
      try have z4_2_2 : w2.heap.size + 2 < w4.heap.size := by omega
      try have z4_3_0 : w3.heap.size < w4.heap.size := by omega
      try have z4_3_1 : w3.heap.size + 1 < w4.heap.size := by omega
      try have z4_3_2 : w3.heap.size + 2 < w4.heap.size := by omega
      go_wp2_with fail
      refine (hostState_impl A n c hs Fh _ HN.out hml (HH.out.new (by repeat (first | with_reducible assumption | with_reducible exact New.refl _ | with_reducible refine New.alloc ?_ _ | with_reducible refine New.drew ?_ | with_reducible refine New.drewN ?_ _ | refine New.setCell ?_ (by first | (simp; done) | omega | (simp; omega)) _ | with_reducible refine New.trans ?_ (by with_reducible assumption))))).mono ?_
      rintro e w5 ⟨rfl, b5⟩
      rw [HS.out]
      have hc5 := New.cells b5; have hf5 := New.marks b5; have hz5 := New.le b5; try simp only [World.size_alloc, World.size_setCell] at hz5
      try have z5_0_0 : w.heap.size < w5.heap.size := by omega
      try have z5_0_1 : w.heap.size + 1 < w5.heap.size := by omega
      try have z5_0_2 : w.heap.size + 2 < w5.heap.size := by omega
      try have z5_1_0 : w1.heap.size < w5.heap.size := by omega
      try have z5_1_1 : w1.heap.size + 1 < w5.heap.size := by omega
      try have z5_1_2 : w1.heap.size + 2 < w5.heap.size := by omega
      try have z5_2_0 : w2.heap.size < w5.heap.size := by omega
      try have z5_2_1 : w2.heap.size + 1 < w5.heap.size := by omega
      try have z5_2_2 : w2.heap.size + 2 < w5.heap.size := by omega
      try have z5_3_0 : w3.heap.size < w5.heap.size := by omega
      try have z5_3_1 : w3.heap.size + 1 < w5.heap.size := by omega
      try have z5_3_2 : w3.heap.size + 2 < w5.heap.size := by omega
      try have z5_4_0 : w4.heap.size < w5.heap.size := by omega
      try have z5_4_1 : w4.heap.size + 1 < w5.heap.size := by omega
      try have z5_4_2 : w4.heap.size + 2 < w5.heap.size := by omega
      go_wp2_with fail
      go_ret
      exact ⟨by rw [HZ.out, HFh.out]; rfl, (by repeat (first | with_reducible assumption | with_reducible exact New.refl _ | with_reducible refine New.alloc ?_ _ | with_reducible refine New.drew ?_ | with_reducible refine New.drewN ?_ _ | refine New.setCell ?_ (by first | (simp; done) | omega | (simp; omega)) _ | with_reducible refine New.trans ?_ (by with_reducible assumption)))⟩
  · have HZ := Lib.hid (chooseZ_new (hs := hs) hok (by rw [hFh]; exact fun h => h0 h.1))
    have hFn : decide (0 ≤ Fh) = false := by simp; omega
    have hFl : Fh < 0 := by omega
    clear hok hFh
    go_enter Try.func52, Try.ntmps52
    go_wp2_with fail
    refine (poolValid_impl A n c hs _ HN.out hml (HH.out.new (by repeat (first | with_reducible assumption | with_reducible exact New.refl _ | with_reducible refine New.alloc ?_ _ | with_reducible refine New.drew ?_ | with_reducible refine New.drewN ?_ _ | refine New.setCell ?_ (by first | (simp; done) | omega | (simp; omega)) _ | with_reducible refine New.trans ?_ (by with_reducible assumption))))).mono ?_
    rintro e w1 ⟨rfl, b1⟩
    rw [hP]
    have hc1 := New.cells b1; have hf1 := New.marks b1; have hz1 := New.le b1; try simp only [World.size_alloc, World.size_setCell] at hz1
    try have z1_0_0 : w.heap.size < w1.heap.size := by omega
    try have z1_0_1 : w.heap.size + 1 < w1.heap.size := by omega
    try have z1_0_2 : w.heap.size + 2 < w1.heap.size := by omega
    go_wp2_with fail
    refine (tableValid_impl sz st A' n' c' es _ HN'.out hm' (HH'.out.new (by repeat (first | with_reducible assumption | with_reducible exact New.refl _ | with_reducible refine New.alloc ?_ _ | with_reducible refine New.drew ?_ | with_reducible refine New.drewN ?_ _ | refine New.setCell ?_ (by first | (simp; done) | omega | (simp; omega)) _ | with_reducible refine New.trans ?_ (by with_reducible assumption))))).mono ?_
    rintro e w2 ⟨rfl, b2⟩
    rw [hT]
    have hc2 := New.cells b2; have hf2 := New.marks b2; have hz2 := New.le b2; try simp only [World.size_alloc, World.size_setCell] at hz2
    try have z2_0_0 : w.heap.size < w2.heap.size := by omega
    try have z2_0_1 : w.heap.size + 1 < w2.heap.size := by omega
    try have z2_0_2 : w.heap.size + 2 < w2.heap.size := by omega
    try have z2_1_0 : w1.heap.size < w2.heap.size := by omega
    try have z2_1_1 : w1.heap.size + 1 < w2.heap.size := by omega
    try have z2_1_2 : w1.heap.size + 2 < w2.heap.size := by omega
    go_wp2_with fail
    refine (flowValid_impl fa fb fc fd fk _).mono ?_
    rintro e w3 ⟨rfl, b3⟩
    rw [hF]
    have hc3 := New.cells b3; have hf3 := New.marks b3; have hz3 := New.le b3; try simp only [World.size_alloc, World.size_setCell] at hz3
    try have z3_0_0 : w.heap.size < w3.heap.size := by omega
    try have z3_0_1 : w.heap.size + 1 < w3.heap.size := by omega
    try have z3_0_2 : w.heap.size + 2 < w3.heap.size := by omega
    try have z3_1_0 : w1.heap.size < w3.heap.size := by omega
    try have z3_1_1 : w1.heap.size + 1 < w3.heap.size := by omega
    try have z3_1_2 : w1.heap.size + 2 < w3.heap.size := by omega
    try have z3_2_0 : w2.heap.size < w3.heap.size := by omega
    try have z3_2_1 : w2.heap.size + 1 < w3.heap.size := by omega
    try have z3_2_2 : w2.heap.size + 2 < w3.heap.size := by omega
    go_wp2_with fail
    refine (findFlow_impl sz st A' n' c' es fa fb fc fd fk _ HN'.out hm' (HH'.out.new (by repeat (first | with_reducible assumption | with_reducible exact New.refl _ | with_reducible refine New.alloc ?_ _ | with_reducible refine New.drew ?_ | with_reducible refine New.drewN ?_ _ | refine New.setCell ?_ (by first | (simp; done) | omega | (simp; omega)) _ | with_reducible refine New.trans ?_ (by with_reducible assumption))))).mono ?_
    rintro e w4 ⟨rfl, b4⟩
    rw [HFh.out]
    have hc4 := New.cells b4; have hf4 := New.marks b4; have hz4 := New.le b4; try simp only [World.size_alloc, World.size_setCell] at hz4
    try have z4_0_0 : w.heap.size < w4.heap.size := by omega
    try have z4_0_1 : w.heap.size + 1 < w4.heap.size := by omega
    try have z4_0_2 : w.heap.size + 2 < w4.heap.size := by omega
    try have z4_1_0 : w1.heap.size < w4.heap.size := by omega
    try have z4_1_1 : w1.heap.size + 1 < w4.heap.size := by omega
    try have z4_1_2 : w1.heap.size + 2 < w4.heap.size := by omega
    try have z4_2_0 : w2.heap.size < w4.heap.size := by omega
    try have z4_2_1 : w2.heap.size + 1 < w4.heap.size := by omega
    try have z4_2_2 : w2.heap.size + 2 < w4.heap.size := by omega
    try have z4_3_0 : w3.heap.size < w4.heap.size := by omega
    try have z4_3_1 : w3.heap.size + 1 < w4.heap.size := by omega
    try have z4_3_2 : w3.heap.size + 2 < w4.heap.size := by omega
    go_wp2_with fail
    refine (flowHash_impl fa fb fc fd fk _).mono ?_
    rintro e w6 ⟨rfl, b6⟩
    have hc6 := New.cells b6; have hf6 := New.marks b6; have hz6 := New.le b6; try simp only [World.size_alloc, World.size_setCell] at hz6
    try have z6_0_0 : w.heap.size < w6.heap.size := by omega
    try have z6_0_1 : w.heap.size + 1 < w6.heap.size := by omega
    try have z6_0_2 : w.heap.size + 2 < w6.heap.size := by omega
    try have z6_1_0 : w1.heap.size < w6.heap.size := by omega
    try have z6_1_1 : w1.heap.size + 1 < w6.heap.size := by omega
    try have z6_1_2 : w1.heap.size + 2 < w6.heap.size := by omega
    try have z6_2_0 : w2.heap.size < w6.heap.size := by omega
    try have z6_2_1 : w2.heap.size + 1 < w6.heap.size := by omega
    try have z6_2_2 : w2.heap.size + 2 < w6.heap.size := by omega
    try have z6_3_0 : w3.heap.size < w6.heap.size := by omega
    try have z6_3_1 : w3.heap.size + 1 < w6.heap.size := by omega
    try have z6_3_2 : w3.heap.size + 2 < w6.heap.size := by omega
    try have z6_4_0 : w4.heap.size < w6.heap.size := by omega
    try have z6_4_1 : w4.heap.size + 1 < w6.heap.size := by omega
    try have z6_4_2 : w4.heap.size + 2 < w6.heap.size := by omega
    try have z6_5_0 : w5.heap.size < w6.heap.size := by omega
    try have z6_5_1 : w5.heap.size + 1 < w6.heap.size := by omega
    try have z6_5_2 : w5.heap.size + 2 < w6.heap.size := by omega
    go_wp2_with fail
    refine (rvHost_impl A n c hs (flowHashZ fa fb fc fd fk) _ HN.out hm (HH.out.new (by repeat (first | with_reducible assumption | with_reducible exact New.refl _ | with_reducible refine New.alloc ?_ _ | with_reducible refine New.drew ?_ | with_reducible refine New.drewN ?_ _ | refine New.setCell ?_ (by first | (simp; done) | omega | (simp; omega)) _ | with_reducible refine New.trans ?_ (by with_reducible assumption))))).mono ?_
    rintro e w7 ⟨rfl, b7⟩
    have hc7 := New.cells b7; have hf7 := New.marks b7; have hz7 := New.le b7; try simp only [World.size_alloc, World.size_setCell] at hz7
    try have z7_0_0 : w.heap.size < w7.heap.size := by omega
    try have z7_0_1 : w.heap.size + 1 < w7.heap.size := by omega
    try have z7_0_2 : w.heap.size + 2 < w7.heap.size := by omega
    try have z7_1_0 : w1.heap.size < w7.heap.size := by omega
    try have z7_1_1 : w1.heap.size + 1 < w7.heap.size := by omega
    try have z7_1_2 : w1.heap.size + 2 < w7.heap.size := by omega
    try have z7_2_0 : w2.heap.size < w7.heap.size := by omega
    try have z7_2_1 : w2.heap.size + 1 < w7.heap.size := by omega
    try have z7_2_2 : w2.heap.size + 2 < w7.heap.size := by omega
    try have z7_3_0 : w3.heap.size < w7.heap.size := by omega
    try have z7_3_1 : w3.heap.size + 1 < w7.heap.size := by omega
    try have z7_3_2 : w3.heap.size + 2 < w7.heap.size := by omega
    try have z7_4_0 : w4.heap.size < w7.heap.size := by omega
    try have z7_4_1 : w4.heap.size + 1 < w7.heap.size := by omega
    try have z7_4_2 : w4.heap.size + 2 < w7.heap.size := by omega
    try have z7_5_0 : w5.heap.size < w7.heap.size := by omega
    try have z7_5_1 : w5.heap.size + 1 < w7.heap.size := by omega
    try have z7_5_2 : w5.heap.size + 2 < w7.heap.size := by omega
    try have z7_6_0 : w6.heap.size < w7.heap.size := by omega
    try have z7_6_1 : w6.heap.size + 1 < w7.heap.size := by omega
    try have z7_6_2 : w6.heap.size + 2 < w7.heap.size := by omega
    go_wp2_with fail
    go_ret
    exact ⟨by rw [HZ.out]; rfl, (by repeat (first | with_reducible assumption | with_reducible exact New.refl _ | with_reducible refine New.alloc ?_ _ | with_reducible refine New.drew ?_ | with_reducible refine New.drewN ?_ _ | refine New.setCell ?_ (by first | (simp; done) | omega | (simp; omega)) _ | with_reducible refine New.trans ?_ (by with_reducible assumption)))⟩
set_option maxRecDepth 100000 in
set_option maxHeartbeats 1000000 in
theorem choose_spec (A : Option Addr) (n c : Nat) (hs : List Hst) (sz st : Int) (A' : Option Addr) (n' c' : Nat) (es : List Ent) (fa fb fc fd fk : Int) (w : World) (hn : hs.length = n) (hm : n ≤ 1048576) (h : Ints w A (flat hs)) (hn' : es.length = n') (hnc : n' ≤ c') (hm' : n' ≤ 1048576) (h' : Ints w A' (flatE es)) :
    Calls Try.prog 53 #[.slice A n c, .agg #[.int .i64 sz, .int .i64 st, .slice A' n' c'], .agg #[.int .i64 fa, .int .i64 fb, .int .i64 fc, .int .i64 fd, .int .i64 fk]] w fun e w' => e = .returned (.int .i64 (chooseZ hs sz st es fa fb fc fd fk)) ∧ New w w' := by
  have hml : n ≤ maxLen := by unfold maxLen; omega
  have HN := Lib.hid hn
  have HH := Lib.hid h
  have HN' := Lib.hid hn'
  have HH' := Lib.hid h'
  clear hn h hn' h'
  cases hP : poolB hs
  · have HZ := Lib.hid (chooseZ_no (hs := hs) (sz := sz) (st := st) (es := es) (a := fa) (b := fb) (c := fc) (d := fd) (k := fk) (by simp [hP]))
    go_enter Try.func53, Try.ntmps53
    go_wp2_with fail
    refine (poolValid_spec A n c hs _ HN.out hml (HH.out.new (by repeat (first | with_reducible assumption | with_reducible exact New.refl _ | with_reducible refine New.alloc ?_ _ | with_reducible refine New.drew ?_ | with_reducible refine New.drewN ?_ _ | refine New.setCell ?_ (by first | (simp; done) | omega | (simp; omega)) _ | with_reducible refine New.trans ?_ (by with_reducible assumption))))).mono ?_
    rintro e w1 ⟨rfl, b1⟩
    rw [hP]
    have hc1 := New.cells b1; have hf1 := New.marks b1; have hz1 := New.le b1; try simp only [World.size_alloc, World.size_setCell] at hz1
    try have z1_0_0 : w.heap.size < w1.heap.size := by omega
    try have z1_0_1 : w.heap.size + 1 < w1.heap.size := by omega
    try have z1_0_2 : w.heap.size + 2 < w1.heap.size := by omega
    go_wp2_with fail
    go_ret
    exact ⟨by rw [HZ.out]; rfl, (by repeat (first | with_reducible assumption | with_reducible exact New.refl _ | with_reducible refine New.alloc ?_ _ | with_reducible refine New.drew ?_ | with_reducible refine New.drewN ?_ _ | refine New.setCell ?_ (by first | (simp; done) | omega | (simp; omega)) _ | with_reducible refine New.trans ?_ (by with_reducible assumption)))⟩
  cases hT : tabB sz st es
  · have HZ := Lib.hid (chooseZ_no (hs := hs) (sz := sz) (st := st) (es := es) (a := fa) (b := fb) (c := fc) (d := fd) (k := fk) (by simp [hT]))
    go_enter Try.func53, Try.ntmps53
    go_wp2_with fail
    refine (poolValid_spec A n c hs _ HN.out hml (HH.out.new (by repeat (first | with_reducible assumption | with_reducible exact New.refl _ | with_reducible refine New.alloc ?_ _ | with_reducible refine New.drew ?_ | with_reducible refine New.drewN ?_ _ | refine New.setCell ?_ (by first | (simp; done) | omega | (simp; omega)) _ | with_reducible refine New.trans ?_ (by with_reducible assumption))))).mono ?_
    rintro e w1 ⟨rfl, b1⟩
    rw [hP]
    have hc1 := New.cells b1; have hf1 := New.marks b1; have hz1 := New.le b1; try simp only [World.size_alloc, World.size_setCell] at hz1
    try have z1_0_0 : w.heap.size < w1.heap.size := by omega
    try have z1_0_1 : w.heap.size + 1 < w1.heap.size := by omega
    try have z1_0_2 : w.heap.size + 2 < w1.heap.size := by omega
    go_wp2_with fail
    refine (tableValid_spec sz st A' n' c' es _ HN'.out hnc hm' (HH'.out.new (by repeat (first | with_reducible assumption | with_reducible exact New.refl _ | with_reducible refine New.alloc ?_ _ | with_reducible refine New.drew ?_ | with_reducible refine New.drewN ?_ _ | refine New.setCell ?_ (by first | (simp; done) | omega | (simp; omega)) _ | with_reducible refine New.trans ?_ (by with_reducible assumption))))).mono ?_
    rintro e w2 ⟨rfl, b2⟩
    rw [hT]
    have hc2 := New.cells b2; have hf2 := New.marks b2; have hz2 := New.le b2; try simp only [World.size_alloc, World.size_setCell] at hz2
    try have z2_0_0 : w.heap.size < w2.heap.size := by omega
    try have z2_0_1 : w.heap.size + 1 < w2.heap.size := by omega
    try have z2_0_2 : w.heap.size + 2 < w2.heap.size := by omega
    try have z2_1_0 : w1.heap.size < w2.heap.size := by omega
    try have z2_1_1 : w1.heap.size + 1 < w2.heap.size := by omega
    try have z2_1_2 : w1.heap.size + 2 < w2.heap.size := by omega
    go_wp2_with fail
    go_ret
    exact ⟨by rw [HZ.out]; rfl, (by repeat (first | with_reducible assumption | with_reducible exact New.refl _ | with_reducible refine New.alloc ?_ _ | with_reducible refine New.drew ?_ | with_reducible refine New.drewN ?_ _ | refine New.setCell ?_ (by first | (simp; done) | omega | (simp; omega)) _ | with_reducible refine New.trans ?_ (by with_reducible assumption)))⟩
  cases hF : flowB fa fb fc fd fk
  · have HZ := Lib.hid (chooseZ_no (hs := hs) (sz := sz) (st := st) (es := es) (a := fa) (b := fb) (c := fc) (d := fd) (k := fk) (by simp [hF]))
    go_enter Try.func53, Try.ntmps53
    go_wp2_with fail
    refine (poolValid_spec A n c hs _ HN.out hml (HH.out.new (by repeat (first | with_reducible assumption | with_reducible exact New.refl _ | with_reducible refine New.alloc ?_ _ | with_reducible refine New.drew ?_ | with_reducible refine New.drewN ?_ _ | refine New.setCell ?_ (by first | (simp; done) | omega | (simp; omega)) _ | with_reducible refine New.trans ?_ (by with_reducible assumption))))).mono ?_
    rintro e w1 ⟨rfl, b1⟩
    rw [hP]
    have hc1 := New.cells b1; have hf1 := New.marks b1; have hz1 := New.le b1; try simp only [World.size_alloc, World.size_setCell] at hz1
    try have z1_0_0 : w.heap.size < w1.heap.size := by omega
    try have z1_0_1 : w.heap.size + 1 < w1.heap.size := by omega
    try have z1_0_2 : w.heap.size + 2 < w1.heap.size := by omega
    go_wp2_with fail
    refine (tableValid_spec sz st A' n' c' es _ HN'.out hnc hm' (HH'.out.new (by repeat (first | with_reducible assumption | with_reducible exact New.refl _ | with_reducible refine New.alloc ?_ _ | with_reducible refine New.drew ?_ | with_reducible refine New.drewN ?_ _ | refine New.setCell ?_ (by first | (simp; done) | omega | (simp; omega)) _ | with_reducible refine New.trans ?_ (by with_reducible assumption))))).mono ?_
    rintro e w2 ⟨rfl, b2⟩
    rw [hT]
    have hc2 := New.cells b2; have hf2 := New.marks b2; have hz2 := New.le b2; try simp only [World.size_alloc, World.size_setCell] at hz2
    try have z2_0_0 : w.heap.size < w2.heap.size := by omega
    try have z2_0_1 : w.heap.size + 1 < w2.heap.size := by omega
    try have z2_0_2 : w.heap.size + 2 < w2.heap.size := by omega
    try have z2_1_0 : w1.heap.size < w2.heap.size := by omega
    try have z2_1_1 : w1.heap.size + 1 < w2.heap.size := by omega
    try have z2_1_2 : w1.heap.size + 2 < w2.heap.size := by omega
    go_wp2_with fail
    refine (flowValid_spec fa fb fc fd fk _).mono ?_
    rintro e w3 ⟨rfl, b3⟩
    rw [hF]
    have hc3 := New.cells b3; have hf3 := New.marks b3; have hz3 := New.le b3; try simp only [World.size_alloc, World.size_setCell] at hz3
    try have z3_0_0 : w.heap.size < w3.heap.size := by omega
    try have z3_0_1 : w.heap.size + 1 < w3.heap.size := by omega
    try have z3_0_2 : w.heap.size + 2 < w3.heap.size := by omega
    try have z3_1_0 : w1.heap.size < w3.heap.size := by omega
    try have z3_1_1 : w1.heap.size + 1 < w3.heap.size := by omega
    try have z3_1_2 : w1.heap.size + 2 < w3.heap.size := by omega
    try have z3_2_0 : w2.heap.size < w3.heap.size := by omega
    try have z3_2_1 : w2.heap.size + 1 < w3.heap.size := by omega
    try have z3_2_2 : w2.heap.size + 2 < w3.heap.size := by omega
    go_wp2_with fail
    go_ret
    exact ⟨by rw [HZ.out]; rfl, (by repeat (first | with_reducible assumption | with_reducible exact New.refl _ | with_reducible refine New.alloc ?_ _ | with_reducible refine New.drew ?_ | with_reducible refine New.drewN ?_ _ | refine New.setCell ?_ (by first | (simp; done) | omega | (simp; omega)) _ | with_reducible refine New.trans ?_ (by with_reducible assumption)))⟩
  have hok : (poolB hs && tabB sz st es && flowB fa fb fc fd fk) = true := by rw [hP, hT, hF]; rfl
  obtain ⟨Fh, hFh⟩ : ∃ Fh, findZ sz st es fa fb fc fd fk = Fh := ⟨_, rfl⟩
  have HFh := Lib.hid hFh
  by_cases h0 : 0 ≤ Fh
  · obtain ⟨S, hS⟩ : ∃ S, stateZ hs Fh = S := ⟨_, rfl⟩
    have HS := Lib.hid hS
    by_cases hS0 : S = 0
    · have HZ := Lib.hid (chooseZ_new hok (by rw [hFh, hS]; exact fun h => h.2 hS0))
      subst hS0
      clear hok hFh hS
      go_enter Try.func53, Try.ntmps53
      go_wp2_with fail
      refine (poolValid_spec A n c hs _ HN.out hml (HH.out.new (by repeat (first | with_reducible assumption | with_reducible exact New.refl _ | with_reducible refine New.alloc ?_ _ | with_reducible refine New.drew ?_ | with_reducible refine New.drewN ?_ _ | refine New.setCell ?_ (by first | (simp; done) | omega | (simp; omega)) _ | with_reducible refine New.trans ?_ (by with_reducible assumption))))).mono ?_
      rintro e w1 ⟨rfl, b1⟩
      rw [hP]
      have hc1 := New.cells b1; have hf1 := New.marks b1; have hz1 := New.le b1; try simp only [World.size_alloc, World.size_setCell] at hz1
      try have z1_0_0 : w.heap.size < w1.heap.size := by omega
      try have z1_0_1 : w.heap.size + 1 < w1.heap.size := by omega
      try have z1_0_2 : w.heap.size + 2 < w1.heap.size := by omega
      go_wp2_with fail
      refine (tableValid_spec sz st A' n' c' es _ HN'.out hnc hm' (HH'.out.new (by repeat (first | with_reducible assumption | with_reducible exact New.refl _ | with_reducible refine New.alloc ?_ _ | with_reducible refine New.drew ?_ | with_reducible refine New.drewN ?_ _ | refine New.setCell ?_ (by first | (simp; done) | omega | (simp; omega)) _ | with_reducible refine New.trans ?_ (by with_reducible assumption))))).mono ?_
      rintro e w2 ⟨rfl, b2⟩
      rw [hT]
      have hc2 := New.cells b2; have hf2 := New.marks b2; have hz2 := New.le b2; try simp only [World.size_alloc, World.size_setCell] at hz2
      try have z2_0_0 : w.heap.size < w2.heap.size := by omega
      try have z2_0_1 : w.heap.size + 1 < w2.heap.size := by omega
      try have z2_0_2 : w.heap.size + 2 < w2.heap.size := by omega
      try have z2_1_0 : w1.heap.size < w2.heap.size := by omega
      try have z2_1_1 : w1.heap.size + 1 < w2.heap.size := by omega
      try have z2_1_2 : w1.heap.size + 2 < w2.heap.size := by omega
      go_wp2_with fail
      refine (flowValid_spec fa fb fc fd fk _).mono ?_
      rintro e w3 ⟨rfl, b3⟩
      rw [hF]
      have hc3 := New.cells b3; have hf3 := New.marks b3; have hz3 := New.le b3; try simp only [World.size_alloc, World.size_setCell] at hz3
      try have z3_0_0 : w.heap.size < w3.heap.size := by omega
      try have z3_0_1 : w.heap.size + 1 < w3.heap.size := by omega
      try have z3_0_2 : w.heap.size + 2 < w3.heap.size := by omega
      try have z3_1_0 : w1.heap.size < w3.heap.size := by omega
      try have z3_1_1 : w1.heap.size + 1 < w3.heap.size := by omega
      try have z3_1_2 : w1.heap.size + 2 < w3.heap.size := by omega
      try have z3_2_0 : w2.heap.size < w3.heap.size := by omega
      try have z3_2_1 : w2.heap.size + 1 < w3.heap.size := by omega
      try have z3_2_2 : w2.heap.size + 2 < w3.heap.size := by omega
      go_wp2_with fail
      refine (findFlow_spec sz st A' n' c' es fa fb fc fd fk _ HN'.out hnc hm' (HH'.out.new (by repeat (first | with_reducible assumption | with_reducible exact New.refl _ | with_reducible refine New.alloc ?_ _ | with_reducible refine New.drew ?_ | with_reducible refine New.drewN ?_ _ | refine New.setCell ?_ (by first | (simp; done) | omega | (simp; omega)) _ | with_reducible refine New.trans ?_ (by with_reducible assumption))))).mono ?_
      rintro e w4 ⟨rfl, b4⟩
      rw [HFh.out]
      have hc4 := New.cells b4; have hf4 := New.marks b4; have hz4 := New.le b4; try simp only [World.size_alloc, World.size_setCell] at hz4
      try have z4_0_0 : w.heap.size < w4.heap.size := by omega
      try have z4_0_1 : w.heap.size + 1 < w4.heap.size := by omega
      try have z4_0_2 : w.heap.size + 2 < w4.heap.size := by omega
      try have z4_1_0 : w1.heap.size < w4.heap.size := by omega
      try have z4_1_1 : w1.heap.size + 1 < w4.heap.size := by omega
      try have z4_1_2 : w1.heap.size + 2 < w4.heap.size := by omega
      try have z4_2_0 : w2.heap.size < w4.heap.size := by omega
      try have z4_2_1 : w2.heap.size + 1 < w4.heap.size := by omega
      try have z4_2_2 : w2.heap.size + 2 < w4.heap.size := by omega
      try have z4_3_0 : w3.heap.size < w4.heap.size := by omega
      try have z4_3_1 : w3.heap.size + 1 < w4.heap.size := by omega
      try have z4_3_2 : w3.heap.size + 2 < w4.heap.size := by omega
      go_wp2_with fail
      refine (hostState_spec A n c hs Fh _ HN.out hml (HH.out.new (by repeat (first | with_reducible assumption | with_reducible exact New.refl _ | with_reducible refine New.alloc ?_ _ | with_reducible refine New.drew ?_ | with_reducible refine New.drewN ?_ _ | refine New.setCell ?_ (by first | (simp; done) | omega | (simp; omega)) _ | with_reducible refine New.trans ?_ (by with_reducible assumption))))).mono ?_
      rintro e w5 ⟨rfl, b5⟩
      rw [HS.out]
      have hc5 := New.cells b5; have hf5 := New.marks b5; have hz5 := New.le b5; try simp only [World.size_alloc, World.size_setCell] at hz5
      try have z5_0_0 : w.heap.size < w5.heap.size := by omega
      try have z5_0_1 : w.heap.size + 1 < w5.heap.size := by omega
      try have z5_0_2 : w.heap.size + 2 < w5.heap.size := by omega
      try have z5_1_0 : w1.heap.size < w5.heap.size := by omega
      try have z5_1_1 : w1.heap.size + 1 < w5.heap.size := by omega
      try have z5_1_2 : w1.heap.size + 2 < w5.heap.size := by omega
      try have z5_2_0 : w2.heap.size < w5.heap.size := by omega
      try have z5_2_1 : w2.heap.size + 1 < w5.heap.size := by omega
      try have z5_2_2 : w2.heap.size + 2 < w5.heap.size := by omega
      try have z5_3_0 : w3.heap.size < w5.heap.size := by omega
      try have z5_3_1 : w3.heap.size + 1 < w5.heap.size := by omega
      try have z5_3_2 : w3.heap.size + 2 < w5.heap.size := by omega
      try have z5_4_0 : w4.heap.size < w5.heap.size := by omega
      try have z5_4_1 : w4.heap.size + 1 < w5.heap.size := by omega
      try have z5_4_2 : w4.heap.size + 2 < w5.heap.size := by omega
      go_wp2_with fail
      refine (flowHash_spec fa fb fc fd fk _).mono ?_
      rintro e w6 ⟨rfl, b6⟩
      have hc6 := New.cells b6; have hf6 := New.marks b6; have hz6 := New.le b6; try simp only [World.size_alloc, World.size_setCell] at hz6
      try have z6_0_0 : w.heap.size < w6.heap.size := by omega
      try have z6_0_1 : w.heap.size + 1 < w6.heap.size := by omega
      try have z6_0_2 : w.heap.size + 2 < w6.heap.size := by omega
      try have z6_1_0 : w1.heap.size < w6.heap.size := by omega
      try have z6_1_1 : w1.heap.size + 1 < w6.heap.size := by omega
      try have z6_1_2 : w1.heap.size + 2 < w6.heap.size := by omega
      try have z6_2_0 : w2.heap.size < w6.heap.size := by omega
      try have z6_2_1 : w2.heap.size + 1 < w6.heap.size := by omega
      try have z6_2_2 : w2.heap.size + 2 < w6.heap.size := by omega
      try have z6_3_0 : w3.heap.size < w6.heap.size := by omega
      try have z6_3_1 : w3.heap.size + 1 < w6.heap.size := by omega
      try have z6_3_2 : w3.heap.size + 2 < w6.heap.size := by omega
      try have z6_4_0 : w4.heap.size < w6.heap.size := by omega
      try have z6_4_1 : w4.heap.size + 1 < w6.heap.size := by omega
      try have z6_4_2 : w4.heap.size + 2 < w6.heap.size := by omega
      try have z6_5_0 : w5.heap.size < w6.heap.size := by omega
      try have z6_5_1 : w5.heap.size + 1 < w6.heap.size := by omega
      try have z6_5_2 : w5.heap.size + 2 < w6.heap.size := by omega
      go_wp2_with fail
      refine (rvHost_spec A n c hs (flowHashZ fa fb fc fd fk) _ HN.out hm (HH.out.new (by repeat (first | with_reducible assumption | with_reducible exact New.refl _ | with_reducible refine New.alloc ?_ _ | with_reducible refine New.drew ?_ | with_reducible refine New.drewN ?_ _ | refine New.setCell ?_ (by first | (simp; done) | omega | (simp; omega)) _ | with_reducible refine New.trans ?_ (by with_reducible assumption))))).mono ?_
      rintro e w7 ⟨rfl, b7⟩
      have hc7 := New.cells b7; have hf7 := New.marks b7; have hz7 := New.le b7; try simp only [World.size_alloc, World.size_setCell] at hz7
      try have z7_0_0 : w.heap.size < w7.heap.size := by omega
      try have z7_0_1 : w.heap.size + 1 < w7.heap.size := by omega
      try have z7_0_2 : w.heap.size + 2 < w7.heap.size := by omega
      try have z7_1_0 : w1.heap.size < w7.heap.size := by omega
      try have z7_1_1 : w1.heap.size + 1 < w7.heap.size := by omega
      try have z7_1_2 : w1.heap.size + 2 < w7.heap.size := by omega
      try have z7_2_0 : w2.heap.size < w7.heap.size := by omega
      try have z7_2_1 : w2.heap.size + 1 < w7.heap.size := by omega
      try have z7_2_2 : w2.heap.size + 2 < w7.heap.size := by omega
      try have z7_3_0 : w3.heap.size < w7.heap.size := by omega
      try have z7_3_1 : w3.heap.size + 1 < w7.heap.size := by omega
      try have z7_3_2 : w3.heap.size + 2 < w7.heap.size := by omega
      try have z7_4_0 : w4.heap.size < w7.heap.size := by omega
      try have z7_4_1 : w4.heap.size + 1 < w7.heap.size := by omega
      try have z7_4_2 : w4.heap.size + 2 < w7.heap.size := by omega
      try have z7_5_0 : w5.heap.size < w7.heap.size := by omega
      try have z7_5_1 : w5.heap.size + 1 < w7.heap.size := by omega
      try have z7_5_2 : w5.heap.size + 2 < w7.heap.size := by omega
      try have z7_6_0 : w6.heap.size < w7.heap.size := by omega
      try have z7_6_1 : w6.heap.size + 1 < w7.heap.size := by omega
      try have z7_6_2 : w6.heap.size + 2 < w7.heap.size := by omega
      go_wp2_with fail
      go_ret
      exact ⟨by rw [HZ.out]; rfl, (by repeat (first | with_reducible assumption | with_reducible exact New.refl _ | with_reducible refine New.alloc ?_ _ | with_reducible refine New.drew ?_ | with_reducible refine New.drewN ?_ _ | refine New.setCell ?_ (by first | (simp; done) | omega | (simp; omega)) _ | with_reducible refine New.trans ?_ (by with_reducible assumption)))⟩
    · have HZ := Lib.hid (chooseZ_old hok (by rw [hFh]; exact h0) (by rw [hFh, hS]; exact hS0))
      have hSb : (S == 0) = false := by simpa using hS0
      have hSn : (S != 0) = true := by simpa using hS0
      clear hok hFh hS
      go_enter Try.func53, Try.ntmps53
      go_wp2_with fail
      refine (poolValid_spec A n c hs _ HN.out hml (HH.out.new (by repeat (first | with_reducible assumption | with_reducible exact New.refl _ | with_reducible refine New.alloc ?_ _ | with_reducible refine New.drew ?_ | with_reducible refine New.drewN ?_ _ | refine New.setCell ?_ (by first | (simp; done) | omega | (simp; omega)) _ | with_reducible refine New.trans ?_ (by with_reducible assumption))))).mono ?_
      rintro e w1 ⟨rfl, b1⟩
      rw [hP]
      have hc1 := New.cells b1; have hf1 := New.marks b1; have hz1 := New.le b1; try simp only [World.size_alloc, World.size_setCell] at hz1
      try have z1_0_0 : w.heap.size < w1.heap.size := by omega
      try have z1_0_1 : w.heap.size + 1 < w1.heap.size := by omega
      try have z1_0_2 : w.heap.size + 2 < w1.heap.size := by omega
      go_wp2_with fail
      refine (tableValid_spec sz st A' n' c' es _ HN'.out hnc hm' (HH'.out.new (by repeat (first | with_reducible assumption | with_reducible exact New.refl _ | with_reducible refine New.alloc ?_ _ | with_reducible refine New.drew ?_ | with_reducible refine New.drewN ?_ _ | refine New.setCell ?_ (by first | (simp; done) | omega | (simp; omega)) _ | with_reducible refine New.trans ?_ (by with_reducible assumption))))).mono ?_
      rintro e w2 ⟨rfl, b2⟩
      rw [hT]
      have hc2 := New.cells b2; have hf2 := New.marks b2; have hz2 := New.le b2; try simp only [World.size_alloc, World.size_setCell] at hz2
      try have z2_0_0 : w.heap.size < w2.heap.size := by omega
      try have z2_0_1 : w.heap.size + 1 < w2.heap.size := by omega
      try have z2_0_2 : w.heap.size + 2 < w2.heap.size := by omega
      try have z2_1_0 : w1.heap.size < w2.heap.size := by omega
      try have z2_1_1 : w1.heap.size + 1 < w2.heap.size := by omega
      try have z2_1_2 : w1.heap.size + 2 < w2.heap.size := by omega
      go_wp2_with fail
      refine (flowValid_spec fa fb fc fd fk _).mono ?_
      rintro e w3 ⟨rfl, b3⟩
      rw [hF]
      have hc3 := New.cells b3; have hf3 := New.marks b3; have hz3 := New.le b3; try simp only [World.size_alloc, World.size_setCell] at hz3
      try have z3_0_0 : w.heap.size < w3.heap.size := by omega
      try have z3_0_1 : w.heap.size + 1 < w3.heap.size := by omega
      try have z3_0_2 : w.heap.size + 2 < w3.heap.size := by omega
      try have z3_1_0 : w1.heap.size < w3.heap.size := by omega
      try have z3_1_1 : w1.heap.size + 1 < w3.heap.size := by omega
      try have z3_1_2 : w1.heap.size + 2 < w3.heap.size := by omega
      try have z3_2_0 : w2.heap.size < w3.heap.size := by omega
      try have z3_2_1 : w2.heap.size + 1 < w3.heap.size := by omega
      try have z3_2_2 : w2.heap.size + 2 < w3.heap.size := by omega
      go_wp2_with fail
      refine (findFlow_spec sz st A' n' c' es fa fb fc fd fk _ HN'.out hnc hm' (HH'.out.new (by repeat (first | with_reducible assumption | with_reducible exact New.refl _ | with_reducible refine New.alloc ?_ _ | with_reducible refine New.drew ?_ | with_reducible refine New.drewN ?_ _ | refine New.setCell ?_ (by first | (simp; done) | omega | (simp; omega)) _ | with_reducible refine New.trans ?_ (by with_reducible assumption))))).mono ?_
      rintro e w4 ⟨rfl, b4⟩
      rw [HFh.out]
      have hc4 := New.cells b4; have hf4 := New.marks b4; have hz4 := New.le b4; try simp only [World.size_alloc, World.size_setCell] at hz4
      try have z4_0_0 : w.heap.size < w4.heap.size := by omega
      try have z4_0_1 : w.heap.size + 1 < w4.heap.size := by omega
      try have z4_0_2 : w.heap.size + 2 < w4.heap.size := by omega
      try have z4_1_0 : w1.heap.size < w4.heap.size := by omega
      try have z4_1_1 : w1.heap.size + 1 < w4.heap.size := by omega
      try have z4_1_2 : w1.heap.size + 2 < w4.heap.size := by omega
      try have z4_2_0 : w2.heap.size < w4.heap.size := by omega
      try have z4_2_1 : w2.heap.size + 1 < w4.heap.size := by omega
      try have z4_2_2 : w2.heap.size + 2 < w4.heap.size := by omega
      try have z4_3_0 : w3.heap.size < w4.heap.size := by omega
      try have z4_3_1 : w3.heap.size + 1 < w4.heap.size := by omega
      try have z4_3_2 : w3.heap.size + 2 < w4.heap.size := by omega
      go_wp2_with fail
      refine (hostState_spec A n c hs Fh _ HN.out hml (HH.out.new (by repeat (first | with_reducible assumption | with_reducible exact New.refl _ | with_reducible refine New.alloc ?_ _ | with_reducible refine New.drew ?_ | with_reducible refine New.drewN ?_ _ | refine New.setCell ?_ (by first | (simp; done) | omega | (simp; omega)) _ | with_reducible refine New.trans ?_ (by with_reducible assumption))))).mono ?_
      rintro e w5 ⟨rfl, b5⟩
      rw [HS.out]
      have hc5 := New.cells b5; have hf5 := New.marks b5; have hz5 := New.le b5; try simp only [World.size_alloc, World.size_setCell] at hz5
      try have z5_0_0 : w.heap.size < w5.heap.size := by omega
      try have z5_0_1 : w.heap.size + 1 < w5.heap.size := by omega
      try have z5_0_2 : w.heap.size + 2 < w5.heap.size := by omega
      try have z5_1_0 : w1.heap.size < w5.heap.size := by omega
      try have z5_1_1 : w1.heap.size + 1 < w5.heap.size := by omega
      try have z5_1_2 : w1.heap.size + 2 < w5.heap.size := by omega
      try have z5_2_0 : w2.heap.size < w5.heap.size := by omega
      try have z5_2_1 : w2.heap.size + 1 < w5.heap.size := by omega
      try have z5_2_2 : w2.heap.size + 2 < w5.heap.size := by omega
      try have z5_3_0 : w3.heap.size < w5.heap.size := by omega
      try have z5_3_1 : w3.heap.size + 1 < w5.heap.size := by omega
      try have z5_3_2 : w3.heap.size + 2 < w5.heap.size := by omega
      try have z5_4_0 : w4.heap.size < w5.heap.size := by omega
      try have z5_4_1 : w4.heap.size + 1 < w5.heap.size := by omega
      try have z5_4_2 : w4.heap.size + 2 < w5.heap.size := by omega
      go_wp2_with fail
      go_ret
      exact ⟨by rw [HZ.out, HFh.out]; rfl, (by repeat (first | with_reducible assumption | with_reducible exact New.refl _ | with_reducible refine New.alloc ?_ _ | with_reducible refine New.drew ?_ | with_reducible refine New.drewN ?_ _ | refine New.setCell ?_ (by first | (simp; done) | omega | (simp; omega)) _ | with_reducible refine New.trans ?_ (by with_reducible assumption)))⟩
  · have HZ := Lib.hid (chooseZ_new (hs := hs) hok (by rw [hFh]; exact fun h => h0 h.1))
    have hFn : decide (0 ≤ Fh) = false := by simp; omega
    have hFl : Fh < 0 := by omega
    clear hok hFh
    go_enter Try.func53, Try.ntmps53
    go_wp2_with fail
    refine (poolValid_spec A n c hs _ HN.out hml (HH.out.new (by repeat (first | with_reducible assumption | with_reducible exact New.refl _ | with_reducible refine New.alloc ?_ _ | with_reducible refine New.drew ?_ | with_reducible refine New.drewN ?_ _ | refine New.setCell ?_ (by first | (simp; done) | omega | (simp; omega)) _ | with_reducible refine New.trans ?_ (by with_reducible assumption))))).mono ?_
    rintro e w1 ⟨rfl, b1⟩
    rw [hP]
    have hc1 := New.cells b1; have hf1 := New.marks b1; have hz1 := New.le b1; try simp only [World.size_alloc, World.size_setCell] at hz1
    try have z1_0_0 : w.heap.size < w1.heap.size := by omega
    try have z1_0_1 : w.heap.size + 1 < w1.heap.size := by omega
    try have z1_0_2 : w.heap.size + 2 < w1.heap.size := by omega
    go_wp2_with fail
    refine (tableValid_spec sz st A' n' c' es _ HN'.out hnc hm' (HH'.out.new (by repeat (first | with_reducible assumption | with_reducible exact New.refl _ | with_reducible refine New.alloc ?_ _ | with_reducible refine New.drew ?_ | with_reducible refine New.drewN ?_ _ | refine New.setCell ?_ (by first | (simp; done) | omega | (simp; omega)) _ | with_reducible refine New.trans ?_ (by with_reducible assumption))))).mono ?_
    rintro e w2 ⟨rfl, b2⟩
    rw [hT]
    have hc2 := New.cells b2; have hf2 := New.marks b2; have hz2 := New.le b2; try simp only [World.size_alloc, World.size_setCell] at hz2
    try have z2_0_0 : w.heap.size < w2.heap.size := by omega
    try have z2_0_1 : w.heap.size + 1 < w2.heap.size := by omega
    try have z2_0_2 : w.heap.size + 2 < w2.heap.size := by omega
    try have z2_1_0 : w1.heap.size < w2.heap.size := by omega
    try have z2_1_1 : w1.heap.size + 1 < w2.heap.size := by omega
    try have z2_1_2 : w1.heap.size + 2 < w2.heap.size := by omega
    go_wp2_with fail
    refine (flowValid_spec fa fb fc fd fk _).mono ?_
    rintro e w3 ⟨rfl, b3⟩
    rw [hF]
    have hc3 := New.cells b3; have hf3 := New.marks b3; have hz3 := New.le b3; try simp only [World.size_alloc, World.size_setCell] at hz3
    try have z3_0_0 : w.heap.size < w3.heap.size := by omega
    try have z3_0_1 : w.heap.size + 1 < w3.heap.size := by omega
    try have z3_0_2 : w.heap.size + 2 < w3.heap.size := by omega
    try have z3_1_0 : w1.heap.size < w3.heap.size := by omega
    try have z3_1_1 : w1.heap.size + 1 < w3.heap.size := by omega
    try have z3_1_2 : w1.heap.size + 2 < w3.heap.size := by omega
    try have z3_2_0 : w2.heap.size < w3.heap.size := by omega
    try have z3_2_1 : w2.heap.size + 1 < w3.heap.size := by omega
    try have z3_2_2 : w2.heap.size + 2 < w3.heap.size := by omega
    go_wp2_with fail
    refine (findFlow_spec sz st A' n' c' es fa fb fc fd fk _ HN'.out hnc hm' (HH'.out.new (by repeat (first | with_reducible assumption | with_reducible exact New.refl _ | with_reducible refine New.alloc ?_ _ | with_reducible refine New.drew ?_ | with_reducible refine New.drewN ?_ _ | refine New.setCell ?_ (by first | (simp; done) | omega | (simp; omega)) _ | with_reducible refine New.trans ?_ (by with_reducible assumption))))).mono ?_
    rintro e w4 ⟨rfl, b4⟩
    rw [HFh.out]
    have hc4 := New.cells b4; have hf4 := New.marks b4; have hz4 := New.le b4; try simp only [World.size_alloc, World.size_setCell] at hz4
    try have z4_0_0 : w.heap.size < w4.heap.size := by omega
    try have z4_0_1 : w.heap.size + 1 < w4.heap.size := by omega
    try have z4_0_2 : w.heap.size + 2 < w4.heap.size := by omega
    try have z4_1_0 : w1.heap.size < w4.heap.size := by omega
    try have z4_1_1 : w1.heap.size + 1 < w4.heap.size := by omega
    try have z4_1_2 : w1.heap.size + 2 < w4.heap.size := by omega
    try have z4_2_0 : w2.heap.size < w4.heap.size := by omega
    try have z4_2_1 : w2.heap.size + 1 < w4.heap.size := by omega
    try have z4_2_2 : w2.heap.size + 2 < w4.heap.size := by omega
    try have z4_3_0 : w3.heap.size < w4.heap.size := by omega
    try have z4_3_1 : w3.heap.size + 1 < w4.heap.size := by omega
    try have z4_3_2 : w3.heap.size + 2 < w4.heap.size := by omega
    go_wp2_with fail
    refine (flowHash_spec fa fb fc fd fk _).mono ?_
    rintro e w6 ⟨rfl, b6⟩
    have hc6 := New.cells b6; have hf6 := New.marks b6; have hz6 := New.le b6; try simp only [World.size_alloc, World.size_setCell] at hz6
    try have z6_0_0 : w.heap.size < w6.heap.size := by omega
    try have z6_0_1 : w.heap.size + 1 < w6.heap.size := by omega
    try have z6_0_2 : w.heap.size + 2 < w6.heap.size := by omega
    try have z6_1_0 : w1.heap.size < w6.heap.size := by omega
    try have z6_1_1 : w1.heap.size + 1 < w6.heap.size := by omega
    try have z6_1_2 : w1.heap.size + 2 < w6.heap.size := by omega
    try have z6_2_0 : w2.heap.size < w6.heap.size := by omega
    try have z6_2_1 : w2.heap.size + 1 < w6.heap.size := by omega
    try have z6_2_2 : w2.heap.size + 2 < w6.heap.size := by omega
    try have z6_3_0 : w3.heap.size < w6.heap.size := by omega
    try have z6_3_1 : w3.heap.size + 1 < w6.heap.size := by omega
    try have z6_3_2 : w3.heap.size + 2 < w6.heap.size := by omega
    try have z6_4_0 : w4.heap.size < w6.heap.size := by omega
    try have z6_4_1 : w4.heap.size + 1 < w6.heap.size := by omega
    try have z6_4_2 : w4.heap.size + 2 < w6.heap.size := by omega
    try have z6_5_0 : w5.heap.size < w6.heap.size := by omega
    try have z6_5_1 : w5.heap.size + 1 < w6.heap.size := by omega
    try have z6_5_2 : w5.heap.size + 2 < w6.heap.size := by omega
    go_wp2_with fail
    refine (rvHost_spec A n c hs (flowHashZ fa fb fc fd fk) _ HN.out hm (HH.out.new (by repeat (first | with_reducible assumption | with_reducible exact New.refl _ | with_reducible refine New.alloc ?_ _ | with_reducible refine New.drew ?_ | with_reducible refine New.drewN ?_ _ | refine New.setCell ?_ (by first | (simp; done) | omega | (simp; omega)) _ | with_reducible refine New.trans ?_ (by with_reducible assumption))))).mono ?_
    rintro e w7 ⟨rfl, b7⟩
    have hc7 := New.cells b7; have hf7 := New.marks b7; have hz7 := New.le b7; try simp only [World.size_alloc, World.size_setCell] at hz7
    try have z7_0_0 : w.heap.size < w7.heap.size := by omega
    try have z7_0_1 : w.heap.size + 1 < w7.heap.size := by omega
    try have z7_0_2 : w.heap.size + 2 < w7.heap.size := by omega
    try have z7_1_0 : w1.heap.size < w7.heap.size := by omega
    try have z7_1_1 : w1.heap.size + 1 < w7.heap.size := by omega
    try have z7_1_2 : w1.heap.size + 2 < w7.heap.size := by omega
    try have z7_2_0 : w2.heap.size < w7.heap.size := by omega
    try have z7_2_1 : w2.heap.size + 1 < w7.heap.size := by omega
    try have z7_2_2 : w2.heap.size + 2 < w7.heap.size := by omega
    try have z7_3_0 : w3.heap.size < w7.heap.size := by omega
    try have z7_3_1 : w3.heap.size + 1 < w7.heap.size := by omega
    try have z7_3_2 : w3.heap.size + 2 < w7.heap.size := by omega
    try have z7_4_0 : w4.heap.size < w7.heap.size := by omega
    try have z7_4_1 : w4.heap.size + 1 < w7.heap.size := by omega
    try have z7_4_2 : w4.heap.size + 2 < w7.heap.size := by omega
    try have z7_5_0 : w5.heap.size < w7.heap.size := by omega
    try have z7_5_1 : w5.heap.size + 1 < w7.heap.size := by omega
    try have z7_5_2 : w5.heap.size + 2 < w7.heap.size := by omega
    try have z7_6_0 : w6.heap.size < w7.heap.size := by omega
    try have z7_6_1 : w6.heap.size + 1 < w7.heap.size := by omega
    try have z7_6_2 : w6.heap.size + 2 < w7.heap.size := by omega
    go_wp2_with fail
    go_ret
    exact ⟨by rw [HZ.out]; rfl, (by repeat (first | with_reducible assumption | with_reducible exact New.refl _ | with_reducible refine New.alloc ?_ _ | with_reducible refine New.drew ?_ | with_reducible refine New.drewN ?_ _ | refine New.setCell ?_ (by first | (simp; done) | omega | (simp; omega)) _ | with_reducible refine New.trans ?_ (by with_reducible assumption)))⟩
end Go.Proofs.Ytbnehcaallehbaa
