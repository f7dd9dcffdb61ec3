/- Turns: the hosts that take turns. -/
import Derived.Test.YtdcobkngbpkdfaaUpN
import Derived.Test.YtdcobkngbpkdfaaQb
import Derived.Test.YtdcobkngbpkdfaaMark
import Derived.Test.YtdcobkngbpkdfaaInts
import Derived.StillTailTactics
namespace Go.Proofs.Ytdcobkngbpkdfaa
set_option linter.unusedVariables false
set_option linter.unusedSimpArgs false
open Go.RowKit Go.Sort

def wtsOf (us : List Hst) : List Int := us.map fun h => h.wt
theorem wtsOf_len (us : List Hst) : (wtsOf us).length = us.length := by simp [wtsOf]
def addL (cs ws : List Int) : List Int := List.zipWith (fun a b => a + b) cs ws
theorem addL_len {cs ws : List Int} (h : cs.length = ws.length) : (addL cs ws).length = cs.length := by simp [addL, h]
theorem addL_at {cs ws : List Int} {i : Nat} {a b : Int} (ha : cs[i]? = some a) (hb : ws[i]? = some b) : (addL cs ws)[i]? = some (a + b) := by simp [addL, List.getElem?_zipWith, ha, hb]
/-- The first place of the greatest of the first i numbers. -/
def bestAt (ds : List Int) : Nat → Nat
  | 0 => 0
  | i + 1 => if ds.getD (bestAt ds i) 0 < ds.getD i 0 then i else bestAt ds i
theorem bestAt_lt (ds : List Int) : ∀ i, 0 < i → bestAt ds i < i
  | 0, h => absurd h (by omega)
  | i + 1, _ => by
    unfold bestAt
    split
    · omega
    · rcases Nat.eq_zero_or_pos i with rfl | h
      · simp [bestAt]
      · have := bestAt_lt ds i h; omega
theorem bestAt_le (ds : List Int) (i : Nat) : bestAt ds i ≤ i := by
  rcases Nat.eq_zero_or_pos i with rfl | h
  · simp [bestAt]
  · have := bestAt_lt ds i h; omega
theorem bestAt_hit {ds : List Int} {i : Nat} (h : ds.getD (bestAt ds i) 0 < ds.getD i 0) : bestAt ds (i + 1) = i := by rw [bestAt, if_pos h]
theorem bestAt_miss {ds : List Int} {i : Nat} (h : ¬ ds.getD (bestAt ds i) 0 < ds.getD i 0) : bestAt ds (i + 1) = bestAt ds i := by rw [bestAt, if_neg h]
/-- The counts after a turn. -/
def nextC (ws : List Int) (T : Int) (cs : List Int) : List Int := (addL cs ws).set (bestAt (addL cs ws) ws.length) ((addL cs ws).getD (bestAt (addL cs ws) ws.length) 0 - T)
def countsAt (ws : List Int) (T : Int) : Nat → List Int
  | 0 => List.replicate ws.length 0
  | r + 1 => nextC ws T (countsAt ws T r)
theorem countsAt_len (ws : List Int) (T : Int) : ∀ r, (countsAt ws T r).length = ws.length
  | 0 => by simp [countsAt]
  | r + 1 => by
    have ih := countsAt_len ws T r
    unfold countsAt nextC
    rw [List.length_set, addL_len ih, ih]
def pickAt (ws : List Int) (T : Int) (r : Nat) : Nat := bestAt (addL (countsAt ws T r) ws) ws.length
def turnAt (us : List Hst) (T : Int) (r : Nat) : Int := (numsOf us).getD (pickAt (wtsOf us) T r) 0
def turnsTo (us : List Hst) (T : Int) (r : Nat) : List Int := (List.range r).map (turnAt us T)
theorem turnsTo_len (us : List Hst) (T : Int) (r : Nat) : (turnsTo us T r).length = r := by simp [turnsTo]
theorem turnsTo_succ (us : List Hst) (T : Int) (r : Nat) : turnsTo us T (r + 1) = turnsTo us T r ++ [turnAt us T r] := by simp [turnsTo, List.range_succ]
def turnsB (hs : List Hst) (many : Int) : Bool := poolB hs && decide (0 < (ups hs).length) && inB many 0 60
def turnsZ (hs : List Hst) (many : Int) : List Int := if turnsB hs many = true then turnsTo (ups hs) (totZ hs) many.toNat else []
theorem turnsZ_no {hs : List Hst} {many : Int} (h : turnsB hs many = false) : turnsZ hs many = [] := by simp [turnsZ, h]
theorem turnsZ_yes {hs : List Hst} {many : Int} (h : turnsB hs many = true) : turnsZ hs many = turnsTo (ups hs) (totZ hs) many.toNat := by simp [turnsZ, h]
theorem turnsZ_len (hs : List Hst) (many : Int) : (turnsZ hs many).length ≤ 60 := by
  cases h : turnsB hs many
  · rw [turnsZ_no h]; simp
  · rw [turnsZ_yes h, turnsTo_len]
    simp only [turnsB, Bool.and_eq_true, inB_true] at h
    omega
/-- Bounds: weights in 1..5, the total in 0..30. -/
theorem countsAt_bd {ws : List Int} {T : Int} (hw : ∀ z ∈ ws, 1 ≤ z ∧ z ≤ 5) (hT : 0 ≤ T ∧ T ≤ 30) : ∀ r, ∀ z ∈ countsAt ws T r, -30 * (r : Int) ≤ z ∧ z ≤ 5 * (r : Int)
  | 0, z, hz => by
    simp [countsAt] at hz
    omega
  | r + 1, z, hz => by
    have ih := countsAt_bd hw hT r
    have hl := countsAt_len ws T r
    have hadd : ∀ y ∈ addL (countsAt ws T r) ws, -30 * (r : Int) ≤ y ∧ y ≤ 5 * (r : Int) + 5 := fun y hy => by
      obtain ⟨i, hi, rfl⟩ := List.getElem_of_mem hy
      have hi' : i < ws.length := by rw [addL_len hl, hl] at hi; exact hi
      have ha : (countsAt ws T r)[i]? = some ((countsAt ws T r)[i]'(by omega)) := by rw [List.getElem?_eq_getElem]
      have hb : ws[i]? = some ws[i] := by rw [List.getElem?_eq_getElem]
      have hy2 := addL_at ha hb
      rw [List.getElem?_eq_getElem hi] at hy2
      have hy3 := Option.some.inj hy2
      have h1 := ih _ (List.mem_of_getElem? ha)
      have h2 := hw _ (List.mem_of_getElem? hb)
      rw [hy3]
      omega
    unfold countsAt nextC at hz
    rcases List.mem_or_eq_of_mem_set hz with h | h
    · have := hadd z h
      omega
    · rw [h]
      rcases Nat.eq_zero_or_pos ws.length with h0 | h0
      · have he : addL (countsAt ws T r) ws = [] := List.eq_nil_of_length_eq_zero (by rw [addL_len hl, hl, h0])
        rw [he] at hz
        simp at hz
      · have hb := bestAt_lt (addL (countsAt ws T r) ws) ws.length h0
        have hbl : bestAt (addL (countsAt ws T r) ws) ws.length < (addL (countsAt ws T r) ws).length := by rw [addL_len hl, hl]; exact hb
        have := hadd _ (List.getElem_mem hbl)
        rw [List.getD_eq_getElem?_getD, List.getElem?_eq_getElem hbl, Option.getD_some]
        omega
theorem mix_set {ds cs : List Int} {i : Nat} {d : Int} (hl : ds.length = cs.length) (hi : i < cs.length) (hd : ds[i]? = some d) : (ds.take i ++ cs.drop i).set i d = ds.take (i + 1) ++ cs.drop (i + 1) := by
  have h1 : (ds.take i).length = i := by simp; omega
  rw [List.set_append_right _ _ (by omega), h1, Nat.sub_self, List.take_add_one, hd]
  rw [List.drop_eq_getElem_cons hi, List.set_cons_zero]
  simp
theorem mix_at {ds cs : List Int} {i : Nat} (hl : ds.length = cs.length) (hi : i < cs.length) : (ds.take i ++ cs.drop i).getD i 0 = cs.getD i 0 := by
  have h1 : (ds.take i).length = i := by simp; omega
  simp only [List.getD_eq_getElem?_getD]
  rw [List.getElem?_append_right (by omega), h1, Nat.sub_self, List.getElem?_drop, Nat.add_zero]
theorem mix_low {ds cs : List Int} {i b : Nat} (hl : ds.length = cs.length) (hi : i ≤ cs.length) (hb : b < i) : (ds.take i ++ cs.drop i).getD b 0 = ds.getD b 0 := by
  have h1 : (ds.take i).length = i := by simp; omega
  simp only [List.getD_eq_getElem?_getD]
  rw [List.getElem?_append_left (by omega), List.getElem?_take, if_pos hb]
theorem setLow_gb (w : World) (p : Addr) (u : Value) : w.grownBy (w.setCell p u) (some p.block) :=
  ⟨rfl, rfl, rfl, by simp [World.setCell], fun i _ hi => Below.heap_setCell _ _ _ _ (fun e => hi (by rw [e]))⟩
theorem Own.setLow {E : TypeId} {size B n c : Nat} {w : World} {A : Option Addr} {zs : List Int} (h : Own E size B w A n c zs) {p : Addr} (hp : p.block < B) (u : Value) : Own E size B (w.setCell p u) A n c zs := by
  refine World.ownsRow.kept h (setLow_gb w p u) ?_
  cases hv : Value.ownBlock (.slice A n c) with
  | none => exact .inl rfl
  | some g =>
    have := (World.ownsRow.lt h g hv).1
    exact .inr (by simp; omega)
theorem Own.keepLow {E E' : TypeId} {size size' B B' n n' c c' G : Nat} {w w' : World} {A' : Option Addr} {zs zs' : List Int} (h : Own E size B w (some ⟨G, 0, none⟩) n c zs) (hG : G < B') (ho : Own E' size' B' w A' n' c' zs') (hg : w.grownBy w' (Value.ownBlock (.slice A' n' c'))) : Own E size B w' (some ⟨G, 0, none⟩) n c zs :=
  World.ownsRow.kept h hg (.inr (by
    intro e
    have := (World.ownsRow.lt ho G (by rw [← e]; rfl)).1
    omega))
theorem zerosT_map (n : Nat) : (madeCells (Value.int .i64 0).cells (n * 1)).toList = (List.replicate n (0 : Int)).map (Value.int .i64) := by
  have := toList_madeCells_one (.int .i64 0) (n * 1)
  simpa [Value.cells] using this
theorem wpList_append_OwnB {P : Program} (w : World) {ops : Array Oper} {rest : List Oper} {o : Oper} {a : Act} {Q : Exit → Act → World → Prop} (hgd : o.guard = none) (s x : Operand) (t : TypeId)
    (ho : o.op = .call { callee := .builtin .append, args := #[s, x], argTypes := #[t, t] })
    (w0 : World) (B : Nat) (e : TypeId) (i : TypeInfo) (z : Value) (size bytes : Nat) (ht : P.underlying t = some (.slice e)) (hi : P.info? e = some i) (hz : i.zero = some z)
    (hsize : i.size = size) (hby : i.bytes = bytes) (hzs : z.cells.size = size) (hsz : 0 < size) (hb100 : bytes ≤ 100)
    (A : Option Addr) (n c : Nat) (zs : List Int) (hs : a.eval s = .slice A n c) (hown : Own e size B w A n c zs)
    (ad : Addr) (m c2 : Nat) (news : List Int) (hx : a.eval x = .slice (some ad) m c2) (hl : news.length = m * size) (hnews : Ints w (some ad) news) (hm : 0 < m) (hn : n + m ≤ 16777216) (hB : w0.heap.size ≤ B) (hBw : B ≤ w.heap.size) (hnew : New w0 w)
    (h : ∀ A' c' w', n + m ≤ c' → c' ≤ maxLen → Own e size B w' A' (n + m) c' (zs ++ news) → New w0 w' → w.grownBy w' (Value.ownBlock (.slice A n c)) → wpList P ops Q rest (a.put o.dst (.slice A' (n + m) c')) w') :
    wpList P ops Q (o :: rest) a w := by
  refine wpList_append_own w hgd s x t ho B e i z size bytes ht hi hz hsize hby hzs hsz _ n _ hs hown ad m c2 (news.map (Value.int .i64)) hx (by simpa using hl) (news_at hnews) (ints_oneCell _ _) (by unfold maxLen; omega) ?_ hBw ?_
  · calc (n + m) * bytes ≤ 16777216 * 100 := Nat.mul_le_mul hn hb100
      _ ≤ 140737488355328 := by omega
  · intro v' w' hown' hg _
    obtain ⟨g, c', rfl, h1, h2, _⟩ := Own.shape hown' (by omega)
    exact h _ c' w' h1 h2 (by unfold Own; rw [List.map_append]; exact hown') (hnew.grown hg fun k hk => Nat.le_trans hB (World.ownsRow.lt hown k hk).1) hg
def lenOf : Value → Nat
  | .slice _ n _ => n
  | _ => 0
set_option maxRecDepth 100000 in
set_option maxHeartbeats 2000000 in
theorem turns_impl (A : Option Addr) (n c : Nat) (hs : List Hst) (many : Int) (w : World) (hn : hs.length = n) (hm : n ≤ 1048576) (h : Ints w A (flat hs)) :
    Calls Try.prog 31 #[.slice A n c, .int .i64 many] w (RetRow 3 1 w (turnsZ hs many).length (turnsZ hs many)) := by
  obtain ⟨i0, hi, iz0, iz1, iz2⟩ := info_parts int_info
  have hgr := gr_cells
  have hml : n ≤ maxLen := by unfold maxLen; omega
  obtain ⟨us, hus⟩ : ∃ us, us = ups hs := ⟨_, rfl⟩
  obtain ⟨m, hm2⟩ : ∃ m, us.length = m := ⟨_, rfl⟩
  have hmn : m ≤ n := by rw [← hm2, hus, ← hn]; exact ups_len hs
  have UPC : Hid (∀ w, Ints w A (flat hs) → Calls Try.prog 75 #[.slice A n c] w (RetRow 63 3 w m (flat us))) := Lib.hid fun w h => by
    rw [← hm2, hus]; exact up_any A n c hs w hn hm h
  have HU := Lib.hid hus
  have HM := Lib.hid hm2
  have HN := Lib.hid hn
  have HH := Lib.hid h
  clear hus hm2 hn h
  cases hP : poolB hs
  · have HZ := Lib.hid (turnsZ_no (hs := hs) (many := many) (by simp [turnsB, hP]))
    rw [HZ.out]
    go_enter Try.func31, Try.ntmps31
    go_wp2_with fail
    refine (UPC.out _ HH.out).mono ?_
    rintro e w1 ⟨A1, c1, rfl, nc1, cm1, o1, b1⟩
    go_wp2_with fail
    refine (poolValid_impl A n c hs _ HN.out hml (HH.out.new b1)).mono ?_
    rintro e w2 ⟨rfl, b2⟩
    rw [hP]
    go_wp2_with fail
    go_ret
    exact ⟨none, 0, rfl, Nat.le_refl _, Nat.zero_le _, World.ownsRow_nil _ _ _ _, b1.trans b2⟩
  by_cases hm0 : m = 0
  · have hu0 : (ups hs).length = 0 := by rw [← HU.out, HM.out]; exact hm0
    have HZ := Lib.hid (turnsZ_no (hs := hs) (many := many) (by simp [turnsB, hu0]))
    clear hu0
    subst hm0
    rw [HZ.out]
    go_enter Try.func31, Try.ntmps31
    go_wp2_with fail
    refine (UPC.out _ HH.out).mono ?_
    rintro e w1 ⟨A1, c1, rfl, nc1, cm1, o1, b1⟩
    go_wp2_with fail
    refine (poolValid_impl A n c hs _ HN.out hml (HH.out.new b1)).mono ?_
    rintro e w2 ⟨rfl, b2⟩
    rw [hP]
    go_wp2_with fail
    go_ret
    exact ⟨none, 0, rfl, Nat.le_refl _, Nat.zero_le _, World.ownsRow_nil _ _ _ _, b1.trans b2⟩
  have hmp : 0 < m := by omega
  have hmb : ((m : Int) == 0) = false := by simp; omega
  cases hK : inB many 0 60
  · have HZ := Lib.hid (turnsZ_no (hs := hs) (many := many) (by simp [turnsB, hK]))
    rw [HZ.out]
    go_enter Try.func31, Try.ntmps31
    go_wp2_with fail
    refine (UPC.out _ HH.out).mono ?_
    rintro e w1 ⟨A1, c1, rfl, nc1, cm1, o1, b1⟩
    go_wp2_with fail
    refine (poolValid_impl A n c hs _ HN.out hml (HH.out.new b1)).mono ?_
    rintro e w2 ⟨rfl, b2⟩
    rw [hP]
    go_wp2_with fail
    refine (in_any _ _ _ _).mono ?_
    rintro e w' ⟨rfl, rfl⟩
    rw [hK]
    go_wp2_with fail
    go_ret
    exact ⟨none, 0, rfl, Nat.le_refl _, Nat.zero_le _, World.ownsRow_nil _ _ _ _, b1.trans b2⟩
  have hKb := inB_true.1 hK
  obtain ⟨M, rfl⟩ := Int.eq_ofNat_of_zero_le hKb.1
  have hM60 : M ≤ 60 := by omega
  clear hKb
  obtain ⟨T, hT⟩ : ∃ T, totZ hs = T := ⟨_, rfl⟩
  have hTb := totZ_bd hs
  rw [hT] at hTb
  have hZ := turnsZ_yes (hs := hs) (many := (M : Int)) (by simp [turnsB, hP, hK, ← HU.out, HM.out]; exact hmp)
  rw [Int.toNat_natCast, ← HU.out, hT] at hZ
  rw [hZ, turnsTo_len]
  obtain ⟨ws, hws⟩ : ∃ ws, wtsOf us = ws := ⟨_, rfl⟩
  have hwl : ws.length = m := by rw [← hws, wtsOf_len, HM.out]
  have hwb : ∀ z ∈ ws, 1 ≤ z ∧ z ≤ 5 := fun z hz => by
    rw [← hws] at hz
    obtain ⟨x, hx, rfl⟩ := List.mem_map.1 hz
    rw [HU.out] at hx
    exact wt_bd hP x (ups_mem hx)
  have HWS := Lib.hid hws
  have HWL := Lib.hid hwl
  have HWB := Lib.hid hwb
  have HT := Lib.hid hT
  have HCL := Lib.hid (countsAt_len ws T)
  have HBD := Lib.hid (fun r => countsAt_bd (T := T) hwb hTb r)
  have hmle : m ≤ 6 := by rw [← HM.out, HU.out]; exact Nat.le_trans (ups_len hs) (pool_len hP)
  have hmml : m ≤ maxLen := by unfold maxLen; omega
  obtain ⟨hT0, hT1⟩ := hTb
  clear hZ hws hwl hwb hT
  go_enter Try.func31, Try.ntmps31
  go_wp2_with fail
  refine (UPC.out _ HH.out).mono ?_
  rintro e w1 ⟨A1, c1, rfl, nc1, cm1, o1, b1⟩
  go_wp2_with fail
  refine (poolValid_impl A n c hs _ HN.out hml (HH.out.new b1)).mono ?_
  rintro e w2 ⟨rfl, b2⟩
  rw [hP]
  have HB2 := Lib.hid (b1.trans b2)
  have HI2 := Lib.hid (o1.ints.new b2)
  clear o1 b1 b2
  go_wp2_with fail
  refine (in_any _ _ _ _).mono ?_
  rintro e w' ⟨rfl, rfl⟩
  rw [hK]
  go_wp2_with (at_make; refine wpList_make_full _ rfl _ _ 23 rfl w2.heap.size 3 i0 (.int .i64 0) 1 Try.underlying23 hi iz0 iz1 .i64 .i64 (m : Int) (m : Int) m rfl rfl rfl rfl (by rw [iz2]; omega) hmml (Nat.le_refl _) ?_; intro w3 hown hgrow)
  have hown3 : Own 3 1 w2.heap.size w3 (some ⟨w2.heap.size, 0, none⟩) m m (countsAt ws T 0) := by
    unfold Own
    rw [countsAt, HWL.out, ← zerosT_map]
    exact hown
  have hb3 : New w2 w3 := (New.refl w2).grown hgrow (by simp)
  have hG3 : w2.heap.size < w3.heap.size := by
    obtain ⟨g, hg, _, hlt, _⟩ := hown3.at_ (by rw [HCL.out, HWL.out]; exact hmp)
    obtain rfl : w2.heap.size = g := by simpa using hg
    exact hlt
  clear hown hgrow
  go_loopw [7, 30] (fun v i wr => ∃ (r : Nat) (A' : Option Addr) (c' : Nat), r ≤ M ∧ i = .int .i64 r ∧ v = .slice A' r c' ∧ r ≤ c' ∧ c' ≤ maxLen ∧ Own 3 1 w3.heap.size wr A' r c' (turnsTo us T r) ∧ Own 3 1 w2.heap.size wr (some ⟨w2.heap.size, 0, none⟩) m m (countsAt ws T r) ∧ New w2 wr ∧ w3.heap.size ≤ wr.heap.size) (fun _ i _ => M - (intOf i).toNat)
  case atStart => exact ⟨0, none, 0, Nat.zero_le _, rfl, rfl, Nat.le_refl _, Nat.zero_le _, World.ownsRow_nil _ _ _ _, hown3, hb3, Nat.le_refl _⟩
  case round =>
    obtain ⟨r, A', c', hr, rfl, rfl, hrc, hcm, hout, hcnt, hnew, hsz⟩ := hrel
    clear hown3 hb3
    by_cases hrM : r < M
    · obtain ⟨cs, hcs⟩ : ∃ cs, countsAt ws T r = cs := ⟨_, rfl⟩
      rw [hcs] at hcnt
      have hcl : cs.length = m := by rw [← hcs, HCL.out, HWL.out]
      have hcb : ∀ z ∈ cs, -1800 ≤ z ∧ z ≤ 300 := fun z hz => by
        rw [← hcs] at hz
        have := HBD.out r z hz
        omega
      obtain ⟨ds, hds⟩ : ∃ ds, addL cs ws = ds := ⟨_, rfl⟩
      have hdl : ds.length = cs.length := by rw [← hds]; exact addL_len (by rw [hcl, HWL.out])
      have HCS := Lib.hid hcs
      have HDS := Lib.hid hds
      have HCB := Lib.hid hcb
      have HC2 := Lib.hid hcl
      have HDL := Lib.hid hdl
      have hri : (r : Int) < (M : Int) := by omega
      clear hcs hds hcb hcl hdl
      go_wp2_with fail
      go_loopw [8, 34] (fun bv i wi => ∃ k : Nat, k ≤ m ∧ i = .int .i64 k ∧ bv = .int .i64 (bestAt ds k : Nat) ∧ Own 3 1 w2.heap.size wi (some ⟨w2.heap.size, 0, none⟩) m m (ds.take k ++ cs.drop k) ∧ Own 3 1 w3.heap.size wi A' r c' (turnsTo us T r) ∧ New w2 wi ∧ w3.heap.size ≤ wi.heap.size) (fun _ i _ => m - (intOf i).toNat)
      case atStart => exact ⟨0, Nat.zero_le _, rfl, rfl, by simpa using hcnt, hout, hnew, hsz⟩
      case round =>
        obtain ⟨k, hk, rfl, rfl, hcn, hou, hne, hsi⟩ := hrel
        clear hcnt hout hnew hsz
        have hml2 : (ds.take k ++ cs.drop k).length = m := by have := HDL.out; have := HC2.out; simp; omega
        by_cases hlt : k < m
        · obtain ⟨b, o, x, rfl, hx, hb, c0, c1', c2⟩ := hosts_at (HI2.out.new hne) (k := k) (by rw [HM.out]; exact hlt)
          have hki : (k : Int) < (m : Int) := by omega
          have hwk : ws[k]? = some x.wt := by rw [← HWS.out]; unfold wtsOf; rw [List.getElem?_map, hx]; rfl
          have hxb := HWB.out _ (List.mem_of_getElem? hwk)
          obtain ⟨cv, hcv⟩ : ∃ cv, cs[k]? = some cv := ⟨cs[k]'(by rw [HC2.out]; exact hlt), by rw [List.getElem?_eq_getElem]⟩
          have hcvb := HCB.out _ (List.mem_of_getElem? hcv)
          have hdk : ds[k]? = some (cv + x.wt) := by rw [← HDS.out]; exact addL_at hcv hwk
          have HMX := Lib.hid (mix_set HDL.out (by rw [HC2.out]; exact hlt) hdk)
          have hmk : (ds.take k ++ cs.drop k).getD k 0 = cv := by rw [mix_at HDL.out (by rw [HC2.out]; exact hlt), List.getD_eq_getElem?_getD, hcv]; rfl
          have hdkD : ds.getD k 0 = cv + x.wt := by rw [List.getD_eq_getElem?_getD, hdk]; rfl
          clear hx hwk hcv hdk
          obtain ⟨x0, x1, x2⟩ := x
          simp only at c0 c1' c2 hxb HMX hdkD
          obtain ⟨xb0, xb1⟩ := hxb
          obtain ⟨cb0, cb1⟩ := hcvb
          go_wp2_with fail
          obtain ⟨Bk, hBk⟩ : ∃ Bk, bestAt ds k = Bk := ⟨_, rfl⟩
          rw [hBk]
          have HBK := Lib.hid hBk
          have hBle : Bk ≤ k := by rw [← hBk]; exact bestAt_le ds k
          have hB0 : 0 < k → Bk < k := fun h => by rw [← hBk]; exact bestAt_lt ds k h
          clear hBk
          obtain ⟨g, hg, _, hGl, _, hcell, hfr⟩ := hcn.at_ (by rw [hml2]; exact hmp)
          obtain rfl : w2.heap.size = g := by simpa using hg
          have ek := hcell k (by rw [hml2]; exact hlt)
          have eB := hcell Bk (by rw [hml2]; omega)
          have fk := hfr k
          rw [hmk] at ek
          have hBv : 0 < k → (ds.take k ++ cs.drop k).getD Bk 0 = ds.getD Bk 0 := fun h => mix_low HDL.out (by rw [HC2.out]; omega) (hB0 h)
          obtain ⟨dB, hdB⟩ : ∃ dB, (ds.take k ++ cs.drop k).getD Bk 0 = dB := ⟨_, rfl⟩
          rw [hdB] at eB hBv
          have HBV := Lib.hid hBv
          clear hcell hfr hg hBv hdB
          have HCN := Lib.hid hcn
          have HOU := Lib.hid hou
          have HNE := Lib.hid hne
          clear hcn hou hne
          obtain ⟨FF, hFF⟩ : ∃ FF, FF = factAt [pVal (.slice (some ⟨w2.heap.size, 0, none⟩) m m), pVal (.int .i64 (k : Int)), pVal (.pointer (some ⟨w2.heap.size, k, none⟩)), pVal (.int .i64 cv), pVal (.pointer (some ⟨wr.heap.size, 1, none⟩)), pVal (.int .i64 x1), pVal (.int .i64 (cv + x1)), pVal (.pointer (some ⟨w2.heap.size, k, none⟩))] := ⟨_, rfl⟩
          have HFF := Lib.hid hFF
          clear hFF
          refine wp_region_tail 8 (by kernel_rfl) (by kernel_rfl) (by kernel_rfl) (by decide) (LrI (wr.alloc (.cells #[.int .i64 x0, .int .i64 x1, .int .i64 x2] 63))) FF New (by rw [HFF.out]; exact factAt_keptN (by
              intro P hP
              simp only [List.mem_cons, List.not_mem_nil, or_false] at hP
              rcases hP with rfl | rfl | rfl | rfl | rfl | rfl | rfl | rfl
              · exact keptN_val _
              · exact keptN_val _
              · exact keptN_val _
              · exact keptN_val _
              · exact keptN_val _
              · exact keptN_val _
              · exact keptN_val _
              · exact keptN_val _
              )) (New.drew (New.refl _)) ?_ ?_
          · refine ⟨?_, ?_, ?_, ?_, ?_, ?_, ?_, ?_, trivial⟩
            · -- 0: Op.move t6
              intro vs kq wq hI hF
              have hI : New (wr.alloc (.cells #[.int .i64 x0, .int .i64 x1, .int .i64 x2] 63)) wq := hI
              clear hF
              simp only [fillTo, dstOf, List.getElem?_toArray, List.getElem?_cons_zero, List.getElem?_cons_succ, Option.bind_some, Act.put, List.setIfInBounds_toArray, List.set_cons_zero, List.set_cons_succ]
              go_wp2_with fail
              exact ⟨_, rfl, hI, New.refl _, by rw [HFF.out]; exact rfl⟩
            · -- 1: Op.move t9
              intro vs kq wq hI hF
              have hI : New (wr.alloc (.cells #[.int .i64 x0, .int .i64 x1, .int .i64 x2] 63)) wq := hI
              clear hF
              simp only [fillTo, dstOf, List.getElem?_toArray, List.getElem?_cons_zero, List.getElem?_cons_succ, Option.bind_some, Act.put, List.setIfInBounds_toArray, List.set_cons_zero, List.set_cons_succ]
              go_wp2_with fail
              exact ⟨_, rfl, hI, New.refl _, by rw [HFF.out]; exact rfl⟩
            · -- 2: Op.indexAddr 23 t39 t40
              intro vs kq wq hI hF
              have hI : New (wr.alloc (.cells #[.int .i64 x0, .int .i64 x1, .int .i64 x2] 63)) wq := hI
              have f0 : pVal (.slice (some ⟨w2.heap.size, 0, none⟩) m m) (vs 0) wq := (by have h := hF 0 (by rfl); rw [HFF.out] at h; exact h)
              unfold pVal at f0
              have f1 : pVal (.int .i64 (k : Int)) (vs 1) wq := (by have h := hF 1 (by rfl); rw [HFF.out] at h; exact h)
              unfold pVal at f1
              clear hF
              simp only [fillTo, dstOf, List.getElem?_toArray, List.getElem?_cons_zero, List.getElem?_cons_succ, Option.bind_some, Act.put, List.setIfInBounds_toArray, List.set_cons_zero, List.set_cons_succ, f0, f1]
              clear f0 f1
              have hcq := New.cells hI; have hzq := New.le hI
              go_wp2_with fail
              exact ⟨_, rfl, hI, New.refl _, by rw [HFF.out]; exact rfl⟩
            · -- 3: Op.load 3 t41
              intro vs kq wq hI hF
              have hI : New (wr.alloc (.cells #[.int .i64 x0, .int .i64 x1, .int .i64 x2] 63)) wq := hI
              have f2 : pVal (.pointer (some ⟨w2.heap.size, k, none⟩)) (vs 2) wq := (by have h := hF 2 (by rfl); rw [HFF.out] at h; exact h)
              unfold pVal at f2
              clear hF
              simp only [fillTo, dstOf, List.getElem?_toArray, List.getElem?_cons_zero, List.getElem?_cons_succ, Option.bind_some, Act.put, List.setIfInBounds_toArray, List.set_cons_zero, List.set_cons_succ, f2]
              clear f2
              have hcq := New.cells hI; have hzq := New.le hI
              go_wp2_with fail
              exact ⟨_, rfl, hI, New.refl _, by rw [HFF.out]; exact rfl⟩
            · -- 4: Op.fieldAddr 63 t10 1
              intro vs kq wq hI hF
              have hI : New (wr.alloc (.cells #[.int .i64 x0, .int .i64 x1, .int .i64 x2] 63)) wq := hI
              clear hF
              simp only [fillTo, dstOf, List.getElem?_toArray, List.getElem?_cons_zero, List.getElem?_cons_succ, Option.bind_some, Act.put, List.setIfInBounds_toArray, List.set_cons_zero, List.set_cons_succ]
              go_wp2_with fail
              exact ⟨_, rfl, hI, New.refl _, by rw [HFF.out]; exact rfl⟩
            · -- 5: Op.load 3 t43
              intro vs kq wq hI hF
              have hI : New (wr.alloc (.cells #[.int .i64 x0, .int .i64 x1, .int .i64 x2] 63)) wq := hI
              have f4 : pVal (.pointer (some ⟨wr.heap.size, 1, none⟩)) (vs 4) wq := (by have h := hF 4 (by rfl); rw [HFF.out] at h; exact h)
              unfold pVal at f4
              clear hF
              simp only [fillTo, dstOf, List.getElem?_toArray, List.getElem?_cons_zero, List.getElem?_cons_succ, Option.bind_some, Act.put, List.setIfInBounds_toArray, List.set_cons_zero, List.set_cons_succ, f4]
              clear f4
              have hcq := New.cells hI; have hzq := New.le hI
              go_wp2_with fail
              exact ⟨_, rfl, hI, New.refl _, by rw [HFF.out]; exact rfl⟩
            · -- 6: Op.binOp BinOp.add 3 t42 t44 3
              intro vs kq wq hI hF
              have hI : New (wr.alloc (.cells #[.int .i64 x0, .int .i64 x1, .int .i64 x2] 63)) wq := hI
              have f3 : pVal (.int .i64 cv) (vs 3) wq := (by have h := hF 3 (by rfl); rw [HFF.out] at h; exact h)
              unfold pVal at f3
              have f5 : pVal (.int .i64 x1) (vs 5) wq := (by have h := hF 5 (by rfl); rw [HFF.out] at h; exact h)
              unfold pVal at f5
              clear hF
              simp only [fillTo, dstOf, List.getElem?_toArray, List.getElem?_cons_zero, List.getElem?_cons_succ, Option.bind_some, Act.put, List.setIfInBounds_toArray, List.set_cons_zero, List.set_cons_succ, f3, f5]
              clear f3 f5
              go_wp2_with fail
              exact ⟨_, rfl, hI, New.refl _, by rw [HFF.out]; exact rfl⟩
            · -- 7: Op.indexAddr 23 t39 t40
              intro vs kq wq hI hF
              have hI : New (wr.alloc (.cells #[.int .i64 x0, .int .i64 x1, .int .i64 x2] 63)) wq := hI
              have f0 : pVal (.slice (some ⟨w2.heap.size, 0, none⟩) m m) (vs 0) wq := (by have h := hF 0 (by rfl); rw [HFF.out] at h; exact h)
              unfold pVal at f0
              have f1 : pVal (.int .i64 (k : Int)) (vs 1) wq := (by have h := hF 1 (by rfl); rw [HFF.out] at h; exact h)
              unfold pVal at f1
              clear hF
              simp only [fillTo, dstOf, List.getElem?_toArray, List.getElem?_cons_zero, List.getElem?_cons_succ, Option.bind_some, Act.put, List.setIfInBounds_toArray, List.set_cons_zero, List.set_cons_succ, f0, f1]
              clear f0 f1
              have hcq := New.cells hI; have hzq := New.le hI
              go_wp2_with fail
              exact ⟨_, rfl, hI, New.refl _, by rw [HFF.out]; exact rfl⟩
          intro vs kq wz hI hF
          have f6 : pVal (.int .i64 (cv + x1)) (vs 6) wz := (by have h := hF 6 (by omega); rw [HFF.out] at h; exact h)
          have f7 : pVal (.pointer (some ⟨w2.heap.size, k, none⟩)) (vs 7) wz := (by have h := hF 7 (by omega); rw [HFF.out] at h; exact h)
          unfold pVal at f6 f7
          have bz : New (wr.alloc (.cells #[.int .i64 x0, .int .i64 x1, .int .i64 x2] 63)) wz := hI
          have bw : New wr wz := ((New.refl wr).alloc _).trans bz
          clear hF hI HFF FF
          simp only [fillTo, dstOf, List.getElem?_toArray, List.getElem?_cons_zero, List.getElem?_cons_succ, Option.bind_some, Act.put, List.setIfInBounds_toArray, List.set_cons_zero, List.set_cons_succ, List.drop_succ_cons, List.drop_zero, f6, f7]
          clear f6 f7
          have zk : wz.cell? ⟨w2.heap.size, k, none⟩ = some (.int .i64 cv) := (Below.cell bw (p := ⟨w2.heap.size, k, none⟩) hGl).trans ek
          have zB : wz.cell? ⟨w2.heap.size, Bk, none⟩ = some (.int .i64 dB) := (Below.cell bw (p := ⟨w2.heap.size, Bk, none⟩) hGl).trans eB
          have zf : wz.frozen? ⟨w2.heap.size, k, none⟩ = false := (Below.frozen bw (p := ⟨w2.heap.size, k, none⟩) hGl).trans fk
          have hGz : w2.heap.size < wz.heap.size := Nat.lt_of_lt_of_le hGl bw.le
          have HCZ := Lib.hid ((HCN.out.new bw).set_ k (cv + x1))
          have HOZ := Lib.hid ((HOU.out.new bw).setLow (p := ⟨w2.heap.size, k, none⟩) hG3 (.int .i64 (cv + x1)))
          have HNZ := Lib.hid ((HNE.out.trans bw).setCell (p := ⟨w2.heap.size, k, none⟩) (Nat.le_refl _) (.int .i64 (cv + x1)))
          have hsz := Nat.le_trans hsi bw.le
          clear ek eB fk bz bw c0 c1' c2 hGl
          by_cases hk0 : k = 0
          · subst hk0
            obtain rfl : Bk = 0 := by omega
            have HB1 := Lib.hid (show bestAt ds 1 = 0 from bestAt_miss (i := 0) (by simp [bestAt]))
            clear zB
            go_wp2_with fail
            refine wp_region_qb (by kernel_rfl) (by kernel_rfl) ?_
            repeat (go_big_quiet_step ((fail)))
            with_reducible refine wpQuiet_nil ?_
            intro w5 b5
            have hc5 := New.cells b5; have hf5 := New.marks b5; have hz5 := New.le b5; try simp only [World.size_alloc, World.size_setCell] at hz5
            try have z5_0_0 : w.heap.size < w5.heap.size := by omega
            try have z5_0_1 : w.heap.size + 1 < w5.heap.size := by omega
            try have z5_0_2 : w.heap.size + 2 < w5.heap.size := by omega
            try have z5_1_0 : w1.heap.size < w5.heap.size := by omega
            try have z5_1_1 : w1.heap.size + 1 < w5.heap.size := by omega
            try have z5_1_2 : w1.heap.size + 2 < w5.heap.size := by omega
            try have z5_2_0 : w2.heap.size < w5.heap.size := by omega
            try have z5_2_1 : w2.heap.size + 1 < w5.heap.size := by omega
            try have z5_2_2 : w2.heap.size + 2 < w5.heap.size := by omega
            try have z5_3_0 : w3.heap.size < w5.heap.size := by omega
            try have z5_3_1 : w3.heap.size + 1 < w5.heap.size := by omega
            try have z5_3_2 : w3.heap.size + 2 < w5.heap.size := by omega
            try have z5_4_0 : w4.heap.size < w5.heap.size := by omega
            try have z5_4_1 : w4.heap.size + 1 < w5.heap.size := by omega
            try have z5_4_2 : w4.heap.size + 2 < w5.heap.size := by omega
            go_wp2_with fail
            go_roundw
            case rel => exact ⟨1, by omega, by go_num, by rw [HB1.out], by have := HCZ.out.new b5; rw [HMX.out] at this; exact this, HOZ.out.new b5, HNZ.out.trans b5, Nat.le_trans hsz (by have := b5.le; simpa using this)⟩
            case measure => simp [intOf]; omega
          · have hkp : 0 < k := by omega
            have hBlt := hB0 hkp
            have hBne : Bk ≠ k := by omega
            have hBv := HBV.out hkp
            clear hB0
            by_cases hcmp : dB < cv + x1
            · have HB1 := Lib.hid (show bestAt ds (k + 1) = k from bestAt_hit (by rw [HBK.out, ← hBv, hdkD]; exact hcmp))
              have hcmp' : decide (dB < cv + x1) = true := by simpa using hcmp
              clear hBv hdkD
              go_wp2_with fail
              refine wp_region_qb (by kernel_rfl) (by kernel_rfl) ?_
              repeat (go_big_quiet_step ((fail)))
              with_reducible refine wpQuiet_nil ?_
              intro w5 b5
              have hc5 := New.cells b5; have hf5 := New.marks b5; have hz5 := New.le b5; try simp only [World.size_alloc, World.size_setCell] at hz5
              try have z5_0_0 : w.heap.size < w5.heap.size := by omega
              try have z5_0_1 : w.heap.size + 1 < w5.heap.size := by omega
              try have z5_0_2 : w.heap.size + 2 < w5.heap.size := by omega
              try have z5_1_0 : w1.heap.size < w5.heap.size := by omega
              try have z5_1_1 : w1.heap.size + 1 < w5.heap.size := by omega
              try have z5_1_2 : w1.heap.size + 2 < w5.heap.size := by omega
              try have z5_2_0 : w2.heap.size < w5.heap.size := by omega
              try have z5_2_1 : w2.heap.size + 1 < w5.heap.size := by omega
              try have z5_2_2 : w2.heap.size + 2 < w5.heap.size := by omega
              try have z5_3_0 : w3.heap.size < w5.heap.size := by omega
              try have z5_3_1 : w3.heap.size + 1 < w5.heap.size := by omega
              try have z5_3_2 : w3.heap.size + 2 < w5.heap.size := by omega
              try have z5_4_0 : w4.heap.size < w5.heap.size := by omega
              try have z5_4_1 : w4.heap.size + 1 < w5.heap.size := by omega
              try have z5_4_2 : w4.heap.size + 2 < w5.heap.size := by omega
              go_wp2_with fail
              go_roundw
              case rel => exact ⟨k + 1, by omega, by go_num, by rw [HB1.out], by have := HCZ.out.new b5; rw [HMX.out] at this; exact this, HOZ.out.new b5, HNZ.out.trans b5, Nat.le_trans hsz (by have := b5.le; simpa using this)⟩
              case measure => simp [intOf]; omega
            · have HB1 := Lib.hid (show bestAt ds (k + 1) = Bk by rw [bestAt_miss (by rw [HBK.out, ← hBv, hdkD]; exact hcmp), HBK.out])
              have hcmp' : decide (dB < cv + x1) = false := by simpa using hcmp
              clear hBv hdkD
              go_wp2_with fail
              refine wp_region_qb (by kernel_rfl) (by kernel_rfl) ?_
              repeat (go_big_quiet_step ((fail)))
              with_reducible refine wpQuiet_nil ?_
              intro w5 b5
              have hc5 := New.cells b5; have hf5 := New.marks b5; have hz5 := New.le b5; try simp only [World.size_alloc, World.size_setCell] at hz5
              try have z5_0_0 : w.heap.size < w5.heap.size := by omega
              try have z5_0_1 : w.heap.size + 1 < w5.heap.size := by omega
              try have z5_0_2 : w.heap.size + 2 < w5.heap.size := by omega
              try have z5_1_0 : w1.heap.size < w5.heap.size := by omega
              try have z5_1_1 : w1.heap.size + 1 < w5.heap.size := by omega
              try have z5_1_2 : w1.heap.size + 2 < w5.heap.size := by omega
              try have z5_2_0 : w2.heap.size < w5.heap.size := by omega
              try have z5_2_1 : w2.heap.size + 1 < w5.heap.size := by omega
              try have z5_2_2 : w2.heap.size + 2 < w5.heap.size := by omega
              try have z5_3_0 : w3.heap.size < w5.heap.size := by omega
              try have z5_3_1 : w3.heap.size + 1 < w5.heap.size := by omega
              try have z5_3_2 : w3.heap.size + 2 < w5.heap.size := by omega
              try have z5_4_0 : w4.heap.size < w5.heap.size := by omega
              try have z5_4_1 : w4.heap.size + 1 < w5.heap.size := by omega
              try have z5_4_2 : w4.heap.size + 2 < w5.heap.size := by omega
              go_wp2_with fail
              go_roundw
              case rel => exact ⟨k + 1, by omega, by go_num, by rw [HB1.out], by have := HCZ.out.new b5; rw [HMX.out] at this; exact this, HOZ.out.new b5, HNZ.out.trans b5, Nat.le_trans hsz (by have := b5.le; simpa using this)⟩
              case measure => simp [intOf]; omega
        · obtain rfl : k = m := by omega
          obtain ⟨B, hB⟩ : ∃ B, bestAt ds k = B := ⟨_, rfl⟩
          rw [hB]
          have hBk : B < k := by rw [← hB]; exact bestAt_lt ds k hmp
          have hds : ds.take k ++ cs.drop k = ds := by
            rw [List.take_of_length_le (by rw [HDL.out, HC2.out]; exact Nat.le_refl _), List.drop_eq_nil_of_le (by rw [HC2.out]; exact Nat.le_refl _), List.append_nil]
          rw [hds] at hcn
          have hdl2 : ds.length = k := by rw [HDL.out, HC2.out]
          obtain ⟨d, hd⟩ : ∃ d, ds.getD B 0 = d := ⟨_, rfl⟩
          have hnx : countsAt ws T (r + 1) = ds.set B (d - T) := by
            rw [countsAt, nextC, HCS.out, HDS.out, HWL.out, hB, hd]
          have htu : turnAt us T r = (numsOf us).getD B 0 := by
            rw [turnAt, pickAt, HWS.out, HCS.out, HDS.out, HWL.out, hB]
          have hdm : d ∈ ds := by
            rw [← hd, List.getD_eq_getElem?_getD, List.getElem?_eq_getElem (by omega)]
            exact List.getElem_mem _
          have hdb : -1800 ≤ d ∧ d ≤ 305 := by
            obtain ⟨i, hi', rfl⟩ := List.getElem_of_mem hdm
            have hi2 : i < k := by omega
            have ha : cs[i]? = some (cs[i]'(by rw [HC2.out]; exact hi2)) := by rw [List.getElem?_eq_getElem]
            have hb : ws[i]? = some (ws[i]'(by rw [HWL.out]; exact hi2)) := by rw [List.getElem?_eq_getElem]
            have h1 := HCB.out _ (List.mem_of_getElem? ha)
            have h2 := HWB.out _ (List.mem_of_getElem? hb)
            have h3 := addL_at ha hb
            rw [HDS.out, List.getElem?_eq_getElem hi'] at h3
            have h4 := Option.some.inj h3
            rw [h4]
            omega
          have HNX := Lib.hid hnx
          have HTU := Lib.hid htu
          obtain ⟨hd0, hd1⟩ := hdb
          obtain ⟨g, hg, _, hGl, _, hcell, hfr⟩ := hcn.at_ (by omega)
          obtain rfl : w2.heap.size = g := by simpa using hg
          have eB := hcell B (by omega)
          have fB := hfr B
          rw [hd] at eB
          have HCN := Lib.hid hcn
          have HOU := Lib.hid hou
          have HNE := Lib.hid hne
          have HW := Lib.hid (HB2.out.trans hne)
          have hBi : (B : Int) < (k : Int) := by omega
          clear hcn hou hne hcell hfr hg hds hdl2 hd hnx htu hdm hB
          go_wp2_with fail
          obtain ⟨FF, hFF⟩ : ∃ FF, FF = factAt [pVal (.slice (some ⟨w2.heap.size, 0, none⟩) k k), pVal (.int .i64 (B : Int)), pVal (.pointer (some ⟨w2.heap.size, B, none⟩)), pVal (.int .i64 d), pVal (.slice A n c), pVal (.int .i64 T), pVal (.int .i64 (d - T)), pVal (.pointer (some ⟨w2.heap.size, B, none⟩))] := ⟨_, rfl⟩
          have HFF := Lib.hid hFF
          clear hFF
          refine wp_region_tail 8 (by kernel_rfl) (by kernel_rfl) (by kernel_rfl) (by decide) (LrI wr) FF New (by rw [HFF.out]; exact factAt_keptN (by
              intro P hP
              simp only [List.mem_cons, List.not_mem_nil, or_false] at hP
              rcases hP with rfl | rfl | rfl | rfl | rfl | rfl | rfl | rfl
              · exact keptN_val _
              · exact keptN_val _
              · exact keptN_val _
              · exact keptN_val _
              · exact keptN_val _
              · exact keptN_val _
              · exact keptN_val _
              · exact keptN_val _
              )) (New.drew (New.refl _)) ?_ ?_
          · refine ⟨?_, ?_, ?_, ?_, ?_, ?_, ?_, ?_, trivial⟩
            · -- 0: Op.move t6
              intro vs kq wq hI hF
              have hI : New wr wq := hI
              clear hF
              simp only [fillTo, dstOf, List.getElem?_toArray, List.getElem?_cons_zero, List.getElem?_cons_succ, Option.bind_some, Act.put, List.setIfInBounds_toArray, List.set_cons_zero, List.set_cons_succ]
              go_wp2_with fail
              exact ⟨_, rfl, hI, New.refl _, by rw [HFF.out]; exact rfl⟩
            · -- 1: Op.move t8
              intro vs kq wq hI hF
              have hI : New wr wq := hI
              clear hF
              simp only [fillTo, dstOf, List.getElem?_toArray, List.getElem?_cons_zero, List.getElem?_cons_succ, Option.bind_some, Act.put, List.setIfInBounds_toArray, List.set_cons_zero, List.set_cons_succ]
              go_wp2_with fail
              exact ⟨_, rfl, hI, New.refl _, by rw [HFF.out]; exact rfl⟩
            · -- 2: Op.indexAddr 23 t58 t59
              intro vs kq wq hI hF
              have hI : New wr wq := hI
              have f0 : pVal (.slice (some ⟨w2.heap.size, 0, none⟩) k k) (vs 0) wq := (by have h := hF 0 (by rfl); rw [HFF.out] at h; exact h)
              unfold pVal at f0
              have f1 : pVal (.int .i64 (B : Int)) (vs 1) wq := (by have h := hF 1 (by rfl); rw [HFF.out] at h; exact h)
              unfold pVal at f1
              clear hF
              simp only [fillTo, dstOf, List.getElem?_toArray, List.getElem?_cons_zero, List.getElem?_cons_succ, Option.bind_some, Act.put, List.setIfInBounds_toArray, List.set_cons_zero, List.set_cons_succ, f0, f1]
              clear f0 f1
              have hcq := New.cells hI; have hzq := New.le hI
              go_wp2_with fail
              exact ⟨_, rfl, hI, New.refl _, by rw [HFF.out]; exact rfl⟩
            · -- 3: Op.load 3 t60
              intro vs kq wq hI hF
              have hI : New wr wq := hI
              have f2 : pVal (.pointer (some ⟨w2.heap.size, B, none⟩)) (vs 2) wq := (by have h := hF 2 (by rfl); rw [HFF.out] at h; exact h)
              unfold pVal at f2
              clear hF
              simp only [fillTo, dstOf, List.getElem?_toArray, List.getElem?_cons_zero, List.getElem?_cons_succ, Option.bind_some, Act.put, List.setIfInBounds_toArray, List.set_cons_zero, List.set_cons_succ, f2]
              clear f2
              have hcq := New.cells hI; have hzq := New.le hI
              go_wp2_with fail
              exact ⟨_, rfl, hI, New.refl _, by rw [HFF.out]; exact rfl⟩
            · -- 4: Op.move t0
              intro vs kq wq hI hF
              have hI : New wr wq := hI
              clear hF
              simp only [fillTo, dstOf, List.getElem?_toArray, List.getElem?_cons_zero, List.getElem?_cons_succ, Option.bind_some, Act.put, List.setIfInBounds_toArray, List.set_cons_zero, List.set_cons_succ]
              go_wp2_with fail
              exact ⟨_, rfl, hI, New.refl _, by rw [HFF.out]; exact rfl⟩
            · -- 5: Op.call { value (Operand.func 34), args := #[t62], argTypes 
              intro vs kq wq hI hF
              have hI : New wr wq := hI
              have f4 : pVal (.slice A n c) (vs 4) wq := (by have h := hF 4 (by rfl); rw [HFF.out] at h; exact h)
              unfold pVal at f4
              clear hF
              simp only [fillTo, dstOf, List.getElem?_toArray, List.getElem?_cons_zero, List.getElem?_cons_succ, Option.bind_some, Act.put, List.setIfInBounds_toArray, List.set_cons_zero, List.set_cons_succ, f4]
              clear f4
              go_wp2_with fail
              refine (totalWeight_impl A n c hs _ HN.out hm (HH.out.new (New.trans HW.out hI))).mono ?_
              rintro e w' ⟨rfl, hb⟩
              rw [HT.out]
              go_wp2_with fail
              exact ⟨_, rfl, New.trans hI hb, hb, by rw [HFF.out]; exact rfl⟩
            · -- 6: Op.binOp BinOp.sub 3 t61 t63 3
              intro vs kq wq hI hF
              have hI : New wr wq := hI
              have f3 : pVal (.int .i64 d) (vs 3) wq := (by have h := hF 3 (by rfl); rw [HFF.out] at h; exact h)
              unfold pVal at f3
              have f5 : pVal (.int .i64 T) (vs 5) wq := (by have h := hF 5 (by rfl); rw [HFF.out] at h; exact h)
              unfold pVal at f5
              clear hF
              simp only [fillTo, dstOf, List.getElem?_toArray, List.getElem?_cons_zero, List.getElem?_cons_succ, Option.bind_some, Act.put, List.setIfInBounds_toArray, List.set_cons_zero, List.set_cons_succ, f3, f5]
              clear f3 f5
              go_wp2_with fail
              exact ⟨_, rfl, hI, New.refl _, by rw [HFF.out]; exact rfl⟩
            · -- 7: Op.indexAddr 23 t58 t59
              intro vs kq wq hI hF
              have hI : New wr wq := hI
              have f0 : pVal (.slice (some ⟨w2.heap.size, 0, none⟩) k k) (vs 0) wq := (by have h := hF 0 (by rfl); rw [HFF.out] at h; exact h)
              unfold pVal at f0
              have f1 : pVal (.int .i64 (B : Int)) (vs 1) wq := (by have h := hF 1 (by rfl); rw [HFF.out] at h; exact h)
              unfold pVal at f1
              clear hF
              simp only [fillTo, dstOf, List.getElem?_toArray, List.getElem?_cons_zero, List.getElem?_cons_succ, Option.bind_some, Act.put, List.setIfInBounds_toArray, List.set_cons_zero, List.set_cons_succ, f0, f1]
              clear f0 f1
              have hcq := New.cells hI; have hzq := New.le hI
              go_wp2_with fail
              exact ⟨_, rfl, hI, New.refl _, by rw [HFF.out]; exact rfl⟩
          intro vs kq w5 hI hF
          have f6 : pVal (.int .i64 (d - T)) (vs 6) w5 := (by have h := hF 6 (by omega); rw [HFF.out] at h; exact h)
          have f7 : pVal (.pointer (some ⟨w2.heap.size, B, none⟩)) (vs 7) w5 := (by have h := hF 7 (by omega); rw [HFF.out] at h; exact h)
          unfold pVal at f6 f7
          have bw : New wr w5 := hI
          clear hF hI HFF FF
          simp only [fillTo, dstOf, List.getElem?_toArray, List.getElem?_cons_zero, List.getElem?_cons_succ, Option.bind_some, Act.put, List.setIfInBounds_toArray, List.set_cons_zero, List.set_cons_succ, List.drop_succ_cons, List.drop_zero, f6, f7]
          clear f6 f7
          have zf : w5.frozen? ⟨w2.heap.size, B, none⟩ = false := (Below.frozen bw (p := ⟨w2.heap.size, B, none⟩) hGl).trans fB
          have zB : w5.cell? ⟨w2.heap.size, B, none⟩ = some (.int .i64 d) := (Below.cell bw (p := ⟨w2.heap.size, B, none⟩) hGl).trans eB
          have hG5 : w2.heap.size < w5.heap.size := Nat.lt_of_lt_of_le hGl bw.le
          obtain ⟨b, o, x, rfl, hx, hb, c0, c1', c2⟩ := hosts_at HI2.out (k := B) (by rw [HM.out]; exact hBk)
          have hxn : (numsOf us).getD B 0 = x.num := by rw [List.getD_eq_getElem?_getD]; unfold numsOf; rw [List.getElem?_map, hx]; rfl
          have hb5 : b < w5.heap.size := Nat.lt_trans hb hG5
          have d0 : w5.cell? ⟨b, o + B * 3, none⟩ = some (.int .i64 x.num) := (Below.cell (HNE.out.trans bw) (p := ⟨b, o + B * 3, none⟩) hb).trans c0
          have hbG : b ≠ w2.heap.size := Nat.ne_of_lt hb
          obtain ⟨x0, x1, x2⟩ := x
          simp only at d0 hxn
          have bA := (New.refl (w5.setCell ⟨w2.heap.size, B, none⟩ (.int .i64 (d - T)))).alloc (.cells #[.int .i64 x0] 3)
          have HCZ := Lib.hid (((HCN.out.new bw).set_ B (d - T)).new bA)
          have HOZ := Lib.hid (((HOU.out.new bw).setLow (p := ⟨w2.heap.size, B, none⟩) hG3 (.int .i64 (d - T))).new bA)
          have HNZ := Lib.hid (((HNE.out.trans bw).setCell (p := ⟨w2.heap.size, B, none⟩) (Nat.le_refl _) (.int .i64 (d - T))).trans bA)
          have hszA : w3.heap.size ≤ ((w5.setCell ⟨w2.heap.size, B, none⟩ (.int .i64 (d - T))).alloc (.cells #[.int .i64 x0] 3)).heap.size := Nat.le_trans (Nat.le_trans hsi bw.le) (Nat.le_trans (by simp) bA.le)
          have HSA := Lib.hid hszA
          have HXN := Lib.hid hxn
          clear hx c0 c1' c2 eB fB bw bA hszA hxn
          go_wp2_with (at_builtin; refine wpList_append_OwnB _ rfl (.tmp 66) (.tmp 72) 23 rfl w2 w3.heap.size 3 i0 _ 1 8 Try.underlying23 hi iz0 iz1 iz2 rfl (by omega) (by omega) A' r c' _ rfl HOZ.out _ 1 1 [x0] rfl rfl (Ints.lit _ _ [x0] _ (by simp)) (by omega) (by omega) (Nat.le_of_lt hG3) HSA.out HNZ.out ?_; intro A6 c6 w6 e1 e2 o6 n6 g6)
          have hc6 := HCZ.out.keepLow hG3 HOZ.out g6
          have hs6 := Nat.le_trans HSA.out g6.size
          clear g6
          go_roundw
          case rel => exact ⟨r + 1, A6, c6, by omega, by go_num, rfl, e1, e2, by rw [turnsTo_succ, HTU.out, HXN.out]; exact o6, by rw [HNX.out]; exact hc6, n6, hs6⟩
          case measure => simp [intOf]; omega
    · obtain rfl : r = M := by omega
      go_wp2_with fail
      go_ret
      exact ⟨A', c', rfl, hrc, hcm, hout.less (Nat.le_trans HB2.out.le (Nat.le_of_lt hG3)), HB2.out.trans hnew⟩
end Go.Proofs.Ytdcobkngbpkdfaa
