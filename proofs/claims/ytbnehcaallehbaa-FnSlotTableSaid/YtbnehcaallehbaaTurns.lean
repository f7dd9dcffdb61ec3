/- Turns: the hosts that take turns. -/
import Derived.Test.YtbnehcaallehbaaUpN
import Derived.Test.YtbnehcaallehbaaQb
import Derived.Test.YtbnehcaallehbaaMark
import Derived.Test.YtbnehcaallehbaaInts
import Derived.StillTailTactics
namespace Go.Proofs.Ytbnehcaallehbaa
set_option linter.unusedVariables false
set_option linter.unusedSimpArgs false
open Go.RowKit Go.Sort

def wtsOf (us : List Hst) : List Int := us.map fun h => h.wt
theorem wtsOf_len (us : List Hst) : (wtsOf us).length = us.length := by simp [wtsOf]
def addL (cs ws : List Int) : List Int := List.zipWith (fun a b => a + b) cs ws
theorem addL_len {cs ws : List Int} (h : cs.length = ws.length) : (addL cs ws).length = cs.length := by simp [addL, h]
theorem addL_at {cs ws : List Int} {i : Nat} {a b : Int} (ha : cs[i]? = some a) (hb : ws[i]? = some b) : (addL cs ws)[i]? = some (a + b) := by simp [addL, List.getElem?_zipWith, ha, hb]
/-- The first place of the greatest of the first i numbers. -/
def bestAt (ds : List Int) : Nat → Nat
  | 0 => 0
  | i + 1 => if ds.getD (bestAt ds i) 0 < ds.getD i 0 then i else bestAt ds i
theorem bestAt_lt (ds : List Int) : ∀ i, 0 < i → bestAt ds i < i
  | 0, h => absurd h (by omega)
  | i + 1, _ => by
    unfold bestAt
    split
    · omega
    · rcases Nat.eq_zero_or_pos i with rfl | h
      · simp [bestAt]
      · have := bestAt_lt ds i h; omega
theorem bestAt_le (ds : List Int) (i : Nat) : bestAt ds i ≤ i := by
  rcases Nat.eq_zero_or_pos i with rfl | h
  · simp [bestAt]
  · have := bestAt_lt ds i h; omega
theorem bestAt_hit {ds : List Int} {i : Nat} (h : ds.getD (bestAt ds i) 0 < ds.getD i 0) : bestAt ds (i + 1) = i := by rw [bestAt, if_pos h]
theorem bestAt_miss {ds : List Int} {i : Nat} (h : ¬ ds.getD (bestAt ds i) 0 < ds.getD i 0) : bestAt ds (i + 1) = bestAt ds i := by rw [bestAt, if_neg h]
/-- The counts after a turn. -/
def nextC (ws : List Int) (T : Int) (cs : List Int) : List Int := (addL cs ws).set (bestAt (addL cs ws) ws.length) ((addL cs ws).getD (bestAt (addL cs ws) ws.length) 0 - T)
def countsAt (ws : List Int) (T : Int) : Nat → List Int
  | 0 => List.replicate ws.length 0
  | r + 1 => nextC ws T (countsAt ws T r)
theorem countsAt_len (ws : List Int) (T : Int) : ∀ r, (countsAt ws T r).length = ws.length
  | 0 => by simp [countsAt]
  | r + 1 => by
    have ih := countsAt_len ws T r
    unfold countsAt nextC
    rw [List.length_set, addL_len ih, ih]
def pickAt (ws : List Int) (T : Int) (r : Nat) : Nat := bestAt (addL (countsAt ws T r) ws) ws.length
def turnAt (us : List Hst) (T : Int) (r : Nat) : Int := (numsOf us).getD (pickAt (wtsOf us) T r) 0
def turnsTo (us : List Hst) (T : Int) (r : Nat) : List Int := (List.range r).map (turnAt us T)
theorem turnsTo_len (us : List Hst) (T : Int) (r : Nat) : (turnsTo us T r).length = r := by simp [turnsTo]
theorem turnsTo_succ (us : List Hst) (T : Int) (r : Nat) : turnsTo us T (r + 1) = turnsTo us T r ++ [turnAt us T r] := by simp [turnsTo, List.range_succ]
def turnsB (hs : List Hst) (many : Int) : Bool := poolB hs && decide (0 < (ups hs).length) && inB many 0 60
def turnsZ (hs : List Hst) (many : Int) : List Int := if turnsB hs many = true then turnsTo (ups hs) (totZ hs) many.toNat else []
theorem turnsZ_no {hs : List Hst} {many : Int} (h : turnsB hs many = false) : turnsZ hs many = [] := by simp [turnsZ, h]
theorem turnsZ_yes {hs : List Hst} {many : Int} (h : turnsB hs many = true) : turnsZ hs many = turnsTo (ups hs) (totZ hs) many.toNat := by simp [turnsZ, h]
theorem turnsZ_len (hs : List Hst) (many : Int) : (turnsZ hs many).length ≤ 60 := by
  cases h : turnsB hs many
  · rw [turnsZ_no h]; simp
  · rw [turnsZ_yes h, turnsTo_len]
    simp only [turnsB, Bool.and_eq_true, inB_true] at h
    omega
/-- Bounds: weights in 1..5, the total in 0..30. -/
theorem countsAt_bd {ws : List Int} {T : Int} (hw : ∀ z ∈ ws, 1 ≤ z ∧ z ≤ 5) (hT : 0 ≤ T ∧ T ≤ 30) : ∀ r, ∀ z ∈ countsAt ws T r, -30 * (r : Int) ≤ z ∧ z ≤ 5 * (r : Int)
  | 0, z, hz => by
    simp [countsAt] at hz
    omega
  | r + 1, z, hz => by
    have ih := countsAt_bd hw hT r
    have hl := countsAt_len ws T r
    have hadd : ∀ y ∈ addL (countsAt ws T r) ws, -30 * (r : Int) ≤ y ∧ y ≤ 5 * (r : Int) + 5 := fun y hy => by
      obtain ⟨i, hi, rfl⟩ := List.getElem_of_mem hy
      have hi' : i < ws.length := by rw [addL_len hl, hl] at hi; exact hi
      have ha : (countsAt ws T r)[i]? = some ((countsAt ws T r)[i]'(by omega)) := by rw [List.getElem?_eq_getElem]
      have hb : ws[i]? = some ws[i] := by rw [List.getElem?_eq_getElem]
      have hy2 := addL_at ha hb
      rw [List.getElem?_eq_getElem hi] at hy2
      have hy3 := Option.some.inj hy2
      have h1 := ih _ (List.mem_of_getElem? ha)
      have h2 := hw _ (List.mem_of_getElem? hb)
      rw [hy3]
      omega
    unfold countsAt nextC at hz
    rcases List.mem_or_eq_of_mem_set hz with h | h
    · have := hadd z h
      omega
    · rw [h]
      rcases Nat.eq_zero_or_pos ws.length with h0 | h0
      · have he : addL (countsAt ws T r) ws = [] := List.eq_nil_of_length_eq_zero (by rw [addL_len hl, hl, h0])
        rw [he] at hz
        simp at hz
      · have hb := bestAt_lt (addL (countsAt ws T r) ws) ws.length h0
        have hbl : bestAt (addL (countsAt ws T r) ws) ws.length < (addL (countsAt ws T r) ws).length := by rw [addL_len hl, hl]; exact hb
        have := hadd _ (List.getElem_mem hbl)
        rw [List.getD_eq_getElem?_getD, List.getElem?_eq_getElem hbl, Option.getD_some]
        omega
theorem mix_set {ds cs : List Int} {i : Nat} {d : Int} (hl : ds.length = cs.length) (hi : i < cs.length) (hd : ds[i]? = some d) : (ds.take i ++ cs.drop i).set i d = ds.take (i + 1) ++ cs.drop (i + 1) := by
  have h1 : (ds.take i).length = i := by simp; omega
  rw [List.set_append_right _ _ (by omega), h1, Nat.sub_self, List.take_add_one, hd]
  rw [List.drop_eq_getElem_cons hi, List.set_cons_zero]
  simp
theorem mix_at {ds cs : List Int} {i : Nat} (hl : ds.length = cs.length) (hi : i < cs.length) : (ds.take i ++ cs.drop i).getD i 0 = cs.getD i 0 := by
  have h1 : (ds.take i).length = i := by simp; omega
  simp only [List.getD_eq_getElem?_getD]
  rw [List.getElem?_append_right (by omega), h1, Nat.sub_self, List.getElem?_drop, Nat.add_zero]
theorem mix_low {ds cs : List Int} {i b : Nat} (hl : ds.length = cs.length) (hi : i ≤ cs.length) (hb : b < i) : (ds.take i ++ cs.drop i).getD b 0 = ds.getD b 0 := by
  have h1 : (ds.take i).length = i := by simp; omega
  simp only [List.getD_eq_getElem?_getD]
  rw [List.getElem?_append_left (by omega), List.getElem?_take, if_pos hb]
theorem setLow_gb (w : World) (p : Addr) (u : Value) : w.grownBy (w.setCell p u) (some p.block) :=
  ⟨rfl, rfl, rfl, by simp [World.setCell], fun i _ hi => Below.heap_setCell _ _ _ _ (fun e => hi (by rw [e]))⟩
theorem Own.setLow {E : TypeId} {size B n c : Nat} {w : World} {A : Option Addr} {zs : List Int} (h : Own E size B w A n c zs) {p : Addr} (hp : p.block < B) (u : Value) : Own E size B (w.setCell p u) A n c zs := by
  refine World.ownsRow.kept h (setLow_gb w p u) ?_
  cases hv : Value.ownBlock (.slice A n c) with
  | none => exact .inl rfl
  | some g =>
    have := (World.ownsRow.lt h g hv).1
    exact .inr (by simp; omega)
theorem Own.keepLow {E E' : TypeId} {size size' B B' n n' c c' G : Nat} {w w' : World} {A' : Option Addr} {zs zs' : List Int} (h : Own E size B w (some ⟨G, 0, none⟩) n c zs) (hG : G < B') (ho : Own E' size' B' w A' n' c' zs') (hg : w.grownBy w' (Value.ownBlock (.slice A' n' c'))) : Own E size B w' (some ⟨G, 0, none⟩) n c zs :=
  World.ownsRow.kept h hg (.inr (by
    intro e
    have := (World.ownsRow.lt ho G (by rw [← e]; rfl)).1
    omega))
theorem zerosT_map (n : Nat) : (madeCells (Value.int .i64 0).cells (n * 1)).toList = (List.replicate n (0 : Int)).map (Value.int .i64) := by
  have := toList_madeCells_one (.int .i64 0) (n * 1)
  simpa [Value.cells] using this
theorem wpList_append_OwnB {P : Program} (w : World) {ops : Array Oper} {rest : List Oper} {o : Oper} {a : Act} {Q : Exit → Act → World → Prop} (hgd : o.guard = none) (s x : Operand) (t : TypeId)
    (ho : o.op = .call { callee := .builtin .append, args := #[s, x], argTypes := #[t, t] })
    (w0 : World) (B : Nat) (e : TypeId) (i : TypeInfo) (z : Value) (size bytes : Nat) (ht : P.underlying t = some (.slice e)) (hi : P.info? e = some i) (hz : i.zero = some z)
    (hsize : i.size = size) (hby : i.bytes = bytes) (hzs : z.cells.size = size) (hsz : 0 < size) (hb100 : bytes ≤ 100)
    (A : Option Addr) (n c : Nat) (zs : List Int) (hs : a.eval s = .slice A n c) (hown : Own e size B w A n c zs)
    (ad : Addr) (m c2 : Nat) (news : List Int) (hx : a.eval x = .slice (some ad) m c2) (hl : news.length = m * size) (hnews : Ints w (some ad) news) (hm : 0 < m) (hn : n + m ≤ 16777216) (hB : w0.heap.size ≤ B) (hBw : B ≤ w.heap.size) (hnew : New w0 w)
    (h : ∀ A' c' w', n + m ≤ c' → c' ≤ maxLen → Own e size B w' A' (n + m) c' (zs ++ news) → New w0 w' → w.grownBy w' (Value.ownBlock (.slice A n c)) → wpList P ops Q rest (a.put o.dst (.slice A' (n + m) c')) w') :
    wpList P ops Q (o :: rest) a w := by
  refine wpList_append_own w hgd s x t ho B e i z size bytes ht hi hz hsize hby hzs hsz _ n _ hs hown ad m c2 (news.map (Value.int .i64)) hx (by simpa using hl) (news_at hnews) (ints_oneCell _ _) (by unfold maxLen; omega) ?_ hBw ?_
  · calc (n + m) * bytes ≤ 16777216 * 100 := Nat.mul_le_mul hn hb100
      _ ≤ 140737488355328 := by omega
  · intro v' w' hown' hg _
    obtain ⟨g, c', rfl, h1, h2, _⟩ := Own.shape hown' (by omega)
    exact h _ c' w' h1 h2 (by unfold Own; rw [List.map_append]; exact hown') (hnew.grown hg fun k hk => Nat.le_trans hB (World.ownsRow.lt hown k hk).1) hg
def lenOf : Value → Nat
  | .slice _ n _ => n
  | _ => 0
end Go.Proofs.Ytbnehcaallehbaa
