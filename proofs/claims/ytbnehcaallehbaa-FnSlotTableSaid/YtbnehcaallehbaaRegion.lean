/- A law on a region that draws its order: an invariant of the world and one fact for each operation's value are enough, whatever the order. -/
import Derived.Test.YtbnehcaallehbaaBase
import Derived.Orders
namespace Go.Proofs.Ytbnehcaallehbaa
set_option linter.unusedVariables false
set_option linter.unusedSimpArgs false
open Go.RowKit

/-- The slot of operation i. -/
def dstOf (ops : Array Oper) (i : Nat) : Option Tmp := (ops[i]?).bind (·.dst)

/-- The frame in which the values vs stand in the slots of the first k operations. -/
def fillTo (ops : Array Oper) (vs : Nat → Value) (a : Act) : Nat → Act
  | 0 => a
  | i + 1 => (fillTo ops vs a i).put (dstOf ops i) (vs i)

/-- Closed check: every edge leads back; a slot that an operation looks at and that the region writes is written by an operation that it waits for; no slot is written twice. -/
def lexOKm (ops : Array Oper) (m : Nat) : Bool :=
  Region.noSelect ops && (List.range ops.size).all fun i => match ops[i]? with
    | none => true
    | some o => (o.after.all fun e => !Region.binds .any e || decide (e.on < i)) && (List.range ops.size).all fun j => match dstOf ops j with
      | none => true
      | some d => (!(o.looksAt ops).contains d || (decide (m ≤ j) && decide (i < m)) || (decide (j < i) && o.after.any fun e => Region.binds .any e && e.on == j)) && (decide (j = i) || decide (o.dst ≠ some d))

abbrev lexOK (ops : Array Oper) : Bool := lexOKm ops ops.size

section
variable {ops : Array Oper}

theorem lexOK_back {m : Nat} (h : lexOKm ops m = true) {i : Nat} {o : Oper} (hi : ops[i]? = some o) {e : Edge} (he : e ∈ o.after) (hb : Region.binds .any e = true) : e.on < i := by
  have hlt : i < ops.size := (Array.getElem?_eq_some_iff.1 hi).1
  simp only [lexOKm, Bool.and_eq_true, List.all_eq_true, List.mem_range] at h
  have h1 := h.2 i hlt
  simp only [hi, Bool.and_eq_true] at h1
  have h2 := (Array.all_eq_true_iff_forall_mem.1 h1.1) e he
  simpa [hb] using h2

theorem lexOK_looks {m : Nat} (h : lexOKm ops m = true) {i j : Nat} {o : Oper} {d : Tmp} (hi : ops[i]? = some o) (hj : dstOf ops j = some d) (hd : d ∈ o.looksAt ops) :
    (m ≤ j ∧ i < m) ∨ (j < i ∧ ∃ e ∈ o.after, Region.binds .any e = true ∧ e.on = j) := by
  have hlt : i < ops.size := (Array.getElem?_eq_some_iff.1 hi).1
  have hjl : j < ops.size := by
    rcases Nat.lt_or_ge j ops.size with h' | h'
    · exact h'
    · simp [dstOf, Array.getElem?_eq_none h'] at hj
  simp only [lexOKm, Bool.and_eq_true, List.all_eq_true, List.mem_range] at h
  have h1 := h.2 i hlt
  simp only [hi, Bool.and_eq_true, List.all_eq_true, List.mem_range] at h1
  have h2 := h1.2 j hjl
  simp only [hj, Bool.and_eq_true, Bool.or_eq_true, Bool.not_eq_true', List.contains_eq_mem, hd, decide_true, Bool.true_eq_false, false_or, decide_eq_true_eq] at h2
  obtain ⟨h5, _⟩ := h2
  rcases h5 with h5 | ⟨h3, h4⟩
  · exact .inl h5
  · obtain ⟨e, he, hb⟩ := Array.any_eq_true'.1 h4
    simp only [Bool.and_eq_true, beq_iff_eq] at hb
    exact .inr ⟨h3, e, he, hb⟩

theorem lexOK_apart {m : Nat} (h : lexOKm ops m = true) {i j : Nat} {d : Tmp} (hi : dstOf ops i = some d) (hj : dstOf ops j = some d) : i = j := by
  have hlt : ∀ {k : Nat} {d : Tmp}, dstOf ops k = some d → k < ops.size := by
    intro k d hk
    rcases Nat.lt_or_ge k ops.size with h' | h'
    · exact h'
    · simp [dstOf, Array.getElem?_eq_none h'] at hk
  have hil := hlt hi
  have hjl := hlt hj
  simp only [lexOKm, Bool.and_eq_true, List.all_eq_true, List.mem_range] at h
  have h1 := h.2 i hil
  have ho : ops[i]? = some ops[i] := by simp [hil]
  simp only [ho, Bool.and_eq_true, List.all_eq_true, List.mem_range] at h1
  have h2 := h1.2 j hjl
  have hdi : ops[i].dst = some d := by simpa [dstOf, ho] using hi
  simp only [hj, Bool.and_eq_true, Bool.or_eq_true, decide_eq_true_eq, hdi, ne_eq, not_true_eq_false, or_false] at h2
  exact h2.2.symm

theorem fillTo_defers (vs : Nat → Value) (a : Act) : ∀ k, (fillTo ops vs a k).defers = a.defers
  | 0 => rfl
  | k + 1 => by
    have ih := fillTo_defers vs a k
    unfold fillTo
    cases h : dstOf ops k <;> simpa [Act.put] using ih

theorem fillTo_none (vs : Nat → Value) (a : Act) (s : Tmp) : ∀ k, (∀ j, j < k → dstOf ops j ≠ some s) → (fillTo ops vs a k).tmps[s]? = a.tmps[s]?
  | 0, _ => rfl
  | k + 1, h => by
    have ih := fillTo_none vs a s k fun j hj => h j (by omega)
    have hk := h k (by omega)
    unfold fillTo
    cases hd : dstOf ops k with
    | none => simpa [Act.put] using ih
    | some d =>
      have hne : d ≠ s := fun e => hk (by rw [hd, e])
      simpa [Act.put, Array.getElem?_setIfInBounds_ne hne] using ih

theorem put_at (a : Act) (s : Tmp) (v : Value) : (a.put (some s) v).tmps[s]? = a.tmps[s]?.map fun _ => v := by
  rcases Nat.lt_or_ge s a.tmps.size with h | h
  · simp [Act.put, h]
  · simp [Act.put, Array.getElem?_eq_none h, h]

theorem fillTo_some (vs : Nat → Value) (a : Act) (s : Tmp) (j : Nat) (hj : dstOf ops j = some s) : ∀ k, j < k → (∀ i, i < k → dstOf ops i = some s → i = j) →
    (fillTo ops vs a k).tmps[s]? = a.tmps[s]?.map fun _ => vs j
  | 0, h, _ => absurd h (by omega)
  | k + 1, h, hu => by
    by_cases hjk : j = k
    · subst hjk
      unfold fillTo
      rw [hj, put_at, fillTo_none vs a s j fun i hi hd => by have := hu i (by omega) hd; omega]
    · have ih := fillTo_some vs a s j hj k (by omega) fun i hi hd => hu i (by omega) hd
      have hk : dstOf ops k ≠ some s := fun hd => hjk (hu k (by omega) hd).symm
      unfold fillTo
      cases hd : dstOf ops k with
      | none => simpa [Act.put] using ih
      | some d =>
        have hne : d ≠ s := fun e => hk (by rw [hd, e])
        simpa [Act.put, Array.getElem?_setIfInBounds_ne hne] using ih

/-- The frame a is a0 with the values vs in the slots of the operations that are listed. -/
structure Filled (ops : Array Oper) (vs : Nat → Value) (a0 a : Act) (listed : Array Bool) : Prop where
  defers : a.defers = a0.defers
  out : ∀ s, (∀ j, listed.getD j false = true → dstOf ops j ≠ some s) → a.tmps[s]? = a0.tmps[s]?
  at_ : ∀ j s, listed.getD j false = true → dstOf ops j = some s → a.tmps[s]? = a0.tmps[s]?.map fun _ => vs j

theorem Filled.look {vs : Nat → Value} {a0 a : Act} {listed : Array Bool} {m : Nat} (hB : lexOKm ops m = true) (hrest : ∀ j, m ≤ j → j < ops.size → listed.getD j false = false) (h : Filled ops vs a0 a listed) {i : Nat} {o : Oper} (hi : ops[i]? = some o)
    (hall : ∀ e ∈ o.after, Region.binds .any e = true → listed.getD e.on false = true) {s : Tmp} (hs : s ∈ o.looksAt ops) : a.tmps[s]? = (fillTo ops vs a0 i).tmps[s]? := by
  by_cases hex : ∃ j, dstOf ops j = some s
  · obtain ⟨j, hj⟩ := hex
    rcases lexOK_looks hB hi hj hs with ⟨hmj, him⟩ | ⟨hji, e, he, hb, rfl⟩
    · have hjl : j < ops.size := by
        rcases Nat.lt_or_ge j ops.size with h' | h'
        · exact h'
        · simp [dstOf, Array.getElem?_eq_none h'] at hj
      have e1 := h.out s fun k hk hd => by
        have := lexOK_apart hB hd hj
        subst this
        rw [hrest k hmj hjl] at hk
        cases hk
      have e2 := fillTo_none vs a0 s i fun k hk hd => by
        have := lexOK_apart hB hd hj
        omega
      rw [e1, e2]
    · rw [h.at_ _ _ (hall e he hb) hj, fillTo_some vs a0 s _ hj i hji fun k _ hd => lexOK_apart hB hd hj]
  · have hno : ∀ j, dstOf ops j ≠ some s := fun j hj => hex ⟨j, hj⟩
    rw [h.out s fun j _ => hno j, fillTo_none vs a0 s i fun j _ => hno j]

theorem Filled.exec {vs : Nat → Value} {a0 a : Act} {listed : Array Bool} {m : Nat} (hB : lexOKm ops m = true) (hrest : ∀ j, m ≤ j → j < ops.size → listed.getD j false = false) (h : Filled ops vs a0 a listed) {i : Nat} {o : Oper} (hi : ops[i]? = some o)
    (hall : ∀ e ∈ o.after, Region.binds .any e = true → listed.getD e.on false = true) : execOp a.eval o = execOp (fillTo ops vs a0 i).eval o := by
  have hsel : ∀ cs b, o.op ≠ .select cs b := fun cs b => Region.noSelect_spec (ops := ops) (by simp only [lexOKm, Bool.and_eq_true] at hB; exact hB.1) i o cs b hi
  refine execOp_congr o hsel fun x hx => ?_
  cases x with
  | tmp t =>
    have hs : t ∈ o.looksAt ops := List.mem_append_left _ (List.mem_filterMap.2 ⟨.tmp t, by simpa using hx, rfl⟩)
    have := h.look hB hrest hi hall hs
    simp only [Act.eval, Array.getD_eq_getD_getElem?, this]
  | _ => rfl

theorem Filled.want {vs : Nat → Value} {a0 a : Act} {listed : Array Bool} {m : Nat} (hB : lexOKm ops m = true) (hrest : ∀ j, m ≤ j → j < ops.size → listed.getD j false = false) (h : Filled ops vs a0 a listed) {i : Nat} {o : Oper} (hi : ops[i]? = some o)
    (hall : ∀ e ∈ o.after, Region.binds .any e = true → listed.getD e.on false = true) :
    Region.wanted o (yielded ops a.tmps) = Region.wanted o (yielded ops (fillTo ops vs a0 i).tmps) := by
  unfold Region.wanted
  cases hg : o.guard with
  | none => rfl
  | some gw =>
    obtain ⟨g, want⟩ := gw
    simp only []
    unfold yielded
    cases ht : (ops[g]?).bind (·.dst) with
    | none => rfl
    | some t =>
      have hs : t ∈ o.looksAt ops := List.mem_append_right _ (by simp [hg, ht])
      simp only [Option.bind_some, h.look hB hrest hi hall hs]

theorem Filled.put {vs : Nat → Value} {a0 a : Act} {listed : Array Bool} {m : Nat} (hB : lexOKm ops m = true) (h : Filled ops vs a0 a listed) {i : Nat} {o : Oper} (hi : ops[i]? = some o)
    (hun : listed.getD i true = false) (v : Value) : Filled ops (fun j => if j = i then v else vs j) a0 (a.put o.dst v) (listed.setIfInBounds i true) := by
  have hdi : dstOf ops i = o.dst := by simp [dstOf, hi]
  have hil : i < listed.size := by
    rcases Nat.lt_or_ge i listed.size with h' | h'
    · exact h'
    · simp [Array.getElem?_eq_none h'] at hun
  have hset : ∀ j, (listed.setIfInBounds i true).getD j false = true → j = i ∨ listed.getD j false = true := by
    intro j hj
    by_cases hji : j = i
    · exact .inl hji
    · rw [getD_set_ne false (Ne.symm hji)] at hj; exact .inr hj
  refine ⟨?_, fun s hs => ?_, fun j s hj hd => ?_⟩
  · cases hod : o.dst <;> simpa [Act.put, hod] using h.defers
  · have hsi : o.dst ≠ some s := by
      rw [← hdi]
      exact hs i (by simp [hil])
    have h0 : a.tmps[s]? = a0.tmps[s]? := h.out s fun j hj => hs j (getD_set_true hj)
    cases hod : o.dst with
    | none => simpa [Act.put] using h0
    | some d =>
      have hne : d ≠ s := fun e => hsi (by rw [hod, e])
      simpa [Act.put, Array.getElem?_setIfInBounds_ne hne] using h0
  · by_cases hji : j = i
    · subst hji
      rw [hdi] at hd
      rw [hd, put_at, if_pos rfl]
      have h0 : a.tmps[s]? = a0.tmps[s]? := h.out s fun k hk hdk => by
        have hkj : k = j := lexOK_apart hB hdk (by rw [hdi]; exact hd)
        subst hkj
        simp [hil] at hun hk
        rw [hun] at hk
        cases hk
      rw [h0]
    · have hl := (hset j hj).resolve_left hji
      rw [if_neg hji]
      have h0 := h.at_ j s hl hd
      have hsi : o.dst ≠ some s := fun e => hji (lexOK_apart hB hd (by rw [hdi]; exact e))
      cases hod : o.dst with
      | none => simpa [Act.put] using h0
      | some d =>
        have hne : d ≠ s := fun e => hsi (by rw [hod, e])
        simpa [Act.put, Array.getElem?_setIfInBounds_ne hne] using h0

theorem Filled.all {vs : Nat → Value} {a0 a : Act} {listed : Array Bool} {m : Nat} (hB : lexOKm ops m = true) (h : Filled ops vs a0 a listed)
    (hl : ∀ j, j < ops.size → listed.getD j false = true) : a = fillTo ops vs a0 ops.size := by
  have hlt : ∀ {k : Nat} {d : Tmp}, dstOf ops k = some d → k < ops.size := by
    intro k d hk
    rcases Nat.lt_or_ge k ops.size with h' | h'
    · exact h'
    · simp [dstOf, Array.getElem?_eq_none h'] at hk
  have ht : a.tmps = (fillTo ops vs a0 ops.size).tmps := by
    apply Array.ext_getElem?
    intro s
    by_cases hex : ∃ j, dstOf ops j = some s
    · obtain ⟨j, hj⟩ := hex
      rw [h.at_ j s (hl j (hlt hj)) hj, fillTo_some vs a0 s j hj _ (hlt hj) fun k _ hd => lexOK_apart hB hd hj]
    · have hno : ∀ j, dstOf ops j ≠ some s := fun j hj => hex ⟨j, hj⟩
      rw [h.out s fun j _ => hno j, fillTo_none vs a0 s _ fun j _ => hno j]
  have hd : a.defers = (fillTo ops vs a0 ops.size).defers := by rw [fillTo_defers, h.defers]
  cases a
  generalize fillTo ops vs a0 ops.size = b at *
  cases b
  simp_all
end

/-- What operation i owes: behind it its slot holds a value of which F i holds, the invariant stands (with one step less to come), and S leads from the old world to the new one. -/
def StepPost (I : Nat → World → Prop) (F : Nat → Value → World → Prop) (S : World → World → Prop) (A : Act) (o : Oper) (i k : Nat) (w : World) : Exit → Act → World → Prop
  | .normal, a', w' => ∃ v, a' = A.put o.dst v ∧ I k w' ∧ S w w' ∧ F i v w'
  | _, _, _ => False

def Owes (P : Program) (ops : Array Oper) (I : Nat → World → Prop) (F : Nat → Value → World → Prop) (S : World → World → Prop) (a0 : Act) (i : Nat) (o : Oper) : Prop :=
  ∀ (vs : Nat → Value) (k : Nat) (w : World), I (k + 1) w → (∀ e ∈ o.after, Region.binds .any e = true → F e.on (vs e.on) w) →
    wpList P ops (StepPost I F S (fillTo ops vs a0 i) o i k w) [o] (fillTo ops vs a0 i) w

/-- Each operation of a list owes its part. -/
def OweAll (P : Program) (ops : Array Oper) (I : Nat → World → Prop) (F : Nat → Value → World → Prop) (S : World → World → Prop) (a0 : Act) : Nat → List Oper → Prop
  | _, [] => True
  | i, o :: rest => Owes P ops I F S a0 i o ∧ OweAll P ops I F S a0 (i + 1) rest

theorem OweAll.at_ {P : Program} {ops : Array Oper} {I : Nat → World → Prop} {F : Nat → Value → World → Prop} {S : World → World → Prop} {a0 : Act} : ∀ {l : List Oper} {i : Nat}, OweAll P ops I F S a0 i l →
    ∀ {j : Nat} {o : Oper}, l[j]? = some o → Owes P ops I F S a0 (i + j) o
  | [], _, _, j, o, h => by simp at h
  | x :: l, i, H, 0, o, h => by simp at h; subst h; exact H.1
  | x :: l, i, H, j + 1, o, h => by
    have := OweAll.at_ (l := l) (i := i + 1) H.2 (j := j) (o := o) (by simpa using h)
    rwa [show i + 1 + j = i + (j + 1) from by omega] at this

/-- How many operations are still to come. -/
def open_ (ops : Array Oper) (listed : Array Bool) : Nat := ((List.range ops.size).filter fun i => !listed.getD i true).length

theorem filter_lt {p q : Nat → Bool} {i : Nat} (hp : p i = true) (hq : q i = false) (hpq : ∀ j, q j = true → p j = true) : ∀ {l : List Nat}, i ∈ l → (l.filter q).length + 1 ≤ (l.filter p).length
  | [], h => by simp at h
  | x :: l, h => by
    have hle : ∀ l : List Nat, (l.filter q).length ≤ (l.filter p).length := by
      intro l
      induction l with
      | nil => simp
      | cons y l ih =>
        simp only [List.filter_cons]
        by_cases hqy : q y = true
        · simp [hqy, hpq y hqy, ih]
        · by_cases hpy : p y = true
          · simp [hqy, hpy]; omega
          · simp [hqy, hpy, ih]
    by_cases hxi : x = i
    · subst hxi
      simp only [List.filter_cons, hp, hq]
      have := hle l
      simp
      omega
    · have hi : i ∈ l := by
        rcases List.mem_cons.1 h with h' | h'
        · exact absurd h'.symm hxi
        · exact h'
      have ih := filter_lt hp hq hpq hi
      simp only [List.filter_cons]
      by_cases hqx : q x = true
      · simp [hqx, hpq x hqx]; omega
      · by_cases hpx : p x = true
        · simp [hqx, hpx]; omega
        · simp [hqx, hpx]; omega

theorem put_same {A a : Act} {d : Option Tmp} {v v' : Value} (hs : ∀ s, d = some s → (A.tmps[s]?).isSome = (a.tmps[s]?).isSome) (h : A.put d v = A.put d v') : a.put d v = a.put d v' := by
  cases d with
  | none => rfl
  | some s =>
    have h1 := congrArg (fun x : Act => x.tmps[s]?) h
    simp only [put_at] at h1
    have hss := hs s rfl
    cases hA : A.tmps[s]? with
    | some u =>
      rw [hA] at h1
      simp at h1
      rw [h1]
    | none =>
      rw [hA] at hss
      have hn : a.tmps[s]? = none := by
        cases ha : a.tmps[s]? with
        | none => rfl
        | some _ => rw [ha] at hss; simp at hss
      have hge : a.tmps.size ≤ s := by
        rcases Nat.lt_or_ge s a.tmps.size with h' | h'
        · simp [h'] at hn
        · exact h'
      simp [Act.put, Array.setIfInBounds, Nat.not_lt.2 hge]

theorem wp_region_inv {P : Program} {ops : Array Oper} {id : Nat} {Q : Exit → Act → World → Prop} {a0 : Act} {w0 : World} (hm : P.follows .mixedOrders = true) (hB : lexOK ops = true)
    (I : Nat → World → Prop) (F : Nat → Value → World → Prop) (S : World → World → Prop)
    (hF : ∀ i v w w', S w w' → F i v w → F i v w') (hI0 : I ops.size w0.drew)
    (hstep : OweAll P ops I F S a0 0 ops.toList)
    (hend : ∀ (vs : Nat → Value) (k : Nat) (w : World), I k w → (∀ j, j < ops.size → F j (vs j) w) → Q .normal (fillTo ops vs a0 ops.size) w) : (Code.region id ops true).wp P Q a0 w0 := by
  have main : ∀ (fuel : Nat) (listed : Array Bool) (vs : Nat → Value) (a : Act) (w : World), open_ ops listed ≤ fuel → listed.size = ops.size → Filled ops vs a0 a listed → I fuel w →
      (∀ j, j < ops.size → listed.getD j false = true → F j (vs j) w) → wpAny P .any ops Q fuel listed a w := by
    -- where nothing is ready, all is listed
    have hdone : ∀ (listed : Array Bool), listed.size = ops.size → Region.ready .any ops listed = [] → ∀ j, j < ops.size → listed.getD j false = true := by
      intro listed hsz hr j
      induction j using Nat.strongRecOn with
      | _ j ih =>
        intro hj
        by_cases hl : listed.getD j true = false
        · exfalso
          have ho : ops[j]? = some ops[j] := by simp [hj]
          have hmem : j ∈ Region.ready .any ops listed := mem_ready.2 ⟨hl, ops[j], ho, fun e he hb => ih e.on (lexOK_back hB ho he hb) (Nat.lt_trans (lexOK_back hB ho he hb) hj)⟩
          rw [hr] at hmem
          cases hmem
        · simp [hsz, hj] at hl ⊢
          exact hl
    intro fuel
    induction fuel with
    | zero =>
      intro listed vs a w hop hsz hfl hI hall
      have hr : Region.ready .any ops listed = [] := by
        refine List.eq_nil_iff_forall_not_mem.2 fun i hi => ?_
        obtain ⟨hun, o, ho, _⟩ := mem_ready.1 hi
        have hlt : i < ops.size := (Array.getElem?_eq_some_iff.1 ho).1
        have : i ∈ (List.range ops.size).filter fun i => !listed.getD i true := by simp [hlt]; simpa using hun
        have := List.length_pos_of_mem this
        unfold open_ at hop
        omega
      have hl := hdone listed hsz hr
      refine ⟨hr, ?_⟩
      rw [hfl.all hB hl]
      exact hend vs 0 w hI fun j hj => hall j hj (hl j hj)
    | succ fuel ih =>
      intro listed vs a w hop hsz hfl hI hall
      refine ⟨fun hr => ?_, fun i hi => ?_⟩
      · have hl := hdone listed hsz hr
        rw [hfl.all hB hl]
        exact hend vs _ w hI fun j hj => hall j hj (hl j hj)
      · obtain ⟨hun, o, ho, hdeps⟩ := mem_ready.1 hi
        have hlt : i < ops.size := (Array.getElem?_eq_some_iff.1 ho).1
        have howes := hstep.at_ (j := i) (o := o) (by simpa using ho) vs fuel w hI fun e he hb => hall e.on (Nat.lt_trans (lexOK_back hB ho he hb) hlt) (hdeps e he hb)
        simp only [Nat.zero_add] at howes
        have hex := hfl.exec hB (fun j h1 h2 => absurd h1 (by omega)) ho hdeps
        have hwt := hfl.want hB (fun j h1 h2 => absurd h1 (by omega)) ho hdeps
        have hop' : open_ ops (listed.setIfInBounds i true) ≤ fuel := by
          have := filter_lt (p := fun j => !listed.getD j true) (q := fun j => !(listed.setIfInBounds i true).getD j true) (i := i) (by simpa using hun)
            (by simp [hsz, hlt]) (fun j hj => by
              by_cases hji : i = j
              · subst hji; simp [hsz, hlt] at hj
              · rw [getD_set_ne true hji] at hj; exact hj) (List.mem_range.2 hlt)
          unfold open_ at hop ⊢
          omega
        have hsz' : (listed.setIfInBounds i true).size = ops.size := by simpa using hsz
        have hsame : ∀ s, o.dst = some s → ((fillTo ops vs a0 i).tmps[s]?).isSome = (a.tmps[s]?).isSome := by
          intro s hs
          have hd : dstOf ops i = some s := by simp [dstOf, ho, hs]
          rw [fillTo_none vs a0 s i fun j hj hdj => by have := lexOK_apart hB hdj hd; omega,
            hfl.out s fun j hj hdj => by
              have hji := lexOK_apart hB hdj hd
              subst hji
              simp [hsz, hlt] at hun hj
              rw [hun] at hj
              cases hj]
        -- what follows, from what the operation owes
        have next : ∀ (v : Value) (w' : World), StepPost I F S (fillTo ops vs a0 i) o i fuel w .normal ((fillTo ops vs a0 i).put o.dst v) w' →
            wpAny P .any ops Q fuel (listed.setIfInBounds i true) (a.put o.dst v) w' := by
          rintro v w' ⟨v', he, hI', hS, hFi⟩
          rw [put_same hsame he]
          refine ih _ _ _ w' hop' hsz' (hfl.put hB ho hun v') hI' fun j hj hl => ?_
          by_cases hji : j = i
          · subst hji; rw [if_pos rfl]; exact hFi
          · rw [if_neg hji]
            rw [getD_set_ne false (Ne.symm hji)] at hl
            exact hF j _ w w' hS (hall j hj hl)
        unfold wpOp
        simp only [ho]
        unfold wpList at howes
        rw [hwt]
        split
        · rename_i hw
          rw [if_pos hw] at howes
          refine .inl ?_
          rcases howes with howes | ⟨_, ⟨_, _, hf⟩⟩
          · unfold Oper.wp at howes ⊢
            rw [hex]
            generalize (execOp (fillTo ops vs a0 i).eval o).run P w = r at *
            cases r with
            | ok n w' =>
              cases n <;> simp only [Oper.upon] at howes ⊢
              case value u => exact next u w' howes
              case skip => exact next undef w' howes
              case defer d =>
                obtain ⟨v', he, _⟩ := howes
                have := congrArg Act.defers he
                cases hod : o.dst <;> simp [Act.put, hod] at this
              case enter f args =>
                refine Calls.mono howes fun e w'' he => ?_
                cases e with
                | returned u => exact next u w'' he
                | panicked c => exact (he : False).elim
                | outgrown => obtain ⟨_, _, hf⟩ := he; exact (hf : False).elim
              case row row args => exact Rows.mono howes fun u w'' he => next u w'' he
            | halt x w' =>
              cases x <;> simp only [Oper.upon] at howes ⊢
              case panic u => exact (howes : False).elim
          · exact (hf : False).elim
        · rename_i hw
          rw [if_neg hw] at howes
          exact next undef w howes
  refine wp_region_any hm (main ops.size (Array.replicate ops.size false) (fun _ => undef) a0 _ ?_ (by simp) ⟨rfl, fun _ _ => rfl, fun j s hj => ?_⟩ hI0 fun j _ hj => ?_)
  · unfold open_
    exact Nat.le_trans (List.length_filter_le _ _) (by simp)
  · exfalso
    rcases Nat.lt_or_ge j ops.size with h' | h' <;> simp [h'] at hj
  · exfalso
    rcases Nat.lt_or_ge j ops.size with h' | h' <;> simp [h'] at hj

theorem wp_region_inv_lit {P : Program} {l : List Oper} {id : Nat} {Q : Exit → Act → World → Prop} {a0 : Act} {w0 : World} (hm : P.follows .mixedOrders = true) (hB : lexOK l.toArray = true)
    (I : Nat → World → Prop) (F : Nat → Value → World → Prop) (S : World → World → Prop)
    (hF : ∀ i v w w', S w w' → F i v w → F i v w') (hI0 : I l.length w0.drew)
    (hstep : OweAll P l.toArray I F S a0 0 l)
    (hend : ∀ (vs : Nat → Value) (k : Nat) (w : World), I k w → (∀ j, j < l.length → F j (vs j) w) → Q .normal (fillTo l.toArray vs a0 l.length) w) : (Code.region id l.toArray true).wp P Q a0 w0 :=
  wp_region_inv hm hB I F S hF (by simpa using hI0) (by simpa using hstep) (fun vs k w h1 h2 => by simpa using hend vs k w h1 (by simpa using h2))

/-- Operation o waits for operation j. -/
def waits (o : Oper) (j : Nat) : Bool := o.after.toList.any fun e => Region.binds .any e && e.on == j

/-- Operation i comes behind operation j, through at most 'fuel' edges. -/
def hangs (ops : Array Oper) : Nat → Nat → Nat → Bool
  | 0, _, _ => false
  | fuel + 1, i, j => match ops[i]? with
    | none => false
    | some o => o.after.any fun e => Region.binds .any e && (e.on == j || hangs ops fuel e.on j)

/-- Each operation from m on comes behind all that stand before it. -/
def tailOK (ops : Array Oper) (m : Nat) : Bool := (List.range ops.size).all fun i => decide (i < m) || (List.range i).all fun j => hangs ops ops.size i j

section
variable {ops : Array Oper}
/-- What is listed waits for nothing that is not. -/
def Closed (ops : Array Oper) (listed : Array Bool) : Prop := ∀ i o, ops[i]? = some o → listed.getD i false = true → ∀ e ∈ o.after, Region.binds .any e = true → listed.getD e.on false = true

theorem hangs_listed {listed : Array Bool} (hc : Closed ops listed) : ∀ {fuel i j : Nat} {o : Oper}, ops[i]? = some o → hangs ops fuel i j = true →
    (∀ e ∈ o.after, Region.binds .any e = true → listed.getD e.on false = true) → listed.getD j false = true
  | 0, _, _, _, _, h, _ => by simp [hangs] at h
  | fuel + 1, i, j, o, hi, h, hall => by
    unfold hangs at h
    simp only [hi] at h
    obtain ⟨e, he, hb⟩ := Array.any_eq_true'.1 h
    simp only [Bool.and_eq_true, Bool.or_eq_true, beq_iff_eq] at hb
    have hl := hall e he hb.1
    rcases hb.2 with rfl | hh
    · exact hl
    · cases ho : ops[e.on]? with
      | none => cases fuel <;> simp [hangs, ho] at hh
      | some o' => exact hangs_listed hc ho hh (hc e.on o' ho hl)

theorem tail_ready {m : Nat} {listed : Array Bool} (hT : tailOK ops m = true) (hc : Closed ops listed) {i : Nat} (hi : i ∈ Region.ready .any ops listed) (him : m ≤ i) : ∀ j, j < i → listed.getD j false = true := by
  intro j hj
  obtain ⟨_, o, ho, hall⟩ := mem_ready.1 hi
  have hlt : i < ops.size := (Array.getElem?_eq_some_iff.1 ho).1
  simp only [tailOK, List.all_eq_true, List.mem_range, Bool.or_eq_true, decide_eq_true_eq] at hT
  rcases hT i hlt with h | h
  · omega
  · exact hangs_listed hc ho (h j hj) hall

theorem closed_set {listed : Array Bool} (hc : Closed ops listed) {i : Nat} {o : Oper} (ho : ops[i]? = some o) (hall : ∀ e ∈ o.after, Region.binds .any e = true → listed.getD e.on false = true) : Closed ops (listed.setIfInBounds i true) := by
  intro k p hk hl e he hb
  by_cases hki : k = i
  · subst hki
    rw [ho] at hk
    obtain rfl := Option.some.inj hk
    exact getD_set_true (hall e he hb)
  · rw [getD_set_ne false (Ne.symm hki)] at hl
    exact getD_set_true (hc k p hk hl e he hb)

/-- The tail, in the order of the text: all before k is listed, nothing from k on. -/
theorem wpAny_tail {P : Program} {Q : Exit → Act → World → Prop} {m : Nat} (hT : tailOK ops m = true) (hback : ∀ i o, ops[i]? = some o → ∀ e ∈ o.after, Region.binds .any e = true → e.on < i) :
    ∀ (l : List Oper) (k fuel : Nat) (listed : Array Bool) (a : Act) (w : World), m ≤ k → (∀ j, l[j]? = ops[k + j]?) → k + l.length = ops.size → l.length ≤ fuel → listed.size = ops.size →
      (∀ j, j < ops.size → listed.getD j true = decide (j < k)) → Closed ops listed → wpList P ops Q l a w → wpAny P .any ops Q fuel listed a w
  | [], k, fuel, listed, a, w, hmk, hl, hsz, hf, hls, hlis, hc, h => by
    have hr : Region.ready .any ops listed = [] := by
      refine List.eq_nil_iff_forall_not_mem.2 fun i hi => ?_
      obtain ⟨hun, o, ho, _⟩ := mem_ready.1 hi
      have hlt : i < ops.size := (Array.getElem?_eq_some_iff.1 ho).1
      rw [hlis i hlt] at hun
      simp at hsz hun
      omega
    exact wpAny_done hr h fuel
  | o :: l, k, fuel, listed, a, w, hmk, hl, hsz, hf, hls, hlis, hc, h => by
    cases fuel with
    | zero => simp at hf
    | succ fuel =>
      have h0 : ops[k]? = some o := by simpa using (hl 0).symm
      have hklt : k < ops.size := (Array.getElem?_eq_some_iff.1 h0).1
      have hkun : listed.getD k true = false := by rw [hlis k hklt]; simp
      have hfalse : ∀ j, j < ops.size → listed.getD j false = decide (j < k) := fun j hj => by
        have := hlis j hj
        simp [hls, hj] at this ⊢
        exact this
      have hkr : k ∈ Region.ready .any ops listed := mem_ready.2 ⟨hkun, o, h0, fun e he hb => by
        have hlt := hback k o h0 e he hb
        rw [hfalse e.on (by omega)]
        simp; omega⟩
      refine ⟨fun hr => (by rw [hr] at hkr; cases hkr), fun i hi => ?_⟩
      obtain ⟨hun, oi, hoi, hdeps⟩ := mem_ready.1 hi
      have hilt : i < ops.size := (Array.getElem?_eq_some_iff.1 hoi).1
      have hik : i = k := by
        rw [hlis i hilt] at hun
        simp at hun
        rcases Nat.lt_or_ge k i with hlt | hge
        · have := tail_ready hT hc hi (by omega) k hlt
          rw [hfalse k hklt] at this
          simp at this
        · omega
      subst hik
      rw [h0] at hoi
      obtain rfl := Option.some.inj hoi
      have hstep : ∀ (a' : Act) (w' : World), wpList P ops Q l a' w' → wpAny P .any ops Q fuel (listed.setIfInBounds i true) a' w' := fun a' w' h' =>
        wpAny_tail hT hback l (i + 1) fuel _ a' w' (by omega) (fun j => by have := hl (j + 1); simpa [Nat.add_assoc, Nat.add_comm 1 j] using this) (by simp at hsz; omega) (by simp at hf; omega) (by simpa using hls)
          (fun j hj => by
            by_cases hji : i = j
            · subst hji; simp [hls, hj]
            · rw [getD_set_ne true hji, hlis j hj]; simp; omega) (closed_set hc h0 hdeps) h'
      unfold wpOp
      simp only [h0]
      unfold wpList at h
      split
      · rename_i hw
        rw [if_pos hw] at h
        exact h.imp (Oper.wp_mono hstep) id
      · rename_i hw
        rw [if_neg hw] at h
        exact hstep _ _ h
end

theorem act_ext {a b : Act} (h1 : a.tmps = b.tmps) (h2 : a.defers = b.defers) : a = b := by cases a; cases b; simp_all

/-- How many of the first m operations are still to come. -/
def openTo (m : Nat) (listed : Array Bool) : Nat := ((List.range m).filter fun i => !listed.getD i true).length

def Owes' (P : Program) (ops : Array Oper) (I : Nat → World → Prop) (F : Nat → Value → World → Prop) (S : World → World → Prop) (a0 : Act) (i : Nat) (o : Oper) : Prop :=
  ∀ (vs : Nat → Value) (k : Nat) (w : World), I (k + 1) w → (∀ j, waits o j = true → F j (vs j) w) →
    wpList P ops (StepPost I F S (fillTo ops vs a0 i) o i k w) [o] (fillTo ops vs a0 i) w
def OweAll' (P : Program) (ops : Array Oper) (I : Nat → World → Prop) (F : Nat → Value → World → Prop) (S : World → World → Prop) (a0 : Act) : Nat → Nat → List Oper → Prop
  | 0, _, _ => True
  | _ + 1, _, [] => True
  | m + 1, i, o :: rest => Owes' P ops I F S a0 i o ∧ OweAll' P ops I F S a0 m (i + 1) rest
theorem OweAll'.at_ {P : Program} {ops : Array Oper} {I : Nat → World → Prop} {F : Nat → Value → World → Prop} {S : World → World → Prop} {a0 : Act} : ∀ {m : Nat} {l : List Oper} {i : Nat}, OweAll' P ops I F S a0 m i l →
    ∀ {j : Nat} {o : Oper}, j < m → l[j]? = some o → Owes' P ops I F S a0 (i + j) o
  | 0, _, _, _, j, o, hj, _ => absurd hj (by omega)
  | _ + 1, [], i, _, j, o, _, h => by simp at h
  | m + 1, x :: l, i, H, 0, o, _, h => by simp at h; subst h; exact H.1
  | m + 1, x :: l, i, H, j + 1, o, hj, h => by
    have := OweAll'.at_ (m := m) (l := l) (i := i + 1) H.2 (j := j) (o := o) (by omega) (by simpa using h)
    rwa [show i + 1 + j = i + (j + 1) from by omega] at this

/-- A region that draws its order: its first m operations by an invariant and a fact for each value, the rest, which come behind them, in the order of the text. -/
theorem wp_region_tail {P : Program} {l : List Oper} {id : Nat} {Q : Exit → Act → World → Prop} {a0 : Act} {w0 : World} (m : Nat) (hm : P.follows .mixedOrders = true) (hB : lexOKm l.toArray m = true) (hT : tailOK l.toArray m = true) (hml : m ≤ l.length)
    (I : Nat → World → Prop) (F : Nat → Value → World → Prop) (S : World → World → Prop)
    (hF : ∀ i v w w', S w w' → F i v w → F i v w') (hI0 : I m w0.drew)
    (hstep : OweAll' P l.toArray I F S a0 m 0 l)
    (hend : ∀ (vs : Nat → Value) (k : Nat) (w : World), I k w → (∀ j, j < m → F j (vs j) w) → wpList P l.toArray Q (l.drop m) (fillTo l.toArray vs a0 m) w) : (Code.region id l.toArray true).wp P Q a0 w0 := by
  obtain ⟨ops, hops⟩ : ∃ ops, ops = l.toArray := ⟨_, rfl⟩
  have hol : ∀ j, l[j]? = ops[j]? := fun j => by rw [hops, List.getElem?_toArray]
  have hsize : l.length = ops.size := by rw [hops]; simp
  rw [← hops] at hB hT hstep hend ⊢
  have main : ∀ (fuel : Nat) (listed : Array Bool) (vs : Nat → Value) (a : Act) (w : World) (k : Nat), openTo m listed ≤ k → k + (ops.size - m) ≤ fuel → listed.size = ops.size → Filled ops vs a0 a listed → I k w →
      (∀ j, j < m → listed.getD j false = true → F j (vs j) w) → (∀ j, m ≤ j → j < ops.size → listed.getD j true = false) → Closed ops listed → wpAny P .any ops Q fuel listed a w := by
    intro fuel
    induction fuel with
    | zero =>
      intro listed vs a w k hop hfuel hsz hfl hI hall hrest hc
      have hm' : m = ops.size := by omega
      subst hm'
      have hdone : ∀ j, j < ops.size → listed.getD j true = true := by
        intro j hj
        cases hl : listed.getD j true
        · exfalso
          have : j ∈ (List.range ops.size).filter fun i => !listed.getD i true := by simp [hj]; simpa using hl
          have := List.length_pos_of_mem this
          unfold openTo at hop
          omega
        · rfl
      have hdone' : ∀ j, j < ops.size → listed.getD j false = true := fun j hj => by have := hdone j hj; simp [hsz, hj] at this ⊢; exact this
      refine wpAny_tail hT (fun i o h e he hb => lexOK_back hB h he hb) [] ops.size 0 listed a w (Nat.le_refl _) (fun j => by simp) (by simp) (Nat.le_refl _) hsz (fun j hj => by rw [hdone j hj]; simp [hj]) hc ?_
      rw [hfl.all hB hdone']
      have := hend vs k w hI fun j hj => hall j hj (hdone' j hj)
      rwa [List.drop_of_length_le (by omega)] at this
    | succ fuel ih =>
      intro listed vs a w k hop hfuel hsz hfl hI hall hrest hc
      by_cases hfull : ∀ j, j < m → listed.getD j true = true
      · have hfull' : ∀ j, j < m → listed.getD j false = true := fun j hj => by
          have := hfull j hj
          have hjs : j < ops.size := by omega
          simp [hsz, hjs] at this ⊢
          exact this
        refine wpAny_tail hT (fun i o h e he hb => lexOK_back hB h he hb) (l.drop m) m (fuel + 1) listed a w (Nat.le_refl _) (fun j => by rw [List.getElem?_drop, hol]) (by rw [List.length_drop]; omega) (by rw [List.length_drop]; omega) hsz
          (fun j hj => by
            by_cases hjm : j < m
            · rw [hfull j hjm]; simp [hjm]
            · rw [hrest j (by omega) hj]; simp [hjm]) hc ?_
        have ha : a = fillTo ops vs a0 m := by
          have ht : a.tmps = (fillTo ops vs a0 m).tmps := by
            apply Array.ext_getElem?
            intro s
            by_cases hex : ∃ j, j < m ∧ dstOf ops j = some s
            · obtain ⟨j, hjm, hj⟩ := hex
              rw [hfl.at_ j s (hfull' j hjm) hj, fillTo_some vs a0 s j hj _ hjm fun k _ hd => lexOK_apart hB hd hj]
            · have hno : ∀ j, j < m → dstOf ops j ≠ some s := fun j hj hd => hex ⟨j, hj, hd⟩
              rw [hfl.out s fun j hj hd => by
                by_cases hjm : j < m
                · exact hno j hjm hd
                · rcases Nat.lt_or_ge j ops.size with h' | h'
                  · have := hrest j (by omega) h'
                    simp [hsz, h'] at this hj
                    rw [this] at hj
                    cases hj
                  · simp [dstOf, Array.getElem?_eq_none h'] at hd, fillTo_none vs a0 s _ hno]
          have hd : a.defers = (fillTo ops vs a0 m).defers := by rw [fillTo_defers, hfl.defers]
          exact act_ext ht hd
        rw [ha]
        exact hend vs k w hI fun j hj => hall j hj (hfull' j hj)
      · have hlt_of : ∀ i, i ∈ Region.ready .any ops listed → i < m := by
          intro i hi
          rcases Nat.lt_or_ge i m with h' | h'
          · exact h'
          · exfalso
            refine hfull fun j hj => ?_
            have := tail_ready hT hc hi h' j (by omega)
            have hjs : j < ops.size := by omega
            simp [hsz, hjs] at this ⊢
            exact this
        refine ⟨fun hr => ?_, fun i hi => ?_⟩
        · exfalso
          -- the least one that is not listed is ready
          have hex : ∃ j, j < m ∧ listed.getD j true = false := by
            refine Classical.byContradiction fun hno => hfull fun j hj => ?_
            cases hl : listed.getD j true
            · exact absurd ⟨j, hj, hl⟩ hno
            · rfl
          obtain ⟨j, hj, hl⟩ := hex
          induction j using Nat.strongRecOn with
          | _ j ihj =>
            have hjs : j < ops.size := by omega
            have ho : ops[j]? = some ops[j] := by simp [hjs]
            by_cases hdep : ∀ e ∈ ops[j].after, Region.binds .any e = true → listed.getD e.on false = true
            · have hmem : j ∈ Region.ready .any ops listed := mem_ready.2 ⟨hl, ops[j], ho, hdep⟩
              rw [hr] at hmem
              cases hmem
            · refine hdep fun e he hb => ?_
              have hlt := lexOK_back hB ho he hb
              cases hle : listed.getD e.on true
              · exact (ihj e.on hlt (by omega) hle).elim
              · have : e.on < ops.size := by omega
                simp [hsz, this] at hle ⊢
                exact hle
        · have him := hlt_of i hi
          obtain ⟨hun, o, ho, hdeps⟩ := mem_ready.1 hi
          have hlt : i < ops.size := (Array.getElem?_eq_some_iff.1 ho).1
          have hk : 1 ≤ k := by
            have : i ∈ (List.range m).filter fun i => !listed.getD i true := by simp [him]; simpa using hun
            have := List.length_pos_of_mem this
            unfold openTo at hop
            omega
          obtain ⟨k, rfl⟩ : ∃ k', k = k' + 1 := ⟨k - 1, by omega⟩
          have howes := hstep.at_ (j := i) (o := o) him (by rw [hol]; exact ho) vs k w hI fun j hj => by
            obtain ⟨e, he, hb⟩ := List.any_eq_true.1 hj
            have he : e ∈ o.after := by simpa using he
            simp only [Bool.and_eq_true, beq_iff_eq] at hb
            obtain ⟨hb, rfl⟩ := hb
            exact hall e.on (Nat.lt_trans (lexOK_back hB ho he hb) him) (hdeps e he hb)
          simp only [Nat.zero_add] at howes
          have hrest' : ∀ j, m ≤ j → j < ops.size → listed.getD j false = false := fun j h1 h2 => by
            have := hrest j h1 h2
            simp [hsz, h2] at this ⊢
            exact this
          have hex := hfl.exec hB hrest' ho hdeps
          have hwt := hfl.want hB hrest' ho hdeps
          have hop' : openTo m (listed.setIfInBounds i true) ≤ k := by
            have := filter_lt (p := fun j => !listed.getD j true) (q := fun j => !(listed.setIfInBounds i true).getD j true) (i := i) (by simpa using hun)
              (by simp [hsz, hlt]) (fun j hj => by
                by_cases hji : i = j
                · subst hji; simp [hsz, hlt] at hj
                · rw [getD_set_ne true hji] at hj; exact hj) (List.mem_range.2 him)
            unfold openTo at hop ⊢
            omega
          have hsz' : (listed.setIfInBounds i true).size = ops.size := by simpa using hsz
          have hsame : ∀ s, o.dst = some s → ((fillTo ops vs a0 i).tmps[s]?).isSome = (a.tmps[s]?).isSome := by
            intro s hs
            have hd : dstOf ops i = some s := by simp [dstOf, ho, hs]
            rw [fillTo_none vs a0 s i fun j hj hdj => by have := lexOK_apart hB hdj hd; omega,
              hfl.out s fun j hj hdj => by
                have hji := lexOK_apart hB hdj hd
                subst hji
                simp [hsz, hlt] at hun hj
                rw [hun] at hj
                cases hj]
          have next : ∀ (v : Value) (w' : World), StepPost I F S (fillTo ops vs a0 i) o i k w .normal ((fillTo ops vs a0 i).put o.dst v) w' →
              wpAny P .any ops Q fuel (listed.setIfInBounds i true) (a.put o.dst v) w' := by
            rintro v w' ⟨v', he, hI', hS, hFi⟩
            rw [put_same hsame he]
            refine ih _ _ _ w' k hop' (by omega) hsz' (hfl.put hB ho hun v') hI' (fun j hj hl => ?_) (fun j hj hjs => ?_) (closed_set hc ho hdeps)
            · by_cases hji : j = i
              · subst hji; rw [if_pos rfl]; exact hFi
              · rw [if_neg hji]
                rw [getD_set_ne false (Ne.symm hji)] at hl
                exact hF j _ w w' hS (hall j hj hl)
            · rw [getD_set_ne true (by omega)]
              exact hrest j hj hjs
          unfold wpOp
          simp only [ho]
          unfold wpList at howes
          rw [hwt]
          split
          · rename_i hw
            rw [if_pos hw] at howes
            refine .inl ?_
            rcases howes with howes | ⟨_, ⟨_, _, hf⟩⟩
            · unfold Oper.wp at howes ⊢
              rw [hex]
              generalize (execOp (fillTo ops vs a0 i).eval o).run P w = r at *
              cases r with
              | ok n w' =>
                cases n <;> simp only [Oper.upon] at howes ⊢
                case value u => exact next u w' howes
                case skip => exact next undef w' howes
                case defer d =>
                  obtain ⟨v', he, _⟩ := howes
                  have := congrArg Act.defers he
                  cases hod : o.dst <;> simp [Act.put, hod] at this
                case enter f args =>
                  refine Calls.mono howes fun e w'' he => ?_
                  cases e with
                  | returned u => exact next u w'' he
                  | panicked c => exact (he : False).elim
                  | outgrown => obtain ⟨_, _, hf⟩ := he; exact (hf : False).elim
                case row row args => exact Rows.mono howes fun u w'' he => next u w'' he
              | halt x w' =>
                cases x <;> simp only [Oper.upon] at howes ⊢
                case panic u => exact (howes : False).elim
            · exact (hf : False).elim
          · rename_i hw
            rw [if_neg hw] at howes
            exact next undef w howes
  have hrep : ∀ (j : Nat) (d : Bool), j < ops.size → (Array.replicate ops.size false).getD j d = false := fun j d hj => by simp [hj]
  refine wp_region_any hm (main ops.size (Array.replicate ops.size false) (fun _ => undef) a0 _ m ?_ (by omega) (by simp) ⟨rfl, fun _ _ => rfl, fun j s hj => ?_⟩ hI0 (fun j _ hj => ?_) (fun j _ hjs => hrep j true hjs) fun i o _ hl => ?_)
  · unfold openTo
    exact Nat.le_trans (List.length_filter_le _ _) (by simp)
  · exfalso
    rcases Nat.lt_or_ge j ops.size with h' | h' <;> simp [h'] at hj
  · exfalso
    rcases Nat.lt_or_ge j ops.size with h' | h' <;> simp [h'] at hj
  · exfalso
    rcases Nat.lt_or_ge i ops.size with h' | h' <;> simp [h'] at hl

end Go.Proofs.Ytbnehcaallehbaa
