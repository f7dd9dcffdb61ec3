/- The hosts in the order in which a key would choose them. -/
import Derived.Test.YtpbpddggmlgkdaaPlain2
import Derived.Laws.AppendOwnNone
import Derived.Test.YtpbpddggmlgkdaaMark
namespace Go.Proofs.Ytpbpddggmlgkdaa
set_option linter.unusedVariables false
set_option linter.unusedSimpArgs false
open Go.RowKit

theorem Own.none0 {E : TypeId} {size B n c : Nat} {w : World} {A : Option Addr} {zs : List Int} (h : Own E size B w A n c zs) : A = none → c = 0 := by
  intro hA
  rcases h.2 with ⟨hv, _⟩ | ⟨g, cap, cur, hv, _⟩
  · simpa using (congrArg (fun v => match v with | .slice _ _ c => c | _ => 0) hv)
  · rw [hA] at hv; simp at hv
theorem Own.shapeAny {E : TypeId} {size B n : Nat} {w : World} {v : Value} {xs : List Value} (h : w.ownsRow B E size v n xs) : ∃ A c, v = .slice A n c ∧ n ≤ c ∧ c ≤ maxLen := by
  rcases h.2 with ⟨hv, h0⟩ | ⟨g, cap, cur, hv, hg, _, hnc, hcm, _⟩
  · subst h0
    exact ⟨none, 0, hv, Nat.le_refl _, Nat.zero_le _⟩
  · exact ⟨_, cap, hv, hnc, hcm⟩
/-- 'append(out, xs..)' of m elements onto a row of the call's own; m may be 0. -/
theorem wpList_append_OwnAny {P : Program} (w : World) {ops : Array Oper} {rest : List Oper} {o : Oper} {a : Act} {Q : Exit → Act → World → Prop} (hgd : o.guard = none) (s x : Operand) (t : TypeId)
    (ho : o.op = .call { callee := .builtin .append, args := #[s, x], argTypes := #[t, t] })
    (w0 : World) (e : TypeId) (i : TypeInfo) (z : Value) (size bytes : Nat) (ht : P.underlying t = some (.slice e)) (hi : P.info? e = some i) (hz : i.zero = some z)
    (hsize : i.size = size) (hby : i.bytes = bytes) (hzs : z.cells.size = size) (hsz : 0 < size) (hb100 : bytes ≤ 100)
    (A : Option Addr) (n c : Nat) (zs : List Int) (hs : a.eval s = .slice A n c) (hown : Own e size w0.heap.size w A n c zs)
    (A' : Option Addr) (m c2 : Nat) (news : List Int) (hx : a.eval x = .slice A' m c2) (hc2 : A' = none → c2 = 0) (hmc : m ≤ c2) (hl : news.length = m * size) (hnews : Ints w A' news) (hn : n + m ≤ 16777216) (hnew : New w0 w)
    (h : ∀ A' c' w', n + m ≤ c' → c' ≤ maxLen → Own e size w0.heap.size w' A' (n + m) c' (zs ++ news) → New w0 w' → w.grownBy w' (Value.ownBlock (.slice A n c)) → wpList P ops Q rest (a.put o.dst (.slice A' (n + m) c')) w') :
    wpList P ops Q (o :: rest) a w := by
  cases A' with
  | none =>
    obtain rfl := hc2 rfl
    obtain rfl : m = 0 := by omega
    obtain rfl : news = [] := List.eq_nil_of_length_eq_zero (by simpa using hl)
    obtain ⟨A1, c1, hv, h1, h2⟩ := Own.shapeAny hown
    obtain ⟨rfl, rfl⟩ : A = A1 ∧ c = c1 := by simpa using hv
    refine wpList_append_own_none hgd s x t ho w0.heap.size e i size ht hi _ n _ hs hown hx ?_
    have := h A c w (by simpa using h1) h2 (by simpa using hown) hnew (World.grownBy.refl w _)
    simpa using this
  | some ad =>
    refine wpList_append_own w hgd s x t ho w0.heap.size e i z size bytes ht hi hz hsize hby hzs hsz _ n _ hs hown ad m c2 (news.map (Value.int .i64)) hx (by simpa using hl) (news_at hnews) (ints_oneCell _ _) (by unfold maxLen; omega) ?_ hnew.le ?_
    · calc (n + m) * bytes ≤ 16777216 * 100 := Nat.mul_le_mul hn hb100
        _ ≤ 140737488355328 := by omega
    · intro v' w' hown' hg _
      obtain ⟨A', c', rfl, h1, h2⟩ := Own.shapeAny hown'
      refine h _ c' w' h1 h2 (by unfold Own; rw [List.map_append]; exact hown') (hnew.grown hg fun k hk => (World.ownsRow.lt hown k hk).1) hg

/-- The numbers chosen one after the other, f at most. -/
def ordF (key : Int) : Nat → List Hst → List Int
  | 0, _ => []
  | f + 1, hs => if rvZ hs key < 0 then [] else rvZ hs key :: ordF key f (setH hs (rvZ hs key) 0)
def rvOrdZ (hs : List Hst) (key : Int) : List Int := ordF key hs.length hs
theorem ordF_len (key : Int) : ∀ (f : Nat) (hs : List Hst), (ordF key f hs).length ≤ f
  | 0, _ => by simp [ordF]
  | f + 1, hs => by
    unfold ordF
    split
    · simp
    · have := ordF_len key f (setH hs (rvZ hs key) 0)
      simp; omega
theorem rvOrdZ_len (hs : List Hst) (key : Int) : (rvOrdZ hs key).length ≤ hs.length := ordF_len key _ hs
theorem ordF_stop {key : Int} {hs : List Hst} (h : rvZ hs key < 0) : ∀ f, ordF key f hs = []
  | 0 => rfl
  | f + 1 => by unfold ordF; rw [if_pos h]
theorem ordF_step {key : Int} {hs : List Hst} (h : ¬ rvZ hs key < 0) (f : Nat) : ordF key (f + 1) hs = rvZ hs key :: ordF key f (setH hs (rvZ hs key) 0) := by rw [ordF, if_neg h]
theorem rv_ok {hs : List Hst} {key : Int} (h0 : 0 ≤ rvZ hs key) : okS hs (rvZ hs key) 0 = true := by
  rcases rv_cases hs key with h | ⟨hp, hk, l1, x, l2, hl, e, _⟩
  · omega
  · have hx : x ∈ hs := ups_mem (hs := hs) (by rw [hl]; simp)
    obtain ⟨i, hi, hxi⟩ := List.getElem_of_mem hx
    exact okS_mem hp (i := i) (x := x) (by rw [← hxi]; simp) e.symm (by omega)
theorem ups_less {hs : List Hst} {key : Int} (h0 : 0 ≤ rvZ hs key) : (ups (setH hs (rvZ hs key) 0)).length + 1 ≤ (ups hs).length := by
  have hok := rv_ok h0
  rcases rv_cases hs key with h | ⟨hp, hk, l1, x, l2, hl, e, _⟩
  · omega
  · rw [setH_yes hok, ups_map_down, hl, List.filter_append, e]
    have e2 : List.filter (fun h : Hst => !(h.num == x.num)) (x :: l2) = List.filter (fun h : Hst => !(h.num == x.num)) l2 := List.filter_cons_of_neg (by simp)
    rw [e2]
    have h1 := List.length_filter_le (fun h : Hst => !(h.num == x.num)) l1
    have h2 := List.length_filter_le (fun h : Hst => !(h.num == x.num)) l2
    simp
    omega
theorem rows_apart {E E' : TypeId} {size size' B B' n n' c c' : Nat} {w : World} {A A' : Option Addr} {zs zs' : List Int} (hE : E ≠ E') (h : Own E size B w A n c zs) (h' : Own E' size' B' w A' n' c' zs') : Value.ownBlock (.slice A n c) = none ∨ Value.ownBlock (.slice A n c) ≠ Value.ownBlock (.slice A' n' c') := by
  rcases h.2 with ⟨hv, _⟩ | ⟨g, cap, cur, hv, _, hh, _⟩
  · rw [hv]; exact .inl rfl
  · rcases h'.2 with ⟨hv', _⟩ | ⟨g', cap', cur', hv', _, hh', _⟩
    · rw [hv, hv']; exact .inr (by simp [Value.ownBlock])
    · rw [hv, hv']
      refine .inr fun e => ?_
      obtain rfl : g = g' := by simpa [Value.ownBlock] using e
      rw [hh] at hh'
      simp at hh'
      exact hE hh'.2
/-- A pool in hand: it came in, or it is a row of the call's own. -/
def PoolAt (B : Nat) (w : World) (A : Option Addr) (n c : Nat) (P : List Hst) : Prop := Ints w A (flat P) ∧ (P = [] ∨ (∃ b o, A = some ⟨b, o, none⟩ ∧ b < B) ∨ Own 40 3 B w A n c (flat P))
theorem PoolAt.arg {w : World} {A : Option Addr} {n c : Nat} {P : List Hst} (h : Ints w A (flat P)) : PoolAt w.heap.size w A n c P := by
  refine ⟨h, ?_⟩
  rcases P with _ | ⟨x, t⟩
  · exact .inl rfl
  · obtain ⟨b, o, z, hA, _, hb, _⟩ := h.elem (k := 0) (by simp [flat])
    exact .inr (.inl ⟨b, o, hA, hb⟩)
theorem PoolAt.own {B : Nat} {w : World} {A : Option Addr} {n c : Nat} {P : List Hst} (h : Own 40 3 B w A n c (flat P)) : PoolAt B w A n c P := ⟨h.ints, .inr (.inr h)⟩
theorem PoolAt.new {B : Nat} {w w' : World} {A : Option Addr} {n c : Nat} {P : List Hst} (h : PoolAt B w A n c P) (hb : New w w') : PoolAt B w' A n c P := by
  refine ⟨h.1.new hb, ?_⟩
  rcases h.2 with h0 | h0 | h0
  · exact .inl h0
  · exact .inr (.inl h0)
  · exact .inr (.inr (h0.new hb))
theorem host_ne_int : (40 : TypeId) ≠ 3 := by decide
theorem PoolAt.other {B j c' n c : Nat} {w w' : World} {A A' : Option Addr} {P : List Hst} {ys : List Int} (h : PoolAt B w A n c P) (ho : Own 3 1 B w A' j c' ys) (hg : w.grownBy w' (Value.ownBlock (.slice A' j c'))) : PoolAt B w' A n c P := by
  rcases h.2 with h0 | ⟨b, o, hA, hb⟩ | h0
  · subst h0; exact ⟨IntsK.nil, .inl rfl⟩
  · refine ⟨Ints.apart h.1 hg (fun b' o' _ hA' e => ?_), .inr (.inl ⟨b, o, hA, hb⟩)⟩
    rw [hA] at hA'
    obtain ⟨rfl, rfl⟩ : b = b' ∧ o = o' := by simpa using hA'
    have := (World.ownsRow.lt ho b e).1
    omega
  · exact PoolAt.own (World.ownsRow.kept h0 hg (rows_apart host_ne_int h0 ho))
def lenOf : Value → Nat
  | .slice _ n _ => n
  | _ => 0
set_option maxRecDepth 100000 in
set_option maxHeartbeats 1000000 in
theorem rvOrder_impl (A : Option Addr) (n c : Nat) (hs : List Hst) (key : Int) (w : World) (hn : hs.length = n) (hm : n ≤ 1048576) (h : Ints w A (flat hs)) :
    Calls Try.prog 15 #[.slice A n c, .int .i64 key] w (RetRow 3 1 w (rvOrdZ hs key).length (rvOrdZ hs key)) := by
  obtain ⟨i0, hi, iz0, iz1, iz2⟩ := info_parts int_info
  obtain ⟨us, hus⟩ : ∃ us, us = rvOrdZ hs key := ⟨_, rfl⟩
  rw [← hus]
  have HU := Lib.hid hus
  have HN := Lib.hid hn
  clear hus hn
  go_enter Try.func15, Try.ntmps15
  go_wp2_with fail
  refine (rvHost_impl A n c hs key _ HN.out hm h).mono ?_
  rintro e w1 ⟨rfl, b1⟩
  go_wp2_with fail
  go_loopw [0, 5, 6] (fun pv v nx wr => ∃ (j f : Nat) (P : List Hst) (ys : List Int) (Ap : Option Addr) (cp : Nat) (A' : Option Addr) (c' : Nat), pv = .slice Ap n cp ∧ v = .slice A' j c' ∧ nx = .int .i64 (rvZ P key) ∧ Hid (P.length = n) ∧ Hid (ys.length = j) ∧ j + f = n ∧ j ≤ c' ∧ c' ≤ maxLen ∧ Hid (ys ++ ordF key f P = us) ∧ Hid ((ups P).length ≤ f) ∧ PoolAt w.heap.size wr Ap n cp P ∧ Own 3 1 w.heap.size wr A' j c' ys ∧ New w wr) (fun _ v _ _ => n - lenOf v)
  case atStart => exact ⟨0, n, hs, [], A, c, none, 0, rfl, rfl, rfl, HN, Lib.hid rfl, by omega, Nat.le_refl _, Nat.zero_le _, Lib.hid (by rw [HU.out, rvOrdZ, HN.out]; rfl), Lib.hid (by rw [← HN.out]; exact ups_len hs), (PoolAt.arg h).new b1, World.ownsRow_nil _ _ _ _, b1⟩
  case round =>
    obtain ⟨j, f, P, ys, Ap, cp, A', c', rfl, rfl, rfl, HP, HY, hjf, hjc, hcm, HE, HF, hpa, hown, hnew⟩ := hrel
    obtain ⟨Z, hZ⟩ : ∃ Z, rvZ P key = Z := ⟨_, rfl⟩
    have HZ := Lib.hid hZ
    rw [hZ]
    clear hZ
    by_cases hZ0 : 0 ≤ Z
    · have HL := Lib.hid (ups_less (hs := P) (key := key) (by rw [HZ.out]; exact hZ0))
      have hf : 0 < f := by have := HL.out; have := HF.out; omega
      obtain ⟨f, rfl⟩ : ∃ f', f = f' + 1 := ⟨f - 1, by omega⟩
      have HS := Lib.hid (ordF_step (key := key) (hs := P) (by rw [HZ.out]; omega) f)
      have hok := rv_ok (hs := P) (key := key) (by rw [HZ.out]; exact hZ0)
      rw [HZ.out] at hok
      have hl := setH_length hok
      rw [HP.out] at hl
      have SS := setState_impl Ap n cp P Z 0
      rw [hok, hl] at SS
      have HSS := Lib.hid SS
      have HPL := Lib.hid hl
      clear hok hl SS
      have bA := (New.refl wr).alloc (.cells #[.int .i64 Z] 3)
      have HO := Lib.hid (hown.new bA)
      have HB := Lib.hid (hnew.trans bA)
      have HPA := Lib.hid (hpa.new bA)
      clear bA hown hpa
      go_wp2_with (at_builtin; refine wpList_append_Own _ rfl (.tmp 15) (.tmp 17) 24 rfl w 3 i0 _ 1 8 Try.underlying24 hi iz0 iz1 iz2 rfl (by omega) (by omega) A' j c' ys rfl HO.out _ 1 1 [Z] rfl rfl (Ints.lit _ _ [Z] _ (by simp)) (by omega) (by omega) HB.out ?_; intro A2 c2 w2 e1 e2 o2 n2 g2; have HP2 := Lib.hid (HPA.out.other HO.out g2); clear g2)
      refine (HSS.out _ HP.out hm HP2.out.1).mono ?_
      rintro e w4 ⟨A4, c4, rfl, nc4, cm4, o4, b4⟩
      have o24 := o2.new b4
      have n4 := n2.trans b4
      clear o2
      go_wp2_with fail
      refine (rvHost_impl A4 n c4 (setH P Z 0) key _ HPL.out hm o4.ints).mono ?_
      rintro e w5 ⟨rfl, b5⟩
      have oP := (o4.less n2.le).new b5
      have o25 := o24.new b5
      have n5 := n4.trans b5
      clear o24 n4 o4
      go_wp2_with fail
      go_roundw
      case rel => exact ⟨j + 1, f, setH P Z 0, ys ++ [Z], A4, c4, A2, c2, rfl, rfl, rfl, HPL, Lib.hid (by rw [List.length_append, HY.out]; rfl), by omega, e1, e2, Lib.hid (by rw [← HE.out, HS.out, HZ.out]; simp), Lib.hid (by have := HL.out; rw [HZ.out] at this; have := HF.out; omega), PoolAt.own oP, o25, n5⟩
      case measure => simp [lenOf]; omega
    · have hZn : decide (0 ≤ Z) = false := by simp; omega
      have HT := Lib.hid (show ys = us by rw [← HE.out, ordF_stop (by rw [HZ.out]; omega) f, List.append_nil])
      go_wp2_with fail
      go_ret
      rw [← HT.out, HY.out]
      exact ⟨A', c', rfl, hjc, hcm, hown, hnew⟩
set_option maxRecDepth 100000 in
set_option maxHeartbeats 1000000 in
theorem rvOrder_spec (A : Option Addr) (n c : Nat) (hs : List Hst) (key : Int) (w : World) (hn : hs.length = n) (hnc : n ≤ c) (hA : A = none → c = 0) (hm : n ≤ 1048576) (h : Ints w A (flat hs)) :
    Calls Try.prog 13 #[.slice A n c, .int .i64 key] w (RetRow 3 1 w (rvOrdZ hs key).length (rvOrdZ hs key)) := by
  obtain ⟨i0, hi, iz0, iz1, iz2⟩ := info_parts int_info
  obtain ⟨j0, hj, jz0, jz1, jz2⟩ := info_parts host_info
  obtain ⟨us, hus⟩ : ∃ us, us = rvOrdZ hs key := ⟨_, rfl⟩
  rw [← hus]
  have HU := Lib.hid hus
  have HN := Lib.hid hn
  have hfl : Hid ((flat hs).length = n * 3) := Lib.hid (by rw [flat_len, hn])
  clear hus hn
  have b0 := (New.refl w).alloc (.cells #[] 3)
  have o0 : Own 3 1 w.heap.size (w.alloc (.cells #[] 3)) (some ⟨w.heap.size, 0, none⟩) 0 0 [] := World.ownsRow_lit w #[] 0 (Nat.le_refl _) (Nat.zero_le _) rfl
  have hs0 := World.size_alloc (w := w) (o := .cells #[] 3)
  have p0 : Own 40 3 w.heap.size ((w.alloc (.cells #[] 3)).alloc (.cells #[] 40)) (some ⟨w.heap.size + 1, 0, none⟩) 0 0 [] := by
    have := World.ownsRow_lit (e := 40) (size := 3) (base := w.heap.size) (w.alloc (.cells #[] 3)) #[] 0 (by rw [hs0]; omega) (Nat.zero_le _) rfl
    rw [hs0] at this
    exact this
  have b1 := b0.alloc (.cells #[] 40)
  have O0 := Lib.hid (o0.new ((New.refl _).alloc (.cells #[] 40)))
  have P0 := Lib.hid p0
  have B1 := Lib.hid b1
  have H1 := Lib.hid (h.new b1)
  clear b0 o0 hs0 p0 b1
  go_enter Try.func13, Try.ntmps13
  go_wp2_with (at_builtin; refine wpList_append_OwnAny _ rfl (.tmp 12) (.tmp 13) 26 rfl w 40 j0 _ 3 24 Try.underlying26 hj jz0 jz1 jz2 rfl (by omega) (by omega) _ 0 0 [] rfl P0.out A n c (flat hs) rfl hA hnc hfl.out H1.out (by omega) B1.out ?_; intro Ar cr w2 e1 e2 o2 n2 g2; simp only [Nat.zero_add, List.nil_append] at o2 e1 ⊢; have O2 := Lib.hid (World.ownsRow.kept O0.out g2 (rows_apart (fun e => host_ne_int e.symm) O0.out P0.out)); clear g2)
  go_loopw [6, 5, 7] (fun pv v kv wr => ∃ (j f : Nat) (P : List Hst) (ys : List Int) (Ap : Option Addr) (cp : Nat) (A' : Option Addr) (c' : Nat), pv = .slice Ap n cp ∧ v = .slice A' j c' ∧ kv = .int .i64 j ∧ Hid (P.length = n) ∧ Hid (ys.length = j) ∧ j + f = n ∧ j ≤ c' ∧ c' ≤ maxLen ∧ Hid (ys ++ ordF key f P = us) ∧ PoolAt w.heap.size wr Ap n cp P ∧ Own 3 1 w.heap.size wr A' j c' ys ∧ New w wr) (fun _ v _ _ => n - lenOf v)
  case atStart => exact ⟨0, n, hs, [], Ar, cr, _, 0, rfl, rfl, rfl, HN, Lib.hid rfl, by omega, Nat.le_refl _, Nat.zero_le _, Lib.hid (by rw [HU.out, rvOrdZ, HN.out]; rfl), PoolAt.own o2, O2.out, n2⟩
  case round =>
    obtain ⟨j, f, P, ys, Ap, cp, A', c', rfl, rfl, rfl, HP, HY, hjf, hjc, hcm, HE, hpa, hown, hnew⟩ := hrel
    by_cases hlt : j < n
    · have hji : (j : Int) < (n : Int) := by omega
      obtain ⟨f, rfl⟩ : ∃ f', f = f' + 1 := ⟨f - 1, by omega⟩
      obtain ⟨Z, hZ⟩ : ∃ Z, rvZ P key = Z := ⟨_, rfl⟩
      have HZ := Lib.hid hZ
      clear hZ
      go_wp2_with fail
      refine (rvHost_spec Ap n cp P key _ HP.out hm hpa.1).mono ?_
      rintro e w3 ⟨rfl, b3⟩
      rw [HZ.out]
      replace hown := hown.new b3
      replace hpa := hpa.new b3
      replace hnew := hnew.trans b3
      clear b3
      by_cases hZ0 : 0 ≤ Z
      · have hZn : decide (Z < 0) = false := by simp; omega
        have HS := Lib.hid (ordF_step (key := key) (hs := P) (by rw [HZ.out]; omega) f)
        have hok := rv_ok (hs := P) (key := key) (by rw [HZ.out]; exact hZ0)
        rw [HZ.out] at hok
        have hl := setH_length hok
        rw [HP.out] at hl
        have SS := setState_spec Ap n cp P Z 0
        rw [hok, hl] at SS
        have HSS := Lib.hid SS
        have HPL := Lib.hid hl
        clear hok hl SS
        have bA := (New.refl w3).alloc (.cells #[.int .i64 Z] 3)
        have HO := Lib.hid (hown.new bA)
        have HB := Lib.hid (hnew.trans bA)
        have HPA := Lib.hid (hpa.new bA)
        clear bA hown hpa
        go_wp2_with (at_builtin; refine wpList_append_Own _ rfl (.tmp 27) (.tmp 29) 24 rfl w 3 i0 _ 1 8 Try.underlying24 hi iz0 iz1 iz2 rfl (by omega) (by omega) A' j c' ys rfl HO.out _ 1 1 [Z] rfl rfl (Ints.lit _ _ [Z] _ (by simp)) (by omega) (by omega) HB.out ?_; intro A2 c2 w2 e1 e2 o2 n2 g2; have HP2 := Lib.hid (HPA.out.other HO.out g2); clear g2)
        refine (HSS.out _ HP.out hm HP2.out.1).mono ?_
        rintro e w4 ⟨A4, c4, rfl, nc4, cm4, o4, b4⟩
        have o24 := o2.new b4
        have n4 := n2.trans b4
        clear o2
        have oP := o4.less n2.le
        clear o4
        go_wp2_with fail
        go_roundw
        case rel => exact ⟨j + 1, f, setH P Z 0, ys ++ [Z], A4, c4, A2, c2, rfl, rfl, by go_num, HPL, Lib.hid (by rw [List.length_append, HY.out]; rfl), by omega, e1, e2, Lib.hid (by rw [← HE.out, HS.out, HZ.out]; simp), PoolAt.own oP, o24, n4⟩
        case measure => simp [lenOf]; omega
      · have hZn : decide (Z < 0) = true := by simp; omega
        have HT := Lib.hid (show ys = us by rw [← HE.out, ordF_stop (by rw [HZ.out]; omega) (f + 1), List.append_nil])
        go_wp2_with fail
        go_ret
        rw [← HT.out, HY.out]
        exact ⟨A', c', rfl, hjc, hcm, hown, hnew⟩
    · obtain rfl : j = n := by omega
      obtain rfl : f = 0 := by omega
      have HT := Lib.hid (show ys = us by rw [← HE.out]; simp [ordF])
      go_wp2_with fail
      go_ret
      rw [← HT.out, HY.out]
      exact ⟨A', c', rfl, hjc, hcm, hown, hnew⟩
end Go.Proofs.Ytpbpddggmlgkdaa
