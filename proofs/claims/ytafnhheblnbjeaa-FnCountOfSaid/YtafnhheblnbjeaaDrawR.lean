/- Rows that a drawing function appends to; the draw of a list of numbers. -/
import Derived.Test.YtafnhheblnbjeaaDraw
import Derived.Test.YtafnhheblnbjeaaOwn
namespace Go.Proofs.Ytafnhheblnbjeaa
open Go.RowKit

theorem Own.gb {E : TypeId} {size B n c R : Nat} {w w' : World} {A : Option Addr} {zs : List Int} (h : Own E size B w A n c zs) (hg : w.grownBy w' (some R)) (hR : R < B) : Own E size B w' A n c zs := by
  refine World.ownsRow.kept h hg ?_
  cases hv : Value.ownBlock (.slice A n c) with
  | none => exact .inl rfl
  | some g =>
    have := (World.ownsRow.lt h g hv).1
    exact .inr (by simp; omega)
theorem RdAt.app {w w' : World} {R : Nat} {A : Option Addr} {n c : Nat} {zs : List Int} {p : Nat} (h : RdAt w R A n c zs p) {E : TypeId} {size B m c' : Nat} {A' : Option Addr} {ys : List Int} (ho : Own E size B w A' m c' ys) (hR : R < B) (hg : w.grownBy w' (Value.ownBlock (.slice A' m c'))) : RdAt w' R A n c zs p := by
  refine h.kept hg (fun e => ?_) fun b o hl hA e => ?_
  · have := (World.ownsRow.lt ho R e).1
    omega
  · have h1 := (World.ownsRow.lt ho b e).1
    have h2 := h.2.2.2.2.2 b o hl hA
    omega
theorem gb_app {a w w' : World} {R : Nat} (h : a.grownBy w (some R)) {E : TypeId} {size m c' : Nat} {A' : Option Addr} {ys : List Int} (ho : Own E size a.heap.size w A' m c' ys) (hg : w.grownBy w' (Value.ownBlock (.slice A' m c'))) : a.grownBy w' (some R) :=
  ⟨hg.os.trans h.os, hg.tape.trans h.tape, hg.output.trans h.output, Nat.le_trans h.size hg.size, fun i hi hn => (hg.block i (Nat.lt_of_lt_of_le hi h.size) (fun e => by
    have := (World.ownsRow.lt ho i e.symm).1
    omega)).trans (h.block i hi hn)⟩
theorem Own.less {E : TypeId} {size B B' n c : Nat} {w : World} {A : Option Addr} {zs : List Int} (h : Own E size B w A n c zs) (hB : B' ≤ B) : Own E size B' w A n c zs := by
  refine ⟨h.1, ?_⟩
  rcases h.2 with hz | ⟨g, cap, cur, hv, hg, rest⟩
  · exact .inl hz
  · exact .inr ⟨g, cap, cur, hv, Nat.le_trans hB hg, rest⟩

theorem Own.plain {E : TypeId} {size B n c : Nat} {w : World} {A : Option Addr} {zs : List Int} (h : Own E size B w A n c zs) : A = none ∨ ∃ g, A = some ⟨g, 0, none⟩ := by
  rcases h.2 with ⟨hv, _⟩ | ⟨g, cap, cur, hv, _⟩
  · exact .inl (by simpa using (congrArg (fun v => match v with | .slice A _ _ => A | _ => none) hv))
  · exact .inr ⟨g, by simpa using (congrArg (fun v => match v with | .slice A _ _ => A | _ => none) hv)⟩

/-- 'out = append(out, ..)' of m elements onto a row of one's own, while a reader lies open. -/
theorem wpList_append_Rd {P : Program} (w : World) {ops : Array Oper} {rest : List Oper} {o : Oper} {a : Act} {Q : Exit → Act → World → Prop} (hgd : o.guard = none) (s x : Operand) (t : TypeId)
    (ho : o.op = .call { callee := .builtin .append, args := #[s, x], argTypes := #[t, t] })
    (a0 : World) (e : TypeId) (i : TypeInfo) (z : Value) (size bytes : Nat) (ht : P.underlying t = some (.slice e)) (hi : P.info? e = some i) (hz : i.zero = some z)
    (hsize : i.size = size) (hby : i.bytes = bytes) (hzs : z.cells.size = size) (hsz : 0 < size) (hb100 : bytes ≤ 100)
    (A : Option Addr) (n c : Nat) (zs : List Int) (hs : a.eval s = .slice A n c) (hown : Own e size a0.heap.size w A n c zs)
    (ad : Addr) (m c2 : Nat) (news : List Int) (hx : a.eval x = .slice (some ad) m c2) (hl : news.length = m * size) (hnews : Ints w (some ad) news) (hm : 0 < m) (hn : n + m ≤ 16777216)
    {R nb cb p : Nat} {Ab : Option Addr} {zb : List Int} (hr : RdAt w R Ab nb cb zb p) (hR : R < a0.heap.size) (hg0 : a0.grownBy w (some R))
    (h : ∀ A' c' w', n + m ≤ c' → c' ≤ maxLen → Own e size a0.heap.size w' A' (n + m) c' (zs ++ news) → RdAt w' R Ab nb cb zb p → a0.grownBy w' (some R) → wpList P ops Q rest (a.put o.dst (.slice A' (n + m) c')) w') :
    wpList P ops Q (o :: rest) a w := by
  refine wpList_append_own w hgd s x t ho a0.heap.size e i z size bytes ht hi hz hsize hby hzs hsz _ n _ hs hown ad m c2 (news.map (Value.int .i64)) hx (by simpa using hl) (news_at hnews) (ints_oneCell _ _) (by unfold maxLen; omega) ?_ hg0.size ?_
  · calc (n + m) * bytes ≤ 16777216 * 100 := Nat.mul_le_mul hn hb100
      _ ≤ 140737488355328 := by omega
  · intro v' w' hown' hg _
    obtain ⟨g, c', rfl, h1, h2, _⟩ := Own.shape hown' (by omega)
    exact h _ c' w' h1 h2 (by unfold Own; rw [List.map_append]; exact hown') (hr.app hown hR hg) (gb_app hg0 hown hg)

/-- A drawn list of numbers and a drawn number. -/
def CountDrawn (w : World) (e : Ending) (w' : World) : Prop :=
  ∃ A' c' x, ∃ ys : List Int, e = .returned (.tuple #[.slice A' ys.length c', .int .i64 x]) ∧ ys.length ≤ 8 ∧ ys.length ≤ c' ∧ c' ≤ maxLen ∧ (A' = none ∨ ∃ g, A' = some ⟨g, 0, none⟩) ∧ Ints w' A' ys ∧ 0 ≤ x ∧ x ≤ 4 ∧ New w w'
set_option maxRecDepth 100000 in
theorem DrawCountOf_any (A : Option Addr) (n c : Nat) (zs : List Int) (w : World) (h : CodeArg w A n c zs) : Calls Try.prog 30 #[.slice A n c] w (CountDrawn w) := by
  obtain ⟨i0, hi, hz0, hz1, hz2⟩ := info_parts int_info
  go_enter Try.func30, Try.ntmps30
  go_wp2_with fail
  refine (open_code h).mono ?_
  rintro e w1 ⟨rfl, h1, b1⟩
  have hlt1 := h1.lt
  go_wp2_with fail
  have b0 := (New.refl w1).alloc (.cells #[] 3)
  have o0 : Own 3 1 w1.heap.size (w1.alloc (.cells #[] 3)) (some ⟨w1.heap.size, 0, none⟩) 0 0 [] := World.ownsRow_lit w1 #[] 0 (Nat.le_refl _) (Nat.zero_le _) rfl
  refine (pick_any w.heap.size A _ c _ 0 9 _ (h1.new b0) (by omega) (by omega)).mono ?_
  rintro e w2 ⟨k0, rfl, k00, k01, h2, g2⟩
  have o2 := o0.gb g2 hlt1
  have G2 := gb_trans (new_gbR w.heap.size b0) g2
  obtain ⟨K, rfl⟩ := Int.eq_ofNat_of_zero_le k00
  have hK : K ≤ 8 := by have := k01 (by omega); omega
  clear b0 o0 g2 k00 k01 h h1
  go_wp2_with fail
  go_loopw [5, 6] (fun v i wr => ∃ (m : Nat) (A' : Option Addr) (c' : Nat) (ys : List Int) (n' q : Nat), m ≤ 8 ∧ i = .int .i64 m ∧ v = .slice A' n' c' ∧ Hid (n' = ys.length) ∧ n' + m ≤ 8 ∧ n' ≤ c' ∧ c' ≤ maxLen ∧ q + m ≤ 10 ∧ Own 3 1 w1.heap.size wr A' n' c' ys ∧ RdAt wr w.heap.size A (min n 2000) c (zs.take 2000) q ∧ w1.grownBy wr (some w.heap.size)) (fun _ i _ => (intOf i).toNat)
  case atStart => exact ⟨K, _, _, [], 0, 1, hK, rfl, rfl, Lib.hid rfl, by omega, Nat.le_refl _, Nat.zero_le _, by omega, o2, h2, G2⟩
  case round =>
    obtain ⟨m, A', c', ys, n', q, hm8, rfl, rfl, HL, hnm, hnc, hcm, hq, ho, hr, hg⟩ := hrel
    clear o2 h2 G2
    by_cases hm0 : 0 < m
    · go_wp2_with fail
      refine (pick_any w.heap.size A _ c _ q 4 _ hr (by omega) (by omega)).mono ?_
      rintro e w3 ⟨x, rfl, x0, x1, h3, g3⟩
      have bA := (New.refl w3).alloc (.cells #[.int .i64 x] 3)
      have HO := Lib.hid ((ho.gb g3 hlt1).new bA)
      have HR := Lib.hid (h3.new bA)
      have HG := Lib.hid (gb_new (gb_trans hg g3) bA)
      clear ho hr hg g3 h3 bA x1
      go_wp2_with (at_builtin; refine wpList_append_Rd _ rfl (.tmp 16) (.tmp 19) 31 rfl w1 3 i0 _ 1 8 Try.underlying31 hi hz0 hz1 hz2 rfl (by omega) (by omega) A' n' c' _ rfl HO.out _ 1 1 [x] rfl rfl (Ints.lit _ _ [_] _ (by simp)) (by omega) (by omega) HR.out hlt1 HG.out ?_; intro A2 c2 w4 e1 e2 o4 h4 G4)
      go_roundw
      case rel => exact ⟨m - 1, A2, c2, _, n' + 1, q + 1, by omega, by go_num, rfl, Lib.hid (by rw [HL.out]; simp), by omega, e1, e2, by omega, o4, h4, G4⟩
      case measure => simp [intOf]; omega
    · obtain rfl : m = 0 := by omega
      go_wp2_with fail
      refine (pick_any w.heap.size A _ c _ q 5 _ hr (by omega) (by omega)).mono ?_
      rintro e w3 ⟨x, rfl, x0, x1, h3, g3⟩
      have o3 := ho.gb g3 hlt1
      have hN : New w w3 := new_gb b1 (gb_trans hg g3) (Nat.le_refl _)
      clear ho hr hg g3 h3
      go_wp2_with fail
      go_ret2
      exact ⟨A', c', x, ys, by rw [← HL.out]; rfl, by have := HL.out; omega, by have := HL.out; omega, hcm, o3.plain, o3.ints, x0, by have := x1 (by omega); omega, hN⟩
end Go.Proofs.Ytafnhheblnbjeaa
