/- Turns: the reference's own. -/
import Derived.Test.YtbnehcaallehbaaTurns
import Derived.ArgAppend
namespace Go.Proofs.Ytbnehcaallehbaa
set_option linter.unusedVariables false
set_option linter.unusedSimpArgs false
open Go.RowKit Go.Sort

theorem l4Up_any (A : Option Addr) (n c : Nat) (hs : List Hst) (w : World) (hn : hs.length = n) (hm : n ≤ 1048576) (h : Ints w A (flat hs)) :
    Calls Try.prog 84 #[.slice A n c] w (RetRow 64 3 w (ups hs).length (flat (ups hs))) := by
  obtain ⟨i0, hi, hz0, hz1, hz2⟩ := info_parts host_info
  have HN := Lib.hid hn
  clear hn
  have b0 := (New.refl w).alloc (.cells #[] 64)
  have o0 : Own 64 3 w.heap.size (w.alloc (.cells #[] 64)) (some ⟨w.heap.size, 0, none⟩) 0 0 [] := World.ownsRow_lit w #[] 0 (Nat.le_refl _) (Nat.zero_le _) rfl
  have O0 := Lib.hid o0
  have B0 := Lib.hid b0
  clear b0 o0
  go_enter Try.func84, Try.ntmps84
  go_wp2_with fail
  go_loopw [3, 4] (fun v i wr => ∃ (k : Nat) (A' : Option Addr) (m c' : Nat), k ≤ n ∧ i = .int .i64 k ∧ v = .slice A' m c' ∧ m ≤ k ∧ m ≤ c' ∧ c' ≤ maxLen ∧ Hid (m = (ups (hs.take k)).length) ∧ Own 64 3 w.heap.size wr A' m c' (flat (ups (hs.take k))) ∧ New w wr) (fun _ i _ => n - (intOf i).toNat)
  case atStart => exact ⟨0, _, 0, 0, Nat.zero_le _, rfl, rfl, Nat.le_refl _, Nat.le_refl _, Nat.zero_le _, Lib.hid rfl, O0.out, B0.out⟩
  case round =>
    obtain ⟨k, A', m, c', hk, rfl, rfl, hmk, hmc, hcm, HM, hown, hnew⟩ := hrel
    by_cases hlt : k < n
    · obtain ⟨b, o, x, rfl, hx, hb, c0, c1, c2⟩ := hosts_at (h.new hnew) (k := k) (by rw [HN.out]; exact hlt)
      have HX := Lib.hid (ups_take hx)
      obtain ⟨x0, x1, x2⟩ := x
      simp only at c0 c1 c2 HX
      clear hx
      have hki : (k : Int) < (n : Int) := by omega
      by_cases hup : x2 = 1
      · subst hup
        have b1 := (New.refl wr).alloc (.cells #[.int .i64 x0, .int .i64 x1, .int .i64 1] 64)
        have HO := Lib.hid (hown.new b1)
        have HB := Lib.hid (hnew.trans b1)
        clear b1 hown
        go_wp2_with (at_builtin; refine wpList_append_Own _ rfl (.tmp 18) (.tmp 23) 23 rfl w 64 i0 _ 3 24 Try.underlying23 hi hz0 hz1 hz2 rfl (by omega) (by omega) A' m c' _ rfl HO.out _ 1 1 [x0, x1, 1] rfl rfl (Ints.lit _ _ [x0, x1, 1] _ (by simp)) (by omega) (by omega) HB.out ?_; intro A2 c2' w2 h1 h2 hown2 hnew2 _)
        go_roundw
        case rel =>
          refine ⟨k + 1, A2, m + 1, c2', by omega, by go_num, rfl, by omega, h1, h2, Lib.hid (by rw [HX.out, List.length_append, ← HM.out]; rfl), ?_, hnew2⟩
          rw [HX.out, flat_append]
          exact hown2
        case measure => simp [intOf]; omega
      · have hup' : (x2 == 1) = false := by simpa using hup
        go_wp2_with fail
        go_roundw
        case rel =>
          refine ⟨k + 1, A', m, c', by omega, by go_num, rfl, by omega, hmc, hcm, Lib.hid (by rw [HX.out, hup', HM.out]; simp), ?_, hnew⟩
          rw [HX.out, hup']
          simpa using hown
        case measure => simp [intOf]; omega
    · obtain rfl : k = n := by omega
      have HE := Lib.hid (show hs.take k = hs from List.take_of_length_le (by rw [HN.out]; exact Nat.le_refl _))
      go_wp2_with fail
      go_ret
      have hM := HM.out
      rw [HE.out] at hM hown
      subst hM
      exact ⟨A', c', rfl, hmc, hcm, hown, hnew⟩
/-- A row that is the call's own from B on, or a literal one without room. -/
def OutAt (B : Nat) (w : World) (A : Option Addr) (n c : Nat) (zs : List Int) : Prop := Own 3 1 B w A n c zs ∨ (n = 0 ∧ c = 0 ∧ zs = [] ∧ A ≠ none)
theorem OutAt.new {B n c : Nat} {w w' : World} {A : Option Addr} {zs : List Int} (h : OutAt B w A n c zs) (hb : New w w') : OutAt B w' A n c zs := h.elim (fun h => .inl (h.new hb)) .inr
theorem OutAt.setLow {B n c : Nat} {w : World} {A : Option Addr} {zs : List Int} (h : OutAt B w A n c zs) {p : Addr} (hp : p.block < B) (u : Value) : OutAt B (w.setCell p u) A n c zs := h.elim (fun h => .inl (h.setLow hp u)) .inr
theorem OutAt.own {B n c : Nat} {w : World} {A : Option Addr} {zs : List Int} (h : OutAt B w A n c zs) (hn : 0 < n) : Own 3 1 B w A n c zs := h.elim id fun h => absurd h.1 (by omega)
theorem wpList_append_OutB {P : Program} (w : World) {ops : Array Oper} {rest : List Oper} {o : Oper} {a : Act} {Q : Exit → Act → World → Prop} (hgd : o.guard = none) (s x : Operand) (t : TypeId)
    (ho : o.op = .call { callee := .builtin .append, args := #[s, x], argTypes := #[t, t] })
    (w0 : World) (B : Nat) (i : TypeInfo) (z : Value) (bytes : Nat) (ht : P.underlying t = some (.slice 3)) (hi : P.info? 3 = some i) (hz : i.zero = some z)
    (hsize : i.size = 1) (hby : i.bytes = bytes) (hzs : z.cells.size = 1) (hb100 : bytes ≤ 100)
    (A : Option Addr) (n c : Nat) (zs : List Int) (hs : a.eval s = .slice A n c) (hout : OutAt B w A n c zs)
    (ad : Addr) (c2 : Nat) (nw : Int) (hx : a.eval x = .slice (some ad) 1 c2) (hnews : Ints w (some ad) [nw]) (hn : n + 1 ≤ 16777216) (hB : w0.heap.size ≤ B) (hBw : B ≤ w.heap.size) (hnew : New w0 w)
    (h : ∀ A' c' w', n + 1 ≤ c' → c' ≤ maxLen → Own 3 1 B w' A' (n + 1) c' (zs ++ [nw]) → New w0 w' → w.heap.size ≤ w'.heap.size → (∀ (E : TypeId) (size B' n2 c3 G : Nat) (ys : List Int), G < B → Own E size B' w (some ⟨G, 0, none⟩) n2 c3 ys → Own E size B' w' (some ⟨G, 0, none⟩) n2 c3 ys) → wpList P ops Q rest (a.put o.dst (.slice A' (n + 1) c')) w') :
    wpList P ops Q (o :: rest) a w := by
  rcases hout with hown | ⟨rfl, rfl, rfl, hA⟩
  · refine wpList_append_OwnB w hgd s x t ho w0 B _ i z 1 bytes ht hi hz hsize hby hzs (by omega) hb100 A n c zs hs hown ad 1 c2 [nw] hx rfl hnews (by omega) hn hB hBw hnew ?_
    intro A' c' w' e1 e2 o2 n2 g2
    exact h A' c' w' e1 e2 o2 n2 g2.size fun E size B' n2 c3 G ys hG hO => hO.keepLow hG hown g2
  · refine wpList_append_grows w hgd s x t ho _ i z 1 bytes ht hi hz hsize hby hzs (by omega) A 0 0 [] hs (fun e => absurd e hA) rfl (fun _ _ j u hu => by simp at hu) ad 1 c2 ([nw].map (Value.int .i64)) hx rfl (news_at hnews) (ints_oneCell _ _) (by omega) (by unfold maxLen; omega) (by omega) ?_
    intro v' w' hown' hg
    obtain ⟨g, c', rfl, h1, h2, _⟩ := Own.shape hown' (by omega)
    have ho' : Own 3 1 w.heap.size w' (some ⟨g, 0, none⟩) (0 + 1) c' [nw] := hown'
    exact h _ c' w' h1 h2 (ho'.less hBw) (hnew.grown hg (fun k hk => by cases hk)) hg.size fun E size B' n2 c3 G ys hG hO => World.ownsRow.kept hO hg (.inr (by simp [Value.ownBlock]))
end Go.Proofs.Ytbnehcaallehbaa
