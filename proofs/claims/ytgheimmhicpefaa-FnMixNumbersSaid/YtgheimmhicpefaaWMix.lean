/- The law FnMixNumbers. -/
import Derived.Test.YtgheimmhicpefaaDrawN
import Derived.Test.YtgheimmhicpefaaMix
import Derived.Test.YtgheimmhicpefaaFlow
import Derived.Test.YtgheimmhicpefaaWDrawP
namespace Go.Proofs.Ytgheimmhicpefaa
open Go.RowKit

theorem Own.shape0 {E : TypeId} {size B n : Nat} {w : World} {v : Value} {xs : List Value} (h : w.ownsRow B E size v n xs) : ∃ A c, v = .slice A n c ∧ n ≤ c ∧ c ≤ maxLen := by
  rcases h.2 with ⟨hv, h0⟩ | ⟨g, cap, cur, hv, hg, _, hnc, hcm, _⟩
  · subst h0
    exact ⟨none, 0, hv, Nat.le_refl _, Nat.zero_le _⟩
  · exact ⟨_, cap, hv, hnc, hcm⟩
theorem wpList_append_Own0 {P : Program} (w : World) {ops : Array Oper} {rest : List Oper} {o : Oper} {a : Act} {Q : Exit → Act → World → Prop} (hgd : o.guard = none) (s x : Operand) (t : TypeId)
    (ho : o.op = .call { callee := .builtin .append, args := #[s, x], argTypes := #[t, t] })
    (w0 : World) (e : TypeId) (i : TypeInfo) (z : Value) (size bytes : Nat) (ht : P.underlying t = some (.slice e)) (hi : P.info? e = some i) (hz : i.zero = some z)
    (hsize : i.size = size) (hby : i.bytes = bytes) (hzs : z.cells.size = size) (hsz : 0 < size) (hb100 : bytes ≤ 100)
    (A : Option Addr) (n c : Nat) (zs : List Int) (hs : a.eval s = .slice A n c) (hown : Own e size w0.heap.size w A n c zs)
    (ad : Addr) (m c2 : Nat) (news : List Int) (hx : a.eval x = .slice (some ad) m c2) (hl : news.length = m * size) (hnews : Ints w (some ad) news) (hn : n + m ≤ 16777216) (hnew : New w0 w)
    (h : ∀ A' c' w', n + m ≤ c' → c' ≤ maxLen → Own e size w0.heap.size w' A' (n + m) c' (zs ++ news) → New w0 w' → wpList P ops Q rest (a.put o.dst (.slice A' (n + m) c')) w') :
    wpList P ops Q (o :: rest) a w := by
  refine wpList_append_own w hgd s x t ho w0.heap.size e i z size bytes ht hi hz hsize hby hzs hsz _ n _ hs hown ad m c2 (news.map (Value.int .i64)) hx (by simpa using hl) (news_at hnews) (ints_oneCell _ _) (by unfold maxLen; omega) ?_ hnew.le ?_
  · calc (n + m) * bytes ≤ 16777216 * 100 := Nat.mul_le_mul hn hb100
      _ ≤ 140737488355328 := by omega
  · intro v' w' hown' hg _
    obtain ⟨A', c', rfl, h1, h2⟩ := Own.shape0 hown'
    refine h _ c' w' h1 h2 (by unfold Own; rw [List.map_append]; exact hown') (hnew.grown hg fun k hk => (World.ownsRow.lt hown k hk).1)
theorem mixZ_zero {ys : List Int} (h8 : ys.length < 8) (h : 0 ≤ mixZ ys) : mixZ (ys ++ [0]) = ((31 * mixZ ys + 17) % 1000003 * ((31 * mixZ ys + 17) % 1000003) + (31 * mixZ ys + 17) % 1000003 + 7) % 1000003 := by
  have hB : mixB ys = true := by
    cases hb : mixB ys
    · simp [mixZ, hb] at h
    · rfl
  have hall : ys.all okZ = true := by
    simp only [mixB, Bool.and_eq_true] at hB
    exact hB.2
  have e1 : mixZ ys = mixTo ys := by simp [mixZ, hB]
  have e2 : mixZ (ys ++ [0]) = mixTo (ys ++ [0]) := mixB_yes (by simp; omega) (by rw [List.all_append, hall]; simp [okZ, inB])
  rw [e1, e2]
  unfold mixTo
  rw [List.foldl_append]
  simp [mix1]
theorem mixZ_long {ys : List Int} (h : 0 ≤ mixZ ys) : ys.length ≤ 8 := by
  rcases Nat.lt_or_ge 8 ys.length with h8 | h8
  · rw [mixB_long h8] at h; omega
  · exact h8
set_option maxRecDepth 100000 in
set_option maxHeartbeats 2000000 in
theorem walk_FnMixNumbers (A : Option Addr) (n c : Nat) (zs : List Int) (w : World) (H : ArgInts .u8 w A n c 1 zs) :
    Calls Try.prog 4 #[.slice A n c] w fun e w' => e = .returned (.bool true) ∧ New w w' := by
  obtain ⟨i0, hi, iz0, iz1, iz2⟩ := info_parts int_info
  have hc := CodeArg.of H
  have hm := hc.2.1
  unfold maxLen at hm
  clear H
  by_cases hbig : 1048576 < n
  · go_enter Try.func4, Try.ntmps4
    go_wp2_with fail
    go_ret
    exact ⟨rfl, (by repeat (first | with_reducible assumption | with_reducible exact New.refl _ | with_reducible refine New.alloc ?_ _ | with_reducible refine New.drew ?_ | with_reducible refine New.drewN ?_ _ | refine New.setCell ?_ (by first | (simp; done) | omega | (simp; omega)) _ | with_reducible refine New.trans ?_ (by with_reducible assumption)))⟩
  go_enter Try.func4, Try.ntmps4
  go_wp2_with fail
  refine (DrawMixNumbers_any A n c zs _ hc).mono ?_
  rintro e w1 ⟨A', c', ys, rfl, l9, lc, cm, ⟨g, rfl⟩, hI, b1⟩
  obtain ⟨k, hk⟩ : ∃ k, ys.length = k := ⟨_, rfl⟩
  rw [hk] at l9 lc ⊢
  have HK := Lib.hid hk
  have hml : k ≤ maxLen := by unfold maxLen; omega
  obtain ⟨F, hF⟩ : ∃ F, mixZ ys = F := ⟨_, rfl⟩
  have HF := Lib.hid hF
  have hFb := mixZ_bd ys
  rw [hF] at hFb
  by_cases hF0 : 0 ≤ F
  · have hFn : decide (F < 0) = false := by simp; omega
    have hFd : decide (F ≤ 1000002) = true := by simp; omega
    have hlong := mixZ_long (ys := ys) (by rw [hF]; exact hF0)
    rw [hk] at hlong
    by_cases hk8 : k = 8
    · subst hk8
      clear hF hk hc
      go_wp2_with fail
      refine (mixNumbers_impl (some ⟨g, 0, none⟩) 8 c' ys _ HK.out hml hI).mono ?_
      rintro e w' ⟨rfl, rfl⟩
      rw [HF.out]
      go_wp2_with fail
      refine (mixNumbers_spec (some ⟨g, 0, none⟩) 8 c' ys _ HK.out hml hI).mono ?_
      rintro e w' ⟨rfl, rfl⟩
      rw [HF.out]
      go_wp2_with fail
      go_ret
      exact ⟨rfl, (by repeat (first | with_reducible assumption | with_reducible exact New.refl _ | with_reducible refine New.alloc ?_ _ | with_reducible refine New.drew ?_ | with_reducible refine New.drewN ?_ _ | refine New.setCell ?_ (by first | (simp; done) | omega | (simp; omega)) _ | with_reducible refine New.trans ?_ (by with_reducible assumption)))⟩
    · have hk8b : ((k : Int) == 8) = false := by simp; omega
      have hk7 : k < 8 := by omega
      obtain ⟨X, hX⟩ : ∃ X, (31 * F + 17) % 1000003 = X := ⟨_, rfl⟩
      have X0 : 0 ≤ X := by omega
      have X1 : X ≤ 1000002 := by omega
      obtain ⟨Y, hY⟩ : ∃ Y, X * X = Y := ⟨_, rfl⟩
      have hYb := sq_bd X0 X1
      rw [hY] at hYb
      have HZ := Lib.hid (show mixZ (ys ++ [0]) = (Y + X + 7) % 1000003 by rw [mixZ_zero (by rw [hk]; exact hk7) (by rw [hF]; exact hF0), hF, hX, hY])
      have F1 : F ≤ 1000002 := by omega
      clear hF hk hc
      go_wp2_with fail
      refine (mixNumbers_impl (some ⟨g, 0, none⟩) k c' ys _ HK.out hml hI).mono ?_
      rintro e w' ⟨rfl, rfl⟩
      rw [HF.out]
      go_wp2_with fail
      refine (mixNumbers_spec (some ⟨g, 0, none⟩) k c' ys _ HK.out hml hI).mono ?_
      rintro e w' ⟨rfl, rfl⟩
      rw [HF.out]
      have bA := (New.refl w1).alloc (.cells #[] 3)
      have oL : Own 3 1 w1.heap.size (w1.alloc (.cells #[] 3)) (some ⟨w1.heap.size, 0, none⟩) 0 0 [] := World.ownsRow_lit w1 #[] 0 (Nat.le_refl _) (Nat.zero_le _) rfl
      have OL := Lib.hid oL
      have HA := Lib.hid (hI.new bA)
      have BA := Lib.hid bA
      clear oL bA
      go_wp2_with (first | (at_builtin; refine wpList_unguard rfl ?_; refine wpList_append_Own0 _ rfl (.tmp 35) (.tmp 36) 30 rfl w1 3 i0 _ 1 8 Try.underlying30 hi iz0 iz1 iz2 rfl (by omega) (by omega) _ 0 0 _ rfl OL.out _ k c' ys rfl (by rw [HK.out]; omega) HA.out (by omega) BA.out ?_; intro A2 c2 w2 e1 e2 o2 n2; simp only [Nat.zero_add, List.nil_append] at o2 e1 ⊢; have HO2 := Lib.hid (o2.new ((New.refl w2).alloc (.cells #[.int .i64 0] 3))); have HB2 := Lib.hid (n2.trans ((New.refl w2).alloc (.cells #[.int .i64 0] 3))); clear o2) | (at_builtin; refine wpList_unguard rfl ?_; refine wpList_append_Own _ rfl (.tmp 37) (.tmp 38) 30 rfl w1 3 i0 _ 1 8 Try.underlying30 hi iz0 iz1 iz2 rfl (by omega) (by omega) A2 k c2 ys rfl HO2.out _ 1 1 [0] rfl rfl (Ints.lit _ _ [0] _ (by simp)) (by omega) (by omega) HB2.out ?_; intro A3 c3 w3 e3 e4 o3 n3 _))
      refine (mixNumbers_impl A3 (k + 1) c3 (ys ++ [0]) _ (by rw [List.length_append, HK.out]; rfl) (by unfold maxLen; omega) o3.ints).mono ?_
      rintro e w' ⟨rfl, rfl⟩
      rw [HZ.out]
      go_wp2_with fail
      go_ret
      exact ⟨rfl, b1.trans n3⟩
  · obtain rfl : F = -1 := by omega
    clear hF hk hc
    go_wp2_with fail
    refine (mixNumbers_impl (some ⟨g, 0, none⟩) k c' ys _ HK.out hml hI).mono ?_
    rintro e w' ⟨rfl, rfl⟩
    rw [HF.out]
    go_wp2_with fail
    refine (mixNumbers_spec (some ⟨g, 0, none⟩) k c' ys _ HK.out hml hI).mono ?_
    rintro e w' ⟨rfl, rfl⟩
    rw [HF.out]
    go_wp2_with fail
    refine (alive_any _).mono ?_
    rintro e w2 ⟨rfl, b2⟩
    go_wp2_with fail
    go_ret
    exact ⟨rfl, b1.trans b2⟩
end Go.Proofs.Ytgheimmhicpefaa
