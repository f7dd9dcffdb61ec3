/- A map of numbers to rows that the call has made: what is told of it, and what a store leaves. -/
import Derived.Test.YtbnehcaallehbaaSlotP
import Derived.Test.YtbnehcaallehbaaQb
import Derived.Test.YtbnehcaallehbaaDraw
import Derived.Maps.Keyed
import Derived.Maps.Own
namespace Go.Proofs.Ytbnehcaallehbaa
set_option linter.unusedVariables false
set_option linter.unusedSimpArgs false
open Go.RowKit Go.Sort Go.Maps Go.WideMaps Go.ChangeMaps

theorem int_keys : Keyed Try.prog 3 := int_keyed Try.underlying3
theorem keyOf_num {z : Int} (h : okN z) : ∃ l, keyOf Try.prog 3 (.int .i64 z) = some l := by
  have hb := inB_true.1 h
  have hw : (Lit.int .i64 z).wf = true := WalkArith.wf_i64 (by omega)
  exact ⟨.int .i64 z, by simp [keyOf, Try.underlying3, mapKey, hw]⟩
theorem row_zero (w : World) : (zeroValue 51).run Try.prog w = .ok (.slice none 0 0) w := by kernel_rfl
/-- Block B is a map with the entries of l. -/
def Mapped (B : Nat) (w : World) (l : List (Int × Value)) : Prop := ∃ (es : Array MapEntry) (clock : Nat), w.heap[B]? = some (.map es clock) ∧ es.toList.map (fun e => (e.key, e.val)) = l.map fun p => (Value.int .i64 p.1, p.2)
theorem Mapped.lt {B : Nat} {w : World} {l : List (Int × Value)} (h : Mapped B w l) : B < w.heap.size := by
  obtain ⟨es, clock, hb, _⟩ := h
  exact (Array.getElem?_eq_some_iff.1 hb).1
theorem Mapped.new {B : Nat} {w w' : World} {l : List (Int × Value)} (h : Mapped B w l) (hb : New w w') : Mapped B w' l := by
  have hlt := h.lt
  obtain ⟨es, clock, h1, h2⟩ := h
  exact ⟨es, clock, (Below.block hb B hlt).trans h1, h2⟩
theorem Mapped.set {B : Nat} {w : World} {l : List (Int × Value)} (h : Mapped B w l) {p : Addr} (hp : B ≠ p.block) (u : Value) : Mapped B (w.setCell p u) l := by
  obtain ⟨es, clock, h1, h2⟩ := h
  exact ⟨es, clock, (Below.heap_setCell _ _ _ _ hp).trans h1, h2⟩
theorem Mapped.made (w : World) : Mapped w.heap.size (w.alloc (.map #[] 0)) [] := ⟨#[], 0, heap_alloc_new _ _, rfl⟩
theorem Mapped.at_ {es : Array MapEntry} {l : List (Int × Value)} (h : es.toList.map (fun e => (e.key, e.val)) = l.map fun p => (Value.int .i64 p.1, p.2)) {j : Nat} {e : MapEntry} (he : es.toList[j]? = some e) : ∃ p, l[j]? = some p ∧ e.key = .int .i64 p.1 ∧ e.val = p.2 := by
  have h1 : (es.toList.map fun e => (e.key, e.val))[j]? = some (e.key, e.val) := by rw [List.getElem?_map, he]; rfl
  rw [h, List.getElem?_map] at h1
  rcases hp : l[j]? with _ | p
  · rw [hp] at h1; cases h1
  · rw [hp] at h1
    have h2 := Option.some.inj h1
    exact ⟨p, rfl, (congrArg Prod.fst h2).symm, (congrArg Prod.snd h2).symm⟩
theorem Mapped.keys {es : Array MapEntry} {l : List (Int × Value)} (h : es.toList.map (fun e => (e.key, e.val)) = l.map fun p => (Value.int .i64 p.1, p.2)) (hl : ∀ p ∈ l, okN p.1) : ∀ e ∈ es.toList, ∃ q, keyOf Try.prog 3 e.key = some q := by
  intro e he
  obtain ⟨j, hj, rfl⟩ := List.getElem_of_mem he
  obtain ⟨p, hp, hk, _⟩ := Mapped.at_ h (List.getElem?_eq_getElem hj)
  rw [hk]
  exact keyOf_num (hl p (List.mem_of_getElem? hp))
theorem key_apart {l : List (Int × Value)} (hn : l.Pairwise fun a b => a.1 ≠ b.1) {i j : Nat} {p q : Int × Value} (hi : l[i]? = some p) (hj : l[j]? = some q) (he : p.1 = q.1) : i = j := by
  obtain ⟨hi', rfl⟩ := List.getElem?_eq_some_iff.1 hi
  obtain ⟨hj', rfl⟩ := List.getElem?_eq_some_iff.1 hj
  rcases Nat.lt_trichotomy i j with h | h | h
  · exact absurd he (List.pairwise_iff_getElem.1 hn i j hi' hj' h)
  · exact h
  · exact absurd he.symm (List.pairwise_iff_getElem.1 hn j i hj' hi' h)
theorem Mapped.look {B : Nat} {w : World} {l : List (Int × Value)} (h : Mapped B w l) (hl : ∀ p ∈ l, okN p.1) (hn : l.Pairwise fun a b => a.1 ≠ b.1) {j : Nat} {z : Int} {v : Value} (hj : l[j]? = some (z, v)) :
    (Instr.lookup 98 (.map (some B)) (.int .i64 z) false).run Try.prog w = .ok v w := by
  obtain ⟨es, clock, hb, hk⟩ := h
  obtain ⟨q, hq⟩ := keyOf_num (hl _ (List.mem_of_getElem? hj))
  rcases int_keys.find w hq es.toList (Mapped.keys hk hl) with ⟨h1, h2⟩ | ⟨i, e0, h1, h2, h3⟩
  · exfalso
    have hlen : es.toList.length = l.length := by have := congrArg List.length hk; simpa using this
    have hjl : j < es.toList.length := by rw [hlen]; exact (List.getElem?_eq_some_iff.1 hj).1
    obtain ⟨p, hp, hkey, _⟩ := Mapped.at_ hk (List.getElem?_eq_getElem hjl)
    obtain rfl := Option.some.inj (hp.symm.trans hj)
    exact h2 _ (List.getElem_mem hjl) hkey
  · obtain ⟨p, hp, hkey, hval⟩ := Mapped.at_ hk h2
    have hz : p.1 = z := by rw [hkey] at h3; injection h3
    obtain rfl := key_apart hn hp hj hz
    obtain rfl := Option.some.inj (hp.symm.trans hj)
    simp only at hval
    subst hval
    simp [Instr.lookup, run_underlying Try.underlying98, MapKept.run_getObj_map hb, int_keys.check w _ hq, h1, Result.andThen]
theorem Mapped.put {B : Nat} {w : World} {l : List (Int × Value)} (h : Mapped B w l) (hl : ∀ p ∈ l, okN p.1) (hn : l.Pairwise fun a b => a.1 ≠ b.1) {j : Nat} {z : Int} {v : Value} (hj : l[j]? = some (z, v)) (v' : Value) :
    ∃ w', (Instr.mapUpdate 98 (.map (some B)) (.int .i64 z) v').run Try.prog w = .ok () w' ∧ Mapped B w' (l.set j (z, v')) ∧ w.grownBy w' (some B) := by
  obtain ⟨es, clock, hb, hk⟩ := h
  obtain ⟨q, hq⟩ := keyOf_num (hl _ (List.mem_of_getElem? hj))
  have hlen : es.toList.length = l.length := by have := congrArg List.length hk; simpa using this
  rcases int_keys.find w hq es.toList (Mapped.keys hk hl) with ⟨h1, h2⟩ | ⟨i, e0, h1, h2, h3⟩
  · exfalso
    have hjl : j < es.toList.length := by rw [hlen]; exact (List.getElem?_eq_some_iff.1 hj).1
    obtain ⟨p, hp, hkey, _⟩ := Mapped.at_ hk (List.getElem?_eq_getElem hjl)
    obtain rfl := Option.some.inj (hp.symm.trans hj)
    exact h2 _ (List.getElem_mem hjl) hkey
  · obtain ⟨p, hp, hkey, hval⟩ := Mapped.at_ hk h2
    have hz : p.1 = z := by rw [hkey] at h3; injection h3
    obtain rfl := key_apart hn hp hj hz
    have h2' : es[i]? = some e0 := by rw [← Array.getElem?_toList]; exact h2
    have hgd : (es[i]?.map fun e => e.key).getD (.int .i64 z) = .int .i64 z := by rw [h2']; exact h3
    refine ⟨setBlock w B (.map (es.modify i fun e => { e with key := .int .i64 z, val := v' }) clock), ?_, ⟨_, _, heap_setBlock_same hb _, ?_⟩, ⟨rfl, rfl, rfl, by simp [setBlock], fun k _ hk => heap_setBlock_other hb _ (fun e => hk (by rw [e]))⟩⟩
    · simp [Instr.mapUpdate, run_underlying Try.underlying98, MapKept.run_getObj_map hb, int_keys.check w _ hq, h1, hgd, int_keys.stays w hq, MapKept.run_setObj_map _ hb, Result.andThen, setBlock]
    · apply List.ext_getElem?
      intro k
      rw [List.getElem?_map, List.getElem?_map, List.getElem?_set, Array.getElem?_toList, Array.getElem?_modify]
      by_cases hik : i = k
      · subst hik
        have hil : i < l.length := (List.getElem?_eq_some_iff.1 hj).1
        rw [if_pos rfl, if_pos rfl, if_pos hil, h2']
        rfl
      · rw [if_neg hik, if_neg hik, ← Array.getElem?_toList, ← List.getElem?_map, hk, List.getElem?_map]
theorem Mapped.push {B : Nat} {w : World} {l : List (Int × Value)} (h : Mapped B w l) (hl : ∀ p ∈ l, okN p.1) {z : Int} (hz : okN z) (hno : ∀ p ∈ l, p.1 ≠ z) (v : Value) :
    ∃ w', (Instr.mapUpdate 98 (.map (some B)) (.int .i64 z) v).run Try.prog w = .ok () w' ∧ Mapped B w' (l ++ [(z, v)]) ∧ w.grownBy w' (some B) := by
  obtain ⟨es, clock, hb, hk⟩ := h
  obtain ⟨q, hq⟩ := keyOf_num hz
  rcases int_keys.find w hq es.toList (Mapped.keys hk hl) with ⟨h1, h2⟩ | ⟨i, e0, h1, h2, h3⟩
  · refine ⟨setBlock w B (.map (es.push ⟨.int .i64 z, v, clock⟩) (clock + 1)), ?_, ⟨_, _, heap_setBlock_same hb _, ?_⟩, ⟨rfl, rfl, rfl, by simp [setBlock], fun i _ hi => heap_setBlock_other hb _ (fun e => hi (by rw [e]))⟩⟩
    · simp [Instr.mapUpdate, run_underlying Try.underlying98, MapKept.run_getObj_map hb, int_keys.check w _ hq, h1, MapKept.run_setObj_map _ hb, Result.andThen, setBlock]
    · simp [hk]
  · exfalso
    obtain ⟨p, hp, hkey, _⟩ := Mapped.at_ hk h2
    rw [hkey] at h3
    injection h3 with _ h3
    exact hno p (List.mem_of_getElem? hp) h3
end Go.Proofs.Ytbnehcaallehbaa
