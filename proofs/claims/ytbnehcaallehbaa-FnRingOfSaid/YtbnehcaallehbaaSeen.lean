/- A map of flows that the call has made: what is told of it, and what a store leaves. -/
import Derived.Test.YtbnehcaallehbaaTab
import Derived.Maps.Own
import Derived.DeepKeys4
namespace Go.Proofs.Ytbnehcaallehbaa
set_option linter.unusedVariables false
set_option linter.unusedSimpArgs false
open Go.RowKit Go.Sort Go.Maps Go.WideMaps Go.ChangeMaps

def flV (e : Ent) : Value := .agg #[.int .i64 e.a, .int .i64 e.b, .int .i64 e.c, .int .i64 e.d, .int .i64 e.k]
def flB (e : Ent) : Bool := flowB e.a e.b e.c e.d e.k
theorem flow_row : (48 : TypeId) < Try.prog.types.size := of_decide_eq_true (by kernel_rfl)
theorem flow_laid : laidOutB Try.prog = true := by kernel_rfl
theorem flow_law : KeyLaw Try.prog 48 := deep_law_laid flow_laid (m := 3) (by omega) flow_row (by kernel_rfl) (by kernel_rfl)
theorem flow_keyType : Try.prog.keyType 48 = true := by kernel_rfl
theorem flow_cells : Try.prog.cellsOf 48 = 5 := by kernel_rfl
theorem int_cells : Try.prog.cellsOf 3 = 1 := by kernel_rfl
theorem flow_size : ∃ m, Try.prog.types.size = m + 1 := ⟨Try.prog.types.size - 1, by kernel_rfl⟩
theorem bool_zero (w : World) : (zeroValue 4).run Try.prog w = .ok (.bool false) w := by kernel_rfl
theorem flB_wf {e : Ent} (h : flB e = true) : (Lit.int .i64 e.a).wf = true ∧ (Lit.int .i64 e.b).wf = true ∧ (Lit.int .i64 e.c).wf = true ∧ (Lit.int .i64 e.d).wf = true ∧ (Lit.int .i64 e.k).wf = true := by
  simp only [flB, flowB, Bool.and_eq_true, inB_true] at h
  exact ⟨WalkArith.wf_i64 (by omega), WalkArith.wf_i64 (by omega), WalkArith.wf_i64 (by omega), WalkArith.wf_i64 (by omega), WalkArith.wf_i64 (by omega)⟩
theorem keyOf_flow {e : Ent} (h : flB e = true) : ∃ l, keyOf Try.prog 48 (flV e) = some l := by
  obtain ⟨wa, wb, wc, wd, wk⟩ := flB_wf h
  obtain ⟨m, hm⟩ := flow_size
  unfold keyOf flV
  simp only [Try.underlying48]
  rw [if_pos (by simp [flow_keyType, Value.formed, Try.underlying48, flow_cells]), hm]
  unfold Program.keyLits
  simp only [Try.underlying48, Value.cells]
  rw [if_pos (by rw [flow_cells]; exact ⟨rfl, by simp⟩)]
  cases m with
  | zero => exact absurd hm (by intro h; exact absurd h (of_decide_eq_true (by kernel_rfl)))
  | succ m => simp [Program.keyLits, Try.underlying3, int_cells, wa, wb, wc, wd, wk]

/-- Block B is a map of the flows of l, each of them true. -/
def Seen (B : Nat) (w : World) (l : List Ent) : Prop := ∃ (es : Array MapEntry) (clock : Nat), w.heap[B]? = some (.map es clock) ∧ es.toList.map (fun x => x.key) = l.map flV ∧ ∀ x ∈ es.toList, x.val = .bool true
theorem Seen.lt {B : Nat} {w : World} {l : List Ent} (h : Seen B w l) : B < w.heap.size := by
  obtain ⟨es, clock, hb, _⟩ := h
  exact (Array.getElem?_eq_some_iff.1 hb).1
theorem Seen.new {B : Nat} {w w' : World} {l : List Ent} (h : Seen B w l) (hb : New w w') : Seen B w' l := by
  have hlt := h.lt
  obtain ⟨es, clock, h1, h2, h3⟩ := h
  exact ⟨es, clock, (Below.block hb B hlt).trans h1, h2, h3⟩
theorem Seen.made (w : World) : Seen w.heap.size (w.alloc (.map #[] 0)) [] := ⟨#[], 0, heap_alloc_new _ _, rfl, fun x hx => absurd hx (by simp)⟩
theorem flV_inj {x y : Ent} : flV x = flV y ↔ eqF x y.a y.b y.c y.d y.k = true := by
  rw [eqF_true]
  simp [flV]
theorem Seen.keys {l : List Ent} (hl : ∀ y ∈ l, flB y = true) {es : Array MapEntry} (hk : es.toList.map (fun x => x.key) = l.map flV) : ∀ e ∈ es.toList, ∃ q, keyOf Try.prog 48 e.key = some q := by
  intro e he
  have hm : e.key ∈ es.toList.map (fun x => x.key) := List.mem_map.2 ⟨e, he, rfl⟩
  rw [hk] at hm
  obtain ⟨y, hy, hye⟩ := List.mem_map.1 hm
  rw [← hye]
  exact keyOf_flow (hl y hy)
theorem Seen.look {B : Nat} {w : World} {l : List Ent} (h : Seen B w l) (hl : ∀ y ∈ l, flB y = true) {x : Ent} (hx : flB x = true) {bb : Bool} (hbb : (l.any fun y => eqF y x.a x.b x.c x.d x.k) = bb) :
    (Instr.lookup 90 (.map (some B)) (flV x) false).run Try.prog w = .ok (.bool bb) w := by
  obtain ⟨es, clock, hb, hk, hv⟩ := h
  obtain ⟨q, hq⟩ := keyOf_flow hx
  rcases flow_law.find w hq es.toList (Seen.keys hl hk) with ⟨h1, h2⟩ | ⟨j, e0, h1, h2, h3⟩
  · have hno : bb = false := by
      rw [← hbb, List.any_eq_false]
      intro y hy hq
      have hm : flV y ∈ es.toList.map (fun x => x.key) := by rw [hk]; exact List.mem_map.2 ⟨y, hy, rfl⟩
      obtain ⟨e, he, hee⟩ := List.mem_map.1 hm
      exact h2 e he (hee.trans (flV_inj.2 hq))
    subst hno
    simp [Instr.lookup, run_underlying Try.underlying90, MapKept.run_getObj_map hb, flow_law.check w _ hq, h1, bool_zero, Result.andThen]
  · have hyes : bb = true := by
      have hm : e0.key ∈ es.toList.map (fun x => x.key) := List.mem_map.2 ⟨e0, List.mem_of_getElem? h2, rfl⟩
      rw [hk] at hm
      obtain ⟨y, hy, hye⟩ := List.mem_map.1 hm
      rw [← hbb, List.any_eq_true]
      exact ⟨y, hy, flV_inj.1 (hye.trans h3)⟩
    subst hyes
    have hve := hv e0 (List.mem_of_getElem? h2)
    simp [Instr.lookup, run_underlying Try.underlying90, MapKept.run_getObj_map hb, flow_law.check w _ hq, h1, hve, Result.andThen]
theorem Seen.put {B : Nat} {w : World} {l : List Ent} (h : Seen B w l) (hl : ∀ y ∈ l, flB y = true) {x : Ent} (hx : flB x = true) (hno : (l.any fun y => eqF y x.a x.b x.c x.d x.k) = false) :
    ∃ w', (Instr.mapUpdate 90 (.map (some B)) (flV x) (.bool true)).run Try.prog w = .ok () w' ∧ Seen B w' (l ++ [x]) ∧ w.grownBy w' (some B) := by
  obtain ⟨es, clock, hb, hk, hv⟩ := h
  obtain ⟨q, hq⟩ := keyOf_flow hx
  rcases flow_law.find w hq es.toList (Seen.keys hl hk) with ⟨h1, h2⟩ | ⟨j, e0, h1, h2, h3⟩
  · refine ⟨setBlock w B (.map (es.push ⟨flV x, .bool true, clock⟩) (clock + 1)), ?_, ⟨_, _, heap_setBlock_same hb _, ?_, ?_⟩, ⟨rfl, rfl, rfl, by simp [setBlock], fun i _ hi => heap_setBlock_other hb _ (fun e => hi (by rw [e]))⟩⟩
    · simp [Instr.mapUpdate, run_underlying Try.underlying90, MapKept.run_getObj_map hb, flow_law.check w _ hq, h1, MapKept.run_setObj_map _ hb, Result.andThen, setBlock]
    · simp [hk]
    · intro y hy
      simp only [Array.toList_push, List.mem_append, List.mem_singleton] at hy
      rcases hy with hy | rfl
      · exact hv y hy
      · rfl
  · exfalso
    have hm : e0.key ∈ es.toList.map (fun x => x.key) := List.mem_map.2 ⟨e0, List.mem_of_getElem? h2, rfl⟩
    rw [hk] at hm
    obtain ⟨y, hy, hye⟩ := List.mem_map.1 hm
    rw [List.any_eq_false] at hno
    exact hno y hy (flV_inj.1 (hye.trans h3))
end Go.Proofs.Ytbnehcaallehbaa
