/- Arguments opened: structs and slices of structs all of whose cells are integers. -/
import Derived.Test.YtbnehcaallehbaaBase
import Derived.ProofKit
import Derived.Lib.SmallJoins
import Derived.Deep.Slices
import Derived.Deep.Fields
namespace Go.Proofs.Ytbnehcaallehbaa
set_option linter.unusedVariables false
set_option linter.unusedSimpArgs false
open Go.RowKit Go.ChangeShapes Go.WideShapes Go.Joins Go.Deep

/-- Wherever a value of type t is read, each of its cells is an integer. -/
def AllInts (P : Program) (t : TypeId) : Prop :=
  ∀ (H : Type) (enc : TypeId × Value → H) (w : World) (base : Nat) (spare : Nat → Bool) (held : Bool) (fuel : Nat) (cs : List Value) (x : DataW H × List MemPlace),
    DataW.trod enc P w base spare held fuel t cs = some x → ∀ c ∈ cs, ∃ n, c = .int .i64 n ∧ (Lit.int .i64 n).wf = true

theorem allInts_int {P : Program} {t : TypeId} (ht : P.underlying t = some (.int .i64)) : AllInts P t := by
  intro H enc w base spare held fuel cs x h c hc
  obtain ⟨n, rfl, _, hw⟩ := DataW.trod_int ht h
  simp at hc
  exact ⟨n, hc, hw⟩

/-- Every cell of t lies in one of its fields. -/
def coverB (P : Program) (t : TypeId) (fs : Array Field) : Bool := (List.range (P.cellsOf t)).all fun i => fs.any fun f => decide (f.offset ≤ i) && decide (i < f.offset + P.cellsOf f.type)

theorem allInts_struct {P : Program} {t : TypeId} {fs : Array Field} (ht : P.underlying t = some (.struct fs)) (hcov : coverB P t fs = true) (hfs : ∀ f ∈ fs, AllInts P f.type) : AllInts P t := by
  intro H enc w base spare held fuel cs x h c hc
  obtain ⟨xs, n, _, _, hlen, hxl, hf⟩ := DataW.trod_struct ht h
  obtain ⟨i, hi, rfl⟩ := List.getElem_of_mem hc
  simp only [coverB, List.all_eq_true, List.mem_range] at hcov
  have h1 := hcov i (by omega)
  obtain ⟨f, hfm, h2⟩ := Array.any_eq_true'.1 h1
  simp only [Bool.and_eq_true, decide_eq_true_eq] at h2
  obtain ⟨j, hj, rfl⟩ := Array.getElem_of_mem hfm
  have h3 := hf j fs[j] (by simp [hj])
  have hx : ∃ y, xs[j]? = some y := ⟨xs[j]'(by omega), by simp⟩
  obtain ⟨y, hy⟩ := hx
  rw [hy] at h3
  refine hfs fs[j] hfm H enc w base spare held n _ y h3 _ ?_
  rw [List.mem_take_iff_getElem]
  exact ⟨i - fs[j].offset, by simp; omega, by simp [List.getElem_drop, Nat.add_sub_cancel' h2.1]⟩

theorem ints_of {cs : List Value} (h : ∀ c ∈ cs, ∃ n, c = .int .i64 n ∧ (Lit.int .i64 n).wf = true) : ∃ zs : List Int, cs = zs.map (Value.int .i64) ∧ ∀ z ∈ zs, (Lit.int .i64 z).wf = true := by
  induction cs with
  | nil => exact ⟨[], rfl, by simp⟩
  | cons c cs ih =>
    obtain ⟨n, rfl, hn⟩ := h c (by simp)
    obtain ⟨zs, rfl, hz⟩ := ih fun c hc => h c (by simp [hc])
    exact ⟨n :: zs, rfl, by simpa using ⟨hn, hz⟩⟩

section
variable {H : Type} {enc : TypeId × Value → H} {P : Program} {w : World}

theorem open_intStructs {t e : TypeId} {size fuel : Nat} {a : Option Addr} {len cap : Nat} {x : DataW H × List MemPlace} (ht : P.underlying t = some (.slice e)) (hC : P.cellsOf e = size) (hall : AllInts P e)
    (h : DataW.trod enc P w 0 (fun _ => true) true fuel t [.slice a len cap] = some x) : ∃ zs, ArgInts .i64 w a len cap size zs := by
  rcases open_slice ht h with ⟨hcs, _⟩ | ⟨ad, len', cap', m, n, D, Pl, hcs, _, hl, hm, hmm, _, hi⟩
  · simp at hcs
    obtain ⟨rfl, rfl, rfl⟩ := hcs
    exact ⟨[], ArgInts.nil⟩
  · simp at hcs
    obtain ⟨rfl, rfl, rfl⟩ := hcs
    simp only [if_true] at hmm
    subst hmm
    rw [hC] at hi
    -- the integers of element i
    have each : ∀ i, ∃ zs : List Int, i < len → zs.length = size ∧ (∀ z ∈ zs, (Lit.int .i64 z).wf = true) ∧ ∀ j, j < size → w.cell? (ad.add (i * size + j)) = some (.int .i64 (zs.getD j 0)) := by
      intro i
      by_cases hil : i < len
      · obtain ⟨cs', hc, htr⟩ := hi i (by omega)
        obtain ⟨_, hcl, hat⟩ := World.cells?_some hc
        obtain ⟨zs, rfl, hz⟩ := ints_of (hall H enc w 0 _ true n cs' _ htr)
        refine ⟨zs, fun _ => ⟨by simpa using hcl, hz, fun j hj => ?_⟩⟩
        have h1 := hat j hj
        rw [Go.Deep.add_add] at h1
        rw [h1]
        have hjz : j < zs.length := by simp at hcl; omega
        simp [hjz, List.getD_eq_getElem?_getD]
      · exact ⟨[], fun h => absurd h hil⟩
    let Z : Nat → List Int := fun i => Classical.choose (each i)
    have hZ : ∀ i, i < len → (Z i).length = size ∧ (∀ z ∈ Z i, (Lit.int .i64 z).wf = true) ∧ ∀ j, j < size → w.cell? (ad.add (i * size + j)) = some (.int .i64 ((Z i).getD j 0)) := fun i hi => Classical.choose_spec (each i) hi
    -- all integers
    have all : ∀ m, m ≤ len → ∃ zs : List Int, zs.length = m * size ∧ (∀ z ∈ zs, (Lit.int .i64 z).wf = true) ∧ ∀ j, j < m * size → w.cell? (ad.add j) = some (.int .i64 (zs.getD j 0)) := by
      intro m
      induction m with
      | zero => intro _; exact ⟨[], by simp, by simp, fun j hj => absurd hj (by simp)⟩
      | succ m ih =>
        intro hm'
        obtain ⟨zs, h1, h2, h3⟩ := ih (by omega)
        obtain ⟨g1, g2, g3⟩ := hZ m (by omega)
        have hms : (m + 1) * size = m * size + size := by rw [Nat.add_mul, Nat.one_mul]
        refine ⟨zs ++ Z m, by rw [List.length_append, h1, g1, hms], fun z hz => (List.mem_append.1 hz).elim (h2 z) (g2 z), fun j hj => ?_⟩
        by_cases hj' : j < m * size
        · rw [h3 j hj']
          simp [List.getD_eq_getElem?_getD, List.getElem?_append_left (show j < zs.length by omega)]
        · have e := g3 (j - m * size) (by omega)
          rw [show m * size + (j - m * size) = j from by omega] at e
          rw [e]
          simp [List.getD_eq_getElem?_getD, List.getElem?_append_right (show zs.length ≤ j by omega), h1]
    obtain ⟨zs, h1, h2, h3⟩ := all len (Nat.le_refl _)
    refine ⟨zs, hl, hm, h1, h2, fun hn => ?_⟩
    obtain ⟨b, o, spot⟩ := ad
    have h0 := h3 0 (by omega)
    have hspot : spot = none := by simpa [Addr.add] using World.cell?_spot h0
    subst hspot
    refine ⟨b, o, rfl, fun j hj => ?_⟩
    have := h3 j (by omega)
    rwa [add_plain'] at this

theorem open_flow {t : TypeId} {fs : Array Field} {v : Value} {d : DataW H} {p : List MemPlace} {r : Reach} {b0 : Nat} (ht : P.underlying t = some (.struct fs)) (hC : P.cellsOf t = 5) (hall : AllInts P t)
    (hv : Value.okWide P w r b0 t v) (h : DataW.Trod enc P w 0 (fun _ => true) true t v d p) :
    ∃ a b c e k : Int, v = .agg #[.int .i64 a, .int .i64 b, .int .i64 c, .int .i64 e, .int .i64 k] ∧ ((Lit.int .i64 a).wf = true ∧ (Lit.int .i64 b).wf = true ∧ (Lit.int .i64 c).wf = true ∧ (Lit.int .i64 e).wf = true ∧ (Lit.int .i64 k).wf = true) := by
  obtain ⟨cs, rfl, hsz⟩ := okWide_struct ht hv
  obtain ⟨l⟩ := cs
  obtain ⟨fuel, hf⟩ := h
  have hl : l.length = 5 := hsz.trans hC
  obtain ⟨zs, he, hz⟩ := ints_of (hall H enc w 0 _ true fuel l _ (by simpa [Value.cells] using hf))
  subst he
  match zs, hl, hz with
  | [a, b, c, e, k], _, hz => exact ⟨a, b, c, e, k, rfl, by simpa using hz⟩
end
end Go.Proofs.Ytbnehcaallehbaa
