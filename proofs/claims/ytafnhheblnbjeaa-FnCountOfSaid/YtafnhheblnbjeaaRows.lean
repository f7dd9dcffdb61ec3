/-
  No cell of these rows narrows 'for every input' (looked for: loops, veiled, ifaces, maps, wideKeys, modest, calm, conditions, laid).
  DERIVED. THE GIVEN ROWS OF THIS SEAT. 12 by the template 'for every input the law returns true; each argument reads behind the call as it read before'; 0 by the template 'total and deterministic' (their statements: YtafnhheblnbjeaaTotals.lean).
  GIVEN WITH THE SEED: the statements are not yours to turn. If you find one false, say at which input.
  Laid BY PROGRAM, IN A SANDBOX (cutbox-rows.mjs): the forced cells as the released guide's own fill.sh prints them over the translation 01d823fd44f8734c… (all of the seat's roots in one cut). By AI agents, Wed Nov 11 2026. No macro, syntax, notation, axiom, sorry.
-/
import Derived.Test.YtafnhheblnbjeaaChecked
import GoSem.Claim
import GoSem.ClaimJoined
import GoSem.ClaimMapViews
import Derived.JoinedTies
import Derived.KernelRfl
namespace Go.Proofs.Ytafnhheblnbjeaa
/- THE CELL 'sum', in the pinned program and in every row, IS THE sha256 OF THE DUMP (.gsa) THAT YtafnhheblnbjeaaProg.lean LOADS. Nothing in Lean hashes anything: it is a label: what it is worth is what the hold of that sum in a sandbox is worth. -/
noncomputable def Try.pinned : Pinned := { name := "ytafnhheblnbjeaa", sum := "01d823fd44f8734c9ca4848bdfcaf253acc2ea6b9c07f95fc648b40d966926bf", checked := Try.checked }
namespace Rows
def none {H : Type} : Left H := { results := [], args := [] }

/-- 'laws.FnExactConstants': WHATEVER THE INPUT: true; the input reads as it did. -/
def fnExactConstantsSpec : ChangeSpec := { name := "fnExactConstants", fn := fun _ => fun
  | [] => { results := [.lit (.bool true)], args := [] }
  | _ => none }
def fnExactConstantsRow : OpenClaim := { program := "ytafnhheblnbjeaa", sum := "01d823fd44f8734c9ca4848bdfcaf253acc2ea6b9c07f95fc648b40d966926bf", func := "loop.example/loadbalancer/laws.FnExactConstants", spec := "fnExactConstants", apart := false }
def FnExactConstantsSaid : Prop := fnExactConstantsRow.holds Try.pinned (OpenSpec.ofChange fnExactConstantsSpec)

/-- ITS FALSE NEIGHBOUR: 'it returns false'. Refute it at one input. -/
def fnExactConstantsWrong : ChangeSpec := { name := "fnExactConstants", fn := fun _ => fun
  | [] => { results := [.lit (.bool false)], args := [] }
  | _ => none }
def FnExactConstantsWrongFalsely : Prop := fnExactConstantsRow.holds Try.pinned (OpenSpec.ofChange fnExactConstantsWrong)

/-- 'laws.FnExactStayOf': WHATEVER THE INPUT: true; the input reads as it did. -/
def fnExactStayOfSpec : ChangeSpec := { name := "fnExactStayOf", fn := fun _ => fun
  | [d] => { results := [.lit (.bool true)], args := [d] }
  | _ => none }
def fnExactStayOfRow : OpenClaim := { program := "ytafnhheblnbjeaa", sum := "01d823fd44f8734c9ca4848bdfcaf253acc2ea6b9c07f95fc648b40d966926bf", func := "loop.example/loadbalancer/laws.FnExactStayOf", spec := "fnExactStayOf", apart := false }
def FnExactStayOfSaid : Prop := fnExactStayOfRow.holds Try.pinned (OpenSpec.ofChange fnExactStayOfSpec)

/-- ITS FALSE NEIGHBOUR: 'it returns false'. Refute it at one input. -/
def fnExactStayOfWrong : ChangeSpec := { name := "fnExactStayOf", fn := fun _ => fun
  | [d] => { results := [.lit (.bool false)], args := [d] }
  | _ => none }
def FnExactStayOfWrongFalsely : Prop := fnExactStayOfRow.holds Try.pinned (OpenSpec.ofChange fnExactStayOfWrong)

/-- 'laws.FnExactFlowValid': WHATEVER THE INPUT: true; the input reads as it did. -/
def fnExactFlowValidSpec : ChangeSpec := { name := "fnExactFlowValid", fn := fun _ => fun
  | [d] => { results := [.lit (.bool true)], args := [d] }
  | _ => none }
def fnExactFlowValidRow : OpenClaim := { program := "ytafnhheblnbjeaa", sum := "01d823fd44f8734c9ca4848bdfcaf253acc2ea6b9c07f95fc648b40d966926bf", func := "loop.example/loadbalancer/laws.FnExactFlowValid", spec := "fnExactFlowValid", apart := false }
def FnExactFlowValidSaid : Prop := fnExactFlowValidRow.holds Try.pinned (OpenSpec.ofChange fnExactFlowValidSpec)

/-- ITS FALSE NEIGHBOUR: 'it returns false'. Refute it at one input. -/
def fnExactFlowValidWrong : ChangeSpec := { name := "fnExactFlowValid", fn := fun _ => fun
  | [d] => { results := [.lit (.bool false)], args := [d] }
  | _ => none }
def FnExactFlowValidWrongFalsely : Prop := fnExactFlowValidRow.holds Try.pinned (OpenSpec.ofChange fnExactFlowValidWrong)

/-- 'laws.FnExactSlotHost': WHATEVER THE INPUT: true; the input reads as it did. -/
def fnExactSlotHostSpec : ChangeSpec := { name := "fnExactSlotHost", fn := fun _ => fun
  | [d1, d2] => { results := [.lit (.bool true)], args := [d1, d2] }
  | _ => none }
def fnExactSlotHostRow : OpenClaim := { program := "ytafnhheblnbjeaa", sum := "01d823fd44f8734c9ca4848bdfcaf253acc2ea6b9c07f95fc648b40d966926bf", func := "loop.example/loadbalancer/laws.FnExactSlotHost", spec := "fnExactSlotHost", apart := false }
def FnExactSlotHostSaid : Prop := fnExactSlotHostRow.holds Try.pinned (OpenSpec.ofChange fnExactSlotHostSpec)

/-- ITS FALSE NEIGHBOUR: 'it returns false'. Refute it at one input. -/
def fnExactSlotHostWrong : ChangeSpec := { name := "fnExactSlotHost", fn := fun _ => fun
  | [d1, d2] => { results := [.lit (.bool false)], args := [d1, d2] }
  | _ => none }
def FnExactSlotHostWrongFalsely : Prop := fnExactSlotHostRow.holds Try.pinned (OpenSpec.ofChange fnExactSlotHostWrong)

/-- 'laws.FnExactCountOf': WHATEVER THE INPUT: true; the input reads as it did. -/
def fnExactCountOfSpec : ChangeSpec := { name := "fnExactCountOf", fn := fun _ => fun
  | [d1, d2] => { results := [.lit (.bool true)], args := [d1, d2] }
  | _ => none }
def fnExactCountOfRow : OpenClaim := { program := "ytafnhheblnbjeaa", sum := "01d823fd44f8734c9ca4848bdfcaf253acc2ea6b9c07f95fc648b40d966926bf", func := "loop.example/loadbalancer/laws.FnExactCountOf", spec := "fnExactCountOf", apart := false }
def FnExactCountOfSaid : Prop := fnExactCountOfRow.holds Try.pinned (OpenSpec.ofChange fnExactCountOfSpec)

/-- ITS FALSE NEIGHBOUR: 'it returns false'. Refute it at one input. -/
def fnExactCountOfWrong : ChangeSpec := { name := "fnExactCountOf", fn := fun _ => fun
  | [d1, d2] => { results := [.lit (.bool false)], args := [d1, d2] }
  | _ => none }
def FnExactCountOfWrongFalsely : Prop := fnExactCountOfRow.holds Try.pinned (OpenSpec.ofChange fnExactCountOfWrong)

/-- 'laws.FnExactMovedSlots': WHATEVER THE INPUT: true; the input reads as it did. -/
def fnExactMovedSlotsSpec : ChangeSpec := { name := "fnExactMovedSlots", fn := fun _ => fun
  | [d1, d2] => { results := [.lit (.bool true)], args := [d1, d2] }
  | _ => none }
def fnExactMovedSlotsRow : OpenClaim := { program := "ytafnhheblnbjeaa", sum := "01d823fd44f8734c9ca4848bdfcaf253acc2ea6b9c07f95fc648b40d966926bf", func := "loop.example/loadbalancer/laws.FnExactMovedSlots", spec := "fnExactMovedSlots", apart := false }
def FnExactMovedSlotsSaid : Prop := fnExactMovedSlotsRow.holds Try.pinned (OpenSpec.ofChange fnExactMovedSlotsSpec)

/-- ITS FALSE NEIGHBOUR: 'it returns false'. Refute it at one input. -/
def fnExactMovedSlotsWrong : ChangeSpec := { name := "fnExactMovedSlots", fn := fun _ => fun
  | [d1, d2] => { results := [.lit (.bool false)], args := [d1, d2] }
  | _ => none }
def FnExactMovedSlotsWrongFalsely : Prop := fnExactMovedSlotsRow.holds Try.pinned (OpenSpec.ofChange fnExactMovedSlotsWrong)

/-- 'laws.FnExactMixNumbers': WHATEVER THE INPUT: true; the input reads as it did. -/
def fnExactMixNumbersSpec : ChangeSpec := { name := "fnExactMixNumbers", fn := fun _ => fun
  | [d] => { results := [.lit (.bool true)], args := [d] }
  | _ => none }
def fnExactMixNumbersRow : OpenClaim := { program := "ytafnhheblnbjeaa", sum := "01d823fd44f8734c9ca4848bdfcaf253acc2ea6b9c07f95fc648b40d966926bf", func := "loop.example/loadbalancer/laws.FnExactMixNumbers", spec := "fnExactMixNumbers", apart := false }
def FnExactMixNumbersSaid : Prop := fnExactMixNumbersRow.holds Try.pinned (OpenSpec.ofChange fnExactMixNumbersSpec)

/-- ITS FALSE NEIGHBOUR: 'it returns false'. Refute it at one input. -/
def fnExactMixNumbersWrong : ChangeSpec := { name := "fnExactMixNumbers", fn := fun _ => fun
  | [d] => { results := [.lit (.bool false)], args := [d] }
  | _ => none }
def FnExactMixNumbersWrongFalsely : Prop := fnExactMixNumbersRow.holds Try.pinned (OpenSpec.ofChange fnExactMixNumbersWrong)

/-- 'laws.FnCountOf': WHATEVER THE INPUT: true; the input reads as it did. -/
def fnCountOfSpec : ChangeSpec := { name := "fnCountOf", fn := fun _ => fun
  | [d] => { results := [.lit (.bool true)], args := [d] }
  | _ => none }
def fnCountOfRow : OpenClaim := { program := "ytafnhheblnbjeaa", sum := "01d823fd44f8734c9ca4848bdfcaf253acc2ea6b9c07f95fc648b40d966926bf", func := "loop.example/loadbalancer/laws.FnCountOf", spec := "fnCountOf", apart := false }
def FnCountOfSaid : Prop := fnCountOfRow.holds Try.pinned (OpenSpec.ofChange fnCountOfSpec)

/-- ITS FALSE NEIGHBOUR: 'it returns false'. Refute it at one input. -/
def fnCountOfWrong : ChangeSpec := { name := "fnCountOf", fn := fun _ => fun
  | [d] => { results := [.lit (.bool false)], args := [d] }
  | _ => none }
def FnCountOfWrongFalsely : Prop := fnCountOfRow.holds Try.pinned (OpenSpec.ofChange fnCountOfWrong)

/-- 'laws.FnExactTurnFlow': WHATEVER THE INPUT: true; the input reads as it did. -/
def fnExactTurnFlowSpec : ChangeSpec := { name := "fnExactTurnFlow", fn := fun _ => fun
  | [d] => { results := [.lit (.bool true)], args := [d] }
  | _ => none }
def fnExactTurnFlowRow : OpenClaim := { program := "ytafnhheblnbjeaa", sum := "01d823fd44f8734c9ca4848bdfcaf253acc2ea6b9c07f95fc648b40d966926bf", func := "loop.example/loadbalancer/laws.FnExactTurnFlow", spec := "fnExactTurnFlow", apart := false }
def FnExactTurnFlowSaid : Prop := fnExactTurnFlowRow.holds Try.pinned (OpenSpec.ofChange fnExactTurnFlowSpec)

/-- ITS FALSE NEIGHBOUR: 'it returns false'. Refute it at one input. -/
def fnExactTurnFlowWrong : ChangeSpec := { name := "fnExactTurnFlow", fn := fun _ => fun
  | [d] => { results := [.lit (.bool false)], args := [d] }
  | _ => none }
def FnExactTurnFlowWrongFalsely : Prop := fnExactTurnFlowRow.holds Try.pinned (OpenSpec.ofChange fnExactTurnFlowWrong)

/-- 'laws.FnFlowValid': WHATEVER THE INPUT: true; the input reads as it did. -/
def fnFlowValidSpec : ChangeSpec := { name := "fnFlowValid", fn := fun _ => fun
  | [d] => { results := [.lit (.bool true)], args := [d] }
  | _ => none }
def fnFlowValidRow : OpenClaim := { program := "ytafnhheblnbjeaa", sum := "01d823fd44f8734c9ca4848bdfcaf253acc2ea6b9c07f95fc648b40d966926bf", func := "loop.example/loadbalancer/laws.FnFlowValid", spec := "fnFlowValid", apart := false }
def FnFlowValidSaid : Prop := fnFlowValidRow.holds Try.pinned (OpenSpec.ofChange fnFlowValidSpec)

/-- ITS FALSE NEIGHBOUR: 'it returns false'. Refute it at one input. -/
def fnFlowValidWrong : ChangeSpec := { name := "fnFlowValid", fn := fun _ => fun
  | [d] => { results := [.lit (.bool false)], args := [d] }
  | _ => none }
def FnFlowValidWrongFalsely : Prop := fnFlowValidRow.holds Try.pinned (OpenSpec.ofChange fnFlowValidWrong)

/-- 'laws.FnExactJumpBucket': WHATEVER THE INPUT: true; the input reads as it did. -/
def fnExactJumpBucketSpec : ChangeSpec := { name := "fnExactJumpBucket", fn := fun _ => fun
  | [d1, d2] => { results := [.lit (.bool true)], args := [d1, d2] }
  | _ => none }
def fnExactJumpBucketRow : OpenClaim := { program := "ytafnhheblnbjeaa", sum := "01d823fd44f8734c9ca4848bdfcaf253acc2ea6b9c07f95fc648b40d966926bf", func := "loop.example/loadbalancer/laws.FnExactJumpBucket", spec := "fnExactJumpBucket", apart := false }
def FnExactJumpBucketSaid : Prop := fnExactJumpBucketRow.holds Try.pinned (OpenSpec.ofChange fnExactJumpBucketSpec)

/-- ITS FALSE NEIGHBOUR: 'it returns false'. Refute it at one input. -/
def fnExactJumpBucketWrong : ChangeSpec := { name := "fnExactJumpBucket", fn := fun _ => fun
  | [d1, d2] => { results := [.lit (.bool false)], args := [d1, d2] }
  | _ => none }
def FnExactJumpBucketWrongFalsely : Prop := fnExactJumpBucketRow.holds Try.pinned (OpenSpec.ofChange fnExactJumpBucketWrong)

/-- 'laws.FnExactFlowHash': WHATEVER THE INPUT: true; the input reads as it did. -/
def fnExactFlowHashSpec : ChangeSpec := { name := "fnExactFlowHash", fn := fun _ => fun
  | [d] => { results := [.lit (.bool true)], args := [d] }
  | _ => none }
def fnExactFlowHashRow : OpenClaim := { program := "ytafnhheblnbjeaa", sum := "01d823fd44f8734c9ca4848bdfcaf253acc2ea6b9c07f95fc648b40d966926bf", func := "loop.example/loadbalancer/laws.FnExactFlowHash", spec := "fnExactFlowHash", apart := false }
def FnExactFlowHashSaid : Prop := fnExactFlowHashRow.holds Try.pinned (OpenSpec.ofChange fnExactFlowHashSpec)

/-- ITS FALSE NEIGHBOUR: 'it returns false'. Refute it at one input. -/
def fnExactFlowHashWrong : ChangeSpec := { name := "fnExactFlowHash", fn := fun _ => fun
  | [d] => { results := [.lit (.bool false)], args := [d] }
  | _ => none }
def FnExactFlowHashWrongFalsely : Prop := fnExactFlowHashRow.holds Try.pinned (OpenSpec.ofChange fnExactFlowHashWrong)

/- THE SECOND FORM. 'bulk': how many values and letters a reading holds, each counted each time it is reached (what is shared counts as often as it is met; a slice's spare places count too). A statement '..UptoSaid' is the law's where the arguments, and the package variables that the reading takes, are together of bulk at most 1048576: NARROWER than '..Said'. Prove '..Said' where nothing that the law and all that it calls make is longer than what came in: it says more and counts as full. Else prove '..UptoSaid'. A law counts once. -/
mutual
def uptoBulk {H : Type} : DataW H → Nat
  | .lit (.string bytes) => bytes.length + 1
  | .lit _ => 1
  | .nil => 1
  | .ptr d => uptoBulk d + 1
  | .slice elems spare => uptoBulkAll elems + uptoBulkAll spare + 1
  | .agg parts => uptoBulkAll parts + 1
  | .iface _ d => uptoBulk d + 1
  | .map entries => uptoBulkEntries entries + 1
  | .held _ => 1
def uptoBulkAll {H : Type} : List (DataW H) → Nat
  | [] => 0
  | d :: r => uptoBulk d + uptoBulkAll r
def uptoBulkEntries {H : Type} : List (Lit × DataW H) → Nat
  | [] => 0
  | x :: r => uptoBulkEntry x + uptoBulkEntries r
def uptoBulkEntry {H : Type} : Lit × DataW H → Nat
  | (.string bytes, d) => bytes.length + uptoBulk d + 1
  | (_, d) => uptoBulk d + 1
 end
def uptoSmall : (H : Type) → List (DataW H) → Bool := fun _ ds => decide (uptoBulkAll ds ≤ 1048576)
def OpenSpec.upto (s : _root_.Go.ChangeSpec) : _root_.Go.OpenSpec := { _root_.Go.OpenSpec.ofChange s with cond := some uptoSmall }

/-- 'laws.FnExactConstants', WHERE WHAT IT READS IS OF BULK AT MOST 1048576: true; the input reads as it did. -/
def fnExactConstantsUptoRow : OpenClaim := { program := "ytafnhheblnbjeaa", sum := "01d823fd44f8734c9ca4848bdfcaf253acc2ea6b9c07f95fc648b40d966926bf", func := "loop.example/loadbalancer/laws.FnExactConstants", spec := "fnExactConstants", apart := false, narrowed := true }
def FnExactConstantsUptoSaid : Prop := fnExactConstantsUptoRow.holds Try.pinned (OpenSpec.upto fnExactConstantsSpec)

/-- 'laws.FnExactStayOf', WHERE WHAT IT READS IS OF BULK AT MOST 1048576: true; the input reads as it did. -/
def fnExactStayOfUptoRow : OpenClaim := { program := "ytafnhheblnbjeaa", sum := "01d823fd44f8734c9ca4848bdfcaf253acc2ea6b9c07f95fc648b40d966926bf", func := "loop.example/loadbalancer/laws.FnExactStayOf", spec := "fnExactStayOf", apart := false, narrowed := true }
def FnExactStayOfUptoSaid : Prop := fnExactStayOfUptoRow.holds Try.pinned (OpenSpec.upto fnExactStayOfSpec)

/-- 'laws.FnExactFlowValid', WHERE WHAT IT READS IS OF BULK AT MOST 1048576: true; the input reads as it did. -/
def fnExactFlowValidUptoRow : OpenClaim := { program := "ytafnhheblnbjeaa", sum := "01d823fd44f8734c9ca4848bdfcaf253acc2ea6b9c07f95fc648b40d966926bf", func := "loop.example/loadbalancer/laws.FnExactFlowValid", spec := "fnExactFlowValid", apart := false, narrowed := true }
def FnExactFlowValidUptoSaid : Prop := fnExactFlowValidUptoRow.holds Try.pinned (OpenSpec.upto fnExactFlowValidSpec)

/-- 'laws.FnExactSlotHost', WHERE WHAT IT READS IS OF BULK AT MOST 1048576: true; the input reads as it did. -/
def fnExactSlotHostUptoRow : OpenClaim := { program := "ytafnhheblnbjeaa", sum := "01d823fd44f8734c9ca4848bdfcaf253acc2ea6b9c07f95fc648b40d966926bf", func := "loop.example/loadbalancer/laws.FnExactSlotHost", spec := "fnExactSlotHost", apart := false, narrowed := true }
def FnExactSlotHostUptoSaid : Prop := fnExactSlotHostUptoRow.holds Try.pinned (OpenSpec.upto fnExactSlotHostSpec)

/-- 'laws.FnExactCountOf', WHERE WHAT IT READS IS OF BULK AT MOST 1048576: true; the input reads as it did. -/
def fnExactCountOfUptoRow : OpenClaim := { program := "ytafnhheblnbjeaa", sum := "01d823fd44f8734c9ca4848bdfcaf253acc2ea6b9c07f95fc648b40d966926bf", func := "loop.example/loadbalancer/laws.FnExactCountOf", spec := "fnExactCountOf", apart := false, narrowed := true }
def FnExactCountOfUptoSaid : Prop := fnExactCountOfUptoRow.holds Try.pinned (OpenSpec.upto fnExactCountOfSpec)

/-- 'laws.FnExactMovedSlots', WHERE WHAT IT READS IS OF BULK AT MOST 1048576: true; the input reads as it did. -/
def fnExactMovedSlotsUptoRow : OpenClaim := { program := "ytafnhheblnbjeaa", sum := "01d823fd44f8734c9ca4848bdfcaf253acc2ea6b9c07f95fc648b40d966926bf", func := "loop.example/loadbalancer/laws.FnExactMovedSlots", spec := "fnExactMovedSlots", apart := false, narrowed := true }
def FnExactMovedSlotsUptoSaid : Prop := fnExactMovedSlotsUptoRow.holds Try.pinned (OpenSpec.upto fnExactMovedSlotsSpec)

/-- 'laws.FnExactMixNumbers', WHERE WHAT IT READS IS OF BULK AT MOST 1048576: true; the input reads as it did. -/
def fnExactMixNumbersUptoRow : OpenClaim := { program := "ytafnhheblnbjeaa", sum := "01d823fd44f8734c9ca4848bdfcaf253acc2ea6b9c07f95fc648b40d966926bf", func := "loop.example/loadbalancer/laws.FnExactMixNumbers", spec := "fnExactMixNumbers", apart := false, narrowed := true }
def FnExactMixNumbersUptoSaid : Prop := fnExactMixNumbersUptoRow.holds Try.pinned (OpenSpec.upto fnExactMixNumbersSpec)

/-- 'laws.FnCountOf', WHERE WHAT IT READS IS OF BULK AT MOST 1048576: true; the input reads as it did. -/
def fnCountOfUptoRow : OpenClaim := { program := "ytafnhheblnbjeaa", sum := "01d823fd44f8734c9ca4848bdfcaf253acc2ea6b9c07f95fc648b40d966926bf", func := "loop.example/loadbalancer/laws.FnCountOf", spec := "fnCountOf", apart := false, narrowed := true }
def FnCountOfUptoSaid : Prop := fnCountOfUptoRow.holds Try.pinned (OpenSpec.upto fnCountOfSpec)

/-- 'laws.FnExactTurnFlow', WHERE WHAT IT READS IS OF BULK AT MOST 1048576: true; the input reads as it did. -/
def fnExactTurnFlowUptoRow : OpenClaim := { program := "ytafnhheblnbjeaa", sum := "01d823fd44f8734c9ca4848bdfcaf253acc2ea6b9c07f95fc648b40d966926bf", func := "loop.example/loadbalancer/laws.FnExactTurnFlow", spec := "fnExactTurnFlow", apart := false, narrowed := true }
def FnExactTurnFlowUptoSaid : Prop := fnExactTurnFlowUptoRow.holds Try.pinned (OpenSpec.upto fnExactTurnFlowSpec)

/-- 'laws.FnFlowValid', WHERE WHAT IT READS IS OF BULK AT MOST 1048576: true; the input reads as it did. -/
def fnFlowValidUptoRow : OpenClaim := { program := "ytafnhheblnbjeaa", sum := "01d823fd44f8734c9ca4848bdfcaf253acc2ea6b9c07f95fc648b40d966926bf", func := "loop.example/loadbalancer/laws.FnFlowValid", spec := "fnFlowValid", apart := false, narrowed := true }
def FnFlowValidUptoSaid : Prop := fnFlowValidUptoRow.holds Try.pinned (OpenSpec.upto fnFlowValidSpec)

/-- 'laws.FnExactJumpBucket', WHERE WHAT IT READS IS OF BULK AT MOST 1048576: true; the input reads as it did. -/
def fnExactJumpBucketUptoRow : OpenClaim := { program := "ytafnhheblnbjeaa", sum := "01d823fd44f8734c9ca4848bdfcaf253acc2ea6b9c07f95fc648b40d966926bf", func := "loop.example/loadbalancer/laws.FnExactJumpBucket", spec := "fnExactJumpBucket", apart := false, narrowed := true }
def FnExactJumpBucketUptoSaid : Prop := fnExactJumpBucketUptoRow.holds Try.pinned (OpenSpec.upto fnExactJumpBucketSpec)

/-- 'laws.FnExactFlowHash', WHERE WHAT IT READS IS OF BULK AT MOST 1048576: true; the input reads as it did. -/
def fnExactFlowHashUptoRow : OpenClaim := { program := "ytafnhheblnbjeaa", sum := "01d823fd44f8734c9ca4848bdfcaf253acc2ea6b9c07f95fc648b40d966926bf", func := "loop.example/loadbalancer/laws.FnExactFlowHash", spec := "fnExactFlowHash", apart := false, narrowed := true }
def FnExactFlowHashUptoSaid : Prop := fnExactFlowHashUptoRow.holds Try.pinned (OpenSpec.upto fnExactFlowHashSpec)

end Rows
end Go.Proofs.Ytafnhheblnbjeaa
