/-
  No cell of these rows narrows 'for every input' (looked for: loops, veiled, ifaces, maps, wideKeys, modest, calm, conditions, laid).
  DERIVED. THE GIVEN ROWS OF THIS SEAT. 8 by the template 'for every input the law returns true; each argument reads behind the call as it read before'; 0 by the template 'total and deterministic' (their statements: YtgheimmhicpefaaTotals.lean).
  GIVEN WITH THE SEED: the statements are not yours to turn. If you find one false, say at which input.
  Laid BY PROGRAM, IN A SANDBOX (cutbox-rows.mjs): the forced cells as the released guide's own fill.sh prints them over the translation 21dd728ade793dc8… (all of the seat's roots in one cut). By AI agents, Wed Nov 11 2026. No macro, syntax, notation, axiom, sorry.
-/
import Derived.Test.YtgheimmhicpefaaChecked
import GoSem.Claim
import GoSem.ClaimJoined
import GoSem.ClaimMapViews
import Derived.JoinedTies
import Derived.KernelRfl
namespace Go.Proofs.Ytgheimmhicpefaa
/- THE CELL 'sum', in the pinned program and in every row, IS THE sha256 OF THE DUMP (.gsa) THAT YtgheimmhicpefaaProg.lean LOADS. Nothing in Lean hashes anything: it is a label: what it is worth is what the hold of that sum in a sandbox is worth. -/
noncomputable def Try.pinned : Pinned := { name := "ytgheimmhicpefaa", sum := "21dd728ade793dc8a3fd163c4485d02044dbfa33ab2b7b8c34b3afb8987fa4ce", checked := Try.checked }
namespace Rows
def none {H : Type} : Left H := { results := [], args := [] }

/-- 'laws.FnTurnFlow': WHATEVER THE INPUT: true; the input reads as it did. -/
def fnTurnFlowSpec : ChangeSpec := { name := "fnTurnFlow", fn := fun _ => fun
  | [d] => { results := [.lit (.bool true)], args := [d] }
  | _ => none }
def fnTurnFlowRow : OpenClaim := { program := "ytgheimmhicpefaa", sum := "21dd728ade793dc8a3fd163c4485d02044dbfa33ab2b7b8c34b3afb8987fa4ce", func := "loop.example/loadbalancer/laws.FnTurnFlow", spec := "fnTurnFlow", plainKeys := false, apart := false }
def FnTurnFlowSaid : Prop := fnTurnFlowRow.holds Try.pinned (OpenSpec.ofChange fnTurnFlowSpec)

/-- ITS FALSE NEIGHBOUR: 'it returns false'. Refute it at one input. -/
def fnTurnFlowWrong : ChangeSpec := { name := "fnTurnFlow", fn := fun _ => fun
  | [d] => { results := [.lit (.bool false)], args := [d] }
  | _ => none }
def FnTurnFlowWrongFalsely : Prop := fnTurnFlowRow.holds Try.pinned (OpenSpec.ofChange fnTurnFlowWrong)

/-- 'laws.FnMixNumbers': WHATEVER THE INPUT: true; the input reads as it did. -/
def fnMixNumbersSpec : ChangeSpec := { name := "fnMixNumbers", fn := fun _ => fun
  | [d] => { results := [.lit (.bool true)], args := [d] }
  | _ => none }
def fnMixNumbersRow : OpenClaim := { program := "ytgheimmhicpefaa", sum := "21dd728ade793dc8a3fd163c4485d02044dbfa33ab2b7b8c34b3afb8987fa4ce", func := "loop.example/loadbalancer/laws.FnMixNumbers", spec := "fnMixNumbers", plainKeys := false, apart := false }
def FnMixNumbersSaid : Prop := fnMixNumbersRow.holds Try.pinned (OpenSpec.ofChange fnMixNumbersSpec)

/-- ITS FALSE NEIGHBOUR: 'it returns false'. Refute it at one input. -/
def fnMixNumbersWrong : ChangeSpec := { name := "fnMixNumbers", fn := fun _ => fun
  | [d] => { results := [.lit (.bool false)], args := [d] }
  | _ => none }
def FnMixNumbersWrongFalsely : Prop := fnMixNumbersRow.holds Try.pinned (OpenSpec.ofChange fnMixNumbersWrong)

/-- 'laws.FnTotalWeight': WHATEVER THE INPUT: true; the input reads as it did. -/
def fnTotalWeightSpec : ChangeSpec := { name := "fnTotalWeight", fn := fun _ => fun
  | [d] => { results := [.lit (.bool true)], args := [d] }
  | _ => none }
def fnTotalWeightRow : OpenClaim := { program := "ytgheimmhicpefaa", sum := "21dd728ade793dc8a3fd163c4485d02044dbfa33ab2b7b8c34b3afb8987fa4ce", func := "loop.example/loadbalancer/laws.FnTotalWeight", spec := "fnTotalWeight", plainKeys := false, apart := false }
def FnTotalWeightSaid : Prop := fnTotalWeightRow.holds Try.pinned (OpenSpec.ofChange fnTotalWeightSpec)

/-- ITS FALSE NEIGHBOUR: 'it returns false'. Refute it at one input. -/
def fnTotalWeightWrong : ChangeSpec := { name := "fnTotalWeight", fn := fun _ => fun
  | [d] => { results := [.lit (.bool false)], args := [d] }
  | _ => none }
def FnTotalWeightWrongFalsely : Prop := fnTotalWeightRow.holds Try.pinned (OpenSpec.ofChange fnTotalWeightWrong)

/-- 'laws.FnRingHost': WHATEVER THE INPUT: true; the input reads as it did. -/
def fnRingHostSpec : ChangeSpec := { name := "fnRingHost", fn := fun _ => fun
  | [d] => { results := [.lit (.bool true)], args := [d] }
  | _ => none }
def fnRingHostRow : OpenClaim := { program := "ytgheimmhicpefaa", sum := "21dd728ade793dc8a3fd163c4485d02044dbfa33ab2b7b8c34b3afb8987fa4ce", func := "loop.example/loadbalancer/laws.FnRingHost", spec := "fnRingHost", plainKeys := false, apart := false }
def FnRingHostSaid : Prop := fnRingHostRow.holds Try.pinned (OpenSpec.ofChange fnRingHostSpec)

/-- ITS FALSE NEIGHBOUR: 'it returns false'. Refute it at one input. -/
def fnRingHostWrong : ChangeSpec := { name := "fnRingHost", fn := fun _ => fun
  | [d] => { results := [.lit (.bool false)], args := [d] }
  | _ => none }
def FnRingHostWrongFalsely : Prop := fnRingHostRow.holds Try.pinned (OpenSpec.ofChange fnRingHostWrong)

/-- 'laws.FnHostsUp': WHATEVER THE INPUT: true; the input reads as it did. -/
def fnHostsUpSpec : ChangeSpec := { name := "fnHostsUp", fn := fun _ => fun
  | [d] => { results := [.lit (.bool true)], args := [d] }
  | _ => none }
def fnHostsUpRow : OpenClaim := { program := "ytgheimmhicpefaa", sum := "21dd728ade793dc8a3fd163c4485d02044dbfa33ab2b7b8c34b3afb8987fa4ce", func := "loop.example/loadbalancer/laws.FnHostsUp", spec := "fnHostsUp", unfollowed := true, recurses := true, plainKeys := false, apart := false }
def FnHostsUpSaid : Prop := fnHostsUpRow.holds Try.pinned (OpenSpec.ofChange fnHostsUpSpec)

/-- ITS FALSE NEIGHBOUR: 'it returns false'. Refute it at one input. -/
def fnHostsUpWrong : ChangeSpec := { name := "fnHostsUp", fn := fun _ => fun
  | [d] => { results := [.lit (.bool false)], args := [d] }
  | _ => none }
def FnHostsUpWrongFalsely : Prop := fnHostsUpRow.holds Try.pinned (OpenSpec.ofChange fnHostsUpWrong)

/-- 'laws.FnSetState': WHATEVER THE INPUT: true; the input reads as it did. -/
def fnSetStateSpec : ChangeSpec := { name := "fnSetState", fn := fun _ => fun
  | [d] => { results := [.lit (.bool true)], args := [d] }
  | _ => none }
def fnSetStateRow : OpenClaim := { program := "ytgheimmhicpefaa", sum := "21dd728ade793dc8a3fd163c4485d02044dbfa33ab2b7b8c34b3afb8987fa4ce", func := "loop.example/loadbalancer/laws.FnSetState", spec := "fnSetState", unfollowed := true, recurses := true, plainKeys := false, apart := false }
def FnSetStateSaid : Prop := fnSetStateRow.holds Try.pinned (OpenSpec.ofChange fnSetStateSpec)

/-- ITS FALSE NEIGHBOUR: 'it returns false'. Refute it at one input. -/
def fnSetStateWrong : ChangeSpec := { name := "fnSetState", fn := fun _ => fun
  | [d] => { results := [.lit (.bool false)], args := [d] }
  | _ => none }
def FnSetStateWrongFalsely : Prop := fnSetStateRow.holds Try.pinned (OpenSpec.ofChange fnSetStateWrong)

/-- 'laws.FnExactTableValid': WHATEVER THE INPUT: true; the input reads as it did. -/
def fnExactTableValidSpec : ChangeSpec := { name := "fnExactTableValid", fn := fun _ => fun
  | [d] => { results := [.lit (.bool true)], args := [d] }
  | _ => none }
def fnExactTableValidRow : OpenClaim := { program := "ytgheimmhicpefaa", sum := "21dd728ade793dc8a3fd163c4485d02044dbfa33ab2b7b8c34b3afb8987fa4ce", func := "loop.example/loadbalancer/laws.FnExactTableValid", spec := "fnExactTableValid", plainKeys := false, apart := false }
def FnExactTableValidSaid : Prop := fnExactTableValidRow.holds Try.pinned (OpenSpec.ofChange fnExactTableValidSpec)

/-- ITS FALSE NEIGHBOUR: 'it returns false'. Refute it at one input. -/
def fnExactTableValidWrong : ChangeSpec := { name := "fnExactTableValid", fn := fun _ => fun
  | [d] => { results := [.lit (.bool false)], args := [d] }
  | _ => none }
def FnExactTableValidWrongFalsely : Prop := fnExactTableValidRow.holds Try.pinned (OpenSpec.ofChange fnExactTableValidWrong)

/-- 'laws.FnTableValid': WHATEVER THE INPUT: true; the input reads as it did. -/
def fnTableValidSpec : ChangeSpec := { name := "fnTableValid", fn := fun _ => fun
  | [d] => { results := [.lit (.bool true)], args := [d] }
  | _ => none }
def fnTableValidRow : OpenClaim := { program := "ytgheimmhicpefaa", sum := "21dd728ade793dc8a3fd163c4485d02044dbfa33ab2b7b8c34b3afb8987fa4ce", func := "loop.example/loadbalancer/laws.FnTableValid", spec := "fnTableValid", plainKeys := false, apart := false }
def FnTableValidSaid : Prop := fnTableValidRow.holds Try.pinned (OpenSpec.ofChange fnTableValidSpec)

/-- ITS FALSE NEIGHBOUR: 'it returns false'. Refute it at one input. -/
def fnTableValidWrong : ChangeSpec := { name := "fnTableValid", fn := fun _ => fun
  | [d] => { results := [.lit (.bool false)], args := [d] }
  | _ => none }
def FnTableValidWrongFalsely : Prop := fnTableValidRow.holds Try.pinned (OpenSpec.ofChange fnTableValidWrong)

/- THE SECOND FORM. 'bulk': how many values and letters a reading holds, each counted each time it is reached (what is shared counts as often as it is met; a slice's spare places count too). A statement '..UptoSaid' is the law's where the arguments, and the package variables that the reading takes, are together of bulk at most 1048576: NARROWER than '..Said'. Prove '..Said' where nothing that the law and all that it calls make is longer than what came in: it says more and counts as full. Else prove '..UptoSaid'. A law counts once. -/
mutual
def uptoBulk {H : Type} : DataW H → Nat
  | .lit (.string bytes) => bytes.length + 1
  | .lit _ => 1
  | .nil => 1
  | .ptr d => uptoBulk d + 1
  | .slice elems spare => uptoBulkAll elems + uptoBulkAll spare + 1
  | .agg parts => uptoBulkAll parts + 1
  | .iface _ d => uptoBulk d + 1
  | .map entries => uptoBulkEntries entries + 1
  | .held _ => 1
def uptoBulkAll {H : Type} : List (DataW H) → Nat
  | [] => 0
  | d :: r => uptoBulk d + uptoBulkAll r
def uptoBulkEntries {H : Type} : List (Lit × DataW H) → Nat
  | [] => 0
  | x :: r => uptoBulkEntry x + uptoBulkEntries r
def uptoBulkEntry {H : Type} : Lit × DataW H → Nat
  | (.string bytes, d) => bytes.length + uptoBulk d + 1
  | (_, d) => uptoBulk d + 1
 end
def uptoSmall : (H : Type) → List (DataW H) → Bool := fun _ ds => decide (uptoBulkAll ds ≤ 1048576)
def OpenSpec.upto (s : _root_.Go.ChangeSpec) : _root_.Go.OpenSpec := { _root_.Go.OpenSpec.ofChange s with cond := some uptoSmall }

/-- 'laws.FnTurnFlow', WHERE WHAT IT READS IS OF BULK AT MOST 1048576: true; the input reads as it did. -/
def fnTurnFlowUptoRow : OpenClaim := { program := "ytgheimmhicpefaa", sum := "21dd728ade793dc8a3fd163c4485d02044dbfa33ab2b7b8c34b3afb8987fa4ce", func := "loop.example/loadbalancer/laws.FnTurnFlow", spec := "fnTurnFlow", plainKeys := false, apart := false, narrowed := true }
def FnTurnFlowUptoSaid : Prop := fnTurnFlowUptoRow.holds Try.pinned (OpenSpec.upto fnTurnFlowSpec)

/-- 'laws.FnMixNumbers', WHERE WHAT IT READS IS OF BULK AT MOST 1048576: true; the input reads as it did. -/
def fnMixNumbersUptoRow : OpenClaim := { program := "ytgheimmhicpefaa", sum := "21dd728ade793dc8a3fd163c4485d02044dbfa33ab2b7b8c34b3afb8987fa4ce", func := "loop.example/loadbalancer/laws.FnMixNumbers", spec := "fnMixNumbers", plainKeys := false, apart := false, narrowed := true }
def FnMixNumbersUptoSaid : Prop := fnMixNumbersUptoRow.holds Try.pinned (OpenSpec.upto fnMixNumbersSpec)

/-- 'laws.FnTotalWeight', WHERE WHAT IT READS IS OF BULK AT MOST 1048576: true; the input reads as it did. -/
def fnTotalWeightUptoRow : OpenClaim := { program := "ytgheimmhicpefaa", sum := "21dd728ade793dc8a3fd163c4485d02044dbfa33ab2b7b8c34b3afb8987fa4ce", func := "loop.example/loadbalancer/laws.FnTotalWeight", spec := "fnTotalWeight", plainKeys := false, apart := false, narrowed := true }
def FnTotalWeightUptoSaid : Prop := fnTotalWeightUptoRow.holds Try.pinned (OpenSpec.upto fnTotalWeightSpec)

/-- 'laws.FnRingHost', WHERE WHAT IT READS IS OF BULK AT MOST 1048576: true; the input reads as it did. -/
def fnRingHostUptoRow : OpenClaim := { program := "ytgheimmhicpefaa", sum := "21dd728ade793dc8a3fd163c4485d02044dbfa33ab2b7b8c34b3afb8987fa4ce", func := "loop.example/loadbalancer/laws.FnRingHost", spec := "fnRingHost", plainKeys := false, apart := false, narrowed := true }
def FnRingHostUptoSaid : Prop := fnRingHostUptoRow.holds Try.pinned (OpenSpec.upto fnRingHostSpec)

/-- 'laws.FnHostsUp', WHERE WHAT IT READS IS OF BULK AT MOST 1048576: true; the input reads as it did. -/
def fnHostsUpUptoRow : OpenClaim := { program := "ytgheimmhicpefaa", sum := "21dd728ade793dc8a3fd163c4485d02044dbfa33ab2b7b8c34b3afb8987fa4ce", func := "loop.example/loadbalancer/laws.FnHostsUp", spec := "fnHostsUp", unfollowed := true, recurses := true, plainKeys := false, apart := false, narrowed := true }
def FnHostsUpUptoSaid : Prop := fnHostsUpUptoRow.holds Try.pinned (OpenSpec.upto fnHostsUpSpec)

/-- 'laws.FnSetState', WHERE WHAT IT READS IS OF BULK AT MOST 1048576: true; the input reads as it did. -/
def fnSetStateUptoRow : OpenClaim := { program := "ytgheimmhicpefaa", sum := "21dd728ade793dc8a3fd163c4485d02044dbfa33ab2b7b8c34b3afb8987fa4ce", func := "loop.example/loadbalancer/laws.FnSetState", spec := "fnSetState", unfollowed := true, recurses := true, plainKeys := false, apart := false, narrowed := true }
def FnSetStateUptoSaid : Prop := fnSetStateUptoRow.holds Try.pinned (OpenSpec.upto fnSetStateSpec)

/-- 'laws.FnExactTableValid', WHERE WHAT IT READS IS OF BULK AT MOST 1048576: true; the input reads as it did. -/
def fnExactTableValidUptoRow : OpenClaim := { program := "ytgheimmhicpefaa", sum := "21dd728ade793dc8a3fd163c4485d02044dbfa33ab2b7b8c34b3afb8987fa4ce", func := "loop.example/loadbalancer/laws.FnExactTableValid", spec := "fnExactTableValid", plainKeys := false, apart := false, narrowed := true }
def FnExactTableValidUptoSaid : Prop := fnExactTableValidUptoRow.holds Try.pinned (OpenSpec.upto fnExactTableValidSpec)

/-- 'laws.FnTableValid', WHERE WHAT IT READS IS OF BULK AT MOST 1048576: true; the input reads as it did. -/
def fnTableValidUptoRow : OpenClaim := { program := "ytgheimmhicpefaa", sum := "21dd728ade793dc8a3fd163c4485d02044dbfa33ab2b7b8c34b3afb8987fa4ce", func := "loop.example/loadbalancer/laws.FnTableValid", spec := "fnTableValid", plainKeys := false, apart := false, narrowed := true }
def FnTableValidUptoSaid : Prop := fnTableValidUptoRow.holds Try.pinned (OpenSpec.upto fnTableValidSpec)

end Rows
end Go.Proofs.Ytgheimmhicpefaa
