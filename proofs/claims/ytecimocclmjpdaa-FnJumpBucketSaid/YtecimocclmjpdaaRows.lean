/-
  No cell of these rows narrows 'for every input' (looked for: loops, veiled, ifaces, maps, wideKeys, modest, calm, conditions, laid).
  DERIVED. THE GIVEN ROWS OF THIS SEAT. 12 by the template 'for every input the law returns true; each argument reads behind the call as it read before'; 0 by the template 'total and deterministic' (their statements: YtecimocclmjpdaaTotals.lean).
  GIVEN WITH THE SEED: the statements are not yours to turn. If you find one false, say at which input.
  Laid BY PROGRAM, IN A SANDBOX (cutbox-rows.mjs): the forced cells as the released guide's own fill.sh prints them over the translation 8ea8000380cbe0a8… (all of the seat's roots in one cut). By AI agents, Wed Nov 11 2026. No macro, syntax, notation, axiom, sorry.
-/
import Derived.Test.YtecimocclmjpdaaChecked
import GoSem.Claim
import GoSem.ClaimJoined
import GoSem.ClaimMapViews
import Derived.JoinedTies
import Derived.KernelRfl
namespace Go.Proofs.Ytecimocclmjpdaa
/- THE CELL 'sum', in the pinned program and in every row, IS THE sha256 OF THE DUMP (.gsa) THAT YtecimocclmjpdaaProg.lean LOADS. Nothing in Lean hashes anything: it is a label: what it is worth is what the hold of that sum in a sandbox is worth. -/
noncomputable def Try.pinned : Pinned := { name := "ytecimocclmjpdaa", sum := "8ea8000380cbe0a896a28f0f8153558914167712b2e41b1443d3b8f2e79a88e1", checked := Try.checked }
namespace Rows
def none {H : Type} : Left H := { results := [], args := [] }

/-- 'laws.FnExactRingHost': WHATEVER THE INPUT: true; the input reads as it did. -/
def fnExactRingHostSpec : ChangeSpec := { name := "fnExactRingHost", fn := fun _ => fun
  | [d1, d2] => { results := [.lit (.bool true)], args := [d1, d2] }
  | _ => none }
def fnExactRingHostRow : OpenClaim := { program := "ytecimocclmjpdaa", sum := "8ea8000380cbe0a896a28f0f8153558914167712b2e41b1443d3b8f2e79a88e1", func := "loop.example/loadbalancer/laws.FnExactRingHost", spec := "fnExactRingHost", apart := false }
def FnExactRingHostSaid : Prop := fnExactRingHostRow.holds Try.pinned (OpenSpec.ofChange fnExactRingHostSpec)

/-- ITS FALSE NEIGHBOUR: 'it returns false'. Refute it at one input. -/
def fnExactRingHostWrong : ChangeSpec := { name := "fnExactRingHost", fn := fun _ => fun
  | [d1, d2] => { results := [.lit (.bool false)], args := [d1, d2] }
  | _ => none }
def FnExactRingHostWrongFalsely : Prop := fnExactRingHostRow.holds Try.pinned (OpenSpec.ofChange fnExactRingHostWrong)

/-- 'laws.FnExactPoolValid': WHATEVER THE INPUT: true; the input reads as it did. -/
def fnExactPoolValidSpec : ChangeSpec := { name := "fnExactPoolValid", fn := fun _ => fun
  | [d] => { results := [.lit (.bool true)], args := [d] }
  | _ => none }
def fnExactPoolValidRow : OpenClaim := { program := "ytecimocclmjpdaa", sum := "8ea8000380cbe0a896a28f0f8153558914167712b2e41b1443d3b8f2e79a88e1", func := "loop.example/loadbalancer/laws.FnExactPoolValid", spec := "fnExactPoolValid", apart := false }
def FnExactPoolValidSaid : Prop := fnExactPoolValidRow.holds Try.pinned (OpenSpec.ofChange fnExactPoolValidSpec)

/-- ITS FALSE NEIGHBOUR: 'it returns false'. Refute it at one input. -/
def fnExactPoolValidWrong : ChangeSpec := { name := "fnExactPoolValid", fn := fun _ => fun
  | [d] => { results := [.lit (.bool false)], args := [d] }
  | _ => none }
def FnExactPoolValidWrongFalsely : Prop := fnExactPoolValidRow.holds Try.pinned (OpenSpec.ofChange fnExactPoolValidWrong)

/-- 'laws.FnTurnFlow': WHATEVER THE INPUT: true; the input reads as it did. -/
def fnTurnFlowSpec : ChangeSpec := { name := "fnTurnFlow", fn := fun _ => fun
  | [d] => { results := [.lit (.bool true)], args := [d] }
  | _ => none }
def fnTurnFlowRow : OpenClaim := { program := "ytecimocclmjpdaa", sum := "8ea8000380cbe0a896a28f0f8153558914167712b2e41b1443d3b8f2e79a88e1", func := "loop.example/loadbalancer/laws.FnTurnFlow", spec := "fnTurnFlow", apart := false }
def FnTurnFlowSaid : Prop := fnTurnFlowRow.holds Try.pinned (OpenSpec.ofChange fnTurnFlowSpec)

/-- ITS FALSE NEIGHBOUR: 'it returns false'. Refute it at one input. -/
def fnTurnFlowWrong : ChangeSpec := { name := "fnTurnFlow", fn := fun _ => fun
  | [d] => { results := [.lit (.bool false)], args := [d] }
  | _ => none }
def FnTurnFlowWrongFalsely : Prop := fnTurnFlowRow.holds Try.pinned (OpenSpec.ofChange fnTurnFlowWrong)

/-- 'laws.FnPoolValid': WHATEVER THE INPUT: true; the input reads as it did. -/
def fnPoolValidSpec : ChangeSpec := { name := "fnPoolValid", fn := fun _ => fun
  | [d] => { results := [.lit (.bool true)], args := [d] }
  | _ => none }
def fnPoolValidRow : OpenClaim := { program := "ytecimocclmjpdaa", sum := "8ea8000380cbe0a896a28f0f8153558914167712b2e41b1443d3b8f2e79a88e1", func := "loop.example/loadbalancer/laws.FnPoolValid", spec := "fnPoolValid", apart := false }
def FnPoolValidSaid : Prop := fnPoolValidRow.holds Try.pinned (OpenSpec.ofChange fnPoolValidSpec)

/-- ITS FALSE NEIGHBOUR: 'it returns false'. Refute it at one input. -/
def fnPoolValidWrong : ChangeSpec := { name := "fnPoolValid", fn := fun _ => fun
  | [d] => { results := [.lit (.bool false)], args := [d] }
  | _ => none }
def FnPoolValidWrongFalsely : Prop := fnPoolValidRow.holds Try.pinned (OpenSpec.ofChange fnPoolValidWrong)

/-- 'laws.FnMixNumbers': WHATEVER THE INPUT: true; the input reads as it did. -/
def fnMixNumbersSpec : ChangeSpec := { name := "fnMixNumbers", fn := fun _ => fun
  | [d] => { results := [.lit (.bool true)], args := [d] }
  | _ => none }
def fnMixNumbersRow : OpenClaim := { program := "ytecimocclmjpdaa", sum := "8ea8000380cbe0a896a28f0f8153558914167712b2e41b1443d3b8f2e79a88e1", func := "loop.example/loadbalancer/laws.FnMixNumbers", spec := "fnMixNumbers", apart := false }
def FnMixNumbersSaid : Prop := fnMixNumbersRow.holds Try.pinned (OpenSpec.ofChange fnMixNumbersSpec)

/-- ITS FALSE NEIGHBOUR: 'it returns false'. Refute it at one input. -/
def fnMixNumbersWrong : ChangeSpec := { name := "fnMixNumbers", fn := fun _ => fun
  | [d] => { results := [.lit (.bool false)], args := [d] }
  | _ => none }
def FnMixNumbersWrongFalsely : Prop := fnMixNumbersRow.holds Try.pinned (OpenSpec.ofChange fnMixNumbersWrong)

/-- 'laws.FnExactSlotOrder': WHATEVER THE INPUT: true; the input reads as it did. -/
def fnExactSlotOrderSpec : ChangeSpec := { name := "fnExactSlotOrder", fn := fun _ => fun
  | [d] => { results := [.lit (.bool true)], args := [d] }
  | _ => none }
def fnExactSlotOrderRow : OpenClaim := { program := "ytecimocclmjpdaa", sum := "8ea8000380cbe0a896a28f0f8153558914167712b2e41b1443d3b8f2e79a88e1", func := "loop.example/loadbalancer/laws.FnExactSlotOrder", spec := "fnExactSlotOrder", apart := false }
def FnExactSlotOrderSaid : Prop := fnExactSlotOrderRow.holds Try.pinned (OpenSpec.ofChange fnExactSlotOrderSpec)

/-- ITS FALSE NEIGHBOUR: 'it returns false'. Refute it at one input. -/
def fnExactSlotOrderWrong : ChangeSpec := { name := "fnExactSlotOrder", fn := fun _ => fun
  | [d] => { results := [.lit (.bool false)], args := [d] }
  | _ => none }
def FnExactSlotOrderWrongFalsely : Prop := fnExactSlotOrderRow.holds Try.pinned (OpenSpec.ofChange fnExactSlotOrderWrong)

/-- 'laws.FnExactEvenHash': WHATEVER THE INPUT: true; the input reads as it did. -/
def fnExactEvenHashSpec : ChangeSpec := { name := "fnExactEvenHash", fn := fun _ => fun
  | [d] => { results := [.lit (.bool true)], args := [d] }
  | _ => none }
def fnExactEvenHashRow : OpenClaim := { program := "ytecimocclmjpdaa", sum := "8ea8000380cbe0a896a28f0f8153558914167712b2e41b1443d3b8f2e79a88e1", func := "loop.example/loadbalancer/laws.FnExactEvenHash", spec := "fnExactEvenHash", apart := false }
def FnExactEvenHashSaid : Prop := fnExactEvenHashRow.holds Try.pinned (OpenSpec.ofChange fnExactEvenHashSpec)

/-- ITS FALSE NEIGHBOUR: 'it returns false'. Refute it at one input. -/
def fnExactEvenHashWrong : ChangeSpec := { name := "fnExactEvenHash", fn := fun _ => fun
  | [d] => { results := [.lit (.bool false)], args := [d] }
  | _ => none }
def FnExactEvenHashWrongFalsely : Prop := fnExactEvenHashRow.holds Try.pinned (OpenSpec.ofChange fnExactEvenHashWrong)

/-- 'laws.FnExactHostState': WHATEVER THE INPUT: true; the input reads as it did. -/
def fnExactHostStateSpec : ChangeSpec := { name := "fnExactHostState", fn := fun _ => fun
  | [d1, d2] => { results := [.lit (.bool true)], args := [d1, d2] }
  | _ => none }
def fnExactHostStateRow : OpenClaim := { program := "ytecimocclmjpdaa", sum := "8ea8000380cbe0a896a28f0f8153558914167712b2e41b1443d3b8f2e79a88e1", func := "loop.example/loadbalancer/laws.FnExactHostState", spec := "fnExactHostState", unfollowed := true, recurses := true, apart := false }
def FnExactHostStateSaid : Prop := fnExactHostStateRow.holds Try.pinned (OpenSpec.ofChange fnExactHostStateSpec)

/-- ITS FALSE NEIGHBOUR: 'it returns false'. Refute it at one input. -/
def fnExactHostStateWrong : ChangeSpec := { name := "fnExactHostState", fn := fun _ => fun
  | [d1, d2] => { results := [.lit (.bool false)], args := [d1, d2] }
  | _ => none }
def FnExactHostStateWrongFalsely : Prop := fnExactHostStateRow.holds Try.pinned (OpenSpec.ofChange fnExactHostStateWrong)

/-- 'laws.FnExactTotalWeight': WHATEVER THE INPUT: true; the input reads as it did. -/
def fnExactTotalWeightSpec : ChangeSpec := { name := "fnExactTotalWeight", fn := fun _ => fun
  | [d] => { results := [.lit (.bool true)], args := [d] }
  | _ => none }
def fnExactTotalWeightRow : OpenClaim := { program := "ytecimocclmjpdaa", sum := "8ea8000380cbe0a896a28f0f8153558914167712b2e41b1443d3b8f2e79a88e1", func := "loop.example/loadbalancer/laws.FnExactTotalWeight", spec := "fnExactTotalWeight", apart := false }
def FnExactTotalWeightSaid : Prop := fnExactTotalWeightRow.holds Try.pinned (OpenSpec.ofChange fnExactTotalWeightSpec)

/-- ITS FALSE NEIGHBOUR: 'it returns false'. Refute it at one input. -/
def fnExactTotalWeightWrong : ChangeSpec := { name := "fnExactTotalWeight", fn := fun _ => fun
  | [d] => { results := [.lit (.bool false)], args := [d] }
  | _ => none }
def FnExactTotalWeightWrongFalsely : Prop := fnExactTotalWeightRow.holds Try.pinned (OpenSpec.ofChange fnExactTotalWeightWrong)

/-- 'laws.FnJumpBucket': WHATEVER THE INPUT: true; the input reads as it did. -/
def fnJumpBucketSpec : ChangeSpec := { name := "fnJumpBucket", fn := fun _ => fun
  | [d] => { results := [.lit (.bool true)], args := [d] }
  | _ => none }
def fnJumpBucketRow : OpenClaim := { program := "ytecimocclmjpdaa", sum := "8ea8000380cbe0a896a28f0f8153558914167712b2e41b1443d3b8f2e79a88e1", func := "loop.example/loadbalancer/laws.FnJumpBucket", spec := "fnJumpBucket", apart := false }
def FnJumpBucketSaid : Prop := fnJumpBucketRow.holds Try.pinned (OpenSpec.ofChange fnJumpBucketSpec)

/-- ITS FALSE NEIGHBOUR: 'it returns false'. Refute it at one input. -/
def fnJumpBucketWrong : ChangeSpec := { name := "fnJumpBucket", fn := fun _ => fun
  | [d] => { results := [.lit (.bool false)], args := [d] }
  | _ => none }
def FnJumpBucketWrongFalsely : Prop := fnJumpBucketRow.holds Try.pinned (OpenSpec.ofChange fnJumpBucketWrong)

/-- 'laws.FnFlowHash': WHATEVER THE INPUT: true; the input reads as it did. -/
def fnFlowHashSpec : ChangeSpec := { name := "fnFlowHash", fn := fun _ => fun
  | [d] => { results := [.lit (.bool true)], args := [d] }
  | _ => none }
def fnFlowHashRow : OpenClaim := { program := "ytecimocclmjpdaa", sum := "8ea8000380cbe0a896a28f0f8153558914167712b2e41b1443d3b8f2e79a88e1", func := "loop.example/loadbalancer/laws.FnFlowHash", spec := "fnFlowHash", apart := false }
def FnFlowHashSaid : Prop := fnFlowHashRow.holds Try.pinned (OpenSpec.ofChange fnFlowHashSpec)

/-- ITS FALSE NEIGHBOUR: 'it returns false'. Refute it at one input. -/
def fnFlowHashWrong : ChangeSpec := { name := "fnFlowHash", fn := fun _ => fun
  | [d] => { results := [.lit (.bool false)], args := [d] }
  | _ => none }
def FnFlowHashWrongFalsely : Prop := fnFlowHashRow.holds Try.pinned (OpenSpec.ofChange fnFlowHashWrong)

/-- 'laws.FnSlotOrder': WHATEVER THE INPUT: true; the input reads as it did. -/
def fnSlotOrderSpec : ChangeSpec := { name := "fnSlotOrder", fn := fun _ => fun
  | [d] => { results := [.lit (.bool true)], args := [d] }
  | _ => none }
def fnSlotOrderRow : OpenClaim := { program := "ytecimocclmjpdaa", sum := "8ea8000380cbe0a896a28f0f8153558914167712b2e41b1443d3b8f2e79a88e1", func := "loop.example/loadbalancer/laws.FnSlotOrder", spec := "fnSlotOrder", apart := false }
def FnSlotOrderSaid : Prop := fnSlotOrderRow.holds Try.pinned (OpenSpec.ofChange fnSlotOrderSpec)

/-- ITS FALSE NEIGHBOUR: 'it returns false'. Refute it at one input. -/
def fnSlotOrderWrong : ChangeSpec := { name := "fnSlotOrder", fn := fun _ => fun
  | [d] => { results := [.lit (.bool false)], args := [d] }
  | _ => none }
def FnSlotOrderWrongFalsely : Prop := fnSlotOrderRow.holds Try.pinned (OpenSpec.ofChange fnSlotOrderWrong)

/- THE SECOND FORM. 'bulk': how many values and letters a reading holds, each counted each time it is reached (what is shared counts as often as it is met; a slice's spare places count too). A statement '..UptoSaid' is the law's where the arguments, and the package variables that the reading takes, are together of bulk at most 1048576: NARROWER than '..Said'. Prove '..Said' where nothing that the law and all that it calls make is longer than what came in: it says more and counts as full. Else prove '..UptoSaid'. A law counts once. -/
mutual
def uptoBulk {H : Type} : DataW H → Nat
  | .lit (.string bytes) => bytes.length + 1
  | .lit _ => 1
  | .nil => 1
  | .ptr d => uptoBulk d + 1
  | .slice elems spare => uptoBulkAll elems + uptoBulkAll spare + 1
  | .agg parts => uptoBulkAll parts + 1
  | .iface _ d => uptoBulk d + 1
  | .map entries => uptoBulkEntries entries + 1
  | .held _ => 1
def uptoBulkAll {H : Type} : List (DataW H) → Nat
  | [] => 0
  | d :: r => uptoBulk d + uptoBulkAll r
def uptoBulkEntries {H : Type} : List (Lit × DataW H) → Nat
  | [] => 0
  | x :: r => uptoBulkEntry x + uptoBulkEntries r
def uptoBulkEntry {H : Type} : Lit × DataW H → Nat
  | (.string bytes, d) => bytes.length + uptoBulk d + 1
  | (_, d) => uptoBulk d + 1
 end
def uptoSmall : (H : Type) → List (DataW H) → Bool := fun _ ds => decide (uptoBulkAll ds ≤ 1048576)
def OpenSpec.upto (s : _root_.Go.ChangeSpec) : _root_.Go.OpenSpec := { _root_.Go.OpenSpec.ofChange s with cond := some uptoSmall }

/-- 'laws.FnExactRingHost', WHERE WHAT IT READS IS OF BULK AT MOST 1048576: true; the input reads as it did. -/
def fnExactRingHostUptoRow : OpenClaim := { program := "ytecimocclmjpdaa", sum := "8ea8000380cbe0a896a28f0f8153558914167712b2e41b1443d3b8f2e79a88e1", func := "loop.example/loadbalancer/laws.FnExactRingHost", spec := "fnExactRingHost", apart := false, narrowed := true }
def FnExactRingHostUptoSaid : Prop := fnExactRingHostUptoRow.holds Try.pinned (OpenSpec.upto fnExactRingHostSpec)

/-- 'laws.FnExactPoolValid', WHERE WHAT IT READS IS OF BULK AT MOST 1048576: true; the input reads as it did. -/
def fnExactPoolValidUptoRow : OpenClaim := { program := "ytecimocclmjpdaa", sum := "8ea8000380cbe0a896a28f0f8153558914167712b2e41b1443d3b8f2e79a88e1", func := "loop.example/loadbalancer/laws.FnExactPoolValid", spec := "fnExactPoolValid", apart := false, narrowed := true }
def FnExactPoolValidUptoSaid : Prop := fnExactPoolValidUptoRow.holds Try.pinned (OpenSpec.upto fnExactPoolValidSpec)

/-- 'laws.FnTurnFlow', WHERE WHAT IT READS IS OF BULK AT MOST 1048576: true; the input reads as it did. -/
def fnTurnFlowUptoRow : OpenClaim := { program := "ytecimocclmjpdaa", sum := "8ea8000380cbe0a896a28f0f8153558914167712b2e41b1443d3b8f2e79a88e1", func := "loop.example/loadbalancer/laws.FnTurnFlow", spec := "fnTurnFlow", apart := false, narrowed := true }
def FnTurnFlowUptoSaid : Prop := fnTurnFlowUptoRow.holds Try.pinned (OpenSpec.upto fnTurnFlowSpec)

/-- 'laws.FnPoolValid', WHERE WHAT IT READS IS OF BULK AT MOST 1048576: true; the input reads as it did. -/
def fnPoolValidUptoRow : OpenClaim := { program := "ytecimocclmjpdaa", sum := "8ea8000380cbe0a896a28f0f8153558914167712b2e41b1443d3b8f2e79a88e1", func := "loop.example/loadbalancer/laws.FnPoolValid", spec := "fnPoolValid", apart := false, narrowed := true }
def FnPoolValidUptoSaid : Prop := fnPoolValidUptoRow.holds Try.pinned (OpenSpec.upto fnPoolValidSpec)

/-- 'laws.FnMixNumbers', WHERE WHAT IT READS IS OF BULK AT MOST 1048576: true; the input reads as it did. -/
def fnMixNumbersUptoRow : OpenClaim := { program := "ytecimocclmjpdaa", sum := "8ea8000380cbe0a896a28f0f8153558914167712b2e41b1443d3b8f2e79a88e1", func := "loop.example/loadbalancer/laws.FnMixNumbers", spec := "fnMixNumbers", apart := false, narrowed := true }
def FnMixNumbersUptoSaid : Prop := fnMixNumbersUptoRow.holds Try.pinned (OpenSpec.upto fnMixNumbersSpec)

/-- 'laws.FnExactSlotOrder', WHERE WHAT IT READS IS OF BULK AT MOST 1048576: true; the input reads as it did. -/
def fnExactSlotOrderUptoRow : OpenClaim := { program := "ytecimocclmjpdaa", sum := "8ea8000380cbe0a896a28f0f8153558914167712b2e41b1443d3b8f2e79a88e1", func := "loop.example/loadbalancer/laws.FnExactSlotOrder", spec := "fnExactSlotOrder", apart := false, narrowed := true }
def FnExactSlotOrderUptoSaid : Prop := fnExactSlotOrderUptoRow.holds Try.pinned (OpenSpec.upto fnExactSlotOrderSpec)

/-- 'laws.FnExactEvenHash', WHERE WHAT IT READS IS OF BULK AT MOST 1048576: true; the input reads as it did. -/
def fnExactEvenHashUptoRow : OpenClaim := { program := "ytecimocclmjpdaa", sum := "8ea8000380cbe0a896a28f0f8153558914167712b2e41b1443d3b8f2e79a88e1", func := "loop.example/loadbalancer/laws.FnExactEvenHash", spec := "fnExactEvenHash", apart := false, narrowed := true }
def FnExactEvenHashUptoSaid : Prop := fnExactEvenHashUptoRow.holds Try.pinned (OpenSpec.upto fnExactEvenHashSpec)

/-- 'laws.FnExactHostState', WHERE WHAT IT READS IS OF BULK AT MOST 1048576: true; the input reads as it did. -/
def fnExactHostStateUptoRow : OpenClaim := { program := "ytecimocclmjpdaa", sum := "8ea8000380cbe0a896a28f0f8153558914167712b2e41b1443d3b8f2e79a88e1", func := "loop.example/loadbalancer/laws.FnExactHostState", spec := "fnExactHostState", unfollowed := true, recurses := true, apart := false, narrowed := true }
def FnExactHostStateUptoSaid : Prop := fnExactHostStateUptoRow.holds Try.pinned (OpenSpec.upto fnExactHostStateSpec)

/-- 'laws.FnExactTotalWeight', WHERE WHAT IT READS IS OF BULK AT MOST 1048576: true; the input reads as it did. -/
def fnExactTotalWeightUptoRow : OpenClaim := { program := "ytecimocclmjpdaa", sum := "8ea8000380cbe0a896a28f0f8153558914167712b2e41b1443d3b8f2e79a88e1", func := "loop.example/loadbalancer/laws.FnExactTotalWeight", spec := "fnExactTotalWeight", apart := false, narrowed := true }
def FnExactTotalWeightUptoSaid : Prop := fnExactTotalWeightUptoRow.holds Try.pinned (OpenSpec.upto fnExactTotalWeightSpec)

/-- 'laws.FnJumpBucket', WHERE WHAT IT READS IS OF BULK AT MOST 1048576: true; the input reads as it did. -/
def fnJumpBucketUptoRow : OpenClaim := { program := "ytecimocclmjpdaa", sum := "8ea8000380cbe0a896a28f0f8153558914167712b2e41b1443d3b8f2e79a88e1", func := "loop.example/loadbalancer/laws.FnJumpBucket", spec := "fnJumpBucket", apart := false, narrowed := true }
def FnJumpBucketUptoSaid : Prop := fnJumpBucketUptoRow.holds Try.pinned (OpenSpec.upto fnJumpBucketSpec)

/-- 'laws.FnFlowHash', WHERE WHAT IT READS IS OF BULK AT MOST 1048576: true; the input reads as it did. -/
def fnFlowHashUptoRow : OpenClaim := { program := "ytecimocclmjpdaa", sum := "8ea8000380cbe0a896a28f0f8153558914167712b2e41b1443d3b8f2e79a88e1", func := "loop.example/loadbalancer/laws.FnFlowHash", spec := "fnFlowHash", apart := false, narrowed := true }
def FnFlowHashUptoSaid : Prop := fnFlowHashUptoRow.holds Try.pinned (OpenSpec.upto fnFlowHashSpec)

/-- 'laws.FnSlotOrder', WHERE WHAT IT READS IS OF BULK AT MOST 1048576: true; the input reads as it did. -/
def fnSlotOrderUptoRow : OpenClaim := { program := "ytecimocclmjpdaa", sum := "8ea8000380cbe0a896a28f0f8153558914167712b2e41b1443d3b8f2e79a88e1", func := "loop.example/loadbalancer/laws.FnSlotOrder", spec := "fnSlotOrder", apart := false, narrowed := true }
def FnSlotOrderUptoSaid : Prop := fnSlotOrderUptoRow.holds Try.pinned (OpenSpec.upto fnSlotOrderSpec)

end Rows
end Go.Proofs.Ytecimocclmjpdaa
