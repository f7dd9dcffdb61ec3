/-
  No cell of these rows narrows 'for every input' (looked for: loops, veiled, ifaces, maps, wideKeys, modest, calm, conditions, laid).
  DERIVED. THE GIVEN ROWS OF THIS SEAT. 11 by the template 'for every input the law returns true; each argument reads behind the call as it read before'; 0 by the template 'total and deterministic' (their statements: YtbnehcaallehbaaTotals.lean).
  GIVEN WITH THE SEED: the statements are not yours to turn. If you find one false, say at which input.
  Laid BY PROGRAM, IN A SANDBOX (cutbox-rows.mjs): the forced cells as the released guide's own fill.sh prints them over the translation 6997e0bc0529efaa… (all of the seat's roots in one cut). By AI agents, Wed Nov 11 2026. No macro, syntax, notation, axiom, sorry.
-/
import Derived.Test.YtbnehcaallehbaaChecked
import GoSem.Claim
import GoSem.ClaimJoined
import GoSem.ClaimMapViews
import Derived.JoinedTies
import Derived.KernelRfl
namespace Go.Proofs.Ytbnehcaallehbaa
/- THE CELL 'sum', in the pinned program and in every row, IS THE sha256 OF THE DUMP (.gsa) THAT YtbnehcaallehbaaProg.lean LOADS. Nothing in Lean hashes anything: it is a label: what it is worth is what the hold of that sum in a sandbox is worth. -/
noncomputable def Try.pinned : Pinned := { name := "ytbnehcaallehbaa", sum := "6997e0bc0529efaaae25e493844ffa208251dbceeed1aa36a40f8227f90d8df7", checked := Try.checked }
namespace Rows
def none {H : Type} : Left H := { results := [], args := [] }

/-- 'laws.FnRingOf': WHATEVER THE INPUT: true; the input reads as it did. -/
def fnRingOfSpec : ChangeSpec := { name := "fnRingOf", fn := fun _ => fun
  | [d] => { results := [.lit (.bool true)], args := [d] }
  | _ => none }
def fnRingOfRow : OpenClaim := { program := "ytbnehcaallehbaa", sum := "6997e0bc0529efaaae25e493844ffa208251dbceeed1aa36a40f8227f90d8df7", func := "loop.example/loadbalancer/laws.FnRingOf", spec := "fnRingOf", unfollowed := true, recurses := true, plainKeys := false, apart := false }
def FnRingOfSaid : Prop := fnRingOfRow.holds Try.pinned (OpenSpec.ofChange fnRingOfSpec)

/-- ITS FALSE NEIGHBOUR: 'it returns false'. Refute it at one input. -/
def fnRingOfWrong : ChangeSpec := { name := "fnRingOf", fn := fun _ => fun
  | [d] => { results := [.lit (.bool false)], args := [d] }
  | _ => none }
def FnRingOfWrongFalsely : Prop := fnRingOfRow.holds Try.pinned (OpenSpec.ofChange fnRingOfWrong)

/-- 'laws.FnExactRingOf': WHATEVER THE INPUT: true; the input reads as it did. -/
def fnExactRingOfSpec : ChangeSpec := { name := "fnExactRingOf", fn := fun _ => fun
  | [d] => { results := [.lit (.bool true)], args := [d] }
  | _ => none }
def fnExactRingOfRow : OpenClaim := { program := "ytbnehcaallehbaa", sum := "6997e0bc0529efaaae25e493844ffa208251dbceeed1aa36a40f8227f90d8df7", func := "loop.example/loadbalancer/laws.FnExactRingOf", spec := "fnExactRingOf", unfollowed := true, recurses := true, plainKeys := false, apart := false }
def FnExactRingOfSaid : Prop := fnExactRingOfRow.holds Try.pinned (OpenSpec.ofChange fnExactRingOfSpec)

/-- ITS FALSE NEIGHBOUR: 'it returns false'. Refute it at one input. -/
def fnExactRingOfWrong : ChangeSpec := { name := "fnExactRingOf", fn := fun _ => fun
  | [d] => { results := [.lit (.bool false)], args := [d] }
  | _ => none }
def FnExactRingOfWrongFalsely : Prop := fnExactRingOfRow.holds Try.pinned (OpenSpec.ofChange fnExactRingOfWrong)

/-- 'laws.FnRingHost': WHATEVER THE INPUT: true; the input reads as it did. -/
def fnRingHostSpec : ChangeSpec := { name := "fnRingHost", fn := fun _ => fun
  | [d] => { results := [.lit (.bool true)], args := [d] }
  | _ => none }
def fnRingHostRow : OpenClaim := { program := "ytbnehcaallehbaa", sum := "6997e0bc0529efaaae25e493844ffa208251dbceeed1aa36a40f8227f90d8df7", func := "loop.example/loadbalancer/laws.FnRingHost", spec := "fnRingHost", plainKeys := false, apart := false }
def FnRingHostSaid : Prop := fnRingHostRow.holds Try.pinned (OpenSpec.ofChange fnRingHostSpec)

/-- ITS FALSE NEIGHBOUR: 'it returns false'. Refute it at one input. -/
def fnRingHostWrong : ChangeSpec := { name := "fnRingHost", fn := fun _ => fun
  | [d] => { results := [.lit (.bool false)], args := [d] }
  | _ => none }
def FnRingHostWrongFalsely : Prop := fnRingHostRow.holds Try.pinned (OpenSpec.ofChange fnRingHostWrong)

/-- 'laws.FnTableValid': WHATEVER THE INPUT: true; the input reads as it did. -/
def fnTableValidSpec : ChangeSpec := { name := "fnTableValid", fn := fun _ => fun
  | [d] => { results := [.lit (.bool true)], args := [d] }
  | _ => none }
def fnTableValidRow : OpenClaim := { program := "ytbnehcaallehbaa", sum := "6997e0bc0529efaaae25e493844ffa208251dbceeed1aa36a40f8227f90d8df7", func := "loop.example/loadbalancer/laws.FnTableValid", spec := "fnTableValid", plainKeys := false, apart := false }
def FnTableValidSaid : Prop := fnTableValidRow.holds Try.pinned (OpenSpec.ofChange fnTableValidSpec)

/-- ITS FALSE NEIGHBOUR: 'it returns false'. Refute it at one input. -/
def fnTableValidWrong : ChangeSpec := { name := "fnTableValid", fn := fun _ => fun
  | [d] => { results := [.lit (.bool false)], args := [d] }
  | _ => none }
def FnTableValidWrongFalsely : Prop := fnTableValidRow.holds Try.pinned (OpenSpec.ofChange fnTableValidWrong)

/-- 'laws.FnSlotHost': WHATEVER THE INPUT: true; the input reads as it did. -/
def fnSlotHostSpec : ChangeSpec := { name := "fnSlotHost", fn := fun _ => fun
  | [d] => { results := [.lit (.bool true)], args := [d] }
  | _ => none }
def fnSlotHostRow : OpenClaim := { program := "ytbnehcaallehbaa", sum := "6997e0bc0529efaaae25e493844ffa208251dbceeed1aa36a40f8227f90d8df7", func := "loop.example/loadbalancer/laws.FnSlotHost", spec := "fnSlotHost", plainKeys := false, apart := false }
def FnSlotHostSaid : Prop := fnSlotHostRow.holds Try.pinned (OpenSpec.ofChange fnSlotHostSpec)

/-- ITS FALSE NEIGHBOUR: 'it returns false'. Refute it at one input. -/
def fnSlotHostWrong : ChangeSpec := { name := "fnSlotHost", fn := fun _ => fun
  | [d] => { results := [.lit (.bool false)], args := [d] }
  | _ => none }
def FnSlotHostWrongFalsely : Prop := fnSlotHostRow.holds Try.pinned (OpenSpec.ofChange fnSlotHostWrong)

/-- 'laws.FnMovedSlots': WHATEVER THE INPUT: true; the input reads as it did. -/
def fnMovedSlotsSpec : ChangeSpec := { name := "fnMovedSlots", fn := fun _ => fun
  | [d] => { results := [.lit (.bool true)], args := [d] }
  | _ => none }
def fnMovedSlotsRow : OpenClaim := { program := "ytbnehcaallehbaa", sum := "6997e0bc0529efaaae25e493844ffa208251dbceeed1aa36a40f8227f90d8df7", func := "loop.example/loadbalancer/laws.FnMovedSlots", spec := "fnMovedSlots", plainKeys := false, apart := false }
def FnMovedSlotsSaid : Prop := fnMovedSlotsRow.holds Try.pinned (OpenSpec.ofChange fnMovedSlotsSpec)

/-- ITS FALSE NEIGHBOUR: 'it returns false'. Refute it at one input. -/
def fnMovedSlotsWrong : ChangeSpec := { name := "fnMovedSlots", fn := fun _ => fun
  | [d] => { results := [.lit (.bool false)], args := [d] }
  | _ => none }
def FnMovedSlotsWrongFalsely : Prop := fnMovedSlotsRow.holds Try.pinned (OpenSpec.ofChange fnMovedSlotsWrong)

/-- 'laws.FnFlowsOn': WHATEVER THE INPUT: true; the input reads as it did. -/
def fnFlowsOnSpec : ChangeSpec := { name := "fnFlowsOn", fn := fun _ => fun
  | [d] => { results := [.lit (.bool true)], args := [d] }
  | _ => none }
def fnFlowsOnRow : OpenClaim := { program := "ytbnehcaallehbaa", sum := "6997e0bc0529efaaae25e493844ffa208251dbceeed1aa36a40f8227f90d8df7", func := "loop.example/loadbalancer/laws.FnFlowsOn", spec := "fnFlowsOn", plainKeys := false, apart := false }
def FnFlowsOnSaid : Prop := fnFlowsOnRow.holds Try.pinned (OpenSpec.ofChange fnFlowsOnSpec)

/-- ITS FALSE NEIGHBOUR: 'it returns false'. Refute it at one input. -/
def fnFlowsOnWrong : ChangeSpec := { name := "fnFlowsOn", fn := fun _ => fun
  | [d] => { results := [.lit (.bool false)], args := [d] }
  | _ => none }
def FnFlowsOnWrongFalsely : Prop := fnFlowsOnRow.holds Try.pinned (OpenSpec.ofChange fnFlowsOnWrong)

/-- 'laws.FnExactSlotTable': WHATEVER THE INPUT: true; the input reads as it did. -/
def fnExactSlotTableSpec : ChangeSpec := { name := "fnExactSlotTable", fn := fun _ => fun
  | [d] => { results := [.lit (.bool true)], args := [d] }
  | _ => none }
def fnExactSlotTableRow : OpenClaim := { program := "ytbnehcaallehbaa", sum := "6997e0bc0529efaaae25e493844ffa208251dbceeed1aa36a40f8227f90d8df7", func := "loop.example/loadbalancer/laws.FnExactSlotTable", spec := "fnExactSlotTable", plainKeys := false, apart := false }
def FnExactSlotTableSaid : Prop := fnExactSlotTableRow.holds Try.pinned (OpenSpec.ofChange fnExactSlotTableSpec)

/-- ITS FALSE NEIGHBOUR: 'it returns false'. Refute it at one input. -/
def fnExactSlotTableWrong : ChangeSpec := { name := "fnExactSlotTable", fn := fun _ => fun
  | [d] => { results := [.lit (.bool false)], args := [d] }
  | _ => none }
def FnExactSlotTableWrongFalsely : Prop := fnExactSlotTableRow.holds Try.pinned (OpenSpec.ofChange fnExactSlotTableWrong)

/-- 'laws.FnSlotTable': WHATEVER THE INPUT: true; the input reads as it did. -/
def fnSlotTableSpec : ChangeSpec := { name := "fnSlotTable", fn := fun _ => fun
  | [d] => { results := [.lit (.bool true)], args := [d] }
  | _ => none }
def fnSlotTableRow : OpenClaim := { program := "ytbnehcaallehbaa", sum := "6997e0bc0529efaaae25e493844ffa208251dbceeed1aa36a40f8227f90d8df7", func := "loop.example/loadbalancer/laws.FnSlotTable", spec := "fnSlotTable", plainKeys := false, apart := false }
def FnSlotTableSaid : Prop := fnSlotTableRow.holds Try.pinned (OpenSpec.ofChange fnSlotTableSpec)

/-- ITS FALSE NEIGHBOUR: 'it returns false'. Refute it at one input. -/
def fnSlotTableWrong : ChangeSpec := { name := "fnSlotTable", fn := fun _ => fun
  | [d] => { results := [.lit (.bool false)], args := [d] }
  | _ => none }
def FnSlotTableWrongFalsely : Prop := fnSlotTableRow.holds Try.pinned (OpenSpec.ofChange fnSlotTableWrong)

/-- 'laws.FnChooseHost': WHATEVER THE INPUT: true; the input reads as it did. -/
def fnChooseHostSpec : ChangeSpec := { name := "fnChooseHost", fn := fun _ => fun
  | [d] => { results := [.lit (.bool true)], args := [d] }
  | _ => none }
def fnChooseHostRow : OpenClaim := { program := "ytbnehcaallehbaa", sum := "6997e0bc0529efaaae25e493844ffa208251dbceeed1aa36a40f8227f90d8df7", func := "loop.example/loadbalancer/laws.FnChooseHost", spec := "fnChooseHost", unfollowed := true, recurses := true, plainKeys := false, apart := false }
def FnChooseHostSaid : Prop := fnChooseHostRow.holds Try.pinned (OpenSpec.ofChange fnChooseHostSpec)

/-- ITS FALSE NEIGHBOUR: 'it returns false'. Refute it at one input. -/
def fnChooseHostWrong : ChangeSpec := { name := "fnChooseHost", fn := fun _ => fun
  | [d] => { results := [.lit (.bool false)], args := [d] }
  | _ => none }
def FnChooseHostWrongFalsely : Prop := fnChooseHostRow.holds Try.pinned (OpenSpec.ofChange fnChooseHostWrong)

/-- 'laws.FnDrainSticks': WHATEVER THE INPUT: true; the input reads as it did. -/
def fnDrainSticksSpec : ChangeSpec := { name := "fnDrainSticks", fn := fun _ => fun
  | [d] => { results := [.lit (.bool true)], args := [d] }
  | _ => none }
def fnDrainSticksRow : OpenClaim := { program := "ytbnehcaallehbaa", sum := "6997e0bc0529efaaae25e493844ffa208251dbceeed1aa36a40f8227f90d8df7", func := "loop.example/loadbalancer/laws.FnDrainSticks", spec := "fnDrainSticks", unfollowed := true, recurses := true, plainKeys := false, apart := false }
def FnDrainSticksSaid : Prop := fnDrainSticksRow.holds Try.pinned (OpenSpec.ofChange fnDrainSticksSpec)

/-- ITS FALSE NEIGHBOUR: 'it returns false'. Refute it at one input. -/
def fnDrainSticksWrong : ChangeSpec := { name := "fnDrainSticks", fn := fun _ => fun
  | [d] => { results := [.lit (.bool false)], args := [d] }
  | _ => none }
def FnDrainSticksWrongFalsely : Prop := fnDrainSticksRow.holds Try.pinned (OpenSpec.ofChange fnDrainSticksWrong)

/- THE SECOND FORM. 'bulk': how many values and letters a reading holds, each counted each time it is reached (what is shared counts as often as it is met; a slice's spare places count too). A statement '..UptoSaid' is the law's where the arguments, and the package variables that the reading takes, are together of bulk at most 1048576: NARROWER than '..Said'. Prove '..Said' where nothing that the law and all that it calls make is longer than what came in: it says more and counts as full. Else prove '..UptoSaid'. A law counts once. -/
mutual
def uptoBulk {H : Type} : DataW H → Nat
  | .lit (.string bytes) => bytes.length + 1
  | .lit _ => 1
  | .nil => 1
  | .ptr d => uptoBulk d + 1
  | .slice elems spare => uptoBulkAll elems + uptoBulkAll spare + 1
  | .agg parts => uptoBulkAll parts + 1
  | .iface _ d => uptoBulk d + 1
  | .map entries => uptoBulkEntries entries + 1
  | .held _ => 1
def uptoBulkAll {H : Type} : List (DataW H) → Nat
  | [] => 0
  | d :: r => uptoBulk d + uptoBulkAll r
def uptoBulkEntries {H : Type} : List (Lit × DataW H) → Nat
  | [] => 0
  | x :: r => uptoBulkEntry x + uptoBulkEntries r
def uptoBulkEntry {H : Type} : Lit × DataW H → Nat
  | (.string bytes, d) => bytes.length + uptoBulk d + 1
  | (_, d) => uptoBulk d + 1
 end
def uptoSmall : (H : Type) → List (DataW H) → Bool := fun _ ds => decide (uptoBulkAll ds ≤ 1048576)
def OpenSpec.upto (s : _root_.Go.ChangeSpec) : _root_.Go.OpenSpec := { _root_.Go.OpenSpec.ofChange s with cond := some uptoSmall }

/-- 'laws.FnRingOf', WHERE WHAT IT READS IS OF BULK AT MOST 1048576: true; the input reads as it did. -/
def fnRingOfUptoRow : OpenClaim := { program := "ytbnehcaallehbaa", sum := "6997e0bc0529efaaae25e493844ffa208251dbceeed1aa36a40f8227f90d8df7", func := "loop.example/loadbalancer/laws.FnRingOf", spec := "fnRingOf", unfollowed := true, recurses := true, plainKeys := false, apart := false, narrowed := true }
def FnRingOfUptoSaid : Prop := fnRingOfUptoRow.holds Try.pinned (OpenSpec.upto fnRingOfSpec)

/-- 'laws.FnExactRingOf', WHERE WHAT IT READS IS OF BULK AT MOST 1048576: true; the input reads as it did. -/
def fnExactRingOfUptoRow : OpenClaim := { program := "ytbnehcaallehbaa", sum := "6997e0bc0529efaaae25e493844ffa208251dbceeed1aa36a40f8227f90d8df7", func := "loop.example/loadbalancer/laws.FnExactRingOf", spec := "fnExactRingOf", unfollowed := true, recurses := true, plainKeys := false, apart := false, narrowed := true }
def FnExactRingOfUptoSaid : Prop := fnExactRingOfUptoRow.holds Try.pinned (OpenSpec.upto fnExactRingOfSpec)

/-- 'laws.FnRingHost', WHERE WHAT IT READS IS OF BULK AT MOST 1048576: true; the input reads as it did. -/
def fnRingHostUptoRow : OpenClaim := { program := "ytbnehcaallehbaa", sum := "6997e0bc0529efaaae25e493844ffa208251dbceeed1aa36a40f8227f90d8df7", func := "loop.example/loadbalancer/laws.FnRingHost", spec := "fnRingHost", plainKeys := false, apart := false, narrowed := true }
def FnRingHostUptoSaid : Prop := fnRingHostUptoRow.holds Try.pinned (OpenSpec.upto fnRingHostSpec)

/-- 'laws.FnTableValid', WHERE WHAT IT READS IS OF BULK AT MOST 1048576: true; the input reads as it did. -/
def fnTableValidUptoRow : OpenClaim := { program := "ytbnehcaallehbaa", sum := "6997e0bc0529efaaae25e493844ffa208251dbceeed1aa36a40f8227f90d8df7", func := "loop.example/loadbalancer/laws.FnTableValid", spec := "fnTableValid", plainKeys := false, apart := false, narrowed := true }
def FnTableValidUptoSaid : Prop := fnTableValidUptoRow.holds Try.pinned (OpenSpec.upto fnTableValidSpec)

/-- 'laws.FnSlotHost', WHERE WHAT IT READS IS OF BULK AT MOST 1048576: true; the input reads as it did. -/
def fnSlotHostUptoRow : OpenClaim := { program := "ytbnehcaallehbaa", sum := "6997e0bc0529efaaae25e493844ffa208251dbceeed1aa36a40f8227f90d8df7", func := "loop.example/loadbalancer/laws.FnSlotHost", spec := "fnSlotHost", plainKeys := false, apart := false, narrowed := true }
def FnSlotHostUptoSaid : Prop := fnSlotHostUptoRow.holds Try.pinned (OpenSpec.upto fnSlotHostSpec)

/-- 'laws.FnMovedSlots', WHERE WHAT IT READS IS OF BULK AT MOST 1048576: true; the input reads as it did. -/
def fnMovedSlotsUptoRow : OpenClaim := { program := "ytbnehcaallehbaa", sum := "6997e0bc0529efaaae25e493844ffa208251dbceeed1aa36a40f8227f90d8df7", func := "loop.example/loadbalancer/laws.FnMovedSlots", spec := "fnMovedSlots", plainKeys := false, apart := false, narrowed := true }
def FnMovedSlotsUptoSaid : Prop := fnMovedSlotsUptoRow.holds Try.pinned (OpenSpec.upto fnMovedSlotsSpec)

/-- 'laws.FnFlowsOn', WHERE WHAT IT READS IS OF BULK AT MOST 1048576: true; the input reads as it did. -/
def fnFlowsOnUptoRow : OpenClaim := { program := "ytbnehcaallehbaa", sum := "6997e0bc0529efaaae25e493844ffa208251dbceeed1aa36a40f8227f90d8df7", func := "loop.example/loadbalancer/laws.FnFlowsOn", spec := "fnFlowsOn", plainKeys := false, apart := false, narrowed := true }
def FnFlowsOnUptoSaid : Prop := fnFlowsOnUptoRow.holds Try.pinned (OpenSpec.upto fnFlowsOnSpec)

/-- 'laws.FnExactSlotTable', WHERE WHAT IT READS IS OF BULK AT MOST 1048576: true; the input reads as it did. -/
def fnExactSlotTableUptoRow : OpenClaim := { program := "ytbnehcaallehbaa", sum := "6997e0bc0529efaaae25e493844ffa208251dbceeed1aa36a40f8227f90d8df7", func := "loop.example/loadbalancer/laws.FnExactSlotTable", spec := "fnExactSlotTable", plainKeys := false, apart := false, narrowed := true }
def FnExactSlotTableUptoSaid : Prop := fnExactSlotTableUptoRow.holds Try.pinned (OpenSpec.upto fnExactSlotTableSpec)

/-- 'laws.FnSlotTable', WHERE WHAT IT READS IS OF BULK AT MOST 1048576: true; the input reads as it did. -/
def fnSlotTableUptoRow : OpenClaim := { program := "ytbnehcaallehbaa", sum := "6997e0bc0529efaaae25e493844ffa208251dbceeed1aa36a40f8227f90d8df7", func := "loop.example/loadbalancer/laws.FnSlotTable", spec := "fnSlotTable", plainKeys := false, apart := false, narrowed := true }
def FnSlotTableUptoSaid : Prop := fnSlotTableUptoRow.holds Try.pinned (OpenSpec.upto fnSlotTableSpec)

/-- 'laws.FnChooseHost', WHERE WHAT IT READS IS OF BULK AT MOST 1048576: true; the input reads as it did. -/
def fnChooseHostUptoRow : OpenClaim := { program := "ytbnehcaallehbaa", sum := "6997e0bc0529efaaae25e493844ffa208251dbceeed1aa36a40f8227f90d8df7", func := "loop.example/loadbalancer/laws.FnChooseHost", spec := "fnChooseHost", unfollowed := true, recurses := true, plainKeys := false, apart := false, narrowed := true }
def FnChooseHostUptoSaid : Prop := fnChooseHostUptoRow.holds Try.pinned (OpenSpec.upto fnChooseHostSpec)

/-- 'laws.FnDrainSticks', WHERE WHAT IT READS IS OF BULK AT MOST 1048576: true; the input reads as it did. -/
def fnDrainSticksUptoRow : OpenClaim := { program := "ytbnehcaallehbaa", sum := "6997e0bc0529efaaae25e493844ffa208251dbceeed1aa36a40f8227f90d8df7", func := "loop.example/loadbalancer/laws.FnDrainSticks", spec := "fnDrainSticks", unfollowed := true, recurses := true, plainKeys := false, apart := false, narrowed := true }
def FnDrainSticksUptoSaid : Prop := fnDrainSticksUptoRow.holds Try.pinned (OpenSpec.upto fnDrainSticksSpec)

end Rows
end Go.Proofs.Ytbnehcaallehbaa
