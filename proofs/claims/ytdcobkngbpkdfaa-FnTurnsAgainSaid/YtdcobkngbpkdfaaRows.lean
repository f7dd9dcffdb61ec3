/-
  No cell of these rows narrows 'for every input' (looked for: loops, veiled, ifaces, maps, wideKeys, modest, calm, conditions, laid).
  DERIVED. THE GIVEN ROWS OF THIS SEAT. 12 by the template 'for every input the law returns true; each argument reads behind the call as it read before'; 0 by the template 'total and deterministic' (their statements: YtdcobkngbpkdfaaTotals.lean).
  GIVEN WITH THE SEED: the statements are not yours to turn. If you find one false, say at which input.
  Laid BY PROGRAM, IN A SANDBOX (cutbox-rows.mjs): the forced cells as the released guide's own fill.sh prints them over the translation 1b752f3f6c5cdd42… (all of the seat's roots in one cut). By AI agents, Wed Nov 11 2026. No macro, syntax, notation, axiom, sorry.
-/
import Derived.Test.YtdcobkngbpkdfaaChecked
import GoSem.Claim
import GoSem.ClaimJoined
import GoSem.ClaimMapViews
import Derived.JoinedTies
import Derived.KernelRfl
namespace Go.Proofs.Ytdcobkngbpkdfaa
/- THE CELL 'sum', in the pinned program and in every row, IS THE sha256 OF THE DUMP (.gsa) THAT YtdcobkngbpkdfaaProg.lean LOADS. Nothing in Lean hashes anything: it is a label: what it is worth is what the hold of that sum in a sandbox is worth. -/
noncomputable def Try.pinned : Pinned := { name := "ytdcobkngbpkdfaa", sum := "1b752f3f6c5cdd421468631b72ef4f39e370de4e1b429cb35ac48138e3002012", checked := Try.checked }
namespace Rows
def none {H : Type} : Left H := { results := [], args := [] }

/-- 'laws.FnSlotHost': WHATEVER THE INPUT: true; the input reads as it did. -/
def fnSlotHostSpec : ChangeSpec := { name := "fnSlotHost", fn := fun _ => fun
  | [d] => { results := [.lit (.bool true)], args := [d] }
  | _ => none }
def fnSlotHostRow : OpenClaim := { program := "ytdcobkngbpkdfaa", sum := "1b752f3f6c5cdd421468631b72ef4f39e370de4e1b429cb35ac48138e3002012", func := "loop.example/loadbalancer/laws.FnSlotHost", spec := "fnSlotHost", plainKeys := false, apart := false }
def FnSlotHostSaid : Prop := fnSlotHostRow.holds Try.pinned (OpenSpec.ofChange fnSlotHostSpec)

/-- ITS FALSE NEIGHBOUR: 'it returns false'. Refute it at one input. -/
def fnSlotHostWrong : ChangeSpec := { name := "fnSlotHost", fn := fun _ => fun
  | [d] => { results := [.lit (.bool false)], args := [d] }
  | _ => none }
def FnSlotHostWrongFalsely : Prop := fnSlotHostRow.holds Try.pinned (OpenSpec.ofChange fnSlotHostWrong)

/-- 'laws.FnExactJumpHost': WHATEVER THE INPUT: true; the input reads as it did. -/
def fnExactJumpHostSpec : ChangeSpec := { name := "fnExactJumpHost", fn := fun _ => fun
  | [d1, d2] => { results := [.lit (.bool true)], args := [d1, d2] }
  | _ => none }
def fnExactJumpHostRow : OpenClaim := { program := "ytdcobkngbpkdfaa", sum := "1b752f3f6c5cdd421468631b72ef4f39e370de4e1b429cb35ac48138e3002012", func := "loop.example/loadbalancer/laws.FnExactJumpHost", spec := "fnExactJumpHost", plainKeys := false, apart := false }
def FnExactJumpHostSaid : Prop := fnExactJumpHostRow.holds Try.pinned (OpenSpec.ofChange fnExactJumpHostSpec)

/-- ITS FALSE NEIGHBOUR: 'it returns false'. Refute it at one input. -/
def fnExactJumpHostWrong : ChangeSpec := { name := "fnExactJumpHost", fn := fun _ => fun
  | [d1, d2] => { results := [.lit (.bool false)], args := [d1, d2] }
  | _ => none }
def FnExactJumpHostWrongFalsely : Prop := fnExactJumpHostRow.holds Try.pinned (OpenSpec.ofChange fnExactJumpHostWrong)

/-- 'laws.FnExactFlowsOn': WHATEVER THE INPUT: true; the input reads as it did. -/
def fnExactFlowsOnSpec : ChangeSpec := { name := "fnExactFlowsOn", fn := fun _ => fun
  | [d1, d2] => { results := [.lit (.bool true)], args := [d1, d2] }
  | _ => none }
def fnExactFlowsOnRow : OpenClaim := { program := "ytdcobkngbpkdfaa", sum := "1b752f3f6c5cdd421468631b72ef4f39e370de4e1b429cb35ac48138e3002012", func := "loop.example/loadbalancer/laws.FnExactFlowsOn", spec := "fnExactFlowsOn", plainKeys := false, apart := false }
def FnExactFlowsOnSaid : Prop := fnExactFlowsOnRow.holds Try.pinned (OpenSpec.ofChange fnExactFlowsOnSpec)

/-- ITS FALSE NEIGHBOUR: 'it returns false'. Refute it at one input. -/
def fnExactFlowsOnWrong : ChangeSpec := { name := "fnExactFlowsOn", fn := fun _ => fun
  | [d1, d2] => { results := [.lit (.bool false)], args := [d1, d2] }
  | _ => none }
def FnExactFlowsOnWrongFalsely : Prop := fnExactFlowsOnRow.holds Try.pinned (OpenSpec.ofChange fnExactFlowsOnWrong)

/-- 'laws.FnTurnsAgain': WHATEVER THE INPUT: true; the input reads as it did. -/
def fnTurnsAgainSpec : ChangeSpec := { name := "fnTurnsAgain", fn := fun _ => fun
  | [d] => { results := [.lit (.bool true)], args := [d] }
  | _ => none }
def fnTurnsAgainRow : OpenClaim := { program := "ytdcobkngbpkdfaa", sum := "1b752f3f6c5cdd421468631b72ef4f39e370de4e1b429cb35ac48138e3002012", func := "loop.example/loadbalancer/laws.FnTurnsAgain", spec := "fnTurnsAgain", plainKeys := false, apart := false }
def FnTurnsAgainSaid : Prop := fnTurnsAgainRow.holds Try.pinned (OpenSpec.ofChange fnTurnsAgainSpec)

/-- ITS FALSE NEIGHBOUR: 'it returns false'. Refute it at one input. -/
def fnTurnsAgainWrong : ChangeSpec := { name := "fnTurnsAgain", fn := fun _ => fun
  | [d] => { results := [.lit (.bool false)], args := [d] }
  | _ => none }
def FnTurnsAgainWrongFalsely : Prop := fnTurnsAgainRow.holds Try.pinned (OpenSpec.ofChange fnTurnsAgainWrong)

/-- 'laws.FnExactFindFlow': WHATEVER THE INPUT: true; the input reads as it did. -/
def fnExactFindFlowSpec : ChangeSpec := { name := "fnExactFindFlow", fn := fun _ => fun
  | [d1, d2] => { results := [.lit (.bool true)], args := [d1, d2] }
  | _ => none }
def fnExactFindFlowRow : OpenClaim := { program := "ytdcobkngbpkdfaa", sum := "1b752f3f6c5cdd421468631b72ef4f39e370de4e1b429cb35ac48138e3002012", func := "loop.example/loadbalancer/laws.FnExactFindFlow", spec := "fnExactFindFlow", unfollowed := true, recurses := true, plainKeys := false, apart := false }
def FnExactFindFlowSaid : Prop := fnExactFindFlowRow.holds Try.pinned (OpenSpec.ofChange fnExactFindFlowSpec)

/-- ITS FALSE NEIGHBOUR: 'it returns false'. Refute it at one input. -/
def fnExactFindFlowWrong : ChangeSpec := { name := "fnExactFindFlow", fn := fun _ => fun
  | [d1, d2] => { results := [.lit (.bool false)], args := [d1, d2] }
  | _ => none }
def FnExactFindFlowWrongFalsely : Prop := fnExactFindFlowRow.holds Try.pinned (OpenSpec.ofChange fnExactFindFlowWrong)

/-- 'laws.FnFewestHost': WHATEVER THE INPUT: true; the input reads as it did. -/
def fnFewestHostSpec : ChangeSpec := { name := "fnFewestHost", fn := fun _ => fun
  | [d] => { results := [.lit (.bool true)], args := [d] }
  | _ => none }
def fnFewestHostRow : OpenClaim := { program := "ytdcobkngbpkdfaa", sum := "1b752f3f6c5cdd421468631b72ef4f39e370de4e1b429cb35ac48138e3002012", func := "loop.example/loadbalancer/laws.FnFewestHost", spec := "fnFewestHost", unfollowed := true, recurses := true, plainKeys := false, apart := false }
def FnFewestHostSaid : Prop := fnFewestHostRow.holds Try.pinned (OpenSpec.ofChange fnFewestHostSpec)

/-- ITS FALSE NEIGHBOUR: 'it returns false'. Refute it at one input. -/
def fnFewestHostWrong : ChangeSpec := { name := "fnFewestHost", fn := fun _ => fun
  | [d] => { results := [.lit (.bool false)], args := [d] }
  | _ => none }
def FnFewestHostWrongFalsely : Prop := fnFewestHostRow.holds Try.pinned (OpenSpec.ofChange fnFewestHostWrong)

/-- 'laws.FnTurnsOf': WHATEVER THE INPUT: true; the input reads as it did. -/
def fnTurnsOfSpec : ChangeSpec := { name := "fnTurnsOf", fn := fun _ => fun
  | [d] => { results := [.lit (.bool true)], args := [d] }
  | _ => none }
def fnTurnsOfRow : OpenClaim := { program := "ytdcobkngbpkdfaa", sum := "1b752f3f6c5cdd421468631b72ef4f39e370de4e1b429cb35ac48138e3002012", func := "loop.example/loadbalancer/laws.FnTurnsOf", spec := "fnTurnsOf", plainKeys := false, apart := false }
def FnTurnsOfSaid : Prop := fnTurnsOfRow.holds Try.pinned (OpenSpec.ofChange fnTurnsOfSpec)

/-- ITS FALSE NEIGHBOUR: 'it returns false'. Refute it at one input. -/
def fnTurnsOfWrong : ChangeSpec := { name := "fnTurnsOf", fn := fun _ => fun
  | [d] => { results := [.lit (.bool false)], args := [d] }
  | _ => none }
def FnTurnsOfWrongFalsely : Prop := fnTurnsOfRow.holds Try.pinned (OpenSpec.ofChange fnTurnsOfWrong)

/-- 'laws.FnRendezvousHost': WHATEVER THE INPUT: true; the input reads as it did. -/
def fnRendezvousHostSpec : ChangeSpec := { name := "fnRendezvousHost", fn := fun _ => fun
  | [d] => { results := [.lit (.bool true)], args := [d] }
  | _ => none }
def fnRendezvousHostRow : OpenClaim := { program := "ytdcobkngbpkdfaa", sum := "1b752f3f6c5cdd421468631b72ef4f39e370de4e1b429cb35ac48138e3002012", func := "loop.example/loadbalancer/laws.FnRendezvousHost", spec := "fnRendezvousHost", unfollowed := true, recurses := true, plainKeys := false, apart := false }
def FnRendezvousHostSaid : Prop := fnRendezvousHostRow.holds Try.pinned (OpenSpec.ofChange fnRendezvousHostSpec)

/-- ITS FALSE NEIGHBOUR: 'it returns false'. Refute it at one input. -/
def fnRendezvousHostWrong : ChangeSpec := { name := "fnRendezvousHost", fn := fun _ => fun
  | [d] => { results := [.lit (.bool false)], args := [d] }
  | _ => none }
def FnRendezvousHostWrongFalsely : Prop := fnRendezvousHostRow.holds Try.pinned (OpenSpec.ofChange fnRendezvousHostWrong)

/-- 'laws.FnExactTurnsOf': WHATEVER THE INPUT: true; the input reads as it did. -/
def fnExactTurnsOfSpec : ChangeSpec := { name := "fnExactTurnsOf", fn := fun _ => fun
  | [d1, d2] => { results := [.lit (.bool true)], args := [d1, d2] }
  | _ => none }
def fnExactTurnsOfRow : OpenClaim := { program := "ytdcobkngbpkdfaa", sum := "1b752f3f6c5cdd421468631b72ef4f39e370de4e1b429cb35ac48138e3002012", func := "loop.example/loadbalancer/laws.FnExactTurnsOf", spec := "fnExactTurnsOf", plainKeys := false, apart := false }
def FnExactTurnsOfSaid : Prop := fnExactTurnsOfRow.holds Try.pinned (OpenSpec.ofChange fnExactTurnsOfSpec)

/-- ITS FALSE NEIGHBOUR: 'it returns false'. Refute it at one input. -/
def fnExactTurnsOfWrong : ChangeSpec := { name := "fnExactTurnsOf", fn := fun _ => fun
  | [d1, d2] => { results := [.lit (.bool false)], args := [d1, d2] }
  | _ => none }
def FnExactTurnsOfWrongFalsely : Prop := fnExactTurnsOfRow.holds Try.pinned (OpenSpec.ofChange fnExactTurnsOfWrong)

/-- 'laws.FnJumpHost': WHATEVER THE INPUT: true; the input reads as it did. -/
def fnJumpHostSpec : ChangeSpec := { name := "fnJumpHost", fn := fun _ => fun
  | [d] => { results := [.lit (.bool true)], args := [d] }
  | _ => none }
def fnJumpHostRow : OpenClaim := { program := "ytdcobkngbpkdfaa", sum := "1b752f3f6c5cdd421468631b72ef4f39e370de4e1b429cb35ac48138e3002012", func := "loop.example/loadbalancer/laws.FnJumpHost", spec := "fnJumpHost", plainKeys := false, apart := false }
def FnJumpHostSaid : Prop := fnJumpHostRow.holds Try.pinned (OpenSpec.ofChange fnJumpHostSpec)

/-- ITS FALSE NEIGHBOUR: 'it returns false'. Refute it at one input. -/
def fnJumpHostWrong : ChangeSpec := { name := "fnJumpHost", fn := fun _ => fun
  | [d] => { results := [.lit (.bool false)], args := [d] }
  | _ => none }
def FnJumpHostWrongFalsely : Prop := fnJumpHostRow.holds Try.pinned (OpenSpec.ofChange fnJumpHostWrong)

/-- 'laws.FnMovedSlots': WHATEVER THE INPUT: true; the input reads as it did. -/
def fnMovedSlotsSpec : ChangeSpec := { name := "fnMovedSlots", fn := fun _ => fun
  | [d] => { results := [.lit (.bool true)], args := [d] }
  | _ => none }
def fnMovedSlotsRow : OpenClaim := { program := "ytdcobkngbpkdfaa", sum := "1b752f3f6c5cdd421468631b72ef4f39e370de4e1b429cb35ac48138e3002012", func := "loop.example/loadbalancer/laws.FnMovedSlots", spec := "fnMovedSlots", plainKeys := false, apart := false }
def FnMovedSlotsSaid : Prop := fnMovedSlotsRow.holds Try.pinned (OpenSpec.ofChange fnMovedSlotsSpec)

/-- ITS FALSE NEIGHBOUR: 'it returns false'. Refute it at one input. -/
def fnMovedSlotsWrong : ChangeSpec := { name := "fnMovedSlots", fn := fun _ => fun
  | [d] => { results := [.lit (.bool false)], args := [d] }
  | _ => none }
def FnMovedSlotsWrongFalsely : Prop := fnMovedSlotsRow.holds Try.pinned (OpenSpec.ofChange fnMovedSlotsWrong)

/-- 'laws.FnFlowsOn': WHATEVER THE INPUT: true; the input reads as it did. -/
def fnFlowsOnSpec : ChangeSpec := { name := "fnFlowsOn", fn := fun _ => fun
  | [d] => { results := [.lit (.bool true)], args := [d] }
  | _ => none }
def fnFlowsOnRow : OpenClaim := { program := "ytdcobkngbpkdfaa", sum := "1b752f3f6c5cdd421468631b72ef4f39e370de4e1b429cb35ac48138e3002012", func := "loop.example/loadbalancer/laws.FnFlowsOn", spec := "fnFlowsOn", plainKeys := false, apart := false }
def FnFlowsOnSaid : Prop := fnFlowsOnRow.holds Try.pinned (OpenSpec.ofChange fnFlowsOnSpec)

/-- ITS FALSE NEIGHBOUR: 'it returns false'. Refute it at one input. -/
def fnFlowsOnWrong : ChangeSpec := { name := "fnFlowsOn", fn := fun _ => fun
  | [d] => { results := [.lit (.bool false)], args := [d] }
  | _ => none }
def FnFlowsOnWrongFalsely : Prop := fnFlowsOnRow.holds Try.pinned (OpenSpec.ofChange fnFlowsOnWrong)

/- THE SECOND FORM. 'bulk': how many values and letters a reading holds, each counted each time it is reached (what is shared counts as often as it is met; a slice's spare places count too). A statement '..UptoSaid' is the law's where the arguments, and the package variables that the reading takes, are together of bulk at most 1048576: NARROWER than '..Said'. Prove '..Said' where nothing that the law and all that it calls make is longer than what came in: it says more and counts as full. Else prove '..UptoSaid'. A law counts once. -/
mutual
def uptoBulk {H : Type} : DataW H → Nat
  | .lit (.string bytes) => bytes.length + 1
  | .lit _ => 1
  | .nil => 1
  | .ptr d => uptoBulk d + 1
  | .slice elems spare => uptoBulkAll elems + uptoBulkAll spare + 1
  | .agg parts => uptoBulkAll parts + 1
  | .iface _ d => uptoBulk d + 1
  | .map entries => uptoBulkEntries entries + 1
  | .held _ => 1
def uptoBulkAll {H : Type} : List (DataW H) → Nat
  | [] => 0
  | d :: r => uptoBulk d + uptoBulkAll r
def uptoBulkEntries {H : Type} : List (Lit × DataW H) → Nat
  | [] => 0
  | x :: r => uptoBulkEntry x + uptoBulkEntries r
def uptoBulkEntry {H : Type} : Lit × DataW H → Nat
  | (.string bytes, d) => bytes.length + uptoBulk d + 1
  | (_, d) => uptoBulk d + 1
 end
def uptoSmall : (H : Type) → List (DataW H) → Bool := fun _ ds => decide (uptoBulkAll ds ≤ 1048576)
def OpenSpec.upto (s : _root_.Go.ChangeSpec) : _root_.Go.OpenSpec := { _root_.Go.OpenSpec.ofChange s with cond := some uptoSmall }

/-- 'laws.FnSlotHost', WHERE WHAT IT READS IS OF BULK AT MOST 1048576: true; the input reads as it did. -/
def fnSlotHostUptoRow : OpenClaim := { program := "ytdcobkngbpkdfaa", sum := "1b752f3f6c5cdd421468631b72ef4f39e370de4e1b429cb35ac48138e3002012", func := "loop.example/loadbalancer/laws.FnSlotHost", spec := "fnSlotHost", plainKeys := false, apart := false, narrowed := true }
def FnSlotHostUptoSaid : Prop := fnSlotHostUptoRow.holds Try.pinned (OpenSpec.upto fnSlotHostSpec)

/-- 'laws.FnExactJumpHost', WHERE WHAT IT READS IS OF BULK AT MOST 1048576: true; the input reads as it did. -/
def fnExactJumpHostUptoRow : OpenClaim := { program := "ytdcobkngbpkdfaa", sum := "1b752f3f6c5cdd421468631b72ef4f39e370de4e1b429cb35ac48138e3002012", func := "loop.example/loadbalancer/laws.FnExactJumpHost", spec := "fnExactJumpHost", plainKeys := false, apart := false, narrowed := true }
def FnExactJumpHostUptoSaid : Prop := fnExactJumpHostUptoRow.holds Try.pinned (OpenSpec.upto fnExactJumpHostSpec)

/-- 'laws.FnExactFlowsOn', WHERE WHAT IT READS IS OF BULK AT MOST 1048576: true; the input reads as it did. -/
def fnExactFlowsOnUptoRow : OpenClaim := { program := "ytdcobkngbpkdfaa", sum := "1b752f3f6c5cdd421468631b72ef4f39e370de4e1b429cb35ac48138e3002012", func := "loop.example/loadbalancer/laws.FnExactFlowsOn", spec := "fnExactFlowsOn", plainKeys := false, apart := false, narrowed := true }
def FnExactFlowsOnUptoSaid : Prop := fnExactFlowsOnUptoRow.holds Try.pinned (OpenSpec.upto fnExactFlowsOnSpec)

/-- 'laws.FnTurnsAgain', WHERE WHAT IT READS IS OF BULK AT MOST 1048576: true; the input reads as it did. -/
def fnTurnsAgainUptoRow : OpenClaim := { program := "ytdcobkngbpkdfaa", sum := "1b752f3f6c5cdd421468631b72ef4f39e370de4e1b429cb35ac48138e3002012", func := "loop.example/loadbalancer/laws.FnTurnsAgain", spec := "fnTurnsAgain", plainKeys := false, apart := false, narrowed := true }
def FnTurnsAgainUptoSaid : Prop := fnTurnsAgainUptoRow.holds Try.pinned (OpenSpec.upto fnTurnsAgainSpec)

/-- 'laws.FnExactFindFlow', WHERE WHAT IT READS IS OF BULK AT MOST 1048576: true; the input reads as it did. -/
def fnExactFindFlowUptoRow : OpenClaim := { program := "ytdcobkngbpkdfaa", sum := "1b752f3f6c5cdd421468631b72ef4f39e370de4e1b429cb35ac48138e3002012", func := "loop.example/loadbalancer/laws.FnExactFindFlow", spec := "fnExactFindFlow", unfollowed := true, recurses := true, plainKeys := false, apart := false, narrowed := true }
def FnExactFindFlowUptoSaid : Prop := fnExactFindFlowUptoRow.holds Try.pinned (OpenSpec.upto fnExactFindFlowSpec)

/-- 'laws.FnFewestHost', WHERE WHAT IT READS IS OF BULK AT MOST 1048576: true; the input reads as it did. -/
def fnFewestHostUptoRow : OpenClaim := { program := "ytdcobkngbpkdfaa", sum := "1b752f3f6c5cdd421468631b72ef4f39e370de4e1b429cb35ac48138e3002012", func := "loop.example/loadbalancer/laws.FnFewestHost", spec := "fnFewestHost", unfollowed := true, recurses := true, plainKeys := false, apart := false, narrowed := true }
def FnFewestHostUptoSaid : Prop := fnFewestHostUptoRow.holds Try.pinned (OpenSpec.upto fnFewestHostSpec)

/-- 'laws.FnTurnsOf', WHERE WHAT IT READS IS OF BULK AT MOST 1048576: true; the input reads as it did. -/
def fnTurnsOfUptoRow : OpenClaim := { program := "ytdcobkngbpkdfaa", sum := "1b752f3f6c5cdd421468631b72ef4f39e370de4e1b429cb35ac48138e3002012", func := "loop.example/loadbalancer/laws.FnTurnsOf", spec := "fnTurnsOf", plainKeys := false, apart := false, narrowed := true }
def FnTurnsOfUptoSaid : Prop := fnTurnsOfUptoRow.holds Try.pinned (OpenSpec.upto fnTurnsOfSpec)

/-- 'laws.FnRendezvousHost', WHERE WHAT IT READS IS OF BULK AT MOST 1048576: true; the input reads as it did. -/
def fnRendezvousHostUptoRow : OpenClaim := { program := "ytdcobkngbpkdfaa", sum := "1b752f3f6c5cdd421468631b72ef4f39e370de4e1b429cb35ac48138e3002012", func := "loop.example/loadbalancer/laws.FnRendezvousHost", spec := "fnRendezvousHost", unfollowed := true, recurses := true, plainKeys := false, apart := false, narrowed := true }
def FnRendezvousHostUptoSaid : Prop := fnRendezvousHostUptoRow.holds Try.pinned (OpenSpec.upto fnRendezvousHostSpec)

/-- 'laws.FnExactTurnsOf', WHERE WHAT IT READS IS OF BULK AT MOST 1048576: true; the input reads as it did. -/
def fnExactTurnsOfUptoRow : OpenClaim := { program := "ytdcobkngbpkdfaa", sum := "1b752f3f6c5cdd421468631b72ef4f39e370de4e1b429cb35ac48138e3002012", func := "loop.example/loadbalancer/laws.FnExactTurnsOf", spec := "fnExactTurnsOf", plainKeys := false, apart := false, narrowed := true }
def FnExactTurnsOfUptoSaid : Prop := fnExactTurnsOfUptoRow.holds Try.pinned (OpenSpec.upto fnExactTurnsOfSpec)

/-- 'laws.FnJumpHost', WHERE WHAT IT READS IS OF BULK AT MOST 1048576: true; the input reads as it did. -/
def fnJumpHostUptoRow : OpenClaim := { program := "ytdcobkngbpkdfaa", sum := "1b752f3f6c5cdd421468631b72ef4f39e370de4e1b429cb35ac48138e3002012", func := "loop.example/loadbalancer/laws.FnJumpHost", spec := "fnJumpHost", plainKeys := false, apart := false, narrowed := true }
def FnJumpHostUptoSaid : Prop := fnJumpHostUptoRow.holds Try.pinned (OpenSpec.upto fnJumpHostSpec)

/-- 'laws.FnMovedSlots', WHERE WHAT IT READS IS OF BULK AT MOST 1048576: true; the input reads as it did. -/
def fnMovedSlotsUptoRow : OpenClaim := { program := "ytdcobkngbpkdfaa", sum := "1b752f3f6c5cdd421468631b72ef4f39e370de4e1b429cb35ac48138e3002012", func := "loop.example/loadbalancer/laws.FnMovedSlots", spec := "fnMovedSlots", plainKeys := false, apart := false, narrowed := true }
def FnMovedSlotsUptoSaid : Prop := fnMovedSlotsUptoRow.holds Try.pinned (OpenSpec.upto fnMovedSlotsSpec)

/-- 'laws.FnFlowsOn', WHERE WHAT IT READS IS OF BULK AT MOST 1048576: true; the input reads as it did. -/
def fnFlowsOnUptoRow : OpenClaim := { program := "ytdcobkngbpkdfaa", sum := "1b752f3f6c5cdd421468631b72ef4f39e370de4e1b429cb35ac48138e3002012", func := "loop.example/loadbalancer/laws.FnFlowsOn", spec := "fnFlowsOn", plainKeys := false, apart := false, narrowed := true }
def FnFlowsOnUptoSaid : Prop := fnFlowsOnUptoRow.holds Try.pinned (OpenSpec.upto fnFlowsOnSpec)

end Rows
end Go.Proofs.Ytdcobkngbpkdfaa
