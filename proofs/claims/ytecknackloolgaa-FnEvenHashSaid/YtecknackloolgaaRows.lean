/-
  No cell of these rows narrows 'for every input' (looked for: loops, veiled, ifaces, maps, wideKeys, modest, calm, conditions, laid).
  DERIVED. THE GIVEN ROWS OF THIS SEAT. 12 by the template 'for every input the law returns true; each argument reads behind the call as it read before'; 0 by the template 'total and deterministic' (their statements: YtecknackloolgaaTotals.lean).
  GIVEN WITH THE SEED: the statements are not yours to turn. If you find one false, say at which input.
  Laid BY PROGRAM, IN A SANDBOX (cutbox-rows.mjs): the forced cells as the released guide's own fill.sh prints them over the translation ad25d0eef65a69fe… (all of the seat's roots in one cut). By AI agents, Wed Nov 11 2026. No macro, syntax, notation, axiom, sorry.
-/
import Derived.Test.YtecknackloolgaaChecked
import GoSem.Claim
import GoSem.ClaimJoined
import GoSem.ClaimMapViews
import Derived.JoinedTies
import Derived.KernelRfl
namespace Go.Proofs.Ytecknackloolgaa
/- THE CELL 'sum', in the pinned program and in every row, IS THE sha256 OF THE DUMP (.gsa) THAT YtecknackloolgaaProg.lean LOADS. Nothing in Lean hashes anything: it is a label: what it is worth is what the hold of that sum in a sandbox is worth. -/
noncomputable def Try.pinned : Pinned := { name := "ytecknackloolgaa", sum := "ad25d0eef65a69fecf1f4aecca5ca73561828e8182dc7c304e3c5d3a7ba73505", checked := Try.checked }
namespace Rows
def none {H : Type} : Left H := { results := [], args := [] }

/-- 'laws.FnHostState': WHATEVER THE INPUT: true; the input reads as it did. -/
def fnHostStateSpec : ChangeSpec := { name := "fnHostState", fn := fun _ => fun
  | [d] => { results := [.lit (.bool true)], args := [d] }
  | _ => none }
def fnHostStateRow : OpenClaim := { program := "ytecknackloolgaa", sum := "ad25d0eef65a69fecf1f4aecca5ca73561828e8182dc7c304e3c5d3a7ba73505", func := "loop.example/loadbalancer/laws.FnHostState", spec := "fnHostState", unfollowed := true, recurses := true, plainKeys := false, apart := false }
def FnHostStateSaid : Prop := fnHostStateRow.holds Try.pinned (OpenSpec.ofChange fnHostStateSpec)

/-- ITS FALSE NEIGHBOUR: 'it returns false'. Refute it at one input. -/
def fnHostStateWrong : ChangeSpec := { name := "fnHostState", fn := fun _ => fun
  | [d] => { results := [.lit (.bool false)], args := [d] }
  | _ => none }
def FnHostStateWrongFalsely : Prop := fnHostStateRow.holds Try.pinned (OpenSpec.ofChange fnHostStateWrong)

/-- 'laws.FnTotalWeight': WHATEVER THE INPUT: true; the input reads as it did. -/
def fnTotalWeightSpec : ChangeSpec := { name := "fnTotalWeight", fn := fun _ => fun
  | [d] => { results := [.lit (.bool true)], args := [d] }
  | _ => none }
def fnTotalWeightRow : OpenClaim := { program := "ytecknackloolgaa", sum := "ad25d0eef65a69fecf1f4aecca5ca73561828e8182dc7c304e3c5d3a7ba73505", func := "loop.example/loadbalancer/laws.FnTotalWeight", spec := "fnTotalWeight", plainKeys := false, apart := false }
def FnTotalWeightSaid : Prop := fnTotalWeightRow.holds Try.pinned (OpenSpec.ofChange fnTotalWeightSpec)

/-- ITS FALSE NEIGHBOUR: 'it returns false'. Refute it at one input. -/
def fnTotalWeightWrong : ChangeSpec := { name := "fnTotalWeight", fn := fun _ => fun
  | [d] => { results := [.lit (.bool false)], args := [d] }
  | _ => none }
def FnTotalWeightWrongFalsely : Prop := fnTotalWeightRow.holds Try.pinned (OpenSpec.ofChange fnTotalWeightWrong)

/-- 'laws.FnRingHost': WHATEVER THE INPUT: true; the input reads as it did. -/
def fnRingHostSpec : ChangeSpec := { name := "fnRingHost", fn := fun _ => fun
  | [d] => { results := [.lit (.bool true)], args := [d] }
  | _ => none }
def fnRingHostRow : OpenClaim := { program := "ytecknackloolgaa", sum := "ad25d0eef65a69fecf1f4aecca5ca73561828e8182dc7c304e3c5d3a7ba73505", func := "loop.example/loadbalancer/laws.FnRingHost", spec := "fnRingHost", plainKeys := false, apart := false }
def FnRingHostSaid : Prop := fnRingHostRow.holds Try.pinned (OpenSpec.ofChange fnRingHostSpec)

/-- ITS FALSE NEIGHBOUR: 'it returns false'. Refute it at one input. -/
def fnRingHostWrong : ChangeSpec := { name := "fnRingHost", fn := fun _ => fun
  | [d] => { results := [.lit (.bool false)], args := [d] }
  | _ => none }
def FnRingHostWrongFalsely : Prop := fnRingHostRow.holds Try.pinned (OpenSpec.ofChange fnRingHostWrong)

/-- 'laws.FnExactSetState': WHATEVER THE INPUT: true; the input reads as it did. -/
def fnExactSetStateSpec : ChangeSpec := { name := "fnExactSetState", fn := fun _ => fun
  | [d1, d2, d3] => { results := [.lit (.bool true)], args := [d1, d2, d3] }
  | _ => none }
def fnExactSetStateRow : OpenClaim := { program := "ytecknackloolgaa", sum := "ad25d0eef65a69fecf1f4aecca5ca73561828e8182dc7c304e3c5d3a7ba73505", func := "loop.example/loadbalancer/laws.FnExactSetState", spec := "fnExactSetState", unfollowed := true, recurses := true, plainKeys := false, apart := false }
def FnExactSetStateSaid : Prop := fnExactSetStateRow.holds Try.pinned (OpenSpec.ofChange fnExactSetStateSpec)

/-- ITS FALSE NEIGHBOUR: 'it returns false'. Refute it at one input. -/
def fnExactSetStateWrong : ChangeSpec := { name := "fnExactSetState", fn := fun _ => fun
  | [d1, d2, d3] => { results := [.lit (.bool false)], args := [d1, d2, d3] }
  | _ => none }
def FnExactSetStateWrongFalsely : Prop := fnExactSetStateRow.holds Try.pinned (OpenSpec.ofChange fnExactSetStateWrong)

/-- 'laws.FnEvenHash': WHATEVER THE INPUT: true; the input reads as it did. -/
def fnEvenHashSpec : ChangeSpec := { name := "fnEvenHash", fn := fun _ => fun
  | [d] => { results := [.lit (.bool true)], args := [d] }
  | _ => none }
def fnEvenHashRow : OpenClaim := { program := "ytecknackloolgaa", sum := "ad25d0eef65a69fecf1f4aecca5ca73561828e8182dc7c304e3c5d3a7ba73505", func := "loop.example/loadbalancer/laws.FnEvenHash", spec := "fnEvenHash", plainKeys := false, apart := false }
def FnEvenHashSaid : Prop := fnEvenHashRow.holds Try.pinned (OpenSpec.ofChange fnEvenHashSpec)

/-- ITS FALSE NEIGHBOUR: 'it returns false'. Refute it at one input. -/
def fnEvenHashWrong : ChangeSpec := { name := "fnEvenHash", fn := fun _ => fun
  | [d] => { results := [.lit (.bool false)], args := [d] }
  | _ => none }
def FnEvenHashWrongFalsely : Prop := fnEvenHashRow.holds Try.pinned (OpenSpec.ofChange fnEvenHashWrong)

/-- 'laws.FnExactHostsUp': WHATEVER THE INPUT: true; the input reads as it did. -/
def fnExactHostsUpSpec : ChangeSpec := { name := "fnExactHostsUp", fn := fun _ => fun
  | [d] => { results := [.lit (.bool true)], args := [d] }
  | _ => none }
def fnExactHostsUpRow : OpenClaim := { program := "ytecknackloolgaa", sum := "ad25d0eef65a69fecf1f4aecca5ca73561828e8182dc7c304e3c5d3a7ba73505", func := "loop.example/loadbalancer/laws.FnExactHostsUp", spec := "fnExactHostsUp", plainKeys := false, apart := false }
def FnExactHostsUpSaid : Prop := fnExactHostsUpRow.holds Try.pinned (OpenSpec.ofChange fnExactHostsUpSpec)

/-- ITS FALSE NEIGHBOUR: 'it returns false'. Refute it at one input. -/
def fnExactHostsUpWrong : ChangeSpec := { name := "fnExactHostsUp", fn := fun _ => fun
  | [d] => { results := [.lit (.bool false)], args := [d] }
  | _ => none }
def FnExactHostsUpWrongFalsely : Prop := fnExactHostsUpRow.holds Try.pinned (OpenSpec.ofChange fnExactHostsUpWrong)

/-- 'laws.FnHostsUp': WHATEVER THE INPUT: true; the input reads as it did. -/
def fnHostsUpSpec : ChangeSpec := { name := "fnHostsUp", fn := fun _ => fun
  | [d] => { results := [.lit (.bool true)], args := [d] }
  | _ => none }
def fnHostsUpRow : OpenClaim := { program := "ytecknackloolgaa", sum := "ad25d0eef65a69fecf1f4aecca5ca73561828e8182dc7c304e3c5d3a7ba73505", func := "loop.example/loadbalancer/laws.FnHostsUp", spec := "fnHostsUp", unfollowed := true, recurses := true, plainKeys := false, apart := false }
def FnHostsUpSaid : Prop := fnHostsUpRow.holds Try.pinned (OpenSpec.ofChange fnHostsUpSpec)

/-- ITS FALSE NEIGHBOUR: 'it returns false'. Refute it at one input. -/
def fnHostsUpWrong : ChangeSpec := { name := "fnHostsUp", fn := fun _ => fun
  | [d] => { results := [.lit (.bool false)], args := [d] }
  | _ => none }
def FnHostsUpWrongFalsely : Prop := fnHostsUpRow.holds Try.pinned (OpenSpec.ofChange fnHostsUpWrong)

/-- 'laws.FnExactRendezvousHost': WHATEVER THE INPUT: true; the input reads as it did. -/
def fnExactRendezvousHostSpec : ChangeSpec := { name := "fnExactRendezvousHost", fn := fun _ => fun
  | [d1, d2] => { results := [.lit (.bool true)], args := [d1, d2] }
  | _ => none }
def fnExactRendezvousHostRow : OpenClaim := { program := "ytecknackloolgaa", sum := "ad25d0eef65a69fecf1f4aecca5ca73561828e8182dc7c304e3c5d3a7ba73505", func := "loop.example/loadbalancer/laws.FnExactRendezvousHost", spec := "fnExactRendezvousHost", plainKeys := false, apart := false }
def FnExactRendezvousHostSaid : Prop := fnExactRendezvousHostRow.holds Try.pinned (OpenSpec.ofChange fnExactRendezvousHostSpec)

/-- ITS FALSE NEIGHBOUR: 'it returns false'. Refute it at one input. -/
def fnExactRendezvousHostWrong : ChangeSpec := { name := "fnExactRendezvousHost", fn := fun _ => fun
  | [d1, d2] => { results := [.lit (.bool false)], args := [d1, d2] }
  | _ => none }
def FnExactRendezvousHostWrongFalsely : Prop := fnExactRendezvousHostRow.holds Try.pinned (OpenSpec.ofChange fnExactRendezvousHostWrong)

/-- 'laws.FnExactFewestHost': WHATEVER THE INPUT: true; the input reads as it did. -/
def fnExactFewestHostSpec : ChangeSpec := { name := "fnExactFewestHost", fn := fun _ => fun
  | [d1, d2] => { results := [.lit (.bool true)], args := [d1, d2] }
  | _ => none }
def fnExactFewestHostRow : OpenClaim := { program := "ytecknackloolgaa", sum := "ad25d0eef65a69fecf1f4aecca5ca73561828e8182dc7c304e3c5d3a7ba73505", func := "loop.example/loadbalancer/laws.FnExactFewestHost", spec := "fnExactFewestHost", plainKeys := false, apart := false }
def FnExactFewestHostSaid : Prop := fnExactFewestHostRow.holds Try.pinned (OpenSpec.ofChange fnExactFewestHostSpec)

/-- ITS FALSE NEIGHBOUR: 'it returns false'. Refute it at one input. -/
def fnExactFewestHostWrong : ChangeSpec := { name := "fnExactFewestHost", fn := fun _ => fun
  | [d1, d2] => { results := [.lit (.bool false)], args := [d1, d2] }
  | _ => none }
def FnExactFewestHostWrongFalsely : Prop := fnExactFewestHostRow.holds Try.pinned (OpenSpec.ofChange fnExactFewestHostWrong)

/-- 'laws.FnSetState': WHATEVER THE INPUT: true; the input reads as it did. -/
def fnSetStateSpec : ChangeSpec := { name := "fnSetState", fn := fun _ => fun
  | [d] => { results := [.lit (.bool true)], args := [d] }
  | _ => none }
def fnSetStateRow : OpenClaim := { program := "ytecknackloolgaa", sum := "ad25d0eef65a69fecf1f4aecca5ca73561828e8182dc7c304e3c5d3a7ba73505", func := "loop.example/loadbalancer/laws.FnSetState", spec := "fnSetState", unfollowed := true, recurses := true, plainKeys := false, apart := false }
def FnSetStateSaid : Prop := fnSetStateRow.holds Try.pinned (OpenSpec.ofChange fnSetStateSpec)

/-- ITS FALSE NEIGHBOUR: 'it returns false'. Refute it at one input. -/
def fnSetStateWrong : ChangeSpec := { name := "fnSetState", fn := fun _ => fun
  | [d] => { results := [.lit (.bool false)], args := [d] }
  | _ => none }
def FnSetStateWrongFalsely : Prop := fnSetStateRow.holds Try.pinned (OpenSpec.ofChange fnSetStateWrong)

/-- 'laws.FnExactTableValid': WHATEVER THE INPUT: true; the input reads as it did. -/
def fnExactTableValidSpec : ChangeSpec := { name := "fnExactTableValid", fn := fun _ => fun
  | [d] => { results := [.lit (.bool true)], args := [d] }
  | _ => none }
def fnExactTableValidRow : OpenClaim := { program := "ytecknackloolgaa", sum := "ad25d0eef65a69fecf1f4aecca5ca73561828e8182dc7c304e3c5d3a7ba73505", func := "loop.example/loadbalancer/laws.FnExactTableValid", spec := "fnExactTableValid", plainKeys := false, apart := false }
def FnExactTableValidSaid : Prop := fnExactTableValidRow.holds Try.pinned (OpenSpec.ofChange fnExactTableValidSpec)

/-- ITS FALSE NEIGHBOUR: 'it returns false'. Refute it at one input. -/
def fnExactTableValidWrong : ChangeSpec := { name := "fnExactTableValid", fn := fun _ => fun
  | [d] => { results := [.lit (.bool false)], args := [d] }
  | _ => none }
def FnExactTableValidWrongFalsely : Prop := fnExactTableValidRow.holds Try.pinned (OpenSpec.ofChange fnExactTableValidWrong)

/-- 'laws.FnTableValid': WHATEVER THE INPUT: true; the input reads as it did. -/
def fnTableValidSpec : ChangeSpec := { name := "fnTableValid", fn := fun _ => fun
  | [d] => { results := [.lit (.bool true)], args := [d] }
  | _ => none }
def fnTableValidRow : OpenClaim := { program := "ytecknackloolgaa", sum := "ad25d0eef65a69fecf1f4aecca5ca73561828e8182dc7c304e3c5d3a7ba73505", func := "loop.example/loadbalancer/laws.FnTableValid", spec := "fnTableValid", plainKeys := false, apart := false }
def FnTableValidSaid : Prop := fnTableValidRow.holds Try.pinned (OpenSpec.ofChange fnTableValidSpec)

/-- ITS FALSE NEIGHBOUR: 'it returns false'. Refute it at one input. -/
def fnTableValidWrong : ChangeSpec := { name := "fnTableValid", fn := fun _ => fun
  | [d] => { results := [.lit (.bool false)], args := [d] }
  | _ => none }
def FnTableValidWrongFalsely : Prop := fnTableValidRow.holds Try.pinned (OpenSpec.ofChange fnTableValidWrong)

/- THE SECOND FORM. 'bulk': how many values and letters a reading holds, each counted each time it is reached (what is shared counts as often as it is met; a slice's spare places count too). A statement '..UptoSaid' is the law's where the arguments, and the package variables that the reading takes, are together of bulk at most 1048576: NARROWER than '..Said'. Prove '..Said' where nothing that the law and all that it calls make is longer than what came in: it says more and counts as full. Else prove '..UptoSaid'. A law counts once. -/
mutual
def uptoBulk {H : Type} : DataW H → Nat
  | .lit (.string bytes) => bytes.length + 1
  | .lit _ => 1
  | .nil => 1
  | .ptr d => uptoBulk d + 1
  | .slice elems spare => uptoBulkAll elems + uptoBulkAll spare + 1
  | .agg parts => uptoBulkAll parts + 1
  | .iface _ d => uptoBulk d + 1
  | .map entries => uptoBulkEntries entries + 1
  | .held _ => 1
def uptoBulkAll {H : Type} : List (DataW H) → Nat
  | [] => 0
  | d :: r => uptoBulk d + uptoBulkAll r
def uptoBulkEntries {H : Type} : List (Lit × DataW H) → Nat
  | [] => 0
  | x :: r => uptoBulkEntry x + uptoBulkEntries r
def uptoBulkEntry {H : Type} : Lit × DataW H → Nat
  | (.string bytes, d) => bytes.length + uptoBulk d + 1
  | (_, d) => uptoBulk d + 1
 end
def uptoSmall : (H : Type) → List (DataW H) → Bool := fun _ ds => decide (uptoBulkAll ds ≤ 1048576)
def OpenSpec.upto (s : _root_.Go.ChangeSpec) : _root_.Go.OpenSpec := { _root_.Go.OpenSpec.ofChange s with cond := some uptoSmall }

/-- 'laws.FnHostState', WHERE WHAT IT READS IS OF BULK AT MOST 1048576: true; the input reads as it did. -/
def fnHostStateUptoRow : OpenClaim := { program := "ytecknackloolgaa", sum := "ad25d0eef65a69fecf1f4aecca5ca73561828e8182dc7c304e3c5d3a7ba73505", func := "loop.example/loadbalancer/laws.FnHostState", spec := "fnHostState", unfollowed := true, recurses := true, plainKeys := false, apart := false, narrowed := true }
def FnHostStateUptoSaid : Prop := fnHostStateUptoRow.holds Try.pinned (OpenSpec.upto fnHostStateSpec)

/-- 'laws.FnTotalWeight', WHERE WHAT IT READS IS OF BULK AT MOST 1048576: true; the input reads as it did. -/
def fnTotalWeightUptoRow : OpenClaim := { program := "ytecknackloolgaa", sum := "ad25d0eef65a69fecf1f4aecca5ca73561828e8182dc7c304e3c5d3a7ba73505", func := "loop.example/loadbalancer/laws.FnTotalWeight", spec := "fnTotalWeight", plainKeys := false, apart := false, narrowed := true }
def FnTotalWeightUptoSaid : Prop := fnTotalWeightUptoRow.holds Try.pinned (OpenSpec.upto fnTotalWeightSpec)

/-- 'laws.FnRingHost', WHERE WHAT IT READS IS OF BULK AT MOST 1048576: true; the input reads as it did. -/
def fnRingHostUptoRow : OpenClaim := { program := "ytecknackloolgaa", sum := "ad25d0eef65a69fecf1f4aecca5ca73561828e8182dc7c304e3c5d3a7ba73505", func := "loop.example/loadbalancer/laws.FnRingHost", spec := "fnRingHost", plainKeys := false, apart := false, narrowed := true }
def FnRingHostUptoSaid : Prop := fnRingHostUptoRow.holds Try.pinned (OpenSpec.upto fnRingHostSpec)

/-- 'laws.FnExactSetState', WHERE WHAT IT READS IS OF BULK AT MOST 1048576: true; the input reads as it did. -/
def fnExactSetStateUptoRow : OpenClaim := { program := "ytecknackloolgaa", sum := "ad25d0eef65a69fecf1f4aecca5ca73561828e8182dc7c304e3c5d3a7ba73505", func := "loop.example/loadbalancer/laws.FnExactSetState", spec := "fnExactSetState", unfollowed := true, recurses := true, plainKeys := false, apart := false, narrowed := true }
def FnExactSetStateUptoSaid : Prop := fnExactSetStateUptoRow.holds Try.pinned (OpenSpec.upto fnExactSetStateSpec)

/-- 'laws.FnEvenHash', WHERE WHAT IT READS IS OF BULK AT MOST 1048576: true; the input reads as it did. -/
def fnEvenHashUptoRow : OpenClaim := { program := "ytecknackloolgaa", sum := "ad25d0eef65a69fecf1f4aecca5ca73561828e8182dc7c304e3c5d3a7ba73505", func := "loop.example/loadbalancer/laws.FnEvenHash", spec := "fnEvenHash", plainKeys := false, apart := false, narrowed := true }
def FnEvenHashUptoSaid : Prop := fnEvenHashUptoRow.holds Try.pinned (OpenSpec.upto fnEvenHashSpec)

/-- 'laws.FnExactHostsUp', WHERE WHAT IT READS IS OF BULK AT MOST 1048576: true; the input reads as it did. -/
def fnExactHostsUpUptoRow : OpenClaim := { program := "ytecknackloolgaa", sum := "ad25d0eef65a69fecf1f4aecca5ca73561828e8182dc7c304e3c5d3a7ba73505", func := "loop.example/loadbalancer/laws.FnExactHostsUp", spec := "fnExactHostsUp", plainKeys := false, apart := false, narrowed := true }
def FnExactHostsUpUptoSaid : Prop := fnExactHostsUpUptoRow.holds Try.pinned (OpenSpec.upto fnExactHostsUpSpec)

/-- 'laws.FnHostsUp', WHERE WHAT IT READS IS OF BULK AT MOST 1048576: true; the input reads as it did. -/
def fnHostsUpUptoRow : OpenClaim := { program := "ytecknackloolgaa", sum := "ad25d0eef65a69fecf1f4aecca5ca73561828e8182dc7c304e3c5d3a7ba73505", func := "loop.example/loadbalancer/laws.FnHostsUp", spec := "fnHostsUp", unfollowed := true, recurses := true, plainKeys := false, apart := false, narrowed := true }
def FnHostsUpUptoSaid : Prop := fnHostsUpUptoRow.holds Try.pinned (OpenSpec.upto fnHostsUpSpec)

/-- 'laws.FnExactRendezvousHost', WHERE WHAT IT READS IS OF BULK AT MOST 1048576: true; the input reads as it did. -/
def fnExactRendezvousHostUptoRow : OpenClaim := { program := "ytecknackloolgaa", sum := "ad25d0eef65a69fecf1f4aecca5ca73561828e8182dc7c304e3c5d3a7ba73505", func := "loop.example/loadbalancer/laws.FnExactRendezvousHost", spec := "fnExactRendezvousHost", plainKeys := false, apart := false, narrowed := true }
def FnExactRendezvousHostUptoSaid : Prop := fnExactRendezvousHostUptoRow.holds Try.pinned (OpenSpec.upto fnExactRendezvousHostSpec)

/-- 'laws.FnExactFewestHost', WHERE WHAT IT READS IS OF BULK AT MOST 1048576: true; the input reads as it did. -/
def fnExactFewestHostUptoRow : OpenClaim := { program := "ytecknackloolgaa", sum := "ad25d0eef65a69fecf1f4aecca5ca73561828e8182dc7c304e3c5d3a7ba73505", func := "loop.example/loadbalancer/laws.FnExactFewestHost", spec := "fnExactFewestHost", plainKeys := false, apart := false, narrowed := true }
def FnExactFewestHostUptoSaid : Prop := fnExactFewestHostUptoRow.holds Try.pinned (OpenSpec.upto fnExactFewestHostSpec)

/-- 'laws.FnSetState', WHERE WHAT IT READS IS OF BULK AT MOST 1048576: true; the input reads as it did. -/
def fnSetStateUptoRow : OpenClaim := { program := "ytecknackloolgaa", sum := "ad25d0eef65a69fecf1f4aecca5ca73561828e8182dc7c304e3c5d3a7ba73505", func := "loop.example/loadbalancer/laws.FnSetState", spec := "fnSetState", unfollowed := true, recurses := true, plainKeys := false, apart := false, narrowed := true }
def FnSetStateUptoSaid : Prop := fnSetStateUptoRow.holds Try.pinned (OpenSpec.upto fnSetStateSpec)

/-- 'laws.FnExactTableValid', WHERE WHAT IT READS IS OF BULK AT MOST 1048576: true; the input reads as it did. -/
def fnExactTableValidUptoRow : OpenClaim := { program := "ytecknackloolgaa", sum := "ad25d0eef65a69fecf1f4aecca5ca73561828e8182dc7c304e3c5d3a7ba73505", func := "loop.example/loadbalancer/laws.FnExactTableValid", spec := "fnExactTableValid", plainKeys := false, apart := false, narrowed := true }
def FnExactTableValidUptoSaid : Prop := fnExactTableValidUptoRow.holds Try.pinned (OpenSpec.upto fnExactTableValidSpec)

/-- 'laws.FnTableValid', WHERE WHAT IT READS IS OF BULK AT MOST 1048576: true; the input reads as it did. -/
def fnTableValidUptoRow : OpenClaim := { program := "ytecknackloolgaa", sum := "ad25d0eef65a69fecf1f4aecca5ca73561828e8182dc7c304e3c5d3a7ba73505", func := "loop.example/loadbalancer/laws.FnTableValid", spec := "fnTableValid", plainKeys := false, apart := false, narrowed := true }
def FnTableValidUptoSaid : Prop := fnTableValidUptoRow.holds Try.pinned (OpenSpec.upto fnTableValidSpec)

end Rows
end Go.Proofs.Ytecknackloolgaa
