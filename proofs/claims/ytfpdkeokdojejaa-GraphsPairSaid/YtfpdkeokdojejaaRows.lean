/-
  No cell of these rows narrows 'for every input' (looked for: loops, veiled, ifaces, maps, wideKeys, modest, calm, conditions, laid).
  DERIVED. THE GIVEN ROWS OF THIS SEAT. 7 by the template 'for every input the law returns true; each argument reads behind the call as it read before'; 0 by the template 'total and deterministic' (their statements: YtfpdkeokdojejaaTotals.lean).
  GIVEN WITH THE SEED: the statements are not yours to turn. If you find one false, say at which input.
  Laid BY PROGRAM, IN A SANDBOX (cutbox-rows.mjs): the forced cells as the released guide's own fill.sh prints them over the translation e9996637580bad9c… (all of the seat's roots in one cut). By AI agents, Wed Nov 11 2026. No macro, syntax, notation, axiom, sorry.
-/
import Derived.Test.YtfpdkeokdojejaaChecked
import GoSem.Claim
import GoSem.ClaimJoined
import GoSem.ClaimMapViews
import Derived.JoinedTies
import Derived.KernelRfl
namespace Go.Proofs.Ytfpdkeokdojejaa
/- THE CELL 'sum', in the pinned program and in every row, IS THE sha256 OF THE DUMP (.gsa) THAT YtfpdkeokdojejaaProg.lean LOADS. Nothing in Lean hashes anything: it is a label: what it is worth is what the hold of that sum in a sandbox is worth. -/
noncomputable def Try.pinned : Pinned := { name := "ytfpdkeokdojejaa", sum := "e9996637580bad9c9a7d42376904a4187d739e26b364179e979048c992c89c35", checked := Try.checked }
namespace Rows
def none {H : Type} : Left H := { results := [], args := [] }

/-- 'countinghouselaw05.GraphsPlay': WHATEVER THE INPUT: true; the input reads as it did. -/
def graphsPlaySpec : ChangeSpec := { name := "graphsPlay", fn := fun _ => fun
  | [d1, d2] => { results := [.lit (.bool true)], args := [d1, d2] }
  | _ => none }
def graphsPlayRow : OpenClaim := { program := "ytfpdkeokdojejaa", sum := "e9996637580bad9c9a7d42376904a4187d739e26b364179e979048c992c89c35", func := "countinghouse/countinghouselaw05.GraphsPlay", spec := "graphsPlay", unfollowed := true, recurses := true, plainKeys := false, apart := false }
def GraphsPlaySaid : Prop := graphsPlayRow.holds Try.pinned (OpenSpec.ofChange graphsPlaySpec)

/-- ITS FALSE NEIGHBOUR: 'it returns false'. Refute it at one input. -/
def graphsPlayWrong : ChangeSpec := { name := "graphsPlay", fn := fun _ => fun
  | [d1, d2] => { results := [.lit (.bool false)], args := [d1, d2] }
  | _ => none }
def GraphsPlayWrongFalsely : Prop := graphsPlayRow.holds Try.pinned (OpenSpec.ofChange graphsPlayWrong)

/-- 'countinghouselaw05.GraphsVoid': WHATEVER THE INPUT: true; the input reads as it did. -/
def graphsVoidSpec : ChangeSpec := { name := "graphsVoid", fn := fun _ => fun
  | [d] => { results := [.lit (.bool true)], args := [d] }
  | _ => none }
def graphsVoidRow : OpenClaim := { program := "ytfpdkeokdojejaa", sum := "e9996637580bad9c9a7d42376904a4187d739e26b364179e979048c992c89c35", func := "countinghouse/countinghouselaw05.GraphsVoid", spec := "graphsVoid", plainKeys := false, apart := false }
def GraphsVoidSaid : Prop := graphsVoidRow.holds Try.pinned (OpenSpec.ofChange graphsVoidSpec)

/-- ITS FALSE NEIGHBOUR: 'it returns false'. Refute it at one input. -/
def graphsVoidWrong : ChangeSpec := { name := "graphsVoid", fn := fun _ => fun
  | [d] => { results := [.lit (.bool false)], args := [d] }
  | _ => none }
def GraphsVoidWrongFalsely : Prop := graphsVoidRow.holds Try.pinned (OpenSpec.ofChange graphsVoidWrong)

/-- 'countinghouselaw07.FlowsMost': WHATEVER THE INPUT: true; the input reads as it did. -/
def flowsMostSpec : ChangeSpec := { name := "flowsMost", fn := fun _ => fun
  | [d1, d2] => { results := [.lit (.bool true)], args := [d1, d2] }
  | _ => none }
def flowsMostRow : OpenClaim := { program := "ytfpdkeokdojejaa", sum := "e9996637580bad9c9a7d42376904a4187d739e26b364179e979048c992c89c35", func := "countinghouse/countinghouselaw07.FlowsMost", spec := "flowsMost", unfollowed := true, recurses := true, plainKeys := false, apart := false }
def FlowsMostSaid : Prop := flowsMostRow.holds Try.pinned (OpenSpec.ofChange flowsMostSpec)

/-- ITS FALSE NEIGHBOUR: 'it returns false'. Refute it at one input. -/
def flowsMostWrong : ChangeSpec := { name := "flowsMost", fn := fun _ => fun
  | [d1, d2] => { results := [.lit (.bool false)], args := [d1, d2] }
  | _ => none }
def FlowsMostWrongFalsely : Prop := flowsMostRow.holds Try.pinned (OpenSpec.ofChange flowsMostWrong)

/-- 'countinghouselaw07.FlowsCut': WHATEVER THE INPUT: true; the input reads as it did. -/
def flowsCutSpec : ChangeSpec := { name := "flowsCut", fn := fun _ => fun
  | [d1, d2, d3] => { results := [.lit (.bool true)], args := [d1, d2, d3] }
  | _ => none }
def flowsCutRow : OpenClaim := { program := "ytfpdkeokdojejaa", sum := "e9996637580bad9c9a7d42376904a4187d739e26b364179e979048c992c89c35", func := "countinghouse/countinghouselaw07.FlowsCut", spec := "flowsCut", unfollowed := true, recurses := true, plainKeys := false, apart := false }
def FlowsCutSaid : Prop := flowsCutRow.holds Try.pinned (OpenSpec.ofChange flowsCutSpec)

/-- ITS FALSE NEIGHBOUR: 'it returns false'. Refute it at one input. -/
def flowsCutWrong : ChangeSpec := { name := "flowsCut", fn := fun _ => fun
  | [d1, d2, d3] => { results := [.lit (.bool false)], args := [d1, d2, d3] }
  | _ => none }
def FlowsCutWrongFalsely : Prop := flowsCutRow.holds Try.pinned (OpenSpec.ofChange flowsCutWrong)

/-- 'countinghouselaw07.FlowsRoute': WHATEVER THE INPUT: true; the input reads as it did. -/
def flowsRouteSpec : ChangeSpec := { name := "flowsRoute", fn := fun _ => fun
  | [d1, d2] => { results := [.lit (.bool true)], args := [d1, d2] }
  | _ => none }
def flowsRouteRow : OpenClaim := { program := "ytfpdkeokdojejaa", sum := "e9996637580bad9c9a7d42376904a4187d739e26b364179e979048c992c89c35", func := "countinghouse/countinghouselaw07.FlowsRoute", spec := "flowsRoute", unfollowed := true, recurses := true, plainKeys := false, apart := false }
def FlowsRouteSaid : Prop := flowsRouteRow.holds Try.pinned (OpenSpec.ofChange flowsRouteSpec)

/-- ITS FALSE NEIGHBOUR: 'it returns false'. Refute it at one input. -/
def flowsRouteWrong : ChangeSpec := { name := "flowsRoute", fn := fun _ => fun
  | [d1, d2] => { results := [.lit (.bool false)], args := [d1, d2] }
  | _ => none }
def FlowsRouteWrongFalsely : Prop := flowsRouteRow.holds Try.pinned (OpenSpec.ofChange flowsRouteWrong)

/-- 'countinghouselaw05.GraphsLedger': WHATEVER THE INPUT: true; the input reads as it did. -/
def graphsLedgerSpec : ChangeSpec := { name := "graphsLedger", fn := fun _ => fun
  | [d1, d2, d3] => { results := [.lit (.bool true)], args := [d1, d2, d3] }
  | _ => none }
def graphsLedgerRow : OpenClaim := { program := "ytfpdkeokdojejaa", sum := "e9996637580bad9c9a7d42376904a4187d739e26b364179e979048c992c89c35", func := "countinghouse/countinghouselaw05.GraphsLedger", spec := "graphsLedger", plainKeys := false, apart := false }
def GraphsLedgerSaid : Prop := graphsLedgerRow.holds Try.pinned (OpenSpec.ofChange graphsLedgerSpec)

/-- ITS FALSE NEIGHBOUR: 'it returns false'. Refute it at one input. -/
def graphsLedgerWrong : ChangeSpec := { name := "graphsLedger", fn := fun _ => fun
  | [d1, d2, d3] => { results := [.lit (.bool false)], args := [d1, d2, d3] }
  | _ => none }
def GraphsLedgerWrongFalsely : Prop := graphsLedgerRow.holds Try.pinned (OpenSpec.ofChange graphsLedgerWrong)

/-- 'countinghouselaw05.GraphsPair': WHATEVER THE INPUT: true; the input reads as it did. -/
def graphsPairSpec : ChangeSpec := { name := "graphsPair", fn := fun _ => fun
  | [d1, d2, d3] => { results := [.lit (.bool true)], args := [d1, d2, d3] }
  | _ => none }
def graphsPairRow : OpenClaim := { program := "ytfpdkeokdojejaa", sum := "e9996637580bad9c9a7d42376904a4187d739e26b364179e979048c992c89c35", func := "countinghouse/countinghouselaw05.GraphsPair", spec := "graphsPair", plainKeys := false, apart := false }
def GraphsPairSaid : Prop := graphsPairRow.holds Try.pinned (OpenSpec.ofChange graphsPairSpec)

/-- ITS FALSE NEIGHBOUR: 'it returns false'. Refute it at one input. -/
def graphsPairWrong : ChangeSpec := { name := "graphsPair", fn := fun _ => fun
  | [d1, d2, d3] => { results := [.lit (.bool false)], args := [d1, d2, d3] }
  | _ => none }
def GraphsPairWrongFalsely : Prop := graphsPairRow.holds Try.pinned (OpenSpec.ofChange graphsPairWrong)

/- THE SECOND FORM. 'bulk': how many values and letters a reading holds, each counted each time it is reached (what is shared counts as often as it is met; a slice's spare places count too). A statement '..UptoSaid' is the law's where the arguments, and the package variables that the reading takes, are together of bulk at most 1048576: NARROWER than '..Said'. Prove '..Said' where nothing that the law and all that it calls make is longer than what came in: it says more and counts as full. Else prove '..UptoSaid'. A law counts once. -/
mutual
def uptoBulk {H : Type} : DataW H → Nat
  | .lit (.string bytes) => bytes.length + 1
  | .lit _ => 1
  | .nil => 1
  | .ptr d => uptoBulk d + 1
  | .slice elems spare => uptoBulkAll elems + uptoBulkAll spare + 1
  | .agg parts => uptoBulkAll parts + 1
  | .iface _ d => uptoBulk d + 1
  | .map entries => uptoBulkEntries entries + 1
  | .held _ => 1
def uptoBulkAll {H : Type} : List (DataW H) → Nat
  | [] => 0
  | d :: r => uptoBulk d + uptoBulkAll r
def uptoBulkEntries {H : Type} : List (Lit × DataW H) → Nat
  | [] => 0
  | x :: r => uptoBulkEntry x + uptoBulkEntries r
def uptoBulkEntry {H : Type} : Lit × DataW H → Nat
  | (.string bytes, d) => bytes.length + uptoBulk d + 1
  | (_, d) => uptoBulk d + 1
 end
def uptoSmall : (H : Type) → List (DataW H) → Bool := fun _ ds => decide (uptoBulkAll ds ≤ 1048576)
def OpenSpec.upto (s : _root_.Go.ChangeSpec) : _root_.Go.OpenSpec := { _root_.Go.OpenSpec.ofChange s with cond := some uptoSmall }

/-- 'countinghouselaw05.GraphsPlay', WHERE WHAT IT READS IS OF BULK AT MOST 1048576: true; the input reads as it did. -/
def graphsPlayUptoRow : OpenClaim := { program := "ytfpdkeokdojejaa", sum := "e9996637580bad9c9a7d42376904a4187d739e26b364179e979048c992c89c35", func := "countinghouse/countinghouselaw05.GraphsPlay", spec := "graphsPlay", unfollowed := true, recurses := true, plainKeys := false, apart := false, narrowed := true }
def GraphsPlayUptoSaid : Prop := graphsPlayUptoRow.holds Try.pinned (OpenSpec.upto graphsPlaySpec)

/-- 'countinghouselaw05.GraphsVoid', WHERE WHAT IT READS IS OF BULK AT MOST 1048576: true; the input reads as it did. -/
def graphsVoidUptoRow : OpenClaim := { program := "ytfpdkeokdojejaa", sum := "e9996637580bad9c9a7d42376904a4187d739e26b364179e979048c992c89c35", func := "countinghouse/countinghouselaw05.GraphsVoid", spec := "graphsVoid", plainKeys := false, apart := false, narrowed := true }
def GraphsVoidUptoSaid : Prop := graphsVoidUptoRow.holds Try.pinned (OpenSpec.upto graphsVoidSpec)

/-- 'countinghouselaw07.FlowsMost', WHERE WHAT IT READS IS OF BULK AT MOST 1048576: true; the input reads as it did. -/
def flowsMostUptoRow : OpenClaim := { program := "ytfpdkeokdojejaa", sum := "e9996637580bad9c9a7d42376904a4187d739e26b364179e979048c992c89c35", func := "countinghouse/countinghouselaw07.FlowsMost", spec := "flowsMost", unfollowed := true, recurses := true, plainKeys := false, apart := false, narrowed := true }
def FlowsMostUptoSaid : Prop := flowsMostUptoRow.holds Try.pinned (OpenSpec.upto flowsMostSpec)

/-- 'countinghouselaw07.FlowsCut', WHERE WHAT IT READS IS OF BULK AT MOST 1048576: true; the input reads as it did. -/
def flowsCutUptoRow : OpenClaim := { program := "ytfpdkeokdojejaa", sum := "e9996637580bad9c9a7d42376904a4187d739e26b364179e979048c992c89c35", func := "countinghouse/countinghouselaw07.FlowsCut", spec := "flowsCut", unfollowed := true, recurses := true, plainKeys := false, apart := false, narrowed := true }
def FlowsCutUptoSaid : Prop := flowsCutUptoRow.holds Try.pinned (OpenSpec.upto flowsCutSpec)

/-- 'countinghouselaw07.FlowsRoute', WHERE WHAT IT READS IS OF BULK AT MOST 1048576: true; the input reads as it did. -/
def flowsRouteUptoRow : OpenClaim := { program := "ytfpdkeokdojejaa", sum := "e9996637580bad9c9a7d42376904a4187d739e26b364179e979048c992c89c35", func := "countinghouse/countinghouselaw07.FlowsRoute", spec := "flowsRoute", unfollowed := true, recurses := true, plainKeys := false, apart := false, narrowed := true }
def FlowsRouteUptoSaid : Prop := flowsRouteUptoRow.holds Try.pinned (OpenSpec.upto flowsRouteSpec)

/-- 'countinghouselaw05.GraphsLedger', WHERE WHAT IT READS IS OF BULK AT MOST 1048576: true; the input reads as it did. -/
def graphsLedgerUptoRow : OpenClaim := { program := "ytfpdkeokdojejaa", sum := "e9996637580bad9c9a7d42376904a4187d739e26b364179e979048c992c89c35", func := "countinghouse/countinghouselaw05.GraphsLedger", spec := "graphsLedger", plainKeys := false, apart := false, narrowed := true }
def GraphsLedgerUptoSaid : Prop := graphsLedgerUptoRow.holds Try.pinned (OpenSpec.upto graphsLedgerSpec)

/-- 'countinghouselaw05.GraphsPair', WHERE WHAT IT READS IS OF BULK AT MOST 1048576: true; the input reads as it did. -/
def graphsPairUptoRow : OpenClaim := { program := "ytfpdkeokdojejaa", sum := "e9996637580bad9c9a7d42376904a4187d739e26b364179e979048c992c89c35", func := "countinghouse/countinghouselaw05.GraphsPair", spec := "graphsPair", plainKeys := false, apart := false, narrowed := true }
def GraphsPairUptoSaid : Prop := graphsPairUptoRow.holds Try.pinned (OpenSpec.upto graphsPairSpec)

end Rows
end Go.Proofs.Ytfpdkeokdojejaa
