/-
  No cell of these rows narrows 'for every input' (looked for: loops, veiled, ifaces, maps, wideKeys, modest, calm, conditions, laid).
  DERIVED. THE GIVEN ROWS OF THIS SEAT. 13 by the template 'for every input the law returns true; each argument reads behind the call as it read before'; 0 by the template 'total and deterministic' (their statements: YtofnaigkfhfhoaaTotals.lean).
  GIVEN WITH THE SEED: the statements are not yours to turn. If you find one false, say at which input.
  Laid BY PROGRAM, IN A SANDBOX (cutbox-rows.mjs): the forced cells as the released guide's own fill.sh prints them over the translation ee73e8cbd1ccdfe0… (all of the seat's roots in one cut). By AI agents, Wed Nov 11 2026. No macro, syntax, notation, axiom, sorry.
-/
import Derived.Test.YtofnaigkfhfhoaaChecked
import GoSem.Claim
import GoSem.ClaimJoined
import GoSem.ClaimMapViews
import Derived.JoinedTies
import Derived.KernelRfl
namespace Go.Proofs.Ytofnaigkfhfhoaa
/- THE CELL 'sum', in the pinned program and in every row, IS THE sha256 OF THE DUMP (.gsa) THAT YtofnaigkfhfhoaaProg.lean LOADS. Nothing in Lean hashes anything: it is a label: what it is worth is what the hold of that sum in a sandbox is worth. -/
noncomputable def Try.pinned : Pinned := { name := "ytofnaigkfhfhoaa", sum := "ee73e8cbd1ccdfe01a4e3e151472e2836a196d33634ffab35a4efc4a7a03d396", checked := Try.checked }
namespace Rows
def none {H : Type} : Left H := { results := [], args := [] }

/-- 'countinghouselaw09.PaymentsVoid': WHATEVER THE INPUT: true; the input reads as it did. -/
def paymentsVoidSpec : ChangeSpec := { name := "paymentsVoid", fn := fun _ => fun
  | [d] => { results := [.lit (.bool true)], args := [d] }
  | _ => none }
def paymentsVoidRow : OpenClaim := { program := "ytofnaigkfhfhoaa", sum := "ee73e8cbd1ccdfe01a4e3e151472e2836a196d33634ffab35a4efc4a7a03d396", func := "countinghouse/countinghouselaw09.PaymentsVoid", spec := "paymentsVoid", inPlace := ["maps.clone"], unfollowed := true, recurses := true, plainKeys := false, apart := false }
def PaymentsVoidSaid : Prop := paymentsVoidRow.holds Try.pinned (OpenSpec.ofChange paymentsVoidSpec)

/-- ITS FALSE NEIGHBOUR: 'it returns false'. Refute it at one input. -/
def paymentsVoidWrong : ChangeSpec := { name := "paymentsVoid", fn := fun _ => fun
  | [d] => { results := [.lit (.bool false)], args := [d] }
  | _ => none }
def PaymentsVoidWrongFalsely : Prop := paymentsVoidRow.holds Try.pinned (OpenSpec.ofChange paymentsVoidWrong)

/-- 'countinghouselaw13.NettingsLeast': WHATEVER THE INPUT: true; the input reads as it did. -/
def nettingsLeastSpec : ChangeSpec := { name := "nettingsLeast", fn := fun _ => fun
  | [d1, d2] => { results := [.lit (.bool true)], args := [d1, d2] }
  | _ => none }
def nettingsLeastRow : OpenClaim := { program := "ytofnaigkfhfhoaa", sum := "ee73e8cbd1ccdfe01a4e3e151472e2836a196d33634ffab35a4efc4a7a03d396", func := "countinghouse/countinghouselaw13.NettingsLeast", spec := "nettingsLeast", inPlace := ["maps.clone"], unfollowed := true, recurses := true, plainKeys := false, apart := false }
def NettingsLeastSaid : Prop := nettingsLeastRow.holds Try.pinned (OpenSpec.ofChange nettingsLeastSpec)

/-- ITS FALSE NEIGHBOUR: 'it returns false'. Refute it at one input. -/
def nettingsLeastWrong : ChangeSpec := { name := "nettingsLeast", fn := fun _ => fun
  | [d1, d2] => { results := [.lit (.bool false)], args := [d1, d2] }
  | _ => none }
def NettingsLeastWrongFalsely : Prop := nettingsLeastRow.holds Try.pinned (OpenSpec.ofChange nettingsLeastWrong)

/-- 'countinghouselaw03.LedgersPush': WHATEVER THE INPUT: true; the input reads as it did. -/
def ledgersPushSpec : ChangeSpec := { name := "ledgersPush", fn := fun _ => fun
  | [d1, d2] => { results := [.lit (.bool true)], args := [d1, d2] }
  | _ => none }
def ledgersPushRow : OpenClaim := { program := "ytofnaigkfhfhoaa", sum := "ee73e8cbd1ccdfe01a4e3e151472e2836a196d33634ffab35a4efc4a7a03d396", func := "countinghouse/countinghouselaw03.LedgersPush", spec := "ledgersPush", inPlace := ["maps.clone"], unfollowed := true, recurses := true, plainKeys := false, apart := false }
def LedgersPushSaid : Prop := ledgersPushRow.holds Try.pinned (OpenSpec.ofChange ledgersPushSpec)

/-- ITS FALSE NEIGHBOUR: 'it returns false'. Refute it at one input. -/
def ledgersPushWrong : ChangeSpec := { name := "ledgersPush", fn := fun _ => fun
  | [d1, d2] => { results := [.lit (.bool false)], args := [d1, d2] }
  | _ => none }
def LedgersPushWrongFalsely : Prop := ledgersPushRow.holds Try.pinned (OpenSpec.ofChange ledgersPushWrong)

/-- 'countinghouselaw03.LedgersBack': WHATEVER THE INPUT: true; the input reads as it did. -/
def ledgersBackSpec : ChangeSpec := { name := "ledgersBack", fn := fun _ => fun
  | [d1, d2] => { results := [.lit (.bool true)], args := [d1, d2] }
  | _ => none }
def ledgersBackRow : OpenClaim := { program := "ytofnaigkfhfhoaa", sum := "ee73e8cbd1ccdfe01a4e3e151472e2836a196d33634ffab35a4efc4a7a03d396", func := "countinghouse/countinghouselaw03.LedgersBack", spec := "ledgersBack", inPlace := ["maps.clone"], unfollowed := true, recurses := true, plainKeys := false, apart := false }
def LedgersBackSaid : Prop := ledgersBackRow.holds Try.pinned (OpenSpec.ofChange ledgersBackSpec)

/-- ITS FALSE NEIGHBOUR: 'it returns false'. Refute it at one input. -/
def ledgersBackWrong : ChangeSpec := { name := "ledgersBack", fn := fun _ => fun
  | [d1, d2] => { results := [.lit (.bool false)], args := [d1, d2] }
  | _ => none }
def LedgersBackWrongFalsely : Prop := ledgersBackRow.holds Try.pinned (OpenSpec.ofChange ledgersBackWrong)

/-- 'countinghouselaw03.LedgersOf': WHATEVER THE INPUT: true; the input reads as it did. -/
def ledgersOfSpec : ChangeSpec := { name := "ledgersOf", fn := fun _ => fun
  | [d1, d2] => { results := [.lit (.bool true)], args := [d1, d2] }
  | _ => none }
def ledgersOfRow : OpenClaim := { program := "ytofnaigkfhfhoaa", sum := "ee73e8cbd1ccdfe01a4e3e151472e2836a196d33634ffab35a4efc4a7a03d396", func := "countinghouse/countinghouselaw03.LedgersOf", spec := "ledgersOf", unfollowed := true, recurses := true, plainKeys := false, apart := false }
def LedgersOfSaid : Prop := ledgersOfRow.holds Try.pinned (OpenSpec.ofChange ledgersOfSpec)

/-- ITS FALSE NEIGHBOUR: 'it returns false'. Refute it at one input. -/
def ledgersOfWrong : ChangeSpec := { name := "ledgersOf", fn := fun _ => fun
  | [d1, d2] => { results := [.lit (.bool false)], args := [d1, d2] }
  | _ => none }
def LedgersOfWrongFalsely : Prop := ledgersOfRow.holds Try.pinned (OpenSpec.ofChange ledgersOfWrong)

/-- 'countinghouselaw03.LedgersPlay': WHATEVER THE INPUT: true; the input reads as it did. -/
def ledgersPlaySpec : ChangeSpec := { name := "ledgersPlay", fn := fun _ => fun
  | [d] => { results := [.lit (.bool true)], args := [d] }
  | _ => none }
def ledgersPlayRow : OpenClaim := { program := "ytofnaigkfhfhoaa", sum := "ee73e8cbd1ccdfe01a4e3e151472e2836a196d33634ffab35a4efc4a7a03d396", func := "countinghouse/countinghouselaw03.LedgersPlay", spec := "ledgersPlay", inPlace := ["maps.clone"], unfollowed := true, recurses := true, plainKeys := false, apart := false }
def LedgersPlaySaid : Prop := ledgersPlayRow.holds Try.pinned (OpenSpec.ofChange ledgersPlaySpec)

/-- ITS FALSE NEIGHBOUR: 'it returns false'. Refute it at one input. -/
def ledgersPlayWrong : ChangeSpec := { name := "ledgersPlay", fn := fun _ => fun
  | [d] => { results := [.lit (.bool false)], args := [d] }
  | _ => none }
def LedgersPlayWrongFalsely : Prop := ledgersPlayRow.holds Try.pinned (OpenSpec.ofChange ledgersPlayWrong)

/-- 'countinghouselaw03.LedgersVoid': WHATEVER THE INPUT: true; the input reads as it did. -/
def ledgersVoidSpec : ChangeSpec := { name := "ledgersVoid", fn := fun _ => fun
  | [d] => { results := [.lit (.bool true)], args := [d] }
  | _ => none }
def ledgersVoidRow : OpenClaim := { program := "ytofnaigkfhfhoaa", sum := "ee73e8cbd1ccdfe01a4e3e151472e2836a196d33634ffab35a4efc4a7a03d396", func := "countinghouse/countinghouselaw03.LedgersVoid", spec := "ledgersVoid", inPlace := ["maps.clone"], unfollowed := true, recurses := true, plainKeys := false, apart := false }
def LedgersVoidSaid : Prop := ledgersVoidRow.holds Try.pinned (OpenSpec.ofChange ledgersVoidSpec)

/-- ITS FALSE NEIGHBOUR: 'it returns false'. Refute it at one input. -/
def ledgersVoidWrong : ChangeSpec := { name := "ledgersVoid", fn := fun _ => fun
  | [d] => { results := [.lit (.bool false)], args := [d] }
  | _ => none }
def LedgersVoidWrongFalsely : Prop := ledgersVoidRow.holds Try.pinned (OpenSpec.ofChange ledgersVoidWrong)

/-- 'countinghouselaw03.LedgersTold': WHATEVER THE INPUT: true; the input reads as it did. -/
def ledgersToldSpec : ChangeSpec := { name := "ledgersTold", fn := fun _ => fun
  | [d1, d2] => { results := [.lit (.bool true)], args := [d1, d2] }
  | _ => none }
def ledgersToldRow : OpenClaim := { program := "ytofnaigkfhfhoaa", sum := "ee73e8cbd1ccdfe01a4e3e151472e2836a196d33634ffab35a4efc4a7a03d396", func := "countinghouse/countinghouselaw03.LedgersTold", spec := "ledgersTold", unfollowed := true, recurses := true, plainKeys := false, apart := false }
def LedgersToldSaid : Prop := ledgersToldRow.holds Try.pinned (OpenSpec.ofChange ledgersToldSpec)

/-- ITS FALSE NEIGHBOUR: 'it returns false'. Refute it at one input. -/
def ledgersToldWrong : ChangeSpec := { name := "ledgersTold", fn := fun _ => fun
  | [d1, d2] => { results := [.lit (.bool false)], args := [d1, d2] }
  | _ => none }
def LedgersToldWrongFalsely : Prop := ledgersToldRow.holds Try.pinned (OpenSpec.ofChange ledgersToldWrong)

/-- 'countinghouselaw09.PaymentsPlay': WHATEVER THE INPUT: true; the input reads as it did. -/
def paymentsPlaySpec : ChangeSpec := { name := "paymentsPlay", fn := fun _ => fun
  | [d1, d2] => { results := [.lit (.bool true)], args := [d1, d2] }
  | _ => none }
def paymentsPlayRow : OpenClaim := { program := "ytofnaigkfhfhoaa", sum := "ee73e8cbd1ccdfe01a4e3e151472e2836a196d33634ffab35a4efc4a7a03d396", func := "countinghouse/countinghouselaw09.PaymentsPlay", spec := "paymentsPlay", inPlace := ["maps.clone"], unfollowed := true, recurses := true, plainKeys := false, apart := false }
def PaymentsPlaySaid : Prop := paymentsPlayRow.holds Try.pinned (OpenSpec.ofChange paymentsPlaySpec)

/-- ITS FALSE NEIGHBOUR: 'it returns false'. Refute it at one input. -/
def paymentsPlayWrong : ChangeSpec := { name := "paymentsPlay", fn := fun _ => fun
  | [d1, d2] => { results := [.lit (.bool false)], args := [d1, d2] }
  | _ => none }
def PaymentsPlayWrongFalsely : Prop := paymentsPlayRow.holds Try.pinned (OpenSpec.ofChange paymentsPlayWrong)

/-- 'countinghouselaw09.PaymentsMoves': WHATEVER THE INPUT: true; the input reads as it did. -/
def paymentsMovesSpec : ChangeSpec := { name := "paymentsMoves", fn := fun _ => fun
  | [d1, d2] => { results := [.lit (.bool true)], args := [d1, d2] }
  | _ => none }
def paymentsMovesRow : OpenClaim := { program := "ytofnaigkfhfhoaa", sum := "ee73e8cbd1ccdfe01a4e3e151472e2836a196d33634ffab35a4efc4a7a03d396", func := "countinghouse/countinghouselaw09.PaymentsMoves", spec := "paymentsMoves", inPlace := ["maps.clone"], unfollowed := true, recurses := true, plainKeys := false, apart := false }
def PaymentsMovesSaid : Prop := paymentsMovesRow.holds Try.pinned (OpenSpec.ofChange paymentsMovesSpec)

/-- ITS FALSE NEIGHBOUR: 'it returns false'. Refute it at one input. -/
def paymentsMovesWrong : ChangeSpec := { name := "paymentsMoves", fn := fun _ => fun
  | [d1, d2] => { results := [.lit (.bool false)], args := [d1, d2] }
  | _ => none }
def PaymentsMovesWrongFalsely : Prop := paymentsMovesRow.holds Try.pinned (OpenSpec.ofChange paymentsMovesWrong)

/-- 'countinghouselaw09.PaymentsBack': WHATEVER THE INPUT: true; the input reads as it did. -/
def paymentsBackSpec : ChangeSpec := { name := "paymentsBack", fn := fun _ => fun
  | [d1, d2] => { results := [.lit (.bool true)], args := [d1, d2] }
  | _ => none }
def paymentsBackRow : OpenClaim := { program := "ytofnaigkfhfhoaa", sum := "ee73e8cbd1ccdfe01a4e3e151472e2836a196d33634ffab35a4efc4a7a03d396", func := "countinghouse/countinghouselaw09.PaymentsBack", spec := "paymentsBack", inPlace := ["maps.clone"], unfollowed := true, recurses := true, plainKeys := false, apart := false }
def PaymentsBackSaid : Prop := paymentsBackRow.holds Try.pinned (OpenSpec.ofChange paymentsBackSpec)

/-- ITS FALSE NEIGHBOUR: 'it returns false'. Refute it at one input. -/
def paymentsBackWrong : ChangeSpec := { name := "paymentsBack", fn := fun _ => fun
  | [d1, d2] => { results := [.lit (.bool false)], args := [d1, d2] }
  | _ => none }
def PaymentsBackWrongFalsely : Prop := paymentsBackRow.holds Try.pinned (OpenSpec.ofChange paymentsBackWrong)

/-- 'countinghouselaw13.NettingsVoid': WHATEVER THE INPUT: true; the input reads as it did. -/
def nettingsVoidSpec : ChangeSpec := { name := "nettingsVoid", fn := fun _ => fun
  | [d] => { results := [.lit (.bool true)], args := [d] }
  | _ => none }
def nettingsVoidRow : OpenClaim := { program := "ytofnaigkfhfhoaa", sum := "ee73e8cbd1ccdfe01a4e3e151472e2836a196d33634ffab35a4efc4a7a03d396", func := "countinghouse/countinghouselaw13.NettingsVoid", spec := "nettingsVoid", inPlace := ["maps.clone"], unfollowed := true, recurses := true, plainKeys := false, apart := false }
def NettingsVoidSaid : Prop := nettingsVoidRow.holds Try.pinned (OpenSpec.ofChange nettingsVoidSpec)

/-- ITS FALSE NEIGHBOUR: 'it returns false'. Refute it at one input. -/
def nettingsVoidWrong : ChangeSpec := { name := "nettingsVoid", fn := fun _ => fun
  | [d] => { results := [.lit (.bool false)], args := [d] }
  | _ => none }
def NettingsVoidWrongFalsely : Prop := nettingsVoidRow.holds Try.pinned (OpenSpec.ofChange nettingsVoidWrong)

/-- 'countinghouselaw13.NettingsRing': WHATEVER THE INPUT: true; the input reads as it did. -/
def nettingsRingSpec : ChangeSpec := { name := "nettingsRing", fn := fun _ => fun
  | [d1, d2] => { results := [.lit (.bool true)], args := [d1, d2] }
  | _ => none }
def nettingsRingRow : OpenClaim := { program := "ytofnaigkfhfhoaa", sum := "ee73e8cbd1ccdfe01a4e3e151472e2836a196d33634ffab35a4efc4a7a03d396", func := "countinghouse/countinghouselaw13.NettingsRing", spec := "nettingsRing", inPlace := ["maps.clone"], unfollowed := true, recurses := true, plainKeys := false, apart := false }
def NettingsRingSaid : Prop := nettingsRingRow.holds Try.pinned (OpenSpec.ofChange nettingsRingSpec)

/-- ITS FALSE NEIGHBOUR: 'it returns false'. Refute it at one input. -/
def nettingsRingWrong : ChangeSpec := { name := "nettingsRing", fn := fun _ => fun
  | [d1, d2] => { results := [.lit (.bool false)], args := [d1, d2] }
  | _ => none }
def NettingsRingWrongFalsely : Prop := nettingsRingRow.holds Try.pinned (OpenSpec.ofChange nettingsRingWrong)

/- THE SECOND FORM. 'bulk': how many values and letters a reading holds, each counted each time it is reached (what is shared counts as often as it is met; a slice's spare places count too). A statement '..UptoSaid' is the law's where the arguments, and the package variables that the reading takes, are together of bulk at most 1048576: NARROWER than '..Said'. Prove '..Said' where nothing that the law and all that it calls make is longer than what came in: it says more and counts as full. Else prove '..UptoSaid'. A law counts once. -/
mutual
def uptoBulk {H : Type} : DataW H → Nat
  | .lit (.string bytes) => bytes.length + 1
  | .lit _ => 1
  | .nil => 1
  | .ptr d => uptoBulk d + 1
  | .slice elems spare => uptoBulkAll elems + uptoBulkAll spare + 1
  | .agg parts => uptoBulkAll parts + 1
  | .iface _ d => uptoBulk d + 1
  | .map entries => uptoBulkEntries entries + 1
  | .held _ => 1
def uptoBulkAll {H : Type} : List (DataW H) → Nat
  | [] => 0
  | d :: r => uptoBulk d + uptoBulkAll r
def uptoBulkEntries {H : Type} : List (Lit × DataW H) → Nat
  | [] => 0
  | x :: r => uptoBulkEntry x + uptoBulkEntries r
def uptoBulkEntry {H : Type} : Lit × DataW H → Nat
  | (.string bytes, d) => bytes.length + uptoBulk d + 1
  | (_, d) => uptoBulk d + 1
 end
def uptoSmall : (H : Type) → List (DataW H) → Bool := fun _ ds => decide (uptoBulkAll ds ≤ 1048576)
def OpenSpec.upto (s : _root_.Go.ChangeSpec) : _root_.Go.OpenSpec := { _root_.Go.OpenSpec.ofChange s with cond := some uptoSmall }

/-- 'countinghouselaw09.PaymentsVoid', WHERE WHAT IT READS IS OF BULK AT MOST 1048576: true; the input reads as it did. -/
def paymentsVoidUptoRow : OpenClaim := { program := "ytofnaigkfhfhoaa", sum := "ee73e8cbd1ccdfe01a4e3e151472e2836a196d33634ffab35a4efc4a7a03d396", func := "countinghouse/countinghouselaw09.PaymentsVoid", spec := "paymentsVoid", inPlace := ["maps.clone"], unfollowed := true, recurses := true, plainKeys := false, apart := false, narrowed := true }
def PaymentsVoidUptoSaid : Prop := paymentsVoidUptoRow.holds Try.pinned (OpenSpec.upto paymentsVoidSpec)

/-- 'countinghouselaw13.NettingsLeast', WHERE WHAT IT READS IS OF BULK AT MOST 1048576: true; the input reads as it did. -/
def nettingsLeastUptoRow : OpenClaim := { program := "ytofnaigkfhfhoaa", sum := "ee73e8cbd1ccdfe01a4e3e151472e2836a196d33634ffab35a4efc4a7a03d396", func := "countinghouse/countinghouselaw13.NettingsLeast", spec := "nettingsLeast", inPlace := ["maps.clone"], unfollowed := true, recurses := true, plainKeys := false, apart := false, narrowed := true }
def NettingsLeastUptoSaid : Prop := nettingsLeastUptoRow.holds Try.pinned (OpenSpec.upto nettingsLeastSpec)

/-- 'countinghouselaw03.LedgersPush', WHERE WHAT IT READS IS OF BULK AT MOST 1048576: true; the input reads as it did. -/
def ledgersPushUptoRow : OpenClaim := { program := "ytofnaigkfhfhoaa", sum := "ee73e8cbd1ccdfe01a4e3e151472e2836a196d33634ffab35a4efc4a7a03d396", func := "countinghouse/countinghouselaw03.LedgersPush", spec := "ledgersPush", inPlace := ["maps.clone"], unfollowed := true, recurses := true, plainKeys := false, apart := false, narrowed := true }
def LedgersPushUptoSaid : Prop := ledgersPushUptoRow.holds Try.pinned (OpenSpec.upto ledgersPushSpec)

/-- 'countinghouselaw03.LedgersBack', WHERE WHAT IT READS IS OF BULK AT MOST 1048576: true; the input reads as it did. -/
def ledgersBackUptoRow : OpenClaim := { program := "ytofnaigkfhfhoaa", sum := "ee73e8cbd1ccdfe01a4e3e151472e2836a196d33634ffab35a4efc4a7a03d396", func := "countinghouse/countinghouselaw03.LedgersBack", spec := "ledgersBack", inPlace := ["maps.clone"], unfollowed := true, recurses := true, plainKeys := false, apart := false, narrowed := true }
def LedgersBackUptoSaid : Prop := ledgersBackUptoRow.holds Try.pinned (OpenSpec.upto ledgersBackSpec)

/-- 'countinghouselaw03.LedgersOf', WHERE WHAT IT READS IS OF BULK AT MOST 1048576: true; the input reads as it did. -/
def ledgersOfUptoRow : OpenClaim := { program := "ytofnaigkfhfhoaa", sum := "ee73e8cbd1ccdfe01a4e3e151472e2836a196d33634ffab35a4efc4a7a03d396", func := "countinghouse/countinghouselaw03.LedgersOf", spec := "ledgersOf", unfollowed := true, recurses := true, plainKeys := false, apart := false, narrowed := true }
def LedgersOfUptoSaid : Prop := ledgersOfUptoRow.holds Try.pinned (OpenSpec.upto ledgersOfSpec)

/-- 'countinghouselaw03.LedgersPlay', WHERE WHAT IT READS IS OF BULK AT MOST 1048576: true; the input reads as it did. -/
def ledgersPlayUptoRow : OpenClaim := { program := "ytofnaigkfhfhoaa", sum := "ee73e8cbd1ccdfe01a4e3e151472e2836a196d33634ffab35a4efc4a7a03d396", func := "countinghouse/countinghouselaw03.LedgersPlay", spec := "ledgersPlay", inPlace := ["maps.clone"], unfollowed := true, recurses := true, plainKeys := false, apart := false, narrowed := true }
def LedgersPlayUptoSaid : Prop := ledgersPlayUptoRow.holds Try.pinned (OpenSpec.upto ledgersPlaySpec)

/-- 'countinghouselaw03.LedgersVoid', WHERE WHAT IT READS IS OF BULK AT MOST 1048576: true; the input reads as it did. -/
def ledgersVoidUptoRow : OpenClaim := { program := "ytofnaigkfhfhoaa", sum := "ee73e8cbd1ccdfe01a4e3e151472e2836a196d33634ffab35a4efc4a7a03d396", func := "countinghouse/countinghouselaw03.LedgersVoid", spec := "ledgersVoid", inPlace := ["maps.clone"], unfollowed := true, recurses := true, plainKeys := false, apart := false, narrowed := true }
def LedgersVoidUptoSaid : Prop := ledgersVoidUptoRow.holds Try.pinned (OpenSpec.upto ledgersVoidSpec)

/-- 'countinghouselaw03.LedgersTold', WHERE WHAT IT READS IS OF BULK AT MOST 1048576: true; the input reads as it did. -/
def ledgersToldUptoRow : OpenClaim := { program := "ytofnaigkfhfhoaa", sum := "ee73e8cbd1ccdfe01a4e3e151472e2836a196d33634ffab35a4efc4a7a03d396", func := "countinghouse/countinghouselaw03.LedgersTold", spec := "ledgersTold", unfollowed := true, recurses := true, plainKeys := false, apart := false, narrowed := true }
def LedgersToldUptoSaid : Prop := ledgersToldUptoRow.holds Try.pinned (OpenSpec.upto ledgersToldSpec)

/-- 'countinghouselaw09.PaymentsPlay', WHERE WHAT IT READS IS OF BULK AT MOST 1048576: true; the input reads as it did. -/
def paymentsPlayUptoRow : OpenClaim := { program := "ytofnaigkfhfhoaa", sum := "ee73e8cbd1ccdfe01a4e3e151472e2836a196d33634ffab35a4efc4a7a03d396", func := "countinghouse/countinghouselaw09.PaymentsPlay", spec := "paymentsPlay", inPlace := ["maps.clone"], unfollowed := true, recurses := true, plainKeys := false, apart := false, narrowed := true }
def PaymentsPlayUptoSaid : Prop := paymentsPlayUptoRow.holds Try.pinned (OpenSpec.upto paymentsPlaySpec)

/-- 'countinghouselaw09.PaymentsMoves', WHERE WHAT IT READS IS OF BULK AT MOST 1048576: true; the input reads as it did. -/
def paymentsMovesUptoRow : OpenClaim := { program := "ytofnaigkfhfhoaa", sum := "ee73e8cbd1ccdfe01a4e3e151472e2836a196d33634ffab35a4efc4a7a03d396", func := "countinghouse/countinghouselaw09.PaymentsMoves", spec := "paymentsMoves", inPlace := ["maps.clone"], unfollowed := true, recurses := true, plainKeys := false, apart := false, narrowed := true }
def PaymentsMovesUptoSaid : Prop := paymentsMovesUptoRow.holds Try.pinned (OpenSpec.upto paymentsMovesSpec)

/-- 'countinghouselaw09.PaymentsBack', WHERE WHAT IT READS IS OF BULK AT MOST 1048576: true; the input reads as it did. -/
def paymentsBackUptoRow : OpenClaim := { program := "ytofnaigkfhfhoaa", sum := "ee73e8cbd1ccdfe01a4e3e151472e2836a196d33634ffab35a4efc4a7a03d396", func := "countinghouse/countinghouselaw09.PaymentsBack", spec := "paymentsBack", inPlace := ["maps.clone"], unfollowed := true, recurses := true, plainKeys := false, apart := false, narrowed := true }
def PaymentsBackUptoSaid : Prop := paymentsBackUptoRow.holds Try.pinned (OpenSpec.upto paymentsBackSpec)

/-- 'countinghouselaw13.NettingsVoid', WHERE WHAT IT READS IS OF BULK AT MOST 1048576: true; the input reads as it did. -/
def nettingsVoidUptoRow : OpenClaim := { program := "ytofnaigkfhfhoaa", sum := "ee73e8cbd1ccdfe01a4e3e151472e2836a196d33634ffab35a4efc4a7a03d396", func := "countinghouse/countinghouselaw13.NettingsVoid", spec := "nettingsVoid", inPlace := ["maps.clone"], unfollowed := true, recurses := true, plainKeys := false, apart := false, narrowed := true }
def NettingsVoidUptoSaid : Prop := nettingsVoidUptoRow.holds Try.pinned (OpenSpec.upto nettingsVoidSpec)

/-- 'countinghouselaw13.NettingsRing', WHERE WHAT IT READS IS OF BULK AT MOST 1048576: true; the input reads as it did. -/
def nettingsRingUptoRow : OpenClaim := { program := "ytofnaigkfhfhoaa", sum := "ee73e8cbd1ccdfe01a4e3e151472e2836a196d33634ffab35a4efc4a7a03d396", func := "countinghouse/countinghouselaw13.NettingsRing", spec := "nettingsRing", inPlace := ["maps.clone"], unfollowed := true, recurses := true, plainKeys := false, apart := false, narrowed := true }
def NettingsRingUptoSaid : Prop := nettingsRingUptoRow.holds Try.pinned (OpenSpec.upto nettingsRingSpec)

end Rows
end Go.Proofs.Ytofnaigkfhfhoaa
