/-
  NARROWER THAN 'FOR EVERY INPUT', by the rows' own cells (each row's printed sentence says how): PolyShares: laid · PolyFactors: laid · PolyEvals: laid · PolyTurned: laid · PolySums: laid.
  DERIVED. THE GIVEN ROWS OF THIS SEAT. 5 by the template 'for every input the law returns true; each argument reads behind the call as it read before'; 0 by the template 'total and deterministic' (their statements: YtdgmnhiffoemmaaDoorTotals.lean).
  GIVEN WITH THE SEED: the statements are not yours to turn. If you find one false, say at which input.
  Laid BY PROGRAM, IN A SANDBOX (cutbox-rows.mjs): the forced cells as the released guide's own fill.sh prints them over the translation d64c99e2d9bac063… (all of the seat's roots in one cut). By AI agents, Wed Nov 11 2026. No macro, syntax, notation, axiom, sorry.
-/
import Derived.Test.YtdgmnhiffoemmaaDoorChecked
import GoSem.Claim
import GoSem.ClaimJoined
import GoSem.ClaimMapViews
import Derived.JoinedTies
import Derived.KernelRfl
namespace Go.Proofs.YtdgmnhiffoemmaaDoor
/- THE CELL 'sum', in the pinned program and in every row, IS THE sha256 OF THE DUMP (.gsa) THAT YtdgmnhiffoemmaaDoorProg.lean LOADS. Nothing in Lean hashes anything: it is a label: what it is worth is what the hold of that sum in a sandbox is worth. -/
noncomputable def Tryd.pinned : Pinned := { name := "ytdgmnhiffoemmaadoor", sum := "d64c99e2d9bac063494cb1a1ac93d1ca78f3759a5532d6b466c98ad4b5758215", checked := Tryd.checked }
namespace Rows
def none {H : Type} : Left H := { results := [], args := [] }

/- WHAT THE LISTED PACKAGE-LEVEL VARIABLES READ AS WHEN THE CALL BEGINS. Each datum BY PROGRAM (the guide's laid-datum.mjs) off the statement by which the dump's own 'gosem.cut.vars' lays the variable. In a bare row this is a premise. The card (YtdgmnhiffoemmaaDoorCards.lean) ties it to the program's text. -/
def laid_errors_errorType {H : Type} : DataW H := .iface "internal/reflectlite.rtype" (.agg [.ptr (.lit (.string [101, 114, 114, 111, 114]))])

/-- 'seneschallaw10.PolyShares': WHATEVER THE INPUT: true; the input reads as it did. -/
def polySharesSpec : ChangeSpec := { name := "polyShares", fn := fun _ => fun
  | [d1, d2, d3] => { results := [.lit (.bool true)], args := [d1, d2, d3] }
  | _ => none }
def polySharesRow : OpenClaim := { program := "ytdgmnhiffoemmaadoor", sum := "d64c99e2d9bac063494cb1a1ac93d1ca78f3759a5532d6b466c98ad4b5758215", func := "seneschal/seneschallaw10.PolyShares", spec := "polyShares", inPlace := ["math/bits.Add64", "math/bits.Sub64", "internal/reflectlite.ValueOf", "(internal/reflectlite.Value).Type", "(internal/reflectlite.Value).IsNil", "internal/reflectlite.TypeOf", "(internal/reflectlite.Value).Elem", "(internal/reflectlite.Value).Set"], unfollowed := true, recurses := true, named := ["math/bits.divideError", "math/bits.overflowError", "errors.errorType"], apart := false, laid := [("errors.errorType", laid_errors_errorType)] }
def PolySharesSaid : Prop := polySharesRow.holds Tryd.pinned (OpenSpec.ofChange polySharesSpec)

/-- ITS FALSE NEIGHBOUR: 'it returns false'. Refute it at one input. -/
def polySharesWrong : ChangeSpec := { name := "polyShares", fn := fun _ => fun
  | [d1, d2, d3] => { results := [.lit (.bool false)], args := [d1, d2, d3] }
  | _ => none }
def PolySharesWrongFalsely : Prop := polySharesRow.holds Tryd.pinned (OpenSpec.ofChange polySharesWrong)

/-- 'seneschallaw10.PolyFactors': WHATEVER THE INPUT: true; the input reads as it did. -/
def polyFactorsSpec : ChangeSpec := { name := "polyFactors", fn := fun _ => fun
  | [d1, d2, d3, d4] => { results := [.lit (.bool true)], args := [d1, d2, d3, d4] }
  | _ => none }
def polyFactorsRow : OpenClaim := { program := "ytdgmnhiffoemmaadoor", sum := "d64c99e2d9bac063494cb1a1ac93d1ca78f3759a5532d6b466c98ad4b5758215", func := "seneschal/seneschallaw10.PolyFactors", spec := "polyFactors", inPlace := ["math/bits.Add64", "math/bits.Sub64", "internal/reflectlite.ValueOf", "(internal/reflectlite.Value).Type", "(internal/reflectlite.Value).IsNil", "internal/reflectlite.TypeOf", "(internal/reflectlite.Value).Elem", "(internal/reflectlite.Value).Set"], unfollowed := true, recurses := true, named := ["math/bits.divideError", "math/bits.overflowError", "errors.errorType"], apart := false, laid := [("errors.errorType", laid_errors_errorType)] }
def PolyFactorsSaid : Prop := polyFactorsRow.holds Tryd.pinned (OpenSpec.ofChange polyFactorsSpec)

/-- ITS FALSE NEIGHBOUR: 'it returns false'. Refute it at one input. -/
def polyFactorsWrong : ChangeSpec := { name := "polyFactors", fn := fun _ => fun
  | [d1, d2, d3, d4] => { results := [.lit (.bool false)], args := [d1, d2, d3, d4] }
  | _ => none }
def PolyFactorsWrongFalsely : Prop := polyFactorsRow.holds Tryd.pinned (OpenSpec.ofChange polyFactorsWrong)

/-- 'seneschallaw10.PolyEvals': WHATEVER THE INPUT: true; the input reads as it did. -/
def polyEvalsSpec : ChangeSpec := { name := "polyEvals", fn := fun _ => fun
  | [d1, d2, d3, d4, d5] => { results := [.lit (.bool true)], args := [d1, d2, d3, d4, d5] }
  | _ => none }
def polyEvalsRow : OpenClaim := { program := "ytdgmnhiffoemmaadoor", sum := "d64c99e2d9bac063494cb1a1ac93d1ca78f3759a5532d6b466c98ad4b5758215", func := "seneschal/seneschallaw10.PolyEvals", spec := "polyEvals", inPlace := ["math/bits.Add64", "math/bits.Sub64", "internal/reflectlite.ValueOf", "(internal/reflectlite.Value).Type", "(internal/reflectlite.Value).IsNil", "internal/reflectlite.TypeOf", "(internal/reflectlite.Value).Elem", "(internal/reflectlite.Value).Set"], unfollowed := true, recurses := true, named := ["math/bits.divideError", "math/bits.overflowError", "errors.errorType"], apart := false, laid := [("errors.errorType", laid_errors_errorType)] }
def PolyEvalsSaid : Prop := polyEvalsRow.holds Tryd.pinned (OpenSpec.ofChange polyEvalsSpec)

/-- ITS FALSE NEIGHBOUR: 'it returns false'. Refute it at one input. -/
def polyEvalsWrong : ChangeSpec := { name := "polyEvals", fn := fun _ => fun
  | [d1, d2, d3, d4, d5] => { results := [.lit (.bool false)], args := [d1, d2, d3, d4, d5] }
  | _ => none }
def PolyEvalsWrongFalsely : Prop := polyEvalsRow.holds Tryd.pinned (OpenSpec.ofChange polyEvalsWrong)

/-- 'seneschallaw10.PolyTurned': WHATEVER THE INPUT: true; the input reads as it did. -/
def polyTurnedSpec : ChangeSpec := { name := "polyTurned", fn := fun _ => fun
  | [d1, d2, d3, d4] => { results := [.lit (.bool true)], args := [d1, d2, d3, d4] }
  | _ => none }
def polyTurnedRow : OpenClaim := { program := "ytdgmnhiffoemmaadoor", sum := "d64c99e2d9bac063494cb1a1ac93d1ca78f3759a5532d6b466c98ad4b5758215", func := "seneschal/seneschallaw10.PolyTurned", spec := "polyTurned", inPlace := ["math/bits.Add64", "math/bits.Sub64", "internal/reflectlite.ValueOf", "(internal/reflectlite.Value).Type", "(internal/reflectlite.Value).IsNil", "internal/reflectlite.TypeOf", "(internal/reflectlite.Value).Elem", "(internal/reflectlite.Value).Set"], unfollowed := true, recurses := true, named := ["math/bits.divideError", "math/bits.overflowError", "errors.errorType"], apart := false, laid := [("errors.errorType", laid_errors_errorType)] }
def PolyTurnedSaid : Prop := polyTurnedRow.holds Tryd.pinned (OpenSpec.ofChange polyTurnedSpec)

/-- ITS FALSE NEIGHBOUR: 'it returns false'. Refute it at one input. -/
def polyTurnedWrong : ChangeSpec := { name := "polyTurned", fn := fun _ => fun
  | [d1, d2, d3, d4] => { results := [.lit (.bool false)], args := [d1, d2, d3, d4] }
  | _ => none }
def PolyTurnedWrongFalsely : Prop := polyTurnedRow.holds Tryd.pinned (OpenSpec.ofChange polyTurnedWrong)

/-- 'seneschallaw10.PolySums': WHATEVER THE INPUT: true; the input reads as it did. -/
def polySumsSpec : ChangeSpec := { name := "polySums", fn := fun _ => fun
  | [d1, d2, d3] => { results := [.lit (.bool true)], args := [d1, d2, d3] }
  | _ => none }
def polySumsRow : OpenClaim := { program := "ytdgmnhiffoemmaadoor", sum := "d64c99e2d9bac063494cb1a1ac93d1ca78f3759a5532d6b466c98ad4b5758215", func := "seneschal/seneschallaw10.PolySums", spec := "polySums", inPlace := ["math/bits.Add64", "math/bits.Sub64", "internal/reflectlite.ValueOf", "(internal/reflectlite.Value).Type", "(internal/reflectlite.Value).IsNil", "internal/reflectlite.TypeOf", "(internal/reflectlite.Value).Elem", "(internal/reflectlite.Value).Set"], unfollowed := true, recurses := true, named := ["math/bits.divideError", "math/bits.overflowError", "errors.errorType"], apart := false, laid := [("errors.errorType", laid_errors_errorType)] }
def PolySumsSaid : Prop := polySumsRow.holds Tryd.pinned (OpenSpec.ofChange polySumsSpec)

/-- ITS FALSE NEIGHBOUR: 'it returns false'. Refute it at one input. -/
def polySumsWrong : ChangeSpec := { name := "polySums", fn := fun _ => fun
  | [d1, d2, d3] => { results := [.lit (.bool false)], args := [d1, d2, d3] }
  | _ => none }
def PolySumsWrongFalsely : Prop := polySumsRow.holds Tryd.pinned (OpenSpec.ofChange polySumsWrong)

/- THE SECOND FORM. 'bulk': how many values and letters a reading holds, each counted each time it is reached (what is shared counts as often as it is met; a slice's spare places count too). A statement '..UptoSaid' is the law's where the arguments, and the package variables that the reading takes, are together of bulk at most 1048576: NARROWER than '..Said'. Prove '..Said' where nothing that the law and all that it calls make is longer than what came in: it says more and counts as full. Else prove '..UptoSaid'. A law counts once. -/
mutual
def uptoBulk {H : Type} : DataW H → Nat
  | .lit (.string bytes) => bytes.length + 1
  | .lit _ => 1
  | .nil => 1
  | .ptr d => uptoBulk d + 1
  | .slice elems spare => uptoBulkAll elems + uptoBulkAll spare + 1
  | .agg parts => uptoBulkAll parts + 1
  | .iface _ d => uptoBulk d + 1
  | .map entries => uptoBulkEntries entries + 1
  | .held _ => 1
def uptoBulkAll {H : Type} : List (DataW H) → Nat
  | [] => 0
  | d :: r => uptoBulk d + uptoBulkAll r
def uptoBulkEntries {H : Type} : List (Lit × DataW H) → Nat
  | [] => 0
  | x :: r => uptoBulkEntry x + uptoBulkEntries r
def uptoBulkEntry {H : Type} : Lit × DataW H → Nat
  | (.string bytes, d) => bytes.length + uptoBulk d + 1
  | (_, d) => uptoBulk d + 1
 end
def uptoSmall : (H : Type) → List (DataW H) → Bool := fun _ ds => decide (uptoBulkAll ds ≤ 1048576)
def OpenSpec.upto (s : _root_.Go.ChangeSpec) : _root_.Go.OpenSpec := { _root_.Go.OpenSpec.ofChange s with cond := some uptoSmall }

/-- 'seneschallaw10.PolyShares', WHERE WHAT IT READS IS OF BULK AT MOST 1048576: true; the input reads as it did. -/
def polySharesUptoRow : OpenClaim := { program := "ytdgmnhiffoemmaadoor", sum := "d64c99e2d9bac063494cb1a1ac93d1ca78f3759a5532d6b466c98ad4b5758215", func := "seneschal/seneschallaw10.PolyShares", spec := "polyShares", inPlace := ["math/bits.Add64", "math/bits.Sub64", "internal/reflectlite.ValueOf", "(internal/reflectlite.Value).Type", "(internal/reflectlite.Value).IsNil", "internal/reflectlite.TypeOf", "(internal/reflectlite.Value).Elem", "(internal/reflectlite.Value).Set"], unfollowed := true, recurses := true, named := ["math/bits.divideError", "math/bits.overflowError", "errors.errorType"], apart := false, laid := [("errors.errorType", laid_errors_errorType)], narrowed := true }
def PolySharesUptoSaid : Prop := polySharesUptoRow.holds Tryd.pinned (OpenSpec.upto polySharesSpec)

/-- 'seneschallaw10.PolyFactors', WHERE WHAT IT READS IS OF BULK AT MOST 1048576: true; the input reads as it did. -/
def polyFactorsUptoRow : OpenClaim := { program := "ytdgmnhiffoemmaadoor", sum := "d64c99e2d9bac063494cb1a1ac93d1ca78f3759a5532d6b466c98ad4b5758215", func := "seneschal/seneschallaw10.PolyFactors", spec := "polyFactors", inPlace := ["math/bits.Add64", "math/bits.Sub64", "internal/reflectlite.ValueOf", "(internal/reflectlite.Value).Type", "(internal/reflectlite.Value).IsNil", "internal/reflectlite.TypeOf", "(internal/reflectlite.Value).Elem", "(internal/reflectlite.Value).Set"], unfollowed := true, recurses := true, named := ["math/bits.divideError", "math/bits.overflowError", "errors.errorType"], apart := false, laid := [("errors.errorType", laid_errors_errorType)], narrowed := true }
def PolyFactorsUptoSaid : Prop := polyFactorsUptoRow.holds Tryd.pinned (OpenSpec.upto polyFactorsSpec)

/-- 'seneschallaw10.PolyEvals', WHERE WHAT IT READS IS OF BULK AT MOST 1048576: true; the input reads as it did. -/
def polyEvalsUptoRow : OpenClaim := { program := "ytdgmnhiffoemmaadoor", sum := "d64c99e2d9bac063494cb1a1ac93d1ca78f3759a5532d6b466c98ad4b5758215", func := "seneschal/seneschallaw10.PolyEvals", spec := "polyEvals", inPlace := ["math/bits.Add64", "math/bits.Sub64", "internal/reflectlite.ValueOf", "(internal/reflectlite.Value).Type", "(internal/reflectlite.Value).IsNil", "internal/reflectlite.TypeOf", "(internal/reflectlite.Value).Elem", "(internal/reflectlite.Value).Set"], unfollowed := true, recurses := true, named := ["math/bits.divideError", "math/bits.overflowError", "errors.errorType"], apart := false, laid := [("errors.errorType", laid_errors_errorType)], narrowed := true }
def PolyEvalsUptoSaid : Prop := polyEvalsUptoRow.holds Tryd.pinned (OpenSpec.upto polyEvalsSpec)

/-- 'seneschallaw10.PolyTurned', WHERE WHAT IT READS IS OF BULK AT MOST 1048576: true; the input reads as it did. -/
def polyTurnedUptoRow : OpenClaim := { program := "ytdgmnhiffoemmaadoor", sum := "d64c99e2d9bac063494cb1a1ac93d1ca78f3759a5532d6b466c98ad4b5758215", func := "seneschal/seneschallaw10.PolyTurned", spec := "polyTurned", inPlace := ["math/bits.Add64", "math/bits.Sub64", "internal/reflectlite.ValueOf", "(internal/reflectlite.Value).Type", "(internal/reflectlite.Value).IsNil", "internal/reflectlite.TypeOf", "(internal/reflectlite.Value).Elem", "(internal/reflectlite.Value).Set"], unfollowed := true, recurses := true, named := ["math/bits.divideError", "math/bits.overflowError", "errors.errorType"], apart := false, laid := [("errors.errorType", laid_errors_errorType)], narrowed := true }
def PolyTurnedUptoSaid : Prop := polyTurnedUptoRow.holds Tryd.pinned (OpenSpec.upto polyTurnedSpec)

/-- 'seneschallaw10.PolySums', WHERE WHAT IT READS IS OF BULK AT MOST 1048576: true; the input reads as it did. -/
def polySumsUptoRow : OpenClaim := { program := "ytdgmnhiffoemmaadoor", sum := "d64c99e2d9bac063494cb1a1ac93d1ca78f3759a5532d6b466c98ad4b5758215", func := "seneschal/seneschallaw10.PolySums", spec := "polySums", inPlace := ["math/bits.Add64", "math/bits.Sub64", "internal/reflectlite.ValueOf", "(internal/reflectlite.Value).Type", "(internal/reflectlite.Value).IsNil", "internal/reflectlite.TypeOf", "(internal/reflectlite.Value).Elem", "(internal/reflectlite.Value).Set"], unfollowed := true, recurses := true, named := ["math/bits.divideError", "math/bits.overflowError", "errors.errorType"], apart := false, laid := [("errors.errorType", laid_errors_errorType)], narrowed := true }
def PolySumsUptoSaid : Prop := polySumsUptoRow.holds Tryd.pinned (OpenSpec.upto polySumsSpec)

end Rows
end Go.Proofs.YtdgmnhiffoemmaaDoor
