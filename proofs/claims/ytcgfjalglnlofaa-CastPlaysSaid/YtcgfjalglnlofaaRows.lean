/-
  No cell of these rows narrows 'for every input' (looked for: loops, veiled, ifaces, maps, wideKeys, modest, calm, conditions, laid).
  DERIVED. THE GIVEN ROWS OF THIS SEAT. 6 by the template 'for every input the law returns true; each argument reads behind the call as it read before'; 0 by the template 'total and deterministic' (their statements: YtcgfjalglnlofaaTotals.lean).
  GIVEN WITH THE SEED: the statements are not yours to turn. If you find one false, say at which input.
  Laid BY PROGRAM, IN A SANDBOX (cutbox-rows.mjs): the forced cells as the released guide's own fill.sh prints them over the translation 2d884a9fa2513bc2… (all of the seat's roots in one cut). By AI agents, Wed Nov 11 2026. No macro, syntax, notation, axiom, sorry.
-/
import Derived.Test.YtcgfjalglnlofaaChecked
import GoSem.Claim
import GoSem.ClaimJoined
import GoSem.ClaimMapViews
import Derived.JoinedTies
import Derived.KernelRfl
namespace Go.Proofs.Ytcgfjalglnlofaa
/- THE CELL 'sum', in the pinned program and in every row, IS THE sha256 OF THE DUMP (.gsa) THAT YtcgfjalglnlofaaProg.lean LOADS. Nothing in Lean hashes anything: it is a label: what it is worth is what the hold of that sum in a sandbox is worth. -/
noncomputable def Try.pinned : Pinned := { name := "ytcgfjalglnlofaa", sum := "2d884a9fa2513bc248eb4f27adff849dddfab91eb54cfbc143d4af071c7c1556", checked := Try.checked }
namespace Rows
def none {H : Type} : Left H := { results := [], args := [] }

/-- 'seneschallaw15.CastTotal': WHATEVER THE INPUT: true; the input reads as it did. -/
def castTotalSpec : ChangeSpec := { name := "castTotal", fn := fun _ => fun
  | [d1, d2] => { results := [.lit (.bool true)], args := [d1, d2] }
  | _ => none }
def castTotalRow : OpenClaim := { program := "ytcgfjalglnlofaa", sum := "2d884a9fa2513bc248eb4f27adff849dddfab91eb54cfbc143d4af071c7c1556", func := "seneschal/seneschallaw15.CastTotal", spec := "castTotal", unfollowed := true, recurses := true, apart := false }
def CastTotalSaid : Prop := castTotalRow.holds Try.pinned (OpenSpec.ofChange castTotalSpec)

/-- ITS FALSE NEIGHBOUR: 'it returns false'. Refute it at one input. -/
def castTotalWrong : ChangeSpec := { name := "castTotal", fn := fun _ => fun
  | [d1, d2] => { results := [.lit (.bool false)], args := [d1, d2] }
  | _ => none }
def CastTotalWrongFalsely : Prop := castTotalRow.holds Try.pinned (OpenSpec.ofChange castTotalWrong)

/-- 'seneschallaw15.CastOnce': WHATEVER THE INPUT: true; the input reads as it did. -/
def castOnceSpec : ChangeSpec := { name := "castOnce", fn := fun _ => fun
  | [d1, d2] => { results := [.lit (.bool true)], args := [d1, d2] }
  | _ => none }
def castOnceRow : OpenClaim := { program := "ytcgfjalglnlofaa", sum := "2d884a9fa2513bc248eb4f27adff849dddfab91eb54cfbc143d4af071c7c1556", func := "seneschal/seneschallaw15.CastOnce", spec := "castOnce", unfollowed := true, recurses := true, apart := false }
def CastOnceSaid : Prop := castOnceRow.holds Try.pinned (OpenSpec.ofChange castOnceSpec)

/-- ITS FALSE NEIGHBOUR: 'it returns false'. Refute it at one input. -/
def castOnceWrong : ChangeSpec := { name := "castOnce", fn := fun _ => fun
  | [d1, d2] => { results := [.lit (.bool false)], args := [d1, d2] }
  | _ => none }
def CastOnceWrongFalsely : Prop := castOnceRow.holds Try.pinned (OpenSpec.ofChange castOnceWrong)

/-- 'seneschallaw15.CastAgrees': WHATEVER THE INPUT: true; the input reads as it did. -/
def castAgreesSpec : ChangeSpec := { name := "castAgrees", fn := fun _ => fun
  | [d1, d2, d3] => { results := [.lit (.bool true)], args := [d1, d2, d3] }
  | _ => none }
def castAgreesRow : OpenClaim := { program := "ytcgfjalglnlofaa", sum := "2d884a9fa2513bc248eb4f27adff849dddfab91eb54cfbc143d4af071c7c1556", func := "seneschal/seneschallaw15.CastAgrees", spec := "castAgrees", unfollowed := true, recurses := true, apart := false }
def CastAgreesSaid : Prop := castAgreesRow.holds Try.pinned (OpenSpec.ofChange castAgreesSpec)

/-- ITS FALSE NEIGHBOUR: 'it returns false'. Refute it at one input. -/
def castAgreesWrong : ChangeSpec := { name := "castAgrees", fn := fun _ => fun
  | [d1, d2, d3] => { results := [.lit (.bool false)], args := [d1, d2, d3] }
  | _ => none }
def CastAgreesWrongFalsely : Prop := castAgreesRow.holds Try.pinned (OpenSpec.ofChange castAgreesWrong)

/-- 'seneschallaw15.CastTold': WHATEVER THE INPUT: true; the input reads as it did. -/
def castToldSpec : ChangeSpec := { name := "castTold", fn := fun _ => fun
  | [d1, d2, d3] => { results := [.lit (.bool true)], args := [d1, d2, d3] }
  | _ => none }
def castToldRow : OpenClaim := { program := "ytcgfjalglnlofaa", sum := "2d884a9fa2513bc248eb4f27adff849dddfab91eb54cfbc143d4af071c7c1556", func := "seneschal/seneschallaw15.CastTold", spec := "castTold", unfollowed := true, recurses := true, apart := false }
def CastToldSaid : Prop := castToldRow.holds Try.pinned (OpenSpec.ofChange castToldSpec)

/-- ITS FALSE NEIGHBOUR: 'it returns false'. Refute it at one input. -/
def castToldWrong : ChangeSpec := { name := "castTold", fn := fun _ => fun
  | [d1, d2, d3] => { results := [.lit (.bool false)], args := [d1, d2, d3] }
  | _ => none }
def CastToldWrongFalsely : Prop := castToldRow.holds Try.pinned (OpenSpec.ofChange castToldWrong)

/-- 'seneschallaw15.CastPlays': WHATEVER THE INPUT: true; the input reads as it did. -/
def castPlaysSpec : ChangeSpec := { name := "castPlays", fn := fun _ => fun
  | [d1, d2, d3, d4, d5] => { results := [.lit (.bool true)], args := [d1, d2, d3, d4, d5] }
  | _ => none }
def castPlaysRow : OpenClaim := { program := "ytcgfjalglnlofaa", sum := "2d884a9fa2513bc248eb4f27adff849dddfab91eb54cfbc143d4af071c7c1556", func := "seneschal/seneschallaw15.CastPlays", spec := "castPlays", unfollowed := true, recurses := true, apart := false }
def CastPlaysSaid : Prop := castPlaysRow.holds Try.pinned (OpenSpec.ofChange castPlaysSpec)

/-- ITS FALSE NEIGHBOUR: 'it returns false'. Refute it at one input. -/
def castPlaysWrong : ChangeSpec := { name := "castPlays", fn := fun _ => fun
  | [d1, d2, d3, d4, d5] => { results := [.lit (.bool false)], args := [d1, d2, d3, d4, d5] }
  | _ => none }
def CastPlaysWrongFalsely : Prop := castPlaysRow.holds Try.pinned (OpenSpec.ofChange castPlaysWrong)

/-- 'seneschallaw15.CastVoid': WHATEVER THE INPUT: true; the input reads as it did. -/
def castVoidSpec : ChangeSpec := { name := "castVoid", fn := fun _ => fun
  | [d] => { results := [.lit (.bool true)], args := [d] }
  | _ => none }
def castVoidRow : OpenClaim := { program := "ytcgfjalglnlofaa", sum := "2d884a9fa2513bc248eb4f27adff849dddfab91eb54cfbc143d4af071c7c1556", func := "seneschal/seneschallaw15.CastVoid", spec := "castVoid", unfollowed := true, recurses := true, apart := false }
def CastVoidSaid : Prop := castVoidRow.holds Try.pinned (OpenSpec.ofChange castVoidSpec)

/-- ITS FALSE NEIGHBOUR: 'it returns false'. Refute it at one input. -/
def castVoidWrong : ChangeSpec := { name := "castVoid", fn := fun _ => fun
  | [d] => { results := [.lit (.bool false)], args := [d] }
  | _ => none }
def CastVoidWrongFalsely : Prop := castVoidRow.holds Try.pinned (OpenSpec.ofChange castVoidWrong)

/- THE SECOND FORM. 'bulk': how many values and letters a reading holds, each counted each time it is reached (what is shared counts as often as it is met; a slice's spare places count too). A statement '..UptoSaid' is the law's where the arguments, and the package variables that the reading takes, are together of bulk at most 1048576: NARROWER than '..Said'. Prove '..Said' where nothing that the law and all that it calls make is longer than what came in: it says more and counts as full. Else prove '..UptoSaid'. A law counts once. -/
mutual
def uptoBulk {H : Type} : DataW H → Nat
  | .lit (.string bytes) => bytes.length + 1
  | .lit _ => 1
  | .nil => 1
  | .ptr d => uptoBulk d + 1
  | .slice elems spare => uptoBulkAll elems + uptoBulkAll spare + 1
  | .agg parts => uptoBulkAll parts + 1
  | .iface _ d => uptoBulk d + 1
  | .map entries => uptoBulkEntries entries + 1
  | .held _ => 1
def uptoBulkAll {H : Type} : List (DataW H) → Nat
  | [] => 0
  | d :: r => uptoBulk d + uptoBulkAll r
def uptoBulkEntries {H : Type} : List (Lit × DataW H) → Nat
  | [] => 0
  | x :: r => uptoBulkEntry x + uptoBulkEntries r
def uptoBulkEntry {H : Type} : Lit × DataW H → Nat
  | (.string bytes, d) => bytes.length + uptoBulk d + 1
  | (_, d) => uptoBulk d + 1
 end
def uptoSmall : (H : Type) → List (DataW H) → Bool := fun _ ds => decide (uptoBulkAll ds ≤ 1048576)
def OpenSpec.upto (s : _root_.Go.ChangeSpec) : _root_.Go.OpenSpec := { _root_.Go.OpenSpec.ofChange s with cond := some uptoSmall }

/-- 'seneschallaw15.CastTotal', WHERE WHAT IT READS IS OF BULK AT MOST 1048576: true; the input reads as it did. -/
def castTotalUptoRow : OpenClaim := { program := "ytcgfjalglnlofaa", sum := "2d884a9fa2513bc248eb4f27adff849dddfab91eb54cfbc143d4af071c7c1556", func := "seneschal/seneschallaw15.CastTotal", spec := "castTotal", unfollowed := true, recurses := true, apart := false, narrowed := true }
def CastTotalUptoSaid : Prop := castTotalUptoRow.holds Try.pinned (OpenSpec.upto castTotalSpec)

/-- 'seneschallaw15.CastOnce', WHERE WHAT IT READS IS OF BULK AT MOST 1048576: true; the input reads as it did. -/
def castOnceUptoRow : OpenClaim := { program := "ytcgfjalglnlofaa", sum := "2d884a9fa2513bc248eb4f27adff849dddfab91eb54cfbc143d4af071c7c1556", func := "seneschal/seneschallaw15.CastOnce", spec := "castOnce", unfollowed := true, recurses := true, apart := false, narrowed := true }
def CastOnceUptoSaid : Prop := castOnceUptoRow.holds Try.pinned (OpenSpec.upto castOnceSpec)

/-- 'seneschallaw15.CastAgrees', WHERE WHAT IT READS IS OF BULK AT MOST 1048576: true; the input reads as it did. -/
def castAgreesUptoRow : OpenClaim := { program := "ytcgfjalglnlofaa", sum := "2d884a9fa2513bc248eb4f27adff849dddfab91eb54cfbc143d4af071c7c1556", func := "seneschal/seneschallaw15.CastAgrees", spec := "castAgrees", unfollowed := true, recurses := true, apart := false, narrowed := true }
def CastAgreesUptoSaid : Prop := castAgreesUptoRow.holds Try.pinned (OpenSpec.upto castAgreesSpec)

/-- 'seneschallaw15.CastTold', WHERE WHAT IT READS IS OF BULK AT MOST 1048576: true; the input reads as it did. -/
def castToldUptoRow : OpenClaim := { program := "ytcgfjalglnlofaa", sum := "2d884a9fa2513bc248eb4f27adff849dddfab91eb54cfbc143d4af071c7c1556", func := "seneschal/seneschallaw15.CastTold", spec := "castTold", unfollowed := true, recurses := true, apart := false, narrowed := true }
def CastToldUptoSaid : Prop := castToldUptoRow.holds Try.pinned (OpenSpec.upto castToldSpec)

/-- 'seneschallaw15.CastPlays', WHERE WHAT IT READS IS OF BULK AT MOST 1048576: true; the input reads as it did. -/
def castPlaysUptoRow : OpenClaim := { program := "ytcgfjalglnlofaa", sum := "2d884a9fa2513bc248eb4f27adff849dddfab91eb54cfbc143d4af071c7c1556", func := "seneschal/seneschallaw15.CastPlays", spec := "castPlays", unfollowed := true, recurses := true, apart := false, narrowed := true }
def CastPlaysUptoSaid : Prop := castPlaysUptoRow.holds Try.pinned (OpenSpec.upto castPlaysSpec)

/-- 'seneschallaw15.CastVoid', WHERE WHAT IT READS IS OF BULK AT MOST 1048576: true; the input reads as it did. -/
def castVoidUptoRow : OpenClaim := { program := "ytcgfjalglnlofaa", sum := "2d884a9fa2513bc248eb4f27adff849dddfab91eb54cfbc143d4af071c7c1556", func := "seneschal/seneschallaw15.CastVoid", spec := "castVoid", unfollowed := true, recurses := true, apart := false, narrowed := true }
def CastVoidUptoSaid : Prop := castVoidUptoRow.holds Try.pinned (OpenSpec.upto castVoidSpec)

end Rows
end Go.Proofs.Ytcgfjalglnlofaa
