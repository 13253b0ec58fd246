/-
  No cell of these rows narrows 'for every input' (looked for: loops, veiled, ifaces, maps, wideKeys, modest, calm, conditions, laid).
  DERIVED. THE GIVEN ROWS OF THIS SEAT. 5 by the template 'for every input the law returns true; each argument reads behind the call as it read before'; 0 by the template 'total and deterministic' (their statements: YtnpmjpdndhedgaaTotals.lean).
  GIVEN WITH THE SEED: the statements are not yours to turn. If you find one false, say at which input.
  Laid BY PROGRAM, IN A SANDBOX (cutbox-rows.mjs): the forced cells as the released guide's own fill.sh prints them over the translation b60230468af5d1e7… (all of the seat's roots in one cut). By AI agents, Wed Nov 11 2026. No macro, syntax, notation, axiom, sorry.
-/
import Derived.Test.YtnpmjpdndhedgaaChecked
import GoSem.Claim
import GoSem.ClaimJoined
import GoSem.ClaimMapViews
import Derived.JoinedTies
import Derived.KernelRfl
namespace Go.Proofs.Ytnpmjpdndhedgaa
/- THE CELL 'sum', in the pinned program and in every row, IS THE sha256 OF THE DUMP (.gsa) THAT YtnpmjpdndhedgaaProg.lean LOADS. Nothing in Lean hashes anything: it is a label: what it is worth is what the hold of that sum in a sandbox is worth. -/
noncomputable def Try.pinned : Pinned := { name := "ytnpmjpdndhedgaa", sum := "b60230468af5d1e7d6d085ec0c65fc843a08417d8cfb119a5835deb8de987598", checked := Try.checked }
namespace Rows
def none {H : Type} : Left H := { results := [], args := [] }

/-- 'seneschallaw16.AgreeSame': WHATEVER THE INPUT: true; the input reads as it did. -/
def agreeSameSpec : ChangeSpec := { name := "agreeSame", fn := fun _ => fun
  | [d1, d2, d3] => { results := [.lit (.bool true)], args := [d1, d2, d3] }
  | _ => none }
def agreeSameRow : OpenClaim := { program := "ytnpmjpdndhedgaa", sum := "b60230468af5d1e7d6d085ec0c65fc843a08417d8cfb119a5835deb8de987598", func := "seneschal/seneschallaw16.AgreeSame", spec := "agreeSame", plainKeys := false, apart := false }
def AgreeSameSaid : Prop := agreeSameRow.holds Try.pinned (OpenSpec.ofChange agreeSameSpec)

/-- ITS FALSE NEIGHBOUR: 'it returns false'. Refute it at one input. -/
def agreeSameWrong : ChangeSpec := { name := "agreeSame", fn := fun _ => fun
  | [d1, d2, d3] => { results := [.lit (.bool false)], args := [d1, d2, d3] }
  | _ => none }
def AgreeSameWrongFalsely : Prop := agreeSameRow.holds Try.pinned (OpenSpec.ofChange agreeSameWrong)

/-- 'seneschallaw16.AgreeTold': WHATEVER THE INPUT: true; the input reads as it did. -/
def agreeToldSpec : ChangeSpec := { name := "agreeTold", fn := fun _ => fun
  | [d1, d2, d3] => { results := [.lit (.bool true)], args := [d1, d2, d3] }
  | _ => none }
def agreeToldRow : OpenClaim := { program := "ytnpmjpdndhedgaa", sum := "b60230468af5d1e7d6d085ec0c65fc843a08417d8cfb119a5835deb8de987598", func := "seneschal/seneschallaw16.AgreeTold", spec := "agreeTold", plainKeys := false, apart := false }
def AgreeToldSaid : Prop := agreeToldRow.holds Try.pinned (OpenSpec.ofChange agreeToldSpec)

/-- ITS FALSE NEIGHBOUR: 'it returns false'. Refute it at one input. -/
def agreeToldWrong : ChangeSpec := { name := "agreeTold", fn := fun _ => fun
  | [d1, d2, d3] => { results := [.lit (.bool false)], args := [d1, d2, d3] }
  | _ => none }
def AgreeToldWrongFalsely : Prop := agreeToldRow.holds Try.pinned (OpenSpec.ofChange agreeToldWrong)

/-- 'seneschallaw16.AgreeEnds': WHATEVER THE INPUT: true; the input reads as it did. -/
def agreeEndsSpec : ChangeSpec := { name := "agreeEnds", fn := fun _ => fun
  | [d1, d2, d3] => { results := [.lit (.bool true)], args := [d1, d2, d3] }
  | _ => none }
def agreeEndsRow : OpenClaim := { program := "ytnpmjpdndhedgaa", sum := "b60230468af5d1e7d6d085ec0c65fc843a08417d8cfb119a5835deb8de987598", func := "seneschal/seneschallaw16.AgreeEnds", spec := "agreeEnds", plainKeys := false, apart := false }
def AgreeEndsSaid : Prop := agreeEndsRow.holds Try.pinned (OpenSpec.ofChange agreeEndsSpec)

/-- ITS FALSE NEIGHBOUR: 'it returns false'. Refute it at one input. -/
def agreeEndsWrong : ChangeSpec := { name := "agreeEnds", fn := fun _ => fun
  | [d1, d2, d3] => { results := [.lit (.bool false)], args := [d1, d2, d3] }
  | _ => none }
def AgreeEndsWrongFalsely : Prop := agreeEndsRow.holds Try.pinned (OpenSpec.ofChange agreeEndsWrong)

/-- 'seneschallaw16.AgreeOnce': WHATEVER THE INPUT: true; the input reads as it did. -/
def agreeOnceSpec : ChangeSpec := { name := "agreeOnce", fn := fun _ => fun
  | [d1, d2, d3] => { results := [.lit (.bool true)], args := [d1, d2, d3] }
  | _ => none }
def agreeOnceRow : OpenClaim := { program := "ytnpmjpdndhedgaa", sum := "b60230468af5d1e7d6d085ec0c65fc843a08417d8cfb119a5835deb8de987598", func := "seneschal/seneschallaw16.AgreeOnce", spec := "agreeOnce", plainKeys := false, apart := false }
def AgreeOnceSaid : Prop := agreeOnceRow.holds Try.pinned (OpenSpec.ofChange agreeOnceSpec)

/-- ITS FALSE NEIGHBOUR: 'it returns false'. Refute it at one input. -/
def agreeOnceWrong : ChangeSpec := { name := "agreeOnce", fn := fun _ => fun
  | [d1, d2, d3] => { results := [.lit (.bool false)], args := [d1, d2, d3] }
  | _ => none }
def AgreeOnceWrongFalsely : Prop := agreeOnceRow.holds Try.pinned (OpenSpec.ofChange agreeOnceWrong)

/-- 'seneschallaw16.AgreePlays': WHATEVER THE INPUT: true; the input reads as it did. -/
def agreePlaysSpec : ChangeSpec := { name := "agreePlays", fn := fun _ => fun
  | [d1, d2, d3, d4, d5] => { results := [.lit (.bool true)], args := [d1, d2, d3, d4, d5] }
  | _ => none }
def agreePlaysRow : OpenClaim := { program := "ytnpmjpdndhedgaa", sum := "b60230468af5d1e7d6d085ec0c65fc843a08417d8cfb119a5835deb8de987598", func := "seneschal/seneschallaw16.AgreePlays", spec := "agreePlays", plainKeys := false, apart := false }
def AgreePlaysSaid : Prop := agreePlaysRow.holds Try.pinned (OpenSpec.ofChange agreePlaysSpec)

/-- ITS FALSE NEIGHBOUR: 'it returns false'. Refute it at one input. -/
def agreePlaysWrong : ChangeSpec := { name := "agreePlays", fn := fun _ => fun
  | [d1, d2, d3, d4, d5] => { results := [.lit (.bool false)], args := [d1, d2, d3, d4, d5] }
  | _ => none }
def AgreePlaysWrongFalsely : Prop := agreePlaysRow.holds Try.pinned (OpenSpec.ofChange agreePlaysWrong)

/- THE SECOND FORM. 'bulk': how many values and letters a reading holds, each counted each time it is reached (what is shared counts as often as it is met; a slice's spare places count too). A statement '..UptoSaid' is the law's where the arguments, and the package variables that the reading takes, are together of bulk at most 1048576: NARROWER than '..Said'. Prove '..Said' where nothing that the law and all that it calls make is longer than what came in: it says more and counts as full. Else prove '..UptoSaid'. A law counts once. -/
mutual
def uptoBulk {H : Type} : DataW H → Nat
  | .lit (.string bytes) => bytes.length + 1
  | .lit _ => 1
  | .nil => 1
  | .ptr d => uptoBulk d + 1
  | .slice elems spare => uptoBulkAll elems + uptoBulkAll spare + 1
  | .agg parts => uptoBulkAll parts + 1
  | .iface _ d => uptoBulk d + 1
  | .map entries => uptoBulkEntries entries + 1
  | .held _ => 1
def uptoBulkAll {H : Type} : List (DataW H) → Nat
  | [] => 0
  | d :: r => uptoBulk d + uptoBulkAll r
def uptoBulkEntries {H : Type} : List (Lit × DataW H) → Nat
  | [] => 0
  | x :: r => uptoBulkEntry x + uptoBulkEntries r
def uptoBulkEntry {H : Type} : Lit × DataW H → Nat
  | (.string bytes, d) => bytes.length + uptoBulk d + 1
  | (_, d) => uptoBulk d + 1
 end
def uptoSmall : (H : Type) → List (DataW H) → Bool := fun _ ds => decide (uptoBulkAll ds ≤ 1048576)
def OpenSpec.upto (s : _root_.Go.ChangeSpec) : _root_.Go.OpenSpec := { _root_.Go.OpenSpec.ofChange s with cond := some uptoSmall }

/-- 'seneschallaw16.AgreeSame', WHERE WHAT IT READS IS OF BULK AT MOST 1048576: true; the input reads as it did. -/
def agreeSameUptoRow : OpenClaim := { program := "ytnpmjpdndhedgaa", sum := "b60230468af5d1e7d6d085ec0c65fc843a08417d8cfb119a5835deb8de987598", func := "seneschal/seneschallaw16.AgreeSame", spec := "agreeSame", plainKeys := false, apart := false, narrowed := true }
def AgreeSameUptoSaid : Prop := agreeSameUptoRow.holds Try.pinned (OpenSpec.upto agreeSameSpec)

/-- 'seneschallaw16.AgreeTold', WHERE WHAT IT READS IS OF BULK AT MOST 1048576: true; the input reads as it did. -/
def agreeToldUptoRow : OpenClaim := { program := "ytnpmjpdndhedgaa", sum := "b60230468af5d1e7d6d085ec0c65fc843a08417d8cfb119a5835deb8de987598", func := "seneschal/seneschallaw16.AgreeTold", spec := "agreeTold", plainKeys := false, apart := false, narrowed := true }
def AgreeToldUptoSaid : Prop := agreeToldUptoRow.holds Try.pinned (OpenSpec.upto agreeToldSpec)

/-- 'seneschallaw16.AgreeEnds', WHERE WHAT IT READS IS OF BULK AT MOST 1048576: true; the input reads as it did. -/
def agreeEndsUptoRow : OpenClaim := { program := "ytnpmjpdndhedgaa", sum := "b60230468af5d1e7d6d085ec0c65fc843a08417d8cfb119a5835deb8de987598", func := "seneschal/seneschallaw16.AgreeEnds", spec := "agreeEnds", plainKeys := false, apart := false, narrowed := true }
def AgreeEndsUptoSaid : Prop := agreeEndsUptoRow.holds Try.pinned (OpenSpec.upto agreeEndsSpec)

/-- 'seneschallaw16.AgreeOnce', WHERE WHAT IT READS IS OF BULK AT MOST 1048576: true; the input reads as it did. -/
def agreeOnceUptoRow : OpenClaim := { program := "ytnpmjpdndhedgaa", sum := "b60230468af5d1e7d6d085ec0c65fc843a08417d8cfb119a5835deb8de987598", func := "seneschal/seneschallaw16.AgreeOnce", spec := "agreeOnce", plainKeys := false, apart := false, narrowed := true }
def AgreeOnceUptoSaid : Prop := agreeOnceUptoRow.holds Try.pinned (OpenSpec.upto agreeOnceSpec)

/-- 'seneschallaw16.AgreePlays', WHERE WHAT IT READS IS OF BULK AT MOST 1048576: true; the input reads as it did. -/
def agreePlaysUptoRow : OpenClaim := { program := "ytnpmjpdndhedgaa", sum := "b60230468af5d1e7d6d085ec0c65fc843a08417d8cfb119a5835deb8de987598", func := "seneschal/seneschallaw16.AgreePlays", spec := "agreePlays", plainKeys := false, apart := false, narrowed := true }
def AgreePlaysUptoSaid : Prop := agreePlaysUptoRow.holds Try.pinned (OpenSpec.upto agreePlaysSpec)

end Rows
end Go.Proofs.Ytnpmjpdndhedgaa
