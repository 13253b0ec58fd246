/-
  No cell of these rows narrows 'for every input' (looked for: loops, veiled, ifaces, maps, wideKeys, modest, calm, conditions, laid).
  DERIVED. THE GIVEN ROWS OF THIS SEAT. 6 by the template 'for every input the law returns true; each argument reads behind the call as it read before'; 0 by the template 'total and deterministic' (their statements: YtbjgjagbepopfaaTotals.lean).
  GIVEN WITH THE SEED: the statements are not yours to turn. If you find one false, say at which input.
  Laid BY PROGRAM, IN A SANDBOX (cutbox-rows.mjs): the forced cells as the released guide's own fill.sh prints them over the translation f4636d71a1f018bf… (all of the seat's roots in one cut). By AI agents, Wed Nov 11 2026. No macro, syntax, notation, axiom, sorry.
-/
import Derived.Test.YtbjgjagbepopfaaChecked
import GoSem.Claim
import GoSem.ClaimJoined
import GoSem.ClaimMapViews
import Derived.JoinedTies
import Derived.KernelRfl
namespace Go.Proofs.Ytbjgjagbepopfaa
/- THE CELL 'sum', in the pinned program and in every row, IS THE sha256 OF THE DUMP (.gsa) THAT YtbjgjagbepopfaaProg.lean LOADS. Nothing in Lean hashes anything: it is a label: what it is worth is what the hold of that sum in a sandbox is worth. -/
noncomputable def Try.pinned : Pinned := { name := "ytbjgjagbepopfaa", sum := "f4636d71a1f018bff6e4a71e6f43dc0253e55ae730a561c433197314093cdaf7", checked := Try.checked }
namespace Rows
def none {H : Type} : Left H := { results := [], args := [] }

/-- 'seneschallaw30.NetOrders': WHATEVER THE INPUT: true; the input reads as it did. -/
def netOrdersSpec : ChangeSpec := { name := "netOrders", fn := fun _ => fun
  | [d1, d2] => { results := [.lit (.bool true)], args := [d1, d2] }
  | _ => none }
def netOrdersRow : OpenClaim := { program := "ytbjgjagbepopfaa", sum := "f4636d71a1f018bff6e4a71e6f43dc0253e55ae730a561c433197314093cdaf7", func := "seneschal/seneschallaw30.NetOrders", spec := "netOrders", unfollowed := true, recurses := true, plainKeys := false, apart := false }
def NetOrdersSaid : Prop := netOrdersRow.holds Try.pinned (OpenSpec.ofChange netOrdersSpec)

/-- ITS FALSE NEIGHBOUR: 'it returns false'. Refute it at one input. -/
def netOrdersWrong : ChangeSpec := { name := "netOrders", fn := fun _ => fun
  | [d1, d2] => { results := [.lit (.bool false)], args := [d1, d2] }
  | _ => none }
def NetOrdersWrongFalsely : Prop := netOrdersRow.holds Try.pinned (OpenSpec.ofChange netOrdersWrong)

/-- 'seneschallaw30.NetMakes': WHATEVER THE INPUT: true; the input reads as it did. -/
def netMakesSpec : ChangeSpec := { name := "netMakes", fn := fun _ => fun
  | [d] => { results := [.lit (.bool true)], args := [d] }
  | _ => none }
def netMakesRow : OpenClaim := { program := "ytbjgjagbepopfaa", sum := "f4636d71a1f018bff6e4a71e6f43dc0253e55ae730a561c433197314093cdaf7", func := "seneschal/seneschallaw30.NetMakes", spec := "netMakes", unfollowed := true, recurses := true, plainKeys := false, apart := false }
def NetMakesSaid : Prop := netMakesRow.holds Try.pinned (OpenSpec.ofChange netMakesSpec)

/-- ITS FALSE NEIGHBOUR: 'it returns false'. Refute it at one input. -/
def netMakesWrong : ChangeSpec := { name := "netMakes", fn := fun _ => fun
  | [d] => { results := [.lit (.bool false)], args := [d] }
  | _ => none }
def NetMakesWrongFalsely : Prop := netMakesRow.holds Try.pinned (OpenSpec.ofChange netMakesWrong)

/-- 'seneschallaw30.NetKeeps': WHATEVER THE INPUT: true; the input reads as it did. -/
def netKeepsSpec : ChangeSpec := { name := "netKeeps", fn := fun _ => fun
  | [d] => { results := [.lit (.bool true)], args := [d] }
  | _ => none }
def netKeepsRow : OpenClaim := { program := "ytbjgjagbepopfaa", sum := "f4636d71a1f018bff6e4a71e6f43dc0253e55ae730a561c433197314093cdaf7", func := "seneschal/seneschallaw30.NetKeeps", spec := "netKeeps", unfollowed := true, recurses := true, plainKeys := false, apart := false }
def NetKeepsSaid : Prop := netKeepsRow.holds Try.pinned (OpenSpec.ofChange netKeepsSpec)

/-- ITS FALSE NEIGHBOUR: 'it returns false'. Refute it at one input. -/
def netKeepsWrong : ChangeSpec := { name := "netKeeps", fn := fun _ => fun
  | [d] => { results := [.lit (.bool false)], args := [d] }
  | _ => none }
def NetKeepsWrongFalsely : Prop := netKeepsRow.holds Try.pinned (OpenSpec.ofChange netKeepsWrong)

/-- 'seneschallaw30.NetDown': WHATEVER THE INPUT: true; the input reads as it did. -/
def netDownSpec : ChangeSpec := { name := "netDown", fn := fun _ => fun
  | [d1, d2] => { results := [.lit (.bool true)], args := [d1, d2] }
  | _ => none }
def netDownRow : OpenClaim := { program := "ytbjgjagbepopfaa", sum := "f4636d71a1f018bff6e4a71e6f43dc0253e55ae730a561c433197314093cdaf7", func := "seneschal/seneschallaw30.NetDown", spec := "netDown", unfollowed := true, recurses := true, plainKeys := false, apart := false }
def NetDownSaid : Prop := netDownRow.holds Try.pinned (OpenSpec.ofChange netDownSpec)

/-- ITS FALSE NEIGHBOUR: 'it returns false'. Refute it at one input. -/
def netDownWrong : ChangeSpec := { name := "netDown", fn := fun _ => fun
  | [d1, d2] => { results := [.lit (.bool false)], args := [d1, d2] }
  | _ => none }
def NetDownWrongFalsely : Prop := netDownRow.holds Try.pinned (OpenSpec.ofChange netDownWrong)

/-- 'seneschallaw30.NetPlays': WHATEVER THE INPUT: true; the input reads as it did. -/
def netPlaysSpec : ChangeSpec := { name := "netPlays", fn := fun _ => fun
  | [d1, d2, d3] => { results := [.lit (.bool true)], args := [d1, d2, d3] }
  | _ => none }
def netPlaysRow : OpenClaim := { program := "ytbjgjagbepopfaa", sum := "f4636d71a1f018bff6e4a71e6f43dc0253e55ae730a561c433197314093cdaf7", func := "seneschal/seneschallaw30.NetPlays", spec := "netPlays", unfollowed := true, recurses := true, plainKeys := false, apart := false }
def NetPlaysSaid : Prop := netPlaysRow.holds Try.pinned (OpenSpec.ofChange netPlaysSpec)

/-- ITS FALSE NEIGHBOUR: 'it returns false'. Refute it at one input. -/
def netPlaysWrong : ChangeSpec := { name := "netPlays", fn := fun _ => fun
  | [d1, d2, d3] => { results := [.lit (.bool false)], args := [d1, d2, d3] }
  | _ => none }
def NetPlaysWrongFalsely : Prop := netPlaysRow.holds Try.pinned (OpenSpec.ofChange netPlaysWrong)

/-- 'seneschallaw30.NetVoid': WHATEVER THE INPUT: true; the input reads as it did. -/
def netVoidSpec : ChangeSpec := { name := "netVoid", fn := fun _ => fun
  | [d1, d2] => { results := [.lit (.bool true)], args := [d1, d2] }
  | _ => none }
def netVoidRow : OpenClaim := { program := "ytbjgjagbepopfaa", sum := "f4636d71a1f018bff6e4a71e6f43dc0253e55ae730a561c433197314093cdaf7", func := "seneschal/seneschallaw30.NetVoid", spec := "netVoid", unfollowed := true, recurses := true, plainKeys := false, apart := false }
def NetVoidSaid : Prop := netVoidRow.holds Try.pinned (OpenSpec.ofChange netVoidSpec)

/-- ITS FALSE NEIGHBOUR: 'it returns false'. Refute it at one input. -/
def netVoidWrong : ChangeSpec := { name := "netVoid", fn := fun _ => fun
  | [d1, d2] => { results := [.lit (.bool false)], args := [d1, d2] }
  | _ => none }
def NetVoidWrongFalsely : Prop := netVoidRow.holds Try.pinned (OpenSpec.ofChange netVoidWrong)

/- THE SECOND FORM. 'bulk': how many values and letters a reading holds, each counted each time it is reached (what is shared counts as often as it is met; a slice's spare places count too). A statement '..UptoSaid' is the law's where the arguments, and the package variables that the reading takes, are together of bulk at most 1048576: NARROWER than '..Said'. Prove '..Said' where nothing that the law and all that it calls make is longer than what came in: it says more and counts as full. Else prove '..UptoSaid'. A law counts once. -/
mutual
def uptoBulk {H : Type} : DataW H → Nat
  | .lit (.string bytes) => bytes.length + 1
  | .lit _ => 1
  | .nil => 1
  | .ptr d => uptoBulk d + 1
  | .slice elems spare => uptoBulkAll elems + uptoBulkAll spare + 1
  | .agg parts => uptoBulkAll parts + 1
  | .iface _ d => uptoBulk d + 1
  | .map entries => uptoBulkEntries entries + 1
  | .held _ => 1
def uptoBulkAll {H : Type} : List (DataW H) → Nat
  | [] => 0
  | d :: r => uptoBulk d + uptoBulkAll r
def uptoBulkEntries {H : Type} : List (Lit × DataW H) → Nat
  | [] => 0
  | x :: r => uptoBulkEntry x + uptoBulkEntries r
def uptoBulkEntry {H : Type} : Lit × DataW H → Nat
  | (.string bytes, d) => bytes.length + uptoBulk d + 1
  | (_, d) => uptoBulk d + 1
 end
def uptoSmall : (H : Type) → List (DataW H) → Bool := fun _ ds => decide (uptoBulkAll ds ≤ 1048576)
def OpenSpec.upto (s : _root_.Go.ChangeSpec) : _root_.Go.OpenSpec := { _root_.Go.OpenSpec.ofChange s with cond := some uptoSmall }

/-- 'seneschallaw30.NetOrders', WHERE WHAT IT READS IS OF BULK AT MOST 1048576: true; the input reads as it did. -/
def netOrdersUptoRow : OpenClaim := { program := "ytbjgjagbepopfaa", sum := "f4636d71a1f018bff6e4a71e6f43dc0253e55ae730a561c433197314093cdaf7", func := "seneschal/seneschallaw30.NetOrders", spec := "netOrders", unfollowed := true, recurses := true, plainKeys := false, apart := false, narrowed := true }
def NetOrdersUptoSaid : Prop := netOrdersUptoRow.holds Try.pinned (OpenSpec.upto netOrdersSpec)

/-- 'seneschallaw30.NetMakes', WHERE WHAT IT READS IS OF BULK AT MOST 1048576: true; the input reads as it did. -/
def netMakesUptoRow : OpenClaim := { program := "ytbjgjagbepopfaa", sum := "f4636d71a1f018bff6e4a71e6f43dc0253e55ae730a561c433197314093cdaf7", func := "seneschal/seneschallaw30.NetMakes", spec := "netMakes", unfollowed := true, recurses := true, plainKeys := false, apart := false, narrowed := true }
def NetMakesUptoSaid : Prop := netMakesUptoRow.holds Try.pinned (OpenSpec.upto netMakesSpec)

/-- 'seneschallaw30.NetKeeps', WHERE WHAT IT READS IS OF BULK AT MOST 1048576: true; the input reads as it did. -/
def netKeepsUptoRow : OpenClaim := { program := "ytbjgjagbepopfaa", sum := "f4636d71a1f018bff6e4a71e6f43dc0253e55ae730a561c433197314093cdaf7", func := "seneschal/seneschallaw30.NetKeeps", spec := "netKeeps", unfollowed := true, recurses := true, plainKeys := false, apart := false, narrowed := true }
def NetKeepsUptoSaid : Prop := netKeepsUptoRow.holds Try.pinned (OpenSpec.upto netKeepsSpec)

/-- 'seneschallaw30.NetDown', WHERE WHAT IT READS IS OF BULK AT MOST 1048576: true; the input reads as it did. -/
def netDownUptoRow : OpenClaim := { program := "ytbjgjagbepopfaa", sum := "f4636d71a1f018bff6e4a71e6f43dc0253e55ae730a561c433197314093cdaf7", func := "seneschal/seneschallaw30.NetDown", spec := "netDown", unfollowed := true, recurses := true, plainKeys := false, apart := false, narrowed := true }
def NetDownUptoSaid : Prop := netDownUptoRow.holds Try.pinned (OpenSpec.upto netDownSpec)

/-- 'seneschallaw30.NetPlays', WHERE WHAT IT READS IS OF BULK AT MOST 1048576: true; the input reads as it did. -/
def netPlaysUptoRow : OpenClaim := { program := "ytbjgjagbepopfaa", sum := "f4636d71a1f018bff6e4a71e6f43dc0253e55ae730a561c433197314093cdaf7", func := "seneschal/seneschallaw30.NetPlays", spec := "netPlays", unfollowed := true, recurses := true, plainKeys := false, apart := false, narrowed := true }
def NetPlaysUptoSaid : Prop := netPlaysUptoRow.holds Try.pinned (OpenSpec.upto netPlaysSpec)

/-- 'seneschallaw30.NetVoid', WHERE WHAT IT READS IS OF BULK AT MOST 1048576: true; the input reads as it did. -/
def netVoidUptoRow : OpenClaim := { program := "ytbjgjagbepopfaa", sum := "f4636d71a1f018bff6e4a71e6f43dc0253e55ae730a561c433197314093cdaf7", func := "seneschal/seneschallaw30.NetVoid", spec := "netVoid", unfollowed := true, recurses := true, plainKeys := false, apart := false, narrowed := true }
def NetVoidUptoSaid : Prop := netVoidUptoRow.holds Try.pinned (OpenSpec.upto netVoidSpec)

end Rows
end Go.Proofs.Ytbjgjagbepopfaa
