/-
  No cell of these rows narrows 'for every input' (looked for: loops, veiled, ifaces, maps, wideKeys, modest, calm, conditions, laid).
  DERIVED. THE GIVEN ROWS OF THIS SEAT. 6 by the template 'for every input the law returns true; each argument reads behind the call as it read before'; 0 by the template 'total and deterministic' (their statements: YteifjbfojjjacaaTotals.lean).
  GIVEN WITH THE SEED: the statements are not yours to turn. If you find one false, say at which input.
  Laid BY PROGRAM, IN A SANDBOX (cutbox-rows.mjs): the forced cells as the released guide's own fill.sh prints them over the translation 21c05e910334bb7c… (all of the seat's roots in one cut). By AI agents, Wed Nov 11 2026. No macro, syntax, notation, axiom, sorry.
-/
import Derived.Test.YteifjbfojjjacaaChecked
import GoSem.Claim
import GoSem.ClaimJoined
import GoSem.ClaimMapViews
import Derived.JoinedTies
import Derived.KernelRfl
namespace Go.Proofs.Yteifjbfojjjacaa
/- THE CELL 'sum', in the pinned program and in every row, IS THE sha256 OF THE DUMP (.gsa) THAT YteifjbfojjjacaaProg.lean LOADS. Nothing in Lean hashes anything: it is a label: what it is worth is what the hold of that sum in a sandbox is worth. -/
noncomputable def Try.pinned : Pinned := { name := "yteifjbfojjjacaa", sum := "21c05e910334bb7c63f1eb0cde99df0b6779e2152beef23cf96c1b8762aa75d0", checked := Try.checked }
namespace Rows
def none {H : Type} : Left H := { results := [], args := [] }

/-- 'seneschallaw21.CacheSees': WHATEVER THE INPUT: true; the input reads as it did. -/
def cacheSeesSpec : ChangeSpec := { name := "cacheSees", fn := fun _ => fun
  | [d1, d2, d3] => { results := [.lit (.bool true)], args := [d1, d2, d3] }
  | _ => none }
def cacheSeesRow : OpenClaim := { program := "yteifjbfojjjacaa", sum := "21c05e910334bb7c63f1eb0cde99df0b6779e2152beef23cf96c1b8762aa75d0", func := "seneschal/seneschallaw21.CacheSees", spec := "cacheSees", unfollowed := true, recurses := true, apart := false }
def CacheSeesSaid : Prop := cacheSeesRow.holds Try.pinned (OpenSpec.ofChange cacheSeesSpec)

/-- ITS FALSE NEIGHBOUR: 'it returns false'. Refute it at one input. -/
def cacheSeesWrong : ChangeSpec := { name := "cacheSees", fn := fun _ => fun
  | [d1, d2, d3] => { results := [.lit (.bool false)], args := [d1, d2, d3] }
  | _ => none }
def CacheSeesWrongFalsely : Prop := cacheSeesRow.holds Try.pinned (OpenSpec.ofChange cacheSeesWrong)

/-- 'seneschallaw21.CacheOnce': WHATEVER THE INPUT: true; the input reads as it did. -/
def cacheOnceSpec : ChangeSpec := { name := "cacheOnce", fn := fun _ => fun
  | [d1, d2, d3] => { results := [.lit (.bool true)], args := [d1, d2, d3] }
  | _ => none }
def cacheOnceRow : OpenClaim := { program := "yteifjbfojjjacaa", sum := "21c05e910334bb7c63f1eb0cde99df0b6779e2152beef23cf96c1b8762aa75d0", func := "seneschal/seneschallaw21.CacheOnce", spec := "cacheOnce", unfollowed := true, recurses := true, apart := false }
def CacheOnceSaid : Prop := cacheOnceRow.holds Try.pinned (OpenSpec.ofChange cacheOnceSpec)

/-- ITS FALSE NEIGHBOUR: 'it returns false'. Refute it at one input. -/
def cacheOnceWrong : ChangeSpec := { name := "cacheOnce", fn := fun _ => fun
  | [d1, d2, d3] => { results := [.lit (.bool false)], args := [d1, d2, d3] }
  | _ => none }
def CacheOnceWrongFalsely : Prop := cacheOnceRow.holds Try.pinned (OpenSpec.ofChange cacheOnceWrong)

/-- 'seneschallaw21.CacheFinds': WHATEVER THE INPUT: true; the input reads as it did. -/
def cacheFindsSpec : ChangeSpec := { name := "cacheFinds", fn := fun _ => fun
  | [d1, d2] => { results := [.lit (.bool true)], args := [d1, d2] }
  | _ => none }
def cacheFindsRow : OpenClaim := { program := "yteifjbfojjjacaa", sum := "21c05e910334bb7c63f1eb0cde99df0b6779e2152beef23cf96c1b8762aa75d0", func := "seneschal/seneschallaw21.CacheFinds", spec := "cacheFinds", unfollowed := true, recurses := true, apart := false }
def CacheFindsSaid : Prop := cacheFindsRow.holds Try.pinned (OpenSpec.ofChange cacheFindsSpec)

/-- ITS FALSE NEIGHBOUR: 'it returns false'. Refute it at one input. -/
def cacheFindsWrong : ChangeSpec := { name := "cacheFinds", fn := fun _ => fun
  | [d1, d2] => { results := [.lit (.bool false)], args := [d1, d2] }
  | _ => none }
def CacheFindsWrongFalsely : Prop := cacheFindsRow.holds Try.pinned (OpenSpec.ofChange cacheFindsWrong)

/-- 'seneschallaw21.CacheRoom': WHATEVER THE INPUT: true; the input reads as it did. -/
def cacheRoomSpec : ChangeSpec := { name := "cacheRoom", fn := fun _ => fun
  | [d1, d2] => { results := [.lit (.bool true)], args := [d1, d2] }
  | _ => none }
def cacheRoomRow : OpenClaim := { program := "yteifjbfojjjacaa", sum := "21c05e910334bb7c63f1eb0cde99df0b6779e2152beef23cf96c1b8762aa75d0", func := "seneschal/seneschallaw21.CacheRoom", spec := "cacheRoom", unfollowed := true, recurses := true, apart := false }
def CacheRoomSaid : Prop := cacheRoomRow.holds Try.pinned (OpenSpec.ofChange cacheRoomSpec)

/-- ITS FALSE NEIGHBOUR: 'it returns false'. Refute it at one input. -/
def cacheRoomWrong : ChangeSpec := { name := "cacheRoom", fn := fun _ => fun
  | [d1, d2] => { results := [.lit (.bool false)], args := [d1, d2] }
  | _ => none }
def CacheRoomWrongFalsely : Prop := cacheRoomRow.holds Try.pinned (OpenSpec.ofChange cacheRoomWrong)

/-- 'seneschallaw21.CacheHolds': WHATEVER THE INPUT: true; the input reads as it did. -/
def cacheHoldsSpec : ChangeSpec := { name := "cacheHolds", fn := fun _ => fun
  | [d1, d2] => { results := [.lit (.bool true)], args := [d1, d2] }
  | _ => none }
def cacheHoldsRow : OpenClaim := { program := "yteifjbfojjjacaa", sum := "21c05e910334bb7c63f1eb0cde99df0b6779e2152beef23cf96c1b8762aa75d0", func := "seneschal/seneschallaw21.CacheHolds", spec := "cacheHolds", unfollowed := true, recurses := true, apart := false }
def CacheHoldsSaid : Prop := cacheHoldsRow.holds Try.pinned (OpenSpec.ofChange cacheHoldsSpec)

/-- ITS FALSE NEIGHBOUR: 'it returns false'. Refute it at one input. -/
def cacheHoldsWrong : ChangeSpec := { name := "cacheHolds", fn := fun _ => fun
  | [d1, d2] => { results := [.lit (.bool false)], args := [d1, d2] }
  | _ => none }
def CacheHoldsWrongFalsely : Prop := cacheHoldsRow.holds Try.pinned (OpenSpec.ofChange cacheHoldsWrong)

/-- 'seneschallaw21.CacheVoid': WHATEVER THE INPUT: true; the input reads as it did. -/
def cacheVoidSpec : ChangeSpec := { name := "cacheVoid", fn := fun _ => fun
  | [d1, d2] => { results := [.lit (.bool true)], args := [d1, d2] }
  | _ => none }
def cacheVoidRow : OpenClaim := { program := "yteifjbfojjjacaa", sum := "21c05e910334bb7c63f1eb0cde99df0b6779e2152beef23cf96c1b8762aa75d0", func := "seneschal/seneschallaw21.CacheVoid", spec := "cacheVoid", unfollowed := true, recurses := true, apart := false }
def CacheVoidSaid : Prop := cacheVoidRow.holds Try.pinned (OpenSpec.ofChange cacheVoidSpec)

/-- ITS FALSE NEIGHBOUR: 'it returns false'. Refute it at one input. -/
def cacheVoidWrong : ChangeSpec := { name := "cacheVoid", fn := fun _ => fun
  | [d1, d2] => { results := [.lit (.bool false)], args := [d1, d2] }
  | _ => none }
def CacheVoidWrongFalsely : Prop := cacheVoidRow.holds Try.pinned (OpenSpec.ofChange cacheVoidWrong)

/- THE SECOND FORM. 'bulk': how many values and letters a reading holds, each counted each time it is reached (what is shared counts as often as it is met; a slice's spare places count too). A statement '..UptoSaid' is the law's where the arguments, and the package variables that the reading takes, are together of bulk at most 1048576: NARROWER than '..Said'. Prove '..Said' where nothing that the law and all that it calls make is longer than what came in: it says more and counts as full. Else prove '..UptoSaid'. A law counts once. -/
mutual
def uptoBulk {H : Type} : DataW H → Nat
  | .lit (.string bytes) => bytes.length + 1
  | .lit _ => 1
  | .nil => 1
  | .ptr d => uptoBulk d + 1
  | .slice elems spare => uptoBulkAll elems + uptoBulkAll spare + 1
  | .agg parts => uptoBulkAll parts + 1
  | .iface _ d => uptoBulk d + 1
  | .map entries => uptoBulkEntries entries + 1
  | .held _ => 1
def uptoBulkAll {H : Type} : List (DataW H) → Nat
  | [] => 0
  | d :: r => uptoBulk d + uptoBulkAll r
def uptoBulkEntries {H : Type} : List (Lit × DataW H) → Nat
  | [] => 0
  | x :: r => uptoBulkEntry x + uptoBulkEntries r
def uptoBulkEntry {H : Type} : Lit × DataW H → Nat
  | (.string bytes, d) => bytes.length + uptoBulk d + 1
  | (_, d) => uptoBulk d + 1
 end
def uptoSmall : (H : Type) → List (DataW H) → Bool := fun _ ds => decide (uptoBulkAll ds ≤ 1048576)
def OpenSpec.upto (s : _root_.Go.ChangeSpec) : _root_.Go.OpenSpec := { _root_.Go.OpenSpec.ofChange s with cond := some uptoSmall }

/-- 'seneschallaw21.CacheSees', WHERE WHAT IT READS IS OF BULK AT MOST 1048576: true; the input reads as it did. -/
def cacheSeesUptoRow : OpenClaim := { program := "yteifjbfojjjacaa", sum := "21c05e910334bb7c63f1eb0cde99df0b6779e2152beef23cf96c1b8762aa75d0", func := "seneschal/seneschallaw21.CacheSees", spec := "cacheSees", unfollowed := true, recurses := true, apart := false, narrowed := true }
def CacheSeesUptoSaid : Prop := cacheSeesUptoRow.holds Try.pinned (OpenSpec.upto cacheSeesSpec)

/-- 'seneschallaw21.CacheOnce', WHERE WHAT IT READS IS OF BULK AT MOST 1048576: true; the input reads as it did. -/
def cacheOnceUptoRow : OpenClaim := { program := "yteifjbfojjjacaa", sum := "21c05e910334bb7c63f1eb0cde99df0b6779e2152beef23cf96c1b8762aa75d0", func := "seneschal/seneschallaw21.CacheOnce", spec := "cacheOnce", unfollowed := true, recurses := true, apart := false, narrowed := true }
def CacheOnceUptoSaid : Prop := cacheOnceUptoRow.holds Try.pinned (OpenSpec.upto cacheOnceSpec)

/-- 'seneschallaw21.CacheFinds', WHERE WHAT IT READS IS OF BULK AT MOST 1048576: true; the input reads as it did. -/
def cacheFindsUptoRow : OpenClaim := { program := "yteifjbfojjjacaa", sum := "21c05e910334bb7c63f1eb0cde99df0b6779e2152beef23cf96c1b8762aa75d0", func := "seneschal/seneschallaw21.CacheFinds", spec := "cacheFinds", unfollowed := true, recurses := true, apart := false, narrowed := true }
def CacheFindsUptoSaid : Prop := cacheFindsUptoRow.holds Try.pinned (OpenSpec.upto cacheFindsSpec)

/-- 'seneschallaw21.CacheRoom', WHERE WHAT IT READS IS OF BULK AT MOST 1048576: true; the input reads as it did. -/
def cacheRoomUptoRow : OpenClaim := { program := "yteifjbfojjjacaa", sum := "21c05e910334bb7c63f1eb0cde99df0b6779e2152beef23cf96c1b8762aa75d0", func := "seneschal/seneschallaw21.CacheRoom", spec := "cacheRoom", unfollowed := true, recurses := true, apart := false, narrowed := true }
def CacheRoomUptoSaid : Prop := cacheRoomUptoRow.holds Try.pinned (OpenSpec.upto cacheRoomSpec)

/-- 'seneschallaw21.CacheHolds', WHERE WHAT IT READS IS OF BULK AT MOST 1048576: true; the input reads as it did. -/
def cacheHoldsUptoRow : OpenClaim := { program := "yteifjbfojjjacaa", sum := "21c05e910334bb7c63f1eb0cde99df0b6779e2152beef23cf96c1b8762aa75d0", func := "seneschal/seneschallaw21.CacheHolds", spec := "cacheHolds", unfollowed := true, recurses := true, apart := false, narrowed := true }
def CacheHoldsUptoSaid : Prop := cacheHoldsUptoRow.holds Try.pinned (OpenSpec.upto cacheHoldsSpec)

/-- 'seneschallaw21.CacheVoid', WHERE WHAT IT READS IS OF BULK AT MOST 1048576: true; the input reads as it did. -/
def cacheVoidUptoRow : OpenClaim := { program := "yteifjbfojjjacaa", sum := "21c05e910334bb7c63f1eb0cde99df0b6779e2152beef23cf96c1b8762aa75d0", func := "seneschal/seneschallaw21.CacheVoid", spec := "cacheVoid", unfollowed := true, recurses := true, apart := false, narrowed := true }
def CacheVoidUptoSaid : Prop := cacheVoidUptoRow.holds Try.pinned (OpenSpec.upto cacheVoidSpec)

end Rows
end Go.Proofs.Yteifjbfojjjacaa
