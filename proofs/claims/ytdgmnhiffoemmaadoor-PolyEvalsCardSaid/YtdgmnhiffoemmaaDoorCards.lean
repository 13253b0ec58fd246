/-
  DERIVED. GIVEN WITH THE SEED: THE CARDS: each row of YtdgmnhiffoemmaaDoorRows.lean that lists a variable, with what it lists TIED to the program's text (the seventh form; the later family's looks); each row that meets fmt, with fmt's text TOLD by the authors' own Lean function (tested against real Go, not proved from fmt's source: count such statements apart). THE CARD IS WHAT COUNTS. Prove the row's statement (the work); the ties are given (YtdgmnhiffoemmaaDoorTie.lean); close each card by the builder's one call (the guide's Derived/Test/ToyasCard.lean, 'card_holds'). Laid BY PROGRAM, IN A SANDBOX (cutbox-door.mjs). By AI agents, Wed Nov 11 2026. No macro, syntax, notation, axiom, sorry.
-/
import Derived.Test.YtdgmnhiffoemmaaDoorRows
import GoSem.ClaimSeven
namespace Go.Proofs.YtdgmnhiffoemmaaDoor
namespace Rows

/-- THE TIED CARD OF 'seneschallaw10.PolyShares'. -/
def polySharesCard : Claim7 := { stood := { row := polySharesRow, standIns := [], harness := (true, "d19694912fb564bd0a8ee6aa89c667a0a09e13d2d4cf12ae72967396cbbf6553"), looks := true }, kinds := [], alts := [], laidByText := true, laidKinds := [.handle], laidTests := true, laidLooks := .later }
def PolySharesCardSaid : Prop := Claim7.holds Tryd.pinned (.plain (OpenSpec.ofChange polySharesSpec)) polySharesCard

/-- THE TIED CARD OF 'seneschallaw10.PolyFactors'. -/
def polyFactorsCard : Claim7 := { stood := { row := polyFactorsRow, standIns := [], harness := (true, "d19694912fb564bd0a8ee6aa89c667a0a09e13d2d4cf12ae72967396cbbf6553"), looks := true }, kinds := [], alts := [], laidByText := true, laidKinds := [.handle], laidTests := true, laidLooks := .later }
def PolyFactorsCardSaid : Prop := Claim7.holds Tryd.pinned (.plain (OpenSpec.ofChange polyFactorsSpec)) polyFactorsCard

/-- THE TIED CARD OF 'seneschallaw10.PolyEvals'. -/
def polyEvalsCard : Claim7 := { stood := { row := polyEvalsRow, standIns := [], harness := (true, "d19694912fb564bd0a8ee6aa89c667a0a09e13d2d4cf12ae72967396cbbf6553"), looks := true }, kinds := [], alts := [], laidByText := true, laidKinds := [.handle], laidTests := true, laidLooks := .later }
def PolyEvalsCardSaid : Prop := Claim7.holds Tryd.pinned (.plain (OpenSpec.ofChange polyEvalsSpec)) polyEvalsCard

/-- THE TIED CARD OF 'seneschallaw10.PolyTurned'. -/
def polyTurnedCard : Claim7 := { stood := { row := polyTurnedRow, standIns := [], harness := (true, "d19694912fb564bd0a8ee6aa89c667a0a09e13d2d4cf12ae72967396cbbf6553"), looks := true }, kinds := [], alts := [], laidByText := true, laidKinds := [.handle], laidTests := true, laidLooks := .later }
def PolyTurnedCardSaid : Prop := Claim7.holds Tryd.pinned (.plain (OpenSpec.ofChange polyTurnedSpec)) polyTurnedCard

/-- THE TIED CARD OF 'seneschallaw10.PolySums'. -/
def polySumsCard : Claim7 := { stood := { row := polySumsRow, standIns := [], harness := (true, "d19694912fb564bd0a8ee6aa89c667a0a09e13d2d4cf12ae72967396cbbf6553"), looks := true }, kinds := [], alts := [], laidByText := true, laidKinds := [.handle], laidTests := true, laidLooks := .later }
def PolySumsCardSaid : Prop := Claim7.holds Tryd.pinned (.plain (OpenSpec.ofChange polySumsSpec)) polySumsCard

/-- THE SECOND FORM's CARD OF 'seneschallaw10.PolyShares'. -/
def polySharesUptoCard : Claim7 := { stood := { row := polySharesUptoRow, standIns := [], harness := (true, "d19694912fb564bd0a8ee6aa89c667a0a09e13d2d4cf12ae72967396cbbf6553"), looks := true }, kinds := [], alts := [], laidByText := true, laidKinds := [.handle], laidTests := true, laidLooks := .later }
def PolySharesUptoCardSaid : Prop := Claim7.holds Tryd.pinned (.plain (OpenSpec.upto polySharesSpec)) polySharesUptoCard

/-- THE SECOND FORM's CARD OF 'seneschallaw10.PolyFactors'. -/
def polyFactorsUptoCard : Claim7 := { stood := { row := polyFactorsUptoRow, standIns := [], harness := (true, "d19694912fb564bd0a8ee6aa89c667a0a09e13d2d4cf12ae72967396cbbf6553"), looks := true }, kinds := [], alts := [], laidByText := true, laidKinds := [.handle], laidTests := true, laidLooks := .later }
def PolyFactorsUptoCardSaid : Prop := Claim7.holds Tryd.pinned (.plain (OpenSpec.upto polyFactorsSpec)) polyFactorsUptoCard

/-- THE SECOND FORM's CARD OF 'seneschallaw10.PolyEvals'. -/
def polyEvalsUptoCard : Claim7 := { stood := { row := polyEvalsUptoRow, standIns := [], harness := (true, "d19694912fb564bd0a8ee6aa89c667a0a09e13d2d4cf12ae72967396cbbf6553"), looks := true }, kinds := [], alts := [], laidByText := true, laidKinds := [.handle], laidTests := true, laidLooks := .later }
def PolyEvalsUptoCardSaid : Prop := Claim7.holds Tryd.pinned (.plain (OpenSpec.upto polyEvalsSpec)) polyEvalsUptoCard

/-- THE SECOND FORM's CARD OF 'seneschallaw10.PolyTurned'. -/
def polyTurnedUptoCard : Claim7 := { stood := { row := polyTurnedUptoRow, standIns := [], harness := (true, "d19694912fb564bd0a8ee6aa89c667a0a09e13d2d4cf12ae72967396cbbf6553"), looks := true }, kinds := [], alts := [], laidByText := true, laidKinds := [.handle], laidTests := true, laidLooks := .later }
def PolyTurnedUptoCardSaid : Prop := Claim7.holds Tryd.pinned (.plain (OpenSpec.upto polyTurnedSpec)) polyTurnedUptoCard

/-- THE SECOND FORM's CARD OF 'seneschallaw10.PolySums'. -/
def polySumsUptoCard : Claim7 := { stood := { row := polySumsUptoRow, standIns := [], harness := (true, "d19694912fb564bd0a8ee6aa89c667a0a09e13d2d4cf12ae72967396cbbf6553"), looks := true }, kinds := [], alts := [], laidByText := true, laidKinds := [.handle], laidTests := true, laidLooks := .later }
def PolySumsUptoCardSaid : Prop := Claim7.holds Tryd.pinned (.plain (OpenSpec.upto polySumsSpec)) polySumsUptoCard
end Rows
end Go.Proofs.YtdgmnhiffoemmaaDoor
