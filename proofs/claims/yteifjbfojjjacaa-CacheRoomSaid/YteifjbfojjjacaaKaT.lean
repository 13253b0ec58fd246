/-
  Sights: how a slice lays them. No statement of a claim stands here.
-/
import Derived.Test.YteifjbfojjjacaaMem
namespace Go.Proofs.Yteifjbfojjjacaa
open Go

structure SightS where
  id : ByteArray
  time : Int
  now : Int
def SightS.cells (m : SightS) : List Value := [.string m.id, .int .i64 m.time, .int .i64 m.now]
/-- Sights as a slice lays them. -/
structure SightsAt (W : World) (a : Option Addr) (l : List SightS) : Prop where
  cell : ∀ (i : Nat) (m : SightS), l[i]? = some m → ∃ b o, a = some ⟨b, o, none⟩ ∧ b < W.heap.size ∧ ∀ (j : Nat) (u : Value), m.cells[j]? = some u → W.cell? ⟨b, o + i * 3 + j, none⟩ = some u

end Go.Proofs.Yteifjbfojjjacaa
