/-
  Acts: how a slice lays them. No statement of a claim stands here.
-/
import Derived.Test.YteifjbfojjjacaaKaH
namespace Go.Proofs.Yteifjbfojjjacaa
open Go

structure ActS where
  do_ : Int
  now : Int
  kv : Value
  t : TkS
def ActS.cells (m : ActS) : List Value := .int .i64 m.do_ :: .int .i64 m.now :: m.t.cells m.kv
/-- Acts as a slice lays them. -/
structure ActsAt (W : World) (a : Option Addr) (l : List ActS) : Prop where
  cell : ∀ (i : Nat) (m : ActS), l[i]? = some m → ∃ b o, a = some ⟨b, o, none⟩ ∧ b < W.heap.size ∧ (∀ (j : Nat) (u : Value), m.cells[j]? = some u → W.cell? ⟨b, o + i * 9 + j, none⟩ = some u) ∧ KeyIn W m.kv m.t.key ∧ m.t.key.length ≤ 140737488355328

end Go.Proofs.Yteifjbfojjjacaa
