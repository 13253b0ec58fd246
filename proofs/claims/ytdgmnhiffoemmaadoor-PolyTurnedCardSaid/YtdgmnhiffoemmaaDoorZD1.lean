/-
  A number of 64 bits as an argument. No statement of a claim stands here; each lemma names what it asks.
-/
import Derived.Test.YtdgmnhiffoemmaaDoorZ0
namespace Go.Proofs.YtdgmnhiffoemmaaDoor
open Go Go.RowKit Go.ChangeShapes Go.WideShapes Go.ChangeMaps

set_option maxRecDepth 100000 in
theorem open_u64 {H : Type} {enc : TypeId × Value → H} {W : World} {r : _root_.Go.Reach} {base : Nat} {v : Value} {d : DataW H} {p : List MemPlace} (hv : Value.okWide Tryd.prog W r base 24 v) (h : DataW.Trod enc Tryd.prog W 0 (fun _ => true) true 24 v d p) :
    ∃ m : Nat, m < BB ∧ v = .int .u64 (m : Int) := by
  obtain ⟨n, e, -, -, hw⟩ := open_int Tryd.underlying24 hv h
  obtain ⟨h1, h2⟩ := u64_nat hw
  exact ⟨n.toNat, h2, by rw [h1]; exact e⟩
end Go.Proofs.YtdgmnhiffoemmaaDoor
