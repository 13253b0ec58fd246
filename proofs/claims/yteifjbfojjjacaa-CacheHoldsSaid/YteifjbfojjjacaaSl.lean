/-
  Plain lemmas over any program: slices of a row with both bounds, or all three. No statement of a claim stands here; no condition but those that each lemma names.
-/
import Derived.Test.YteifjbfojjjacaaReg
set_option linter.unusedSimpArgs false
namespace Go.Proofs.Yteifjbfojjjacaa
open Go

section
variable {P : Program}
theorem run_bound (k cap : Nat) (c : BoundsCode) (hk : k ≤ cap) (w : World) : (Instr.sliceBound (.int .i64 (k : Int)) cap c).run P w = .ok k w := by
  rw [run_sliceBound _ _ _ _ _ (by omega) (by omega)]; simp

/-- s[k:m:x] of a row. -/
theorem slice_three {t e : TypeId} (ht : P.underlying t = some (.slice e)) {i : TypeInfo} (hi : P.info? e = some i) (g n cap k m x : Nat) (h1 : k ≤ m) (h2 : m ≤ x) (h3 : x ≤ cap) :
    ∃ ad, ∀ w : World, (Instr.slice t (.slice (some ⟨g, 0, none⟩) n cap) (some (.int .i64 (k : Int))) (some (.int .i64 (m : Int))) (some (.int .i64 (x : Int)))).run P w = .ok (.slice (some ad) (m - k) (x - k)) w := by
  by_cases hxk : x = k
  · subst hxk
    obtain rfl : m = x := by omega
    exact ⟨⟨g, 0, none⟩, fun w => by simp [Instr.slice, run_underlying ht, Instr.sliceBounds, run_bound (P := P) m cap _ h3, run_bound (P := P) m m _ (Nat.le_refl _), sizeOf, typeInfo, hi]⟩
  · exact ⟨(⟨g, 0, none⟩ : Addr).add (k * i.size), fun w => by simp [Instr.slice, run_underlying ht, Instr.sliceBounds, run_bound (P := P) x cap _ h3, run_bound (P := P) m x _ h2, run_bound (P := P) k m _ h1, sizeOf, typeInfo, hi, hxk]⟩

/-- s[k:m] of a row, where k < cap. -/
theorem slice_mid {t e : TypeId} (ht : P.underlying t = some (.slice e)) {i : TypeInfo} (hi : P.info? e = some i) (g n cap k m : Nat) (h1 : k ≤ m) (h2 : m ≤ cap) (hk : k < cap) (w : World) :
    (Instr.slice t (.slice (some ⟨g, 0, none⟩) n cap) (some (.int .i64 (k : Int))) (some (.int .i64 (m : Int))) none).run P w = .ok (.slice (some ⟨g, k * i.size, none⟩) (m - k) (cap - k)) w := by
  have hne : cap ≠ k := by omega
  simp [Instr.slice, run_underlying ht, Instr.sliceBounds, run_bound (P := P) m cap _ h2, run_bound (P := P) k m _ h1, sizeOf, typeInfo, hi, hne, Addr.add_lit]
end
end Go.Proofs.Yteifjbfojjjacaa
