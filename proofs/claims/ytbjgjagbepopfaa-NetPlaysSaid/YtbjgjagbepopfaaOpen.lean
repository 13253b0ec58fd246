/-
  Plain lemmas over any program: a struct's fields as an argument holds them. No statement of a claim stands here; each lemma names what it asks.
-/
import Derived.Test.YtbjgjagbepopfaaFrame
set_option linter.unusedSimpArgs false
namespace Go.Proofs.Ytbjgjagbepopfaa
open Go Go.RowKit Go.ChangeShapes Go.WideShapes Go.ChangeMaps

section
variable {H : Type} {enc : TypeId × Value → H} {P : Program} {w : World} {base : Nat} {spare : Nat → Bool} {held : Bool}
/-- One field of a struct of one-cell fields. -/
theorem open_field {t : TypeId} {fs : Array Field} {fuel : Nat} {cs : List Value} {x : DataW H × List MemPlace} (ht : P.underlying t = some (.struct fs)) (hone : Deep.oneCellFields P fs = true) (hC : P.cellsOf t = fs.size)
    (h : DataW.trod enc P w base spare held fuel t cs = some x) (i : Nat) (f : Field) (hf : fs[i]? = some f) : ∃ (v : Value) (y : DataW H × List MemPlace) (n : Nat), cs[i]? = some v ∧ DataW.trod enc P w base spare held n f.type [v] = some y := by
  obtain ⟨xs, n, _, rfl, hl, hlen, hx⟩ := DataW.trod_struct ht h
  obtain ⟨ho, hc⟩ := Deep.hone_of hone i f hf
  have hi : i < fs.size := (Array.getElem?_eq_some_iff.1 hf).1
  have hlt : i < cs.length := by omega
  have := hx i f hf
  rw [ho, hc, Deep.take1_drop cs i (.pointer none) hlt] at this
  refine ⟨cs.getD i (.pointer none), xs[i]'(by omega), n, ?_, ?_⟩
  · simp [List.getD, List.getElem?_eq_getElem hlt]
  · rw [this]; exact List.getElem?_eq_getElem _
end

theorem add_form {W : World} {a : Addr} {v : Value} (h : W.cell? a = some v) : a = ⟨a.block, a.off, none⟩ := by
  obtain ⟨b, o, s⟩ := a
  cases s with
  | none => rfl
  | some s =>
    unfold World.cell? at h
    split at h <;> simp at h

end Go.Proofs.Ytbjgjagbepopfaa
