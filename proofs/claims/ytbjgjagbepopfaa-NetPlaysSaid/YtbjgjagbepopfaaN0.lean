/-
  Plain, over any program: a map with int keys whose entries are known as a list (mapObj) is a map that the library's contracts on maps.Keys can read: its keys are the list's keys. No statement of a claim stands here.
-/
import Derived.Test.YtbjgjagbepopfaaMap
import Derived.Maps.Own
import Derived.Lib.SlKeysI
set_option linter.unusedSimpArgs false
namespace Go.Proofs.Ytbjgjagbepopfaa
open Go Go.RowKit Go.ChangeMaps Go.MapKept Go.Maps
open Go.WideElems (Fit)

section
variable {H : Type} {P : Program} {β : Type} {g : β → Value} {kt : TypeId}

/-- What an element reads as, where nobody looks at it. -/
def noElem (H : Type) : Value → Option (DataW H × List MemPlace) := fun _ => some (.lit (.bool true), [])

/-- The entries of a list, as they are read. -/
def readAs (H : Type) (l : List (Int × β × Nat)) : List (Lit × DataW H) := l.map fun e => (Lit.int .i64 e.1, .lit (.bool true))

/-- A list's keys as a datum. -/
def keyD (H : Type) (l : List (Int × β × Nat)) : DataW H := .map ((readAs H l).foldr DataW.insert [])

theorem rd_ent (hk : P.underlying kt = some (.int .i64)) (e : Int × β × Nat) (h : (Lit.int .i64 e.1).wf = true) :
    WideElems.rd P kt (noElem H) (ent encZ g e) = some (Lit.int .i64 e.1, .lit (.bool true)) := by
  simp [WideElems.rd, ent, noElem, keyOf_int_mk hk h]

theorem own_map {w : World} {b c : Nat} {l : List (Int × β × Nat)} (hk : P.underlying kt = some (.int .i64)) (hb : w.heap[b]? = some (mapObj encZ g l c))
    (hn : (l.map (·.1)).Nodup) (hs : (l.map (·.2.2)).Nodup) (hc : ∀ e ∈ l, e.2.2 < c) (hr : ∀ e ∈ l, (Lit.int .i64 e.1).wf = true) (hsz : l.length ≤ maxLen) :
    w.ownsMap P kt (noElem H) b l.length (keyD H l) := by
  refine ⟨_, c, hb, ⟨by simpa using hsz, ⟨?_, ?_, ?_⟩, ?_⟩, by simp, ?_⟩
  · intro x hx
    obtain ⟨e, he, rfl⟩ := List.mem_map.1 (show x ∈ l.map (ent encZ g) from hx)
    exact hc e he
  · simpa [ent, Function.comp_def] using hs
  · have : (l.map fun e => encZ e.1).Nodup := by
      rw [List.nodup_iff_pairwise_ne] at hn ⊢
      rw [List.pairwise_map] at hn ⊢
      exact hn.imp fun h e => h (encZ_inj e)
    simpa [ent, Function.comp_def] using this
  · intro x hx
    obtain ⟨e, he, rfl⟩ := List.mem_map.1 (show x ∈ l.map (ent encZ g) from hx)
    exact ⟨_, rd_ent hk e (hr e he)⟩
  · unfold keyD readAs
    congr 2
    simp only [List.map_map]
    refine List.map_congr_left fun e he => ?_
    simp [WideElems.rg, rd_ent hk e (hr e he)]

theorem size_keyD (l : List (Int × β × Nat)) : Maps.size (keyD H l) = l.length := by
  unfold keyD
  rw [Maps.size_eq, length_sorted]
  simp [readAs]

theorem keys_keyD (l : List (Int × β × Nat)) : (intKeys (keyD H l)).Perm (l.map (·.1)) := by
  unfold keyD intKeys
  refine ((Go.WideShapes.sorted_perm (readAs H l)).map _).trans ?_
  simp [readAs, Function.comp_def, intOf]

/-- Keys that stand in order are sorted already. -/
theorem sorted_of_perm {ss ks : List Int} (hp : ss.Perm ks) (hs : ks.Pairwise (· < ·)) : ss.mergeSort (fun x y => decide (x ≤ y)) = ks := by
  have h1 := mergeSort_of_perm_i hp
  have h2 : ks.mergeSort leI = ks := by
    refine List.mergeSort_of_pairwise ?_
    exact hs.imp fun h => by simp [leI]; omega
  exact h1.trans h2

end
end Go.Proofs.Ytbjgjagbepopfaa
