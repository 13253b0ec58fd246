/-
  The reference's node of a broadcast, walked: Take of an echo. No statement of a claim stands here; each contract names what it asks.
-/
import Derived.Test.YtcgfjalglnlofaaRef3
set_option linter.unusedSimpArgs false
namespace Go.Proofs.Ytcgfjalglnlofaa
open Go Go.RowKit

theorem RefAt.hasE {w : World} {y : Nat} {s : NodeS} (h : RefAt w y s) (k : Nat) (hk : k < 17) : w.cell? ⟨y, 38 + k, none⟩ = some (.bool (look s.E (k : Int)).isSome) := by
  rw [cell_at h]
  simp only [refCells, List.getElem?_toArray, List.getElem?_append, texts_len, flags_len, List.length_append, List.length_cons, List.length_nil]
  rw [if_neg (by omega), if_neg (by omega), if_neg (by omega), if_pos (by omega), show 38 + k - (0 + 1 + 1 + 1 + 1) - 17 - 17 = k by omega]
  exact flag_at _ _ hk
theorem RefAt.hasR {w : World} {y : Nat} {s : NodeS} (h : RefAt w y s) (k : Nat) (hk : k < 17) : w.cell? ⟨y, 55 + k, none⟩ = some (.bool (look s.R (k : Int)).isSome) := by
  rw [cell_at h]
  simp only [refCells, List.getElem?_toArray, List.getElem?_append, texts_len, flags_len, List.length_append, List.length_cons, List.length_nil]
  rw [if_neg (by omega), if_neg (by omega), if_neg (by omega), if_neg (by omega), if_pos (by omega), show 55 + k - (0 + 1 + 1 + 1 + 1) - 17 - 17 - 17 = k by omega]
  exact flag_at _ _ hk
theorem RefAt.saidE {w : World} {y : Nat} {s : NodeS} (h : RefAt w y s) (k : Nat) (hk : k < 17) : w.cell? ⟨y, 4 + k, none⟩ = some (.string ((look s.E (k : Int)).getD ByteArray.empty)) := by
  rw [cell_at h]
  simp only [refCells, List.getElem?_toArray, List.getElem?_append, texts_len, flags_len, List.length_append, List.length_cons, List.length_nil]
  rw [if_neg (by omega), if_pos (by omega), show 4 + k - (0 + 1 + 1 + 1 + 1) = k by omega]
  exact text_at _ _ hk
theorem RefAt.saidR {w : World} {y : Nat} {s : NodeS} (h : RefAt w y s) (k : Nat) (hk : k < 17) : w.cell? ⟨y, 21 + k, none⟩ = some (.string ((look s.R (k : Int)).getD ByteArray.empty)) := by
  rw [cell_at h]
  simp only [refCells, List.getElem?_toArray, List.getElem?_append, texts_len, flags_len, List.length_append, List.length_cons, List.length_nil]
  rw [if_neg (by omega), if_neg (by omega), if_pos (by omega), show 21 + k - (0 + 1 + 1 + 1 + 1) - 17 = k by omega]
  exact text_at _ _ hk

theorem range_of {w : World} {y o : Nat} {l : List Value} (hl : l.length = 17) (h : ∀ k, k < 17 → w.cell? ⟨y, o + k, none⟩ = l[k]?) : w.rangeAt y o l := fun j v hj => by
  have hlt : j < 17 := by rw [← hl]; exact (List.getElem?_eq_some_iff.1 hj).1
  rw [h j hlt]; exact hj

theorem RefAt.loadHE {w : World} {y : Nat} {s : NodeS} (h : RefAt w y s) : (Instr.loadAt 57 (.pointer (some ⟨y, 38, none⟩))).run Try.prog w = .ok (.agg (flags s.E).toArray) w :=
  run_loadAt_mid w y 38 _ _ _ (range_of (flags_len _) (fun k hk => by rw [h.hasE k hk, flag_at _ _ hk])) Try.underlying57 rfl (by rw [flags_len]; kernel_rfl)
theorem RefAt.loadHR {w : World} {y : Nat} {s : NodeS} (h : RefAt w y s) : (Instr.loadAt 57 (.pointer (some ⟨y, 55, none⟩))).run Try.prog w = .ok (.agg (flags s.R).toArray) w :=
  run_loadAt_mid w y 55 _ _ _ (range_of (flags_len _) (fun k hk => by rw [h.hasR k hk, flag_at _ _ hk])) Try.underlying57 rfl (by rw [flags_len]; kernel_rfl)
theorem RefAt.loadE {w : World} {y : Nat} {s : NodeS} (h : RefAt w y s) : (Instr.loadAt 56 (.pointer (some ⟨y, 4, none⟩))).run Try.prog w = .ok (.agg (texts s.E).toArray) w :=
  run_loadAt_mid w y 4 _ _ _ (range_of (texts_len _) (fun k hk => by rw [h.saidE k hk, text_at _ _ hk])) Try.underlying56 rfl (by rw [texts_len]; kernel_rfl)
theorem RefAt.loadR {w : World} {y : Nat} {s : NodeS} (h : RefAt w y s) : (Instr.loadAt 56 (.pointer (some ⟨y, 21, none⟩))).run Try.prog w = .ok (.agg (texts s.R).toArray) w :=
  run_loadAt_mid w y 21 _ _ _ (range_of (texts_len _) (fun k hk => by rw [h.saidR k hk, text_at _ _ hk])) Try.underlying56 rfl (by rw [texts_len]; kernel_rfl)

/-- The two stores of one vote more. -/
theorem RSeen.addE {w W : World} {y B : Nat} {s : NodeS} {m : Msg} (h : RSeen w W y B s m) {k : Nat} {v : ByteArray} (hk : look s.E (k : Int) = none) (h17 : k < 17) :
    RSeen w ((W.setCell ⟨y, 38 + k, none⟩ (.bool true)).setCell ⟨y, 4 + k, none⟩ (.string v)) y B { s with E := addL s.E k v } m := by
  have hne : B ≠ y := by have := h.new; have := h.ly; omega
  refine ⟨?_, get_setCell (get_setCell h.box (by exact hne) _) (by exact hne) _, (h.mod.setCell (by simp) _).setCell (by simp) _, h.new, h.ly⟩
  have := get_setCell_self (get_setCell_self h.node (38 + k) (.bool true)) (4 + k) (.string v)
  rw [List.setIfInBounds_toArray, List.setIfInBounds_toArray, refCells_addE hk h17] at this
  exact this
theorem RSeen.addR {w W : World} {y B : Nat} {s : NodeS} {m : Msg} (h : RSeen w W y B s m) {k : Nat} {v : ByteArray} (hk : look s.R (k : Int) = none) (h17 : k < 17) :
    RSeen w ((W.setCell ⟨y, 55 + k, none⟩ (.bool true)).setCell ⟨y, 21 + k, none⟩ (.string v)) y B { s with R := addL s.R k v } m := by
  have hne : B ≠ y := by have := h.new; have := h.ly; omega
  refine ⟨?_, get_setCell (get_setCell h.box (by exact hne) _) (by exact hne) _, (h.mod.setCell (by simp) _).setCell (by simp) _, h.new, h.ly⟩
  have := get_setCell_self (get_setCell_self h.node (55 + k) (.bool true)) (21 + k) (.string v)
  rw [List.setIfInBounds_toArray, List.setIfInBounds_toArray, refCells_addR hk h17] at this
  exact this
end Go.Proofs.Ytcgfjalglnlofaa
