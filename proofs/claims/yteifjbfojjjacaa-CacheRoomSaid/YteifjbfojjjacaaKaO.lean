/-
  Sights as an argument: what a slice of them holds. No statement of a claim stands here; each lemma names what it asks.
-/
import Derived.Test.YteifjbfojjjacaaRows
import Derived.Test.YteifjbfojjjacaaOpen
import Derived.Test.YteifjbfojjjacaaKaT
set_option linter.unusedSimpArgs false
namespace Go.Proofs.Yteifjbfojjjacaa
open Go Go.RowKit Go.ChangeShapes Go.WideShapes Go.ChangeAt Go.ChangeMaps

instance : Inhabited SightS := ⟨⟨ByteArray.empty, 0, 0⟩⟩

theorem open_sight {H : Type} {enc : TypeId × Value → H} {W : World} {n : Nat} {cs : List Value} {x : DataW H × List MemPlace} (h : DataW.trod enc Try.prog W 0 (fun _ => true) true n 32 cs = some x) : ∃ m : SightS, ∀ (j : Nat) (u : Value), m.cells[j]? = some u → cs[j]? = some u := by
  have F := open_field (P := Try.prog) Try.underlying32 (by kernel_rfl) (by kernel_rfl) h
  obtain ⟨v0, y0, n0, c0, t0⟩ := F 0 _ rfl
  obtain ⟨v1, y1, n1, c1, t1⟩ := F 1 _ rfl
  obtain ⟨v2, y2, n2, c2, t2⟩ := F 2 _ rfl
  obtain ⟨s0, e0, -, -⟩ := DataW.trod_string (P := Try.prog) Try.underlying9 t0
  obtain ⟨k1, e1, -, -⟩ := DataW.trod_int (P := Try.prog) Try.underlying3 t1
  obtain ⟨k2, e2, -, -⟩ := DataW.trod_int (P := Try.prog) Try.underlying3 t2
  cases e0; cases e1; cases e2
  refine ⟨⟨s0, k1, k2⟩, fun j u hu => ?_⟩
  match j, hu with
  | 0, hu => cases hu; exact c0
  | 1, hu => cases hu; exact c1
  | 2, hu => cases hu; exact c2
  | j + 3, hu => simp [SightS.cells] at hu

theorem cells_sight : Try.prog.cellsOf 32 = 3 := by kernel_rfl

theorem open_sights {H : Type} {enc : TypeId × Value → H} {W : World} {r : _root_.Go.Reach} {base : Nat} {v : Value} {d : DataW H} {p : List MemPlace} (hv : Value.okWide Try.prog W r base 22 v) (h : DataW.Trod enc Try.prog W 0 (fun _ => true) true 22 v d p) :
    ∃ (a : Option Addr) (moves : List SightS) (c : Nat), v = .slice a moves.length c ∧ moves.length ≤ maxLen ∧ SightsAt W a moves := by
  obtain ⟨a0, len, cap, rfl⟩ := okWide_slice (P := Try.prog) Try.underlying22 hv
  obtain ⟨fuel, hf⟩ := h
  rcases Deep.open_slice (P := Try.prog) Try.underlying22 hf with ⟨h0, _⟩ | ⟨a, len', cap', m, n, D, Pl, h0, _, hl, hm, hmm, _, hx⟩
  · simp [Value.cells] at h0
    obtain ⟨rfl, rfl, rfl⟩ := h0
    exact ⟨none, [], 0, rfl, by simp, ⟨fun i m hi => by simp at hi⟩⟩
  · simp [Value.cells] at h0
    obtain ⟨rfl, rfl, rfl⟩ := h0
    simp only [if_true] at hmm
    subst hmm
    obtain ⟨f, hfm⟩ := Deep.choose_lt (α := SightS) (n := len) (p := fun i mv => ∀ (j : Nat) (u : Value), mv.cells[j]? = some u → W.cell? ((a.add (i * 3)).add j) = some u) (fun i hi => by
      obtain ⟨cs, hc, ht⟩ := hx i (by omega)
      rw [cells_sight] at hc
      obtain ⟨mv, hmv⟩ := open_sight ht
      refine ⟨mv, fun j u hu => ?_⟩
      have hj : j < 3 := by have := (List.getElem?_eq_some_iff.1 hu).1; simpa [SightS.cells] using this
      rw [(World.cells?_some hc).2.2 j hj]
      exact hmv j u hu)
    refine ⟨some a, (List.range len).map f, m, by simp, by simp; omega, ⟨fun i mv hi => ?_⟩⟩
    have hil : i < len := by have := (List.getElem?_eq_some_iff.1 hi).1; simpa using this
    have hif : mv = f i := by
      rw [List.getElem?_map, List.getElem?_range hil] at hi
      simpa using hi.symm
    subst hif
    have h00 := hfm 0 (by omega) 0 _ rfl
    have ha : a = ⟨a.block, a.off, none⟩ := by
      have e : (a.add (0 * 3)).add 0 = a := by simp [Addr.add]
      rw [e] at h00
      exact add_form h00
    refine ⟨a.block, a.off, by rw [← ha], ?_, fun j u hu => ?_⟩
    · have e : (a.add (0 * 3)).add 0 = a := by simp [Addr.add]
      rw [e] at h00
      exact World.block_lt_of_cell? W _ h00
    · have := hfm i hil j u hu
      rw [ha, Addr.add_lit, Addr.add_lit] at this
      exact this
end Go.Proofs.Yteifjbfojjjacaa
