/-
  Moves as an argument: what a slice of them holds. No statement of a claim stands here; each lemma names what it asks.
-/
import Derived.Test.YtcgfjalglnlofaaFrame
import Derived.Test.YtcgfjalglnlofaaCastA
set_option linter.unusedSimpArgs false
namespace Go.Proofs.Ytcgfjalglnlofaa
open Go Go.RowKit Go.ChangeShapes Go.WideShapes Go.ChangeMaps

section
variable {H : Type} {enc : TypeId × Value → H} {P : Program} {w : World} {base : Nat} {spare : Nat → Bool} {held : Bool}
/-- One field of a struct of one-cell fields. -/
theorem open_field {t : TypeId} {fs : Array Field} {fuel : Nat} {cs : List Value} {x : DataW H × List MemPlace} (ht : P.underlying t = some (.struct fs)) (hone : Deep.oneCellFields P fs = true) (hC : P.cellsOf t = fs.size)
    (h : DataW.trod enc P w base spare held fuel t cs = some x) (i : Nat) (f : Field) (hf : fs[i]? = some f) : ∃ (v : Value) (y : DataW H × List MemPlace) (n : Nat), cs[i]? = some v ∧ DataW.trod enc P w base spare held n f.type [v] = some y := by
  obtain ⟨xs, n, _, rfl, hl, hlen, hx⟩ := DataW.trod_struct ht h
  obtain ⟨ho, hc⟩ := Deep.hone_of hone i f hf
  have hi : i < fs.size := (Array.getElem?_eq_some_iff.1 hf).1
  have hlt : i < cs.length := by omega
  have := hx i f hf
  rw [ho, hc, Deep.take1_drop cs i (.pointer none) hlt] at this
  refine ⟨cs.getD i (.pointer none), xs[i]'(by omega), n, ?_, ?_⟩
  · simp [List.getD, List.getElem?_eq_getElem hlt]
  · rw [this]; exact List.getElem?_eq_getElem _
end

instance : Inhabited MoveS := ⟨⟨0, 0, 0, 0, 0, ByteArray.empty⟩⟩

theorem open_move {H : Type} {enc : TypeId × Value → H} {W : World} {n : Nat} {cs : List Value} {x : DataW H × List MemPlace} (h : DataW.trod enc Try.prog W 0 (fun _ => true) true n 70 cs = some x) : ∃ m : MoveS, ∀ (j : Nat) (u : Value), m.cells[j]? = some u → cs[j]? = some u := by
  have F := open_field (P := Try.prog) Try.underlying70 (by kernel_rfl) (by kernel_rfl) h
  obtain ⟨v0, y0, n0, c0, t0⟩ := F 0 _ rfl
  obtain ⟨v1, y1, n1, c1, t1⟩ := F 1 _ rfl
  obtain ⟨v2, y2, n2, c2, t2⟩ := F 2 _ rfl
  obtain ⟨v3, y3, n3, c3, t3⟩ := F 3 _ rfl
  obtain ⟨v4, y4, n4, c4, t4⟩ := F 4 _ rfl
  obtain ⟨v5, y5, n5, c5, t5⟩ := F 5 _ rfl
  obtain ⟨k0, e0, -, -⟩ := DataW.trod_int (P := Try.prog) Try.underlying3 t0
  obtain ⟨k1, e1, -, -⟩ := DataW.trod_int (P := Try.prog) Try.underlying3 t1
  obtain ⟨k2, e2, -, -⟩ := DataW.trod_int (P := Try.prog) Try.underlying3 t2
  obtain ⟨k3, e3, -, -⟩ := DataW.trod_int (P := Try.prog) Try.underlying3 t3
  obtain ⟨k4, e4, -, -⟩ := DataW.trod_int (P := Try.prog) Try.underlying3 t4
  obtain ⟨s5, e5, -, -⟩ := DataW.trod_string (P := Try.prog) Try.underlying9 t5
  cases e0; cases e1; cases e2; cases e3; cases e4; cases e5
  refine ⟨⟨k0, k1, k2, k3, k4, s5⟩, fun j u hu => ?_⟩
  match j, hu with
  | 0, hu => cases hu; exact c0
  | 1, hu => cases hu; exact c1
  | 2, hu => cases hu; exact c2
  | 3, hu => cases hu; exact c3
  | 4, hu => cases hu; exact c4
  | 5, hu => cases hu; exact c5
  | j + 6, hu => simp [MoveS.cells] at hu

theorem add_form {W : World} {a : Addr} {v : Value} (h : W.cell? a = some v) : a = ⟨a.block, a.off, none⟩ := by
  obtain ⟨b, o, s⟩ := a
  cases s with
  | none => rfl
  | some s =>
    unfold World.cell? at h
    split at h <;> simp at h

theorem cells_move : Try.prog.cellsOf 70 = 6 := by kernel_rfl

theorem open_moves {H : Type} {enc : TypeId × Value → H} {W : World} {r : _root_.Go.Reach} {base : Nat} {v : Value} {d : DataW H} {p : List MemPlace} (hv : Value.okWide Try.prog W r base 22 v) (h : DataW.Trod enc Try.prog W 0 (fun _ => true) true 22 v d p) :
    ∃ (a : Option Addr) (moves : List MoveS) (c : Nat), v = .slice a moves.length c ∧ moves.length ≤ maxLen ∧ MovesAt W a moves := by
  obtain ⟨a0, len, cap, rfl⟩ := okWide_slice (P := Try.prog) Try.underlying22 hv
  obtain ⟨fuel, hf⟩ := h
  rcases Deep.open_slice (P := Try.prog) Try.underlying22 hf with ⟨h0, _⟩ | ⟨a, len', cap', m, n, D, Pl, h0, _, hl, hm, hmm, _, hx⟩
  · simp [Value.cells] at h0
    obtain ⟨rfl, rfl, rfl⟩ := h0
    exact ⟨none, [], 0, rfl, by simp, ⟨fun i m hi => by simp at hi⟩⟩
  · simp [Value.cells] at h0
    obtain ⟨rfl, rfl, rfl⟩ := h0
    simp only [if_true] at hmm
    subst hmm
    obtain ⟨f, hfm⟩ := Deep.choose_lt (α := MoveS) (n := len) (p := fun i mv => ∀ (j : Nat) (u : Value), mv.cells[j]? = some u → W.cell? ((a.add (i * 6)).add j) = some u) (fun i hi => by
      obtain ⟨cs, hc, ht⟩ := hx i (by omega)
      rw [cells_move] at hc
      obtain ⟨mv, hmv⟩ := open_move ht
      refine ⟨mv, fun j u hu => ?_⟩
      have hj : j < 6 := by have := (List.getElem?_eq_some_iff.1 hu).1; simpa [MoveS.cells] using this
      rw [(World.cells?_some hc).2.2 j hj]
      exact hmv j u hu)
    refine ⟨some a, (List.range len).map f, m, by simp, by simp; omega, ⟨fun i mv hi => ?_⟩⟩
    have hil : i < len := by have := (List.getElem?_eq_some_iff.1 hi).1; simpa using this
    have hif : mv = f i := by
      rw [List.getElem?_map, List.getElem?_range hil] at hi
      simpa using hi.symm
    subst hif
    have h00 := hfm 0 (by omega) 0 _ rfl
    have ha : a = ⟨a.block, a.off, none⟩ := by
      have e : (a.add (0 * 6)).add 0 = a := by simp [Addr.add]
      rw [e] at h00
      exact add_form h00
    refine ⟨a.block, a.off, by rw [← ha], ?_, fun j u hu => ?_⟩
    · have e : (a.add (0 * 6)).add 0 = a := by simp [Addr.add]
      rw [e] at h00
      exact World.block_lt_of_cell? W _ h00
    · have := hfm i hil j u hu
      rw [ha, Addr.add_lit, Addr.add_lit] at this
      exact this
end Go.Proofs.Ytcgfjalglnlofaa
