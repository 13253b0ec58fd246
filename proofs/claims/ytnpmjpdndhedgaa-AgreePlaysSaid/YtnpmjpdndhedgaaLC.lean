/-
  The statements' arguments: what slices of strings and of moves hold. No statement of a claim stands here; each lemma names what it asks.
-/
import Derived.Test.YtnpmjpdndhedgaaLB
import Derived.Test.YtnpmjpdndhedgaaFrame
import Derived.Test.YtnpmjpdndhedgaaOpen
set_option linter.unusedSimpArgs false
namespace Go.Proofs.Ytnpmjpdndhedgaa
open Go Go.RowKit Go.ChangeShapes Go.WideShapes Go.ChangeMaps

/-- s[:k] of any slice. -/
theorem slice_hi {P : Program} {t e : TypeId} (ht : P.underlying t = some (.slice e)) {i : TypeInfo} (hi : P.info? e = some i) (a : Option Addr) (n cap k : Nat) (hk : k ≤ cap) (ha : a = none → cap = 0) (w : World) :
    (Instr.slice t (.slice a n cap) none (some (.int .i64 (k : Int))) none).run P w = .ok (.slice a k cap) w := by
  have h1 : (Instr.sliceBound (.int .i64 (k : Int)) cap .sliceAcap).run P w = .ok k w := by rw [run_sliceBound _ _ _ _ _ (by omega) (by omega)]; simp
  cases a with
  | none =>
    have hc := ha rfl
    subst hc
    simp [Instr.slice, run_underlying ht, Instr.sliceBounds, h1, sizeOf, typeInfo, hi]
  | some ad =>
    simp [Instr.slice, run_underlying ht, Instr.sliceBounds, h1, sizeOf, typeInfo, hi]
    intro _; simp [Addr.add]

theorem open_move {H : Type} {enc : TypeId × Value → H} {W : World} {n : Nat} {cs : List Value} {x : DataW H × List MemPlace} (h : DataW.trod enc Try.prog W 0 (fun _ => true) true n 70 cs = some x) : ∃ m : MoveS, ∀ (j : Nat) (u : Value), m.cells[j]? = some u → cs[j]? = some u := by
  have F := open_field (P := Try.prog) Try.underlying70 (by kernel_rfl) (by kernel_rfl) h
  obtain ⟨v0, y0, n0, c0, t0⟩ := F 0 _ rfl
  obtain ⟨v1, y1, n1, c1, t1⟩ := F 1 _ rfl
  obtain ⟨v2, y2, n2, c2, t2⟩ := F 2 _ rfl
  obtain ⟨v3, y3, n3, c3, t3⟩ := F 3 _ rfl
  obtain ⟨v4, y4, n4, c4, t4⟩ := F 4 _ rfl
  obtain ⟨v5, y5, n5, c5, t5⟩ := F 5 _ rfl
  obtain ⟨v6, y6, n6, c6, t6⟩ := F 6 _ rfl
  obtain ⟨k0, e0, -, -⟩ := DataW.trod_int (P := Try.prog) Try.underlying3 t0
  obtain ⟨k1, e1, -, -⟩ := DataW.trod_int (P := Try.prog) Try.underlying3 t1
  obtain ⟨k2, e2, -, -⟩ := DataW.trod_int (P := Try.prog) Try.underlying3 t2
  obtain ⟨k3, e3, -, -⟩ := DataW.trod_int (P := Try.prog) Try.underlying3 t3
  obtain ⟨k4, e4, -, -⟩ := DataW.trod_int (P := Try.prog) Try.underlying3 t4
  obtain ⟨k5, e5, -, -⟩ := DataW.trod_int (P := Try.prog) Try.underlying3 t5
  obtain ⟨s6, e6, -, -⟩ := DataW.trod_string (P := Try.prog) Try.underlying9 t6
  cases e0; cases e1; cases e2; cases e3; cases e4; cases e5; cases e6
  refine ⟨⟨k0, k1, k2, k3, k4, k5, s6⟩, fun j u hu => ?_⟩
  match j, hu with
  | 0, hu => cases hu; exact c0
  | 1, hu => cases hu; exact c1
  | 2, hu => cases hu; exact c2
  | 3, hu => cases hu; exact c3
  | 4, hu => cases hu; exact c4
  | 5, hu => cases hu; exact c5
  | 6, hu => cases hu; exact c6
  | j + 7, hu => simp [MoveS.cells] at hu

theorem cells_move : Try.prog.cellsOf 70 = 7 := by kernel_rfl
theorem cells_str : Try.prog.cellsOf 9 = 1 := by kernel_rfl

theorem open_moves {H : Type} {enc : TypeId × Value → H} {W : World} {r : _root_.Go.Reach} {base : Nat} {v : Value} {d : DataW H} {p : List MemPlace} (hv : Value.okWide Try.prog W r base 23 v) (h : DataW.Trod enc Try.prog W 0 (fun _ => true) true 23 v d p) :
    ∃ (a : Option Addr) (moves : List MoveS) (c : Nat), v = .slice a moves.length c ∧ moves.length ≤ maxLen ∧ MovesAt W a moves := by
  obtain ⟨a0, len, cap, rfl⟩ := okWide_slice (P := Try.prog) Try.underlying23 hv
  obtain ⟨fuel, hf⟩ := h
  rcases Deep.open_slice (P := Try.prog) Try.underlying23 hf with ⟨h0, _⟩ | ⟨a, len', cap', m, n, D, Pl, h0, _, hl, hm, hmm, _, hx⟩
  · simp [Value.cells] at h0
    obtain ⟨rfl, rfl, rfl⟩ := h0
    exact ⟨none, [], 0, rfl, by simp, ⟨fun i m hi => by simp at hi⟩⟩
  · simp [Value.cells] at h0
    obtain ⟨rfl, rfl, rfl⟩ := h0
    simp only [if_true] at hmm
    subst hmm
    obtain ⟨f, hfm⟩ := Deep.choose_lt (α := MoveS) (n := len) (p := fun i mv => ∀ (j : Nat) (u : Value), mv.cells[j]? = some u → W.cell? ((a.add (i * 7)).add j) = some u) (fun i hi => by
      obtain ⟨cs, hc, ht⟩ := hx i (by omega)
      rw [cells_move] at hc
      obtain ⟨mv, hmv⟩ := open_move ht
      refine ⟨mv, fun j u hu => ?_⟩
      have hj : j < 7 := by have := (List.getElem?_eq_some_iff.1 hu).1; simpa [MoveS.cells] using this
      rw [(World.cells?_some hc).2.2 j hj]
      exact hmv j u hu)
    refine ⟨some a, (List.range len).map f, m, by simp, by simp; omega, ⟨fun i mv hi => ?_⟩⟩
    have hil : i < len := by have := (List.getElem?_eq_some_iff.1 hi).1; simpa using this
    have hif : mv = f i := by
      rw [List.getElem?_map, List.getElem?_range hil] at hi
      simpa using hi.symm
    subst hif
    have h00 := hfm 0 (by omega) 0 _ rfl
    have ha : a = ⟨a.block, a.off, none⟩ := by
      have e : (a.add (0 * 7)).add 0 = a := by simp [Addr.add]
      rw [e] at h00
      exact add_form h00
    refine ⟨a.block, a.off, by rw [← ha], ?_, fun j u hu => ?_⟩
    · have e : (a.add (0 * 7)).add 0 = a := by simp [Addr.add]
      rw [e] at h00
      exact World.block_lt_of_cell? W _ h00
    · have := hfm i hil j u hu
      rw [ha, Addr.add_lit, Addr.add_lit] at this
      exact this

theorem open_strs {H : Type} {enc : TypeId × Value → H} {W : World} {r : _root_.Go.Reach} {base : Nat} {v : Value} {d : DataW H} {p : List MemPlace} (hv : Value.okWide Try.prog W r base 22 v) (h : DataW.Trod enc Try.prog W 0 (fun _ => true) true 22 v d p) :
    ∃ (a : Option Addr) (l : List ByteArray) (c : Nat), v = .slice a l.length c ∧ l.length ≤ c ∧ c ≤ maxLen ∧ (a = none → c = 0) ∧ StrsAt W a l := by
  obtain ⟨a0, len, cap, rfl⟩ := okWide_slice (P := Try.prog) Try.underlying22 hv
  obtain ⟨fuel, hf⟩ := h
  rcases Deep.open_slice (P := Try.prog) Try.underlying22 hf with ⟨h0, _⟩ | ⟨a, len', cap', m, n, D, Pl, h0, _, hl, hm, hmm, _, hx⟩
  · simp [Value.cells] at h0
    obtain ⟨rfl, rfl, rfl⟩ := h0
    exact ⟨none, [], 0, rfl, by simp, by simp, fun _ => rfl, ⟨fun i m hi => by simp at hi⟩⟩
  · simp [Value.cells] at h0
    obtain ⟨rfl, rfl, rfl⟩ := h0
    simp only [if_true] at hmm
    subst hmm
    obtain ⟨f, hfm⟩ := Deep.choose_lt (α := ByteArray) (n := len) (p := fun i s => W.cell? (a.add i) = some (.string s)) (fun i hi => by
      obtain ⟨cs, hc, ht⟩ := hx i (by omega)
      rw [cells_str] at hc
      have hcs := World.cells?_some hc
      obtain ⟨s, e, -, -⟩ := DataW.trod_string (P := Try.prog) Try.underlying9 ht
      subst e
      refine ⟨s, ?_⟩
      have := hcs.2.2 0 (by omega)
      simpa [Addr.add] using this)
    refine ⟨some a, (List.range len).map f, m, by simp, by simpa using hl, hm, (fun h => by cases h), ⟨fun i mv hi => ?_⟩⟩
    have hil : i < len := by have := (List.getElem?_eq_some_iff.1 hi).1; simpa using this
    have hif : mv = f i := by
      rw [List.getElem?_map, List.getElem?_range hil] at hi
      simpa using hi.symm
    subst hif
    have h00 := hfm 0 (by omega)
    have ha : a = ⟨a.block, a.off, none⟩ := by
      have e : a.add 0 = a := by simp [Addr.add]
      rw [e] at h00
      exact add_form h00
    refine ⟨a.block, a.off, by rw [← ha], ?_, ?_⟩
    · have e : a.add 0 = a := by simp [Addr.add]
      rw [e] at h00
      exact World.block_lt_of_cell? W _ h00
    · have := hfm i hil
      rw [ha, Addr.add_lit] at this
      exact this
end Go.Proofs.Ytnpmjpdndhedgaa
