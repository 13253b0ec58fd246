/-
  Acts as an argument: what a slice of them holds. No statement of a claim stands here; each lemma names what it asks.
-/
import Derived.Test.YteifjbfojjjacaaRows
import Derived.Test.YteifjbfojjjacaaOpen
import Derived.Test.YteifjbfojjjacaaKaX
import Derived.SizedLaws
set_option linter.unusedSimpArgs false
namespace Go.Proofs.Yteifjbfojjjacaa
open Go Go.RowKit Go.ChangeShapes Go.WideShapes Go.ChangeAt Go.ChangeMaps

section
variable {H : Type} {enc : TypeId × Value → H} {P : Program} {w : World} {base : Nat} {spare : Nat → Bool} {held : Bool}
/-- One field of a struct, its cells and its weights. -/
theorem open_fieldW {t : TypeId} {fs : Array Field} {fuel : Nat} {cs : List Value} {x : DataW H × List MemPlace} (ht : P.underlying t = some (.struct fs))
    (h : DataW.trod enc P w base spare held fuel t cs = some x) (i : Nat) (f : Field) (hf : fs[i]? = some f) :
    ∃ (y : DataW H × List MemPlace) (n : Nat), DataW.trod enc P w base spare held n f.type ((cs.drop f.offset).take (P.cellsOf f.type)) = some y ∧ ∀ k ∈ y.1.weights P f.type, k ∈ x.1.weights P t := by
  obtain ⟨xs, n, _, rfl, hl, hlen, hx⟩ := DataW.trod_struct ht h
  have hi : i < fs.size := (Array.getElem?_eq_some_iff.1 hf).1
  have hxi : xs[i]? = some (xs[i]'(by omega)) := List.getElem?_eq_getElem _
  refine ⟨xs[i]'(by omega), n, (hx i f hf).trans hxi, fun k hk => ?_⟩
  have e : DataW.weights P t (.agg (xs.map (·.1)) : DataW H) = DataW.weightsEach P (fs.toList.map (·.type)) (xs.map (·.1)) := by
    simp [DataW.weights, ht]
  rw [e]
  refine DataW.weights_mem_each (j := i) (t := f.type) (d := (xs[i]'(by omega)).1) ?_ ?_ k hk
  · rw [List.getElem?_map, Array.getElem?_toList, hf]; rfl
  · rw [List.getElem?_map, hxi]; rfl

theorem weightsAll_mem {e : TypeId} : ∀ {l : List (DataW H)} {d : DataW H}, d ∈ l → ∀ n ∈ d.weights P e, n ∈ DataW.weightsAll P e l
  | x :: l, d, hd, n, hn => by
    simp only [DataW.weightsAll, List.mem_append]
    rcases List.mem_cons.1 hd with rfl | hd
    · exact .inl hn
    · exact .inr (weightsAll_mem hd n hn)
end

theorem bytes_u8 : Try.prog.bytesOf 5 = 1 := by kernel_rfl
theorem cells_u8 : Try.prog.cellsOf 5 = 1 := by kernel_rfl

theorem open_key {H : Type} {enc : TypeId × Value → H} {W : World} {n : Nat} {kv : Value} {x : DataW H × List MemPlace} (h : DataW.trod enc Try.prog W 0 (fun _ => true) true n 48 [kv] = some x) :
    ∃ k : List Nat, KeyIn W kv k ∧ (k = [] ∨ ∃ m ∈ x.1.weights Try.prog 48, k.length ≤ m) := by
  rcases Deep.open_slice (P := Try.prog) Try.underlying48 h with ⟨h0, _⟩ | ⟨a, len, cap, m, n', D, Pl, h0, _, hl, hm, hmm, rfl, hx⟩
  · simp only [List.cons.injEq, and_true] at h0
    subst h0
    exact ⟨[], .inl ⟨rfl, rfl⟩, .inl rfl⟩
  · simp only [List.cons.injEq, and_true] at h0
    subst h0
    simp only [if_true] at hmm
    subst hmm
    obtain ⟨f, hf⟩ := Deep.choose_lt (α := Nat) (n := len) (p := fun i b => W.cell? (a.add i) = some (.int .u8 (b : Int))) (fun i hi => by
      obtain ⟨cs, hc, ht⟩ := hx i (by omega)
      rw [cells_u8, Nat.mul_one] at hc
      obtain ⟨b, rfl, -, hwf⟩ := DataW.trod_int (P := Try.prog) Try.underlying5 ht
      have hb : 0 ≤ b := by
        simp [Lit.wf, IntKind.wrap] at hwf
        first | exact hwf.1 | omega
      refine ⟨b.toNat, ?_⟩
      have := (World.cells?_some hc).2.2 0 (by omega)
      have e0 : (a.add i).add 0 = a.add i := by simp [Addr.add]
      rw [e0] at this
      rw [this]
      simp [Int.toNat_of_nonneg hb])
    refine ⟨(List.range len).map f, .inr ⟨a, m, by simp, fun j u hu => ?_⟩, .inr ⟨len + (m - len), ?_, by simp⟩⟩
    · have hj : j < len := by have := (List.getElem?_eq_some_iff.1 hu).1; simpa [keyCells] using this
      simp only [keyCells, List.getElem?_map, List.getElem?_range hj, Option.map_some, Option.some.injEq] at hu
      rw [← hu]; exact hf j hj
    · have e : (len + (m - len)) = (((List.range len).map D).length + ((List.range (m - len)).map fun j => D (len + j)).length) * Try.prog.bytesOf 5 := by
        rw [bytes_u8]; simp
      simp only [DataW.weights, Try.underlying48]
      rw [← e]
      exact List.mem_cons_self

theorem cells_key : Try.prog.cellsOf 48 = 1 := by kernel_rfl
theorem cells_int : Try.prog.cellsOf 3 = 1 := by kernel_rfl
theorem cells_tk : Try.prog.cellsOf 50 = 7 := by kernel_rfl
theorem cells_act : Try.prog.cellsOf 52 = 9 := by kernel_rfl

theorem open_ticket {H : Type} {enc : TypeId × Value → H} {W : World} {n : Nat} {cs : List Value} {x : DataW H × List MemPlace} (h : DataW.trod enc Try.prog W 0 (fun _ => true) true n 50 cs = some x) :
    ∃ (t : TkS) (kv : Value), (∀ (j : Nat) (u : Value), (t.cells kv)[j]? = some u → cs[j]? = some u) ∧ KeyIn W kv t.key ∧ (t.key = [] ∨ ∃ m ∈ x.1.weights Try.prog 50, t.key.length ≤ m) := by
  have F := open_field (P := Try.prog) Try.underlying50 (by kernel_rfl) (by kernel_rfl) h
  obtain ⟨v0, y0, n0, c0, t0⟩ := F 0 _ rfl
  obtain ⟨v1, y1, n1, c1, t1⟩ := F 1 _ rfl
  obtain ⟨v2, y2', n2', c2, t2'⟩ := F 2 _ rfl
  obtain ⟨v3, y3, n3, c3, t3⟩ := F 3 _ rfl
  obtain ⟨v4, y4, n4, c4, t4⟩ := F 4 _ rfl
  obtain ⟨v5, y5, n5, c5, t5⟩ := F 5 _ rfl
  obtain ⟨v6, y6, n6, c6, t6⟩ := F 6 _ rfl
  obtain ⟨y2, n2, t2, hw⟩ := open_fieldW (P := Try.prog) Try.underlying50 h 2 _ rfl
  replace t2 : DataW.trod enc Try.prog W 0 (fun _ => true) true n2 48 ((cs.drop 2).take (Try.prog.cellsOf 48)) = some y2 := t2
  rw [cells_key, Deep.take1_drop cs 2 (.pointer none) (List.getElem?_eq_some_iff.1 c2).1] at t2
  have e2 : cs.getD 2 (.pointer none) = v2 := by simp [List.getD, c2]
  rw [e2] at t2
  obtain ⟨s0, e0, -, -⟩ := DataW.trod_string (P := Try.prog) Try.underlying9 t0
  obtain ⟨s1, e1, -, -⟩ := DataW.trod_string (P := Try.prog) Try.underlying9 t1
  obtain ⟨k3, e3, -, -⟩ := DataW.trod_int (P := Try.prog) Try.underlying3 t3
  obtain ⟨k4, e4, -, -⟩ := DataW.trod_int (P := Try.prog) Try.underlying3 t4
  obtain ⟨k5, e5, -, -⟩ := DataW.trod_int (P := Try.prog) Try.underlying3 t5
  obtain ⟨k6, e6, -, -⟩ := DataW.trod_int (P := Try.prog) Try.underlying3 t6
  obtain ⟨k, hk, hm⟩ := open_key t2
  cases e0; cases e1; cases e3; cases e4; cases e5; cases e6
  refine ⟨⟨s0, s1, k, k3, k4, k5, k6⟩, v2, fun j u hu => ?_, hk, hm.imp id (fun ⟨m, h1, h2⟩ => ⟨m, hw m h1, h2⟩)⟩
  match j, hu with
  | 0, hu => cases hu; exact c0
  | 1, hu => cases hu; exact c1
  | 2, hu => cases hu; exact c2
  | 3, hu => cases hu; exact c3
  | 4, hu => cases hu; exact c4
  | 5, hu => cases hu; exact c5
  | 6, hu => cases hu; exact c6
  | j + 7, hu => simp [TkS.cells] at hu

theorem open_act {H : Type} {enc : TypeId × Value → H} {W : World} {n : Nat} {cs : List Value} {x : DataW H × List MemPlace} (h : DataW.trod enc Try.prog W 0 (fun _ => true) true n 52 cs = some x) (hl : cs.length = 9) :
    ∃ m : ActS, (∀ (j : Nat) (u : Value), m.cells[j]? = some u → cs[j]? = some u) ∧ KeyIn W m.kv m.t.key ∧ (m.t.key = [] ∨ ∃ k ∈ x.1.weights Try.prog 52, m.t.key.length ≤ k) := by
  obtain ⟨y0, n0, t0, -⟩ := open_fieldW (P := Try.prog) Try.underlying52 h 0 _ rfl
  obtain ⟨y1, n1, t1, -⟩ := open_fieldW (P := Try.prog) Try.underlying52 h 1 _ rfl
  obtain ⟨y2, n2, t2, hw⟩ := open_fieldW (P := Try.prog) Try.underlying52 h 2 _ rfl
  replace t0 : DataW.trod enc Try.prog W 0 (fun _ => true) true n0 3 ((cs.drop 0).take (Try.prog.cellsOf 3)) = some y0 := t0
  replace t1 : DataW.trod enc Try.prog W 0 (fun _ => true) true n1 3 ((cs.drop 1).take (Try.prog.cellsOf 3)) = some y1 := t1
  replace t2 : DataW.trod enc Try.prog W 0 (fun _ => true) true n2 50 ((cs.drop 2).take (Try.prog.cellsOf 50)) = some y2 := t2
  rw [cells_int] at t0 t1
  rw [cells_tk] at t2
  rw [Deep.take1_drop cs _ (.pointer none) (by omega)] at t0 t1
  obtain ⟨k0, e0, -, -⟩ := DataW.trod_int (P := Try.prog) Try.underlying3 t0
  obtain ⟨k1, e1, -, -⟩ := DataW.trod_int (P := Try.prog) Try.underlying3 t1
  obtain ⟨t, kv, hc, hk, hm⟩ := open_ticket t2
  simp only [List.cons.injEq, and_true] at e0 e1
  have g0 : cs[0]? = some (.int .i64 k0) := by rw [← e0]; simp [List.getD, List.getElem?_eq_getElem (show 0 < cs.length by omega)]
  have g1 : cs[1]? = some (.int .i64 k1) := by rw [← e1]; simp [List.getD, List.getElem?_eq_getElem (show 1 < cs.length by omega)]
  refine ⟨⟨k0, k1, kv, t⟩, fun j u hu => ?_, hk, hm.imp id (fun ⟨m, h1, h2⟩ => ⟨m, hw m h1, h2⟩)⟩
  match j, hu with
  | 0, hu => cases hu; exact g0
  | 1, hu => cases hu; exact g1
  | j + 2, hu =>
    have := hc j u hu
    rw [List.getElem?_take] at this
    split at this
    · rw [List.getElem?_drop, Nat.add_comm] at this; exact this
    · cases this

instance : Inhabited ActS := ⟨⟨0, 0, .slice none 0 0, ⟨ByteArray.empty, ByteArray.empty, [], 0, 0, 0, 0⟩⟩⟩

theorem open_acts {H : Type} {enc : TypeId × Value → H} {W : World} {r : _root_.Go.Reach} {base : Nat} {v : Value} {d : DataW H} {p : List MemPlace} (hv : Value.okWide Try.prog W r base 42 v) (h : DataW.Trod enc Try.prog W 0 (fun _ => true) true 42 v d p)
    (hw : ∀ n ∈ d.weights Try.prog 42, n ≤ reachBytes) :
    ∃ (a : Option Addr) (moves : List ActS) (c : Nat), v = .slice a moves.length c ∧ moves.length ≤ maxLen ∧ ActsAt W a moves := by
  obtain ⟨a0, len, cap, rfl⟩ := okWide_slice (P := Try.prog) Try.underlying42 hv
  obtain ⟨fuel, hf⟩ := h
  rcases Deep.open_slice (P := Try.prog) Try.underlying42 hf with ⟨h0, _⟩ | ⟨a, len', cap', m, n, D, Pl, h0, _, hl, hm, hmm, hd, hx⟩
  · simp [Value.cells] at h0
    obtain ⟨rfl, rfl, rfl⟩ := h0
    exact ⟨none, [], 0, rfl, by simp, ⟨fun i m hi => by simp at hi⟩⟩
  · simp [Value.cells] at h0
    obtain ⟨rfl, rfl, rfl⟩ := h0
    simp only [if_true] at hmm
    subst hmm
    simp only [Prod.mk.injEq] at hd
    obtain ⟨hd, -⟩ := hd
    obtain ⟨f, hfm⟩ := Deep.choose_lt (α := ActS) (n := len) (p := fun i mv => (∀ (j : Nat) (u : Value), mv.cells[j]? = some u → W.cell? ((a.add (i * 9)).add j) = some u) ∧ KeyIn W mv.kv mv.t.key ∧ mv.t.key.length ≤ 140737488355328) (fun i hi => by
      obtain ⟨cs, hc, ht⟩ := hx i (by omega)
      rw [cells_act] at hc
      obtain ⟨mv, hmv, hk, hkl⟩ := open_act ht (World.cells?_some hc).2.1
      refine ⟨mv, fun j u hu => ?_, hk, ?_⟩
      · have hj : j < 9 := by have := (List.getElem?_eq_some_iff.1 hu).1; simpa [ActS.cells, TkS.cells] using this
        rw [(World.cells?_some hc).2.2 j hj]
        exact hmv j u hu
      · rcases hkl with h0 | ⟨k, hk1, hk2⟩
        · rw [h0]; simp
        · have : k ∈ d.weights Try.prog 42 := by
            rw [hd]
            simp only [DataW.weights, Try.underlying42, List.mem_cons, List.mem_append]
            exact .inr (.inl (weightsAll_mem (List.mem_map.2 ⟨i, List.mem_range.2 hi, rfl⟩) k hk1))
          have h2 := hw k this
          have h3 := reachBytes_lt
          omega)
    refine ⟨some a, (List.range len).map f, m, by simp, by simp; omega, ⟨fun i mv hi => ?_⟩⟩
    have hil : i < len := by have := (List.getElem?_eq_some_iff.1 hi).1; simpa using this
    have hif : mv = f i := by
      rw [List.getElem?_map, List.getElem?_range hil] at hi
      simpa using hi.symm
    subst hif
    have h00 := (hfm 0 (by omega)).1 0 _ rfl
    have e : (a.add (0 * 9)).add 0 = a := by simp [Addr.add]
    rw [e] at h00
    have ha : a = ⟨a.block, a.off, none⟩ := add_form h00
    refine ⟨a.block, a.off, by rw [← ha], World.block_lt_of_cell? W _ h00, fun j u hu => ?_, (hfm i hil).2⟩
    have := (hfm i hil).1 j u hu
    rw [ha, Addr.add_lit, Addr.add_lit] at this
    exact this
end Go.Proofs.Yteifjbfojjjacaa
