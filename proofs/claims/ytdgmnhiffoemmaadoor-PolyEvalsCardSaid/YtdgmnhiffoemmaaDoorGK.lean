/-
  Numbers, rows of numbers and rows of ints as arguments. No statement of a claim stands here; each lemma names what it asks.
-/
import Derived.Test.YtdgmnhiffoemmaaDoorGA
import Derived.Test.YtdgmnhiffoemmaaDoorYU
set_option linter.unusedSimpArgs false
namespace Go.Proofs.YtdgmnhiffoemmaaDoor
open Go Go.RowKit Go.ChangeShapes Go.WideShapes Go.ChangeMaps

theorem u64_nat {k : Int} (h : (Lit.int .u64 k).wf = true) : ((k.toNat : Nat) : Int) = k ∧ k.toNat < BB := by
  simp [Lit.wf, IntKind.min, IntKind.max, IntKind.signed, IntKind.bits] at h
  refine ⟨Int.toNat_of_nonneg h.1, ?_⟩
  unfold BB
  omega
set_option maxRecDepth 100000 in
theorem open_nat4 {H : Type} {enc : TypeId × Value → H} {W : World} {base : Nat} {sp : Nat → Bool} {hd : Bool} {n : Nat} {cs : List Value} {x : DataW H × List MemPlace}
    (h : DataW.trod enc Tryd.prog W base sp hd n 26 cs = some x) : ∃ m : Nat, m < NN ∧ cs = encN m := by
  obtain ⟨xs, fu, -, -, hl, hlen, hx⟩ := DataW.trod_array Tryd.underlying26 h
  have hC : Tryd.prog.cellsOf 26 = 4 := by kernel_rfl
  have h1 : Tryd.prog.cellsOf 24 = 1 := by kernel_rfl
  rw [hC] at hl
  rw [h1] at hx
  match cs, hl with
  | [x0, x1, x2, x3], _ =>
    have ho : ∀ i v, i < 4 → (([x0, x1, x2, x3].drop (i * 1)).take 1) = [v] → ∃ k : Nat, v = .int .u64 (k : Int) ∧ k < BB := by
      intro i v hi hv
      have ht := hx i hi
      rw [hv, List.getElem?_eq_getElem (by omega)] at ht
      obtain ⟨k, e, -, hw⟩ := DataW.trod_int (P := Tryd.prog) Tryd.underlying24 ht
      obtain ⟨w1, w2⟩ := u64_nat hw
      refine ⟨k.toNat, ?_, w2⟩
      rw [w1]
      simpa using e
    obtain ⟨k0, rfl, b0⟩ := ho 0 _ (by decide) rfl
    obtain ⟨k1, rfl, b1⟩ := ho 1 _ (by decide) rfl
    obtain ⟨k2, rfl, b2⟩ := ho 2 _ (by decide) rfl
    obtain ⟨k3, rfl, b3⟩ := ho 3 _ (by decide) rfl
    have hs : Small [k0, k1, k2, k3] := by
      intro y hy
      simp only [List.mem_cons, List.not_mem_nil, or_false] at hy
      rcases hy with rfl | rfl | rfl | rfl <;> assumption
    have hp : parts (val [k0, k1, k2, k3]) 4 = [k0, k1, k2, k3] := parts_val hs
    have hv : val [k0, k1, k2, k3] < NN := by rw [NN_eq]; exact val_lt hs
    exact ⟨_, hv, (encN_lit hp).symm⟩
theorem encN_nv (m : Nat) : Value.agg (encN m).toArray = nv m := rfl
set_option maxRecDepth 100000 in
theorem open_nat {H : Type} {enc : TypeId × Value → H} {W : World} {r : _root_.Go.Reach} {base : Nat} {v : Value} {d : DataW H} {p : List MemPlace} (hv : Value.okWide Tryd.prog W r base 26 v) (h : DataW.Trod enc Tryd.prog W 0 (fun _ => true) true 26 v d p) :
    ∃ m : Nat, m < NN ∧ v = nv m := by
  unfold Value.okWide at hv
  rw [Tryd.underlying26] at hv
  obtain ⟨cs, rfl, -, -⟩ := hv
  obtain ⟨fuel, hf⟩ := h
  obtain ⟨m, hm, e⟩ := open_nat4 hf
  refine ⟨m, hm, ?_⟩
  rw [← encN_nv]
  have e2 : cs.toList = encN m := by simpa [Value.cells] using e
  rw [← e2]
set_option maxRecDepth 100000 in
theorem open_nats {H : Type} {enc : TypeId × Value → H} {W : World} {r : _root_.Go.Reach} {base : Nat} {v : Value} {d : DataW H} {p : List MemPlace} (hv : Value.okWide Tryd.prog W r base 22 v) (h : DataW.Trod enc Tryd.prog W 0 (fun _ => true) true 22 v d p) :
    ∃ (a : Option Addr) (l : List Nat) (c : Nat), v = .slice a l.length c ∧ l.length ≤ maxLen ∧ (∀ n ∈ l, n < NN) ∧ l.length ≤ c ∧ (a = none → l = [] ∧ c = 0) ∧ NatsArg W a l := by
  obtain ⟨a0, len, cap, rfl⟩ := okWide_slice Tryd.underlying22 hv
  obtain ⟨fuel, hf⟩ := h
  have hC : Tryd.prog.cellsOf 26 = 4 := by kernel_rfl
  rcases Deep.open_slice Tryd.underlying22 hf with ⟨h0, _⟩ | ⟨a, len', cap', m, n, D, Pl, h0, _, hl, hm, hmm, _, hx⟩
  · simp [Value.cells] at h0
    obtain ⟨rfl, rfl, rfl⟩ := h0
    exact ⟨none, [], 0, rfl, by simp, by simp, by simp, fun _ => ⟨rfl, rfl⟩, fun i m hi => by simp at hi⟩
  · simp [Value.cells] at h0
    obtain ⟨rfl, rfl, rfl⟩ := h0
    simp only [if_true] at hmm
    subst hmm
    obtain ⟨f, hfm⟩ := Deep.choose_lt (α := Nat) (n := len) (p := fun i mv => mv < NN ∧ ∀ (j : Nat) (u : Value), (encN mv)[j]? = some u → W.cell? ((a.add (i * 4)).add j) = some u) (fun i hi => by
      obtain ⟨cs, hcs, ht⟩ := hx i (by omega)
      rw [hC] at hcs
      obtain ⟨mv, hmv, rfl⟩ := open_nat4 ht
      refine ⟨mv, hmv, fun j u hu => ?_⟩
      have hj : j < 4 := by have := (List.getElem?_eq_some_iff.1 hu).1; rwa [encN_len] at this
      rw [(World.cells?_some hcs).2.2 j hj]
      exact hu)
    refine ⟨some a, (List.range len).map f, m, by simp, by simp; omega, ?_, by simpa using hl, fun h => (by cases h), fun i nn hi => ?_⟩
    · intro y hy
      obtain ⟨i, hi, rfl⟩ := List.mem_map.1 hy
      exact (hfm i (List.mem_range.1 hi)).1
    have hil : i < len := by have := (List.getElem?_eq_some_iff.1 hi).1; simpa using this
    have hif : nn = f i := by
      rw [List.getElem?_map, List.getElem?_range hil] at hi
      simpa using hi.symm
    subst hif
    obtain ⟨u0, hu0⟩ : ∃ u, (encN (f 0))[0]? = some u := ⟨_, List.getElem?_eq_getElem (by rw [encN_len]; decide)⟩
    have h00 := (hfm 0 (by omega)).2 0 _ hu0
    have ha : a = ⟨a.block, a.off, none⟩ := by
      have e : (a.add (0 * 4)).add 0 = a := by simp [Addr.add]
      rw [e] at h00
      exact add_form h00
    refine ⟨a.block, a.off, by rw [← ha], fun j u hu => ?_⟩
    have := (hfm i hil).2 j u hu
    rw [ha, Addr.add_lit, Addr.add_lit] at this
    rw [← Nat.add_assoc]
    exact this
set_option maxRecDepth 100000 in
theorem open_xs {H : Type} {enc : TypeId × Value → H} {W : World} {r : _root_.Go.Reach} {base : Nat} {v : Value} {d : DataW H} {p : List MemPlace} (hv : Value.okWide Tryd.prog W r base 23 v) (h : DataW.Trod enc Tryd.prog W 0 (fun _ => true) true 23 v d p) :
    ∃ (a : Option Addr) (l : List Int) (c : Nat), v = .slice a l.length c ∧ l.length ≤ maxLen ∧ IntsArg W a l := by
  obtain ⟨a0, len, cap, rfl⟩ := okWide_slice Tryd.underlying23 hv
  obtain ⟨fuel, hf⟩ := h
  have hC : Tryd.prog.cellsOf 3 = 1 := by kernel_rfl
  rcases Deep.open_slice1 Tryd.underlying23 hC hf with ⟨h0, _⟩ | ⟨a, len', cap', m, n, V, D, Pl, h0, _, hl, hm, hmm, _, hx⟩
  · simp [Value.cells] at h0
    obtain ⟨rfl, rfl, rfl⟩ := h0
    exact ⟨none, [], 0, rfl, by simp, fun i m hi => by simp at hi⟩
  · simp [Value.cells] at h0
    obtain ⟨rfl, rfl, rfl⟩ := h0
    simp only [if_true] at hmm
    subst hmm
    obtain ⟨f, hfm⟩ := Deep.choose_lt (α := Int) (n := len) (p := fun i x => W.cell? (a.add i) = some (.int .i64 x)) (fun i hi => by
      obtain ⟨hcs, ht⟩ := hx i (by omega)
      obtain ⟨k, e, -, -⟩ := DataW.trod_int (P := Tryd.prog) Tryd.underlying3 ht
      refine ⟨k, ?_⟩
      rw [hcs]
      simpa using e)
    refine ⟨some a, (List.range len).map f, m, by simp, by simp; omega, fun i x hi => ?_⟩
    have hil : i < len := by have := (List.getElem?_eq_some_iff.1 hi).1; simpa using this
    have hif : x = f i := by
      rw [List.getElem?_map, List.getElem?_range hil] at hi
      simpa using hi.symm
    subst hif
    have h00 := hfm 0 (by omega)
    have ha : a = ⟨a.block, a.off, none⟩ := by
      have e : a.add 0 = a := by simp [Addr.add]
      rw [e] at h00
      exact add_form h00
    refine ⟨a.block, a.off, by rw [← ha], ?_⟩
    have := hfm i hil
    rw [ha, Addr.add_lit] at this
    exact this
end Go.Proofs.YtdgmnhiffoemmaaDoor
/-
  Rows of ints as arguments, with their range. No statement of a claim stands here; each lemma names what it asks.
-/
set_option linter.unusedSimpArgs false
namespace Go.Proofs.YtdgmnhiffoemmaaDoor
open Go Go.RowKit Go.ChangeShapes Go.WideShapes Go.ChangeMaps

theorem i64_lt {k : Int} (h : (Lit.int .i64 k).wf = true) : k < 9223372036854775808 := by
  simp [Lit.wf, IntKind.min, IntKind.max, IntKind.signed, IntKind.bits] at h
  omega
set_option maxRecDepth 100000 in
theorem open_xr {H : Type} {enc : TypeId × Value → H} {W : World} {r : _root_.Go.Reach} {base : Nat} {v : Value} {d : DataW H} {p : List MemPlace} (hv : Value.okWide Tryd.prog W r base 23 v) (h : DataW.Trod enc Tryd.prog W 0 (fun _ => true) true 23 v d p) :
    ∃ (a : Option Addr) (l : List Int) (c : Nat), v = .slice a l.length c ∧ l.length ≤ maxLen ∧ (∀ x ∈ l, x < 9223372036854775808) ∧ l.length ≤ c ∧ (a = none → l = [] ∧ c = 0) ∧ IntsArg W a l := by
  obtain ⟨a0, len, cap, rfl⟩ := okWide_slice Tryd.underlying23 hv
  obtain ⟨fuel, hf⟩ := h
  have hC : Tryd.prog.cellsOf 3 = 1 := by kernel_rfl
  rcases Deep.open_slice1 Tryd.underlying23 hC hf with ⟨h0, _⟩ | ⟨a, len', cap', m, n, V, D, Pl, h0, _, hl, hm, hmm, _, hx⟩
  · simp [Value.cells] at h0
    obtain ⟨rfl, rfl, rfl⟩ := h0
    exact ⟨none, [], 0, rfl, by simp, by simp, by simp, fun _ => ⟨rfl, rfl⟩, fun i m hi => by simp at hi⟩
  · simp [Value.cells] at h0
    obtain ⟨rfl, rfl, rfl⟩ := h0
    simp only [if_true] at hmm
    subst hmm
    obtain ⟨f, hfm⟩ := Deep.choose_lt (α := Int) (n := len) (p := fun i x => x < 9223372036854775808 ∧ W.cell? (a.add i) = some (.int .i64 x)) (fun i hi => by
      obtain ⟨hcs, ht⟩ := hx i (by omega)
      obtain ⟨k, e, -, hw⟩ := DataW.trod_int (P := Tryd.prog) Tryd.underlying3 ht
      refine ⟨k, i64_lt hw, ?_⟩
      rw [hcs]
      simpa using e)
    refine ⟨some a, (List.range len).map f, m, by simp, by simp; omega, ?_, by simpa using hl, fun h => (by cases h), fun i x hi => ?_⟩
    · intro y hy
      obtain ⟨i, hi, rfl⟩ := List.mem_map.1 hy
      exact (hfm i (List.mem_range.1 hi)).1
    have hil : i < len := by have := (List.getElem?_eq_some_iff.1 hi).1; simpa using this
    have hif : x = f i := by
      rw [List.getElem?_map, List.getElem?_range hil] at hi
      simpa using hi.symm
    subst hif
    have h00 := (hfm 0 (by omega)).2
    have ha : a = ⟨a.block, a.off, none⟩ := by
      have e : a.add 0 = a := by simp [Addr.add]
      rw [e] at h00
      exact add_form h00
    refine ⟨a.block, a.off, by rw [← ha], ?_⟩
    have := (hfm i hil).2
    rw [ha, Addr.add_lit] at this
    exact this
end Go.Proofs.YtdgmnhiffoemmaaDoor
