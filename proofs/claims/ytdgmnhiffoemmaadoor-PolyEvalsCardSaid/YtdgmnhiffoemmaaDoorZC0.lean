/-
  What points come to, and poly.Line's calls. No statement of a claim stands here; each contract names what it asks.
-/
import Derived.Test.YtdgmnhiffoemmaaDoorZB0
set_option linter.unusedSimpArgs false
namespace Go.Proofs.YtdgmnhiffoemmaaDoor
open Go Go.RowKit Go.ChangeMaps

theorem FacOk.unique {q at_ : Nat} {xs : List Nat} {i f f' : Nat} (h : FacOk q at_ xs i f) (h' : FacOk q at_ xs i f') : f = f' := by
  obtain ⟨xi, u, h1, h2, h3, h4, h5⟩ := h
  obtain ⟨xi', u', k1, k2, k3, k4, k5⟩ := h'
  rw [h1] at k1
  cases k1
  have hu : Cg (q : Int) (u : Int) (u' : Int) := by
    have e1 : Cg (q : Int) (u : Int) ((u : Int) * ((u' : Int) * topN (zs xs) i (xi : Int))) := by
      have := (Cg.refl (q : Int) (u : Int)).mul k4.symm
      rwa [Int.mul_one] at this
    have e2 : Cg (q : Int) ((u : Int) * ((u' : Int) * topN (zs xs) i (xi : Int))) (u' : Int) := by
      rw [Int.mul_left_comm]
      have := (Cg.refl (q : Int) (u' : Int)).mul h4
      rwa [Int.mul_one] at this
    exact e1.trans e2
  have hf : Cg (q : Int) (f : Int) (f' : Int) := h5.trans (((Cg.refl _ _).mul hu).trans k5.symm)
  have := hf.eq ⟨by omega, by omega⟩ ⟨by omega, by omega⟩
  omega

/-- What points come to at a place. -/
def Comes (at_ : Nat) (ps : List (Nat × Nat)) (y : Nat) : Prop :=
  y < order ∧ ∃ fs : List Nat, fs.length = ps.length ∧ (∀ (i f : Nat), fs[i]? = some f → FacOk order at_ (ps.map Prod.fst) i f) ∧ Cg (order : Int) (y : Int) (sumFY fs ps ps.length)
theorem Comes.unique {at_ : Nat} {ps : List (Nat × Nat)} {y y' : Nat} (h : Comes at_ ps y) (h' : Comes at_ ps y') : y = y' := by
  obtain ⟨h1, fs, h2, h3, h4⟩ := h
  obtain ⟨k1, fs', k2, k3, k4⟩ := h'
  have hfs : fs = fs' := by
    apply List.ext_getElem?
    intro i
    rcases h : fs[i]? with _ | f
    · have := List.getElem?_eq_none_iff.1 h
      rw [List.getElem?_eq_none (by omega)]
    · have hi := (List.getElem?_eq_some_iff.1 h).1
      obtain ⟨f', hf'⟩ : ∃ f', fs'[i]? = some f' := ⟨_, List.getElem?_eq_getElem (by omega)⟩
      rw [hf', (h3 i f h).unique (k3 i f' hf')]
  subst hfs
  have := (h4.trans k4.symm).eq ⟨by omega, by omega⟩ ⟨by omega, by omega⟩
  omega
/-- The one that they come to. -/
noncomputable def cv (at_ : Nat) (ps : List (Nat × Nat)) : Nat := Classical.epsilon (fun y => Comes at_ ps y)
theorem Comes.cv {at_ : Nat} {ps : List (Nat × Nat)} {y : Nat} (h : Comes at_ ps y) : cv at_ ps = y := Comes.unique (Classical.epsilon_spec (p := fun y => Comes at_ ps y) ⟨y, h⟩) h

theorem c_comb {at_ : Nat} (hat : at_ < 1000000) (ps : List (Nat × Nat)) (hp : ∀ p ∈ ps, p.1 < 1000000 ∧ p.2 < order) (hap : AllApart order (ps.map Prod.fst)) (hl1 : 1 ≤ ps.length) (hl2 : ps.length ≤ 256) (g c : Nat) (w : World) (h : PtRow w g ps) :
    Calls Tryd.prog 13 #[one4 581039633, one4 (at_ : Int), .slice (some ⟨g, 0, none⟩) ps.length c] w fun e w' => (e = .returned (.tuple #[one4 (cv at_ ps : Int), .int .i64 0]) ∧ Comes at_ ps (cv at_ ps)) ∧ Mod [] w w' := by
  have hc := pcombine order_NN' order_two order_2 (NN_big hat) ps (fun p hh => ⟨NN_big (hp p hh).1, order_NN (hp p hh).2⟩) hl1 hl2 hap g c w h
  rw [nv_order, nv_one4B (BB_big hat)] at hc
  refine hc.mono ?_
  rintro e w' ⟨⟨y, fs, hy, hfl, hf, hcg, rfl⟩, hm⟩
  have hk : Comes at_ ps y := ⟨hy, fs, hfl, hf, hcg⟩
  rw [hk.cv]
  exact ⟨⟨by rw [nv_one4B (order_BB hy)], hk⟩, hm⟩
theorem c_facs0 (xs : List Nat) (hxs : ∀ x ∈ xs, x < 1000000) (hap : AllApart order xs) (hl1 : 1 ≤ xs.length) (hl2 : xs.length ≤ 256) (g c : Nat) (w : World) (h : NatRow w g xs) :
    Calls Tryd.prog 17 #[one4 581039633, one4 0, .slice (some ⟨g, 0, none⟩) xs.length c] w fun e w' => (∃ v : Value, e = .returned (.tuple #[v, .int .i64 0])) ∧ Mod [] w w' := by
  have hc := c_factors (at_ := 0) NN_pos xs hxs hap hl1 hl2 g c w h
  rw [nv_one4B BB_pos] at hc
  refine hc.mono ?_
  rintro e w' ⟨⟨v, fs, -, -, -, rfl⟩, hm⟩
  exact ⟨⟨v, rfl⟩, hm⟩
/-- A wide number's eight cells, one part alone. -/
def one8 (y : Int) : Value := .agg #[.int .u64 y, .int .u64 0, .int .u64 0, .int .u64 0, .int .u64 0, .int .u64 0, .int .u64 0, .int .u64 0]
theorem wdv_one {y : Nat} (hy : y < BB) : wdv y = one8 (y : Int) := by
  unfold wdv
  rw [(wide_words (Nat.lt_trans hy BB_NN) (parts_one hy)).1]
  rfl
theorem c_widen1 {y : Nat} (hy : y < BB) (w : World) : Calls Tryd.prog 41 #[one4 (y : Int)] w fun e w' => e = .returned (one8 (y : Int)) ∧ Mod [] w w' := by
  have h := lwiden (Nat.lt_trans hy BB_NN) w
  rwa [nv_one4B hy, wdv_one hy] at h
theorem c_reduce1 {y : Nat} (hy : y < order) (w : World) : Calls Tryd.prog 40 #[one8 (y : Int), one4 581039633] w fun e w' => e = .returned (.tuple #[one4 (y : Int), .int .i64 0]) ∧ Mod [] w w' := by
  have h := mreduce (a := y) (m := order) (Nat.lt_of_lt_of_le (order_NN hy) NN_le) order_NN' (by have := order_2; omega) w
  rwa [nv_order, wdv_one (order_BB hy), Nat.mod_eq_of_lt hy, nv_one4B (order_BB hy)] at h
theorem PtRow.take {w : World} {g : Nat} {ps : List (Nat × Nat)} (h : PtRow w g ps) (n : Nat) : PtRow w g (ps.take n) := by
  obtain ⟨cur, T, f, hg, hc⟩ := h
  refine ⟨cur, T, f, hg, fun i p hi => hc i p ?_⟩
  rw [List.getElem?_take] at hi
  split at hi
  · exact hi
  · cases hi
theorem AllApart.take {q : Nat} {xs : List Nat} (h : AllApart q xs) (n : Nat) : AllApart q (xs.take n) := by
  have ht : ∀ (i x : Nat), (xs.take n)[i]? = some x → xs[i]? = some x := fun i x hi => by
    rw [List.getElem?_take] at hi
    split at hi
    · exact hi
    · cases hi
  intro i xi hi j r hj hr
  exact h i xi (ht i xi hi) j r hj (ht j r hr)
/-- s[k:]: where it lies. -/
theorem slice_fromA {P : Program} {t e : TypeId} (ht : P.underlying t = some (.slice e)) {i : TypeInfo} (hi : P.info? e = some i) (g n cap k : Nat) (hk : k ≤ n) (hn : n ≤ cap) :
    ∃ ad c', (∀ w, (Instr.slice t (.slice (some ⟨g, 0, none⟩) n cap) (some (.int .i64 (k : Int))) none none).run P w = .ok (.slice (some ad) (n - k) c') w) ∧ (k < n → ad = ⟨g, k * i.size, none⟩) := by
  have h1 : ∀ w : World, (Instr.sliceBound (.int .i64 (k : Int)) n .sliceB).run P w = .ok k w := fun w => by rw [run_sliceBound _ _ _ _ _ (by omega) (by omega)]; simp
  by_cases hkc : cap = k
  · exact ⟨⟨g, 0, none⟩, cap - k, fun w => by simp [Instr.slice, run_underlying ht, Instr.sliceBounds, h1, sizeOf, typeInfo, hi, hkc], fun h => by omega⟩
  · exact ⟨(⟨g, 0, none⟩ : Addr).add (k * i.size), cap - k, fun w => by simp [Instr.slice, run_underlying ht, Instr.sliceBounds, h1, sizeOf, typeInfo, hi, hkc], fun h => by rw [Addr.add_lit, Nat.zero_add]⟩
end Go.Proofs.YtdgmnhiffoemmaaDoor
