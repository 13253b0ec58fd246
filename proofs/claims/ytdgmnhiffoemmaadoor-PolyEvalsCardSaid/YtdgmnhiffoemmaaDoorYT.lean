/-
  What the points of a polynomial come to, as the program sums them up; in plain words. No statement of a claim stands here; each lemma names what it asks.
-/
import Derived.Test.YtdgmnhiffoemmaaDoorYO
import Derived.Test.YtdgmnhiffoemmaaDoorGB
namespace Go.Proofs.YtdgmnhiffoemmaaDoor
open Go Go.RowKit Go.ChangeMaps

theorem AllApart.apart {q : Nat} {xs : List Nat} (h : AllApart q xs) : Apart (q : Int) (zs xs) := by
  unfold Apart
  rw [List.pairwise_iff_getElem]
  intro i j hi hj hij
  have hi2 : i < xs.length := by rwa [zs_len] at hi
  have hj2 : j < xs.length := by rwa [zs_len] at hj
  have e1 : (zs xs)[i] = ((xs[i] : Nat) : Int) := by simp [zs]
  have e2 : (zs xs)[j] = ((xs[j] : Nat) : Int) := by simp [zs]
  rw [e1, e2]
  exact h i xs[i] (List.getElem?_eq_getElem hi2) j xs[j] (by omega) (List.getElem?_eq_getElem hj2)

theorem shares_plain {q : Nat} (hp : Prim (q : Int)) {l xs fs : List Nat} {ps : List (Nat × Nat)} {at_ y : Nat} (hon : OnPoly q l xs ps) (hap : AllApart q (ps.map Prod.fst)) (hfl : fs.length = ps.length)
    (hf : ∀ (i f : Nat), fs[i]? = some f → FacOk q at_ (ps.map Prod.fst) i f) (hl : l.length ≤ ps.length) (hy : Cg (q : Int) (y : Int) (sumFY fs ps ps.length)) : Cg (q : Int) (y : Int) (ev (zs l) (at_ : Int)) := by
  have hlen : (zs (ps.map Prod.fst)).length = ps.length := by rw [zs_len, List.length_map]
  have hex : ∀ i : Nat, ∃ u : Int, i < ps.length → ∃ xi : Nat, (ps.map Prod.fst)[i]? = some xi ∧ Cg (q : Int) (u * topN (zs (ps.map Prod.fst)) i (xi : Int)) 1 ∧ Cg (q : Int) ((fs.getD i 0 : Nat) : Int) (topN (zs (ps.map Prod.fst)) i (at_ : Int) * u) := by
    intro i
    by_cases hi : i < ps.length
    · obtain ⟨f, hfi⟩ : ∃ f, fs[i]? = some f := ⟨_, List.getElem?_eq_getElem (by omega)⟩
      obtain ⟨xi, u, h1, -, -, h2, h3⟩ := hf i f hfi
      exact ⟨(u : Int), fun _ => ⟨xi, h1, h2, by rw [List.getD_eq_getElem?_getD, hfi]; exact h3⟩⟩
    · exact ⟨0, fun h => absurd h hi⟩
  obtain ⟨u, hu⟩ := Classical.skolem.1 hex
  have hgd : ∀ i, i < ps.length → ((List.range ps.length).map u).getD i 0 = u i := by
    intro i hi
    rw [List.getD_eq_getElem?_getD, List.getElem?_map, List.getElem?_range hi]
    rfl
  have hyd : ∀ i (p : Nat × Nat), ps[i]? = some p → (ps.map fun p => (p.2 : Int)).getD i 0 = (p.2 : Int) := by
    intro i p hi
    rw [List.getD_eq_getElem?_getD, List.getElem?_map, hi]
    rfl
  have hx : ∀ (i : Nat) (x : Int), (zs (ps.map Prod.fst))[i]? = some x → i < ps.length ∧ ∃ p, ps[i]? = some p ∧ x = (p.1 : Int) := by
    intro i x hi
    have h1 := (List.getElem?_eq_some_iff.1 hi).1
    rw [hlen] at h1
    obtain ⟨p, hpi⟩ : ∃ p, ps[i]? = some p := ⟨_, List.getElem?_eq_getElem h1⟩
    refine ⟨h1, p, hpi, ?_⟩
    have h2 : (ps.map Prod.fst)[i]? = some p.1 := by rw [List.getElem?_map, hpi]; rfl
    rw [zs_get h2] at hi
    exact (Option.some.inj hi).symm
  have hc := combine_eval hp hap.apart (g := (List.range ps.length).map u) (l := zs l) (by rw [zs_len, hlen]; exact hl)
    (fun i x hi => by
      obtain ⟨h1, p, hpi, rfl⟩ := hx i x hi
      obtain ⟨xi, h2, h3, -⟩ := hu i h1
      rw [List.getElem?_map, hpi] at h2
      cases h2
      rw [hgd i h1]
      exact h3) (at_ : Int) (ys := ps.map fun p => (p.2 : Int))
    (fun i x hi => by
      obtain ⟨h1, p, hpi, rfl⟩ := hx i x hi
      rw [hyd i p hpi]
      exact (hon.2 i p hpi).2.2) (f := fun i => ((fs.getD i 0 : Nat) : Int)) (s := sumFY fs ps) (Cg.refl _ _)
    (fun i hi => by
      rw [hlen] at hi
      obtain ⟨xi, -, -, h4⟩ := hu i hi
      rw [hgd i hi]
      exact h4)
    (fun i hi => by
      rw [hlen] at hi
      obtain ⟨p, hpi⟩ : ∃ p, ps[i]? = some p := ⟨_, List.getElem?_eq_getElem hi⟩
      rw [hyd i p hpi, sumFY, List.getD_eq_getElem?_getD (l := ps), hpi]
      exact Cg.refl _ _)
  rw [hlen] at hc
  exact hy.trans hc
end Go.Proofs.YtdgmnhiffoemmaaDoor
