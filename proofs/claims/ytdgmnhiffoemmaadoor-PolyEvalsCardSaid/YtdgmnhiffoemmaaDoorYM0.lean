/-
  What poly.factor reckons, in plain words. No statement of a claim stands here; each lemma names what it asks.
-/
import Derived.Test.YtdgmnhiffoemmaaDoorGE
import Derived.Test.YtdgmnhiffoemmaaDoorYG
namespace Go.Proofs.YtdgmnhiffoemmaaDoor
open Go Go.RowKit Go.ChangeMaps

theorem sub_cg {a b q : Nat} (hq : 0 < q) : Cg (q : Int) (((a % q + q - b % q) % q : Nat) : Int) ((a : Int) - (b : Int)) := by
  have hb := Nat.mod_lt b hq
  rw [Int.natCast_emod]
  refine (Cg.mod _ _).trans ?_
  rw [show ((a % q + q - b % q : Nat) : Int) = ((a % q : Nat) : Int) - ((b % q : Nat) : Int) + (q : Int) by omega]
  rw [Int.natCast_emod, Int.natCast_emod]
  have h1 : Cg (q : Int) ((a : Int) % (q : Int) - (b : Int) % (q : Int) + (q : Int)) ((a : Int) % (q : Int) - (b : Int) % (q : Int)) := by
    unfold Cg
    rw [show (a : Int) % (q : Int) - (b : Int) % (q : Int) + (q : Int) - ((a : Int) % (q : Int) - (b : Int) % (q : Int)) = (q : Int) by omega]
    exact Int.dvd_refl _
  exact h1.trans ((Cg.mod _ _).sub (Cg.mod _ _))
theorem mul_cg {a b q : Nat} {A B : Int} (h1 : Cg (q : Int) (a : Int) A) (h2 : Cg (q : Int) (b : Int) B) : Cg (q : Int) ((a * b % q : Nat) : Int) (A * B) := by
  rw [Int.natCast_emod, Int.natCast_mul]
  exact (Cg.mod _ _).trans (h1.mul h2)
theorem one_cg {q : Nat} : Cg (q : Int) ((1 : Nat) : Int) 1 := Cg.refl _ _

/-- All other places differ from the i-th, modulo q. -/
def Other (q : Nat) (xs : List Nat) (i xi : Nat) : Prop := ∀ (j r : Nat), j ≠ i → xs[j]? = some r → ¬ (q : Int) ∣ (xi : Int) - (r : Int)

theorem run_not {q : Nat} {xs : List Nat} {i xi : Nat} (hp : Prim (q : Int)) (ho : Other q xs i xi) (k : Nat) : ¬ (q : Int) ∣ runN (zs xs) i (xi : Int) k := by
  unfold runN prodL
  refine prod_not hp fun r hr => ?_
  obtain ⟨j, hj, hjr⟩ := List.mem_eraseIdx_iff_getElem?.1 hr
  rw [List.getElem?_take] at hjr
  split at hjr
  · simp only [zs, List.getElem?_map, Option.map_eq_some_iff] at hjr
    obtain ⟨s, hs, rfl⟩ := hjr
    exact ho j s hj hs
  · cases hjr
theorem not_zero {q n : Nat} {A : Int} (h : Cg (q : Int) (n : Int) A) (hA : ¬ (q : Int) ∣ A) : ¬ q ∣ n := by
  intro hd
  apply hA
  have h1 : (q : Int) ∣ (n : Int) := Int.natCast_dvd_natCast.2 hd
  exact (h.symm.trans (Cg.zero h1)).dvd
theorem zs_len (l : List Nat) : (zs l).length = l.length := by simp [zs]
end Go.Proofs.YtdgmnhiffoemmaaDoor
