/-
  PolyFactors, call by call; and in plain words. No statement of a claim stands here; each contract names what it asks.
-/
import Derived.Test.YtdgmnhiffoemmaaDoorYU0
import Derived.Test.YtdgmnhiffoemmaaDoorZA
set_option linter.unusedSimpArgs false
namespace Go.Proofs.YtdgmnhiffoemmaaDoor
open Go Go.RowKit Go.ChangeMaps

theorem sum_fy {fs : List Nat} {ps : List (Nat × Nat)} (h1 : ∀ p ∈ ps, p.2 = 1) (hl : fs.length = ps.length) : ∀ k, k ≤ ps.length → sumFY fs ps k = (((fs.take k).sum : Nat) : Int)
  | 0, _ => by simp [sumFY]
  | k + 1, hk => by
    have ih := sum_fy h1 hl k (by omega)
    obtain ⟨f, hf⟩ : ∃ f, fs[k]? = some f := ⟨_, List.getElem?_eq_getElem (by omega)⟩
    obtain ⟨p, hp⟩ : ∃ p, ps[k]? = some p := ⟨_, List.getElem?_eq_getElem (by omega)⟩
    rw [sumFY, ih, List.getD_eq_getElem?_getD, hf, List.getD_eq_getElem?_getD, hp, List.take_add_one, hf]
    simp [h1 p (List.mem_of_getElem? hp)]
/-- Factors come to 1. -/
theorem factors_sum {q : Nat} (hp : Prim (q : Int)) (h2 : 2 ≤ q) {xs fs : List Nat} {at_ : Nat} (hap : AllApart q xs) (hfl : fs.length = xs.length) (hf : ∀ (i f : Nat), fs[i]? = some f → FacOk q at_ xs i f) (hl : 1 ≤ xs.length) : fs.sum % q = 1 := by
  have hfst : (xs.map fun x => (x, 1)).map Prod.fst = xs := by
    rw [List.map_map]
    exact List.map_id' xs
  have hev : ∀ x : Int, ev (zs [1]) x = 1 := fun x => by simp [zs, ev]
  have hon : OnPoly q [1] xs (xs.map fun x => (x, 1)) := by
    refine ⟨by simp, fun k p hk => ?_⟩
    rw [List.getElem?_map] at hk
    rcases hx : xs[k]? with _ | x
    · rw [hx] at hk; cases hk
    · rw [hx] at hk
      obtain rfl : (x, 1) = p := by simpa using hk
      exact ⟨rfl, by show 1 < q; omega, by rw [hev]; exact Cg.refl _ _⟩
  have hsum := sum_fy (fs := fs) (ps := xs.map fun x => (x, 1)) (fun p hp => by obtain ⟨x, -, rfl⟩ := List.mem_map.1 hp; rfl) (by simp [hfl]) (xs.map fun x => (x, 1)).length (Nat.le_refl _)
  rw [List.take_of_length_le (by simp [hfl])] at hsum
  have h := shares_plain hp hon (by rw [hfst]; exact hap) (by simp [hfl]) (by rw [hfst]; exact hf) (by simp; omega) (y := fs.sum) (Cg.of_eq hsum.symm)
  rw [hev] at h
  have h3 : Cg (q : Int) ((fs.sum % q : Nat) : Int) ((1 : Nat) : Int) := by
    rw [Int.natCast_emod]
    exact (Cg.mod _ _).trans h
  have h4 := Nat.mod_lt fs.sum (show 0 < q by omega)
  have := h3.eq ⟨by omega, by omega⟩ ⟨by omega, by omega⟩
  omega
/-- Factors at one of the places. -/
theorem factors_at {q : Nat} (h2 : 2 ≤ q) {xs : List Nat} {k xk i f : Nat} (hk : xs[k]? = some xk) (h : FacOk q xk xs i f) : f = if i = k then 1 else 0 := by
  obtain ⟨xi, u, hxi, hfq, -, h1, h3⟩ := h
  by_cases hik : i = k
  · subst hik
    rw [if_pos rfl]
    rw [hk] at hxi
    cases hxi
    rw [Int.mul_comm] at h3
    have h4 : Cg (q : Int) (f : Int) ((1 : Nat) : Int) := h3.trans h1
    have := h4.eq ⟨by omega, by omega⟩ ⟨by omega, by omega⟩
    omega
  · rw [if_neg hik]
    rw [top_other (zs_get hk) (fun h => hik h.symm), Int.zero_mul] at h3
    have h4 : Cg (q : Int) (f : Int) ((0 : Nat) : Int) := h3
    have := h4.eq ⟨by omega, by omega⟩ ⟨by omega, by omega⟩
    omega

theorem c_factors {at_ : Nat} (hat : at_ < NN) (xs : List Nat) (hxs : ∀ x ∈ xs, x < 1000000) (hap : AllApart order xs) (hl1 : 1 ≤ xs.length) (hl2 : xs.length ≤ 256) (g c : Nat) (w : World) (h : NatRow w g xs) :
    Calls Tryd.prog 17 #[one4 581039633, nv at_, .slice (some ⟨g, 0, none⟩) xs.length c] w fun e w' =>
      (∃ (v : Value) (fs : List Nat), fs.length = xs.length ∧ (∀ (i f : Nat), fs[i]? = some f → FacOk order at_ xs i f) ∧ Nats w.heap.size w' v fs ∧ e = .returned (.tuple #[v, .int .i64 0])) ∧ Mod [] w w' := by
  have hc := pfactors order_NN' order_two order_2 hat xs (fun x hx => NN_big (hxs x hx)) hl1 hl2 hap g c w h
  rwa [nv_order] at hc
theorem c_sum (fs : List Nat) (hfs : ∀ f ∈ fs, f < order) (hs : fs.sum % order = 1) (hl : fs.length ≤ 256) (g c : Nat) (w : World) (h : NatRow w g fs) :
    Calls Tryd.prog 18 #[one4 581039633, .slice (some ⟨g, 0, none⟩) fs.length c] w fun e w' => e = .returned (.tuple #[one4 1, .int .i64 0]) ∧ Mod [] w w' := by
  have hc := rmsum order_NN' (by have := order_2; omega) fs (fun n hn => order_NN (hfs n hn)) hl g c w h
  rw [nv_order, hs, nv_one4B (by unfold BB; decide)] at hc
  exact hc
theorem c_nat {x : Nat} (hx : x < 9223372036854775808) (w : World) : Calls Tryd.prog 16 #[.int .i64 x] w fun e w' => e = .returned (one4 (x : Int)) ∧ Mod [] w w' := by
  have h := bnat hx w
  rwa [nv_one4B (by unfold BB; omega)] at h
end Go.Proofs.YtdgmnhiffoemmaaDoor
