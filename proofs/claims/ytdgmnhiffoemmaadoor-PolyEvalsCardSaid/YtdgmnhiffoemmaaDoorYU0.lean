/-
  PolyShares, call by call. No statement of a claim stands here; each contract names what it asks.
-/
import Derived.Test.YtdgmnhiffoemmaaDoorYS
set_option linter.unusedSimpArgs false
namespace Go.Proofs.YtdgmnhiffoemmaaDoor
open Go Go.RowKit Go.ChangeMaps

theorem order_BB {x : Nat} (h : x < order) : x < BB := Nat.lt_trans h (by unfold BB order; decide)
theorem order_NN {x : Nat} (h : x < order) : x < NN := Nat.lt_trans (order_BB h) BB_NN
theorem order_NN' : order < NN := Nat.lt_trans (by unfold BB order; decide : order < BB) BB_NN
theorem order_2 : 2 ≤ order := by decide
theorem nv_order : nv order = one4 581039633 := nv_small (x := 581039633) (by unfold BB; decide)
theorem nv_one4B {x : Nat} (hx : x < BB) : nv x = one4 (x : Int) := nv_small hx

/-- What a polynomial comes to. -/
def worth (l : List Nat) (at_ : Nat) : Nat := (ev (zs l) (at_ : Int) % (order : Int)).toNat
theorem worth_int (l : List Nat) (at_ : Nat) : (worth l at_ : Int) = ev (zs l) (at_ : Int) % (order : Int) := Int.toNat_of_nonneg (Int.emod_nonneg _ (by decide))
theorem worth_lt (l : List Nat) (at_ : Nat) : worth l at_ < order := by
  have h := worth_int l at_
  have h2 : ev (zs l) (at_ : Int) % (order : Int) < (order : Int) := Int.emod_lt_of_pos _ (by decide)
  omega
theorem worth_eq {l : List Nat} {at_ y : Nat} (hy : y < order) (h : Cg (order : Int) (y : Int) (ev (zs l) (at_ : Int))) : y = worth l at_ := by
  have h1 : Cg (order : Int) (y : Int) (worth l at_ : Int) := by
    rw [worth_int]
    exact h.trans (Cg.mod _ _).symm
  have h2 := worth_lt l at_
  have := h1.eq ⟨by omega, by omega⟩ ⟨by omega, by omega⟩
  omega

theorem c_order (w : World) : Calls Tryd.prog 11 #[] w fun e w' => e = .returned (one4 581039633) ∧ Mod [] w w' := by
  have h := lorder w
  rwa [show (581039633 : Nat) = order from rfl, nv_order] at h
theorem c_eval {at_ : Nat} (hat : at_ < NN) (l : List Nat) (hl : ∀ n ∈ l, n < NN) (hl1 : 1 ≤ l.length) (hl2 : l.length ≤ 256) (g c : Nat) (w : World) (h : NatRow w g l) :
    Calls Tryd.prog 14 #[one4 581039633, .slice (some ⟨g, 0, none⟩) l.length c, nv at_] w fun e w' => e = .returned (.tuple #[one4 (worth l at_ : Int), .int .i64 0]) ∧ Mod [] w w' := by
  have hc := peval order_NN' order_2 hat l hl hl1 hl2 g c w h
  rw [nv_order] at hc
  refine hc.mono ?_
  rintro e w' ⟨⟨y, hy, hcg, rfl⟩, hm⟩
  have e1 := worth_eq hy hcg
  subst e1
  exact ⟨by rw [nv_one4B (order_BB hy)], hm⟩
theorem c_points (l : List Nat) (hl : ∀ n ∈ l, n < NN) (hl1 : 1 ≤ l.length) (hl2 : l.length ≤ 256) (g c : Nat) (xs : List Nat) (hxs : ∀ x ∈ xs, x < 1000000) (hn : xs.length ≤ 256) (gx cx : Nat) (w : World) (h : NatRow w g l) (hx : IntRow w gx xs) :
    Calls Tryd.prog 10 #[one4 581039633, .slice (some ⟨g, 0, none⟩) l.length c, .slice (some ⟨gx, 0, none⟩) xs.length cx] w fun e w' =>
      (∃ (v : Value) (ps : List (Nat × Nat)), OnPoly order l xs ps ∧ Pts w.heap.size w' v ps ∧ e = .returned (.tuple #[v, .int .i64 0])) ∧ Mod [] w w' := by
  have hc := ppoints order_NN' order_2 l hl hl1 hl2 g c xs hxs hn gx cx w h hx
  rwa [nv_order] at hc
theorem OnPoly.fst {q : Nat} {l xs : List Nat} {ps : List (Nat × Nat)} (h : OnPoly q l xs ps) : ps.map Prod.fst = xs := by
  apply List.ext_getElem? 
  intro k
  rw [List.getElem?_map]
  rcases hp : ps[k]? with _ | p
  · have : xs[k]? = none := by rw [List.getElem?_eq_none_iff, ← h.1]; exact List.getElem?_eq_none_iff.1 hp
    rw [this]; rfl
  · rw [(h.2 k p hp).1]; rfl
theorem c_combine {at_ : Nat} (hat : at_ < NN) {l xs : List Nat} {ps : List (Nat × Nat)} (hon : OnPoly order l xs ps) (hxs : ∀ x ∈ xs, x < 1000000) (hap : AllApart order xs) (hl : xs.length = l.length) (hl1 : 1 ≤ l.length) (hl2 : l.length ≤ 256) (g c : Nat) (w : World) (h : PtRow w g ps) :
    Calls Tryd.prog 13 #[one4 581039633, nv at_, .slice (some ⟨g, 0, none⟩) ps.length c] w fun e w' => e = .returned (.tuple #[one4 (worth l at_ : Int), .int .i64 0]) ∧ Mod [] w w' := by
  have hfst := hon.fst
  have hpl := hon.1
  have hps : ∀ p ∈ ps, p.1 < NN ∧ p.2 < NN := by
    intro p hp
    obtain ⟨k, hk⟩ := List.mem_iff_getElem?.1 hp
    obtain ⟨h1, h2, -⟩ := hon.2 k p hk
    exact ⟨NN_big (hxs _ (List.mem_of_getElem? h1)), order_NN h2⟩
  have hc := pcombine order_NN' order_two order_2 hat ps hps (by omega) (by omega) (by rw [hfst]; exact hap) g c w h
  rw [nv_order] at hc
  refine hc.mono ?_
  rintro e w' ⟨⟨y, fs, hy, hfl, hf, hcg, rfl⟩, hm⟩
  have h1 := shares_plain order_prim hon (by rw [hfst]; exact hap) hfl hf (by omega) hcg
  have e1 := worth_eq hy h1
  subst e1
  exact ⟨by rw [nv_one4B (order_BB hy)], hm⟩
theorem q_sameB {x : Nat} (hx : x < BB) (w : World) : (Op.equalIn 10000 26 (one4 (x : Int)) (one4 (x : Int))).run Tryd.prog w = .ok true w := by
  rw [← nv_one4B hx, equalIn_nv (Nat.lt_trans hx BB_NN) (Nat.lt_trans hx BB_NN), decide_eq_true rfl]

theorem Ints.intRow {B : Nat} {w : World} {v : Value} {l : List Int} (h : Ints B w v l) (hl : l ≠ []) (hp : ∀ x ∈ l, 0 ≤ x) : ∃ g c, v = .slice (some ⟨g, 0, none⟩) l.length c ∧ B ≤ g ∧ IntRow w g (l.map Int.toNat) := by
  obtain ⟨g, c, cur, e, hB, hg, hc, hx⟩ := RowOf.at h encI_len hl
  refine ⟨g, c, e, hB, cur, _, _, hg, fun i x hi => ?_⟩
  rw [List.getElem?_map] at hi
  rcases hli : l[i]? with _ | y
  · rw [hli] at hi; cases hi
  · rw [hli] at hi
    obtain rfl : y.toNat = x := by simpa using hi
    have h1 := hx i y hli 0 (.int .i64 y) rfl
    rw [Nat.mul_one, Nat.add_zero] at h1
    rw [h1, Int.toNat_of_nonneg (hp y (List.mem_of_getElem? hli))]
theorem Diff.small {n : Nat} {l : List Int} (h : Diff n l) : ∀ x ∈ l.map Int.toNat, x < 1000000 := by
  intro x hx
  obtain ⟨y, hy, rfl⟩ := List.mem_map.1 hx
  have := h.range y hy
  omega
theorem Diff.apart {n : Nat} {l : List Int} (h : Diff n l) : AllApart order (l.map Int.toNat) := by
  intro i xi hi j r hj hr hd
  rw [List.getElem?_map] at hi hr
  rcases hli : l[i]? with _ | y
  · rw [hli] at hi; cases hi
  rcases hlj : l[j]? with _ | z
  · rw [hlj] at hr; cases hr
  rw [hli] at hi
  rw [hlj] at hr
  obtain rfl : y.toNat = xi := by simpa using hi
  obtain rfl : z.toNat = r := by simpa using hr
  have h1 := h.range y (List.mem_of_getElem? hli)
  have h2 := h.range z (List.mem_of_getElem? hlj)
  obtain ⟨k, hk⟩ := hd
  have ho : (order : Int) = 581039633 := rfl
  rw [ho] at hk
  have hyz : y = z := by omega
  subst hyz
  have hn := h.nodup
  rw [List.nodup_iff_pairwise_ne, List.pairwise_iff_getElem] at hn
  obtain ⟨hi1, hi2⟩ := List.getElem?_eq_some_iff.1 hli
  obtain ⟨hj1, hj2⟩ := List.getElem?_eq_some_iff.1 hlj
  rcases Nat.lt_or_gt_of_ne hj with h3 | h3
  · exact hn j i hj1 hi1 h3 (by rw [hi2, hj2])
  · exact hn i j hi1 hj1 h3 (by rw [hi2, hj2])
end Go.Proofs.YtdgmnhiffoemmaaDoor
