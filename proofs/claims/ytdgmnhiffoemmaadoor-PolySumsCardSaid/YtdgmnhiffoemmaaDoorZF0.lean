/-
  PolySums in plain words. No statement of a claim stands here; each lemma names what it asks.
-/
import Derived.Test.YtdgmnhiffoemmaaDoorZE
set_option linter.unusedSimpArgs false
namespace Go.Proofs.YtdgmnhiffoemmaaDoor
open Go Go.RowKit Go.ChangeMaps

theorem addP_get : ∀ (a b : List Int) (i : Nat), (addP a b).getD i 0 = a.getD i 0 + b.getD i 0
  | [], b, i => by simp [addP]
  | c :: a, [], i => by simp [addP]
  | c :: a, d :: b, 0 => by simp [addP]
  | c :: a, d :: b, i + 1 => by simpa [addP] using addP_get a b i
theorem ev_cg {p x : Int} : ∀ (l m : List Int), (∀ i, Cg p (l.getD i 0) (m.getD i 0)) → Cg p (ev l x) (ev m x)
  | [], [], _ => Cg.refl _ _
  | c :: l, [], h => by
    have h0 := h 0
    have ih := ev_cg (p := p) (x := x) l [] (fun i => by simpa using h (i + 1))
    simp only [List.getD_cons_zero, List.getD_nil] at h0
    have h1 : Cg p (c + x * ev l x) (0 + x * ev [] x) := h0.add ((Cg.refl _ _).mul ih)
    simpa [ev] using h1
  | [], d :: m, h => by
    have h0 := h 0
    have ih := ev_cg (p := p) (x := x) [] m (fun i => by simpa using h (i + 1))
    simp only [List.getD_cons_zero, List.getD_nil] at h0
    have h1 : Cg p (0 + x * ev [] x) (d + x * ev m x) := h0.add ((Cg.refl _ _).mul ih)
    simpa [ev] using h1
  | c :: l, d :: m, h => by
    have h0 := h 0
    have ih := ev_cg (p := p) (x := x) l m (fun i => by simpa using h (i + 1))
    simp only [List.getD_cons_zero] at h0
    exact h0.add ((Cg.refl _ _).mul ih)
theorem zs_getD (l : List Nat) (i : Nat) : (zs l).getD i 0 = ((l.getD i 0 : Nat) : Int) := by
  rw [List.getD_eq_getElem?_getD, List.getD_eq_getElem?_getD, zs, List.getElem?_map]
  rcases l[i]? with _ | x <;> rfl
theorem addInto_cg {q : Nat} {o l : List Nat} (hl : l.length ≤ o.length) (i : Nat) : Cg (q : Int) (((addInto q o l).getD i 0 : Nat) : Int) (((o.getD i 0 : Nat) : Int) + ((l.getD i 0 : Nat) : Int)) := by
  by_cases h : i < l.length
  · obtain ⟨x, hx⟩ : ∃ x, o[i]? = some x := ⟨_, List.getElem?_eq_getElem (by omega)⟩
    obtain ⟨y, hy⟩ : ∃ y, l[i]? = some y := ⟨_, List.getElem?_eq_getElem h⟩
    rw [List.getD_eq_getElem?_getD, addInto_in hx hy, List.getD_eq_getElem?_getD, hx, List.getD_eq_getElem?_getD, hy]
    simp only [Option.getD_some]
    rw [Int.natCast_emod, Int.natCast_add]
    exact Cg.mod _ _
  · rw [List.getD_eq_getElem?_getD, addInto_out (by omega), ← List.getD_eq_getElem?_getD, List.getD_eq_getElem?_getD (l := l), List.getElem?_eq_none (by omega)]
    simp only [Option.getD_none]
    rw [show ((0 : Nat) : Int) = 0 from rfl, Int.add_zero]
    exact Cg.refl _ _
/-- A sum's value. -/
theorem stg_ev {q n : Nat} {a b : List Nat} (ha : a.length ≤ n) (hb : b.length ≤ n) (x : Int) : Cg (q : Int) (ev (zs (stg q n a b 2)) x) (ev (zs a) x + ev (zs b) x) := by
  rw [← ev_add]
  refine ev_cg _ _ fun i => ?_
  rw [addP_get, zs_getD, zs_getD, zs_getD]
  have h2 := addInto_cg (q := q) (o := addInto q (List.replicate n 0) a) (l := b) (by rw [addInto_len, List.length_replicate]; exact hb) i
  have h1 := addInto_cg (q := q) (o := List.replicate n 0) (l := a) (by rw [List.length_replicate]; exact ha) i
  have h0 : ((List.replicate n 0).getD i 0 : Nat) = 0 := by
    rw [List.getD_eq_getElem?_getD, List.getElem?_replicate]
    split <;> rfl
  rw [h0, show ((0 : Nat) : Int) = 0 from rfl, Int.zero_add] at h1
  exact h2.trans (h1.add (Cg.refl _ _))
/-- Points of sums are sums of points. -/
theorem sums_at {n : Nat} {a b xs : List Nat} {pa pb pc : List (Nat × Nat)} (ha : a.length ≤ n) (hb : b.length ≤ n) (h1 : OnPoly order a xs pa) (h2 : OnPoly order b xs pb) (h3 : OnPoly order (stg order n a b 2) xs pc) {i x1 y1 x2 y2 x3 y3 : Nat}
    (k1 : pa[i]? = some (x1, y1)) (k2 : pb[i]? = some (x2, y2)) (k3 : pc[i]? = some (x3, y3)) : (y1 + y2) % order = y3 := by
  obtain ⟨e1, l1, c1⟩ := h1.2 i _ k1
  obtain ⟨e2, l2, c2⟩ := h2.2 i _ k2
  obtain ⟨e3, l3, c3⟩ := h3.2 i _ k3
  have f2 : x2 = x1 := by have := e2.symm.trans e1; simpa using this
  have f3 : x3 = x1 := by have := e3.symm.trans e1; simpa using this
  subst f2
  subst f3
  have hs : Cg (order : Int) (((y1 + y2) % order : Nat) : Int) ((y1 : Int) + (y2 : Int)) := by
    rw [Int.natCast_emod, Int.natCast_add]
    exact Cg.mod _ _
  have hh := (hs.trans (c1.add c2)).trans ((stg_ev ha hb _).symm.trans c3.symm)
  have hlt := Nat.mod_lt (y1 + y2) (show 0 < order by have := order_2; omega)
  have l3' : y3 < order := l3
  have := hh.eq ⟨by omega, by omega⟩ ⟨by omega, by omega⟩
  omega
theorem stg_small {n : Nat} (a b : List Nat) : ∀ x ∈ stg order n a b 2, x < NN := stg_lt (by have := order_2; omega) (Nat.le_of_lt order_NN') a b 2
theorem c_add (la lb : List Nat) (hla : ∀ n ∈ la, n < NN) (hlb : ∀ n ∈ lb, n < NN) (ha1 : 1 ≤ la.length) (ha2 : la.length ≤ 256) (hb1 : 1 ≤ lb.length) (hb2 : lb.length ≤ 256) (ga ca gb cb : Nat) (w : World) (hga : NatRow w ga la) (hgb : NatRow w gb lb) :
    Calls Tryd.prog 22 #[one4 581039633, .slice (some ⟨ga, 0, none⟩) la.length ca, .slice (some ⟨gb, 0, none⟩) lb.length cb] w fun e w' => AddSays order la lb w.heap.size e w' ∧ Mod [] w w' := by
  have h := padd order_NN' order_2 la lb hla hlb ha1 ha2 hb1 hb2 ga ca gb cb w hga hgb
  rwa [nv_order] at h
theorem c_addmod {y1 y2 : Nat} (h1 : y1 < order) (h2 : y2 < order) (w : World) : Calls Tryd.prog 26 #[one4 (y1 : Int), one4 (y2 : Int), one4 581039633] w fun e w' => e = .returned (.tuple #[one4 (((y1 + y2) % order : Nat) : Int), .int .i64 0]) ∧ Mod [] w w' := by
  have hh := rmadd (a := y1) (b := y2) (m := order) (order_NN h1) (order_NN h2) order_NN' (by have := order_2; omega) w
  rwa [nv_order, nv_one4B (order_BB h1), nv_one4B (order_BB h2), nv_one4B (order_BB (Nat.mod_lt _ (by have := order_2; omega)))] at hh
end Go.Proofs.YtdgmnhiffoemmaaDoor
