/-
  The chapter's example, call by call. No statement of a claim stands here; each contract names what it asks.
-/
import Derived.Test.YtdgmnhiffoemmaaDoorYT
import Derived.Test.YtdgmnhiffoemmaaDoorGF
set_option linter.unusedSimpArgs false
namespace Go.Proofs.YtdgmnhiffoemmaaDoor
open Go Go.RowKit Go.ChangeMaps

/-- A small number's cells. -/
def one4 (x : Int) : Value := .agg #[.int .u64 x, .int .u64 0, .int .u64 0, .int .u64 0]
theorem nv_one4 {x : Nat} (hx : x < BB) : nv x = one4 (x : Int) := nv_small hx
theorem BB_big {x : Nat} (hx : x < 1000000) : x < BB := Nat.lt_trans hx (by unfold BB; decide)
theorem NN_big {x : Nat} (hx : x < 1000000) : x < NN := Nat.lt_trans (BB_big hx) BB_NN

theorem eleven : ∀ d, d ∣ 11 → d = 1 ∨ d = 11 := only_two (k := 2) (by decide +kernel) (by decide) (by decide)
theorem cg_eq {q a b : Nat} {A : Int} (h : Cg (q : Int) (a : Int) A) (hA : A % (q : Int) = (b : Int)) (ha : a < q) (hb : b < q) : a = b := by
  have h1 : Cg (q : Int) (a : Int) (b : Int) := by
    rw [← hA]
    exact h.trans (Cg.mod _ _).symm
  have := h1.eq ⟨by omega, by omega⟩ ⟨by omega, by omega⟩
  omega
theorem row32 {w : World} {g : Nat} {T : TypeId} (h : w.heap[g]? = some (.cells #[.int .u64 3, .int .u64 0, .int .u64 0, .int .u64 0, .int .u64 2, .int .u64 0, .int .u64 0, .int .u64 0] T)) : NatRow w g [3, 2] := by
  refine ⟨_, _, _, h, fun i n hi j y hy => ?_⟩
  have e3 : parts 3 4 = [3, 0, 0, 0] := parts_one (BB_big (by decide))
  have e2 : parts 2 4 = [2, 0, 0, 0] := parts_one (BB_big (by decide))
  match i, hi with
  | 0, hi =>
    cases hi
    rw [e3] at hy
    match j, hy with
    | 0, hy => cases hy; rfl
    | 1, hy => cases hy; rfl
    | 2, hy => cases hy; rfl
    | 3, hy => cases hy; rfl
    | j + 4, hy => simp at hy
  | 1, hi =>
    cases hi
    rw [e2] at hy
    match j, hy with
    | 0, hy => cases hy; rfl
    | 1, hy => cases hy; rfl
    | 2, hy => cases hy; rfl
    | 3, hy => cases hy; rfl
    | j + 4, hy => simp at hy
  | i + 2, hi => simp at hi
theorem row12 {w : World} {g : Nat} {T : TypeId} (h : w.heap[g]? = some (.cells #[.int .i64 1, .int .i64 2] T)) : IntRow w g [1, 2] := by
  refine ⟨_, _, _, h, fun i x hx => ?_⟩
  match i, hx with
  | 0, hx => cases hx; rfl
  | 1, hx => cases hx; rfl
  | i + 2, hx => simp at hx

theorem w_nat (x : Nat) (hx : x < 1000000) (w : World) : Calls Tryd.prog 16 #[.int .i64 (x : Int)] w fun e w' => e = .returned (one4 (x : Int)) ∧ Mod [] w w' := by
  rw [← nv_one4 (BB_big hx)]
  exact bnat (by omega) w
theorem w_eval (g : Nat) (w : World) (h : NatRow w g [3, 2]) : Calls Tryd.prog 14 #[one4 11, .slice (some ⟨g, 0, none⟩) 2 2, one4 4] w fun e w' => e = .returned (.tuple #[one4 0, .int .i64 0]) ∧ Mod [] w w' := by
  have hc := peval (q := 11) (x := 4) (NN_big (by decide)) (by decide) (NN_big (by decide)) [3, 2] (by intro n hn; simp at hn; rcases hn with rfl | rfl <;> exact NN_big (by decide)) (by decide) (by decide) g 2 w h
  rw [nv_one4 (x := 11) (BB_big (by decide)), nv_one4 (x := 4) (BB_big (by decide))] at hc
  refine hc.mono ?_
  rintro e w' ⟨⟨y, hy, hcg, rfl⟩, hm⟩
  have hy0 : y = 0 := cg_eq (b := 0) hcg (by decide) hy (by decide)
  subst hy0
  refine ⟨?_, hm⟩
  rw [nv_one4 (x := 0) (BB_big (by decide))]
  rfl
theorem on_two {ps : List (Nat × Nat)} (h : OnPoly 11 [3, 2] [1, 2] ps) : ps = [(1, 5), (2, 7)] := by
  obtain ⟨hl, hp⟩ := h
  match ps, hl with
  | [(a, b), (c, d)], _ =>
    obtain ⟨h1, h2, h3⟩ := hp 0 (a, b) rfl
    obtain ⟨k1, k2, k3⟩ := hp 1 (c, d) rfl
    cases h1
    cases k1
    have e1 : b = 5 := cg_eq (A := ev (zs [3, 2]) 1) (b := 5) h3 (by decide) h2 (by decide)
    have e2 : d = 7 := cg_eq (A := ev (zs [3, 2]) 2) (b := 7) k3 (by decide) k2 (by decide)
    rw [e1, e2]
theorem w_points (g gx : Nat) (w : World) (h : NatRow w g [3, 2]) (hx : IntRow w gx [1, 2]) : Calls Tryd.prog 10 #[one4 11, .slice (some ⟨g, 0, none⟩) 2 2, .slice (some ⟨gx, 0, none⟩) 2 2] w fun e w' =>
    (∃ v : Value, Pts w.heap.size w' v [(1, 5), (2, 7)] ∧ e = .returned (.tuple #[v, .int .i64 0])) ∧ Mod [] w w' := by
  have hc := ppoints (q := 11) (NN_big (by decide)) (by decide) [3, 2] (by intro n hn; simp at hn; rcases hn with rfl | rfl <;> exact NN_big (by decide)) (by decide) (by decide) g 2 [1, 2] (by intro n hn; simp at hn; omega) (by decide) gx 2 w h hx
  rw [nv_one4 (x := 11) (BB_big (by decide))] at hc
  refine hc.mono ?_
  rintro e w' ⟨⟨v, ps, hon, hv, rfl⟩, hm⟩
  rw [on_two hon] at hv
  exact ⟨⟨v, hv, rfl⟩, hm⟩
theorem two_on : OnPoly 11 [3, 2] [1, 2] [(1, 5), (2, 7)] := by
  refine ⟨rfl, fun k p hp => ?_⟩
  match k, hp with
  | 0, hp => cases hp; exact ⟨rfl, by decide, Cg.of_eq (by decide)⟩
  | 1, hp => cases hp; exact ⟨rfl, by decide, Cg.of_eq (by decide)⟩
  | k + 2, hp => simp at hp
theorem two_apart : AllApart 11 [1, 2] := by
  intro i xi hi j r hj hr hd
  match i, hi, j, hr with
  | 0, hi, 0, hr => exact hj rfl
  | 0, hi, 1, hr => cases hi; cases hr; revert hd; decide
  | 1, hi, 0, hr => cases hi; cases hr; revert hd; decide
  | 1, hi, 1, hr => exact hj rfl
  | 0, hi, j + 2, hr => simp at hr
  | 1, hi, j + 2, hr => simp at hr
  | i + 2, hi, _, _ => simp at hi
theorem w_combine (g c : Nat) (w : World) (h : PtRow w g [(1, 5), (2, 7)]) : Calls Tryd.prog 13 #[one4 11, one4 0, .slice (some ⟨g, 0, none⟩) 2 c] w fun e w' => e = .returned (.tuple #[one4 3, .int .i64 0]) ∧ Mod [] w w' := by
  have hc := pcombine (q := 11) (at_ := 0) (NN_big (by decide)) eleven (by decide) (NN_big (by decide)) [(1, 5), (2, 7)] (by intro p hp; simp at hp; rcases hp with rfl | rfl <;> exact ⟨NN_big (by decide), NN_big (by decide)⟩) (by decide) (by decide) two_apart g c w h
  rw [nv_one4 (x := 11) (BB_big (by decide)), nv_one4 (x := 0) (BB_big (by decide))] at hc
  refine hc.mono ?_
  rintro e w' ⟨⟨y, fs, hy, hfl, hf, hcg, rfl⟩, hm⟩
  have h1 := shares_plain (prim_of (by decide) eleven) two_on two_apart hfl hf (Nat.le_refl _) hcg
  have hy3 : y = 3 := cg_eq (b := 3) h1 (by decide) hy (by decide)
  subst hy3
  refine ⟨?_, hm⟩
  rw [nv_one4 (x := 3) (BB_big (by decide))]
  rfl
end Go.Proofs.YtdgmnhiffoemmaaDoor
