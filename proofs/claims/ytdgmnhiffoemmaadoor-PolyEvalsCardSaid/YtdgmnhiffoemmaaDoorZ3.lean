/-
  The reference's Add and Sub. No statement of a claim stands here; each contract names what it asks.
-/
import Derived.Test.YtdgmnhiffoemmaaDoorZ2
import Derived.Test.YtdgmnhiffoemmaaDoorYD
set_option linter.unusedSimpArgs false
namespace Go.Proofs.YtdgmnhiffoemmaaDoor
open Go Go.RowKit Go.ChangeMaps

theorem zeros_get {j : Nat} (h : j < 4) : ([0, 0, 0, 0] : List Nat)[j]? = some 0 := by
  match j, h with
  | 0, _ => rfl
  | 1, _ => rfl
  | 2, _ => rfl
  | 3, _ => rfl

/-- A sum's part, as the reference comes to it. -/
theorem ref_add {x y k : Nat} (hx : x < BB) (hy : y < BB) (hk : k ≤ 1) : ∃ s t : Nat, IntKind.u64.wrap ((x : Int) + (y : Int)) = (s : Int) ∧ IntKind.u64.wrap ((s : Int) + (k : Int)) = (t : Int) ∧ (x + y + k) % BB = t ∧
    ((s < x ∧ (x + y + k) / BB = 1) ∨ (¬ s < x ∧ t < s ∧ (x + y + k) / BB = 1) ∨ (¬ s < x ∧ ¬ t < s ∧ (x + y + k) / BB = 0)) := by
  refine ⟨(x + y) % BB, ((x + y) % BB + k) % BB, ?_, ?_, ?_, ?_⟩
  · rw [IntKind.wrap_u64]; unfold BB; omega
  · rw [IntKind.wrap_u64]; unfold BB; omega
  · unfold BB; omega
  · unfold BB at *; omega
/-- A difference's part. -/
theorem ref_sub {x y k : Nat} (hx : x < BB) (hy : y < BB) (hk : k ≤ 1) : ∃ s t : Nat, IntKind.u64.wrap ((x : Int) - (y : Int)) = (s : Int) ∧ IntKind.u64.wrap ((s : Int) - (k : Int)) = (t : Int) ∧ (x + BB - y - k) % BB = t ∧
    ((x < y ∧ (if x < y + k then 1 else 0) = 1) ∨ (¬ x < y ∧ s < k ∧ (if x < y + k then 1 else 0) = 1) ∨ (¬ x < y ∧ ¬ s < k ∧ (if x < y + k then 1 else 0) = 0)) := by
  refine ⟨(x + BB - y) % BB, ((x + BB - y) % BB + BB - k) % BB, ?_, ?_, ?_, ?_⟩
  · rw [IntKind.wrap_u64]; unfold BB at *; omega
  · rw [IntKind.wrap_u64]; unfold BB at *; omega
  · unfold BB at *; omega
  · unfold BB at *
    by_cases h : x < y + k
    · rw [if_pos h]; omega
    · rw [if_neg h]; omega

/-- While two rows are added, or one is taken away. -/
def CarRel (f : List Nat → List Nat → Nat → List Nat × Nat) (O1 : List Nat) (O2 : Nat) (W : World) (tg : Nat) (u v : List Nat) (gk : Nat) (c i : Value) (w : World) : Prop :=
  ∃ (j k : Nat), i = .int .i64 j ∧ gk + j = 4 ∧ c = .int .u64 k ∧ k ≤ 1 ∧ f (u.drop j) (v.drop j) k = (O1.drop j, O2) ∧
    w.heap[tg]? = some (.cells (wcells (O1.take j ++ [0, 0, 0, 0].drop j)) 26) ∧ Mod [tg] W w

set_option maxRecDepth 100000 in
set_option maxHeartbeats 1000000 in
theorem radd_words (u v : List Nat) (hu : u.length = 4) (hv : v.length = 4) (su : Small u) (sv : Small v) (w : World) :
    Calls Tryd.prog 42 #[wv u, wv v] w fun e w' => e = .returned (.tuple #[wv (addC u v 0).1, .bool ((addC u v 0).2 == 1)]) ∧ Mod [] w w' := by
  obtain ⟨u0, u1, u2, u3, rfl⟩ : ∃ a b c d, u = [a, b, c, d] := by
    match u, hu with
    | [a, b, c, d], _ => exact ⟨_, _, _, _, rfl⟩
  obtain ⟨v0, v1, v2, v3, rfl⟩ : ∃ a b c d, v = [a, b, c, d] := by
    match v, hv with
    | [a, b, c, d], _ => exact ⟨_, _, _, _, rfl⟩
  clear hu hv
  obtain ⟨O1, O2, hO, lo⟩ : ∃ O1 O2, addC [u0, u1, u2, u3] [v0, v1, v2, v3] 0 = (O1, O2) ∧ O1.length = 4 := ⟨(addC [u0, u1, u2, u3] [v0, v1, v2, v3] 0).1, (addC [u0, u1, u2, u3] [v0, v1, v2, v3] 0).2, (Prod.eta _).symm, addC_len _ _ _ (by simp)⟩
  rw [hO]
  have HO := hid (And.intro su (And.intro sv hO))
  clear su sv hO
  unfold wv
  go_enter Tryd.func42, Tryd.ntmps42
  go_upto_block 0 with fail
  refine wp_abs (fun W => W.heap[w.heap.size]? = some (.cells (wcells [u0, u1, u2, u3]) 26) ∧ W.heap[w.heap.size + 1]? = some (.cells (wcells [v0, v1, v2, v3]) 26) ∧ W.heap[w.heap.size + 1 + 1]? = some (.cells (wcells [0, 0, 0, 0]) 26) ∧ W.heap[w.heap.size + 1 + 1 + 1]? = some (.cells (wcells [0, 0, 0, 0]) 26) ∧ Mod [] w W)
    (four_new w _ _ _ _) ?_
  rintro W ⟨gu, gv, gr, gg, hm⟩
  generalize hta : w.heap.size = ta at *
  generalize htb : ta + 1 = tb at *
  generalize htc : tb + 1 = tc at *
  generalize htg : tc + 1 = tg at *
  have HM : Hid (Mod [] w W ∧ w.heap.size ≤ tc ∧ ta < tb ∧ tb < tc ∧ tc < tg) := ⟨hm, by omega, by omega, by omega, by omega⟩
  have HG := hid (And.intro gu (And.intro gv (And.intro gr gg)))
  clear hm gu gv gr gg hta htb htc htg
  have lu : [u0, u1, u2, u3].length = 4 := rfl
  have lv : [v0, v1, v2, v3].length = 4 := rfl
  generalize [u0, u1, u2, u3] = U at *
  generalize [v0, v1, v2, v3] = V at *
  go_wp2_with fail
  go_loopg [7, 8] 4 (fun gk c i W' => CarRel addC O1 O2 W tg U V gk c i W')
  case atStart => exact ⟨0, 0, rfl, rfl, rfl, by omega, HO.out.2.2, HG.out.2.2.2, Mod.refl _ _⟩
  case round =>
    obtain ⟨j, k, rfl, hgk, rfl, hk, he, gg, hm2⟩ := hrel
    by_cases hj4 : j < 4
    · have j1 : (j : Int) < 4 := by omega
      have j0 : (0 : Int) ≤ (j : Int) := by omega
      obtain ⟨x, hx⟩ : ∃ x, U[j]? = some x := ⟨_, List.getElem?_eq_getElem (by omega)⟩
      obtain ⟨y, hy⟩ : ∃ y, V[j]? = some y := ⟨_, List.getElem?_eq_getElem (by omega)⟩
      have cx := cell_at (hm2.get HG.out.1 (by have := HM.out; rw [List.mem_singleton]; omega)) j
      have cy := cell_at (hm2.get HG.out.2.1 (by have := HM.out; rw [List.mem_singleton]; omega)) j
      have cg := cell_at gg j
      have fg := free_at gg j
      rw [wcells_get, hx] at cx
      rw [wcells_get, hy] at cy
      rw [wcells_get, mix_get (by omega) (zeros_get hj4)] at cg
      simp only [Option.map_some] at cx cy cg
      obtain ⟨s, t, w1, w2, ht, hc3⟩ := ref_add (HO.out.1.get hx) (HO.out.2.1.get hy) hk
      have hat := addC_at hx hy he
      rw [ht] at hat
      have HS := hid (And.intro hm2 (And.intro gg (And.intro hat.1 (And.intro hat.2 hgk))))
      clear hm2 gg hat hgk he hx hy ht
      rcases hc3 with ⟨h1, h2⟩ | ⟨h1, h2, h3⟩ | ⟨h1, h2, h3⟩
      · have b1 : (s : Int) < (x : Int) := by omega
        rw [h2] at HS
        clear h1 h2
        go_wp2_with fail
        go_quiet (fail)
        have cxq : (wr.drewN nq).cell? ⟨ta, j, none⟩ = some (.int .u64 (x : Int)) := cx
        have cyq : (wr.drewN nq).cell? ⟨tb, j, none⟩ = some (.int .u64 (y : Int)) := cy
        have cgq : (wr.drewN nq).cell? ⟨tg, j, none⟩ = some (.int .u64 ((0 : Nat) : Int)) := cg
        have fgq : (wr.drewN nq).frozen? ⟨tg, j, none⟩ = false := fg
        have hmq := HS.out.1.drewN nq
        have ggq : (wr.drewN nq).heap[tg]? = _ := HS.out.2.1
        have HQ := hid (And.intro hmq ggq)
        clear hmq ggq cx cy cg fg
        generalize wr.drewN nq = wq at *
        go_wp2_with fail
        have gs := get_setCell_self HQ.out.2 j (.int .u64 (t : Int))
        rw [wcells_set, mix_set HS.out.2.2.1 (by rw [zeros_get hj4])] at gs
        go_roundg (gk - 1)
        case measure => have := HS.out.2.2.2.2; omega
        case rel => exact ⟨j + 1, 1, by go_num, by have := HS.out.2.2.2.2; omega, rfl, by omega, HS.out.2.2.2.1, gs, HQ.out.1.setCell (p := ⟨tg, j, none⟩) (.inl (by simp)) _⟩
      · have b1 : ¬ (s : Int) < (x : Int) := by omega
        have b2 : (t : Int) < (s : Int) := by omega
        rw [h3] at HS
        clear h1 h2 h3
        go_wp2_with fail
        go_quiet (fail)
        have cxq : (wr.drewN nq).cell? ⟨ta, j, none⟩ = some (.int .u64 (x : Int)) := cx
        have cyq : (wr.drewN nq).cell? ⟨tb, j, none⟩ = some (.int .u64 (y : Int)) := cy
        have cgq : (wr.drewN nq).cell? ⟨tg, j, none⟩ = some (.int .u64 ((0 : Nat) : Int)) := cg
        have fgq : (wr.drewN nq).frozen? ⟨tg, j, none⟩ = false := fg
        have hmq := HS.out.1.drewN nq
        have ggq : (wr.drewN nq).heap[tg]? = _ := HS.out.2.1
        have HQ := hid (And.intro hmq ggq)
        clear hmq ggq cx cy cg fg
        generalize wr.drewN nq = wq at *
        go_wp2_with fail
        have gs := get_setCell_self HQ.out.2 j (.int .u64 (t : Int))
        rw [wcells_set, mix_set HS.out.2.2.1 (by rw [zeros_get hj4])] at gs
        go_roundg (gk - 1)
        case measure => have := HS.out.2.2.2.2; omega
        case rel => exact ⟨j + 1, 1, by go_num, by have := HS.out.2.2.2.2; omega, rfl, by omega, HS.out.2.2.2.1, gs, HQ.out.1.setCell (p := ⟨tg, j, none⟩) (.inl (by simp)) _⟩
      · have b1 : ¬ (s : Int) < (x : Int) := by omega
        have b2 : ¬ (t : Int) < (s : Int) := by omega
        rw [h3] at HS
        clear h1 h2 h3
        go_wp2_with fail
        go_quiet (fail)
        have cxq : (wr.drewN nq).cell? ⟨ta, j, none⟩ = some (.int .u64 (x : Int)) := cx
        have cyq : (wr.drewN nq).cell? ⟨tb, j, none⟩ = some (.int .u64 (y : Int)) := cy
        have cgq : (wr.drewN nq).cell? ⟨tg, j, none⟩ = some (.int .u64 ((0 : Nat) : Int)) := cg
        have fgq : (wr.drewN nq).frozen? ⟨tg, j, none⟩ = false := fg
        have hmq := HS.out.1.drewN nq
        have ggq : (wr.drewN nq).heap[tg]? = _ := HS.out.2.1
        have HQ := hid (And.intro hmq ggq)
        clear hmq ggq cx cy cg fg
        generalize wr.drewN nq = wq at *
        go_wp2_with fail
        have gs := get_setCell_self HQ.out.2 j (.int .u64 (t : Int))
        rw [wcells_set, mix_set HS.out.2.2.1 (by rw [zeros_get hj4])] at gs
        go_roundg (gk - 1)
        case measure => have := HS.out.2.2.2.2; omega
        case rel => exact ⟨j + 1, 0, by go_num, by have := HS.out.2.2.2.2; omega, rfl, by omega, HS.out.2.2.2.1, gs, HQ.out.1.setCell (p := ⟨tg, j, none⟩) (.inl (by simp)) _⟩
    · have j1 : ¬ (j : Int) < 4 := by omega
      obtain rfl : j = 4 := by omega
      have hk2 : k = O2 := by
        have h := congrArg Prod.snd he
        rw [List.drop_eq_nil_of_le (by omega), List.drop_eq_nil_of_le (by omega)] at h
        exact h
      rw [List.take_of_length_le (by omega), List.drop_eq_nil_of_le (by simp), List.append_nil] at gg
      obtain ⟨o0, o1, o2, o3, rfl⟩ : ∃ a b c d, O1 = [a, b, c, d] := by
        match O1, lo with
        | [a, b, c, d], _ => exact ⟨_, _, _, _, rfl⟩
      have gr := hm2.get HG.out.2.2.1 (by have := HM.out; rw [List.mem_singleton]; omega)
      have oc0 := cell_at gg 0; have oc1 := cell_at gg 1; have oc2 := cell_at gg 2; have oc3 := cell_at gg 3; simp only [wcells_get] at oc0 oc1 oc2 oc3
      have rc0 := cell_at gr 0; have rc1 := cell_at gr 1; have rc2 := cell_at gr 2; have rc3 := cell_at gr 3; simp only [wcells_get] at rc0 rc1 rc2 rc3
      have rf0 := free_at gr 0; have rf1 := free_at gr 1; have rf2 := free_at gr 2; have rf3 := free_at gr 3
      have q := hid (set4_at gr o0 o1 o2 o3)
      have HE := hid (And.intro hm2 (And.intro hk2 hk))
      clear gg gr hm2 he hk2 lo hgk HO lu lv
      go_wp2_with fail
      clear rc0 rc1 rc2 rc3
      clear rf0 rf1 rf2 rf3
      have q2 := q.out
      have rc0 := cell_at q2 0; have rc1 := cell_at q2 1; have rc2 := cell_at q2 2; have rc3 := cell_at q2 3; simp only [wcells_get] at rc0 rc1 rc2 rc3
      have hkd : decide ((0 : Int) < (k : Int)) = (O2 == 1) := by
        obtain ⟨-, e2, hk⟩ := HE.out
        subst e2
        have hk3 : k = 0 ∨ k = 1 := by omega
        rcases hk3 with h | h <;> rw [h] <;> rfl
      have hmm := (HM.out.1.trans' HE.out.1 (fun b hb => .inr (by have := HM.out; rw [List.mem_singleton.1 hb]; omega)))
      exact bodyPost_ret (v := .tuple #[.agg #[.int .u64 (o0 : Int), .int .u64 (o1 : Int), .int .u64 (o2 : Int), .int .u64 (o3 : Int)], .bool (decide ((0 : Int) < (k : Int)))]) (by simp [results, Tryd.results42, go_sem, rc0, rc1, rc2, rc3]) rfl ⟨by rw [hkd], set4_mod HM.out.2.1 hmm _ _ _ _⟩
set_option maxRecDepth 100000 in
set_option maxHeartbeats 1000000 in
theorem rsub_words (u v : List Nat) (hu : u.length = 4) (hv : v.length = 4) (su : Small u) (sv : Small v) (w : World) :
    Calls Tryd.prog 57 #[wv u, wv v] w fun e w' => e = .returned (.tuple #[wv (subC u v 0).1, .bool ((subC u v 0).2 == 1)]) ∧ Mod [] w w' := by
  obtain ⟨u0, u1, u2, u3, rfl⟩ : ∃ a b c d, u = [a, b, c, d] := by
    match u, hu with
    | [a, b, c, d], _ => exact ⟨_, _, _, _, rfl⟩
  obtain ⟨v0, v1, v2, v3, rfl⟩ : ∃ a b c d, v = [a, b, c, d] := by
    match v, hv with
    | [a, b, c, d], _ => exact ⟨_, _, _, _, rfl⟩
  clear hu hv
  obtain ⟨O1, O2, hO, lo⟩ : ∃ O1 O2, subC [u0, u1, u2, u3] [v0, v1, v2, v3] 0 = (O1, O2) ∧ O1.length = 4 := ⟨(subC [u0, u1, u2, u3] [v0, v1, v2, v3] 0).1, (subC [u0, u1, u2, u3] [v0, v1, v2, v3] 0).2, (Prod.eta _).symm, subC_len _ _ _ (by simp)⟩
  rw [hO]
  have HO := hid (And.intro su (And.intro sv hO))
  clear su sv hO
  unfold wv
  go_enter Tryd.func57, Tryd.ntmps57
  go_upto_block 0 with fail
  refine wp_abs (fun W => W.heap[w.heap.size]? = some (.cells (wcells [u0, u1, u2, u3]) 26) ∧ W.heap[w.heap.size + 1]? = some (.cells (wcells [v0, v1, v2, v3]) 26) ∧ W.heap[w.heap.size + 1 + 1]? = some (.cells (wcells [0, 0, 0, 0]) 26) ∧ W.heap[w.heap.size + 1 + 1 + 1]? = some (.cells (wcells [0, 0, 0, 0]) 26) ∧ Mod [] w W)
    (four_new w _ _ _ _) ?_
  rintro W ⟨gu, gv, gr, gg, hm⟩
  generalize hta : w.heap.size = ta at *
  generalize htb : ta + 1 = tb at *
  generalize htc : tb + 1 = tc at *
  generalize htg : tc + 1 = tg at *
  have HM : Hid (Mod [] w W ∧ w.heap.size ≤ tc ∧ ta < tb ∧ tb < tc ∧ tc < tg) := ⟨hm, by omega, by omega, by omega, by omega⟩
  have HG := hid (And.intro gu (And.intro gv (And.intro gr gg)))
  clear hm gu gv gr gg hta htb htc htg
  have lu : [u0, u1, u2, u3].length = 4 := rfl
  have lv : [v0, v1, v2, v3].length = 4 := rfl
  generalize [u0, u1, u2, u3] = U at *
  generalize [v0, v1, v2, v3] = V at *
  go_wp2_with fail
  go_loopg [7, 8] 4 (fun gk c i W' => CarRel subC O1 O2 W tg U V gk c i W')
  case atStart => exact ⟨0, 0, rfl, rfl, rfl, by omega, HO.out.2.2, HG.out.2.2.2, Mod.refl _ _⟩
  case round =>
    obtain ⟨j, k, rfl, hgk, rfl, hk, he, gg, hm2⟩ := hrel
    by_cases hj4 : j < 4
    · have j1 : (j : Int) < 4 := by omega
      have j0 : (0 : Int) ≤ (j : Int) := by omega
      obtain ⟨x, hx⟩ : ∃ x, U[j]? = some x := ⟨_, List.getElem?_eq_getElem (by omega)⟩
      obtain ⟨y, hy⟩ : ∃ y, V[j]? = some y := ⟨_, List.getElem?_eq_getElem (by omega)⟩
      have cx := cell_at (hm2.get HG.out.1 (by have := HM.out; rw [List.mem_singleton]; omega)) j
      have cy := cell_at (hm2.get HG.out.2.1 (by have := HM.out; rw [List.mem_singleton]; omega)) j
      have cg := cell_at gg j
      have fg := free_at gg j
      rw [wcells_get, hx] at cx
      rw [wcells_get, hy] at cy
      rw [wcells_get, mix_get (by omega) (zeros_get hj4)] at cg
      simp only [Option.map_some] at cx cy cg
      obtain ⟨s, t, w1, w2, ht, hc3⟩ := ref_sub (HO.out.1.get hx) (HO.out.2.1.get hy) hk
      obtain ⟨q, hq⟩ : ∃ q, (if x < y + k then 1 else 0) = q := ⟨_, rfl⟩
      have hat := subC_at ht hq hx hy he
      rw [hq] at hc3
      have HS := hid (And.intro hm2 (And.intro gg (And.intro hat.1 (And.intro hat.2 hgk))))
      clear hm2 gg hat hgk he hx hy ht hq
      rcases hc3 with ⟨h1, h2⟩ | ⟨h1, h2, h3⟩ | ⟨h1, h2, h3⟩
      · have b1 : (x : Int) < (y : Int) := by omega
        have d1 : decide ((x : Int) < (y : Int)) = true := decide_eq_true b1
        have d2 : decide (x < y) = true := decide_eq_true h1
        subst h2
        clear h1
        go_wp2_with fail
        go_quiet (fail)
        have cxq : (wr.drewN nq).cell? ⟨ta, j, none⟩ = some (.int .u64 (x : Int)) := cx
        have cyq : (wr.drewN nq).cell? ⟨tb, j, none⟩ = some (.int .u64 (y : Int)) := cy
        have cgq : (wr.drewN nq).cell? ⟨tg, j, none⟩ = some (.int .u64 ((0 : Nat) : Int)) := cg
        have fgq : (wr.drewN nq).frozen? ⟨tg, j, none⟩ = false := fg
        have hmq := HS.out.1.drewN nq
        have ggq : (wr.drewN nq).heap[tg]? = _ := HS.out.2.1
        have HQ := hid (And.intro hmq ggq)
        clear hmq ggq cx cy cg fg
        generalize wr.drewN nq = wq at *
        go_wp2_with fail
        go_quiet (fail)
        have cgr : (wq.drewN nq).cell? ⟨tg, j, none⟩ = some (.int .u64 ((0 : Nat) : Int)) := cgq
        have fgr : (wq.drewN nq).frozen? ⟨tg, j, none⟩ = false := fgq
        have hmr := HQ.out.1.drewN nq
        have ggr : (wq.drewN nq).heap[tg]? = _ := HQ.out.2
        have HQ := hid (And.intro hmr ggr)
        clear hmr ggr cxq cyq cgq fgq
        generalize wq.drewN nq = wq at *
        go_wp2_with fail
        have gs := get_setCell_self HQ.out.2 j (.int .u64 (t : Int))
        rw [wcells_set, mix_set HS.out.2.2.1 (by rw [zeros_get hj4])] at gs
        go_roundg (gk - 1)
        case measure => have := HS.out.2.2.2.2; omega
        case rel => exact ⟨j + 1, 1, by go_num, by have := HS.out.2.2.2.2; omega, rfl, by omega, HS.out.2.2.2.1, gs, HQ.out.1.setCell (p := ⟨tg, j, none⟩) (.inl (by simp)) _⟩
      · have b1 : ¬ (x : Int) < (y : Int) := by omega
        have d1 : decide ((x : Int) < (y : Int)) = false := decide_eq_false b1
        have d2 : decide (x < y) = false := decide_eq_false h1
        have b2 : (s : Int) < (k : Int) := by omega
        have d3 : decide ((s : Int) < (k : Int)) = true := decide_eq_true b2
        have d4 : decide (s < k) = true := decide_eq_true h2
        subst h3
        clear h1 h2
        go_wp2_with fail
        go_quiet (fail)
        have cxq : (wr.drewN nq).cell? ⟨ta, j, none⟩ = some (.int .u64 (x : Int)) := cx
        have cyq : (wr.drewN nq).cell? ⟨tb, j, none⟩ = some (.int .u64 (y : Int)) := cy
        have cgq : (wr.drewN nq).cell? ⟨tg, j, none⟩ = some (.int .u64 ((0 : Nat) : Int)) := cg
        have fgq : (wr.drewN nq).frozen? ⟨tg, j, none⟩ = false := fg
        have hmq := HS.out.1.drewN nq
        have ggq : (wr.drewN nq).heap[tg]? = _ := HS.out.2.1
        have HQ := hid (And.intro hmq ggq)
        clear hmq ggq cx cy cg fg
        generalize wr.drewN nq = wq at *
        go_wp2_with fail
        go_quiet (fail)
        have cgr : (wq.drewN nq).cell? ⟨tg, j, none⟩ = some (.int .u64 ((0 : Nat) : Int)) := cgq
        have fgr : (wq.drewN nq).frozen? ⟨tg, j, none⟩ = false := fgq
        have hmr := HQ.out.1.drewN nq
        have ggr : (wq.drewN nq).heap[tg]? = _ := HQ.out.2
        have HQ := hid (And.intro hmr ggr)
        clear hmr ggr cxq cyq cgq fgq
        generalize wq.drewN nq = wq at *
        go_wp2_with fail
        have gs := get_setCell_self HQ.out.2 j (.int .u64 (t : Int))
        rw [wcells_set, mix_set HS.out.2.2.1 (by rw [zeros_get hj4])] at gs
        go_roundg (gk - 1)
        case measure => have := HS.out.2.2.2.2; omega
        case rel => exact ⟨j + 1, 1, by go_num, by have := HS.out.2.2.2.2; omega, rfl, by omega, HS.out.2.2.2.1, gs, HQ.out.1.setCell (p := ⟨tg, j, none⟩) (.inl (by simp)) _⟩
      · have b1 : ¬ (x : Int) < (y : Int) := by omega
        have d1 : decide ((x : Int) < (y : Int)) = false := decide_eq_false b1
        have d2 : decide (x < y) = false := decide_eq_false h1
        have b2 : ¬ (s : Int) < (k : Int) := by omega
        have d3 : decide ((s : Int) < (k : Int)) = false := decide_eq_false b2
        have d4 : decide (s < k) = false := decide_eq_false h2
        subst h3
        clear h1 h2
        go_wp2_with fail
        go_quiet (fail)
        have cxq : (wr.drewN nq).cell? ⟨ta, j, none⟩ = some (.int .u64 (x : Int)) := cx
        have cyq : (wr.drewN nq).cell? ⟨tb, j, none⟩ = some (.int .u64 (y : Int)) := cy
        have cgq : (wr.drewN nq).cell? ⟨tg, j, none⟩ = some (.int .u64 ((0 : Nat) : Int)) := cg
        have fgq : (wr.drewN nq).frozen? ⟨tg, j, none⟩ = false := fg
        have hmq := HS.out.1.drewN nq
        have ggq : (wr.drewN nq).heap[tg]? = _ := HS.out.2.1
        have HQ := hid (And.intro hmq ggq)
        clear hmq ggq cx cy cg fg
        generalize wr.drewN nq = wq at *
        go_wp2_with fail
        go_quiet (fail)
        have cgr : (wq.drewN nq).cell? ⟨tg, j, none⟩ = some (.int .u64 ((0 : Nat) : Int)) := cgq
        have fgr : (wq.drewN nq).frozen? ⟨tg, j, none⟩ = false := fgq
        have hmr := HQ.out.1.drewN nq
        have ggr : (wq.drewN nq).heap[tg]? = _ := HQ.out.2
        have HQ := hid (And.intro hmr ggr)
        clear hmr ggr cxq cyq cgq fgq
        generalize wq.drewN nq = wq at *
        go_wp2_with fail
        have gs := get_setCell_self HQ.out.2 j (.int .u64 (t : Int))
        rw [wcells_set, mix_set HS.out.2.2.1 (by rw [zeros_get hj4])] at gs
        go_roundg (gk - 1)
        case measure => have := HS.out.2.2.2.2; omega
        case rel => exact ⟨j + 1, 0, by go_num, by have := HS.out.2.2.2.2; omega, rfl, by omega, HS.out.2.2.2.1, gs, HQ.out.1.setCell (p := ⟨tg, j, none⟩) (.inl (by simp)) _⟩
    · have j1 : ¬ (j : Int) < 4 := by omega
      obtain rfl : j = 4 := by omega
      have hk2 : k = O2 := by
        have h := congrArg Prod.snd he
        rw [List.drop_eq_nil_of_le (by omega), List.drop_eq_nil_of_le (by omega)] at h
        exact h
      rw [List.take_of_length_le (by omega), List.drop_eq_nil_of_le (by simp), List.append_nil] at gg
      obtain ⟨o0, o1, o2, o3, rfl⟩ : ∃ a b c d, O1 = [a, b, c, d] := by
        match O1, lo with
        | [a, b, c, d], _ => exact ⟨_, _, _, _, rfl⟩
      have gr := hm2.get HG.out.2.2.1 (by have := HM.out; rw [List.mem_singleton]; omega)
      have oc0 := cell_at gg 0; have oc1 := cell_at gg 1; have oc2 := cell_at gg 2; have oc3 := cell_at gg 3; simp only [wcells_get] at oc0 oc1 oc2 oc3
      have rc0 := cell_at gr 0; have rc1 := cell_at gr 1; have rc2 := cell_at gr 2; have rc3 := cell_at gr 3; simp only [wcells_get] at rc0 rc1 rc2 rc3
      have rf0 := free_at gr 0; have rf1 := free_at gr 1; have rf2 := free_at gr 2; have rf3 := free_at gr 3
      have q := hid (set4_at gr o0 o1 o2 o3)
      have HE := hid (And.intro hm2 (And.intro hk2 hk))
      clear gg gr hm2 he hk2 lo hgk HO lu lv
      go_wp2_with fail
      clear rc0 rc1 rc2 rc3
      clear rf0 rf1 rf2 rf3
      have q2 := q.out
      have rc0 := cell_at q2 0; have rc1 := cell_at q2 1; have rc2 := cell_at q2 2; have rc3 := cell_at q2 3; simp only [wcells_get] at rc0 rc1 rc2 rc3
      have hkd : decide ((0 : Int) < (k : Int)) = (O2 == 1) := by
        obtain ⟨-, e2, hk⟩ := HE.out
        subst e2
        have hk3 : k = 0 ∨ k = 1 := by omega
        rcases hk3 with h | h <;> rw [h] <;> rfl
      have hmm := (HM.out.1.trans' HE.out.1 (fun b hb => .inr (by have := HM.out; rw [List.mem_singleton.1 hb]; omega)))
      exact bodyPost_ret (v := .tuple #[.agg #[.int .u64 (o0 : Int), .int .u64 (o1 : Int), .int .u64 (o2 : Int), .int .u64 (o3 : Int)], .bool (decide ((0 : Int) < (k : Int)))]) (by simp [results, Tryd.results57, go_sem, rc0, rc1, rc2, rc3]) rfl ⟨by rw [hkd], set4_mod HM.out.2.1 hmm _ _ _ _⟩

theorem radd {a b : Nat} (ha : a < NN) (hb : b < NN) (w : World) :
    Calls Tryd.prog 42 #[nv a, nv b] w fun e w' => e = .returned (.tuple #[nv ((a + b) % NN), .bool (decide (NN ≤ a + b))]) ∧ Mod [] w w' := by
  have h := addC_num ha hb
  refine (radd_words (parts a 4) (parts b 4) (parts_len _ _) (parts_len _ _) (parts_small _ _) (parts_small _ _) w).mono ?_
  rintro e w' ⟨rfl, hm⟩
  refine ⟨?_, hm⟩
  rw [h.1, h.2]
  rfl
theorem rsub {a b : Nat} (ha : a < NN) (hb : b < NN) (w : World) :
    Calls Tryd.prog 57 #[nv a, nv b] w fun e w' => e = .returned (.tuple #[nv ((a + NN - b) % NN), .bool (decide (a < b))]) ∧ Mod [] w w' := by
  have h := subC_num ha hb
  refine (rsub_words (parts a 4) (parts b 4) (parts_len _ _) (parts_len _ _) (parts_small _ _) (parts_small _ _) w).mono ?_
  rintro e w' ⟨rfl, hm⟩
  refine ⟨?_, hm⟩
  rw [h.1, h.2]
  rfl
end Go.Proofs.YtdgmnhiffoemmaaDoor
