/-
  The reference's Widen and Reduce. No statement of a claim stands here; each contract names what it asks.
-/
import Derived.Test.YtdgmnhiffoemmaaDoorZ7
set_option linter.unusedSimpArgs false
namespace Go.Proofs.YtdgmnhiffoemmaaDoor
open Go Go.RowKit Go.ChangeMaps

theorem dig_small : ∀ {l : List Nat}, Small l → ∀ d ∈ dig l, d < HB
  | [], _, d, h => by simp [dig] at h
  | x :: l, hs, d, h => by
    have hx := hs x (.head _)
    simp only [dig, List.mem_cons] at h
    rcases h with rfl | rfl | h
    · exact Nat.mod_lt _ (by decide)
    · unfold BB at hx
      unfold HB
      omega
    · exact dig_small (fun y hy => hs y (.tail _ hy)) d h
theorem dig_zeros : ∀ k : Nat, dig (List.replicate k 0) = List.replicate (2 * k) 0
  | 0 => rfl
  | k + 1 => by
    rw [List.replicate_succ, dig, dig_zeros k, show 2 * (k + 1) = 2 * k + 1 + 1 by omega, List.replicate_succ, List.replicate_succ]
    rfl

theorem Us.noughts {B : Nat} {w : World} {g cap : Nat} {D : List Nat} (h : Us B w (.slice (some ⟨g, 0, none⟩) D.length cap) D) (hB : B ≤ w.heap.size) (m : Nat) (hm : m ≤ 100) (hm0 : 0 < m) (hD : D.length ≤ 5000) :
    ∃ v' w', (Builtin.append_ #[81, 3] 81 #[.slice (some ⟨g, 0, none⟩) D.length cap, .int .i64 (m : Int)]).run Tryd.prog w = .ok v' w' ∧ Us B w' v' (D ++ List.replicate m 0) ∧ Mod [g] w w' := by
  have hI : (Tryd.prog.info? 24).map (fun i => (i.zero, i.size, i.bytes)) = some (some (.int .u64 0), 1, 8) := by kernel_rfl
  cases hi : Tryd.prog.info? 24 with
  | none => rw [hi] at hI; cases hI
  | some i =>
    rw [hi] at hI
    simp only [Option.map_some, Option.some.injEq, Prod.mk.injEq] at hI
    obtain ⟨v', w', hr, ho, hm, hk⟩ := append_noughts w 81 3 81 24 i (.int .u64 0) (.int .u64 0) .i64 Tryd.underlying81 Tryd.underlying3 hi hI.1 hI.2.1 hI.2.2 rfl rfl g D.length cap m (D.flatMap encU) h.row hm hD hm0
    refine ⟨v', w', hr, ⟨?_, fun k hkk => ?_⟩, hm⟩
    · rw [List.flatMap_append, List.length_append, List.length_replicate, show (List.replicate m 0).flatMap encU = List.replicate m (Value.int .u64 0) by rw [flatU, List.map_replicate]; rfl]
      exact ho
    · rcases hk k hkk with h1 | h1
      · rw [h1]; exact h.own g rfl
      · omega

set_option maxRecDepth 100000 in
theorem rwiden {a : Nat} (ha : a < NN) (w : World) : Calls Tryd.prog 28 #[nv a] w fun e w' => e = .returned (wdv a) ∧ Mod [] w w' := by
  obtain ⟨u0, u1, u2, u3, hu, pu⟩ := nv_words a
  have hs : Small [u0, u1, u2, u3] := by rw [← pu]; exact parts_small _ _
  have hv : val [u0, u1, u2, u3] = a := by rw [← pu]; exact parts_num ha
  have h8 : Small ([u0, u1, u2, u3] ++ List.replicate 4 0) := hs.append (Small.zeros 4)
  have h9 : val ([u0, u1, u2, u3] ++ List.replicate 4 0) = a := by rw [val_append, val_zeros, Nat.mul_zero, Nat.add_zero, hv]
  have hp := parts_of h8 (k := 8) rfl h9
  have hdz : dig [u0, u1, u2, u3] ++ List.replicate 8 0 = dig ([u0, u1, u2, u3] ++ List.replicate 4 0) := by rw [dig_append, dig_zeros]
  have hcomb : comb (dig [u0, u1, u2, u3] ++ List.replicate 8 0) = parts a 8 := by rw [hdz, comb_dig, hp]
  have hsm : ∀ d ∈ dig [u0, u1, u2, u3] ++ List.replicate 8 0, d < HB := by rw [hdz]; exact dig_small h8
  have HC := hid (And.intro hcomb (And.intro hsm hs))
  unfold wdv
  rw [hu, ← hcomb, wv_lit]
  obtain ⟨R, hR⟩ : ∃ R, wv (comb (dig [u0, u1, u2, u3] ++ List.replicate 8 0)) = R := ⟨_, rfl⟩
  rw [hR]
  obtain ⟨q0, q1, q2, q3, q4, q5, q6, q7, hq⟩ := wdv_lit a
  unfold wdv at hq
  rw [← hcomb, hR] at hq
  subst hq
  have HR := hid hR
  clear hR hu pu hs hv h8 h9 hp hdz hcomb hsm ha
  unfold lit4 lit8 at *
  go_enter Tryd.func28, Tryd.ntmps28
  go_upto_region 1 with fail
  refine wp_abs (fun W => W.heap[w.heap.size]? = some (.cells (wcells [u0, u1, u2, u3]) 26) ∧ W.heap[w.heap.size + 1]? = some (.cells (wcells [0, 0, 0, 0, 0, 0, 0, 0]) 60) ∧ Mod [] w W)
    ⟨get_alloc (get_new w _) _, two_b w _ _, ((Mod.refl _ _).alloc _).alloc _⟩ ?_
  rintro W ⟨gu, gr, hm⟩
  generalize hta : w.heap.size = ta at *
  generalize htr : ta + 1 = tr at *
  have HM : Hid (Mod [] w W ∧ w.heap.size ≤ tr ∧ ta < tr) := ⟨hm, by omega, by omega⟩
  have CD := hid (rdigits [u0, u1, u2, u3] (by simp) HC.out.2.2 ta 4 _ _ W gu)
  have HG := hid gr
  clear hm gu gr hta htr
  go_wp2_with (first
    | (go_at_call 45; refine CD.out.mono ?_; rintro e w1 ⟨⟨v1, hv1, rfl⟩, hm1⟩; obtain ⟨g1, c1, cur1, e1, -, -, -, -⟩ := RowOf.at hv1 encU_len (by simp [dig]); subst e1; have happ := Us.noughts hv1 hm1.size 8 (by omega) (by omega) (by simp [dig]); have HA := hid (And.intro happ (And.intro hm1 hv1)); clear happ hm1 hv1)
    | (at_builtin; refine wpList_app_run2 rfl _ _ 81 3 rfl _ _ rfl rfl _ HA.out.1 ?_; rintro v2 w2 ⟨hv2, hm2⟩; have CW := hid (rwide _ (by simp [dig]) HC.out.2.1 v2 w2 hv2); have H2 := hid (HA.out.2.1.trans' hm2 (fun b hb => .inr (by rw [List.mem_singleton.1 hb]; exact HA.out.2.2.own _ rfl))); clear hv2 hm2)
    | (go_at_call 44; refine CW.out.mono ?_; rintro e w3 ⟨rfl, hm3⟩; have H3 := hid (H2.out.trans hm3); clear hm3; rw [HR.out]; have g3 := H3.out.get HG.out (by simp); have rc0 := cell_at g3 0; have rc1 := cell_at g3 1; have rc2 := cell_at g3 2; have rc3 := cell_at g3 3; have rc4 := cell_at g3 4; have rc5 := cell_at g3 5; have rc6 := cell_at g3 6; have rc7 := cell_at g3 7; simp only [wcells_get] at rc0 rc1 rc2 rc3 rc4 rc5 rc6 rc7; have rf0 := free_at g3 0; have rf1 := free_at g3 1; have rf2 := free_at g3 2; have rf3 := free_at g3 3; have rf4 := free_at g3 4; have rf5 := free_at g3 5; have rf6 := free_at g3 6; have rf7 := free_at g3 7; have HG3 := hid g3; clear g3))
  have qq := set8_at HG3.out q0 q1 q2 q3 q4 q5 q6 q7
  clear rc0 rc1 rc2 rc3 rc4 rc5 rc6 rc7
  clear rf0 rf1 rf2 rf3 rf4 rf5 rf6 rf7
  have rc0 := cell_at qq 0; have rc1 := cell_at qq 1; have rc2 := cell_at qq 2; have rc3 := cell_at qq 3; have rc4 := cell_at qq 4; have rc5 := cell_at qq 5; have rc6 := cell_at qq 6; have rc7 := cell_at qq 7; simp only [wcells_get] at rc0 rc1 rc2 rc3 rc4 rc5 rc6 rc7
  exact bodyPost_ret (v := .agg #[.int .u64 (q0 : Int), .int .u64 (q1 : Int), .int .u64 (q2 : Int), .int .u64 (q3 : Int), .int .u64 (q4 : Int), .int .u64 (q5 : Int), .int .u64 (q6 : Int), .int .u64 (q7 : Int)]) (by simp [results, Tryd.results28, go_sem, rc0, rc1, rc2, rc3, rc4, rc5, rc6, rc7]) rfl ⟨rfl, set8_mod (b := tr) HM.out.2.1 (HM.out.1.trans H3.out) q0 q1 q2 q3 q4 q5 q6 q7⟩

set_option maxRecDepth 100000 in
theorem rreduce {a m : Nat} (ha : a < WW) (hm : m < NN) (h0 : m ≠ 0) (w : World) :
    Calls Tryd.prog 27 #[wdv a, nv m] w fun e w' => e = .returned (.tuple #[nv (a % m), .int .i64 0]) ∧ Mod [] w w' := by
  have c := fun W => rdiv ha hm h0 W
  obtain ⟨x0, x1, x2, x3, x4, x5, x6, x7, hx⟩ := wdv_lit a
  obtain ⟨q0, q1, q2, q3, q4, q5, q6, q7, hq⟩ := wdv_lit (a / m)
  obtain ⟨y0, y1, y2, y3, hy⟩ := nv_lit m
  obtain ⟨r0, r1, r2, r3, hr⟩ := nv_lit (a % m)
  rw [hx, hy, hq, hr] at c
  rw [hx, hy, hr]
  clear hx hy hq hr ha hm h0
  unfold lit8 lit4 at *
  have C := hid c
  clear c
  go_enter Tryd.func27, Tryd.ntmps27
  go_upto_region 2 with (go_at_call 43; refine (C.out _).mono ?_; rintro e w' ⟨rfl, hm⟩; have hg : w'.heap[w.heap.size + 1 + 1]? = some (.cells (wcells [0, 0, 0, 0]) 26) := hm.get (three_c w _ _ _) (by simp); have HG := hid (And.intro hg ((((Mod.refl [] w).alloc _).alloc _).alloc _ |>.trans hm)); clear hg hm)
  refine wp_abs (fun W => W.heap[w.heap.size + 1 + 1]? = some (.cells (wcells [0, 0, 0, 0]) 26) ∧ W.heap[w'.heap.size + 1]? = some (.cells (wcells [r0, r1, r2, r3]) 26) ∧ Mod [] w W)
    ⟨get_alloc (get_alloc HG.out.1 _) _, two_b w' _ _, (HG.out.2.alloc _).alloc _⟩ ?_
  rintro W ⟨hg, h7, hm⟩
  generalize w'.heap.size + 1 = t7 at *
  generalize ht : w.heap.size + 1 + 1 = tr at *
  have kc0 := cell_at hg 0; have kc1 := cell_at hg 1; have kc2 := cell_at hg 2; have kc3 := cell_at hg 3; simp only [wcells_get] at kc0 kc1 kc2 kc3
  have kf0 := free_at hg 0; have kf1 := free_at hg 1; have kf2 := free_at hg 2; have kf3 := free_at hg 3
  have dc0 := cell_at h7 0; have dc1 := cell_at h7 1; have dc2 := cell_at h7 2; have dc3 := cell_at h7 3; simp only [wcells_get] at dc0 dc1 dc2 dc3
  have HM := hid (And.intro hm (And.intro hg ht))
  clear hm hg h7 ht HG C
  go_wp2_with fail
  obtain ⟨hm, hg, ht⟩ := HM.out
  have q := set4_at hg r0 r1 r2 r3
  clear kc0 kc1 kc2 kc3
  clear kf0 kf1 kf2 kf3
  have kc0 := cell_at q 0; have kc1 := cell_at q 1; have kc2 := cell_at q 2; have kc3 := cell_at q 3; simp only [wcells_get] at kc0 kc1 kc2 kc3
  refine bodyPost_ret (v := .tuple #[.agg #[.int .u64 (r0 : Int), .int .u64 (r1 : Int), .int .u64 (r2 : Int), .int .u64 (r3 : Int)], .int .i64 0]) ?_ rfl ⟨rfl, ?_⟩
  · simp [results, Tryd.results27, go_sem, kc0, kc1, kc2, kc3]
  · have hl : w.heap.size ≤ tr := by omega
    exact (((hm.setCell (.inr hl) _).setCell (.inr hl) _).setCell (.inr hl) _).setCell (.inr hl) _
end Go.Proofs.YtdgmnhiffoemmaaDoor
