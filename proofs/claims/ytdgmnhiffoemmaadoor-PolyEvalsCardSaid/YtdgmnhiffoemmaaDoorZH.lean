/-
  The reference's mod.Mul, right, many. No statement of a claim stands here; each contract names what it asks.
-/
import Derived.Test.YtdgmnhiffoemmaaDoorZG
set_option linter.unusedSimpArgs false
namespace Go.Proofs.YtdgmnhiffoemmaaDoor
open Go Go.RowKit Go.ChangeMaps

/-- What the loads read. -/
def SatRM (ta tb tm : Nat) (X Y M : List Nat) (w : World) : Prop := w.heap[ta]? = some (.cells (wcells X) 26) ∧ w.heap[tb]? = some (.cells (wcells Y) 26) ∧ w.heap[tm]? = some (.cells (wcells M) 26)
theorem SatRM.mod {ta tb tm : Nat} {X Y M : List Nat} {w w' : World} (h : SatRM ta tb tm X Y M w) (m : Mod [] w w') : SatRM ta tb tm X Y M w' := ⟨m.get h.1 (by simp), m.get h.2.1 (by simp), m.get h.2.2 (by simp)⟩

set_option maxRecDepth 100000 in
set_option maxHeartbeats 1000000 in
theorem rmmul {a b m : Nat} (ha : a < NN) (hb : b < NN) (hm : m < NN) (h0 : m ≠ 0) (w : World) :
    Calls Tryd.prog 39 #[nv a, nv b, nv m] w fun e w' => e = .returned (.tuple #[nv (a * b % m), .int .i64 0]) ∧ Mod [] w w' := by
  have cm := fun W => rmul ha hb W
  have cr := fun W => rreduce (NN_mul ha hb) hm h0 W
  obtain ⟨x0, x1, x2, x3, hx⟩ := nv_lit a
  obtain ⟨y0, y1, y2, y3, hy⟩ := nv_lit b
  obtain ⟨m0, m1, m2, m3, hml⟩ := nv_lit m
  obtain ⟨r0, r1, r2, r3, hr⟩ := nv_lit (a * b % m)
  obtain ⟨p0, p1, p2, p3, p4, p5, p6, p7, hp⟩ := wdv_lit (a * b)
  rw [hx, hy, hp] at cm
  rw [hp, hml, hr] at cr
  rw [hx, hy, hml, hr]
  have CM := hid cm
  have CR := hid cr
  clear cm cr hx hy hml hr hp ha hb hm h0
  unfold lit4 lit8 at *
  go_enter Tryd.func39, Tryd.ntmps39
  go_upto_region 1 with fail
  refine wp_abs (fun W => W.heap[w.heap.size]? = some (.cells (wcells [x0, x1, x2, x3]) 26) ∧ W.heap[w.heap.size + 1]? = some (.cells (wcells [y0, y1, y2, y3]) 26) ∧ W.heap[w.heap.size + 1 + 1]? = some (.cells (wcells [m0, m1, m2, m3]) 26) ∧ W.heap[w.heap.size + 1 + 1 + 1]? = some (.cells (wcells [0, 0, 0, 0]) 26) ∧ Mod [] w W)
    (four_new w _ _ _ _) ?_
  rintro W ⟨gx, gy, gm, gr, hm⟩
  generalize hta : w.heap.size = ta at *
  generalize htb : ta + 1 = tb at *
  generalize htm : tb + 1 = tm at *
  generalize htr : tm + 1 = tr at *
  have HT : Hid (w.heap.size ≤ tr) := by show w.heap.size ≤ tr; omega
  have hS : SatRM ta tb tm [x0, x1, x2, x3] [y0, y1, y2, y3] [m0, m1, m2, m3] W.drew := ⟨gx, gy, gm⟩
  have HR := hid (And.intro (show W.drew.heap[tr]? = _ from gr) hm.drew)
  clear gx gy gm gr hm hta htb htm htr
  refine wp_region_N (SatRM ta tb tm [x0, x1, x2, x3] [y0, y1, y2, y3] [m0, m1, m2, m3]) (fun i => !(i == 7 || i == 8)) (by kernel_rfl) ?_
  generalize W.drew = wq at *
  have hM := Mod.refl [] wq
  refine regS 0 8 (v := ?_) hS rfl rfl (by kernel_rfl) (by kernel_rfl) (by kernel_rfl) (by kernel_rfl) (fun _ _ _ h => h) (by rfl) (fun w hSw => ?_) ?_; rotate_left; (have qc0 := cell_at hSw.1 0; have qc1 := cell_at hSw.1 1; have qc2 := cell_at hSw.1 2; have qc3 := cell_at hSw.1 3; simp only [wcells_get] at qc0 qc1 qc2 qc3; go_simp; first | done | with_reducible rfl); (try simp only [Act.put, List.setIfInBounds_toArray, List.set_cons_zero, List.set_cons_succ])
  refine regS 1 9 (v := ?_) hS rfl rfl (by kernel_rfl) (by kernel_rfl) (by kernel_rfl) (by kernel_rfl) (fun _ _ _ h => h) (by rfl) (fun w hSw => ?_) ?_; rotate_left; (have qc0 := cell_at hSw.2.1 0; have qc1 := cell_at hSw.2.1 1; have qc2 := cell_at hSw.2.1 2; have qc3 := cell_at hSw.2.1 3; simp only [wcells_get] at qc0 qc1 qc2 qc3; go_simp; first | done | with_reducible rfl); (try simp only [Act.put, List.setIfInBounds_toArray, List.set_cons_zero, List.set_cons_succ])
  refine regS 3 11 (v := ?_) hS rfl rfl (by kernel_rfl) (by kernel_rfl) (by kernel_rfl) (by kernel_rfl) (fun _ _ _ h => h) (by rfl) (fun w hSw => ?_) ?_; rotate_left; (have qc0 := cell_at hSw.2.2 0; have qc1 := cell_at hSw.2.2 1; have qc2 := cell_at hSw.2.2 2; have qc3 := cell_at hSw.2.2 3; simp only [wcells_get] at qc0 qc1 qc2 qc3; go_simp; first | done | with_reducible rfl); (try simp only [Act.put, List.setIfInBounds_toArray, List.set_cons_zero, List.set_cons_succ])
  clear hS
  refine regOnly 2 (by kernel_rfl) rfl (by rfl) (fun K hK => ?_)
  go_wp2_with (go_at_call 55; refine (CM.out _).mono ?_; rintro e w1 ⟨rfl, hm⟩)
  refine hK.out _ _ (fun _ h => h.mod hm) ?_
  clear hK
  (try simp only [Act.put, List.setIfInBounds_toArray, List.set_cons_zero, List.set_cons_succ])
  have hM := hM.trans hm
  clear hm
  refine regOnly 4 (by kernel_rfl) rfl (by rfl) (fun K hK => ?_)
  go_wp2_with (go_at_call 27; refine (CR.out _).mono ?_; rintro e w2 ⟨rfl, hm⟩)
  refine hK.out _ _ (fun _ h => h.mod hm) ?_
  clear hK
  (try simp only [Act.put, List.setIfInBounds_toArray, List.set_cons_zero, List.set_cons_succ])
  have hM := hM.trans hm
  clear hm
  refine regA 5 13 (v := ?_) rfl rfl (by kernel_rfl) (by kernel_rfl) (by kernel_rfl) (fun _ _ _ h => h) (by rfl) (fun w => ?_) ?_; rotate_left; (go_simp; first | done | with_reducible rfl); (try simp only [Act.put, List.setIfInBounds_toArray, List.set_cons_zero, List.set_cons_succ])
  refine regA 6 14 (v := ?_) rfl rfl (by kernel_rfl) (by kernel_rfl) (by kernel_rfl) (fun _ _ _ h => h) (by rfl) (fun w => ?_) ?_; rotate_left; (go_simp; first | done | with_reducible rfl); (try simp only [Act.put, List.setIfInBounds_toArray, List.set_cons_zero, List.set_cons_succ])
  have gr := hM.get HR.out.1 (by simp)
  have nc0 := cell_at gr 0; have nc1 := cell_at gr 1; have nc2 := cell_at gr 2; have nc3 := cell_at gr 3; simp only [wcells_get] at nc0 nc1 nc2 nc3
  have nf0 := free_at gr 0; have nf1 := free_at gr 1; have nf2 := free_at gr 2; have nf3 := free_at gr 3
  have k3 := hid (set4_at gr r0 r1 r2 r3)
  have km := hid (set4_mod (b := tr) HT.out (HR.out.2.trans hM) r0 r1 r2 r3)
  clear gr hM
  refine regOnly 7 (by kernel_rfl) rfl (by rfl) (fun K hK => ?_)
  go_wp2_with fail
  refine hK.out _ _ (fun h _ => absurd h (by decide)) ?_
  clear hK
  (try simp only [Act.put, List.setIfInBounds_toArray, List.set_cons_zero, List.set_cons_succ])
  clear nc0 nc1 nc2 nc3
  clear nf0 nf1 nf2 nf3
  refine regA 8 7 (v := ?_) rfl rfl (by kernel_rfl) (by kernel_rfl) (by kernel_rfl) (fun _ _ _ h => h) (by rfl) (fun w => ?_) ?_; rotate_left; (go_simp; first | done | with_reducible rfl); (try simp only [Act.put, List.setIfInBounds_toArray, List.set_cons_zero, List.set_cons_succ])
  refine regAbs (fun W9 => W9.heap[tr]? = some (.cells (wcells [r0, r1, r2, r3]) 26) ∧ Mod [] w W9) ⟨k3.out, km.out⟩ ?_
  clear k3 km
  rintro W9 ⟨g9, hm9⟩
  have zc0 := cell_at g9 0; have zc1 := cell_at g9 1; have zc2 := cell_at g9 2; have zc3 := cell_at g9 3; simp only [wcells_get] at zc0 zc1 zc2 zc3
  have HF := hid hm9
  clear g9 hm9
  refine regDone (by kernel_rfl) ?_ _
  go_wp2_with fail
  exact bodyPost_ret (v := .tuple #[.agg #[.int .u64 (r0 : Int), .int .u64 (r1 : Int), .int .u64 (r2 : Int), .int .u64 (r3 : Int)], .int .i64 0]) (by simp [results, Tryd.results39, go_sem, zc0, zc1, zc2, zc3]) rfl ⟨rfl, HF.out⟩

set_option maxRecDepth 100000 in
theorem rright {q : Nat} (hq : q < NN) (w : World) :
    Calls Tryd.prog 37 #[nv q] w fun e w' => e = .returned (.bool (decide (2 ≤ q))) ∧ Mod [] w w' := by
  have h2N : 2 < NN := Nat.lt_trans (by unfold BB; decide : 2 < BB) BB_NN
  obtain ⟨c, hc, hcd⟩ : ∃ c : Int, (if q < 2 then (-1 : Int) else if 2 < q then 1 else 0) = c ∧ decide (0 ≤ c) = decide (2 ≤ q) := ⟨_, rfl, by
    by_cases h : q < 2
    · rw [if_pos h, decide_eq_false (by omega), decide_eq_false (by omega)]
    · rw [if_neg h]
      by_cases h3 : 2 < q
      · rw [if_pos h3, decide_eq_true (by omega), decide_eq_true (by omega)]
      · rw [if_neg h3, decide_eq_true (by omega), decide_eq_true (by omega)]⟩
  have cc := fun W => rcmp hq h2N W
  rw [hc, nv_small (x := 2) (by unfold BB; decide)] at cc
  obtain ⟨z0, z1, z2, z3, hz⟩ := nv_lit q
  rw [hz] at cc
  rw [hz, ← hcd]
  have CC : Hid (∀ W : World, Calls Tryd.prog 54 #[lit4 z0 z1 z2 z3, .agg #[.int .u64 2, .int .u64 0, .int .u64 0, .int .u64 0]] W fun e w' => e = .returned (.int .i64 c) ∧ Mod [] W w') := cc
  clear cc hz hc hcd hq h2N
  unfold lit4 at *
  go_enter Tryd.func37, Tryd.ntmps37
  go_wp2_with (go_at_call 54; refine (CC.out _).mono ?_; rintro e w1 ⟨rfl, hm⟩; have HM := hid (((Mod.refl [] w).alloc _).trans hm); clear hm)
  exact bodyPost_ret (v := .bool (decide (0 ≤ c))) (by simp [results, Tryd.results37, go_sem]) rfl ⟨rfl, HM.out⟩
theorem rmany (n : Nat) (hn : n ≤ maxLen) (w : World) :
    Calls Tryd.prog 38 #[.int .i64 n] w fun e w' => e = .returned (.bool (decide (1 ≤ n ∧ n ≤ 256))) ∧ w' = w := by
  by_cases h1 : 1 ≤ n
  · have e1 : (1 : Int) ≤ (n : Int) := by omega
    by_cases h2 : n ≤ 256
    · have e2 : (n : Int) ≤ 256 := by omega
      rw [decide_eq_true (And.intro h1 h2)]
      clear hn
      go_enter Tryd.func38, Tryd.ntmps38
      go_wp2_with fail
      exact bodyPost_ret (v := .bool true) (by simp [results, Tryd.results38, go_sem]) rfl ⟨rfl, rfl⟩
    · have e2 : ¬ (n : Int) ≤ 256 := by omega
      rw [decide_eq_false (by omega)]
      clear hn
      go_enter Tryd.func38, Tryd.ntmps38
      go_wp2_with fail
      exact bodyPost_ret (v := .bool false) (by simp [results, Tryd.results38, go_sem]) rfl ⟨rfl, rfl⟩
  · have e1 : ¬ (1 : Int) ≤ (n : Int) := by omega
    rw [decide_eq_false (by omega)]
    obtain rfl : n = 0 := by omega
    clear hn
    go_enter Tryd.func38, Tryd.ntmps38
    go_wp2_with fail
    exact bodyPost_ret (v := .bool false) (by simp [results, Tryd.results38, go_sem]) rfl ⟨rfl, rfl⟩
end Go.Proofs.YtdgmnhiffoemmaaDoor
