/-
  the chapter's example: works. No statement of a claim stands here; each contract names what it asks.
-/
import Derived.Test.YtdgmnhiffoemmaaDoorYS0
import Derived.Test.YtdgmnhiffoemmaaDoorGA
set_option linter.unusedSimpArgs false
namespace Go.Proofs.YtdgmnhiffoemmaaDoor
open Go Go.RowKit Go.ChangeMaps

/-- What the example's last loads read. -/
def SatW (b3 t7 g5 : Nat) (w : World) : Prop := w.heap[b3]? = some (.cells (wcells [0, 0, 0, 0]) 26) ∧ w.heap[t7]? = some (.cells (wcells [3, 0, 0, 0]) 26) ∧
  (w.cell? ⟨g5, 4, none⟩ = some (.int .u64 5) ∧ w.cell? ⟨g5, 5, none⟩ = some (.int .u64 0) ∧ w.cell? ⟨g5, 6, none⟩ = some (.int .u64 0) ∧ w.cell? ⟨g5, 7, none⟩ = some (.int .u64 0)) ∧
  (w.cell? ⟨g5, 12, none⟩ = some (.int .u64 7) ∧ w.cell? ⟨g5, 13, none⟩ = some (.int .u64 0) ∧ w.cell? ⟨g5, 14, none⟩ = some (.int .u64 0) ∧ w.cell? ⟨g5, 15, none⟩ = some (.int .u64 0))
theorem SatW.mod {b3 t7 g5 : Nat} {w w' : World} (h : SatW b3 t7 g5 w) (m : Mod [] w w') : SatW b3 t7 g5 w' := by
  obtain ⟨h1, h2, ⟨a1, a2, a3, a4⟩, ⟨c1, c2, c3, c4⟩⟩ := h
  exact ⟨m.get h1 (by simp), m.get h2 (by simp), ⟨m.cell a1 (by simp), m.cell a2 (by simp), m.cell a3 (by simp), m.cell a4 (by simp)⟩, ⟨m.cell c1 (by simp), m.cell c2 (by simp), m.cell c3 (by simp), m.cell c4 (by simp)⟩⟩
theorem q_same (x : Nat) (hx : x < 1000000) (w : World) : (Op.equalIn 10000 26 (one4 (x : Int)) (one4 (x : Int))).run Tryd.prog w = .ok true w := by
  rw [← nv_one4 (BB_big hx), equalIn_nv (NN_big hx) (NN_big hx), decide_eq_true rfl]

set_option maxRecDepth 100000 in
set_option maxHeartbeats 8000000 in
theorem works_any (w : World) : Calls Tryd.prog 8 #[] w fun e w' => e = .returned (.bool true) ∧ Mod [] w w' := by
  have cn := fun (x : Nat) (hx : x < 1000000) W => w_nat x hx W
  have C11 : Hid (∀ W : World, _) := cn 11 (by decide)
  have C3 : Hid (∀ W : World, _) := cn 3 (by decide)
  have C2 : Hid (∀ W : World, _) := cn 2 (by decide)
  have CN4 : Hid (∀ W : World, _) := cn 4 (by decide)
  have C5 : Hid (∀ W : World, _) := cn 5 (by decide)
  have C7 : Hid (∀ W : World, _) := cn 7 (by decide)
  have CE : Hid (∀ (g : Nat) (W : World) (h : NatRow W g [3, 2]), _) := fun g W h => w_eval g W h
  have CPT : Hid (∀ (g gx : Nat) (W : World) (h : NatRow W g [3, 2]) (hx : IntRow W gx [1, 2]), _) := fun g gx W h hx => w_points g gx W h hx
  have CCB : Hid (∀ (g c : Nat) (W : World) (h : PtRow W g [(1, 5), (2, 7)]), _) := fun g c W h => w_combine g c W h
  unfold one4 at *
  clear cn
  go_enter Tryd.func8, Tryd.ntmps8
  go_upto_region 2 with (first
    | (go_at_call 16; refine (C11.out _).mono ?_; rintro e w1 ⟨rfl, hm1⟩; have H1 := hid hm1; clear hm1)
    | (go_at_call 16; refine (C3.out _).mono ?_; rintro e w2 ⟨rfl, hm1⟩; have H2 := hid (H1.out.trans hm1); clear hm1)
    | (go_at_call 16; refine (C2.out _).mono ?_; rintro e w3 ⟨rfl, hm1⟩; have H3 := hid (H2.out.trans hm1); clear hm1))
  refine wp_abs (fun W => W.heap[w3.heap.size]? = some (.cells #[.int .u64 3, .int .u64 0, .int .u64 0, .int .u64 0, .int .u64 2, .int .u64 0, .int .u64 0, .int .u64 0] 26) ∧ W.heap[w3.heap.size + 1]? = some (.cells (wcells [11, 0, 0, 0]) 26) ∧ Mod [] w W) ⟨get_alloc (get_new _ _) _, two_b _ _ _, (H3.out.alloc _).alloc _⟩ ?_
  generalize hg : w3.heap.size = g at *
  generalize ht1 : g + 1 = t1 at *
  rintro W ⟨gr, g1, hm0⟩
  have HROW0 := hid (row32 gr)
  have HB := hid (And.intro g1 hm0)
  clear gr g1 hm0 H1 H2 H3 hg ht1
  have hS : W.drew.heap[t1]? = some (.cells (wcells [11, 0, 0, 0]) 26) := HB.out.1
  have hmw : Mod [] W W.drew := (Mod.refl _ _).drew
  have HROW := hid (HROW0.out.mod hmw (by simp))
  refine wp_region_N (fun w' : World => w'.heap[t1]? = some (.cells (wcells [11, 0, 0, 0]) 26)) (fun i => !(i == 8 || i == 9)) (by kernel_rfl) ?_
  generalize W.drew = wq at *
  have HS := hid hS
  have HMW := hid hmw
  clear hS hmw
  apply merge1 (R := fun b3 W9 => W9.heap[b3]? = some (.cells (wcells [0, 0, 0, 0]) 26) ∧ Mod [] wq W9)
  · intro key
    have KEY := hid key
    clear key
    have hS := HS.out
    refine regS 0 14 (v := ?_) hS rfl rfl (by kernel_rfl) (by kernel_rfl) (by kernel_rfl) (by kernel_rfl) (fun _ _ _ h => h) (by rfl) (fun w hSw => ?_) ?_; rotate_left; (have qc0 := cell_at hSw 0; have qc1 := cell_at hSw 1; have qc2 := cell_at hSw 2; have qc3 := cell_at hSw 3; simp only [wcells_get] at qc0 qc1 qc2 qc3; go_simp; first | done | with_reducible rfl); (try simp only [Act.put, List.setIfInBounds_toArray, List.set_cons_zero, List.set_cons_succ])
    refine regA 1 15 (v := ?_) rfl rfl (by kernel_rfl) (by kernel_rfl) (by kernel_rfl) (fun _ _ _ h => h) (by rfl) (fun w => ?_) ?_; rotate_left; (go_simp; first | done | with_reducible rfl); (try simp only [Act.put, List.setIfInBounds_toArray, List.set_cons_zero, List.set_cons_succ])
    clear hS
    have hM := Mod.refl [] wq
    refine regTwo 2 7 (by kernel_rfl) rfl (by rfl) rfl (by rfl) (fun K hK => ?_) (fun K hK => ?_)
    · go_wp2_with (go_at_call 16; refine (CN4.out _).mono ?_; rintro e wq1 ⟨rfl, hm⟩)
      refine hK.out _ _ (fun _ h => hm.get h (by simp)) ?_
      clear hK
      (try simp only [Act.put, List.setIfInBounds_toArray, List.set_cons_zero, List.set_cons_succ])
      have hM := hM.trans hm
      clear hm
      refine regTwo 3 7 (by kernel_rfl) rfl (by rfl) rfl (by rfl) (fun K hK => ?_) (fun K hK => ?_)
      · go_wp2_with (go_at_call 14; refine (CE.out _ _ (HROW.out.mod hM (by simp))).mono ?_; rintro e wq2 ⟨rfl, hm⟩)
        refine hK.out _ _ (fun _ h => hm.get h (by simp)) ?_
        clear hK
        (try simp only [Act.put, List.setIfInBounds_toArray, List.set_cons_zero, List.set_cons_succ])
        have hM := hM.trans hm
        clear hm
        refine regA 4 13 (v := ?_) rfl rfl (by kernel_rfl) (by kernel_rfl) (by kernel_rfl) (fun _ _ _ h => h) (by rfl) (fun w => ?_) ?_; rotate_left; (go_simp; first | done | with_reducible rfl); (try simp only [Act.put, List.setIfInBounds_toArray, List.set_cons_zero, List.set_cons_succ])
        refine regA 5 18 (v := ?_) rfl rfl (by kernel_rfl) (by kernel_rfl) (by kernel_rfl) (fun _ _ _ h => h) (by rfl) (fun w => ?_) ?_; rotate_left; (go_simp; first | done | with_reducible rfl); (try simp only [Act.put, List.setIfInBounds_toArray, List.set_cons_zero, List.set_cons_succ])
        refine regA 6 19 (v := ?_) rfl rfl (by kernel_rfl) (by kernel_rfl) (by kernel_rfl) (fun _ _ _ h => h) (by rfl) (fun w => ?_) ?_; rotate_left; (go_simp; first | done | with_reducible rfl); (try simp only [Act.put, List.setIfInBounds_toArray, List.set_cons_zero, List.set_cons_succ])
        refine regOnly 7 (by kernel_rfl) rfl (by rfl) (fun K hK => ?_)
        go_wp2_with fail
        refine hK.out _ _ (fun _ h => get_alloc h _) ?_
        clear hK
        (try simp only [Act.put, List.setIfInBounds_toArray, List.set_cons_zero, List.set_cons_succ])
        have gb3 : (wq2.alloc (.cells #[.int .u64 0, .int .u64 0, .int .u64 0, .int .u64 0] 26 (0, 0))).heap[wq2.heap.size]? = some (.cells (wcells [0, 0, 0, 0]) 26) := get_new wq2 _
        obtain ⟨b3, hb3⟩ : ∃ b, wq2.heap.size = b := ⟨_, rfl⟩
        have lb3 : wq.heap.size ≤ b3 := by rw [← hb3]; exact hM.size
        rw [hb3] at gb3 ⊢
        have hM : Mod [] wq (wq2.alloc (.cells #[.int .u64 0, .int .u64 0, .int .u64 0, .int .u64 0] 26 (0, 0))) := hM.alloc _
        generalize wq2.alloc (.cells #[.int .u64 0, .int .u64 0, .int .u64 0, .int .u64 0] 26 (0, 0)) = wq3 at *
        have nc0 := cell_at gb3 0; have nc1 := cell_at gb3 1; have nc2 := cell_at gb3 2; have nc3 := cell_at gb3 3; simp only [wcells_get] at nc0 nc1 nc2 nc3
        have nf0 := free_at gb3 0; have nf1 := free_at gb3 1; have nf2 := free_at gb3 2; have nf3 := free_at gb3 3
        have k3 := hid (set4_at gb3 0 0 0 0)
        have hM9 := hid (set4_mod lb3 hM 0 0 0 0)
        clear gb3 hM
        refine regOnly 8 (by kernel_rfl) rfl (by rfl) (fun K hK => ?_)
        go_wp2_with fail
        refine hK.out _ _ (fun h _ => absurd h (by decide)) ?_
        clear hK
        (try simp only [Act.put, List.setIfInBounds_toArray, List.set_cons_zero, List.set_cons_succ])
        clear nc0 nc1 nc2 nc3
        clear nf0 nf1 nf2 nf3
        refine regA 9 4 (v := ?_) rfl rfl (by kernel_rfl) (by kernel_rfl) (by kernel_rfl) (fun _ _ _ h => h) (by rfl) (fun w => ?_) ?_; rotate_left; (go_simp; first | done | with_reducible rfl); (try simp only [Act.put, List.setIfInBounds_toArray, List.set_cons_zero, List.set_cons_succ])
        refine regAbs (fun W9 => W9.heap[b3]? = some (.cells (wcells [0, 0, 0, 0]) 26) ∧ Mod [] wq W9) ⟨k3.out, hM9.out⟩ ?_
        rintro W10 hR
        refine regDone (by kernel_rfl) ?_ _
        exact KEY.out b3 W10 hR
      · go_wp2_with fail
        refine hK.out _ _ (fun _ h => get_alloc h _) ?_
        clear hK
        (try simp only [Act.put, List.setIfInBounds_toArray, List.set_cons_zero, List.set_cons_succ])
        have gb3 : (wq1.alloc (.cells #[.int .u64 0, .int .u64 0, .int .u64 0, .int .u64 0] 26 (0, 0))).heap[wq1.heap.size]? = some (.cells (wcells [0, 0, 0, 0]) 26) := get_new wq1 _
        obtain ⟨b3, hb3⟩ : ∃ b, wq1.heap.size = b := ⟨_, rfl⟩
        have lb3 : wq.heap.size ≤ b3 := by rw [← hb3]; exact hM.size
        rw [hb3] at gb3 ⊢
        have hM : Mod [] wq (wq1.alloc (.cells #[.int .u64 0, .int .u64 0, .int .u64 0, .int .u64 0] 26 (0, 0))) := hM.alloc _
        generalize wq1.alloc (.cells #[.int .u64 0, .int .u64 0, .int .u64 0, .int .u64 0] 26 (0, 0)) = wq2 at *
        refine regOnly 3 (by kernel_rfl) rfl (by rfl) (fun K hK => ?_)
        go_wp2_with (go_at_call 14; refine (CE.out _ _ (HROW.out.mod hM (by simp))).mono ?_; rintro e wq3 ⟨rfl, hm⟩)
        refine hK.out _ _ (fun _ h => hm.get h (by simp)) ?_
        clear hK
        (try simp only [Act.put, List.setIfInBounds_toArray, List.set_cons_zero, List.set_cons_succ])
        have gb3 := hm.get gb3 (by simp)
        have hM := hM.trans hm
        clear hm
        refine regA 4 13 (v := ?_) rfl rfl (by kernel_rfl) (by kernel_rfl) (by kernel_rfl) (fun _ _ _ h => h) (by rfl) (fun w => ?_) ?_; rotate_left; (go_simp; first | done | with_reducible rfl); (try simp only [Act.put, List.setIfInBounds_toArray, List.set_cons_zero, List.set_cons_succ])
        refine regA 5 18 (v := ?_) rfl rfl (by kernel_rfl) (by kernel_rfl) (by kernel_rfl) (fun _ _ _ h => h) (by rfl) (fun w => ?_) ?_; rotate_left; (go_simp; first | done | with_reducible rfl); (try simp only [Act.put, List.setIfInBounds_toArray, List.set_cons_zero, List.set_cons_succ])
        refine regA 6 19 (v := ?_) rfl rfl (by kernel_rfl) (by kernel_rfl) (by kernel_rfl) (fun _ _ _ h => h) (by rfl) (fun w => ?_) ?_; rotate_left; (go_simp; first | done | with_reducible rfl); (try simp only [Act.put, List.setIfInBounds_toArray, List.set_cons_zero, List.set_cons_succ])
        have nc0 := cell_at gb3 0; have nc1 := cell_at gb3 1; have nc2 := cell_at gb3 2; have nc3 := cell_at gb3 3; simp only [wcells_get] at nc0 nc1 nc2 nc3
        have nf0 := free_at gb3 0; have nf1 := free_at gb3 1; have nf2 := free_at gb3 2; have nf3 := free_at gb3 3
        have k3 := hid (set4_at gb3 0 0 0 0)
        have hM9 := hid (set4_mod lb3 hM 0 0 0 0)
        clear gb3 hM
        refine regOnly 8 (by kernel_rfl) rfl (by rfl) (fun K hK => ?_)
        go_wp2_with fail
        refine hK.out _ _ (fun h _ => absurd h (by decide)) ?_
        clear hK
        (try simp only [Act.put, List.setIfInBounds_toArray, List.set_cons_zero, List.set_cons_succ])
        clear nc0 nc1 nc2 nc3
        clear nf0 nf1 nf2 nf3
        refine regA 9 4 (v := ?_) rfl rfl (by kernel_rfl) (by kernel_rfl) (by kernel_rfl) (fun _ _ _ h => h) (by rfl) (fun w => ?_) ?_; rotate_left; (go_simp; first | done | with_reducible rfl); (try simp only [Act.put, List.setIfInBounds_toArray, List.set_cons_zero, List.set_cons_succ])
        refine regAbs (fun W9 => W9.heap[b3]? = some (.cells (wcells [0, 0, 0, 0]) 26) ∧ Mod [] wq W9) ⟨k3.out, hM9.out⟩ ?_
        rintro W10 hR
        refine regDone (by kernel_rfl) ?_ _
        exact KEY.out b3 W10 hR
    · go_wp2_with fail
      refine hK.out _ _ (fun _ h => get_alloc h _) ?_
      clear hK
      (try simp only [Act.put, List.setIfInBounds_toArray, List.set_cons_zero, List.set_cons_succ])
      have gb3 : (wq.alloc (.cells #[.int .u64 0, .int .u64 0, .int .u64 0, .int .u64 0] 26 (0, 0))).heap[wq.heap.size]? = some (.cells (wcells [0, 0, 0, 0]) 26) := get_new wq _
      obtain ⟨b3, hb3⟩ : ∃ b, wq.heap.size = b := ⟨_, rfl⟩
      have lb3 : wq.heap.size ≤ b3 := by rw [← hb3]; exact hM.size
      rw [hb3] at gb3 ⊢
      have hM : Mod [] wq (wq.alloc (.cells #[.int .u64 0, .int .u64 0, .int .u64 0, .int .u64 0] 26 (0, 0))) := hM.alloc _
      generalize wq.alloc (.cells #[.int .u64 0, .int .u64 0, .int .u64 0, .int .u64 0] 26 (0, 0)) = wq1 at *
      refine regOnly 2 (by kernel_rfl) rfl (by rfl) (fun K hK => ?_)
      go_wp2_with (go_at_call 16; refine (CN4.out _).mono ?_; rintro e wq2 ⟨rfl, hm⟩)
      refine hK.out _ _ (fun _ h => hm.get h (by simp)) ?_
      clear hK
      (try simp only [Act.put, List.setIfInBounds_toArray, List.set_cons_zero, List.set_cons_succ])
      have gb3 := hm.get gb3 (by simp)
      have hM := hM.trans hm
      clear hm
      refine regOnly 3 (by kernel_rfl) rfl (by rfl) (fun K hK => ?_)
      go_wp2_with (go_at_call 14; refine (CE.out _ _ (HROW.out.mod hM (by simp))).mono ?_; rintro e wq3 ⟨rfl, hm⟩)
      refine hK.out _ _ (fun _ h => hm.get h (by simp)) ?_
      clear hK
      (try simp only [Act.put, List.setIfInBounds_toArray, List.set_cons_zero, List.set_cons_succ])
      have gb3 := hm.get gb3 (by simp)
      have hM := hM.trans hm
      clear hm
      refine regA 4 13 (v := ?_) rfl rfl (by kernel_rfl) (by kernel_rfl) (by kernel_rfl) (fun _ _ _ h => h) (by rfl) (fun w => ?_) ?_; rotate_left; (go_simp; first | done | with_reducible rfl); (try simp only [Act.put, List.setIfInBounds_toArray, List.set_cons_zero, List.set_cons_succ])
      refine regA 5 18 (v := ?_) rfl rfl (by kernel_rfl) (by kernel_rfl) (by kernel_rfl) (fun _ _ _ h => h) (by rfl) (fun w => ?_) ?_; rotate_left; (go_simp; first | done | with_reducible rfl); (try simp only [Act.put, List.setIfInBounds_toArray, List.set_cons_zero, List.set_cons_succ])
      refine regA 6 19 (v := ?_) rfl rfl (by kernel_rfl) (by kernel_rfl) (by kernel_rfl) (fun _ _ _ h => h) (by rfl) (fun w => ?_) ?_; rotate_left; (go_simp; first | done | with_reducible rfl); (try simp only [Act.put, List.setIfInBounds_toArray, List.set_cons_zero, List.set_cons_succ])
      have nc0 := cell_at gb3 0; have nc1 := cell_at gb3 1; have nc2 := cell_at gb3 2; have nc3 := cell_at gb3 3; simp only [wcells_get] at nc0 nc1 nc2 nc3
      have nf0 := free_at gb3 0; have nf1 := free_at gb3 1; have nf2 := free_at gb3 2; have nf3 := free_at gb3 3
      have k3 := hid (set4_at gb3 0 0 0 0)
      have hM9 := hid (set4_mod lb3 hM 0 0 0 0)
      clear gb3 hM
      refine regOnly 8 (by kernel_rfl) rfl (by rfl) (fun K hK => ?_)
      go_wp2_with fail
      refine hK.out _ _ (fun h _ => absurd h (by decide)) ?_
      clear hK
      (try simp only [Act.put, List.setIfInBounds_toArray, List.set_cons_zero, List.set_cons_succ])
      clear nc0 nc1 nc2 nc3
      clear nf0 nf1 nf2 nf3
      refine regA 9 4 (v := ?_) rfl rfl (by kernel_rfl) (by kernel_rfl) (by kernel_rfl) (fun _ _ _ h => h) (by rfl) (fun w => ?_) ?_; rotate_left; (go_simp; first | done | with_reducible rfl); (try simp only [Act.put, List.setIfInBounds_toArray, List.set_cons_zero, List.set_cons_succ])
      refine regAbs (fun W9 => W9.heap[b3]? = some (.cells (wcells [0, 0, 0, 0]) 26) ∧ Mod [] wq W9) ⟨k3.out, hM9.out⟩ ?_
      rintro W10 hR
      refine regDone (by kernel_rfl) ?_ _
      exact KEY.out b3 W10 hR
  · rintro b3 W5 ⟨g3, hm5⟩
    have g1 := hm5.get HS.out (by simp)
    have hrow := HROW.out.mod hm5 (by simp)
    have zc0 := cell_at g1 0; have zc1 := cell_at g1 1; have zc2 := cell_at g1 2; have zc3 := cell_at g1 3; simp only [wcells_get] at zc0 zc1 zc2 zc3
    have H5 := hid (And.intro g3 (And.intro (HMW.out.trans hm5) hrow))
    clear g3 hm5 g1 hrow
    go_upto_region 4 with (go_at_call 10; refine (CPT.out _ _ _ (H5.out.2.2.mod ((Mod.refl [] _).alloc _) (by simp)) (row12 (get_new _ _))).mono ?_; rintro e w6 ⟨⟨v, hv, rfl⟩, hm1⟩; obtain ⟨g5, c5, rfl, -, -, hpr⟩ := Pts.ptRow hv (by simp); have H6 := hid (And.intro hpr (((Mod.refl [] W5).alloc _).trans hm1)); clear hv hpr hm1)
    clear zc0 zc1 zc2 zc3
    have g1 := (H5.out.2.1.trans H6.out.2).get HB.out.1 (by simp)
    have zc0 := cell_at g1 0; have zc1 := cell_at g1 1; have zc2 := cell_at g1 2; have zc3 := cell_at g1 3; simp only [wcells_get] at zc0 zc1 zc2 zc3
    clear g1
    go_upto_region 5 with (go_at_call 13; refine (CCB.out _ _ _ H6.out.1).mono ?_; rintro e w7 ⟨rfl, hm1⟩; have H7 := hid hm1; clear hm1)
    clear zc0 zc1 zc2 zc3
    refine wp_abs (fun W7 => W7.heap[w7.heap.size]? = some (.cells (wcells [3, 0, 0, 0]) 26) ∧ Mod [] w6 W7) ⟨get_new _ _, H7.out.alloc _⟩ ?_
    generalize w7.heap.size = t7 at *
    rintro W7 ⟨g7, hm7⟩
    have hpr := H6.out.1.mod hm7 (by simp)
    have hmE : Mod [] w W7.drew := (((HB.out.2.trans H5.out.2.1).trans H6.out.2).trans hm7).drew
    have e1 : parts 1 4 = [1, 0, 0, 0] := parts_one (BB_big (by decide))
    have e2 : parts 2 4 = [2, 0, 0, 0] := parts_one (BB_big (by decide))
    have e5 : parts 5 4 = [5, 0, 0, 0] := parts_one (BB_big (by decide))
    have e7 : parts 7 4 = [7, 0, 0, 0] := parts_one (BB_big (by decide))
    have p0 := hpr.cells (i := 0) rfl e1 e5
    have p1 := hpr.cells (i := 1) rfl e2 e7
    have hS : SatW b3 t7 g5 W7.drew := ⟨(H6.out.2.trans hm7).get H5.out.1 (by simp), g7, p0.2.2.2.2, p1.2.2.2.2⟩
    have q0 := fun W => q_same 0 (by decide) W
    have q5 := fun W => q_same 5 (by decide) W
    have q7 := fun W => q_same 7 (by decide) W
    have q3 := fun W => q_same 3 (by decide) W
    unfold one4 at q0 q5 q7 q3
    have Q0 : ∀ W : World, (Op.equalIn 10000 26 (.agg #[.int .u64 0, .int .u64 0, .int .u64 0, .int .u64 0]) (.agg #[.int .u64 0, .int .u64 0, .int .u64 0, .int .u64 0])).run Tryd.prog W = .ok true W := q0
    have Q5 : ∀ W : World, (Op.equalIn 10000 26 (.agg #[.int .u64 5, .int .u64 0, .int .u64 0, .int .u64 0]) (.agg #[.int .u64 5, .int .u64 0, .int .u64 0, .int .u64 0])).run Tryd.prog W = .ok true W := q5
    have Q7 : ∀ W : World, (Op.equalIn 10000 26 (.agg #[.int .u64 7, .int .u64 0, .int .u64 0, .int .u64 0]) (.agg #[.int .u64 7, .int .u64 0, .int .u64 0, .int .u64 0])).run Tryd.prog W = .ok true W := q7
    have Q3 : ∀ W : World, (Op.equalIn 10000 26 (.agg #[.int .u64 3, .int .u64 0, .int .u64 0, .int .u64 0]) (.agg #[.int .u64 3, .int .u64 0, .int .u64 0, .int .u64 0])).run Tryd.prog W = .ok true W := q3
    clear g7 hm7 hpr H5 H6 H7 HB p0 p1 e1 e2 e5 e7 q0 q5 q7 q3
    refine wp_region_N (SatW b3 t7 g5) (fun i => !(i == 41)) (by kernel_rfl) ?_
    have hM := hmE
    clear hmE
    generalize W7.drew = wq at *
    refine regS 0 34 (v := ?_) hS rfl rfl (by kernel_rfl) (by kernel_rfl) (by kernel_rfl) (by kernel_rfl) (fun _ _ _ h => h) (by rfl) (fun w hSw => ?_) ?_; rotate_left; (have qc0 := cell_at hSw.1 0; have qc1 := cell_at hSw.1 1; have qc2 := cell_at hSw.1 2; have qc3 := cell_at hSw.1 3; simp only [wcells_get] at qc0 qc1 qc2 qc3; go_simp; first | done | with_reducible rfl); (try simp only [Act.put, List.setIfInBounds_toArray, List.set_cons_zero, List.set_cons_succ])
    refine regA 1 35 (v := ?_) rfl rfl (by kernel_rfl) (by kernel_rfl) (by kernel_rfl) (fun _ _ _ h => h) (by rfl) (fun w => ?_) ?_; rotate_left; (go_simp; first | done | with_reducible rfl); (try simp only [Act.put, List.setIfInBounds_toArray, List.set_cons_zero, List.set_cons_succ])
    refine regA 2 36 (v := ?_) rfl rfl (by kernel_rfl) (by kernel_rfl) (by kernel_rfl) (fun _ _ _ h => h) (by rfl) (fun w => ?_) ?_; rotate_left; (go_simp; first | done | with_reducible rfl); (try simp only [Act.put, List.setIfInBounds_toArray, List.set_cons_zero, List.set_cons_succ])
    refine regA 3 37 (v := ?_) rfl rfl (by kernel_rfl) (by kernel_rfl) (by kernel_rfl) (fun _ _ _ h => h) (by rfl) (fun w => ?_) ?_; rotate_left; (go_simp; first | done | with_reducible rfl); (try simp only [Act.put, List.setIfInBounds_toArray, List.set_cons_zero, List.set_cons_succ])
    refine regA 4 38 (v := ?_) rfl rfl (by kernel_rfl) (by kernel_rfl) (by kernel_rfl) (fun _ _ _ h => h) (by rfl) (fun w => ?_) ?_; rotate_left; (go_simp; first | done | with_reducible rfl); (try simp only [Act.put, List.setIfInBounds_toArray, List.set_cons_zero, List.set_cons_succ])
    refine regA 5 39 (v := ?_) rfl rfl (by kernel_rfl) (by kernel_rfl) (by kernel_rfl) (fun _ _ _ h => h) (by rfl) (fun w => ?_) ?_; rotate_left; (go_simp; first | done | with_reducible rfl); (try simp only [Act.put, List.setIfInBounds_toArray, List.set_cons_zero, List.set_cons_succ])
    refine regA 6 40 (v := ?_) rfl rfl (by kernel_rfl) (by kernel_rfl) (by kernel_rfl) (fun _ _ _ h => h) (by rfl) (fun w => ?_) ?_; rotate_left; (go_simp; first | done | with_reducible rfl); (try simp only [Act.put, List.setIfInBounds_toArray, List.set_cons_zero, List.set_cons_succ])
    refine regA 7 41 (v := ?_) rfl rfl (by kernel_rfl) (by kernel_rfl) (by kernel_rfl) (fun _ _ _ h => h) (by rfl) (fun w => ?_) ?_; rotate_left; (go_simp; first | done | with_reducible rfl); (try simp only [Act.put, List.setIfInBounds_toArray, List.set_cons_zero, List.set_cons_succ])
    refine regA 8 42 (v := ?_) rfl rfl (by kernel_rfl) (by kernel_rfl) (by kernel_rfl) (fun _ _ _ h => h) (by rfl) (fun w => ?_) ?_; rotate_left; (go_simp; first | done | with_reducible rfl); (try simp only [Act.put, List.setIfInBounds_toArray, List.set_cons_zero, List.set_cons_succ])
    refine regA 9 43 (v := ?_) rfl rfl (by kernel_rfl) (by kernel_rfl) (by kernel_rfl) (fun _ _ _ h => h) (by rfl) (fun w => ?_) ?_; rotate_left; (go_simp; first | done | with_reducible rfl); (try simp only [Act.put, List.setIfInBounds_toArray, List.set_cons_zero, List.set_cons_succ])
    refine regA 10 44 (v := ?_) rfl rfl (by kernel_rfl) (by kernel_rfl) (by kernel_rfl) (fun _ _ _ h => h) (by rfl) (fun w => ?_) ?_; rotate_left; (go_simp; first | done | with_reducible rfl); (try simp only [Act.put, List.setIfInBounds_toArray, List.set_cons_zero, List.set_cons_succ])
    refine regA 11 45 (v := ?_) rfl rfl (by kernel_rfl) (by kernel_rfl) (by kernel_rfl) (fun _ _ _ h => h) (by rfl) (fun w => ?_) ?_; rotate_left; (go_simp; first | done | with_reducible rfl); (try simp only [Act.put, List.setIfInBounds_toArray, List.set_cons_zero, List.set_cons_succ])
    refine regA 12 46 (v := ?_) rfl rfl (by kernel_rfl) (by kernel_rfl) (by kernel_rfl) (fun _ _ _ h => h) (by rfl) (fun w => ?_) ?_; rotate_left; (go_simp; first | done | with_reducible rfl); (try simp only [Act.put, List.setIfInBounds_toArray, List.set_cons_zero, List.set_cons_succ])
    refine regA 13 47 (v := ?_) rfl rfl (by kernel_rfl) (by kernel_rfl) (by kernel_rfl) (fun _ _ _ h => h) (by rfl) (fun w => ?_) ?_; rotate_left; (go_simp; first | done | with_reducible rfl); (try simp only [Act.put, List.setIfInBounds_toArray, List.set_cons_zero, List.set_cons_succ])
    refine regA 14 48 (v := ?_) rfl rfl (by kernel_rfl) (by kernel_rfl) (by kernel_rfl) (fun _ _ _ h => h) (by rfl) (fun w => ?_) ?_; rotate_left; (go_simp; first | done | with_reducible rfl); (try simp only [Act.put, List.setIfInBounds_toArray, List.set_cons_zero, List.set_cons_succ])
    refine regA 15 49 (v := ?_) rfl rfl (by kernel_rfl) (by kernel_rfl) (by kernel_rfl) (fun _ _ _ h => h) (by rfl) (fun w => ?_) ?_; rotate_left; (go_simp; first | done | with_reducible rfl); (try simp only [Act.put, List.setIfInBounds_toArray, List.set_cons_zero, List.set_cons_succ])
    refine regA 16 50 (v := ?_) rfl rfl (by kernel_rfl) (by kernel_rfl) (by kernel_rfl) (fun _ _ _ h => h) (by rfl) (fun w => ?_) ?_; rotate_left; (go_simp; first | done | with_reducible rfl); (try simp only [Act.put, List.setIfInBounds_toArray, List.set_cons_zero, List.set_cons_succ])
    refine regA 17 51 (v := ?_) rfl rfl (by kernel_rfl) (by kernel_rfl) (by kernel_rfl) (fun _ _ _ h => h) (by rfl) (fun w => ?_) ?_; rotate_left; (go_simp; first | done | with_reducible rfl); (try simp only [Act.put, List.setIfInBounds_toArray, List.set_cons_zero, List.set_cons_succ])
    refine regA 18 52 (v := .pointer (some ⟨g5, 0, none⟩)) rfl rfl (by kernel_rfl) (by kernel_rfl) (by kernel_rfl) (fun _ _ _ h => h) (by rfl) (fun w => ?_) ?_
    · go_simp
    (try simp only [Act.put, List.setIfInBounds_toArray, List.set_cons_zero, List.set_cons_succ])
    refine regA 19 53 (v := .pointer (some ⟨g5, 4, none⟩)) rfl rfl (by kernel_rfl) (by kernel_rfl) (by kernel_rfl) (fun _ _ _ h => h) (by rfl) (fun w => ?_) ?_
    · go_simp
    (try simp only [Act.put, List.setIfInBounds_toArray, List.set_cons_zero, List.set_cons_succ])
    refine regS 20 54 (v := ?_) hS rfl rfl (by kernel_rfl) (by kernel_rfl) (by kernel_rfl) (by kernel_rfl) (fun _ _ _ h => h) (by rfl) (fun w hSw => ?_) ?_; rotate_left; (obtain ⟨-, -, ⟨qc0, qc1, qc2, qc3⟩, -⟩ := hSw; go_simp; first | done | with_reducible rfl); (try simp only [Act.put, List.setIfInBounds_toArray, List.set_cons_zero, List.set_cons_succ])
    refine regOnlyG 21 (by kernel_rfl) rfl (by rfl) (fun K hK => ?_)
    go_wp2_with (go_at_call 16; refine (C5.out _).mono ?_; rintro e n5 ⟨rfl, hm⟩)
    refine hK.out _ _ (fun _ h => h.mod hm) ?_
    clear hK
    (try simp only [Act.put, List.setIfInBounds_toArray, List.set_cons_zero, List.set_cons_succ])
    have hM := hM.trans hm
    have hS := hS.mod hm
    clear hm
    refine regA 22 56 (v := ?_) rfl rfl (by kernel_rfl) (by kernel_rfl) (by kernel_rfl) (fun _ _ _ h => h) (by rfl) (fun w => ?_) ?_; rotate_left; (go_simp; first | done | with_reducible rfl); (try simp only [Act.put, List.setIfInBounds_toArray, List.set_cons_zero, List.set_cons_succ])
    refine regA 23 57 (v := ?_) rfl rfl (by kernel_rfl) (by kernel_rfl) (by kernel_rfl) (fun _ _ _ h => h) (by rfl) (fun w => ?_) ?_; rotate_left; (go_simp; first | done | with_reducible rfl); (try simp only [Act.put, List.setIfInBounds_toArray, List.set_cons_zero, List.set_cons_succ])
    refine regA 24 58 (v := ?_) rfl rfl (by kernel_rfl) (by kernel_rfl) (by kernel_rfl) (fun _ _ _ h => h) (by rfl) (fun w => ?_) ?_; rotate_left; (go_simp; first | done | with_reducible rfl); (try simp only [Act.put, List.setIfInBounds_toArray, List.set_cons_zero, List.set_cons_succ])
    refine regA 25 59 (v := ?_) rfl rfl (by kernel_rfl) (by kernel_rfl) (by kernel_rfl) (fun _ _ _ h => h) (by rfl) (fun w => ?_) ?_; rotate_left; (go_simp; first | done | with_reducible rfl); (try simp only [Act.put, List.setIfInBounds_toArray, List.set_cons_zero, List.set_cons_succ])
    refine regA 26 60 (v := .pointer (some ⟨g5, 8, none⟩)) rfl rfl (by kernel_rfl) (by kernel_rfl) (by kernel_rfl) (fun _ _ _ h => h) (by rfl) (fun w => ?_) ?_
    · go_simp
    (try simp only [Act.put, List.setIfInBounds_toArray, List.set_cons_zero, List.set_cons_succ])
    refine regA 27 61 (v := .pointer (some ⟨g5, 12, none⟩)) rfl rfl (by kernel_rfl) (by kernel_rfl) (by kernel_rfl) (fun _ _ _ h => h) (by rfl) (fun w => ?_) ?_
    · go_simp
    (try simp only [Act.put, List.setIfInBounds_toArray, List.set_cons_zero, List.set_cons_succ])
    refine regS 28 62 (v := ?_) hS rfl rfl (by kernel_rfl) (by kernel_rfl) (by kernel_rfl) (by kernel_rfl) (fun _ _ _ h => h) (by rfl) (fun w hSw => ?_) ?_; rotate_left; (obtain ⟨-, -, -, ⟨qc0, qc1, qc2, qc3⟩⟩ := hSw; go_simp; first | done | with_reducible rfl); (try simp only [Act.put, List.setIfInBounds_toArray, List.set_cons_zero, List.set_cons_succ])
    refine regOnlyG 29 (by kernel_rfl) rfl (by rfl) (fun K hK => ?_)
    go_wp2_with (go_at_call 16; refine (C7.out _).mono ?_; rintro e n7 ⟨rfl, hm⟩)
    refine hK.out _ _ (fun _ h => h.mod hm) ?_
    clear hK
    (try simp only [Act.put, List.setIfInBounds_toArray, List.set_cons_zero, List.set_cons_succ])
    have hM := hM.trans hm
    have hS := hS.mod hm
    clear hm
    refine regA 30 64 (v := ?_) rfl rfl (by kernel_rfl) (by kernel_rfl) (by kernel_rfl) (fun _ _ _ h => h) (by rfl) (fun w => ?_) ?_; rotate_left; (go_simp; first | done | with_reducible rfl); (try simp only [Act.put, List.setIfInBounds_toArray, List.set_cons_zero, List.set_cons_succ])
    refine regA 31 65 (v := ?_) rfl rfl (by kernel_rfl) (by kernel_rfl) (by kernel_rfl) (fun _ _ _ h => h) (by rfl) (fun w => ?_) ?_; rotate_left; (go_simp; first | done | with_reducible rfl); (try simp only [Act.put, List.setIfInBounds_toArray, List.set_cons_zero, List.set_cons_succ])
    refine regA 32 66 (v := ?_) rfl rfl (by kernel_rfl) (by kernel_rfl) (by kernel_rfl) (fun _ _ _ h => h) (by rfl) (fun w => ?_) ?_; rotate_left; (go_simp; first | done | with_reducible rfl); (try simp only [Act.put, List.setIfInBounds_toArray, List.set_cons_zero, List.set_cons_succ])
    refine regS 33 67 (v := ?_) hS rfl rfl (by kernel_rfl) (by kernel_rfl) (by kernel_rfl) (by kernel_rfl) (fun _ _ _ h => h) (by rfl) (fun w hSw => ?_) ?_; rotate_left; (have qc0 := cell_at hSw.2.1 0; have qc1 := cell_at hSw.2.1 1; have qc2 := cell_at hSw.2.1 2; have qc3 := cell_at hSw.2.1 3; simp only [wcells_get] at qc0 qc1 qc2 qc3; go_simp; first | done | with_reducible rfl); (try simp only [Act.put, List.setIfInBounds_toArray, List.set_cons_zero, List.set_cons_succ])
    refine regOnlyG 34 (by kernel_rfl) rfl (by rfl) (fun K hK => ?_)
    go_wp2_with (go_at_call 16; refine (C3.out _).mono ?_; rintro e n3 ⟨rfl, hm⟩)
    refine hK.out _ _ (fun _ h => h.mod hm) ?_
    clear hK
    (try simp only [Act.put, List.setIfInBounds_toArray, List.set_cons_zero, List.set_cons_succ])
    have hM := hM.trans hm
    have hS := hS.mod hm
    clear hm
    refine regA 35 69 (v := ?_) rfl rfl (by kernel_rfl) (by kernel_rfl) (by kernel_rfl) (fun _ _ _ h => h) (by rfl) (fun w => ?_) ?_; rotate_left; (go_simp; first | done | with_reducible rfl); (try simp only [Act.put, List.setIfInBounds_toArray, List.set_cons_zero, List.set_cons_succ])
    refine regA 36 70 (v := ?_) rfl rfl (by kernel_rfl) (by kernel_rfl) (by kernel_rfl) (fun _ _ _ h => h) (by rfl) (fun w => ?_) ?_; rotate_left; (go_simp; first | done | with_reducible rfl); (try simp only [Act.put, List.setIfInBounds_toArray, List.set_cons_zero, List.set_cons_succ])
    refine regA 37 71 (v := ?_) rfl rfl (by kernel_rfl) (by kernel_rfl) (by kernel_rfl) (fun _ _ _ h => h) (by rfl) (fun w => ?_) ?_; rotate_left; (go_simp; first | done | with_reducible rfl); (try simp only [Act.put, List.setIfInBounds_toArray, List.set_cons_zero, List.set_cons_succ])
    refine regA 38 72 (v := ?_) rfl rfl (by kernel_rfl) (by kernel_rfl) (by kernel_rfl) (fun _ _ _ h => h) (by rfl) (fun w => ?_) ?_; rotate_left; (go_simp; first | done | with_reducible rfl); (try simp only [Act.put, List.setIfInBounds_toArray, List.set_cons_zero, List.set_cons_succ])
    refine regA 39 73 (v := ?_) rfl rfl (by kernel_rfl) (by kernel_rfl) (by kernel_rfl) (fun _ _ _ h => h) (by rfl) (fun w => ?_) ?_; rotate_left; (go_simp; first | done | with_reducible rfl); (try simp only [Act.put, List.setIfInBounds_toArray, List.set_cons_zero, List.set_cons_succ])
    refine regA 40 74 (v := ?_) rfl rfl (by kernel_rfl) (by kernel_rfl) (by kernel_rfl) (fun _ _ _ h => h) (by rfl) (fun w => ?_) ?_; rotate_left; (go_simp; first | done | with_reducible rfl); (try simp only [Act.put, List.setIfInBounds_toArray, List.set_cons_zero, List.set_cons_succ])
    refine regA 41 0 (v := ?_) rfl rfl (by kernel_rfl) (by kernel_rfl) (by kernel_rfl) (fun _ _ _ h => h) (by rfl) (fun w => ?_) ?_; rotate_left; (go_simp; first | done | with_reducible rfl); (try simp only [Act.put, List.setIfInBounds_toArray, List.set_cons_zero, List.set_cons_succ])
    refine regDone (by kernel_rfl) ?_ _
    go_wp2_with fail
    exact bodyPost_ret (v := .bool true) (by simp [results, Tryd.results8, go_sem]) rfl ⟨rfl, hM⟩
end Go.Proofs.YtdgmnhiffoemmaaDoor
