/-
  poly.Combine, where all is right. No statement of a claim stands here; each contract names what it asks.
-/
import Derived.Test.YtdgmnhiffoemmaaDoorYN
set_option linter.unusedSimpArgs false
namespace Go.Proofs.YtdgmnhiffoemmaaDoor
open Go Go.RowKit Go.ChangeMaps

/-- What points come to, factor by factor. -/
def sumFY (fs : List Nat) (ps : List (Nat × Nat)) : Nat → Int
  | 0 => 0
  | k + 1 => sumFY fs ps k + (fs.getD k 0 : Int) * ((ps.getD k (0, 0)).2 : Int)
/-- While points are summed up. -/
def CombRel (W : World) (t10 q : Nat) (fs : List Nat) (ps : List (Nat × Nat)) (gk : Nat) (v : Value) (w : World) : Prop :=
  ∃ k y : Nat, v = .int .i64 k ∧ gk + k = ps.length ∧ y < q ∧ Cg (q : Int) (y : Int) (sumFY fs ps k) ∧ w.heap[t10]? = some (.cells (wcells (parts y 4)) 26) ∧ Mod [t10] W w
/-- What the loads read. -/
def SatC (gf t12 t3 : Nat) (fs : List Nat) (xs qs : List Nat) (w : World) : Prop := NatRow w gf fs ∧ w.heap[t12]? = some (.cells (wcells xs) 51) ∧ w.heap[t3]? = some (.cells (wcells qs) 26)

set_option maxRecDepth 100000 in
set_option maxHeartbeats 8000000 in
theorem pcombine {q at_ : Nat} (hq : q < NN) (hpr : ∀ d, d ∣ q → d = 1 ∨ d = q) (h2 : 2 ≤ q) (hat : at_ < NN) (ps : List (Nat × Nat)) (hxs : ∀ p ∈ ps, p.1 < NN ∧ p.2 < NN) (hn1 : 1 ≤ ps.length) (hn : ps.length ≤ 256) (ho : AllApart q (ps.map Prod.fst)) (g c : Nat) (w : World) (hg : PtRow w g ps) :
    Calls Tryd.prog 13 #[nv q, nv at_, .slice (some ⟨g, 0, none⟩) ps.length c] w fun e w' =>
      (∃ (y : Nat) (fs : List Nat), y < q ∧ fs.length = ps.length ∧ (∀ (i f : Nat), fs[i]? = some f → FacOk q at_ (ps.map Prod.fst) i f) ∧ Cg (q : Int) (y : Int) (sumFY fs ps ps.length) ∧ e = .returned (.tuple #[nv y, .int .i64 0])) ∧ Mod [] w w' := by
  have hlx : (ps.map Prod.fst).length = ps.length := List.length_map _
  have cf := fun (gx cx : Nat) (W : World) (hW : NatRow W gx (ps.map Prod.fst)) => pfactors hq hpr h2 hat (ps.map Prod.fst) (by intro x hx; obtain ⟨p, hp, rfl⟩ := List.mem_map.1 hx; exact (hxs p hp).1) (by omega) (by omega) ho gx cx W hW
  rw [hlx] at cf
  have cp := fun (W : World) (hW : PtRow W g ps) => pplaces ps hn g c W hW
  obtain ⟨z0, z1, z2, z3, hz⟩ := nv_lit q
  obtain ⟨a0, a1, a2, a3, ha⟩ := nv_lit at_
  rw [hz, ha] at cf
  have HZ := hid (And.intro hz (And.intro hq (And.intro h2 (And.intro hxs (And.intro hg hn1)))))
  rw [hz, ha]
  unfold lit4 at *
  have CF := hid cf
  have CP := hid cp
  have n3 : (ps.length : Int) ≤ 256 := by omega
  clear cf cp hz ha hq hpr h2 hat hxs ho hg hlx
  go_enter Tryd.func13, Tryd.ntmps13
  go_upto_region 1 with fail
  refine wp_abs (fun W => W.heap[w.heap.size]? = some (.cells (wcells [z0, z1, z2, z3]) 26) ∧ W.heap[w.heap.size + 1]? = some (.cells (wcells [a0, a1, a2, a3]) 26) ∧ W.heap[w.heap.size + 1 + 1]? = some (.cells (wcells [0, 0, 0, 0]) 26) ∧ Mod [] w W) ⟨three_a w _ _ _, three_b w _ _ _, three_c w _ _ _, (((Mod.refl _ _).alloc _).alloc _).alloc _⟩ ?_
  rintro W ⟨gz, ga, gr, hm⟩
  generalize hta : w.heap.size = ta at *
  generalize htb : ta + 1 = tb at *
  generalize htr : tb + 1 = tr at *
  have HM : Hid (Mod [] w W ∧ w.heap.size ≤ ta ∧ ta < tb ∧ tb < tr) := ⟨hm, by omega, by omega, by omega⟩
  have HG := hid (And.intro gz (And.intro ga gr))
  have hS : BoxS 26 ta tb [z0, z1, z2, z3] [a0, a1, a2, a3] W.drew := ⟨gz, ga⟩
  clear gz ga gr hm hta htb htr
  have hM : Mod [] W W.drew := (Mod.refl _ _).drew
  refine wp_region_N (BoxS 26 ta tb [z0, z1, z2, z3] [a0, a1, a2, a3]) (fun i => !(i == 8 || i == 9)) (by kernel_rfl) ?_
  generalize W.drew = wq at *
  refine regS 0 16 (v := ?_) hS rfl rfl (by kernel_rfl) (by kernel_rfl) (by kernel_rfl) (by kernel_rfl) (fun _ _ _ h => h) (by rfl) (fun w hSw => ?_) ?_; rotate_left; (have qc0 := cell_at hSw.1 0; have qc1 := cell_at hSw.1 1; have qc2 := cell_at hSw.1 2; have qc3 := cell_at hSw.1 3; simp only [wcells_get] at qc0 qc1 qc2 qc3; go_simp; first | done | with_reducible rfl); (try simp only [Act.put, List.setIfInBounds_toArray, List.set_cons_zero, List.set_cons_succ])
  refine regS 1 17 (v := ?_) hS rfl rfl (by kernel_rfl) (by kernel_rfl) (by kernel_rfl) (by kernel_rfl) (fun _ _ _ h => h) (by rfl) (fun w hSw => ?_) ?_; rotate_left; (have qc0 := cell_at hSw.2 0; have qc1 := cell_at hSw.2 1; have qc2 := cell_at hSw.2 2; have qc3 := cell_at hSw.2 3; simp only [wcells_get] at qc0 qc1 qc2 qc3; go_simp; first | done | with_reducible rfl); (try simp only [Act.put, List.setIfInBounds_toArray, List.set_cons_zero, List.set_cons_succ])
  refine regA 2 18 (v := ?_) rfl rfl (by kernel_rfl) (by kernel_rfl) (by kernel_rfl) (fun _ _ _ h => h) (by rfl) (fun w => ?_) ?_; rotate_left; (go_simp; first | done | with_reducible rfl); (try simp only [Act.put, List.setIfInBounds_toArray, List.set_cons_zero, List.set_cons_succ])
  clear hS
  have CPW := hid (CP.out wq (HZ.out.2.2.2.2.1.mod (HM.out.1.trans hM) (by simp)))
  refine regOnly 3 (by kernel_rfl) rfl (by rfl) (fun K hK => ?_)
  go_wp2_with (go_at_call 32; refine CPW.out.mono ?_; rintro e w1 ⟨⟨v, hv, rfl⟩, hm⟩)
  refine hK.out _ _ (fun _ h => ⟨hm.get h.1 (by simp), hm.get h.2 (by simp)⟩) ?_
  clear hK
  (try simp only [Act.put, List.setIfInBounds_toArray, List.set_cons_zero, List.set_cons_succ])
  have hM := hM.trans hm
  obtain ⟨gx, cx, rfl, -, -, hrx⟩ := Nats.natRow hv (by intro h; have := congrArg List.length h; rw [List.length_map] at this; have h2 : ps.length = 0 := this; have := HZ.out.2.2.2.2.2; omega)
  have CFW := hid (CF.out gx cx w1 hrx)
  rw [List.length_map]
  clear hm hrx hv CPW
  refine regOnly 4 (by kernel_rfl) rfl (by rfl) (fun K hK => ?_)
  go_wp2_with (go_at_call 17; refine CFW.out.mono ?_; rintro e w2 ⟨⟨vf, fs, hfl, hfs, hvf, rfl⟩, hm⟩)
  refine hK.out _ _ (fun _ h => ⟨hm.get h.1 (by simp), hm.get h.2 (by simp)⟩) ?_
  clear hK
  (try simp only [Act.put, List.setIfInBounds_toArray, List.set_cons_zero, List.set_cons_succ])
  have hM := hM.trans hm
  have hfne : fs ≠ [] := by intro h; rw [h] at hfl; have := HZ.out.2.2.2.2.2; simp at hfl; omega
  obtain ⟨gf, cfc, rfl, -, -, hrf⟩ := Nats.natRow hvf hfne
  have HF := hid (And.intro hfl (And.intro hfs (And.intro hrf hM)))
  rw [hfl]
  clear hm hvf hfl hfs hrf hM hfne CFW
  refine regA 5 15 (v := ?_) rfl rfl (by kernel_rfl) (by kernel_rfl) (by kernel_rfl) (fun _ _ _ h => h) (by rfl) (fun w => ?_) ?_; rotate_left; (go_simp; first | done | with_reducible rfl); (try simp only [Act.put, List.setIfInBounds_toArray, List.set_cons_zero, List.set_cons_succ])
  refine regA 6 21 (v := ?_) rfl rfl (by kernel_rfl) (by kernel_rfl) (by kernel_rfl) (fun _ _ _ h => h) (by rfl) (fun w => ?_) ?_; rotate_left; (go_simp; first | done | with_reducible rfl); (try simp only [Act.put, List.setIfInBounds_toArray, List.set_cons_zero, List.set_cons_succ])
  refine regA 7 22 (v := ?_) rfl rfl (by kernel_rfl) (by kernel_rfl) (by kernel_rfl) (fun _ _ _ h => h) (by rfl) (fun w => ?_) ?_; rotate_left; (go_simp; first | done | with_reducible rfl); (try simp only [Act.put, List.setIfInBounds_toArray, List.set_cons_zero, List.set_cons_succ])
  refine regA 8 8 (v := ?_) rfl rfl (by kernel_rfl) (by kernel_rfl) (by kernel_rfl) (fun _ _ _ h => h) (by rfl) (fun w => ?_) ?_; rotate_left; (go_simp; first | done | with_reducible rfl); (try simp only [Act.put, List.setIfInBounds_toArray, List.set_cons_zero, List.set_cons_succ])
  refine regA 9 9 (v := ?_) rfl rfl (by kernel_rfl) (by kernel_rfl) (by kernel_rfl) (fun _ _ _ h => h) (by rfl) (fun w => ?_) ?_; rotate_left; (go_simp; first | done | with_reducible rfl); (try simp only [Act.put, List.setIfInBounds_toArray, List.set_cons_zero, List.set_cons_succ])
  refine regDone (by kernel_rfl) ?_ _
  go_wp2_with fail
  have h9 : tr < w2.heap.size ∧ g < w2.heap.size ∧ gf < w2.heap.size := ⟨Nat.lt_of_lt_of_le (lt_of_block HG.out.2.2) HF.out.2.2.2.size, by
    obtain ⟨cur, T, f, hgg, -⟩ := HZ.out.2.2.2.2.1
    exact Nat.lt_of_lt_of_le (lt_of_block hgg) (Nat.le_trans HM.out.1.size HF.out.2.2.2.size), HF.out.2.2.1.lt⟩
  refine wp_abs (fun W2 => W2.heap[w2.heap.size]? = some (.cells (wcells [0, 0, 0, 0]) 26) ∧ Mod [] w2 W2) ⟨get_new _ _, (Mod.refl _ _).alloc _⟩ ?_
  generalize w2.heap.size = t10 at *
  rintro W2 ⟨g10, hm2⟩
  have H2 := hid (And.intro g10 (And.intro hm2 h9))
  clear g10 hm2 h9
  go_loopg [29] ps.length (fun gk v W' => CombRel W2 t10 q fs ps gk v W')
  case atStart =>
    refine ⟨0, 0, rfl, rfl, by have := HZ.out.2.2.1; omega, Cg.refl _ _, ?_, Mod.refl _ _⟩
    rw [show parts 0 4 = [0, 0, 0, 0] by simp [parts]]
    exact H2.out.1
  case round =>
    obtain ⟨k, y, rfl, hgk, hyq, hcy, g10, hm⟩ := hrel
    have hmA : Mod [t10] W wr := ((HF.out.2.2.2.trans H2.out.2.1).mono (by simp)).trans hm
    have gz := hmA.get HG.out.1 (by have := H2.out; have := HM.out; rw [List.mem_singleton]; omega)
    have gr := hmA.get HG.out.2.2 (by have := H2.out; have := HM.out; rw [List.mem_singleton]; omega)
    have hrp := (HZ.out.2.2.2.2.1.mod HM.out.1 (by simp)).mod hmA (by have := H2.out; rw [List.mem_singleton]; omega)
    have hrf := (HF.out.2.2.1.mod H2.out.2.1 (by simp)).mod hm (by have := H2.out; rw [List.mem_singleton]; omega)
    obtain ⟨y0, y1, y2, y3, hy, py⟩ := nv_lits y
    unfold lit4 at hy
    rw [py] at g10
    by_cases hk : k < ps.length
    · have k0 : (0 : Int) ≤ (k : Int) := by omega
      have k1 : (k : Int) < (ps.length : Int) := by omega
      obtain ⟨⟨px, pyy⟩, hp⟩ : ∃ p, ps[k]? = some p := ⟨_, List.getElem?_eq_getElem hk⟩
      obtain ⟨f, hf⟩ : ∃ f, fs[k]? = some f := ⟨_, List.getElem?_eq_getElem (by rw [HF.out.1]; exact hk)⟩
      obtain ⟨hpx, hpy⟩ := HZ.out.2.2.2.1 _ (List.mem_of_getElem? hp)
      obtain ⟨-, -, -, hfq, -, -, -⟩ := HF.out.2.1 k f hf
      have hq := HZ.out.2.1
      have hq0 : q ≠ 0 := by have := HZ.out.2.2.1; omega
      have cm := fun W => mmul (a := f) (b := pyy) (m := q) (by omega) hpy hq hq0 W
      have plt : f * pyy % q < q := Nat.mod_lt _ (by omega)
      have pcg : Cg (q : Int) ((f * pyy % q : Nat) : Int) ((f : Int) * (pyy : Int)) := mul_cg (Cg.refl _ _) (Cg.refl _ _)
      generalize f * pyy % q = pr at *
      have ca := fun W => madd (a := y) (b := pr) (m := q) (by omega) (by omega) hq hq0 W
      have slt : (y + pr) % q < q := Nat.mod_lt _ (by omega)
      have scg : Cg (q : Int) (((y + pr) % q : Nat) : Int) (sumFY fs ps (k + 1)) := by
        rw [sumFY, List.getD_eq_getElem?_getD, hf, List.getD_eq_getElem?_getD, hp, Int.natCast_emod, Int.natCast_add]
        exact (Cg.mod _ _).trans (hcy.add pcg)
      generalize (y + pr) % q = sm at *
      obtain ⟨x0, x1, x2, x3, -, ppx⟩ := nv_lits px
      obtain ⟨v0, v1, v2, v3, hvy, ppy⟩ := nv_lits pyy
      obtain ⟨f0, f1, f2, f3, hff, pf⟩ := nv_lits f
      obtain ⟨p0, p1, p2, p3, hpp, -⟩ := nv_lits pr
      obtain ⟨s0, s1, s2, s3, hs, psm⟩ := nv_lits sm
      unfold lit4 at hvy hff hpp hs
      rw [hff, hvy, HZ.out.1, hpp] at cm
      rw [hy, hpp, HZ.out.1, hs] at ca
      have CM := hid cm
      have CA := hid ca
      have HFI := hid (And.intro hf pf)
      obtain ⟨q0, q1, q2, q3, q4, q5, q6, q7⟩ := hrp.cells hp ppx ppy
      have HN := hid (And.intro slt (And.intro scg (And.intro g10 (And.intro gz (And.intro hm (And.intro hrf (And.intro psm hgk)))))))
      clear hyq hcy g10 gz gr hm hmA hrp hrf hy py hp hf hpx hpy hfq hq hq0 cm plt pcg ca slt scg hvy hff hpp hs ppx ppy pf psm
      go_upto_region 8 with fail
      refine wp_abs (fun W3 => W3.heap[wr.heap.size]? = some (.cells (wcells [x0, x1, x2, x3, v0, v1, v2, v3]) 51) ∧ Mod [] wr W3) ⟨get_new _ _, (Mod.refl _ _).alloc _⟩ ?_
      generalize wr.heap.size = t12 at *
      rintro W3 ⟨g12, hm3⟩
      have hbx : SatC gf t12 ta fs [x0, x1, x2, x3, v0, v1, v2, v3] [z0, z1, z2, z3] W3.drew := ⟨HN.out.2.2.2.2.2.1.mod hm3.drew (by simp), g12, hm3.drew.get HN.out.2.2.2.1 (by simp)⟩
      have hmw : Mod [] wr W3.drew := hm3.drew
      clear q0 q1 q2 q3 q4 q5 q6 q7 g12 hm3
      refine wp_region_N (SatC gf t12 ta fs [x0, x1, x2, x3, v0, v1, v2, v3] [z0, z1, z2, z3]) (fun i => !(i == 12 || i == 13)) (by kernel_rfl) ?_
      generalize W3.drew = wq at *
      have HBX := hid hbx
      have HMW := hid hmw
      clear hbx hmw
      apply merge1 (R := fun b13 W9 => W9.heap[b13]? = some (.cells (wcells [p0, p1, p2, p3]) 26) ∧ Mod [] wq W9)
      · intro key
        have KEY := hid key
        clear key
        have hS := HBX.out
        have kf : (k : Int) < ((ps.length : Nat) : Int) := k1
        refine regA 0 35 (v := ?_) rfl rfl (by kernel_rfl) (by kernel_rfl) (by kernel_rfl) (fun _ _ _ h => h) (by rfl) (fun w => ?_) ?_; rotate_left; (go_simp; first | done | with_reducible rfl); (try simp only [Act.put, List.setIfInBounds_toArray, List.set_cons_zero, List.set_cons_succ])
        refine regA 1 36 (v := ?_) rfl rfl (by kernel_rfl) (by kernel_rfl) (by kernel_rfl) (fun _ _ _ h => h) (by rfl) (fun w => ?_) ?_; rotate_left; (go_simp; first | done | with_reducible rfl); (try simp only [Act.put, List.setIfInBounds_toArray, List.set_cons_zero, List.set_cons_succ])
        refine regA 2 37 (v := .pointer (some ⟨gf, k * 4, none⟩)) rfl rfl (by kernel_rfl) (by kernel_rfl) (by kernel_rfl) (fun _ _ _ h => h) (by rfl) (fun w => ?_) ?_
        · go_simp
        (try simp only [Act.put, List.setIfInBounds_toArray, List.set_cons_zero, List.set_cons_succ])
        refine regS 3 38 (v := ?_) hS rfl rfl (by kernel_rfl) (by kernel_rfl) (by kernel_rfl) (by kernel_rfl) (fun _ _ _ h => h) (by rfl) (fun w hSw => ?_) ?_; rotate_left; (obtain ⟨qc0, qc1, qc2, qc3⟩ := hSw.1.cells HFI.out.1 HFI.out.2; go_simp; first | done | with_reducible rfl); (try simp only [Act.put, List.setIfInBounds_toArray, List.set_cons_zero, List.set_cons_succ])
        refine regA 4 39 (v := .pointer (some ⟨t12, 4, none⟩)) rfl rfl (by kernel_rfl) (by kernel_rfl) (by kernel_rfl) (fun _ _ _ h => h) (by rfl) (fun w => ?_) ?_
        · go_simp
        (try simp only [Act.put, List.setIfInBounds_toArray, List.set_cons_zero, List.set_cons_succ])
        refine regS 5 40 (v := ?_) hS rfl rfl (by kernel_rfl) (by kernel_rfl) (by kernel_rfl) (by kernel_rfl) (fun _ _ _ h => h) (by rfl) (fun w hSw => ?_) ?_; rotate_left; (have qc0 := cell_at hSw.2.1 4; have qc1 := cell_at hSw.2.1 5; have qc2 := cell_at hSw.2.1 6; have qc3 := cell_at hSw.2.1 7; simp only [wcells_get] at qc0 qc1 qc2 qc3; go_simp; first | done | with_reducible rfl); (try simp only [Act.put, List.setIfInBounds_toArray, List.set_cons_zero, List.set_cons_succ])
        refine regS 6 41 (v := ?_) hS rfl rfl (by kernel_rfl) (by kernel_rfl) (by kernel_rfl) (by kernel_rfl) (fun _ _ _ h => h) (by rfl) (fun w hSw => ?_) ?_; rotate_left; (have qc0 := cell_at hSw.2.2 0; have qc1 := cell_at hSw.2.2 1; have qc2 := cell_at hSw.2.2 2; have qc3 := cell_at hSw.2.2 3; simp only [wcells_get] at qc0 qc1 qc2 qc3; go_simp; first | done | with_reducible rfl); (try simp only [Act.put, List.setIfInBounds_toArray, List.set_cons_zero, List.set_cons_succ])
        clear hS
        have hM := Mod.refl [] wq
        refine regTwo 7 11 (by kernel_rfl) rfl (by rfl) rfl (by rfl) (fun K hK => ?_) (fun K hK => ?_)
        · go_wp2_with (go_at_call 33; refine (CM.out _).mono ?_; rintro e wq1 ⟨rfl, hm⟩)
          refine hK.out _ _ (fun _ h => ⟨h.1.mod hm (by simp), hm.get h.2.1 (by simp), hm.get h.2.2 (by simp)⟩) ?_
          clear hK
          (try simp only [Act.put, List.setIfInBounds_toArray, List.set_cons_zero, List.set_cons_succ])
          have hM := hM.trans hm
          clear hm
          refine regA 8 34 (v := ?_) rfl rfl (by kernel_rfl) (by kernel_rfl) (by kernel_rfl) (fun _ _ _ h => h) (by rfl) (fun w => ?_) ?_; rotate_left; (go_simp; first | done | with_reducible rfl); (try simp only [Act.put, List.setIfInBounds_toArray, List.set_cons_zero, List.set_cons_succ])
          refine regA 9 43 (v := ?_) rfl rfl (by kernel_rfl) (by kernel_rfl) (by kernel_rfl) (fun _ _ _ h => h) (by rfl) (fun w => ?_) ?_; rotate_left; (go_simp; first | done | with_reducible rfl); (try simp only [Act.put, List.setIfInBounds_toArray, List.set_cons_zero, List.set_cons_succ])
          refine regA 10 44 (v := ?_) rfl rfl (by kernel_rfl) (by kernel_rfl) (by kernel_rfl) (fun _ _ _ h => h) (by rfl) (fun w => ?_) ?_; rotate_left; (go_simp; first | done | with_reducible rfl); (try simp only [Act.put, List.setIfInBounds_toArray, List.set_cons_zero, List.set_cons_succ])
          refine regOnly 11 (by kernel_rfl) rfl (by rfl) (fun K hK => ?_)
          go_wp2_with fail
          refine hK.out _ _ (fun _ h => ⟨h.1.mod ((Mod.refl [] _).alloc _) (by simp), get_alloc h.2.1 _, get_alloc h.2.2 _⟩) ?_
          clear hK
          (try simp only [Act.put, List.setIfInBounds_toArray, List.set_cons_zero, List.set_cons_succ])
          have gb13 : (wq1.alloc (.cells #[.int .u64 0, .int .u64 0, .int .u64 0, .int .u64 0] 26 (0, 0))).heap[wq1.heap.size]? = some (.cells (wcells [0, 0, 0, 0]) 26) := get_new wq1 _
          obtain ⟨b13, hb13⟩ : ∃ b, wq1.heap.size = b := ⟨_, rfl⟩
          have lb13 : wq.heap.size ≤ b13 := by rw [← hb13]; exact hM.size
          rw [hb13] at gb13 ⊢
          have hM : Mod [] wq (wq1.alloc (.cells #[.int .u64 0, .int .u64 0, .int .u64 0, .int .u64 0] 26 (0, 0))) := hM.alloc _
          generalize wq1.alloc (.cells #[.int .u64 0, .int .u64 0, .int .u64 0, .int .u64 0] 26 (0, 0)) = wq2 at *
          have nc0 := cell_at gb13 0; have nc1 := cell_at gb13 1; have nc2 := cell_at gb13 2; have nc3 := cell_at gb13 3; simp only [wcells_get] at nc0 nc1 nc2 nc3
          have nf0 := free_at gb13 0; have nf1 := free_at gb13 1; have nf2 := free_at gb13 2; have nf3 := free_at gb13 3
          have k13 := hid (set4_at gb13 p0 p1 p2 p3)
          have hM9 := hid (set4_mod lb13 hM p0 p1 p2 p3)
          clear gb13 hM
          refine regOnly 12 (by kernel_rfl) rfl (by rfl) (fun K hK => ?_)
          go_wp2_with fail
          refine hK.out _ _ (fun h _ => absurd h (by decide)) ?_
          clear hK
          (try simp only [Act.put, List.setIfInBounds_toArray, List.set_cons_zero, List.set_cons_succ])
          clear nc0 nc1 nc2 nc3
          clear nf0 nf1 nf2 nf3
          refine regA 13 14 (v := ?_) rfl rfl (by kernel_rfl) (by kernel_rfl) (by kernel_rfl) (fun _ _ _ h => h) (by rfl) (fun w => ?_) ?_; rotate_left; (go_simp; first | done | with_reducible rfl); (try simp only [Act.put, List.setIfInBounds_toArray, List.set_cons_zero, List.set_cons_succ])
          refine regAbs (fun W9 => W9.heap[b13]? = some (.cells (wcells [p0, p1, p2, p3]) 26) ∧ Mod [] wq W9) ⟨k13.out, hM9.out⟩ ?_
          rintro W10 hR
          refine regDone (by kernel_rfl) ?_ _
          exact KEY.out b13 W10 hR
        · go_wp2_with fail
          refine hK.out _ _ (fun _ h => ⟨h.1.mod ((Mod.refl [] _).alloc _) (by simp), get_alloc h.2.1 _, get_alloc h.2.2 _⟩) ?_
          clear hK
          (try simp only [Act.put, List.setIfInBounds_toArray, List.set_cons_zero, List.set_cons_succ])
          have gb13 : (wq.alloc (.cells #[.int .u64 0, .int .u64 0, .int .u64 0, .int .u64 0] 26 (0, 0))).heap[wq.heap.size]? = some (.cells (wcells [0, 0, 0, 0]) 26) := get_new wq _
          obtain ⟨b13, hb13⟩ : ∃ b, wq.heap.size = b := ⟨_, rfl⟩
          have lb13 : wq.heap.size ≤ b13 := by rw [← hb13]; exact hM.size
          rw [hb13] at gb13 ⊢
          have hM : Mod [] wq (wq.alloc (.cells #[.int .u64 0, .int .u64 0, .int .u64 0, .int .u64 0] 26 (0, 0))) := hM.alloc _
          generalize wq.alloc (.cells #[.int .u64 0, .int .u64 0, .int .u64 0, .int .u64 0] 26 (0, 0)) = wq1 at *
          refine regOnly 7 (by kernel_rfl) rfl (by rfl) (fun K hK => ?_)
          go_wp2_with (go_at_call 33; refine (CM.out _).mono ?_; rintro e wq2 ⟨rfl, hm⟩)
          refine hK.out _ _ (fun _ h => ⟨h.1.mod hm (by simp), hm.get h.2.1 (by simp), hm.get h.2.2 (by simp)⟩) ?_
          clear hK
          (try simp only [Act.put, List.setIfInBounds_toArray, List.set_cons_zero, List.set_cons_succ])
          have gb13 := hm.get gb13 (by simp)
          have hM := hM.trans hm
          clear hm
          refine regA 8 34 (v := ?_) rfl rfl (by kernel_rfl) (by kernel_rfl) (by kernel_rfl) (fun _ _ _ h => h) (by rfl) (fun w => ?_) ?_; rotate_left; (go_simp; first | done | with_reducible rfl); (try simp only [Act.put, List.setIfInBounds_toArray, List.set_cons_zero, List.set_cons_succ])
          refine regA 9 43 (v := ?_) rfl rfl (by kernel_rfl) (by kernel_rfl) (by kernel_rfl) (fun _ _ _ h => h) (by rfl) (fun w => ?_) ?_; rotate_left; (go_simp; first | done | with_reducible rfl); (try simp only [Act.put, List.setIfInBounds_toArray, List.set_cons_zero, List.set_cons_succ])
          refine regA 10 44 (v := ?_) rfl rfl (by kernel_rfl) (by kernel_rfl) (by kernel_rfl) (fun _ _ _ h => h) (by rfl) (fun w => ?_) ?_; rotate_left; (go_simp; first | done | with_reducible rfl); (try simp only [Act.put, List.setIfInBounds_toArray, List.set_cons_zero, List.set_cons_succ])
          have nc0 := cell_at gb13 0; have nc1 := cell_at gb13 1; have nc2 := cell_at gb13 2; have nc3 := cell_at gb13 3; simp only [wcells_get] at nc0 nc1 nc2 nc3
          have nf0 := free_at gb13 0; have nf1 := free_at gb13 1; have nf2 := free_at gb13 2; have nf3 := free_at gb13 3
          have k13 := hid (set4_at gb13 p0 p1 p2 p3)
          have hM9 := hid (set4_mod lb13 hM p0 p1 p2 p3)
          clear gb13 hM
          refine regOnly 12 (by kernel_rfl) rfl (by rfl) (fun K hK => ?_)
          go_wp2_with fail
          refine hK.out _ _ (fun h _ => absurd h (by decide)) ?_
          clear hK
          (try simp only [Act.put, List.setIfInBounds_toArray, List.set_cons_zero, List.set_cons_succ])
          clear nc0 nc1 nc2 nc3
          clear nf0 nf1 nf2 nf3
          refine regA 13 14 (v := ?_) rfl rfl (by kernel_rfl) (by kernel_rfl) (by kernel_rfl) (fun _ _ _ h => h) (by rfl) (fun w => ?_) ?_; rotate_left; (go_simp; first | done | with_reducible rfl); (try simp only [Act.put, List.setIfInBounds_toArray, List.set_cons_zero, List.set_cons_succ])
          refine regAbs (fun W9 => W9.heap[b13]? = some (.cells (wcells [p0, p1, p2, p3]) 26) ∧ Mod [] wq W9) ⟨k13.out, hM9.out⟩ ?_
          rintro W10 hR
          refine regDone (by kernel_rfl) ?_ _
          exact KEY.out b13 W10 hR
      · rintro b13 W5 ⟨g13, hm5⟩
        have hm6 := HMW.out.trans hm5
        have g10 := hm6.get HN.out.2.2.1 (by simp)
        have gz := hm6.get HN.out.2.2.2.1 (by simp)
        have uc0 := cell_at g10 0; have uc1 := cell_at g10 1; have uc2 := cell_at g10 2; have uc3 := cell_at g10 3; simp only [wcells_get] at uc0 uc1 uc2 uc3
        have pc0 := cell_at g13 0; have pc1 := cell_at g13 1; have pc2 := cell_at g13 2; have pc3 := cell_at g13 3; simp only [wcells_get] at pc0 pc1 pc2 pc3
        have zc0 := cell_at gz 0; have zc1 := cell_at gz 1; have zc2 := cell_at gz 2; have zc3 := cell_at gz 3; simp only [wcells_get] at zc0 zc1 zc2 zc3
        have H6 := hid (And.intro g10 hm6)
        clear g10 g13 gz hm5 hm6 HBX HMW
        go_wp2_with (go_at_call 34; refine (CA.out _).mono ?_; rintro e w6 ⟨rfl, hm1⟩; have H7 := hid (H6.out.2.trans hm1); have g10 := hm1.get H6.out.1 (by simp); have uc0 := cell_at g10 0; have uc1 := cell_at g10 1; have uc2 := cell_at g10 2; have uc3 := cell_at g10 3; simp only [wcells_get] at uc0 uc1 uc2 uc3; have uf0 := free_at g10 0; have uf1 := free_at g10 1; have uf2 := free_at g10 2; have uf3 := free_at g10 3; have k10 := hid (set4_at g10 s0 s1 s2 s3); clear hm1 g10)
        obtain ⟨slt, scg, -, -, hm, -, psm, hgk⟩ := HN.out
        go_roundg (gk - 1)
        case measure => omega
        case rel => exact ⟨k + 1, sm, rfl, by omega, slt, scg, by rw [psm]; exact k10.out, hm.trans (set4_modS' (S := [t10]) (b := t10) (by simp) (H7.out.mono (by simp)) _ _ _ _)⟩
    · have k1 : ¬ (k : Int) < (ps.length : Int) := by omega
      obtain rfl : k = ps.length := by omega
      have yc0 := cell_at g10 0; have yc1 := cell_at g10 1; have yc2 := cell_at g10 2; have yc3 := cell_at g10 3; simp only [wcells_get] at yc0 yc1 yc2 yc3
      have rc0 := cell_at gr 0; have rc1 := cell_at gr 1; have rc2 := cell_at gr 2; have rc3 := cell_at gr 3; simp only [wcells_get] at rc0 rc1 rc2 rc3
      have rf0 := free_at gr 0; have rf1 := free_at gr 1; have rf2 := free_at gr 2; have rf3 := free_at gr 3
      have g := hid (set4_at gr y0 y1 y2 y3)
      have HN := hid (And.intro hyq (And.intro hcy (And.intro hmA hy)))
      clear g10 gr gz hyq hcy hm hmA hrp hrf hy py
      go_wp2_with fail
      have g2 := g.out
      clear rc0 rc1 rc2 rc3
      clear rf0 rf1 rf2 rf3
      clear yc0 yc1 yc2 yc3
      have rc0 := cell_at g2 0; have rc1 := cell_at g2 1; have rc2 := cell_at g2 2; have rc3 := cell_at g2 3; simp only [wcells_get] at rc0 rc1 rc2 rc3
      obtain ⟨hyq, hcy, hmA, hy⟩ := HN.out
      have hmm := HM.out.1.trans' hmA (fun b hb => .inr (by have := HM.out; have := H2.out; rw [List.mem_singleton.1 hb]; omega))
      exact bodyPost_ret (v := .tuple #[.agg #[.int .u64 (y0 : Int), .int .u64 (y1 : Int), .int .u64 (y2 : Int), .int .u64 (y3 : Int)], .int .i64 0]) (by simp [results, Tryd.results13, go_sem, rc0, rc1, rc2, rc3]) rfl ⟨⟨y, hyq, fs, HF.out.1, HF.out.2.1, hcy, by rw [hy]⟩, set4_mod (by have := HM.out; omega) hmm _ _ _ _⟩
end Go.Proofs.YtdgmnhiffoemmaaDoor
