/-
  poly.factor, where all is right. No statement of a claim stands here; each contract names what it asks.
-/
import Derived.Test.YtdgmnhiffoemmaaDoorYM0
set_option linter.unusedSimpArgs false
namespace Go.Proofs.YtdgmnhiffoemmaaDoor
open Go Go.RowKit Go.ChangeMaps

/-- While the products run. -/
def FacRel (W : World) (t10 t11 q at_ i xi : Nat) (xs : List Nat) (gk : Nat) (v : Value) (w : World) : Prop :=
  ∃ k tp lw : Nat, v = .int .i64 k ∧ gk + k = xs.length ∧ tp < q ∧ lw < q ∧ Cg (q : Int) (tp : Int) (runN (zs xs) i (at_ : Int) k) ∧ Cg (q : Int) (lw : Int) (runN (zs xs) i (xi : Int) k) ∧
    w.heap[t10]? = some (.cells (wcells (parts tp 4)) 26) ∧ w.heap[t11]? = some (.cells (wcells (parts lw 4)) 26) ∧ Mod [t10, t11] W w
/-- What the loads read. -/
def SatF (t13 t4 g : Nat) (ys qs xs : List Nat) (w : World) : Prop := w.heap[t13]? = some (.cells (wcells ys) 26) ∧ w.heap[t4]? = some (.cells (wcells qs) 26) ∧ NatRow w g xs

set_option maxRecDepth 100000 in
set_option maxHeartbeats 8000000 in
theorem pfactor {q at_ i xi : Nat} (hq : q < NN) (hpr : ∀ d, d ∣ q → d = 1 ∨ d = q) (h2 : 2 ≤ q) (hat : at_ < NN) (xs : List Nat) (hxs : ∀ x ∈ xs, x < NN) (hn : xs.length ≤ 256) (hi : xs[i]? = some xi) (ho : Other q xs i xi) (g c : Nat) (w : World) (hg : NatRow w g xs) :
    Calls Tryd.prog 35 #[nv q, nv at_, .slice (some ⟨g, 0, none⟩) xs.length c, .int .i64 i] w fun e w' =>
      (∃ f u : Nat, f < q ∧ u < q ∧ Cg (q : Int) ((u : Int) * topN (zs xs) i (xi : Int)) 1 ∧ Cg (q : Int) (f : Int) (topN (zs xs) i (at_ : Int) * (u : Int)) ∧ e = .returned (.tuple #[nv f, .nilIface])) ∧ Mod [] w w' := by
  have hp : Prim (q : Int) := prim_of (by omega) hpr
  have cone := fun W => lof (x := 1) (by decide) W
  rw [nv_one] at cone
  obtain ⟨z0, z1, z2, z3, hz, pz⟩ := nv_lits q
  obtain ⟨a0, a1, a2, a3, ha, pa⟩ := nv_lits at_
  have HZ := hid (And.intro hz (And.intro ha (And.intro hq (And.intro hpr (And.intro h2 (And.intro hat (And.intro hxs (And.intro hi (And.intro ho (And.intro hp hg))))))))))
  rw [hz, ha]
  unfold lit4 at *
  have CONE := hid cone
  have n3 : (xs.length : Int) ≤ 256 := by omega
  clear hp cone hz ha hq hpr h2 hat hxs hi ho hg pz pa
  go_enter Tryd.func35, Tryd.ntmps35
  go_upto_region 1 with fail
  refine wp_abs (fun W => W.heap[w.heap.size]? = some (.cells (wcells [z0, z1, z2, z3]) 26) ∧ W.heap[w.heap.size + 1]? = some (.cells (wcells [a0, a1, a2, a3]) 26) ∧ W.heap[w.heap.size + 1 + 1]? = some (.cells (wcells [0, 0, 0, 0]) 26) ∧ Mod [] w W) ⟨three_a w _ _ _, three_b w _ _ _, three_c w _ _ _, (((Mod.refl _ _).alloc _).alloc _).alloc _⟩ ?_
  rintro W ⟨gz, ga, gr, hm⟩
  generalize hta : w.heap.size = ta at *
  generalize htb : ta + 1 = tb at *
  generalize htr : tb + 1 = tr at *
  have HM : Hid (Mod [] w W ∧ w.heap.size ≤ ta ∧ ta < tb ∧ tb < tr) := ⟨hm, by omega, by omega, by omega⟩
  have HG := hid (And.intro gz (And.intro ga gr))
  clear gz ga gr hm hta htb htr
  go_upto_region 2 with (go_at_call 30; refine (CONE.out _).mono ?_; rintro e w1 ⟨rfl, hm1⟩; first | (have H2 := hid (H1.out.trans hm1); clear hm1) | (have H1 := hid hm1; clear hm1))
  refine wp_abs (fun W2 => W2.heap[w1.heap.size]? = some (.cells (wcells [1, 0, 0, 0]) 26) ∧ W2.heap[w1.heap.size + 1]? = some (.cells (wcells [1, 0, 0, 0]) 26) ∧ Mod [] W W2) ⟨get_alloc (get_new _ _) _, two_b _ _ _, (H2.out.alloc _).alloc _⟩ ?_
  have hl10 : tr < w1.heap.size ∧ g < w1.heap.size := ⟨Nat.lt_of_lt_of_le (lt_of_block HG.out.2.2) H2.out.size, Nat.lt_of_lt_of_le HZ.out.2.2.2.2.2.2.2.2.2.2.lt (Nat.le_trans HM.out.1.size H2.out.size)⟩
  generalize ht10 : w1.heap.size = t10 at *
  generalize ht11 : t10 + 1 = t11 at *
  rintro W2 ⟨g10, g11, hm2⟩
  have HT : Hid (tr < t10 ∧ g < t10 ∧ t10 < t11) := ⟨hl10.1, hl10.2, by omega⟩
  have HP2 := hid (And.intro g10 (And.intro g11 hm2))
  clear ht10 ht11 hl10 g10 g11 hm2 H1 H2
  go_wp2_with fail
  go_loopg [26] xs.length (fun gk v W' => FacRel W2 t10 t11 q at_ i xi xs gk v W')
  case atStart =>
    have h2 := HZ.out.2.2.2.2.1
    have e1 : parts 1 4 = [1, 0, 0, 0] := by simp [parts, BB]
    refine ⟨0, 1, 1, rfl, rfl, by omega, by omega, ?_, ?_, by rw [e1]; exact HP2.out.1, by rw [e1]; exact HP2.out.2.1, Mod.refl _ _⟩
    · rw [runN_zero]; exact one_cg
    · rw [runN_zero]; exact one_cg
  case round =>
    obtain ⟨k, tp, lw, rfl, hgk, htp, hlw, ct, cl, g10, g11, hm⟩ := hrel
    obtain ⟨hz, ha, hq, hpr, h2, hat, hxs, hi, ho, hp, hg⟩ := HZ.out
    have hq0 : q ≠ 0 := by omega
    have hm2 : Mod [t10, t11] W wr := (HP2.out.2.2.mono (by simp)).trans hm
    have gz := hm2.get HG.out.1 (by have := HT.out; have := HM.out; simp only [List.mem_cons, List.not_mem_nil, or_false]; omega)
    have ga := hm2.get HG.out.2.1 (by have := HT.out; have := HM.out; simp only [List.mem_cons, List.not_mem_nil, or_false]; omega)
    have gr := hm2.get HG.out.2.2 (by have := HT.out; have := HM.out; simp only [List.mem_cons, List.not_mem_nil, or_false]; omega)
    have hrow := (hg.mod HM.out.1 (by simp)).mod hm2 (by have := HT.out; simp only [List.mem_cons, List.not_mem_nil, or_false]; omega)
    obtain ⟨u0, u1, u2, u3, hu, pu⟩ := nv_lits tp
    obtain ⟨v0, v1, v2, v3, hv, pv⟩ := nv_lits lw
    unfold lit4 at hu hv
    rw [pu] at g10
    rw [pv] at g11
    by_cases hk : k < xs.length
    · have k0 : (0 : Int) ≤ (k : Int) := by omega
      have k1 : (k : Int) < (xs.length : Int) := by omega
      obtain ⟨x, hx⟩ : ∃ x, xs[k]? = some x := ⟨_, List.getElem?_eq_getElem hk⟩
      have hxN := hxs x (List.mem_of_getElem? hx)
      have hxiN := hxs xi (List.mem_of_getElem? hi)
      obtain ⟨x0, x1, x2, x3, hxx, px⟩ := nv_lits x
      unfold lit4 at hxx
      obtain ⟨xc0, xc1, xc2, xc3⟩ := hrow.cells hx px
      by_cases hki : k = i
      · subst hki
        have ct2 : Cg (q : Int) (tp : Int) (runN (zs xs) k (at_ : Int) (k + 1)) := by rw [runN_skip (zs_get hi)]; exact ct
        have cl2 : Cg (q : Int) (lw : Int) (runN (zs xs) k (xi : Int) (k + 1)) := by rw [runN_skip (zs_get hi)]; exact cl
        have HN := hid (And.intro ct2 (And.intro cl2 (And.intro htp (And.intro hlw (And.intro g10 (And.intro g11 (And.intro hm (And.intro pu (And.intro pv hgk)))))))))
        clear ct cl ct2 cl2 htp hlw g10 g11 hm hm2 gz ga gr hrow hu hv pu pv hz ha hq hpr h2 hat hxs hi ho hp hg hq0 hx hxN hxiN hxx px
        go_wp2_with fail
        obtain ⟨ct2, cl2, htp, hlw, g10, g11, hm, pu, pv, hgk⟩ := HN.out
        have hma : ∀ o : Obj, Mod [t10, t11] wr (wr.alloc o) := fun o => (Mod.refl _ _).alloc _
        go_roundg (gk - 1)
        case measure => omega
        case rel => exact ⟨k + 1, tp, lw, rfl, by omega, htp, hlw, ct2, cl2, by rw [pu]; exact get_alloc g10 _, by rw [pv]; exact get_alloc g11 _, hm.alloc _⟩
      · have hki' : ((k : Int) == (i : Int)) = false := by simp; omega
        have csa := fun W => msub hat hxN hq hq0 W
        have cse := fun W => msub hxiN hxN hq hq0 W
        have dlt : (at_ % q + q - x % q) % q < q := Nat.mod_lt _ (by omega)
        have elt : (xi % q + q - x % q) % q < q := Nat.mod_lt _ (by omega)
        have dcg : Cg (q : Int) (((at_ % q + q - x % q) % q : Nat) : Int) ((at_ : Int) - (x : Int)) := sub_cg (by omega)
        have ecg : Cg (q : Int) (((xi % q + q - x % q) % q : Nat) : Int) ((xi : Int) - (x : Int)) := sub_cg (by omega)
        generalize (at_ % q + q - x % q) % q = dd at *
        generalize (xi % q + q - x % q) % q = ee at *
        have ctm := fun W => mmul (a := tp) (b := dd) (m := q) (by omega) (by omega) hq hq0 W
        have clm := fun W => mmul (a := lw) (b := ee) (m := q) (by omega) (by omega) hq hq0 W
        have tlt : tp * dd % q < q := Nat.mod_lt _ (by omega)
        have llt : lw * ee % q < q := Nat.mod_lt _ (by omega)
        have ct2 : Cg (q : Int) ((tp * dd % q : Nat) : Int) (runN (zs xs) i (at_ : Int) (k + 1)) := by rw [runN_step (zs_get hx) hki]; exact mul_cg ct dcg
        have cl2 : Cg (q : Int) ((lw * ee % q : Nat) : Int) (runN (zs xs) i (xi : Int) (k + 1)) := by rw [runN_step (zs_get hx) hki]; exact mul_cg cl ecg
        have hl0 : ¬ lw * ee % q = 0 := fun h => not_zero cl2 (run_not hp ho (k + 1)) (by rw [h]; exact ⟨0, rfl⟩)
        generalize tp * dd % q = mm at *
        generalize lw * ee % q = nn at *
        have ceq := fun W => equalIn_nv (a := nn) (b := 0) (by omega) NN_pos W
        simp only [decide_eq_false hl0] at ceq
        obtain ⟨d0, d1, d2, d3, hd, pd⟩ := nv_lits dd
        obtain ⟨e0, e1, e2, e3, he, pe⟩ := nv_lits ee
        obtain ⟨m0, m1, m2, m3, hmm, pm⟩ := nv_lits mm
        obtain ⟨n0, n1, n2, n3', hnn, pn⟩ := nv_lits nn
        obtain ⟨c0, c1, c2, c3, hci, pci⟩ := nv_lits xi
        unfold lit4 at hd he hmm hnn hci
        rw [ha, hxx, hz, hd] at csa
        rw [hci, hxx, hz, he] at cse
        rw [hu, hd, hz, hmm] at ctm
        rw [hv, he, hz, hnn] at clm
        rw [hnn, nv_zero] at ceq
        have CA := hid csa
        have CE := hid cse
        have CT := hid ctm
        have CL := hid clm
        have HXI := hid (And.intro hi pci)
        have HN := hid (And.intro ct2 (And.intro cl2 (And.intro tlt (And.intro llt (And.intro g10 (And.intro g11 (And.intro hm (And.intro pm (And.intro pn (And.intro hgk (And.intro gz (And.intro ga hrow))))))))))))
        have i0 : (0 : Int) ≤ (i : Int) := by omega
        have i1 : (i : Int) < (xs.length : Int) := by have := (List.getElem?_eq_some_iff.1 hi).1; omega
        clear ct cl ct2 cl2 tlt llt dlt elt dcg ecg hl0 htp hlw g10 g11 hm hm2 gz ga gr hrow hu hv pu pv hz ha hq hpr h2 hat hxs hi ho hp hg hq0 hx hxN hxiN hxx px csa cse ctm clm hd he hmm hnn hci pd pe pm pn pci
        go_upto_region 6 with fail
        refine wp_abs (fun W3 => W3.heap[wr.heap.size]? = some (.cells (wcells [x0, x1, x2, x3]) 26) ∧ Mod [] wr W3) ⟨get_new _ _, (Mod.refl _ _).alloc _⟩ ?_
        generalize wr.heap.size = t13 at *
        rintro W3 ⟨g13, hm3⟩
        have gz := hm3.get HN.out.2.2.2.2.2.2.2.2.2.2.1 (by simp)
        have ga := hm3.get HN.out.2.2.2.2.2.2.2.2.2.2.2.1 (by simp)
        have xc0 := cell_at g13 0; have xc1 := cell_at g13 1; have xc2 := cell_at g13 2; have xc3 := cell_at g13 3; simp only [wcells_get] at xc0 xc1 xc2 xc3
        have zc0 := cell_at gz 0; have zc1 := cell_at gz 1; have zc2 := cell_at gz 2; have zc3 := cell_at gz 3; simp only [wcells_get] at zc0 zc1 zc2 zc3
        have ac0 := cell_at ga 0; have ac1 := cell_at ga 1; have ac2 := cell_at ga 2; have ac3 := cell_at ga 3; simp only [wcells_get] at ac0 ac1 ac2 ac3
        have H3 := hid (And.intro g13 hm3)
        clear g13 hm3 gz ga
        go_upto_region 7 with (go_at_call 51; refine (CA.out _).mono ?_; rintro e w4 ⟨rfl, hm1⟩; have H4 := hid hm1; clear hm1)
        clear xc0 xc1 xc2 xc3
        clear zc0 zc1 zc2 zc3
        clear ac0 ac1 ac2 ac3
        refine wp_abs (fun W4 => W4.heap[w4.heap.size]? = some (.cells (wcells [d0, d1, d2, d3]) 26) ∧ Mod [] W3 W4) ⟨get_new _ _, H4.out.alloc _⟩ ?_
        generalize w4.heap.size = t14 at *
        rintro W4 ⟨g14, hm4⟩
        have hbx : SatF t13 ta g [x0, x1, x2, x3] [z0, z1, z2, z3] xs W4.drew := ⟨hm4.drew.get H3.out.1 (by simp), (H3.out.2.trans hm4.drew).get HN.out.2.2.2.2.2.2.2.2.2.2.1 (by simp), HN.out.2.2.2.2.2.2.2.2.2.2.2.2.mod (H3.out.2.trans hm4.drew) (by simp)⟩
        have hmw : Mod [] W4 W4.drew := (Mod.refl _ _).drew
        have H5 := hid (And.intro g14 (H3.out.2.trans hm4))
        clear g14 hm4 H3 H4
        refine wp_region_N (SatF t13 ta g [x0, x1, x2, x3] [z0, z1, z2, z3] xs) (fun i => !(i == 11 || i == 12)) (by kernel_rfl) ?_
        generalize W4.drew = wq at *
        have HBX := hid hbx
        have HMW := hid hmw
        clear hbx hmw
        apply merge1 (R := fun b16 W9 => W9.heap[b16]? = some (.cells (wcells [e0, e1, e2, e3]) 26) ∧ Mod [] wq W9 ∧ wq.heap.size ≤ b16)
        · intro key
          have KEY := hid key
          clear key
          have hS := HBX.out
          refine regA 0 42 (v := ?_) rfl rfl (by kernel_rfl) (by kernel_rfl) (by kernel_rfl) (fun _ _ _ h => h) (by rfl) (fun w => ?_) ?_; rotate_left; (go_simp; first | done | with_reducible rfl); (try simp only [Act.put, List.setIfInBounds_toArray, List.set_cons_zero, List.set_cons_succ])
          refine regA 1 43 (v := ?_) rfl rfl (by kernel_rfl) (by kernel_rfl) (by kernel_rfl) (fun _ _ _ h => h) (by rfl) (fun w => ?_) ?_; rotate_left; (go_simp; first | done | with_reducible rfl); (try simp only [Act.put, List.setIfInBounds_toArray, List.set_cons_zero, List.set_cons_succ])
          refine regA 2 44 (v := .pointer (some ⟨g, i * 4, none⟩)) rfl rfl (by kernel_rfl) (by kernel_rfl) (by kernel_rfl) (fun _ _ _ h => h) (by rfl) (fun w => ?_) ?_
          · go_simp
          (try simp only [Act.put, List.setIfInBounds_toArray, List.set_cons_zero, List.set_cons_succ])
          refine regS 3 45 (v := ?_) hS rfl rfl (by kernel_rfl) (by kernel_rfl) (by kernel_rfl) (by kernel_rfl) (fun _ _ _ h => h) (by rfl) (fun w hSw => ?_) ?_; rotate_left; (obtain ⟨qc0, qc1, qc2, qc3⟩ := hSw.2.2.cells HXI.out.1 HXI.out.2; go_simp; first | done | with_reducible rfl); (try simp only [Act.put, List.setIfInBounds_toArray, List.set_cons_zero, List.set_cons_succ])
          refine regS 4 46 (v := ?_) hS rfl rfl (by kernel_rfl) (by kernel_rfl) (by kernel_rfl) (by kernel_rfl) (fun _ _ _ h => h) (by rfl) (fun w hSw => ?_) ?_; rotate_left; (have qc0 := cell_at hSw.1 0; have qc1 := cell_at hSw.1 1; have qc2 := cell_at hSw.1 2; have qc3 := cell_at hSw.1 3; simp only [wcells_get] at qc0 qc1 qc2 qc3; go_simp; first | done | with_reducible rfl); (try simp only [Act.put, List.setIfInBounds_toArray, List.set_cons_zero, List.set_cons_succ])
          refine regS 5 47 (v := ?_) hS rfl rfl (by kernel_rfl) (by kernel_rfl) (by kernel_rfl) (by kernel_rfl) (fun _ _ _ h => h) (by rfl) (fun w hSw => ?_) ?_; rotate_left; (have qc0 := cell_at hSw.2.1 0; have qc1 := cell_at hSw.2.1 1; have qc2 := cell_at hSw.2.1 2; have qc3 := cell_at hSw.2.1 3; simp only [wcells_get] at qc0 qc1 qc2 qc3; go_simp; first | done | with_reducible rfl); (try simp only [Act.put, List.setIfInBounds_toArray, List.set_cons_zero, List.set_cons_succ])
          clear hS
          have hM := Mod.refl [] wq
          refine regTwo 6 10 (by kernel_rfl) rfl (by rfl) rfl (by rfl) (fun K hK => ?_) (fun K hK => ?_)
          · go_wp2_with (go_at_call 51; refine (CE.out _).mono ?_; rintro e wq1 ⟨rfl, hm⟩)
            refine hK.out _ _ (fun _ h => ⟨hm.get h.1 (by simp), hm.get h.2.1 (by simp), h.2.2.mod hm (by simp)⟩) ?_
            clear hK
            (try simp only [Act.put, List.setIfInBounds_toArray, List.set_cons_zero, List.set_cons_succ])
            have hM := hM.trans hm
            clear hm
            refine regA 7 41 (v := ?_) rfl rfl (by kernel_rfl) (by kernel_rfl) (by kernel_rfl) (fun _ _ _ h => h) (by rfl) (fun w => ?_) ?_; rotate_left; (go_simp; first | done | with_reducible rfl); (try simp only [Act.put, List.setIfInBounds_toArray, List.set_cons_zero, List.set_cons_succ])
            refine regA 8 49 (v := ?_) rfl rfl (by kernel_rfl) (by kernel_rfl) (by kernel_rfl) (fun _ _ _ h => h) (by rfl) (fun w => ?_) ?_; rotate_left; (go_simp; first | done | with_reducible rfl); (try simp only [Act.put, List.setIfInBounds_toArray, List.set_cons_zero, List.set_cons_succ])
            refine regA 9 50 (v := ?_) rfl rfl (by kernel_rfl) (by kernel_rfl) (by kernel_rfl) (fun _ _ _ h => h) (by rfl) (fun w => ?_) ?_; rotate_left; (go_simp; first | done | with_reducible rfl); (try simp only [Act.put, List.setIfInBounds_toArray, List.set_cons_zero, List.set_cons_succ])
            refine regOnly 10 (by kernel_rfl) rfl (by rfl) (fun K hK => ?_)
            go_wp2_with fail
            refine hK.out _ _ (fun _ h => ⟨get_alloc h.1 _, get_alloc h.2.1 _, h.2.2.mod ((Mod.refl [] _).alloc _) (by simp)⟩) ?_
            clear hK
            (try simp only [Act.put, List.setIfInBounds_toArray, List.set_cons_zero, List.set_cons_succ])
            have gb16 : (wq1.alloc (.cells #[.int .u64 0, .int .u64 0, .int .u64 0, .int .u64 0] 26 (0, 0))).heap[wq1.heap.size]? = some (.cells (wcells [0, 0, 0, 0]) 26) := get_new wq1 _
            obtain ⟨b16, hb16⟩ : ∃ b, wq1.heap.size = b := ⟨_, rfl⟩
            have lb16 : wq.heap.size ≤ b16 := by rw [← hb16]; exact hM.size
            rw [hb16] at gb16 ⊢
            have hM : Mod [] wq (wq1.alloc (.cells #[.int .u64 0, .int .u64 0, .int .u64 0, .int .u64 0] 26 (0, 0))) := hM.alloc _
            generalize wq1.alloc (.cells #[.int .u64 0, .int .u64 0, .int .u64 0, .int .u64 0] 26 (0, 0)) = wq2 at *
            have nc0 := cell_at gb16 0; have nc1 := cell_at gb16 1; have nc2 := cell_at gb16 2; have nc3 := cell_at gb16 3; simp only [wcells_get] at nc0 nc1 nc2 nc3
            have nf0 := free_at gb16 0; have nf1 := free_at gb16 1; have nf2 := free_at gb16 2; have nf3 := free_at gb16 3
            have k16 := hid (set4_at gb16 e0 e1 e2 e3)
            have hM9 := hid (set4_mod lb16 hM e0 e1 e2 e3)
            clear gb16 hM
            refine regOnly 11 (by kernel_rfl) rfl (by rfl) (fun K hK => ?_)
            go_wp2_with fail
            refine hK.out _ _ (fun h _ => absurd h (by decide)) ?_
            clear hK
            (try simp only [Act.put, List.setIfInBounds_toArray, List.set_cons_zero, List.set_cons_succ])
            clear nc0 nc1 nc2 nc3
            clear nf0 nf1 nf2 nf3
            refine regA 12 17 (v := ?_) rfl rfl (by kernel_rfl) (by kernel_rfl) (by kernel_rfl) (fun _ _ _ h => h) (by rfl) (fun w => ?_) ?_; rotate_left; (go_simp; first | done | with_reducible rfl); (try simp only [Act.put, List.setIfInBounds_toArray, List.set_cons_zero, List.set_cons_succ])
            refine regAbs (fun W9 => W9.heap[b16]? = some (.cells (wcells [e0, e1, e2, e3]) 26) ∧ Mod [] wq W9 ∧ wq.heap.size ≤ b16) ⟨k16.out, hM9.out, lb16⟩ ?_
            rintro W10 hR
            refine regDone (by kernel_rfl) ?_ _
            exact KEY.out b16 W10 hR
          · go_wp2_with fail
            refine hK.out _ _ (fun _ h => ⟨get_alloc h.1 _, get_alloc h.2.1 _, h.2.2.mod ((Mod.refl [] _).alloc _) (by simp)⟩) ?_
            clear hK
            (try simp only [Act.put, List.setIfInBounds_toArray, List.set_cons_zero, List.set_cons_succ])
            have gb16 : (wq.alloc (.cells #[.int .u64 0, .int .u64 0, .int .u64 0, .int .u64 0] 26 (0, 0))).heap[wq.heap.size]? = some (.cells (wcells [0, 0, 0, 0]) 26) := get_new wq _
            obtain ⟨b16, hb16⟩ : ∃ b, wq.heap.size = b := ⟨_, rfl⟩
            have lb16 : wq.heap.size ≤ b16 := by rw [← hb16]; exact hM.size
            rw [hb16] at gb16 ⊢
            have hM : Mod [] wq (wq.alloc (.cells #[.int .u64 0, .int .u64 0, .int .u64 0, .int .u64 0] 26 (0, 0))) := hM.alloc _
            generalize wq.alloc (.cells #[.int .u64 0, .int .u64 0, .int .u64 0, .int .u64 0] 26 (0, 0)) = wq1 at *
            refine regOnly 6 (by kernel_rfl) rfl (by rfl) (fun K hK => ?_)
            go_wp2_with (go_at_call 51; refine (CE.out _).mono ?_; rintro e wq2 ⟨rfl, hm⟩)
            refine hK.out _ _ (fun _ h => ⟨hm.get h.1 (by simp), hm.get h.2.1 (by simp), h.2.2.mod hm (by simp)⟩) ?_
            clear hK
            (try simp only [Act.put, List.setIfInBounds_toArray, List.set_cons_zero, List.set_cons_succ])
            have gb16 := hm.get gb16 (by simp)
            have hM := hM.trans hm
            clear hm
            refine regA 7 41 (v := ?_) rfl rfl (by kernel_rfl) (by kernel_rfl) (by kernel_rfl) (fun _ _ _ h => h) (by rfl) (fun w => ?_) ?_; rotate_left; (go_simp; first | done | with_reducible rfl); (try simp only [Act.put, List.setIfInBounds_toArray, List.set_cons_zero, List.set_cons_succ])
            refine regA 8 49 (v := ?_) rfl rfl (by kernel_rfl) (by kernel_rfl) (by kernel_rfl) (fun _ _ _ h => h) (by rfl) (fun w => ?_) ?_; rotate_left; (go_simp; first | done | with_reducible rfl); (try simp only [Act.put, List.setIfInBounds_toArray, List.set_cons_zero, List.set_cons_succ])
            refine regA 9 50 (v := ?_) rfl rfl (by kernel_rfl) (by kernel_rfl) (by kernel_rfl) (fun _ _ _ h => h) (by rfl) (fun w => ?_) ?_; rotate_left; (go_simp; first | done | with_reducible rfl); (try simp only [Act.put, List.setIfInBounds_toArray, List.set_cons_zero, List.set_cons_succ])
            have nc0 := cell_at gb16 0; have nc1 := cell_at gb16 1; have nc2 := cell_at gb16 2; have nc3 := cell_at gb16 3; simp only [wcells_get] at nc0 nc1 nc2 nc3
            have nf0 := free_at gb16 0; have nf1 := free_at gb16 1; have nf2 := free_at gb16 2; have nf3 := free_at gb16 3
            have k16 := hid (set4_at gb16 e0 e1 e2 e3)
            have hM9 := hid (set4_mod lb16 hM e0 e1 e2 e3)
            clear gb16 hM
            refine regOnly 11 (by kernel_rfl) rfl (by rfl) (fun K hK => ?_)
            go_wp2_with fail
            refine hK.out _ _ (fun h _ => absurd h (by decide)) ?_
            clear hK
            (try simp only [Act.put, List.setIfInBounds_toArray, List.set_cons_zero, List.set_cons_succ])
            clear nc0 nc1 nc2 nc3
            clear nf0 nf1 nf2 nf3
            refine regA 12 17 (v := ?_) rfl rfl (by kernel_rfl) (by kernel_rfl) (by kernel_rfl) (fun _ _ _ h => h) (by rfl) (fun w => ?_) ?_; rotate_left; (go_simp; first | done | with_reducible rfl); (try simp only [Act.put, List.setIfInBounds_toArray, List.set_cons_zero, List.set_cons_succ])
            refine regAbs (fun W9 => W9.heap[b16]? = some (.cells (wcells [e0, e1, e2, e3]) 26) ∧ Mod [] wq W9 ∧ wq.heap.size ≤ b16) ⟨k16.out, hM9.out, lb16⟩ ?_
            rintro W10 hR
            refine regDone (by kernel_rfl) ?_ _
            exact KEY.out b16 W10 hR
        · rintro b16 W5 ⟨g16, hm5, l16⟩
          have HB16 := hid (Nat.le_trans (H5.out.2.trans HMW.out).size l16)
          clear l16
          have hm6 := H5.out.2.trans (HMW.out.trans hm5)
          have g14 := (HMW.out.trans hm5).get H5.out.1 (by simp)
          have gz := hm6.get HN.out.2.2.2.2.2.2.2.2.2.2.1 (by simp)
          have g10 := hm6.get HN.out.2.2.2.2.1 (by simp)
          have uc0 := cell_at g10 0; have uc1 := cell_at g10 1; have uc2 := cell_at g10 2; have uc3 := cell_at g10 3; simp only [wcells_get] at uc0 uc1 uc2 uc3
          have dc0 := cell_at g14 0; have dc1 := cell_at g14 1; have dc2 := cell_at g14 2; have dc3 := cell_at g14 3; simp only [wcells_get] at dc0 dc1 dc2 dc3
          have zc0 := cell_at gz 0; have zc1 := cell_at gz 1; have zc2 := cell_at gz 2; have zc3 := cell_at gz 3; simp only [wcells_get] at zc0 zc1 zc2 zc3
          have H6 := hid (And.intro g16 (And.intro gz hm6))
          clear g16 hm5 hm6 g14 gz g10 HBX HMW H5
          go_upto_region 9 with (go_at_call 33; refine (CT.out _).mono ?_; rintro e w6 ⟨rfl, hm1⟩; have H7 := hid hm1; have g10 := hm1.get (H6.out.2.2.get HN.out.2.2.2.2.1 (by simp)) (by simp); have uc0 := cell_at g10 0; have uc1 := cell_at g10 1; have uc2 := cell_at g10 2; have uc3 := cell_at g10 3; simp only [wcells_get] at uc0 uc1 uc2 uc3; have uf0 := free_at g10 0; have uf1 := free_at g10 1; have uf2 := free_at g10 2; have uf3 := free_at g10 3; clear hm1 g10)
          clear uc0 uc1 uc2 uc3
          clear uf0 uf1 uf2 uf3
          clear dc0 dc1 dc2 dc3
          clear zc0 zc1 zc2 zc3
          refine wp_abs (fun W6 => W6.heap[t10]? = some (.cells (wcells [m0, m1, m2, m3]) 26) ∧ W6.heap[b16]? = some (.cells (wcells [e0, e1, e2, e3]) 26) ∧ W6.heap[ta]? = some (.cells (wcells [z0, z1, z2, z3]) 26) ∧ W6.heap[t11]? = some (.cells (wcells [v0, v1, v2, v3]) 26) ∧ Mod [t10, t11] wr W6) ?_ ?_
          · have hne : ta ≠ t10 ∧ t11 ≠ t10 := by have := HT.out; have := HM.out; omega
            have hb16 : b16 ≠ t10 := by have := lt_of_block HN.out.2.2.2.2.1; have := HB16.out; omega
            have hmm := H6.out.2.2.trans H7.out
            exact ⟨set4_at (hmm.get HN.out.2.2.2.2.1 (by simp)) m0 m1 m2 m3, set4_keep (H7.out.get H6.out.1 (by simp)) hb16 _ _ _ _, set4_keep (H7.out.get H6.out.2.1 (by simp)) hne.1 _ _ _ _, set4_keep (hmm.get HN.out.2.2.2.2.2.1 (by simp)) hne.2 _ _ _ _, set4_modS' (S := [t10, t11]) (b := t10) (by simp) (hmm.mono (by simp)) _ _ _ _⟩
          rintro W6 ⟨g10, g16, gz, g11, hm6⟩
          have vc0 := cell_at g11 0; have vc1 := cell_at g11 1; have vc2 := cell_at g11 2; have vc3 := cell_at g11 3; simp only [wcells_get] at vc0 vc1 vc2 vc3
          have vf0 := free_at g11 0; have vf1 := free_at g11 1; have vf2 := free_at g11 2; have vf3 := free_at g11 3
          have ec0 := cell_at g16 0; have ec1 := cell_at g16 1; have ec2 := cell_at g16 2; have ec3 := cell_at g16 3; simp only [wcells_get] at ec0 ec1 ec2 ec3
          have zc0 := cell_at gz 0; have zc1 := cell_at gz 1; have zc2 := cell_at gz 2; have zc3 := cell_at gz 3; simp only [wcells_get] at zc0 zc1 zc2 zc3
          have H8 := hid (And.intro g10 (And.intro g11 hm6))
          clear g10 g16 gz g11 hm6 H6 H7
          go_upto_region 10 with (go_at_call 33; refine (CL.out _).mono ?_; rintro e w7 ⟨rfl, hm1⟩; have H7 := hid hm1; have g11 := hm1.get H8.out.2.1 (by simp); have vc0 := cell_at g11 0; have vc1 := cell_at g11 1; have vc2 := cell_at g11 2; have vc3 := cell_at g11 3; simp only [wcells_get] at vc0 vc1 vc2 vc3; have vf0 := free_at g11 0; have vf1 := free_at g11 1; have vf2 := free_at g11 2; have vf3 := free_at g11 3; clear hm1 g11)
          clear vc0 vc1 vc2 vc3
          clear vf0 vf1 vf2 vf3
          clear ec0 ec1 ec2 ec3
          clear zc0 zc1 zc2 zc3
          refine wp_abs (fun W7 => W7.heap[t10]? = some (.cells (wcells [m0, m1, m2, m3]) 26) ∧ W7.heap[t11]? = some (.cells (wcells [n0, n1, n2, n3']) 26) ∧ Mod [t10, t11] wr W7) ?_ ?_
          · have hne : t10 ≠ t11 := by have := HT.out; omega
            exact ⟨set4_keep (H7.out.get H8.out.1 (by simp)) hne _ _ _ _, set4_at (H7.out.get H8.out.2.1 (by simp)) n0 n1 n2 n3', set4_modS' (S := [t10, t11]) (b := t11) (by simp) (H8.out.2.2.trans (H7.out.mono (by simp))) _ _ _ _⟩
          rintro W7 ⟨g10, g11, hm7⟩
          have vc0 := cell_at g11 0; have vc1 := cell_at g11 1; have vc2 := cell_at g11 2; have vc3 := cell_at g11 3; simp only [wcells_get] at vc0 vc1 vc2 vc3
          have H9 := hid (And.intro g10 (And.intro g11 hm7))
          clear g10 g11 hm7 H7 H8
          go_wp2_with (simp only [ceq])
          obtain ⟨ct2, cl2, tlt, llt, -, -, hm, pm, pn, hgk, -, -, -⟩ := HN.out
          go_roundg (gk - 1)
          case measure => omega
          case rel => exact ⟨k + 1, mm, nn, rfl, by omega, tlt, llt, ct2, cl2, by rw [pm]; exact H9.out.1, by rw [pn]; exact H9.out.2.1, hm.trans H9.out.2.2⟩
    · have k1 : ¬ (k : Int) < (xs.length : Int) := by omega
      obtain rfl : k = xs.length := by omega
      have eall : ∀ y : Int, runN (zs xs) i y xs.length = topN (zs xs) i y := fun y => by
        have := runN_all (zs xs) i y
        rwa [zs_len] at this
      rw [eall] at ct cl
      have hnd : ¬ q ∣ lw := by
        have h := run_not hp ho xs.length
        rw [eall] at h
        exact not_zero cl h
      have hgc : Nat.gcd lw q = 1 := gcd_prim hpr hnd
      have cinv := fun W => minverse (a := lw) (m := q) (by omega) hq (by omega) hgc W
      rw [hv, hz] at cinv
      have CI := hid cinv
      have cmu := fun (f : Nat) (hf : f < q) W => mmul (a := tp) (b := f) (m := q) (by omega) (by omega) hq hq0 W
      rw [hu, hz] at cmu
      have CM := hid cmu
      have vc0 := cell_at g11 0; have vc1 := cell_at g11 1; have vc2 := cell_at g11 2; have vc3 := cell_at g11 3; simp only [wcells_get] at vc0 vc1 vc2 vc3
      have zc0 := cell_at gz 0; have zc1 := cell_at gz 1; have zc2 := cell_at gz 2; have zc3 := cell_at gz 3; simp only [wcells_get] at zc0 zc1 zc2 zc3
      have HN := hid (And.intro g10 (And.intro gz (And.intro gr (And.intro hm2 (And.intro ct (And.intro cl (by omega : 0 < q)))))))
      clear ct cl htp hlw g10 g11 hm hm2 gz ga gr hrow hu hv pu pv hz ha hq hpr h2 hat hxs hi ho hp hg hq0 eall hnd hgc cinv cmu hgk hk
      go_upto_region 14 with (go_at_call 52; refine (CI.out _).mono ?_; rintro e w3 ⟨⟨f, hfq, hfc, rfl⟩, hm1⟩; obtain ⟨f0, f1, f2, f3, hf, -⟩ := nv_lits f; unfold lit4 at hf; rw [hf]; have H3 := hid (And.intro hfq (And.intro hfc (And.intro hf hm1))); clear hfq hfc hf hm1)
      clear vc0 vc1 vc2 vc3
      clear zc0 zc1 zc2 zc3
      refine wp_abs (fun W3 => W3.heap[w3.heap.size]? = some (.cells (wcells [f0, f1, f2, f3]) 26) ∧ Mod [] wr W3) ⟨get_new _ _, H3.out.2.2.2.alloc _⟩ ?_
      generalize w3.heap.size = t18 at *
      rintro W3 ⟨g18, hm3⟩
      have g10 := hm3.get HN.out.1 (by simp)
      have gz := hm3.get HN.out.2.1 (by simp)
      have cmu := CM.out f H3.out.1
      rw [H3.out.2.2.1] at cmu
      have rlt : tp * f % q < q := Nat.mod_lt _ HN.out.2.2.2.2.2.2
      have rcg : Cg (q : Int) ((tp * f % q : Nat) : Int) (topN (zs xs) i (at_ : Int) * (f : Int)) := mul_cg HN.out.2.2.2.2.1 (Cg.refl _ _)
      have ucg : Cg (q : Int) ((f : Int) * topN (zs xs) i (xi : Int)) 1 := ((Cg.refl _ _).mul HN.out.2.2.2.2.2.1.symm).trans H3.out.2.1
      generalize tp * f % q = res at *
      obtain ⟨r0, r1, r2, r3, hr, -⟩ := nv_lits res
      unfold lit4 at hr
      rw [hr] at cmu
      have CU := hid cmu
      have uc0 := cell_at g10 0; have uc1 := cell_at g10 1; have uc2 := cell_at g10 2; have uc3 := cell_at g10 3; simp only [wcells_get] at uc0 uc1 uc2 uc3
      have fc0 := cell_at g18 0; have fc1 := cell_at g18 1; have fc2 := cell_at g18 2; have fc3 := cell_at g18 3; simp only [wcells_get] at fc0 fc1 fc2 fc3
      have zc0 := cell_at gz 0; have zc1 := cell_at gz 1; have zc2 := cell_at gz 2; have zc3 := cell_at gz 3; simp only [wcells_get] at zc0 zc1 zc2 zc3
      have HO := hid (And.intro rlt (And.intro rcg (And.intro ucg (And.intro hr (And.intro H3.out.1 hm3)))))
      clear g10 gz g18 hm3 rlt rcg ucg hr cmu H3
      go_upto_region 17 with (go_at_call 33; refine (CU.out _).mono ?_; rintro e w4 ⟨rfl, hm1⟩; have H4 := hid hm1; clear hm1)
      clear uc0 uc1 uc2 uc3
      clear fc0 fc1 fc2 fc3
      clear zc0 zc1 zc2 zc3
      refine wp_abs (fun W4 => W4.heap[w4.heap.size]? = some (.cells (wcells [r0, r1, r2, r3]) 26) ∧ Mod [] W3 W4) ⟨get_new _ _, H4.out.alloc _⟩ ?_
      generalize w4.heap.size = t20 at *
      rintro W4 ⟨g20, hm4⟩
      have hmr := HO.out.2.2.2.2.2.trans hm4
      have gr := hmr.get HN.out.2.2.1 (by simp)
      have uc0 := cell_at g20 0; have uc1 := cell_at g20 1; have uc2 := cell_at g20 2; have uc3 := cell_at g20 3; simp only [wcells_get] at uc0 uc1 uc2 uc3
      have rc0 := cell_at gr 0; have rc1 := cell_at gr 1; have rc2 := cell_at gr 2; have rc3 := cell_at gr 3; simp only [wcells_get] at rc0 rc1 rc2 rc3
      have rf0 := free_at gr 0; have rf1 := free_at gr 1; have rf2 := free_at gr 2; have rf3 := free_at gr 3
      have k9 := hid (And.intro (set4_at gr r0 r1 r2 r3) hmr)
      clear g20 hm4 hmr gr H4
      go_wp2_with fail
      have g2 := k9.out.1
      clear rc0 rc1 rc2 rc3
      clear rf0 rf1 rf2 rf3
      clear uc0 uc1 uc2 uc3
      have rc0 := cell_at g2 0; have rc1 := cell_at g2 1; have rc2 := cell_at g2 2; have rc3 := cell_at g2 3; simp only [wcells_get] at rc0 rc1 rc2 rc3
      obtain ⟨rlt, rcg, ucg, hr, hfq, -⟩ := HO.out
      have hmm := (HM.out.1.trans' HN.out.2.2.2.1 (fun b hb => .inr (by have := HM.out; have := HT.out; simp only [List.mem_cons, List.not_mem_nil, or_false] at hb; omega))).trans k9.out.2
      exact bodyPost_ret (v := .tuple #[.agg #[.int .u64 (r0 : Int), .int .u64 (r1 : Int), .int .u64 (r2 : Int), .int .u64 (r3 : Int)], .nilIface]) (by simp [results, Tryd.results35, go_sem, rc0, rc1, rc2, rc3]) rfl ⟨⟨res, f, rlt, hfq, ucg, rcg, by rw [hr]⟩, set4_mod (by have := HM.out; omega) hmm _ _ _ _⟩
end Go.Proofs.YtdgmnhiffoemmaaDoor
