/-
  The reference's Eval, where all is right. No statement of a claim stands here; each contract names what it asks.
-/
import Derived.Test.YtdgmnhiffoemmaaDoorZH
import Derived.Test.YtdgmnhiffoemmaaDoorZA
set_option linter.unusedSimpArgs false
namespace Go.Proofs.YtdgmnhiffoemmaaDoor
open Go Go.RowKit Go.ChangeMaps

theorem satV_alloc {t9 t3 g i : Nat} {ys qs : List Nat} {c0 c1 c2 c3 : Nat} {w : World} (h : SatV t9 t3 g i ys qs c0 c1 c2 c3 w) (o : Obj) : SatV t9 t3 g i ys qs c0 c1 c2 c3 (w.alloc o) := by
  have m := (Mod.refl [] w).alloc o
  exact ⟨m.get h.1 (by simp), m.get h.2.1 (by simp), m.cell h.2.2.1 (by simp), m.cell h.2.2.2.1 (by simp), m.cell h.2.2.2.2.1 (by simp), m.cell h.2.2.2.2.2 (by simp)⟩
/-- While a value is worked out, power by power. -/
def PowRel (W : World) (t8 t9 q x : Nat) (l : List Nat) (gk : Nat) (v : Value) (w : World) : Prop :=
  ∃ j s p : Nat, v = .int .i64 j ∧ gk + j = l.length ∧ s < q ∧ p < NN ∧ Cg (q : Int) (s : Int) (ev ((zs l).take j) (x : Int)) ∧ Cg (q : Int) (p : Int) ((x : Int) ^ j) ∧
    w.heap[t8]? = some (.cells (wcells (parts s 4)) 26) ∧ w.heap[t9]? = some (.cells (wcells (parts p 4)) 26) ∧ Mod [t8, t9] W w

set_option maxRecDepth 100000 in
set_option maxHeartbeats 4000000 in
theorem reval {q x : Nat} (hq : q < NN) (h2 : 2 ≤ q) (hx : x < NN) (l : List Nat) (hl : ∀ n ∈ l, n < NN) (hl1 : 1 ≤ l.length) (hl2 : l.length ≤ 256) (g cap : Nat) (w : World) (hg : NatRow w g l) :
    Calls Tryd.prog 19 #[nv q, .slice (some ⟨g, 0, none⟩) l.length cap, nv x] w fun e w' => (∃ y, y < q ∧ Cg (q : Int) (y : Int) (ev (zs l) (x : Int)) ∧ e = .returned (.tuple #[nv y, .int .i64 0])) ∧ Mod [] w w' := by
  have crr := fun W => rright hq W
  have crm := fun W => rmany l.length (by unfold maxLen; omega) W
  simp only [decide_eq_true h2] at crr
  simp only [decide_eq_true (And.intro hl1 hl2)] at crm
  have hq0 : q ≠ 0 := by omega
  have CMX : Hid (∀ (a b : Nat) (ha : a < NN) (hb : b < NN) (W : World), _) := fun a b ha hb W => rmmul (a := a) (b := b) (m := q) ha hb hq hq0 W
  have CAX : Hid (∀ (a b : Nat) (ha : a < NN) (hb : b < NN) (W : World), _) := fun a b ha hb W => rmadd (a := a) (b := b) (m := q) ha hb hq hq0 W
  obtain ⟨z0, z1, z2, z3, hz⟩ := nv_lit q
  obtain ⟨x0, x1, x2, x3, hxx⟩ := nv_lit x
  rw [hz] at crr CMX CAX
  rw [hz, hxx]
  have HZ := hid (And.intro hq (And.intro h2 (And.intro hx (And.intro hl (And.intro hg hxx)))))
  unfold lit4 at *
  have CRR := hid crr
  have CRM := hid crm
  have n3 : (l.length : Int) ≤ 256 := by omega
  clear crr crm hz hxx hq h2 hx hl hg hq0 hl1 hl2
  go_enter Tryd.func19, Tryd.ntmps19
  go_upto_region 1 with fail
  refine wp_abs (fun W => W.heap[w.heap.size]? = some (.cells (wcells [z0, z1, z2, z3]) 26) ∧ W.heap[w.heap.size + 1]? = some (.cells (wcells [x0, x1, x2, x3]) 26) ∧ W.heap[w.heap.size + 1 + 1]? = some (.cells (wcells [0, 0, 0, 0]) 26) ∧ Mod [] w W) ⟨three_a w _ _ _, three_b w _ _ _, three_c w _ _ _, (((Mod.refl _ _).alloc _).alloc _).alloc _⟩ ?_
  rintro W ⟨gz, gx, gr, hm⟩
  generalize hta : w.heap.size = ta at *
  generalize htb : ta + 1 = tb at *
  generalize htr : tb + 1 = tr at *
  have HM : Hid (Mod [] w W ∧ w.heap.size ≤ ta ∧ ta < tb ∧ tb < tr) := ⟨hm, by omega, by omega, by omega⟩
  have HG := hid (And.intro gz (And.intro gx gr))
  have zc0 := cell_at gz 0; have zc1 := cell_at gz 1; have zc2 := cell_at gz 2; have zc3 := cell_at gz 3; simp only [wcells_get] at zc0 zc1 zc2 zc3
  clear gz gx gr hm hta htb htr
  go_upto_block 0 with (first
    | (go_at_call 37; refine (CRR.out _).mono ?_; rintro e w1 ⟨rfl, hm⟩; have H1 := hid hm; clear hm)
    | (go_at_call 38; refine (CRM.out _).mono ?_; rintro e w1' ⟨rfl, hw⟩; subst hw))
  clear zc0 zc1 zc2 zc3
  refine wp_abs (fun W2 => W2.heap[w1'.heap.size]? = some (.cells (wcells [0, 0, 0, 0]) 26) ∧ W2.heap[w1'.heap.size + 1]? = some (.cells (wcells [1, 0, 0, 0]) 26) ∧ Mod [] W W2) ⟨get_alloc (get_new _ _) _, two_b _ _ _, (H1.out.alloc _).alloc _⟩ ?_
  have h8 : tr < w1'.heap.size ∧ g < w1'.heap.size := ⟨Nat.lt_of_lt_of_le (lt_of_block HG.out.2.2) H1.out.size, Nat.lt_of_lt_of_le HZ.out.2.2.2.2.1.lt (Nat.le_trans HM.out.1.size H1.out.size)⟩
  generalize ht9 : w1'.heap.size + 1 = t9 at *
  generalize ht8 : w1'.heap.size = t8 at *
  rintro W2 ⟨g8, g9, hm2⟩
  have H2 : Hid (W2.heap[t8]? = some (.cells (wcells [0, 0, 0, 0]) 26) ∧ W2.heap[t9]? = some (.cells (wcells [1, 0, 0, 0]) 26) ∧ Mod [] W W2 ∧ tr < t8 ∧ g < t8 ∧ t8 < t9) := ⟨g8, g9, hm2, h8.1, h8.2, by omega⟩
  clear g8 g9 hm2 h8 ht8 ht9 H1
  go_wp2_with fail
  go_loopg [10] l.length (fun gk v W' => PowRel W2 t8 t9 q x l gk v W')
  case atStart =>
    refine ⟨0, 0, 1, rfl, rfl, by have := HZ.out.2.1; omega, Nat.lt_trans (by unfold BB; decide : 1 < BB) BB_NN, ?_, ?_, ?_, ?_, Mod.refl _ _⟩
    · rw [List.take_zero]; exact Cg.refl _ _
    · rw [Int.pow_zero]; exact Cg.refl _ _
    · rw [show parts 0 4 = [0, 0, 0, 0] by simp [parts]]; exact H2.out.1
    · rw [parts_one (x := 1) (by unfold BB; decide)]; exact H2.out.2.1
  case round =>
    obtain ⟨j, s, p, rfl, hgj, hsq, hpN, hcs, hcp, g8, g9, hm⟩ := hrel
    have hmem : ∀ k, k < t8 → k ∉ [t8, t9] := fun k hk => by have := H2.out; simp only [List.mem_cons, List.not_mem_nil, or_false]; omega
    have gz := hm.get (H2.out.2.2.1.get HG.out.1 (by simp)) (hmem _ (by have := H2.out; have := HM.out; omega))
    have gx := hm.get (H2.out.2.2.1.get HG.out.2.1 (by simp)) (hmem _ (by have := H2.out; have := HM.out; omega))
    have gr := hm.get (H2.out.2.2.1.get HG.out.2.2 (by simp)) (hmem _ (by have := H2.out; omega))
    obtain ⟨s0, s1, s2, s3, hss, ps⟩ := nv_words s
    rw [wv_lit] at hss
    unfold lit4 at hss
    rw [ps] at g8
    by_cases hj : j < l.length
    · have j1 : (j : Int) < (l.length : Int) := by omega
      have j0 : (0 : Int) ≤ (j : Int) := by omega
      obtain ⟨c, hc⟩ : ∃ c, l[j]? = some c := ⟨_, List.getElem?_eq_getElem hj⟩
      have hcN := HZ.out.2.2.2.1 c (List.mem_of_getElem? hc)
      have hq0 : 0 < q := by have := HZ.out.2.1; omega
      have hqN := HZ.out.1
      obtain ⟨m, hmm⟩ : ∃ m, c * p % q = m := ⟨_, rfl⟩
      have hmq : m < q := by rw [← hmm]; exact Nat.mod_lt _ hq0
      obtain ⟨s', hs'⟩ : ∃ s', (s + m) % q = s' := ⟨_, rfl⟩
      have hsq' : s' < q := by rw [← hs']; exact Nat.mod_lt _ hq0
      obtain ⟨p', hp'⟩ : ∃ p', p * x % q = p' := ⟨_, rfl⟩
      have hpq' : p' < q := by rw [← hp']; exact Nat.mod_lt _ hq0
      have cm1 := fun W => CMX.out c p hcN hpN W
      have ca := fun W => CAX.out s m (Nat.lt_trans hsq hqN) (Nat.lt_trans hmq hqN) W
      have cm2 := fun W => CMX.out p x hpN HZ.out.2.2.1 W
      rw [hmm] at cm1
      rw [hs'] at ca
      rw [hp'] at cm2
      have kc : Cg (q : Int) (m : Int) ((c : Int) * (x : Int) ^ j) := by
        rw [← hmm, Int.natCast_emod, Int.natCast_mul]
        exact (Cg.mod _ _).trans ((Cg.refl _ _).mul hcp)
      have ks : Cg (q : Int) (s' : Int) (ev ((zs l).take (j + 1)) (x : Int)) := by
        rw [ev_take (zs_get hc), ← hs', Int.natCast_emod, Int.natCast_add]
        exact (Cg.mod _ _).trans (hcs.add kc)
      have kp : Cg (q : Int) (p' : Int) ((x : Int) ^ (j + 1)) := by
        rw [Int.pow_succ, ← hp', Int.natCast_emod, Int.natCast_mul]
        exact (Cg.mod _ _).trans (hcp.mul (Cg.refl _ _))
      obtain ⟨p0, p1, p2, p3, hpp, pp⟩ := nv_words p
      obtain ⟨c0, c1, c2, c3, hcc, pc⟩ := nv_words c
      obtain ⟨m0, m1, m2, m3, hml, pm⟩ := nv_words m
      obtain ⟨u0, u1, u2, u3, hul, pu⟩ := nv_words s'
      obtain ⟨v0, v1, v2, v3, hvl, pv⟩ := nv_words p'
      rw [wv_lit] at hpp hcc hml hul hvl
      unfold lit4 at hpp hcc hml hul hvl
      rw [hcc, hpp, hml] at cm1
      rw [hss, hml, hul] at ca
      rw [hpp, HZ.out.2.2.2.2.2, hvl] at cm2
      rw [pp] at g9
      have CM1 := hid cm1
      have CA := hid ca
      have CM2 := hid cm2
      have hrow : NatRow wr g l := ((HZ.out.2.2.2.2.1.mod (HM.out.1.trans H2.out.2.2.1) (by simp)).mod hm (hmem _ H2.out.2.2.2.2.1))
      have hcl := hrow.cells hc pc
      have HS := hid (And.intro g9 (And.intro gz hcl))
      have HK := hid (And.intro g8 (And.intro gx hm))
      have HN := hid (And.intro hgj (And.intro hsq' (And.intro (Nat.lt_trans hpq' hqN) (And.intro ks (And.intro kp (And.intro pu pv))))))
      clear hgj hsq hpN hcs hcp g8 g9 hm hmem gz gx gr hss ps hc hcN hq0 hqN hmm hmq hs' hsq' hp' hpq' cm1 ca cm2 kc ks kp hpp pp hcc pc hml pm hul pu hvl pv hrow hcl
      go_upto_region 7 with fail
      have hbx : SatV t9 ta g j [p0, p1, p2, p3] [z0, z1, z2, z3] c0 c1 c2 c3 wr.drew := HS.out
      have hmw : Mod [] wr wr.drew := (Mod.refl _ _).drew
      refine wp_region_N (SatV t9 ta g j [p0, p1, p2, p3] [z0, z1, z2, z3] c0 c1 c2 c3) (fun i => !(i == 11 || i == 12)) (by kernel_rfl) ?_
      generalize wr.drew = wq at *
      have HBX := hid hbx
      have HMW := hid hmw
      clear hbx hmw
      apply merge1 (R := fun b11 W9 => W9.heap[b11]? = some (.cells (wcells [m0, m1, m2, m3]) 26) ∧ Mod [] wq W9)
      · intro key
        have KEY := hid key
        clear key
        have hS := HBX.out
        refine regA 0 32 (v := ?_) rfl rfl (by kernel_rfl) (by kernel_rfl) (by kernel_rfl) (fun _ _ _ h => h) (by rfl) (fun w => ?_) ?_; rotate_left; (go_simp; first | done | with_reducible rfl); (try simp only [Act.put, List.setIfInBounds_toArray, List.set_cons_zero, List.set_cons_succ])
        refine regA 1 33 (v := ?_) rfl rfl (by kernel_rfl) (by kernel_rfl) (by kernel_rfl) (fun _ _ _ h => h) (by rfl) (fun w => ?_) ?_; rotate_left; (go_simp; first | done | with_reducible rfl); (try simp only [Act.put, List.setIfInBounds_toArray, List.set_cons_zero, List.set_cons_succ])
        refine regA 2 34 (v := .pointer (some ⟨g, j * 4, none⟩)) rfl rfl (by kernel_rfl) (by kernel_rfl) (by kernel_rfl) (fun _ _ _ h => h) (by rfl) (fun w => ?_) ?_
        · go_simp
        (try simp only [Act.put, List.setIfInBounds_toArray, List.set_cons_zero, List.set_cons_succ])
        refine regS 3 35 (v := ?_) hS rfl rfl (by kernel_rfl) (by kernel_rfl) (by kernel_rfl) (by kernel_rfl) (fun _ _ _ h => h) (by rfl) (fun w hSw => ?_) ?_; rotate_left; (obtain ⟨qc0, qc1, qc2, qc3⟩ := hSw.2.2; go_simp; first | done | with_reducible rfl); (try simp only [Act.put, List.setIfInBounds_toArray, List.set_cons_zero, List.set_cons_succ])
        refine regS 4 36 (v := ?_) hS rfl rfl (by kernel_rfl) (by kernel_rfl) (by kernel_rfl) (by kernel_rfl) (fun _ _ _ h => h) (by rfl) (fun w hSw => ?_) ?_; rotate_left; (have qc0 := cell_at hSw.1 0; have qc1 := cell_at hSw.1 1; have qc2 := cell_at hSw.1 2; have qc3 := cell_at hSw.1 3; simp only [wcells_get] at qc0 qc1 qc2 qc3; go_simp; first | done | with_reducible rfl); (try simp only [Act.put, List.setIfInBounds_toArray, List.set_cons_zero, List.set_cons_succ])
        refine regS 5 37 (v := ?_) hS rfl rfl (by kernel_rfl) (by kernel_rfl) (by kernel_rfl) (by kernel_rfl) (fun _ _ _ h => h) (by rfl) (fun w hSw => ?_) ?_; rotate_left; (have qc0 := cell_at hSw.2.1 0; have qc1 := cell_at hSw.2.1 1; have qc2 := cell_at hSw.2.1 2; have qc3 := cell_at hSw.2.1 3; simp only [wcells_get] at qc0 qc1 qc2 qc3; go_simp; first | done | with_reducible rfl); (try simp only [Act.put, List.setIfInBounds_toArray, List.set_cons_zero, List.set_cons_succ])
        clear hS
        have hM := Mod.refl [] wq
        refine regTwo 6 10 (by kernel_rfl) rfl (by rfl) rfl (by rfl) (fun K hK => ?_) (fun K hK => ?_)
        · go_wp2_with (go_at_call 39; refine (CM1.out _).mono ?_; rintro e wq1 ⟨rfl, hm⟩)
          refine hK.out _ _ (fun _ h => ⟨hm.get h.1 (by simp), hm.get h.2.1 (by simp), hm.cell h.2.2.1 (by simp), hm.cell h.2.2.2.1 (by simp), hm.cell h.2.2.2.2.1 (by simp), hm.cell h.2.2.2.2.2 (by simp)⟩) ?_
          clear hK
          (try simp only [Act.put, List.setIfInBounds_toArray, List.set_cons_zero, List.set_cons_succ])
          have hM := hM.trans hm
          clear hm
          refine regA 7 31 (v := ?_) rfl rfl (by kernel_rfl) (by kernel_rfl) (by kernel_rfl) (fun _ _ _ h => h) (by rfl) (fun w => ?_) ?_; rotate_left; (go_simp; first | done | with_reducible rfl); (try simp only [Act.put, List.setIfInBounds_toArray, List.set_cons_zero, List.set_cons_succ])
          refine regA 8 39 (v := ?_) rfl rfl (by kernel_rfl) (by kernel_rfl) (by kernel_rfl) (fun _ _ _ h => h) (by rfl) (fun w => ?_) ?_; rotate_left; (go_simp; first | done | with_reducible rfl); (try simp only [Act.put, List.setIfInBounds_toArray, List.set_cons_zero, List.set_cons_succ])
          refine regA 9 40 (v := ?_) rfl rfl (by kernel_rfl) (by kernel_rfl) (by kernel_rfl) (fun _ _ _ h => h) (by rfl) (fun w => ?_) ?_; rotate_left; (go_simp; first | done | with_reducible rfl); (try simp only [Act.put, List.setIfInBounds_toArray, List.set_cons_zero, List.set_cons_succ])
          refine regOnly 10 (by kernel_rfl) rfl (by rfl) (fun K hK => ?_)
          go_wp2_with fail
          refine hK.out _ _ (fun _ h => satV_alloc h _) ?_
          clear hK
          (try simp only [Act.put, List.setIfInBounds_toArray, List.set_cons_zero, List.set_cons_succ])
          have gb11 : (wq1.alloc (.cells #[.int .u64 0, .int .u64 0, .int .u64 0, .int .u64 0] 26 (0, 0))).heap[wq1.heap.size]? = some (.cells (wcells [0, 0, 0, 0]) 26) := get_new wq1 _
          obtain ⟨b11, hb11⟩ : ∃ b, wq1.heap.size = b := ⟨_, rfl⟩
          have lb11 : wq.heap.size ≤ b11 := by rw [← hb11]; exact hM.size
          rw [hb11] at gb11 ⊢
          have hM : Mod [] wq (wq1.alloc (.cells #[.int .u64 0, .int .u64 0, .int .u64 0, .int .u64 0] 26 (0, 0))) := hM.alloc _
          generalize wq1.alloc (.cells #[.int .u64 0, .int .u64 0, .int .u64 0, .int .u64 0] 26 (0, 0)) = wq2 at *
          have nc0 := cell_at gb11 0; have nc1 := cell_at gb11 1; have nc2 := cell_at gb11 2; have nc3 := cell_at gb11 3; simp only [wcells_get] at nc0 nc1 nc2 nc3
          have nf0 := free_at gb11 0; have nf1 := free_at gb11 1; have nf2 := free_at gb11 2; have nf3 := free_at gb11 3
          have k3 := hid (set4_at gb11 m0 m1 m2 m3)
          have hM9 := hid (set4_mod lb11 hM m0 m1 m2 m3)
          clear gb11 hM
          refine regOnly 11 (by kernel_rfl) rfl (by rfl) (fun K hK => ?_)
          go_wp2_with fail
          refine hK.out _ _ (fun h _ => absurd h (by decide)) ?_
          clear hK
          (try simp only [Act.put, List.setIfInBounds_toArray, List.set_cons_zero, List.set_cons_succ])
          clear nc0 nc1 nc2 nc3
          clear nf0 nf1 nf2 nf3
          refine regA 12 12 (v := ?_) rfl rfl (by kernel_rfl) (by kernel_rfl) (by kernel_rfl) (fun _ _ _ h => h) (by rfl) (fun w => ?_) ?_; rotate_left; (go_simp; first | done | with_reducible rfl); (try simp only [Act.put, List.setIfInBounds_toArray, List.set_cons_zero, List.set_cons_succ])
          refine regAbs (fun W9 => W9.heap[b11]? = some (.cells (wcells [m0, m1, m2, m3]) 26) ∧ Mod [] wq W9) ⟨k3.out, hM9.out⟩ ?_
          rintro W10 hR
          refine regDone (by kernel_rfl) ?_ _
          exact KEY.out b11 W10 hR
        · go_wp2_with fail
          refine hK.out _ _ (fun _ h => satV_alloc h _) ?_
          clear hK
          (try simp only [Act.put, List.setIfInBounds_toArray, List.set_cons_zero, List.set_cons_succ])
          have gb11 : (wq.alloc (.cells #[.int .u64 0, .int .u64 0, .int .u64 0, .int .u64 0] 26 (0, 0))).heap[wq.heap.size]? = some (.cells (wcells [0, 0, 0, 0]) 26) := get_new wq _
          obtain ⟨b11, hb11⟩ : ∃ b, wq.heap.size = b := ⟨_, rfl⟩
          have lb11 : wq.heap.size ≤ b11 := by rw [← hb11]; exact hM.size
          rw [hb11] at gb11 ⊢
          have hM : Mod [] wq (wq.alloc (.cells #[.int .u64 0, .int .u64 0, .int .u64 0, .int .u64 0] 26 (0, 0))) := hM.alloc _
          generalize wq.alloc (.cells #[.int .u64 0, .int .u64 0, .int .u64 0, .int .u64 0] 26 (0, 0)) = wq1 at *
          refine regOnly 6 (by kernel_rfl) rfl (by rfl) (fun K hK => ?_)
          go_wp2_with (go_at_call 39; refine (CM1.out _).mono ?_; rintro e wq2 ⟨rfl, hm⟩)
          refine hK.out _ _ (fun _ h => ⟨hm.get h.1 (by simp), hm.get h.2.1 (by simp), hm.cell h.2.2.1 (by simp), hm.cell h.2.2.2.1 (by simp), hm.cell h.2.2.2.2.1 (by simp), hm.cell h.2.2.2.2.2 (by simp)⟩) ?_
          clear hK
          (try simp only [Act.put, List.setIfInBounds_toArray, List.set_cons_zero, List.set_cons_succ])
          have gb11 := hm.get gb11 (by simp)
          have hM := hM.trans hm
          clear hm
          refine regA 7 31 (v := ?_) rfl rfl (by kernel_rfl) (by kernel_rfl) (by kernel_rfl) (fun _ _ _ h => h) (by rfl) (fun w => ?_) ?_; rotate_left; (go_simp; first | done | with_reducible rfl); (try simp only [Act.put, List.setIfInBounds_toArray, List.set_cons_zero, List.set_cons_succ])
          refine regA 8 39 (v := ?_) rfl rfl (by kernel_rfl) (by kernel_rfl) (by kernel_rfl) (fun _ _ _ h => h) (by rfl) (fun w => ?_) ?_; rotate_left; (go_simp; first | done | with_reducible rfl); (try simp only [Act.put, List.setIfInBounds_toArray, List.set_cons_zero, List.set_cons_succ])
          refine regA 9 40 (v := ?_) rfl rfl (by kernel_rfl) (by kernel_rfl) (by kernel_rfl) (fun _ _ _ h => h) (by rfl) (fun w => ?_) ?_; rotate_left; (go_simp; first | done | with_reducible rfl); (try simp only [Act.put, List.setIfInBounds_toArray, List.set_cons_zero, List.set_cons_succ])
          have nc0 := cell_at gb11 0; have nc1 := cell_at gb11 1; have nc2 := cell_at gb11 2; have nc3 := cell_at gb11 3; simp only [wcells_get] at nc0 nc1 nc2 nc3
          have nf0 := free_at gb11 0; have nf1 := free_at gb11 1; have nf2 := free_at gb11 2; have nf3 := free_at gb11 3
          have k3 := hid (set4_at gb11 m0 m1 m2 m3)
          have hM9 := hid (set4_mod lb11 hM m0 m1 m2 m3)
          clear gb11 hM
          refine regOnly 11 (by kernel_rfl) rfl (by rfl) (fun K hK => ?_)
          go_wp2_with fail
          refine hK.out _ _ (fun h _ => absurd h (by decide)) ?_
          clear hK
          (try simp only [Act.put, List.setIfInBounds_toArray, List.set_cons_zero, List.set_cons_succ])
          clear nc0 nc1 nc2 nc3
          clear nf0 nf1 nf2 nf3
          refine regA 12 12 (v := ?_) rfl rfl (by kernel_rfl) (by kernel_rfl) (by kernel_rfl) (fun _ _ _ h => h) (by rfl) (fun w => ?_) ?_; rotate_left; (go_simp; first | done | with_reducible rfl); (try simp only [Act.put, List.setIfInBounds_toArray, List.set_cons_zero, List.set_cons_succ])
          refine regAbs (fun W9 => W9.heap[b11]? = some (.cells (wcells [m0, m1, m2, m3]) 26) ∧ Mod [] wq W9) ⟨k3.out, hM9.out⟩ ?_
          rintro W10 hR
          refine regDone (by kernel_rfl) ?_ _
          exact KEY.out b11 W10 hR
      · rintro b11 W9 ⟨g11, hm9⟩
        have hmX := HMW.out.trans hm9
        have g8 := hmX.get HK.out.1 (by simp)
        have gz := hmX.get HS.out.2.1 (by simp)
        have g9 := hmX.get HS.out.1 (by simp)
        have gx := hmX.get HK.out.2.1 (by simp)
        have hmW := HK.out.2.2.trans (hmX.mono (by simp))
        have sc0 := cell_at g8 0; have sc1 := cell_at g8 1; have sc2 := cell_at g8 2; have sc3 := cell_at g8 3; simp only [wcells_get] at sc0 sc1 sc2 sc3
        have mc0 := cell_at g11 0; have mc1 := cell_at g11 1; have mc2 := cell_at g11 2; have mc3 := cell_at g11 3; simp only [wcells_get] at mc0 mc1 mc2 mc3
        have zc0 := cell_at gz 0; have zc1 := cell_at gz 1; have zc2 := cell_at gz 2; have zc3 := cell_at gz 3; simp only [wcells_get] at zc0 zc1 zc2 zc3
        have sf0 := free_at g8 0; have sf1 := free_at g8 1; have sf2 := free_at g8 2; have sf3 := free_at g8 3
        have HA := hid (And.intro g8 (And.intro g9 (And.intro gx (And.intro gz hmW))))
        clear g8 g9 gx gz g11 hm9 hmX hmW
        go_upto_region 9 with (go_at_call 26; refine (CA.out _).mono ?_; rintro e w5 ⟨rfl, hm⟩; have H5 := hid hm; have g8 := hm.get HA.out.1 (by simp); have sc0 := cell_at g8 0; have sc1 := cell_at g8 1; have sc2 := cell_at g8 2; have sc3 := cell_at g8 3; simp only [wcells_get] at sc0 sc1 sc2 sc3; have sf0 := free_at g8 0; have sf1 := free_at g8 1; have sf2 := free_at g8 2; have sf3 := free_at g8 3; clear hm g8)
        clear sc0 sc1 sc2 sc3
        clear sf0 sf1 sf2 sf3
        clear mc0 mc1 mc2 mc3
        clear zc0 zc1 zc2 zc3
        have ne98 : t9 ≠ t8 := by have := H2.out; omega
        have nex8 : tb ≠ t8 := by have := H2.out; have := HM.out; omega
        have nez8 : ta ≠ t8 := by have := H2.out; have := HM.out; omega
        refine wp_abs (fun W6 => W6.heap[t8]? = some (.cells (wcells [u0, u1, u2, u3]) 26) ∧ W6.heap[t9]? = some (.cells (wcells [p0, p1, p2, p3]) 26) ∧ W6.heap[tb]? = some (.cells (wcells [x0, x1, x2, x3]) 26) ∧ W6.heap[ta]? = some (.cells (wcells [z0, z1, z2, z3]) 26) ∧ Mod [t8, t9] W2 W6)
          ⟨set4_at (H5.out.get HA.out.1 (by simp)) u0 u1 u2 u3, set4_keep (H5.out.get HA.out.2.1 (by simp)) ne98 u0 u1 u2 u3, set4_keep (H5.out.get HA.out.2.2.1 (by simp)) nex8 u0 u1 u2 u3, set4_keep (H5.out.get HA.out.2.2.2.1 (by simp)) nez8 u0 u1 u2 u3, set4_modS' (by simp) (HA.out.2.2.2.2.trans (H5.out.mono (by simp))) u0 u1 u2 u3⟩ ?_
        clear HA H5 ne98 nex8 nez8
        rintro W6 ⟨g8, g9, gx, gz, hm6⟩
        have pc0 := cell_at g9 0; have pc1 := cell_at g9 1; have pc2 := cell_at g9 2; have pc3 := cell_at g9 3; simp only [wcells_get] at pc0 pc1 pc2 pc3
        have pf0 := free_at g9 0; have pf1 := free_at g9 1; have pf2 := free_at g9 2; have pf3 := free_at g9 3
        have xc0 := cell_at gx 0; have xc1 := cell_at gx 1; have xc2 := cell_at gx 2; have xc3 := cell_at gx 3; simp only [wcells_get] at xc0 xc1 xc2 xc3
        have zc0 := cell_at gz 0; have zc1 := cell_at gz 1; have zc2 := cell_at gz 2; have zc3 := cell_at gz 3; simp only [wcells_get] at zc0 zc1 zc2 zc3
        have HB := hid (And.intro g8 (And.intro g9 hm6))
        clear g8 g9 gx gz hm6
        go_wp2_with (go_at_call 39; refine (CM2.out _).mono ?_; rintro e w7 ⟨rfl, hm⟩; have H7 := hid hm; have g9 := hm.get HB.out.2.1 (by simp); have pc0 := cell_at g9 0; have pc1 := cell_at g9 1; have pc2 := cell_at g9 2; have pc3 := cell_at g9 3; simp only [wcells_get] at pc0 pc1 pc2 pc3; have pf0 := free_at g9 0; have pf1 := free_at g9 1; have pf2 := free_at g9 2; have pf3 := free_at g9 3; clear hm g9)
        have ne89 : t8 ≠ t9 := by have := H2.out; omega
        have k8 := set4_keep (b := t9) (H7.out.get HB.out.1 (by simp)) ne89 v0 v1 v2 v3
        have k9 := set4_at (H7.out.get HB.out.2.1 (by simp)) v0 v1 v2 v3
        have km := set4_modS' (S := [t8, t9]) (b := t9) (by simp) (HB.out.2.2.trans (H7.out.mono (by simp))) v0 v1 v2 v3
        obtain ⟨hgj, hsq', hpN', ks, kp, pu, pv⟩ := HN.out
        go_roundg (gk - 1)
        case measure => omega
        case rel => exact ⟨j + 1, s', p', by go_num, by omega, hsq', hpN', ks, kp, by rw [pu]; exact k8, by rw [pv]; exact k9, km⟩
    · have j1 : ¬ (j : Int) < (l.length : Int) := by omega
      obtain rfl : j = l.length := by omega
      rw [List.take_of_length_le (by simp [zs])] at hcs
      have sc0 := cell_at g8 0; have sc1 := cell_at g8 1; have sc2 := cell_at g8 2; have sc3 := cell_at g8 3; simp only [wcells_get] at sc0 sc1 sc2 sc3
      have rc0 := cell_at gr 0; have rc1 := cell_at gr 1; have rc2 := cell_at gr 2; have rc3 := cell_at gr 3; simp only [wcells_get] at rc0 rc1 rc2 rc3
      have rf0 := free_at gr 0; have rf1 := free_at gr 1; have rf2 := free_at gr 2; have rf3 := free_at gr 3
      have qq := hid (set4_at gr s0 s1 s2 s3)
      have hmW := (HM.out.1.trans H2.out.2.2.1).trans' hm (fun b hb => .inr (by have := H2.out; have := HM.out; simp only [List.mem_cons, List.not_mem_nil, or_false] at hb; omega))
      have HE := hid (And.intro hsq (And.intro hcs (And.intro hss (set4_mod (b := tr) (by have := HM.out; omega) hmW s0 s1 s2 s3))))
      clear hgj hsq hpN hcs hcp g8 g9 hm hmem gz gx gr hss ps hmW
      go_wp2_with fail
      clear rc0 rc1 rc2 rc3
      clear rf0 rf1 rf2 rf3
      have g2 := qq.out
      have rc0 := cell_at g2 0; have rc1 := cell_at g2 1; have rc2 := cell_at g2 2; have rc3 := cell_at g2 3; simp only [wcells_get] at rc0 rc1 rc2 rc3
      obtain ⟨hsq, hcs, hss, hmE⟩ := HE.out
      exact bodyPost_ret (v := .tuple #[.agg #[.int .u64 (s0 : Int), .int .u64 (s1 : Int), .int .u64 (s2 : Int), .int .u64 (s3 : Int)], .int .i64 0]) (by simp [results, Tryd.results19, go_sem, rc0, rc1, rc2, rc3]) rfl ⟨⟨s, hsq, hcs, by rw [hss]⟩, hmE⟩
end Go.Proofs.YtdgmnhiffoemmaaDoor
