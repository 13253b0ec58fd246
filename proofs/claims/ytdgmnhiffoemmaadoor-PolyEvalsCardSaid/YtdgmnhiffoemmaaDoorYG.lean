/-
  mod.Inverse. No statement of a claim stands here; each contract names what it asks.
-/
import Derived.Test.YtdgmnhiffoemmaaDoorYF
import Derived.Test.YtdgmnhiffoemmaaDoorGB
import Derived.Laws.Cover3
set_option linter.unusedSimpArgs false
namespace Go.Proofs.YtdgmnhiffoemmaaDoor
open Go Go.RowKit Go.ChangeMaps

theorem set8_keep {w : World} {b c : Nat} {o : Obj} (h : w.heap[c]? = some o) (hne : c ≠ b) (x0 x1 x2 x3 x4 x5 x6 x7 : Nat) : ((((((((w.setCell ⟨b, 0, none⟩ (.int .u64 (x0 : Int))).setCell ⟨b, 1, none⟩ (.int .u64 (x1 : Int))).setCell ⟨b, 2, none⟩ (.int .u64 (x2 : Int))).setCell ⟨b, 3, none⟩ (.int .u64 (x3 : Int))).setCell ⟨b, 4, none⟩ (.int .u64 (x4 : Int))).setCell ⟨b, 5, none⟩ (.int .u64 (x5 : Int))).setCell ⟨b, 6, none⟩ (.int .u64 (x6 : Int))).setCell ⟨b, 7, none⟩ (.int .u64 (x7 : Int))).heap[c]? = some o :=
  get_setCell (p := ⟨b, 7, none⟩) (get_setCell (p := ⟨b, 6, none⟩) (get_setCell (p := ⟨b, 5, none⟩) (get_setCell (p := ⟨b, 4, none⟩) (get_setCell (p := ⟨b, 3, none⟩) (get_setCell (p := ⟨b, 2, none⟩) (get_setCell (p := ⟨b, 1, none⟩) (get_setCell (p := ⟨b, 0, none⟩) (h) hne _) hne _) hne _) hne _) hne _) hne _) hne _) hne _
theorem set8_mod {w0 w : World} {b : Nat} (hl : w0.heap.size ≤ b) (m : Mod [] w0 w) (x0 x1 x2 x3 x4 x5 x6 x7 : Nat) : Mod [] w0 ((((((((w.setCell ⟨b, 0, none⟩ (.int .u64 (x0 : Int))).setCell ⟨b, 1, none⟩ (.int .u64 (x1 : Int))).setCell ⟨b, 2, none⟩ (.int .u64 (x2 : Int))).setCell ⟨b, 3, none⟩ (.int .u64 (x3 : Int))).setCell ⟨b, 4, none⟩ (.int .u64 (x4 : Int))).setCell ⟨b, 5, none⟩ (.int .u64 (x5 : Int))).setCell ⟨b, 6, none⟩ (.int .u64 (x6 : Int))).setCell ⟨b, 7, none⟩ (.int .u64 (x7 : Int))) :=
  ((((((((m).setCell (p := ⟨b, 0, none⟩) (.inr hl) _).setCell (p := ⟨b, 1, none⟩) (.inr hl) _).setCell (p := ⟨b, 2, none⟩) (.inr hl) _).setCell (p := ⟨b, 3, none⟩) (.inr hl) _).setCell (p := ⟨b, 4, none⟩) (.inr hl) _).setCell (p := ⟨b, 5, none⟩) (.inr hl) _).setCell (p := ⟨b, 6, none⟩) (.inr hl) _).setCell (p := ⟨b, 7, none⟩) (.inr hl) _
theorem set8_modS {S : List Nat} {w0 w : World} {b : Nat} (hl : b ∈ S) (m : Mod S w0 w) (x0 x1 x2 x3 x4 x5 x6 x7 : Nat) : Mod S w0 ((((((((w.setCell ⟨b, 0, none⟩ (.int .u64 (x0 : Int))).setCell ⟨b, 1, none⟩ (.int .u64 (x1 : Int))).setCell ⟨b, 2, none⟩ (.int .u64 (x2 : Int))).setCell ⟨b, 3, none⟩ (.int .u64 (x3 : Int))).setCell ⟨b, 4, none⟩ (.int .u64 (x4 : Int))).setCell ⟨b, 5, none⟩ (.int .u64 (x5 : Int))).setCell ⟨b, 6, none⟩ (.int .u64 (x6 : Int))).setCell ⟨b, 7, none⟩ (.int .u64 (x7 : Int))) :=
  ((((((((m).setCell (p := ⟨b, 0, none⟩) (.inl hl) _).setCell (p := ⟨b, 1, none⟩) (.inl hl) _).setCell (p := ⟨b, 2, none⟩) (.inl hl) _).setCell (p := ⟨b, 3, none⟩) (.inl hl) _).setCell (p := ⟨b, 4, none⟩) (.inl hl) _).setCell (p := ⟨b, 5, none⟩) (.inl hl) _).setCell (p := ⟨b, 6, none⟩) (.inl hl) _).setCell (p := ⟨b, 7, none⟩) (.inl hl) _
theorem merge2 {R G : Nat → Nat → World → Prop} {T : Prop} (use : (∀ a b W, R a b W → G a b W) → T) (prove : ∀ a b W, R a b W → G a b W) : T := use prove

/-- What stands when Euclid's steps begin: what is left, and what of a it is. -/
structure InvW (w0 : World) (tb tr b6 b7 m xn xo yn yo : Nat) (w : World) : Prop where
  box : w.heap[tb]? = some (.cells (wcells (parts m 4)) 26)
  res : w.heap[tr]? = some (.cells (wcells [0, 0, 0, 0]) 26)
  x : w.heap[b6]? = some (.cells (wcells (parts xn 4 ++ parts xo 4)) 100)
  y : w.heap[b7]? = some (.cells (wcells (parts yn 4 ++ parts yo 4)) 100)
  mod : Mod [] w0 w
  lt : w0.heap.size ≤ tb ∧ tb < tr ∧ tr < b6 ∧ tr < b7 ∧ b6 ≠ b7

/-- While Euclid's steps are taken. -/
def InvRel (W : World) (b6 b7 a m : Nat) (gk : Nat) (w : World) : Prop :=
  ∃ xn xo yn yo : Nat, gk = yn ∧ xn < NN ∧ yn < NN ∧ xo < m ∧ yo < m ∧ Cg (m : Int) ((xo : Int) * (a : Int)) xn ∧ Cg (m : Int) ((yo : Int) * (a : Int)) yn ∧ Nat.gcd xn yn = 1 ∧
    w.heap[b6]? = some (.cells (wcells (parts xn 4 ++ parts xo 4)) 100) ∧ w.heap[b7]? = some (.cells (wcells (parts yn 4 ++ parts yo 4)) 100) ∧ Mod [b6, b7] W w
/-- What the product's loads read. -/
def SatM (b8 b7 tb : Nat) (qs ys zs : List Nat) (w : World) : Prop := w.heap[b8]? = some (.cells (wcells qs) 60) ∧ w.heap[b7]? = some (.cells (wcells ys) 100) ∧ w.heap[tb]? = some (.cells (wcells zs) 26)
/-- What the last loads read. -/
def SatE (b7 b9 b13 : Nat) (ys es fs : List Nat) (w : World) : Prop := w.heap[b7]? = some (.cells (wcells ys) 100) ∧ w.heap[b9]? = some (.cells (wcells es) 26) ∧ w.heap[b13]? = some (.cells (wcells fs) 26)
theorem parts_half (n : Nat) : ∃ l, parts n 8 = parts n 4 ++ l := ⟨(parts n 8).drop 4, by simp only [parts]; rfl⟩
theorem inv_plain {a m xn xo yn yo : Nat} (h1 : Cg (m : Int) ((xo : Int) * (a : Int)) xn) (h2 : Cg (m : Int) ((yo : Int) * (a : Int)) yn) (hm : 0 < m) (hxo : xo < m) :
    Cg (m : Int) ((((xo % m + m - xn / yn * yo % m % m) % m : Nat) : Int) * (a : Int)) ((xn % yn : Nat) : Int) := by
  refine inv_step (q := ((xn / yn : Nat) : Int)) (p := ((xn / yn * yo % m : Nat) : Int)) h1 h2 ?_ ?_ ?_
  · have := Nat.div_add_mod xn yn
    rw [← Int.natCast_mul, ← Int.natCast_add, this]
  · rw [← Int.natCast_mul, Int.natCast_emod]
    exact Cg.mod _ _
  · have hp := Nat.mod_lt (xn / yn * yo) hm
    generalize xn / yn * yo % m = p at *
    rw [Nat.mod_eq_of_lt hxo, Nat.mod_eq_of_lt hp, Int.natCast_emod]
    refine (Cg.mod _ _).trans ?_
    rw [show ((xo + m - p : Nat) : Int) = (xo : Int) - (p : Int) + (m : Int) by omega]
    unfold Cg
    rw [show (xo : Int) - (p : Int) + (m : Int) - ((xo : Int) - (p : Int)) = (m : Int) by omega]
    exact Int.dvd_refl _

set_option maxRecDepth 100000 in
set_option maxHeartbeats 40000000 in
theorem minverse {a m : Nat} (ha : a < NN) (hm : m < NN) (h1 : 1 < m) (hg : Nat.gcd a m = 1) (w : World) :
    Calls Tryd.prog 52 #[nv a, nv m] w fun e w' => (∃ f, f < m ∧ Cg (m : Int) ((f : Int) * (a : Int)) 1 ∧ e = .returned (.tuple #[nv f, .int .i64 0])) ∧ Mod [] w w' := by
  have h0 : m ≠ 0 := by omega
  have cn := fun W => mnone hm W
  have cg := fun W => mgcd ha hm W
  have ca := fun W => msmall ha hm h0 W
  have co := fun W => msmall (a := 1) (Nat.lt_trans (by decide) BB_NN) hm h0 W
  have q1 := fun W => equalIn_nv (a := 1) (b := 1) (Nat.lt_trans (by decide) BB_NN) (Nat.lt_trans (by decide) BB_NN) W
  rw [hg] at cg
  simp only [decide_eq_false h0] at cn
  obtain ⟨x0, x1, x2, x3, hx, px⟩ := nv_lits a
  obtain ⟨z0, z1, z2, z3, hz, pz⟩ := nv_lits m
  obtain ⟨s0, s1, s2, s3, hs, ps⟩ := nv_lits (a % m)
  obtain ⟨o0, o1, o2, o3, ho, po⟩ := nv_lits (1 % m)
  rw [hz] at cn
  rw [hx, hz, nv_one] at cg
  rw [hx, hz, hs] at ca
  rw [nv_one, hz, ho] at co
  rw [nv_one] at q1
  rw [hx, hz]
  clear hx hs ho
  unfold lit4 at *
  have CN := hid cn
  have CG := hid cg
  have CA := hid ca
  have CO := hid co
  have HP := hid (And.intro px (And.intro pz (And.intro ps (And.intro po (And.intro ha (And.intro hm (And.intro h1 (And.intro hg hz))))))))
  clear cn cg ca co px pz ps po ha hm h1 hg h0 hz
  go_enter Tryd.func52, Tryd.ntmps52
  go_upto_region 1 with fail
  refine wp_abs (fun W => W.heap[w.heap.size]? = some (.cells (wcells [x0, x1, x2, x3]) 26) ∧ W.heap[w.heap.size + 1]? = some (.cells (wcells [z0, z1, z2, z3]) 26) ∧ W.heap[w.heap.size + 1 + 1]? = some (.cells (wcells [0, 0, 0, 0]) 26) ∧ Mod [] w W) ⟨three_a w _ _ _, three_b w _ _ _, three_c w _ _ _, (((Mod.refl _ _).alloc _).alloc _).alloc _⟩ ?_
  rintro W ⟨gx, gy, gr, hm⟩
  generalize hta : w.heap.size = ta at *
  generalize htb : ta + 1 = tb at *
  generalize htr : tb + 1 = tr at *
  have xc0 := cell_at gx 0; have xc1 := cell_at gx 1; have xc2 := cell_at gx 2; have xc3 := cell_at gx 3; simp only [wcells_get] at xc0 xc1 xc2 xc3
  have yc0 := cell_at gy 0; have yc1 := cell_at gy 1; have yc2 := cell_at gy 2; have yc3 := cell_at gy 3; simp only [wcells_get] at yc0 yc1 yc2 yc3
  have HM : Hid (Mod [] w W ∧ w.heap.size ≤ ta ∧ ta < tb ∧ tb < tr) := ⟨hm, by omega, by omega, by omega⟩
  have HG := hid (And.intro gx (And.intro gy gr))
  clear gx gy gr hm hta htb htr
  go_upto_region 3 with (first
    | simp only [q1]
    | (go_at_call 48; refine (CN.out _).mono ?_; rintro e w1 ⟨rfl, hm1⟩; have H1 := hid hm1; have gx := hm1.get HG.out.1 (by simp); have gy := hm1.get HG.out.2.1 (by simp); have xc0 := cell_at gx 0; have xc1 := cell_at gx 1; have xc2 := cell_at gx 2; have xc3 := cell_at gx 3; simp only [wcells_get] at xc0 xc1 xc2 xc3; have yc0 := cell_at gy 0; have yc1 := cell_at gy 1; have yc2 := cell_at gy 2; have yc3 := cell_at gy 3; simp only [wcells_get] at yc0 yc1 yc2 yc3; clear hm1 gx gy)
    | (go_at_call 65; refine (CG.out _).mono ?_; rintro e w2 ⟨rfl, hm2⟩; have H2 := hid (H1.out.trans hm2); clear hm2))
  clear xc0 xc1 xc2 xc3
  clear yc0 yc1 yc2 yc3
  have hbx : w2.drew.heap[ta]? = some (.cells (wcells [x0, x1, x2, x3]) 26) ∧ w2.drew.heap[tb]? = some (.cells (wcells [z0, z1, z2, z3]) 26) ∧ w2.drew.heap[tr]? = some (.cells (wcells [0, 0, 0, 0]) 26) := ⟨H2.out.get HG.out.1 (by simp), H2.out.get HG.out.2.1 (by simp), H2.out.get HG.out.2.2 (by simp)⟩
  have hmw : Mod [] W w2.drew := H2.out.drew
  refine wp_region_N (BoxS 26 ta tb [x0, x1, x2, x3] [z0, z1, z2, z3]) (fun i => !(i == 13)) (by kernel_rfl) ?_
  generalize w2.drew = wq at *
  have HBX := hid hbx
  have HMW := hid hmw
  have HLT : Hid (ta < tb ∧ tb < tr ∧ tr < wq.heap.size) := ⟨HM.out.2.2.1, HM.out.2.2.2, lt_of_block HBX.out.2.2⟩
  clear hbx hmw H1 H2 q1
  apply merge2 (R := fun b6 b7 W9 => W9.heap[b6]? = some (.cells (wcells [z0, z1, z2, z3, 0, 0, 0, 0]) 100) ∧ W9.heap[b7]? = some (.cells (wcells [s0, s1, s2, s3, o0, o1, o2, o3]) 100) ∧ W9.heap[tb]? = some (.cells (wcells [z0, z1, z2, z3]) 26) ∧ W9.heap[tr]? = some (.cells (wcells [0, 0, 0, 0]) 26) ∧ Mod [] wq W9 ∧ tr < b6 ∧ tr < b7 ∧ b6 ≠ b7)
  · intro key
    have KEY := hid key
    clear key
    have hS : BoxS 26 ta tb [x0, x1, x2, x3] [z0, z1, z2, z3] wq := ⟨HBX.out.1, HBX.out.2.1⟩
    refine regS 0 25 (v := ?_) hS rfl rfl (by kernel_rfl) (by kernel_rfl) (by kernel_rfl) (by kernel_rfl) (fun _ _ _ h => h) (by rfl) (fun w hSw => ?_) ?_; rotate_left; (have qc0 := cell_at hSw.2 0; have qc1 := cell_at hSw.2 1; have qc2 := cell_at hSw.2 2; have qc3 := cell_at hSw.2 3; simp only [wcells_get] at qc0 qc1 qc2 qc3; go_simp; first | done | with_reducible rfl); (try simp only [Act.put, List.setIfInBounds_toArray, List.set_cons_zero, List.set_cons_succ])
    refine regA 1 26 (v := ?_) rfl rfl (by kernel_rfl) (by kernel_rfl) (by kernel_rfl) (fun _ _ _ h => h) (by rfl) (fun w => ?_) ?_; rotate_left; (go_simp; first | done | with_reducible rfl); (try simp only [Act.put, List.setIfInBounds_toArray, List.set_cons_zero, List.set_cons_succ])
    refine regA 2 27 (v := ?_) rfl rfl (by kernel_rfl) (by kernel_rfl) (by kernel_rfl) (fun _ _ _ h => h) (by rfl) (fun w => ?_) ?_; rotate_left; (go_simp; first | done | with_reducible rfl); (try simp only [Act.put, List.setIfInBounds_toArray, List.set_cons_zero, List.set_cons_succ])
    refine regS 3 28 (v := ?_) hS rfl rfl (by kernel_rfl) (by kernel_rfl) (by kernel_rfl) (by kernel_rfl) (fun _ _ _ h => h) (by rfl) (fun w hSw => ?_) ?_; rotate_left; (have qc0 := cell_at hSw.1 0; have qc1 := cell_at hSw.1 1; have qc2 := cell_at hSw.1 2; have qc3 := cell_at hSw.1 3; simp only [wcells_get] at qc0 qc1 qc2 qc3; go_simp; first | done | with_reducible rfl); (try simp only [Act.put, List.setIfInBounds_toArray, List.set_cons_zero, List.set_cons_succ])
    refine regS 4 29 (v := ?_) hS rfl rfl (by kernel_rfl) (by kernel_rfl) (by kernel_rfl) (by kernel_rfl) (fun _ _ _ h => h) (by rfl) (fun w hSw => ?_) ?_; rotate_left; (have qc0 := cell_at hSw.2 0; have qc1 := cell_at hSw.2 1; have qc2 := cell_at hSw.2 2; have qc3 := cell_at hSw.2 3; simp only [wcells_get] at qc0 qc1 qc2 qc3; go_simp; first | done | with_reducible rfl); (try simp only [Act.put, List.setIfInBounds_toArray, List.set_cons_zero, List.set_cons_succ])
    refine regA 6 31 (v := ?_) rfl rfl (by kernel_rfl) (by kernel_rfl) (by kernel_rfl) (fun _ _ _ h => h) (by rfl) (fun w => ?_) ?_; rotate_left; (go_simp; first | done | with_reducible rfl); (try simp only [Act.put, List.setIfInBounds_toArray, List.set_cons_zero, List.set_cons_succ])
    refine regS 7 32 (v := ?_) hS rfl rfl (by kernel_rfl) (by kernel_rfl) (by kernel_rfl) (by kernel_rfl) (fun _ _ _ h => h) (by rfl) (fun w hSw => ?_) ?_; rotate_left; (have qc0 := cell_at hSw.2 0; have qc1 := cell_at hSw.2 1; have qc2 := cell_at hSw.2 2; have qc3 := cell_at hSw.2 3; simp only [wcells_get] at qc0 qc1 qc2 qc3; go_simp; first | done | with_reducible rfl); (try simp only [Act.put, List.setIfInBounds_toArray, List.set_cons_zero, List.set_cons_succ])
    clear hS
    have hM := Mod.refl [] wq
    refine regThree 5 10 11 (by kernel_rfl) rfl (by rfl) rfl (by rfl) rfl (by rfl) (fun K hK => ?_) (fun K hK => ?_) (fun K hK => ?_)
    · go_wp2_with (go_at_call 50; refine (CA.out _).mono ?_; rintro e wq1 ⟨rfl, hm⟩)
      refine hK.out _ _ (fun _ h => ⟨hm.get h.1 (by simp), hm.get h.2 (by simp)⟩) ?_
      clear hK
      (try simp only [Act.put, List.setIfInBounds_toArray, List.set_cons_zero, List.set_cons_succ])
      have hM := hM.trans hm
      clear hm
      refine regThree 8 10 11 (by kernel_rfl) rfl (by rfl) rfl (by rfl) rfl (by rfl) (fun K hK => ?_) (fun K hK => ?_) (fun K hK => ?_)
      · go_wp2_with (go_at_call 50; refine (CO.out _).mono ?_; rintro e wq2 ⟨rfl, hm⟩)
        refine hK.out _ _ (fun _ h => ⟨hm.get h.1 (by simp), hm.get h.2 (by simp)⟩) ?_
        clear hK
        (try simp only [Act.put, List.setIfInBounds_toArray, List.set_cons_zero, List.set_cons_succ])
        have hM := hM.trans hm
        clear hm
        refine regA 9 34 (v := ?_) rfl rfl (by kernel_rfl) (by kernel_rfl) (by kernel_rfl) (fun _ _ _ h => h) (by rfl) (fun w => ?_) ?_; rotate_left; (go_simp; first | done | with_reducible rfl); (try simp only [Act.put, List.setIfInBounds_toArray, List.set_cons_zero, List.set_cons_succ])
        refine regTwo 10 11 (by kernel_rfl) rfl (by rfl) rfl (by rfl) (fun K hK => ?_) (fun K hK => ?_)
        · go_wp2_with fail
          refine hK.out _ _ (fun _ h => ⟨get_alloc h.1 _, get_alloc h.2 _⟩) ?_
          clear hK
          (try simp only [Act.put, List.setIfInBounds_toArray, List.set_cons_zero, List.set_cons_succ])
          have gb6 : (wq2.alloc (.cells #[.int .u64 0, .int .u64 0, .int .u64 0, .int .u64 0, .int .u64 0, .int .u64 0, .int .u64 0, .int .u64 0] 100 (0, 0))).heap[wq2.heap.size]? = some (.cells (wcells [0, 0, 0, 0, 0, 0, 0, 0]) 100) := get_new wq2 _
          obtain ⟨b6, hb6⟩ : ∃ b, wq2.heap.size = b := ⟨_, rfl⟩
          have lb6 : wq.heap.size ≤ b6 := by rw [← hb6]; exact hM.size
          rw [hb6] at gb6 ⊢
          have hM : Mod [] wq (wq2.alloc (.cells #[.int .u64 0, .int .u64 0, .int .u64 0, .int .u64 0, .int .u64 0, .int .u64 0, .int .u64 0, .int .u64 0] 100 (0, 0))) := hM.alloc _
          generalize wq2.alloc (.cells #[.int .u64 0, .int .u64 0, .int .u64 0, .int .u64 0, .int .u64 0, .int .u64 0, .int .u64 0, .int .u64 0] 100 (0, 0)) = wq3 at *
          refine regOnly 11 (by kernel_rfl) rfl (by rfl) (fun K hK => ?_)
          go_wp2_with fail
          refine hK.out _ _ (fun _ h => ⟨get_alloc h.1 _, get_alloc h.2 _⟩) ?_
          clear hK
          (try simp only [Act.put, List.setIfInBounds_toArray, List.set_cons_zero, List.set_cons_succ])
          have gb7 : (wq3.alloc (.cells #[.int .u64 0, .int .u64 0, .int .u64 0, .int .u64 0, .int .u64 0, .int .u64 0, .int .u64 0, .int .u64 0] 100 (0, 0))).heap[wq3.heap.size]? = some (.cells (wcells [0, 0, 0, 0, 0, 0, 0, 0]) 100) := get_new wq3 _
          obtain ⟨b7, hb7⟩ : ∃ b, wq3.heap.size = b := ⟨_, rfl⟩
          have lb7 : wq.heap.size ≤ b7 := by rw [← hb7]; exact hM.size
          rw [hb7] at gb7 ⊢
          have nb6b7 : b6 < b7 := by rw [← hb7]; exact lt_of_block gb6
          have gb6 : (wq3.alloc (.cells #[.int .u64 0, .int .u64 0, .int .u64 0, .int .u64 0, .int .u64 0, .int .u64 0, .int .u64 0, .int .u64 0] 100 (0, 0))).heap[b6]? = some (.cells (wcells [0, 0, 0, 0, 0, 0, 0, 0]) 100) := get_alloc gb6 _
          have hM : Mod [] wq (wq3.alloc (.cells #[.int .u64 0, .int .u64 0, .int .u64 0, .int .u64 0, .int .u64 0, .int .u64 0, .int .u64 0, .int .u64 0] 100 (0, 0))) := hM.alloc _
          generalize wq3.alloc (.cells #[.int .u64 0, .int .u64 0, .int .u64 0, .int .u64 0, .int .u64 0, .int .u64 0, .int .u64 0, .int .u64 0] 100 (0, 0)) = wq4 at *
          have hne : ta ≠ b6 ∧ tb ≠ b6 ∧ tr ≠ b6 ∧ tb ≠ b7 ∧ tr ≠ b7 ∧ tr < b6 ∧ tr < b7 := by have := HLT.out; omega
          have hbb : b6 ≠ b7 := by omega
          have NE := hid (And.intro hne hbb)
          have nc0 := cell_at gb6 0; have nc1 := cell_at gb6 1; have nc2 := cell_at gb6 2; have nc3 := cell_at gb6 3; have nc4 := cell_at gb6 4; have nc5 := cell_at gb6 5; have nc6 := cell_at gb6 6; have nc7 := cell_at gb6 7; simp only [wcells_get] at nc0 nc1 nc2 nc3 nc4 nc5 nc6 nc7
          have nf0 := free_at gb6 0; have nf1 := free_at gb6 1; have nf2 := free_at gb6 2; have nf3 := free_at gb6 3; have nf4 := free_at gb6 4; have nf5 := free_at gb6 5; have nf6 := free_at gb6 6; have nf7 := free_at gb6 7
          have gx := HBX.out.1
          have gz := HBX.out.2.1
          have g6 := hid (set8_at gb6 z0 z1 z2 z3 0 0 0 0)
          have g7 := hid (set8_keep (b := b6) gb7 NE.out.2.symm z0 z1 z2 z3 0 0 0 0)
          have gt := hid (set8_keep (b := b6) (hM.get HBX.out.2.1 (by simp)) NE.out.1.2.1 z0 z1 z2 z3 0 0 0 0)
          have gr := hid (set8_keep (b := b6) (hM.get HBX.out.2.2 (by simp)) NE.out.1.2.2.1 z0 z1 z2 z3 0 0 0 0)
          have hM6 := hid (set8_mod lb6 hM z0 z1 z2 z3 0 0 0 0)
          clear gb6 gb7 hM hne hbb gx gz
          refine regOnly 12 (by kernel_rfl) rfl (by rfl) (fun K hK => ?_)
          go_wp2_with fail
          refine hK.out _ _ (fun _ h => ⟨set8_keep h.1 NE.out.1.1 _ _ _ _ 0 0 0 0, set8_keep h.2 NE.out.1.2.1 _ _ _ _ 0 0 0 0⟩) ?_
          clear hK
          (try simp only [Act.put, List.setIfInBounds_toArray, List.set_cons_zero, List.set_cons_succ])
          clear nc0 nc1 nc2 nc3 nc4 nc5 nc6 nc7
          clear nf0 nf1 nf2 nf3 nf4 nf5 nf6 nf7
          refine regAbs (fun W9 => W9.heap[b6]? = some (.cells (wcells [z0, z1, z2, z3, 0, 0, 0, 0]) 100) ∧ W9.heap[b7]? = some (.cells (wcells [0, 0, 0, 0, 0, 0, 0, 0]) 100) ∧ W9.heap[tb]? = some (.cells (wcells [z0, z1, z2, z3]) 26) ∧ W9.heap[tr]? = some (.cells (wcells [0, 0, 0, 0]) 26) ∧ Mod [] wq W9) ⟨g6.out, g7.out, gt.out, gr.out, hM6.out⟩ ?_
          clear g6 g7 gt gr hM6
          rintro W9 ⟨g6, g7, gt, gr, hM6⟩
          have nc0 := cell_at g7 0; have nc1 := cell_at g7 1; have nc2 := cell_at g7 2; have nc3 := cell_at g7 3; have nc4 := cell_at g7 4; have nc5 := cell_at g7 5; have nc6 := cell_at g7 6; have nc7 := cell_at g7 7; simp only [wcells_get] at nc0 nc1 nc2 nc3 nc4 nc5 nc6 nc7
          have nf0 := free_at g7 0; have nf1 := free_at g7 1; have nf2 := free_at g7 2; have nf3 := free_at g7 3; have nf4 := free_at g7 4; have nf5 := free_at g7 5; have nf6 := free_at g7 6; have nf7 := free_at g7 7
          have k6 := hid (set8_keep (b := b7) g6 NE.out.2 s0 s1 s2 s3 o0 o1 o2 o3)
          have k7 := hid (set8_at g7 s0 s1 s2 s3 o0 o1 o2 o3)
          have kt := hid (set8_keep (b := b7) gt NE.out.1.2.2.2.1 s0 s1 s2 s3 o0 o1 o2 o3)
          have kr := hid (set8_keep (b := b7) gr NE.out.1.2.2.2.2.1 s0 s1 s2 s3 o0 o1 o2 o3)
          have hM7 := hid (set8_mod lb7 hM6 s0 s1 s2 s3 o0 o1 o2 o3)
          clear g6 g7 gt gr hM6
          refine regOnly 13 (by kernel_rfl) rfl (by rfl) (fun K hK => ?_)
          go_wp2_with fail
          refine hK.out _ _ (fun h _ => absurd h (by decide)) ?_
          clear hK
          (try simp only [Act.put, List.setIfInBounds_toArray, List.set_cons_zero, List.set_cons_succ])
          clear nc0 nc1 nc2 nc3 nc4 nc5 nc6 nc7
          clear nf0 nf1 nf2 nf3 nf4 nf5 nf6 nf7
          refine regAbs (fun W9 => W9.heap[b6]? = some (.cells (wcells [z0, z1, z2, z3, 0, 0, 0, 0]) 100) ∧ W9.heap[b7]? = some (.cells (wcells [s0, s1, s2, s3, o0, o1, o2, o3]) 100) ∧ W9.heap[tb]? = some (.cells (wcells [z0, z1, z2, z3]) 26) ∧ W9.heap[tr]? = some (.cells (wcells [0, 0, 0, 0]) 26) ∧ Mod [] wq W9 ∧ tr < b6 ∧ tr < b7 ∧ b6 ≠ b7) ⟨k6.out, k7.out, kt.out, kr.out, hM7.out, NE.out.1.2.2.2.2.2.1, NE.out.1.2.2.2.2.2.2, NE.out.2⟩ ?_
          rintro W10 hR
          refine regDone (by kernel_rfl) ?_ _
          exact KEY.out b6 b7 W10 hR
        · go_wp2_with fail
          refine hK.out _ _ (fun _ h => ⟨get_alloc h.1 _, get_alloc h.2 _⟩) ?_
          clear hK
          (try simp only [Act.put, List.setIfInBounds_toArray, List.set_cons_zero, List.set_cons_succ])
          have gb7 : (wq2.alloc (.cells #[.int .u64 0, .int .u64 0, .int .u64 0, .int .u64 0, .int .u64 0, .int .u64 0, .int .u64 0, .int .u64 0] 100 (0, 0))).heap[wq2.heap.size]? = some (.cells (wcells [0, 0, 0, 0, 0, 0, 0, 0]) 100) := get_new wq2 _
          obtain ⟨b7, hb7⟩ : ∃ b, wq2.heap.size = b := ⟨_, rfl⟩
          have lb7 : wq.heap.size ≤ b7 := by rw [← hb7]; exact hM.size
          rw [hb7] at gb7 ⊢
          have hM : Mod [] wq (wq2.alloc (.cells #[.int .u64 0, .int .u64 0, .int .u64 0, .int .u64 0, .int .u64 0, .int .u64 0, .int .u64 0, .int .u64 0] 100 (0, 0))) := hM.alloc _
          generalize wq2.alloc (.cells #[.int .u64 0, .int .u64 0, .int .u64 0, .int .u64 0, .int .u64 0, .int .u64 0, .int .u64 0, .int .u64 0] 100 (0, 0)) = wq3 at *
          refine regOnly 10 (by kernel_rfl) rfl (by rfl) (fun K hK => ?_)
          go_wp2_with fail
          refine hK.out _ _ (fun _ h => ⟨get_alloc h.1 _, get_alloc h.2 _⟩) ?_
          clear hK
          (try simp only [Act.put, List.setIfInBounds_toArray, List.set_cons_zero, List.set_cons_succ])
          have gb6 : (wq3.alloc (.cells #[.int .u64 0, .int .u64 0, .int .u64 0, .int .u64 0, .int .u64 0, .int .u64 0, .int .u64 0, .int .u64 0] 100 (0, 0))).heap[wq3.heap.size]? = some (.cells (wcells [0, 0, 0, 0, 0, 0, 0, 0]) 100) := get_new wq3 _
          obtain ⟨b6, hb6⟩ : ∃ b, wq3.heap.size = b := ⟨_, rfl⟩
          have lb6 : wq.heap.size ≤ b6 := by rw [← hb6]; exact hM.size
          rw [hb6] at gb6 ⊢
          have nb7b6 : b7 < b6 := by rw [← hb6]; exact lt_of_block gb7
          have gb7 : (wq3.alloc (.cells #[.int .u64 0, .int .u64 0, .int .u64 0, .int .u64 0, .int .u64 0, .int .u64 0, .int .u64 0, .int .u64 0] 100 (0, 0))).heap[b7]? = some (.cells (wcells [0, 0, 0, 0, 0, 0, 0, 0]) 100) := get_alloc gb7 _
          have hM : Mod [] wq (wq3.alloc (.cells #[.int .u64 0, .int .u64 0, .int .u64 0, .int .u64 0, .int .u64 0, .int .u64 0, .int .u64 0, .int .u64 0] 100 (0, 0))) := hM.alloc _
          generalize wq3.alloc (.cells #[.int .u64 0, .int .u64 0, .int .u64 0, .int .u64 0, .int .u64 0, .int .u64 0, .int .u64 0, .int .u64 0] 100 (0, 0)) = wq4 at *
          have hne : ta ≠ b6 ∧ tb ≠ b6 ∧ tr ≠ b6 ∧ tb ≠ b7 ∧ tr ≠ b7 ∧ tr < b6 ∧ tr < b7 := by have := HLT.out; omega
          have hbb : b6 ≠ b7 := by omega
          have NE := hid (And.intro hne hbb)
          have nc0 := cell_at gb6 0; have nc1 := cell_at gb6 1; have nc2 := cell_at gb6 2; have nc3 := cell_at gb6 3; have nc4 := cell_at gb6 4; have nc5 := cell_at gb6 5; have nc6 := cell_at gb6 6; have nc7 := cell_at gb6 7; simp only [wcells_get] at nc0 nc1 nc2 nc3 nc4 nc5 nc6 nc7
          have nf0 := free_at gb6 0; have nf1 := free_at gb6 1; have nf2 := free_at gb6 2; have nf3 := free_at gb6 3; have nf4 := free_at gb6 4; have nf5 := free_at gb6 5; have nf6 := free_at gb6 6; have nf7 := free_at gb6 7
          have gx := HBX.out.1
          have gz := HBX.out.2.1
          have g6 := hid (set8_at gb6 z0 z1 z2 z3 0 0 0 0)
          have g7 := hid (set8_keep (b := b6) gb7 NE.out.2.symm z0 z1 z2 z3 0 0 0 0)
          have gt := hid (set8_keep (b := b6) (hM.get HBX.out.2.1 (by simp)) NE.out.1.2.1 z0 z1 z2 z3 0 0 0 0)
          have gr := hid (set8_keep (b := b6) (hM.get HBX.out.2.2 (by simp)) NE.out.1.2.2.1 z0 z1 z2 z3 0 0 0 0)
          have hM6 := hid (set8_mod lb6 hM z0 z1 z2 z3 0 0 0 0)
          clear gb6 gb7 hM hne hbb gx gz
          refine regOnly 12 (by kernel_rfl) rfl (by rfl) (fun K hK => ?_)
          go_wp2_with fail
          refine hK.out _ _ (fun _ h => ⟨set8_keep h.1 NE.out.1.1 _ _ _ _ 0 0 0 0, set8_keep h.2 NE.out.1.2.1 _ _ _ _ 0 0 0 0⟩) ?_
          clear hK
          (try simp only [Act.put, List.setIfInBounds_toArray, List.set_cons_zero, List.set_cons_succ])
          clear nc0 nc1 nc2 nc3 nc4 nc5 nc6 nc7
          clear nf0 nf1 nf2 nf3 nf4 nf5 nf6 nf7
          refine regAbs (fun W9 => W9.heap[b6]? = some (.cells (wcells [z0, z1, z2, z3, 0, 0, 0, 0]) 100) ∧ W9.heap[b7]? = some (.cells (wcells [0, 0, 0, 0, 0, 0, 0, 0]) 100) ∧ W9.heap[tb]? = some (.cells (wcells [z0, z1, z2, z3]) 26) ∧ W9.heap[tr]? = some (.cells (wcells [0, 0, 0, 0]) 26) ∧ Mod [] wq W9) ⟨g6.out, g7.out, gt.out, gr.out, hM6.out⟩ ?_
          clear g6 g7 gt gr hM6
          rintro W9 ⟨g6, g7, gt, gr, hM6⟩
          have nc0 := cell_at g7 0; have nc1 := cell_at g7 1; have nc2 := cell_at g7 2; have nc3 := cell_at g7 3; have nc4 := cell_at g7 4; have nc5 := cell_at g7 5; have nc6 := cell_at g7 6; have nc7 := cell_at g7 7; simp only [wcells_get] at nc0 nc1 nc2 nc3 nc4 nc5 nc6 nc7
          have nf0 := free_at g7 0; have nf1 := free_at g7 1; have nf2 := free_at g7 2; have nf3 := free_at g7 3; have nf4 := free_at g7 4; have nf5 := free_at g7 5; have nf6 := free_at g7 6; have nf7 := free_at g7 7
          have k6 := hid (set8_keep (b := b7) g6 NE.out.2 s0 s1 s2 s3 o0 o1 o2 o3)
          have k7 := hid (set8_at g7 s0 s1 s2 s3 o0 o1 o2 o3)
          have kt := hid (set8_keep (b := b7) gt NE.out.1.2.2.2.1 s0 s1 s2 s3 o0 o1 o2 o3)
          have kr := hid (set8_keep (b := b7) gr NE.out.1.2.2.2.2.1 s0 s1 s2 s3 o0 o1 o2 o3)
          have hM7 := hid (set8_mod lb7 hM6 s0 s1 s2 s3 o0 o1 o2 o3)
          clear g6 g7 gt gr hM6
          refine regOnly 13 (by kernel_rfl) rfl (by rfl) (fun K hK => ?_)
          go_wp2_with fail
          refine hK.out _ _ (fun h _ => absurd h (by decide)) ?_
          clear hK
          (try simp only [Act.put, List.setIfInBounds_toArray, List.set_cons_zero, List.set_cons_succ])
          clear nc0 nc1 nc2 nc3 nc4 nc5 nc6 nc7
          clear nf0 nf1 nf2 nf3 nf4 nf5 nf6 nf7
          refine regAbs (fun W9 => W9.heap[b6]? = some (.cells (wcells [z0, z1, z2, z3, 0, 0, 0, 0]) 100) ∧ W9.heap[b7]? = some (.cells (wcells [s0, s1, s2, s3, o0, o1, o2, o3]) 100) ∧ W9.heap[tb]? = some (.cells (wcells [z0, z1, z2, z3]) 26) ∧ W9.heap[tr]? = some (.cells (wcells [0, 0, 0, 0]) 26) ∧ Mod [] wq W9 ∧ tr < b6 ∧ tr < b7 ∧ b6 ≠ b7) ⟨k6.out, k7.out, kt.out, kr.out, hM7.out, NE.out.1.2.2.2.2.2.1, NE.out.1.2.2.2.2.2.2, NE.out.2⟩ ?_
          rintro W10 hR
          refine regDone (by kernel_rfl) ?_ _
          exact KEY.out b6 b7 W10 hR
      · go_wp2_with fail
        refine hK.out _ _ (fun _ h => ⟨get_alloc h.1 _, get_alloc h.2 _⟩) ?_
        clear hK
        (try simp only [Act.put, List.setIfInBounds_toArray, List.set_cons_zero, List.set_cons_succ])
        have gb6 : (wq1.alloc (.cells #[.int .u64 0, .int .u64 0, .int .u64 0, .int .u64 0, .int .u64 0, .int .u64 0, .int .u64 0, .int .u64 0] 100 (0, 0))).heap[wq1.heap.size]? = some (.cells (wcells [0, 0, 0, 0, 0, 0, 0, 0]) 100) := get_new wq1 _
        obtain ⟨b6, hb6⟩ : ∃ b, wq1.heap.size = b := ⟨_, rfl⟩
        have lb6 : wq.heap.size ≤ b6 := by rw [← hb6]; exact hM.size
        rw [hb6] at gb6 ⊢
        have hM : Mod [] wq (wq1.alloc (.cells #[.int .u64 0, .int .u64 0, .int .u64 0, .int .u64 0, .int .u64 0, .int .u64 0, .int .u64 0, .int .u64 0] 100 (0, 0))) := hM.alloc _
        generalize wq1.alloc (.cells #[.int .u64 0, .int .u64 0, .int .u64 0, .int .u64 0, .int .u64 0, .int .u64 0, .int .u64 0, .int .u64 0] 100 (0, 0)) = wq2 at *
        refine regTwo 8 11 (by kernel_rfl) rfl (by rfl) rfl (by rfl) (fun K hK => ?_) (fun K hK => ?_)
        · go_wp2_with (go_at_call 50; refine (CO.out _).mono ?_; rintro e wq3 ⟨rfl, hm⟩)
          refine hK.out _ _ (fun _ h => ⟨hm.get h.1 (by simp), hm.get h.2 (by simp)⟩) ?_
          clear hK
          (try simp only [Act.put, List.setIfInBounds_toArray, List.set_cons_zero, List.set_cons_succ])
          have gb6 := hm.get gb6 (by simp)
          have hM := hM.trans hm
          clear hm
          refine regA 9 34 (v := ?_) rfl rfl (by kernel_rfl) (by kernel_rfl) (by kernel_rfl) (fun _ _ _ h => h) (by rfl) (fun w => ?_) ?_; rotate_left; (go_simp; first | done | with_reducible rfl); (try simp only [Act.put, List.setIfInBounds_toArray, List.set_cons_zero, List.set_cons_succ])
          refine regOnly 11 (by kernel_rfl) rfl (by rfl) (fun K hK => ?_)
          go_wp2_with fail
          refine hK.out _ _ (fun _ h => ⟨get_alloc h.1 _, get_alloc h.2 _⟩) ?_
          clear hK
          (try simp only [Act.put, List.setIfInBounds_toArray, List.set_cons_zero, List.set_cons_succ])
          have gb7 : (wq3.alloc (.cells #[.int .u64 0, .int .u64 0, .int .u64 0, .int .u64 0, .int .u64 0, .int .u64 0, .int .u64 0, .int .u64 0] 100 (0, 0))).heap[wq3.heap.size]? = some (.cells (wcells [0, 0, 0, 0, 0, 0, 0, 0]) 100) := get_new wq3 _
          obtain ⟨b7, hb7⟩ : ∃ b, wq3.heap.size = b := ⟨_, rfl⟩
          have lb7 : wq.heap.size ≤ b7 := by rw [← hb7]; exact hM.size
          rw [hb7] at gb7 ⊢
          have nb6b7 : b6 < b7 := by rw [← hb7]; exact lt_of_block gb6
          have gb6 : (wq3.alloc (.cells #[.int .u64 0, .int .u64 0, .int .u64 0, .int .u64 0, .int .u64 0, .int .u64 0, .int .u64 0, .int .u64 0] 100 (0, 0))).heap[b6]? = some (.cells (wcells [0, 0, 0, 0, 0, 0, 0, 0]) 100) := get_alloc gb6 _
          have hM : Mod [] wq (wq3.alloc (.cells #[.int .u64 0, .int .u64 0, .int .u64 0, .int .u64 0, .int .u64 0, .int .u64 0, .int .u64 0, .int .u64 0] 100 (0, 0))) := hM.alloc _
          generalize wq3.alloc (.cells #[.int .u64 0, .int .u64 0, .int .u64 0, .int .u64 0, .int .u64 0, .int .u64 0, .int .u64 0, .int .u64 0] 100 (0, 0)) = wq4 at *
          have hne : ta ≠ b6 ∧ tb ≠ b6 ∧ tr ≠ b6 ∧ tb ≠ b7 ∧ tr ≠ b7 ∧ tr < b6 ∧ tr < b7 := by have := HLT.out; omega
          have hbb : b6 ≠ b7 := by omega
          have NE := hid (And.intro hne hbb)
          have nc0 := cell_at gb6 0; have nc1 := cell_at gb6 1; have nc2 := cell_at gb6 2; have nc3 := cell_at gb6 3; have nc4 := cell_at gb6 4; have nc5 := cell_at gb6 5; have nc6 := cell_at gb6 6; have nc7 := cell_at gb6 7; simp only [wcells_get] at nc0 nc1 nc2 nc3 nc4 nc5 nc6 nc7
          have nf0 := free_at gb6 0; have nf1 := free_at gb6 1; have nf2 := free_at gb6 2; have nf3 := free_at gb6 3; have nf4 := free_at gb6 4; have nf5 := free_at gb6 5; have nf6 := free_at gb6 6; have nf7 := free_at gb6 7
          have gx := HBX.out.1
          have gz := HBX.out.2.1
          have g6 := hid (set8_at gb6 z0 z1 z2 z3 0 0 0 0)
          have g7 := hid (set8_keep (b := b6) gb7 NE.out.2.symm z0 z1 z2 z3 0 0 0 0)
          have gt := hid (set8_keep (b := b6) (hM.get HBX.out.2.1 (by simp)) NE.out.1.2.1 z0 z1 z2 z3 0 0 0 0)
          have gr := hid (set8_keep (b := b6) (hM.get HBX.out.2.2 (by simp)) NE.out.1.2.2.1 z0 z1 z2 z3 0 0 0 0)
          have hM6 := hid (set8_mod lb6 hM z0 z1 z2 z3 0 0 0 0)
          clear gb6 gb7 hM hne hbb gx gz
          refine regOnly 12 (by kernel_rfl) rfl (by rfl) (fun K hK => ?_)
          go_wp2_with fail
          refine hK.out _ _ (fun _ h => ⟨set8_keep h.1 NE.out.1.1 _ _ _ _ 0 0 0 0, set8_keep h.2 NE.out.1.2.1 _ _ _ _ 0 0 0 0⟩) ?_
          clear hK
          (try simp only [Act.put, List.setIfInBounds_toArray, List.set_cons_zero, List.set_cons_succ])
          clear nc0 nc1 nc2 nc3 nc4 nc5 nc6 nc7
          clear nf0 nf1 nf2 nf3 nf4 nf5 nf6 nf7
          refine regAbs (fun W9 => W9.heap[b6]? = some (.cells (wcells [z0, z1, z2, z3, 0, 0, 0, 0]) 100) ∧ W9.heap[b7]? = some (.cells (wcells [0, 0, 0, 0, 0, 0, 0, 0]) 100) ∧ W9.heap[tb]? = some (.cells (wcells [z0, z1, z2, z3]) 26) ∧ W9.heap[tr]? = some (.cells (wcells [0, 0, 0, 0]) 26) ∧ Mod [] wq W9) ⟨g6.out, g7.out, gt.out, gr.out, hM6.out⟩ ?_
          clear g6 g7 gt gr hM6
          rintro W9 ⟨g6, g7, gt, gr, hM6⟩
          have nc0 := cell_at g7 0; have nc1 := cell_at g7 1; have nc2 := cell_at g7 2; have nc3 := cell_at g7 3; have nc4 := cell_at g7 4; have nc5 := cell_at g7 5; have nc6 := cell_at g7 6; have nc7 := cell_at g7 7; simp only [wcells_get] at nc0 nc1 nc2 nc3 nc4 nc5 nc6 nc7
          have nf0 := free_at g7 0; have nf1 := free_at g7 1; have nf2 := free_at g7 2; have nf3 := free_at g7 3; have nf4 := free_at g7 4; have nf5 := free_at g7 5; have nf6 := free_at g7 6; have nf7 := free_at g7 7
          have k6 := hid (set8_keep (b := b7) g6 NE.out.2 s0 s1 s2 s3 o0 o1 o2 o3)
          have k7 := hid (set8_at g7 s0 s1 s2 s3 o0 o1 o2 o3)
          have kt := hid (set8_keep (b := b7) gt NE.out.1.2.2.2.1 s0 s1 s2 s3 o0 o1 o2 o3)
          have kr := hid (set8_keep (b := b7) gr NE.out.1.2.2.2.2.1 s0 s1 s2 s3 o0 o1 o2 o3)
          have hM7 := hid (set8_mod lb7 hM6 s0 s1 s2 s3 o0 o1 o2 o3)
          clear g6 g7 gt gr hM6
          refine regOnly 13 (by kernel_rfl) rfl (by rfl) (fun K hK => ?_)
          go_wp2_with fail
          refine hK.out _ _ (fun h _ => absurd h (by decide)) ?_
          clear hK
          (try simp only [Act.put, List.setIfInBounds_toArray, List.set_cons_zero, List.set_cons_succ])
          clear nc0 nc1 nc2 nc3 nc4 nc5 nc6 nc7
          clear nf0 nf1 nf2 nf3 nf4 nf5 nf6 nf7
          refine regAbs (fun W9 => W9.heap[b6]? = some (.cells (wcells [z0, z1, z2, z3, 0, 0, 0, 0]) 100) ∧ W9.heap[b7]? = some (.cells (wcells [s0, s1, s2, s3, o0, o1, o2, o3]) 100) ∧ W9.heap[tb]? = some (.cells (wcells [z0, z1, z2, z3]) 26) ∧ W9.heap[tr]? = some (.cells (wcells [0, 0, 0, 0]) 26) ∧ Mod [] wq W9 ∧ tr < b6 ∧ tr < b7 ∧ b6 ≠ b7) ⟨k6.out, k7.out, kt.out, kr.out, hM7.out, NE.out.1.2.2.2.2.2.1, NE.out.1.2.2.2.2.2.2, NE.out.2⟩ ?_
          rintro W10 hR
          refine regDone (by kernel_rfl) ?_ _
          exact KEY.out b6 b7 W10 hR
        · go_wp2_with fail
          refine hK.out _ _ (fun _ h => ⟨get_alloc h.1 _, get_alloc h.2 _⟩) ?_
          clear hK
          (try simp only [Act.put, List.setIfInBounds_toArray, List.set_cons_zero, List.set_cons_succ])
          have gb7 : (wq2.alloc (.cells #[.int .u64 0, .int .u64 0, .int .u64 0, .int .u64 0, .int .u64 0, .int .u64 0, .int .u64 0, .int .u64 0] 100 (0, 0))).heap[wq2.heap.size]? = some (.cells (wcells [0, 0, 0, 0, 0, 0, 0, 0]) 100) := get_new wq2 _
          obtain ⟨b7, hb7⟩ : ∃ b, wq2.heap.size = b := ⟨_, rfl⟩
          have lb7 : wq.heap.size ≤ b7 := by rw [← hb7]; exact hM.size
          rw [hb7] at gb7 ⊢
          have nb6b7 : b6 < b7 := by rw [← hb7]; exact lt_of_block gb6
          have gb6 : (wq2.alloc (.cells #[.int .u64 0, .int .u64 0, .int .u64 0, .int .u64 0, .int .u64 0, .int .u64 0, .int .u64 0, .int .u64 0] 100 (0, 0))).heap[b6]? = some (.cells (wcells [0, 0, 0, 0, 0, 0, 0, 0]) 100) := get_alloc gb6 _
          have hM : Mod [] wq (wq2.alloc (.cells #[.int .u64 0, .int .u64 0, .int .u64 0, .int .u64 0, .int .u64 0, .int .u64 0, .int .u64 0, .int .u64 0] 100 (0, 0))) := hM.alloc _
          generalize wq2.alloc (.cells #[.int .u64 0, .int .u64 0, .int .u64 0, .int .u64 0, .int .u64 0, .int .u64 0, .int .u64 0, .int .u64 0] 100 (0, 0)) = wq3 at *
          refine regOnly 8 (by kernel_rfl) rfl (by rfl) (fun K hK => ?_)
          go_wp2_with (go_at_call 50; refine (CO.out _).mono ?_; rintro e wq4 ⟨rfl, hm⟩)
          refine hK.out _ _ (fun _ h => ⟨hm.get h.1 (by simp), hm.get h.2 (by simp)⟩) ?_
          clear hK
          (try simp only [Act.put, List.setIfInBounds_toArray, List.set_cons_zero, List.set_cons_succ])
          have gb6 := hm.get gb6 (by simp)
          have gb7 := hm.get gb7 (by simp)
          have hM := hM.trans hm
          clear hm
          refine regA 9 34 (v := ?_) rfl rfl (by kernel_rfl) (by kernel_rfl) (by kernel_rfl) (fun _ _ _ h => h) (by rfl) (fun w => ?_) ?_; rotate_left; (go_simp; first | done | with_reducible rfl); (try simp only [Act.put, List.setIfInBounds_toArray, List.set_cons_zero, List.set_cons_succ])
          have hne : ta ≠ b6 ∧ tb ≠ b6 ∧ tr ≠ b6 ∧ tb ≠ b7 ∧ tr ≠ b7 ∧ tr < b6 ∧ tr < b7 := by have := HLT.out; omega
          have hbb : b6 ≠ b7 := by omega
          have NE := hid (And.intro hne hbb)
          have nc0 := cell_at gb6 0; have nc1 := cell_at gb6 1; have nc2 := cell_at gb6 2; have nc3 := cell_at gb6 3; have nc4 := cell_at gb6 4; have nc5 := cell_at gb6 5; have nc6 := cell_at gb6 6; have nc7 := cell_at gb6 7; simp only [wcells_get] at nc0 nc1 nc2 nc3 nc4 nc5 nc6 nc7
          have nf0 := free_at gb6 0; have nf1 := free_at gb6 1; have nf2 := free_at gb6 2; have nf3 := free_at gb6 3; have nf4 := free_at gb6 4; have nf5 := free_at gb6 5; have nf6 := free_at gb6 6; have nf7 := free_at gb6 7
          have gx := HBX.out.1
          have gz := HBX.out.2.1
          have g6 := hid (set8_at gb6 z0 z1 z2 z3 0 0 0 0)
          have g7 := hid (set8_keep (b := b6) gb7 NE.out.2.symm z0 z1 z2 z3 0 0 0 0)
          have gt := hid (set8_keep (b := b6) (hM.get HBX.out.2.1 (by simp)) NE.out.1.2.1 z0 z1 z2 z3 0 0 0 0)
          have gr := hid (set8_keep (b := b6) (hM.get HBX.out.2.2 (by simp)) NE.out.1.2.2.1 z0 z1 z2 z3 0 0 0 0)
          have hM6 := hid (set8_mod lb6 hM z0 z1 z2 z3 0 0 0 0)
          clear gb6 gb7 hM hne hbb gx gz
          refine regOnly 12 (by kernel_rfl) rfl (by rfl) (fun K hK => ?_)
          go_wp2_with fail
          refine hK.out _ _ (fun _ h => ⟨set8_keep h.1 NE.out.1.1 _ _ _ _ 0 0 0 0, set8_keep h.2 NE.out.1.2.1 _ _ _ _ 0 0 0 0⟩) ?_
          clear hK
          (try simp only [Act.put, List.setIfInBounds_toArray, List.set_cons_zero, List.set_cons_succ])
          clear nc0 nc1 nc2 nc3 nc4 nc5 nc6 nc7
          clear nf0 nf1 nf2 nf3 nf4 nf5 nf6 nf7
          refine regAbs (fun W9 => W9.heap[b6]? = some (.cells (wcells [z0, z1, z2, z3, 0, 0, 0, 0]) 100) ∧ W9.heap[b7]? = some (.cells (wcells [0, 0, 0, 0, 0, 0, 0, 0]) 100) ∧ W9.heap[tb]? = some (.cells (wcells [z0, z1, z2, z3]) 26) ∧ W9.heap[tr]? = some (.cells (wcells [0, 0, 0, 0]) 26) ∧ Mod [] wq W9) ⟨g6.out, g7.out, gt.out, gr.out, hM6.out⟩ ?_
          clear g6 g7 gt gr hM6
          rintro W9 ⟨g6, g7, gt, gr, hM6⟩
          have nc0 := cell_at g7 0; have nc1 := cell_at g7 1; have nc2 := cell_at g7 2; have nc3 := cell_at g7 3; have nc4 := cell_at g7 4; have nc5 := cell_at g7 5; have nc6 := cell_at g7 6; have nc7 := cell_at g7 7; simp only [wcells_get] at nc0 nc1 nc2 nc3 nc4 nc5 nc6 nc7
          have nf0 := free_at g7 0; have nf1 := free_at g7 1; have nf2 := free_at g7 2; have nf3 := free_at g7 3; have nf4 := free_at g7 4; have nf5 := free_at g7 5; have nf6 := free_at g7 6; have nf7 := free_at g7 7
          have k6 := hid (set8_keep (b := b7) g6 NE.out.2 s0 s1 s2 s3 o0 o1 o2 o3)
          have k7 := hid (set8_at g7 s0 s1 s2 s3 o0 o1 o2 o3)
          have kt := hid (set8_keep (b := b7) gt NE.out.1.2.2.2.1 s0 s1 s2 s3 o0 o1 o2 o3)
          have kr := hid (set8_keep (b := b7) gr NE.out.1.2.2.2.2.1 s0 s1 s2 s3 o0 o1 o2 o3)
          have hM7 := hid (set8_mod lb7 hM6 s0 s1 s2 s3 o0 o1 o2 o3)
          clear g6 g7 gt gr hM6
          refine regOnly 13 (by kernel_rfl) rfl (by rfl) (fun K hK => ?_)
          go_wp2_with fail
          refine hK.out _ _ (fun h _ => absurd h (by decide)) ?_
          clear hK
          (try simp only [Act.put, List.setIfInBounds_toArray, List.set_cons_zero, List.set_cons_succ])
          clear nc0 nc1 nc2 nc3 nc4 nc5 nc6 nc7
          clear nf0 nf1 nf2 nf3 nf4 nf5 nf6 nf7
          refine regAbs (fun W9 => W9.heap[b6]? = some (.cells (wcells [z0, z1, z2, z3, 0, 0, 0, 0]) 100) ∧ W9.heap[b7]? = some (.cells (wcells [s0, s1, s2, s3, o0, o1, o2, o3]) 100) ∧ W9.heap[tb]? = some (.cells (wcells [z0, z1, z2, z3]) 26) ∧ W9.heap[tr]? = some (.cells (wcells [0, 0, 0, 0]) 26) ∧ Mod [] wq W9 ∧ tr < b6 ∧ tr < b7 ∧ b6 ≠ b7) ⟨k6.out, k7.out, kt.out, kr.out, hM7.out, NE.out.1.2.2.2.2.2.1, NE.out.1.2.2.2.2.2.2, NE.out.2⟩ ?_
          rintro W10 hR
          refine regDone (by kernel_rfl) ?_ _
          exact KEY.out b6 b7 W10 hR
      · go_wp2_with fail
        refine hK.out _ _ (fun _ h => ⟨get_alloc h.1 _, get_alloc h.2 _⟩) ?_
        clear hK
        (try simp only [Act.put, List.setIfInBounds_toArray, List.set_cons_zero, List.set_cons_succ])
        have gb7 : (wq1.alloc (.cells #[.int .u64 0, .int .u64 0, .int .u64 0, .int .u64 0, .int .u64 0, .int .u64 0, .int .u64 0, .int .u64 0] 100 (0, 0))).heap[wq1.heap.size]? = some (.cells (wcells [0, 0, 0, 0, 0, 0, 0, 0]) 100) := get_new wq1 _
        obtain ⟨b7, hb7⟩ : ∃ b, wq1.heap.size = b := ⟨_, rfl⟩
        have lb7 : wq.heap.size ≤ b7 := by rw [← hb7]; exact hM.size
        rw [hb7] at gb7 ⊢
        have hM : Mod [] wq (wq1.alloc (.cells #[.int .u64 0, .int .u64 0, .int .u64 0, .int .u64 0, .int .u64 0, .int .u64 0, .int .u64 0, .int .u64 0] 100 (0, 0))) := hM.alloc _
        generalize wq1.alloc (.cells #[.int .u64 0, .int .u64 0, .int .u64 0, .int .u64 0, .int .u64 0, .int .u64 0, .int .u64 0, .int .u64 0] 100 (0, 0)) = wq2 at *
        refine regTwo 8 10 (by kernel_rfl) rfl (by rfl) rfl (by rfl) (fun K hK => ?_) (fun K hK => ?_)
        · go_wp2_with (go_at_call 50; refine (CO.out _).mono ?_; rintro e wq3 ⟨rfl, hm⟩)
          refine hK.out _ _ (fun _ h => ⟨hm.get h.1 (by simp), hm.get h.2 (by simp)⟩) ?_
          clear hK
          (try simp only [Act.put, List.setIfInBounds_toArray, List.set_cons_zero, List.set_cons_succ])
          have gb7 := hm.get gb7 (by simp)
          have hM := hM.trans hm
          clear hm
          refine regA 9 34 (v := ?_) rfl rfl (by kernel_rfl) (by kernel_rfl) (by kernel_rfl) (fun _ _ _ h => h) (by rfl) (fun w => ?_) ?_; rotate_left; (go_simp; first | done | with_reducible rfl); (try simp only [Act.put, List.setIfInBounds_toArray, List.set_cons_zero, List.set_cons_succ])
          refine regOnly 10 (by kernel_rfl) rfl (by rfl) (fun K hK => ?_)
          go_wp2_with fail
          refine hK.out _ _ (fun _ h => ⟨get_alloc h.1 _, get_alloc h.2 _⟩) ?_
          clear hK
          (try simp only [Act.put, List.setIfInBounds_toArray, List.set_cons_zero, List.set_cons_succ])
          have gb6 : (wq3.alloc (.cells #[.int .u64 0, .int .u64 0, .int .u64 0, .int .u64 0, .int .u64 0, .int .u64 0, .int .u64 0, .int .u64 0] 100 (0, 0))).heap[wq3.heap.size]? = some (.cells (wcells [0, 0, 0, 0, 0, 0, 0, 0]) 100) := get_new wq3 _
          obtain ⟨b6, hb6⟩ : ∃ b, wq3.heap.size = b := ⟨_, rfl⟩
          have lb6 : wq.heap.size ≤ b6 := by rw [← hb6]; exact hM.size
          rw [hb6] at gb6 ⊢
          have nb7b6 : b7 < b6 := by rw [← hb6]; exact lt_of_block gb7
          have gb7 : (wq3.alloc (.cells #[.int .u64 0, .int .u64 0, .int .u64 0, .int .u64 0, .int .u64 0, .int .u64 0, .int .u64 0, .int .u64 0] 100 (0, 0))).heap[b7]? = some (.cells (wcells [0, 0, 0, 0, 0, 0, 0, 0]) 100) := get_alloc gb7 _
          have hM : Mod [] wq (wq3.alloc (.cells #[.int .u64 0, .int .u64 0, .int .u64 0, .int .u64 0, .int .u64 0, .int .u64 0, .int .u64 0, .int .u64 0] 100 (0, 0))) := hM.alloc _
          generalize wq3.alloc (.cells #[.int .u64 0, .int .u64 0, .int .u64 0, .int .u64 0, .int .u64 0, .int .u64 0, .int .u64 0, .int .u64 0] 100 (0, 0)) = wq4 at *
          have hne : ta ≠ b6 ∧ tb ≠ b6 ∧ tr ≠ b6 ∧ tb ≠ b7 ∧ tr ≠ b7 ∧ tr < b6 ∧ tr < b7 := by have := HLT.out; omega
          have hbb : b6 ≠ b7 := by omega
          have NE := hid (And.intro hne hbb)
          have nc0 := cell_at gb6 0; have nc1 := cell_at gb6 1; have nc2 := cell_at gb6 2; have nc3 := cell_at gb6 3; have nc4 := cell_at gb6 4; have nc5 := cell_at gb6 5; have nc6 := cell_at gb6 6; have nc7 := cell_at gb6 7; simp only [wcells_get] at nc0 nc1 nc2 nc3 nc4 nc5 nc6 nc7
          have nf0 := free_at gb6 0; have nf1 := free_at gb6 1; have nf2 := free_at gb6 2; have nf3 := free_at gb6 3; have nf4 := free_at gb6 4; have nf5 := free_at gb6 5; have nf6 := free_at gb6 6; have nf7 := free_at gb6 7
          have gx := HBX.out.1
          have gz := HBX.out.2.1
          have g6 := hid (set8_at gb6 z0 z1 z2 z3 0 0 0 0)
          have g7 := hid (set8_keep (b := b6) gb7 NE.out.2.symm z0 z1 z2 z3 0 0 0 0)
          have gt := hid (set8_keep (b := b6) (hM.get HBX.out.2.1 (by simp)) NE.out.1.2.1 z0 z1 z2 z3 0 0 0 0)
          have gr := hid (set8_keep (b := b6) (hM.get HBX.out.2.2 (by simp)) NE.out.1.2.2.1 z0 z1 z2 z3 0 0 0 0)
          have hM6 := hid (set8_mod lb6 hM z0 z1 z2 z3 0 0 0 0)
          clear gb6 gb7 hM hne hbb gx gz
          refine regOnly 12 (by kernel_rfl) rfl (by rfl) (fun K hK => ?_)
          go_wp2_with fail
          refine hK.out _ _ (fun _ h => ⟨set8_keep h.1 NE.out.1.1 _ _ _ _ 0 0 0 0, set8_keep h.2 NE.out.1.2.1 _ _ _ _ 0 0 0 0⟩) ?_
          clear hK
          (try simp only [Act.put, List.setIfInBounds_toArray, List.set_cons_zero, List.set_cons_succ])
          clear nc0 nc1 nc2 nc3 nc4 nc5 nc6 nc7
          clear nf0 nf1 nf2 nf3 nf4 nf5 nf6 nf7
          refine regAbs (fun W9 => W9.heap[b6]? = some (.cells (wcells [z0, z1, z2, z3, 0, 0, 0, 0]) 100) ∧ W9.heap[b7]? = some (.cells (wcells [0, 0, 0, 0, 0, 0, 0, 0]) 100) ∧ W9.heap[tb]? = some (.cells (wcells [z0, z1, z2, z3]) 26) ∧ W9.heap[tr]? = some (.cells (wcells [0, 0, 0, 0]) 26) ∧ Mod [] wq W9) ⟨g6.out, g7.out, gt.out, gr.out, hM6.out⟩ ?_
          clear g6 g7 gt gr hM6
          rintro W9 ⟨g6, g7, gt, gr, hM6⟩
          have nc0 := cell_at g7 0; have nc1 := cell_at g7 1; have nc2 := cell_at g7 2; have nc3 := cell_at g7 3; have nc4 := cell_at g7 4; have nc5 := cell_at g7 5; have nc6 := cell_at g7 6; have nc7 := cell_at g7 7; simp only [wcells_get] at nc0 nc1 nc2 nc3 nc4 nc5 nc6 nc7
          have nf0 := free_at g7 0; have nf1 := free_at g7 1; have nf2 := free_at g7 2; have nf3 := free_at g7 3; have nf4 := free_at g7 4; have nf5 := free_at g7 5; have nf6 := free_at g7 6; have nf7 := free_at g7 7
          have k6 := hid (set8_keep (b := b7) g6 NE.out.2 s0 s1 s2 s3 o0 o1 o2 o3)
          have k7 := hid (set8_at g7 s0 s1 s2 s3 o0 o1 o2 o3)
          have kt := hid (set8_keep (b := b7) gt NE.out.1.2.2.2.1 s0 s1 s2 s3 o0 o1 o2 o3)
          have kr := hid (set8_keep (b := b7) gr NE.out.1.2.2.2.2.1 s0 s1 s2 s3 o0 o1 o2 o3)
          have hM7 := hid (set8_mod lb7 hM6 s0 s1 s2 s3 o0 o1 o2 o3)
          clear g6 g7 gt gr hM6
          refine regOnly 13 (by kernel_rfl) rfl (by rfl) (fun K hK => ?_)
          go_wp2_with fail
          refine hK.out _ _ (fun h _ => absurd h (by decide)) ?_
          clear hK
          (try simp only [Act.put, List.setIfInBounds_toArray, List.set_cons_zero, List.set_cons_succ])
          clear nc0 nc1 nc2 nc3 nc4 nc5 nc6 nc7
          clear nf0 nf1 nf2 nf3 nf4 nf5 nf6 nf7
          refine regAbs (fun W9 => W9.heap[b6]? = some (.cells (wcells [z0, z1, z2, z3, 0, 0, 0, 0]) 100) ∧ W9.heap[b7]? = some (.cells (wcells [s0, s1, s2, s3, o0, o1, o2, o3]) 100) ∧ W9.heap[tb]? = some (.cells (wcells [z0, z1, z2, z3]) 26) ∧ W9.heap[tr]? = some (.cells (wcells [0, 0, 0, 0]) 26) ∧ Mod [] wq W9 ∧ tr < b6 ∧ tr < b7 ∧ b6 ≠ b7) ⟨k6.out, k7.out, kt.out, kr.out, hM7.out, NE.out.1.2.2.2.2.2.1, NE.out.1.2.2.2.2.2.2, NE.out.2⟩ ?_
          rintro W10 hR
          refine regDone (by kernel_rfl) ?_ _
          exact KEY.out b6 b7 W10 hR
        · go_wp2_with fail
          refine hK.out _ _ (fun _ h => ⟨get_alloc h.1 _, get_alloc h.2 _⟩) ?_
          clear hK
          (try simp only [Act.put, List.setIfInBounds_toArray, List.set_cons_zero, List.set_cons_succ])
          have gb6 : (wq2.alloc (.cells #[.int .u64 0, .int .u64 0, .int .u64 0, .int .u64 0, .int .u64 0, .int .u64 0, .int .u64 0, .int .u64 0] 100 (0, 0))).heap[wq2.heap.size]? = some (.cells (wcells [0, 0, 0, 0, 0, 0, 0, 0]) 100) := get_new wq2 _
          obtain ⟨b6, hb6⟩ : ∃ b, wq2.heap.size = b := ⟨_, rfl⟩
          have lb6 : wq.heap.size ≤ b6 := by rw [← hb6]; exact hM.size
          rw [hb6] at gb6 ⊢
          have nb7b6 : b7 < b6 := by rw [← hb6]; exact lt_of_block gb7
          have gb7 : (wq2.alloc (.cells #[.int .u64 0, .int .u64 0, .int .u64 0, .int .u64 0, .int .u64 0, .int .u64 0, .int .u64 0, .int .u64 0] 100 (0, 0))).heap[b7]? = some (.cells (wcells [0, 0, 0, 0, 0, 0, 0, 0]) 100) := get_alloc gb7 _
          have hM : Mod [] wq (wq2.alloc (.cells #[.int .u64 0, .int .u64 0, .int .u64 0, .int .u64 0, .int .u64 0, .int .u64 0, .int .u64 0, .int .u64 0] 100 (0, 0))) := hM.alloc _
          generalize wq2.alloc (.cells #[.int .u64 0, .int .u64 0, .int .u64 0, .int .u64 0, .int .u64 0, .int .u64 0, .int .u64 0, .int .u64 0] 100 (0, 0)) = wq3 at *
          refine regOnly 8 (by kernel_rfl) rfl (by rfl) (fun K hK => ?_)
          go_wp2_with (go_at_call 50; refine (CO.out _).mono ?_; rintro e wq4 ⟨rfl, hm⟩)
          refine hK.out _ _ (fun _ h => ⟨hm.get h.1 (by simp), hm.get h.2 (by simp)⟩) ?_
          clear hK
          (try simp only [Act.put, List.setIfInBounds_toArray, List.set_cons_zero, List.set_cons_succ])
          have gb7 := hm.get gb7 (by simp)
          have gb6 := hm.get gb6 (by simp)
          have hM := hM.trans hm
          clear hm
          refine regA 9 34 (v := ?_) rfl rfl (by kernel_rfl) (by kernel_rfl) (by kernel_rfl) (fun _ _ _ h => h) (by rfl) (fun w => ?_) ?_; rotate_left; (go_simp; first | done | with_reducible rfl); (try simp only [Act.put, List.setIfInBounds_toArray, List.set_cons_zero, List.set_cons_succ])
          have hne : ta ≠ b6 ∧ tb ≠ b6 ∧ tr ≠ b6 ∧ tb ≠ b7 ∧ tr ≠ b7 ∧ tr < b6 ∧ tr < b7 := by have := HLT.out; omega
          have hbb : b6 ≠ b7 := by omega
          have NE := hid (And.intro hne hbb)
          have nc0 := cell_at gb6 0; have nc1 := cell_at gb6 1; have nc2 := cell_at gb6 2; have nc3 := cell_at gb6 3; have nc4 := cell_at gb6 4; have nc5 := cell_at gb6 5; have nc6 := cell_at gb6 6; have nc7 := cell_at gb6 7; simp only [wcells_get] at nc0 nc1 nc2 nc3 nc4 nc5 nc6 nc7
          have nf0 := free_at gb6 0; have nf1 := free_at gb6 1; have nf2 := free_at gb6 2; have nf3 := free_at gb6 3; have nf4 := free_at gb6 4; have nf5 := free_at gb6 5; have nf6 := free_at gb6 6; have nf7 := free_at gb6 7
          have gx := HBX.out.1
          have gz := HBX.out.2.1
          have g6 := hid (set8_at gb6 z0 z1 z2 z3 0 0 0 0)
          have g7 := hid (set8_keep (b := b6) gb7 NE.out.2.symm z0 z1 z2 z3 0 0 0 0)
          have gt := hid (set8_keep (b := b6) (hM.get HBX.out.2.1 (by simp)) NE.out.1.2.1 z0 z1 z2 z3 0 0 0 0)
          have gr := hid (set8_keep (b := b6) (hM.get HBX.out.2.2 (by simp)) NE.out.1.2.2.1 z0 z1 z2 z3 0 0 0 0)
          have hM6 := hid (set8_mod lb6 hM z0 z1 z2 z3 0 0 0 0)
          clear gb6 gb7 hM hne hbb gx gz
          refine regOnly 12 (by kernel_rfl) rfl (by rfl) (fun K hK => ?_)
          go_wp2_with fail
          refine hK.out _ _ (fun _ h => ⟨set8_keep h.1 NE.out.1.1 _ _ _ _ 0 0 0 0, set8_keep h.2 NE.out.1.2.1 _ _ _ _ 0 0 0 0⟩) ?_
          clear hK
          (try simp only [Act.put, List.setIfInBounds_toArray, List.set_cons_zero, List.set_cons_succ])
          clear nc0 nc1 nc2 nc3 nc4 nc5 nc6 nc7
          clear nf0 nf1 nf2 nf3 nf4 nf5 nf6 nf7
          refine regAbs (fun W9 => W9.heap[b6]? = some (.cells (wcells [z0, z1, z2, z3, 0, 0, 0, 0]) 100) ∧ W9.heap[b7]? = some (.cells (wcells [0, 0, 0, 0, 0, 0, 0, 0]) 100) ∧ W9.heap[tb]? = some (.cells (wcells [z0, z1, z2, z3]) 26) ∧ W9.heap[tr]? = some (.cells (wcells [0, 0, 0, 0]) 26) ∧ Mod [] wq W9) ⟨g6.out, g7.out, gt.out, gr.out, hM6.out⟩ ?_
          clear g6 g7 gt gr hM6
          rintro W9 ⟨g6, g7, gt, gr, hM6⟩
          have nc0 := cell_at g7 0; have nc1 := cell_at g7 1; have nc2 := cell_at g7 2; have nc3 := cell_at g7 3; have nc4 := cell_at g7 4; have nc5 := cell_at g7 5; have nc6 := cell_at g7 6; have nc7 := cell_at g7 7; simp only [wcells_get] at nc0 nc1 nc2 nc3 nc4 nc5 nc6 nc7
          have nf0 := free_at g7 0; have nf1 := free_at g7 1; have nf2 := free_at g7 2; have nf3 := free_at g7 3; have nf4 := free_at g7 4; have nf5 := free_at g7 5; have nf6 := free_at g7 6; have nf7 := free_at g7 7
          have k6 := hid (set8_keep (b := b7) g6 NE.out.2 s0 s1 s2 s3 o0 o1 o2 o3)
          have k7 := hid (set8_at g7 s0 s1 s2 s3 o0 o1 o2 o3)
          have kt := hid (set8_keep (b := b7) gt NE.out.1.2.2.2.1 s0 s1 s2 s3 o0 o1 o2 o3)
          have kr := hid (set8_keep (b := b7) gr NE.out.1.2.2.2.2.1 s0 s1 s2 s3 o0 o1 o2 o3)
          have hM7 := hid (set8_mod lb7 hM6 s0 s1 s2 s3 o0 o1 o2 o3)
          clear g6 g7 gt gr hM6
          refine regOnly 13 (by kernel_rfl) rfl (by rfl) (fun K hK => ?_)
          go_wp2_with fail
          refine hK.out _ _ (fun h _ => absurd h (by decide)) ?_
          clear hK
          (try simp only [Act.put, List.setIfInBounds_toArray, List.set_cons_zero, List.set_cons_succ])
          clear nc0 nc1 nc2 nc3 nc4 nc5 nc6 nc7
          clear nf0 nf1 nf2 nf3 nf4 nf5 nf6 nf7
          refine regAbs (fun W9 => W9.heap[b6]? = some (.cells (wcells [z0, z1, z2, z3, 0, 0, 0, 0]) 100) ∧ W9.heap[b7]? = some (.cells (wcells [s0, s1, s2, s3, o0, o1, o2, o3]) 100) ∧ W9.heap[tb]? = some (.cells (wcells [z0, z1, z2, z3]) 26) ∧ W9.heap[tr]? = some (.cells (wcells [0, 0, 0, 0]) 26) ∧ Mod [] wq W9 ∧ tr < b6 ∧ tr < b7 ∧ b6 ≠ b7) ⟨k6.out, k7.out, kt.out, kr.out, hM7.out, NE.out.1.2.2.2.2.2.1, NE.out.1.2.2.2.2.2.2, NE.out.2⟩ ?_
          rintro W10 hR
          refine regDone (by kernel_rfl) ?_ _
          exact KEY.out b6 b7 W10 hR
    · go_wp2_with fail
      refine hK.out _ _ (fun _ h => ⟨get_alloc h.1 _, get_alloc h.2 _⟩) ?_
      clear hK
      (try simp only [Act.put, List.setIfInBounds_toArray, List.set_cons_zero, List.set_cons_succ])
      have gb6 : (wq.alloc (.cells #[.int .u64 0, .int .u64 0, .int .u64 0, .int .u64 0, .int .u64 0, .int .u64 0, .int .u64 0, .int .u64 0] 100 (0, 0))).heap[wq.heap.size]? = some (.cells (wcells [0, 0, 0, 0, 0, 0, 0, 0]) 100) := get_new wq _
      obtain ⟨b6, hb6⟩ : ∃ b, wq.heap.size = b := ⟨_, rfl⟩
      have lb6 : wq.heap.size ≤ b6 := by rw [← hb6]; exact hM.size
      rw [hb6] at gb6 ⊢
      have hM : Mod [] wq (wq.alloc (.cells #[.int .u64 0, .int .u64 0, .int .u64 0, .int .u64 0, .int .u64 0, .int .u64 0, .int .u64 0, .int .u64 0] 100 (0, 0))) := hM.alloc _
      generalize wq.alloc (.cells #[.int .u64 0, .int .u64 0, .int .u64 0, .int .u64 0, .int .u64 0, .int .u64 0, .int .u64 0, .int .u64 0] 100 (0, 0)) = wq1 at *
      refine regTwo 5 11 (by kernel_rfl) rfl (by rfl) rfl (by rfl) (fun K hK => ?_) (fun K hK => ?_)
      · go_wp2_with (go_at_call 50; refine (CA.out _).mono ?_; rintro e wq2 ⟨rfl, hm⟩)
        refine hK.out _ _ (fun _ h => ⟨hm.get h.1 (by simp), hm.get h.2 (by simp)⟩) ?_
        clear hK
        (try simp only [Act.put, List.setIfInBounds_toArray, List.set_cons_zero, List.set_cons_succ])
        have gb6 := hm.get gb6 (by simp)
        have hM := hM.trans hm
        clear hm
        refine regTwo 8 11 (by kernel_rfl) rfl (by rfl) rfl (by rfl) (fun K hK => ?_) (fun K hK => ?_)
        · go_wp2_with (go_at_call 50; refine (CO.out _).mono ?_; rintro e wq3 ⟨rfl, hm⟩)
          refine hK.out _ _ (fun _ h => ⟨hm.get h.1 (by simp), hm.get h.2 (by simp)⟩) ?_
          clear hK
          (try simp only [Act.put, List.setIfInBounds_toArray, List.set_cons_zero, List.set_cons_succ])
          have gb6 := hm.get gb6 (by simp)
          have hM := hM.trans hm
          clear hm
          refine regA 9 34 (v := ?_) rfl rfl (by kernel_rfl) (by kernel_rfl) (by kernel_rfl) (fun _ _ _ h => h) (by rfl) (fun w => ?_) ?_; rotate_left; (go_simp; first | done | with_reducible rfl); (try simp only [Act.put, List.setIfInBounds_toArray, List.set_cons_zero, List.set_cons_succ])
          refine regOnly 11 (by kernel_rfl) rfl (by rfl) (fun K hK => ?_)
          go_wp2_with fail
          refine hK.out _ _ (fun _ h => ⟨get_alloc h.1 _, get_alloc h.2 _⟩) ?_
          clear hK
          (try simp only [Act.put, List.setIfInBounds_toArray, List.set_cons_zero, List.set_cons_succ])
          have gb7 : (wq3.alloc (.cells #[.int .u64 0, .int .u64 0, .int .u64 0, .int .u64 0, .int .u64 0, .int .u64 0, .int .u64 0, .int .u64 0] 100 (0, 0))).heap[wq3.heap.size]? = some (.cells (wcells [0, 0, 0, 0, 0, 0, 0, 0]) 100) := get_new wq3 _
          obtain ⟨b7, hb7⟩ : ∃ b, wq3.heap.size = b := ⟨_, rfl⟩
          have lb7 : wq.heap.size ≤ b7 := by rw [← hb7]; exact hM.size
          rw [hb7] at gb7 ⊢
          have nb6b7 : b6 < b7 := by rw [← hb7]; exact lt_of_block gb6
          have gb6 : (wq3.alloc (.cells #[.int .u64 0, .int .u64 0, .int .u64 0, .int .u64 0, .int .u64 0, .int .u64 0, .int .u64 0, .int .u64 0] 100 (0, 0))).heap[b6]? = some (.cells (wcells [0, 0, 0, 0, 0, 0, 0, 0]) 100) := get_alloc gb6 _
          have hM : Mod [] wq (wq3.alloc (.cells #[.int .u64 0, .int .u64 0, .int .u64 0, .int .u64 0, .int .u64 0, .int .u64 0, .int .u64 0, .int .u64 0] 100 (0, 0))) := hM.alloc _
          generalize wq3.alloc (.cells #[.int .u64 0, .int .u64 0, .int .u64 0, .int .u64 0, .int .u64 0, .int .u64 0, .int .u64 0, .int .u64 0] 100 (0, 0)) = wq4 at *
          have hne : ta ≠ b6 ∧ tb ≠ b6 ∧ tr ≠ b6 ∧ tb ≠ b7 ∧ tr ≠ b7 ∧ tr < b6 ∧ tr < b7 := by have := HLT.out; omega
          have hbb : b6 ≠ b7 := by omega
          have NE := hid (And.intro hne hbb)
          have nc0 := cell_at gb6 0; have nc1 := cell_at gb6 1; have nc2 := cell_at gb6 2; have nc3 := cell_at gb6 3; have nc4 := cell_at gb6 4; have nc5 := cell_at gb6 5; have nc6 := cell_at gb6 6; have nc7 := cell_at gb6 7; simp only [wcells_get] at nc0 nc1 nc2 nc3 nc4 nc5 nc6 nc7
          have nf0 := free_at gb6 0; have nf1 := free_at gb6 1; have nf2 := free_at gb6 2; have nf3 := free_at gb6 3; have nf4 := free_at gb6 4; have nf5 := free_at gb6 5; have nf6 := free_at gb6 6; have nf7 := free_at gb6 7
          have gx := HBX.out.1
          have gz := HBX.out.2.1
          have g6 := hid (set8_at gb6 z0 z1 z2 z3 0 0 0 0)
          have g7 := hid (set8_keep (b := b6) gb7 NE.out.2.symm z0 z1 z2 z3 0 0 0 0)
          have gt := hid (set8_keep (b := b6) (hM.get HBX.out.2.1 (by simp)) NE.out.1.2.1 z0 z1 z2 z3 0 0 0 0)
          have gr := hid (set8_keep (b := b6) (hM.get HBX.out.2.2 (by simp)) NE.out.1.2.2.1 z0 z1 z2 z3 0 0 0 0)
          have hM6 := hid (set8_mod lb6 hM z0 z1 z2 z3 0 0 0 0)
          clear gb6 gb7 hM hne hbb gx gz
          refine regOnly 12 (by kernel_rfl) rfl (by rfl) (fun K hK => ?_)
          go_wp2_with fail
          refine hK.out _ _ (fun _ h => ⟨set8_keep h.1 NE.out.1.1 _ _ _ _ 0 0 0 0, set8_keep h.2 NE.out.1.2.1 _ _ _ _ 0 0 0 0⟩) ?_
          clear hK
          (try simp only [Act.put, List.setIfInBounds_toArray, List.set_cons_zero, List.set_cons_succ])
          clear nc0 nc1 nc2 nc3 nc4 nc5 nc6 nc7
          clear nf0 nf1 nf2 nf3 nf4 nf5 nf6 nf7
          refine regAbs (fun W9 => W9.heap[b6]? = some (.cells (wcells [z0, z1, z2, z3, 0, 0, 0, 0]) 100) ∧ W9.heap[b7]? = some (.cells (wcells [0, 0, 0, 0, 0, 0, 0, 0]) 100) ∧ W9.heap[tb]? = some (.cells (wcells [z0, z1, z2, z3]) 26) ∧ W9.heap[tr]? = some (.cells (wcells [0, 0, 0, 0]) 26) ∧ Mod [] wq W9) ⟨g6.out, g7.out, gt.out, gr.out, hM6.out⟩ ?_
          clear g6 g7 gt gr hM6
          rintro W9 ⟨g6, g7, gt, gr, hM6⟩
          have nc0 := cell_at g7 0; have nc1 := cell_at g7 1; have nc2 := cell_at g7 2; have nc3 := cell_at g7 3; have nc4 := cell_at g7 4; have nc5 := cell_at g7 5; have nc6 := cell_at g7 6; have nc7 := cell_at g7 7; simp only [wcells_get] at nc0 nc1 nc2 nc3 nc4 nc5 nc6 nc7
          have nf0 := free_at g7 0; have nf1 := free_at g7 1; have nf2 := free_at g7 2; have nf3 := free_at g7 3; have nf4 := free_at g7 4; have nf5 := free_at g7 5; have nf6 := free_at g7 6; have nf7 := free_at g7 7
          have k6 := hid (set8_keep (b := b7) g6 NE.out.2 s0 s1 s2 s3 o0 o1 o2 o3)
          have k7 := hid (set8_at g7 s0 s1 s2 s3 o0 o1 o2 o3)
          have kt := hid (set8_keep (b := b7) gt NE.out.1.2.2.2.1 s0 s1 s2 s3 o0 o1 o2 o3)
          have kr := hid (set8_keep (b := b7) gr NE.out.1.2.2.2.2.1 s0 s1 s2 s3 o0 o1 o2 o3)
          have hM7 := hid (set8_mod lb7 hM6 s0 s1 s2 s3 o0 o1 o2 o3)
          clear g6 g7 gt gr hM6
          refine regOnly 13 (by kernel_rfl) rfl (by rfl) (fun K hK => ?_)
          go_wp2_with fail
          refine hK.out _ _ (fun h _ => absurd h (by decide)) ?_
          clear hK
          (try simp only [Act.put, List.setIfInBounds_toArray, List.set_cons_zero, List.set_cons_succ])
          clear nc0 nc1 nc2 nc3 nc4 nc5 nc6 nc7
          clear nf0 nf1 nf2 nf3 nf4 nf5 nf6 nf7
          refine regAbs (fun W9 => W9.heap[b6]? = some (.cells (wcells [z0, z1, z2, z3, 0, 0, 0, 0]) 100) ∧ W9.heap[b7]? = some (.cells (wcells [s0, s1, s2, s3, o0, o1, o2, o3]) 100) ∧ W9.heap[tb]? = some (.cells (wcells [z0, z1, z2, z3]) 26) ∧ W9.heap[tr]? = some (.cells (wcells [0, 0, 0, 0]) 26) ∧ Mod [] wq W9 ∧ tr < b6 ∧ tr < b7 ∧ b6 ≠ b7) ⟨k6.out, k7.out, kt.out, kr.out, hM7.out, NE.out.1.2.2.2.2.2.1, NE.out.1.2.2.2.2.2.2, NE.out.2⟩ ?_
          rintro W10 hR
          refine regDone (by kernel_rfl) ?_ _
          exact KEY.out b6 b7 W10 hR
        · go_wp2_with fail
          refine hK.out _ _ (fun _ h => ⟨get_alloc h.1 _, get_alloc h.2 _⟩) ?_
          clear hK
          (try simp only [Act.put, List.setIfInBounds_toArray, List.set_cons_zero, List.set_cons_succ])
          have gb7 : (wq2.alloc (.cells #[.int .u64 0, .int .u64 0, .int .u64 0, .int .u64 0, .int .u64 0, .int .u64 0, .int .u64 0, .int .u64 0] 100 (0, 0))).heap[wq2.heap.size]? = some (.cells (wcells [0, 0, 0, 0, 0, 0, 0, 0]) 100) := get_new wq2 _
          obtain ⟨b7, hb7⟩ : ∃ b, wq2.heap.size = b := ⟨_, rfl⟩
          have lb7 : wq.heap.size ≤ b7 := by rw [← hb7]; exact hM.size
          rw [hb7] at gb7 ⊢
          have nb6b7 : b6 < b7 := by rw [← hb7]; exact lt_of_block gb6
          have gb6 : (wq2.alloc (.cells #[.int .u64 0, .int .u64 0, .int .u64 0, .int .u64 0, .int .u64 0, .int .u64 0, .int .u64 0, .int .u64 0] 100 (0, 0))).heap[b6]? = some (.cells (wcells [0, 0, 0, 0, 0, 0, 0, 0]) 100) := get_alloc gb6 _
          have hM : Mod [] wq (wq2.alloc (.cells #[.int .u64 0, .int .u64 0, .int .u64 0, .int .u64 0, .int .u64 0, .int .u64 0, .int .u64 0, .int .u64 0] 100 (0, 0))) := hM.alloc _
          generalize wq2.alloc (.cells #[.int .u64 0, .int .u64 0, .int .u64 0, .int .u64 0, .int .u64 0, .int .u64 0, .int .u64 0, .int .u64 0] 100 (0, 0)) = wq3 at *
          refine regOnly 8 (by kernel_rfl) rfl (by rfl) (fun K hK => ?_)
          go_wp2_with (go_at_call 50; refine (CO.out _).mono ?_; rintro e wq4 ⟨rfl, hm⟩)
          refine hK.out _ _ (fun _ h => ⟨hm.get h.1 (by simp), hm.get h.2 (by simp)⟩) ?_
          clear hK
          (try simp only [Act.put, List.setIfInBounds_toArray, List.set_cons_zero, List.set_cons_succ])
          have gb6 := hm.get gb6 (by simp)
          have gb7 := hm.get gb7 (by simp)
          have hM := hM.trans hm
          clear hm
          refine regA 9 34 (v := ?_) rfl rfl (by kernel_rfl) (by kernel_rfl) (by kernel_rfl) (fun _ _ _ h => h) (by rfl) (fun w => ?_) ?_; rotate_left; (go_simp; first | done | with_reducible rfl); (try simp only [Act.put, List.setIfInBounds_toArray, List.set_cons_zero, List.set_cons_succ])
          have hne : ta ≠ b6 ∧ tb ≠ b6 ∧ tr ≠ b6 ∧ tb ≠ b7 ∧ tr ≠ b7 ∧ tr < b6 ∧ tr < b7 := by have := HLT.out; omega
          have hbb : b6 ≠ b7 := by omega
          have NE := hid (And.intro hne hbb)
          have nc0 := cell_at gb6 0; have nc1 := cell_at gb6 1; have nc2 := cell_at gb6 2; have nc3 := cell_at gb6 3; have nc4 := cell_at gb6 4; have nc5 := cell_at gb6 5; have nc6 := cell_at gb6 6; have nc7 := cell_at gb6 7; simp only [wcells_get] at nc0 nc1 nc2 nc3 nc4 nc5 nc6 nc7
          have nf0 := free_at gb6 0; have nf1 := free_at gb6 1; have nf2 := free_at gb6 2; have nf3 := free_at gb6 3; have nf4 := free_at gb6 4; have nf5 := free_at gb6 5; have nf6 := free_at gb6 6; have nf7 := free_at gb6 7
          have gx := HBX.out.1
          have gz := HBX.out.2.1
          have g6 := hid (set8_at gb6 z0 z1 z2 z3 0 0 0 0)
          have g7 := hid (set8_keep (b := b6) gb7 NE.out.2.symm z0 z1 z2 z3 0 0 0 0)
          have gt := hid (set8_keep (b := b6) (hM.get HBX.out.2.1 (by simp)) NE.out.1.2.1 z0 z1 z2 z3 0 0 0 0)
          have gr := hid (set8_keep (b := b6) (hM.get HBX.out.2.2 (by simp)) NE.out.1.2.2.1 z0 z1 z2 z3 0 0 0 0)
          have hM6 := hid (set8_mod lb6 hM z0 z1 z2 z3 0 0 0 0)
          clear gb6 gb7 hM hne hbb gx gz
          refine regOnly 12 (by kernel_rfl) rfl (by rfl) (fun K hK => ?_)
          go_wp2_with fail
          refine hK.out _ _ (fun _ h => ⟨set8_keep h.1 NE.out.1.1 _ _ _ _ 0 0 0 0, set8_keep h.2 NE.out.1.2.1 _ _ _ _ 0 0 0 0⟩) ?_
          clear hK
          (try simp only [Act.put, List.setIfInBounds_toArray, List.set_cons_zero, List.set_cons_succ])
          clear nc0 nc1 nc2 nc3 nc4 nc5 nc6 nc7
          clear nf0 nf1 nf2 nf3 nf4 nf5 nf6 nf7
          refine regAbs (fun W9 => W9.heap[b6]? = some (.cells (wcells [z0, z1, z2, z3, 0, 0, 0, 0]) 100) ∧ W9.heap[b7]? = some (.cells (wcells [0, 0, 0, 0, 0, 0, 0, 0]) 100) ∧ W9.heap[tb]? = some (.cells (wcells [z0, z1, z2, z3]) 26) ∧ W9.heap[tr]? = some (.cells (wcells [0, 0, 0, 0]) 26) ∧ Mod [] wq W9) ⟨g6.out, g7.out, gt.out, gr.out, hM6.out⟩ ?_
          clear g6 g7 gt gr hM6
          rintro W9 ⟨g6, g7, gt, gr, hM6⟩
          have nc0 := cell_at g7 0; have nc1 := cell_at g7 1; have nc2 := cell_at g7 2; have nc3 := cell_at g7 3; have nc4 := cell_at g7 4; have nc5 := cell_at g7 5; have nc6 := cell_at g7 6; have nc7 := cell_at g7 7; simp only [wcells_get] at nc0 nc1 nc2 nc3 nc4 nc5 nc6 nc7
          have nf0 := free_at g7 0; have nf1 := free_at g7 1; have nf2 := free_at g7 2; have nf3 := free_at g7 3; have nf4 := free_at g7 4; have nf5 := free_at g7 5; have nf6 := free_at g7 6; have nf7 := free_at g7 7
          have k6 := hid (set8_keep (b := b7) g6 NE.out.2 s0 s1 s2 s3 o0 o1 o2 o3)
          have k7 := hid (set8_at g7 s0 s1 s2 s3 o0 o1 o2 o3)
          have kt := hid (set8_keep (b := b7) gt NE.out.1.2.2.2.1 s0 s1 s2 s3 o0 o1 o2 o3)
          have kr := hid (set8_keep (b := b7) gr NE.out.1.2.2.2.2.1 s0 s1 s2 s3 o0 o1 o2 o3)
          have hM7 := hid (set8_mod lb7 hM6 s0 s1 s2 s3 o0 o1 o2 o3)
          clear g6 g7 gt gr hM6
          refine regOnly 13 (by kernel_rfl) rfl (by rfl) (fun K hK => ?_)
          go_wp2_with fail
          refine hK.out _ _ (fun h _ => absurd h (by decide)) ?_
          clear hK
          (try simp only [Act.put, List.setIfInBounds_toArray, List.set_cons_zero, List.set_cons_succ])
          clear nc0 nc1 nc2 nc3 nc4 nc5 nc6 nc7
          clear nf0 nf1 nf2 nf3 nf4 nf5 nf6 nf7
          refine regAbs (fun W9 => W9.heap[b6]? = some (.cells (wcells [z0, z1, z2, z3, 0, 0, 0, 0]) 100) ∧ W9.heap[b7]? = some (.cells (wcells [s0, s1, s2, s3, o0, o1, o2, o3]) 100) ∧ W9.heap[tb]? = some (.cells (wcells [z0, z1, z2, z3]) 26) ∧ W9.heap[tr]? = some (.cells (wcells [0, 0, 0, 0]) 26) ∧ Mod [] wq W9 ∧ tr < b6 ∧ tr < b7 ∧ b6 ≠ b7) ⟨k6.out, k7.out, kt.out, kr.out, hM7.out, NE.out.1.2.2.2.2.2.1, NE.out.1.2.2.2.2.2.2, NE.out.2⟩ ?_
          rintro W10 hR
          refine regDone (by kernel_rfl) ?_ _
          exact KEY.out b6 b7 W10 hR
      · go_wp2_with fail
        refine hK.out _ _ (fun _ h => ⟨get_alloc h.1 _, get_alloc h.2 _⟩) ?_
        clear hK
        (try simp only [Act.put, List.setIfInBounds_toArray, List.set_cons_zero, List.set_cons_succ])
        have gb7 : (wq1.alloc (.cells #[.int .u64 0, .int .u64 0, .int .u64 0, .int .u64 0, .int .u64 0, .int .u64 0, .int .u64 0, .int .u64 0] 100 (0, 0))).heap[wq1.heap.size]? = some (.cells (wcells [0, 0, 0, 0, 0, 0, 0, 0]) 100) := get_new wq1 _
        obtain ⟨b7, hb7⟩ : ∃ b, wq1.heap.size = b := ⟨_, rfl⟩
        have lb7 : wq.heap.size ≤ b7 := by rw [← hb7]; exact hM.size
        rw [hb7] at gb7 ⊢
        have nb6b7 : b6 < b7 := by rw [← hb7]; exact lt_of_block gb6
        have gb6 : (wq1.alloc (.cells #[.int .u64 0, .int .u64 0, .int .u64 0, .int .u64 0, .int .u64 0, .int .u64 0, .int .u64 0, .int .u64 0] 100 (0, 0))).heap[b6]? = some (.cells (wcells [0, 0, 0, 0, 0, 0, 0, 0]) 100) := get_alloc gb6 _
        have hM : Mod [] wq (wq1.alloc (.cells #[.int .u64 0, .int .u64 0, .int .u64 0, .int .u64 0, .int .u64 0, .int .u64 0, .int .u64 0, .int .u64 0] 100 (0, 0))) := hM.alloc _
        generalize wq1.alloc (.cells #[.int .u64 0, .int .u64 0, .int .u64 0, .int .u64 0, .int .u64 0, .int .u64 0, .int .u64 0, .int .u64 0] 100 (0, 0)) = wq2 at *
        refine regOnly 5 (by kernel_rfl) rfl (by rfl) (fun K hK => ?_)
        go_wp2_with (go_at_call 50; refine (CA.out _).mono ?_; rintro e wq3 ⟨rfl, hm⟩)
        refine hK.out _ _ (fun _ h => ⟨hm.get h.1 (by simp), hm.get h.2 (by simp)⟩) ?_
        clear hK
        (try simp only [Act.put, List.setIfInBounds_toArray, List.set_cons_zero, List.set_cons_succ])
        have gb6 := hm.get gb6 (by simp)
        have gb7 := hm.get gb7 (by simp)
        have hM := hM.trans hm
        clear hm
        refine regOnly 8 (by kernel_rfl) rfl (by rfl) (fun K hK => ?_)
        go_wp2_with (go_at_call 50; refine (CO.out _).mono ?_; rintro e wq4 ⟨rfl, hm⟩)
        refine hK.out _ _ (fun _ h => ⟨hm.get h.1 (by simp), hm.get h.2 (by simp)⟩) ?_
        clear hK
        (try simp only [Act.put, List.setIfInBounds_toArray, List.set_cons_zero, List.set_cons_succ])
        have gb6 := hm.get gb6 (by simp)
        have gb7 := hm.get gb7 (by simp)
        have hM := hM.trans hm
        clear hm
        refine regA 9 34 (v := ?_) rfl rfl (by kernel_rfl) (by kernel_rfl) (by kernel_rfl) (fun _ _ _ h => h) (by rfl) (fun w => ?_) ?_; rotate_left; (go_simp; first | done | with_reducible rfl); (try simp only [Act.put, List.setIfInBounds_toArray, List.set_cons_zero, List.set_cons_succ])
        have hne : ta ≠ b6 ∧ tb ≠ b6 ∧ tr ≠ b6 ∧ tb ≠ b7 ∧ tr ≠ b7 ∧ tr < b6 ∧ tr < b7 := by have := HLT.out; omega
        have hbb : b6 ≠ b7 := by omega
        have NE := hid (And.intro hne hbb)
        have nc0 := cell_at gb6 0; have nc1 := cell_at gb6 1; have nc2 := cell_at gb6 2; have nc3 := cell_at gb6 3; have nc4 := cell_at gb6 4; have nc5 := cell_at gb6 5; have nc6 := cell_at gb6 6; have nc7 := cell_at gb6 7; simp only [wcells_get] at nc0 nc1 nc2 nc3 nc4 nc5 nc6 nc7
        have nf0 := free_at gb6 0; have nf1 := free_at gb6 1; have nf2 := free_at gb6 2; have nf3 := free_at gb6 3; have nf4 := free_at gb6 4; have nf5 := free_at gb6 5; have nf6 := free_at gb6 6; have nf7 := free_at gb6 7
        have gx := HBX.out.1
        have gz := HBX.out.2.1
        have g6 := hid (set8_at gb6 z0 z1 z2 z3 0 0 0 0)
        have g7 := hid (set8_keep (b := b6) gb7 NE.out.2.symm z0 z1 z2 z3 0 0 0 0)
        have gt := hid (set8_keep (b := b6) (hM.get HBX.out.2.1 (by simp)) NE.out.1.2.1 z0 z1 z2 z3 0 0 0 0)
        have gr := hid (set8_keep (b := b6) (hM.get HBX.out.2.2 (by simp)) NE.out.1.2.2.1 z0 z1 z2 z3 0 0 0 0)
        have hM6 := hid (set8_mod lb6 hM z0 z1 z2 z3 0 0 0 0)
        clear gb6 gb7 hM hne hbb gx gz
        refine regOnly 12 (by kernel_rfl) rfl (by rfl) (fun K hK => ?_)
        go_wp2_with fail
        refine hK.out _ _ (fun _ h => ⟨set8_keep h.1 NE.out.1.1 _ _ _ _ 0 0 0 0, set8_keep h.2 NE.out.1.2.1 _ _ _ _ 0 0 0 0⟩) ?_
        clear hK
        (try simp only [Act.put, List.setIfInBounds_toArray, List.set_cons_zero, List.set_cons_succ])
        clear nc0 nc1 nc2 nc3 nc4 nc5 nc6 nc7
        clear nf0 nf1 nf2 nf3 nf4 nf5 nf6 nf7
        refine regAbs (fun W9 => W9.heap[b6]? = some (.cells (wcells [z0, z1, z2, z3, 0, 0, 0, 0]) 100) ∧ W9.heap[b7]? = some (.cells (wcells [0, 0, 0, 0, 0, 0, 0, 0]) 100) ∧ W9.heap[tb]? = some (.cells (wcells [z0, z1, z2, z3]) 26) ∧ W9.heap[tr]? = some (.cells (wcells [0, 0, 0, 0]) 26) ∧ Mod [] wq W9) ⟨g6.out, g7.out, gt.out, gr.out, hM6.out⟩ ?_
        clear g6 g7 gt gr hM6
        rintro W9 ⟨g6, g7, gt, gr, hM6⟩
        have nc0 := cell_at g7 0; have nc1 := cell_at g7 1; have nc2 := cell_at g7 2; have nc3 := cell_at g7 3; have nc4 := cell_at g7 4; have nc5 := cell_at g7 5; have nc6 := cell_at g7 6; have nc7 := cell_at g7 7; simp only [wcells_get] at nc0 nc1 nc2 nc3 nc4 nc5 nc6 nc7
        have nf0 := free_at g7 0; have nf1 := free_at g7 1; have nf2 := free_at g7 2; have nf3 := free_at g7 3; have nf4 := free_at g7 4; have nf5 := free_at g7 5; have nf6 := free_at g7 6; have nf7 := free_at g7 7
        have k6 := hid (set8_keep (b := b7) g6 NE.out.2 s0 s1 s2 s3 o0 o1 o2 o3)
        have k7 := hid (set8_at g7 s0 s1 s2 s3 o0 o1 o2 o3)
        have kt := hid (set8_keep (b := b7) gt NE.out.1.2.2.2.1 s0 s1 s2 s3 o0 o1 o2 o3)
        have kr := hid (set8_keep (b := b7) gr NE.out.1.2.2.2.2.1 s0 s1 s2 s3 o0 o1 o2 o3)
        have hM7 := hid (set8_mod lb7 hM6 s0 s1 s2 s3 o0 o1 o2 o3)
        clear g6 g7 gt gr hM6
        refine regOnly 13 (by kernel_rfl) rfl (by rfl) (fun K hK => ?_)
        go_wp2_with fail
        refine hK.out _ _ (fun h _ => absurd h (by decide)) ?_
        clear hK
        (try simp only [Act.put, List.setIfInBounds_toArray, List.set_cons_zero, List.set_cons_succ])
        clear nc0 nc1 nc2 nc3 nc4 nc5 nc6 nc7
        clear nf0 nf1 nf2 nf3 nf4 nf5 nf6 nf7
        refine regAbs (fun W9 => W9.heap[b6]? = some (.cells (wcells [z0, z1, z2, z3, 0, 0, 0, 0]) 100) ∧ W9.heap[b7]? = some (.cells (wcells [s0, s1, s2, s3, o0, o1, o2, o3]) 100) ∧ W9.heap[tb]? = some (.cells (wcells [z0, z1, z2, z3]) 26) ∧ W9.heap[tr]? = some (.cells (wcells [0, 0, 0, 0]) 26) ∧ Mod [] wq W9 ∧ tr < b6 ∧ tr < b7 ∧ b6 ≠ b7) ⟨k6.out, k7.out, kt.out, kr.out, hM7.out, NE.out.1.2.2.2.2.2.1, NE.out.1.2.2.2.2.2.2, NE.out.2⟩ ?_
        rintro W10 hR
        refine regDone (by kernel_rfl) ?_ _
        exact KEY.out b6 b7 W10 hR
    · go_wp2_with fail
      refine hK.out _ _ (fun _ h => ⟨get_alloc h.1 _, get_alloc h.2 _⟩) ?_
      clear hK
      (try simp only [Act.put, List.setIfInBounds_toArray, List.set_cons_zero, List.set_cons_succ])
      have gb7 : (wq.alloc (.cells #[.int .u64 0, .int .u64 0, .int .u64 0, .int .u64 0, .int .u64 0, .int .u64 0, .int .u64 0, .int .u64 0] 100 (0, 0))).heap[wq.heap.size]? = some (.cells (wcells [0, 0, 0, 0, 0, 0, 0, 0]) 100) := get_new wq _
      obtain ⟨b7, hb7⟩ : ∃ b, wq.heap.size = b := ⟨_, rfl⟩
      have lb7 : wq.heap.size ≤ b7 := by rw [← hb7]; exact hM.size
      rw [hb7] at gb7 ⊢
      have hM : Mod [] wq (wq.alloc (.cells #[.int .u64 0, .int .u64 0, .int .u64 0, .int .u64 0, .int .u64 0, .int .u64 0, .int .u64 0, .int .u64 0] 100 (0, 0))) := hM.alloc _
      generalize wq.alloc (.cells #[.int .u64 0, .int .u64 0, .int .u64 0, .int .u64 0, .int .u64 0, .int .u64 0, .int .u64 0, .int .u64 0] 100 (0, 0)) = wq1 at *
      refine regTwo 5 10 (by kernel_rfl) rfl (by rfl) rfl (by rfl) (fun K hK => ?_) (fun K hK => ?_)
      · go_wp2_with (go_at_call 50; refine (CA.out _).mono ?_; rintro e wq2 ⟨rfl, hm⟩)
        refine hK.out _ _ (fun _ h => ⟨hm.get h.1 (by simp), hm.get h.2 (by simp)⟩) ?_
        clear hK
        (try simp only [Act.put, List.setIfInBounds_toArray, List.set_cons_zero, List.set_cons_succ])
        have gb7 := hm.get gb7 (by simp)
        have hM := hM.trans hm
        clear hm
        refine regTwo 8 10 (by kernel_rfl) rfl (by rfl) rfl (by rfl) (fun K hK => ?_) (fun K hK => ?_)
        · go_wp2_with (go_at_call 50; refine (CO.out _).mono ?_; rintro e wq3 ⟨rfl, hm⟩)
          refine hK.out _ _ (fun _ h => ⟨hm.get h.1 (by simp), hm.get h.2 (by simp)⟩) ?_
          clear hK
          (try simp only [Act.put, List.setIfInBounds_toArray, List.set_cons_zero, List.set_cons_succ])
          have gb7 := hm.get gb7 (by simp)
          have hM := hM.trans hm
          clear hm
          refine regA 9 34 (v := ?_) rfl rfl (by kernel_rfl) (by kernel_rfl) (by kernel_rfl) (fun _ _ _ h => h) (by rfl) (fun w => ?_) ?_; rotate_left; (go_simp; first | done | with_reducible rfl); (try simp only [Act.put, List.setIfInBounds_toArray, List.set_cons_zero, List.set_cons_succ])
          refine regOnly 10 (by kernel_rfl) rfl (by rfl) (fun K hK => ?_)
          go_wp2_with fail
          refine hK.out _ _ (fun _ h => ⟨get_alloc h.1 _, get_alloc h.2 _⟩) ?_
          clear hK
          (try simp only [Act.put, List.setIfInBounds_toArray, List.set_cons_zero, List.set_cons_succ])
          have gb6 : (wq3.alloc (.cells #[.int .u64 0, .int .u64 0, .int .u64 0, .int .u64 0, .int .u64 0, .int .u64 0, .int .u64 0, .int .u64 0] 100 (0, 0))).heap[wq3.heap.size]? = some (.cells (wcells [0, 0, 0, 0, 0, 0, 0, 0]) 100) := get_new wq3 _
          obtain ⟨b6, hb6⟩ : ∃ b, wq3.heap.size = b := ⟨_, rfl⟩
          have lb6 : wq.heap.size ≤ b6 := by rw [← hb6]; exact hM.size
          rw [hb6] at gb6 ⊢
          have nb7b6 : b7 < b6 := by rw [← hb6]; exact lt_of_block gb7
          have gb7 : (wq3.alloc (.cells #[.int .u64 0, .int .u64 0, .int .u64 0, .int .u64 0, .int .u64 0, .int .u64 0, .int .u64 0, .int .u64 0] 100 (0, 0))).heap[b7]? = some (.cells (wcells [0, 0, 0, 0, 0, 0, 0, 0]) 100) := get_alloc gb7 _
          have hM : Mod [] wq (wq3.alloc (.cells #[.int .u64 0, .int .u64 0, .int .u64 0, .int .u64 0, .int .u64 0, .int .u64 0, .int .u64 0, .int .u64 0] 100 (0, 0))) := hM.alloc _
          generalize wq3.alloc (.cells #[.int .u64 0, .int .u64 0, .int .u64 0, .int .u64 0, .int .u64 0, .int .u64 0, .int .u64 0, .int .u64 0] 100 (0, 0)) = wq4 at *
          have hne : ta ≠ b6 ∧ tb ≠ b6 ∧ tr ≠ b6 ∧ tb ≠ b7 ∧ tr ≠ b7 ∧ tr < b6 ∧ tr < b7 := by have := HLT.out; omega
          have hbb : b6 ≠ b7 := by omega
          have NE := hid (And.intro hne hbb)
          have nc0 := cell_at gb6 0; have nc1 := cell_at gb6 1; have nc2 := cell_at gb6 2; have nc3 := cell_at gb6 3; have nc4 := cell_at gb6 4; have nc5 := cell_at gb6 5; have nc6 := cell_at gb6 6; have nc7 := cell_at gb6 7; simp only [wcells_get] at nc0 nc1 nc2 nc3 nc4 nc5 nc6 nc7
          have nf0 := free_at gb6 0; have nf1 := free_at gb6 1; have nf2 := free_at gb6 2; have nf3 := free_at gb6 3; have nf4 := free_at gb6 4; have nf5 := free_at gb6 5; have nf6 := free_at gb6 6; have nf7 := free_at gb6 7
          have gx := HBX.out.1
          have gz := HBX.out.2.1
          have g6 := hid (set8_at gb6 z0 z1 z2 z3 0 0 0 0)
          have g7 := hid (set8_keep (b := b6) gb7 NE.out.2.symm z0 z1 z2 z3 0 0 0 0)
          have gt := hid (set8_keep (b := b6) (hM.get HBX.out.2.1 (by simp)) NE.out.1.2.1 z0 z1 z2 z3 0 0 0 0)
          have gr := hid (set8_keep (b := b6) (hM.get HBX.out.2.2 (by simp)) NE.out.1.2.2.1 z0 z1 z2 z3 0 0 0 0)
          have hM6 := hid (set8_mod lb6 hM z0 z1 z2 z3 0 0 0 0)
          clear gb6 gb7 hM hne hbb gx gz
          refine regOnly 12 (by kernel_rfl) rfl (by rfl) (fun K hK => ?_)
          go_wp2_with fail
          refine hK.out _ _ (fun _ h => ⟨set8_keep h.1 NE.out.1.1 _ _ _ _ 0 0 0 0, set8_keep h.2 NE.out.1.2.1 _ _ _ _ 0 0 0 0⟩) ?_
          clear hK
          (try simp only [Act.put, List.setIfInBounds_toArray, List.set_cons_zero, List.set_cons_succ])
          clear nc0 nc1 nc2 nc3 nc4 nc5 nc6 nc7
          clear nf0 nf1 nf2 nf3 nf4 nf5 nf6 nf7
          refine regAbs (fun W9 => W9.heap[b6]? = some (.cells (wcells [z0, z1, z2, z3, 0, 0, 0, 0]) 100) ∧ W9.heap[b7]? = some (.cells (wcells [0, 0, 0, 0, 0, 0, 0, 0]) 100) ∧ W9.heap[tb]? = some (.cells (wcells [z0, z1, z2, z3]) 26) ∧ W9.heap[tr]? = some (.cells (wcells [0, 0, 0, 0]) 26) ∧ Mod [] wq W9) ⟨g6.out, g7.out, gt.out, gr.out, hM6.out⟩ ?_
          clear g6 g7 gt gr hM6
          rintro W9 ⟨g6, g7, gt, gr, hM6⟩
          have nc0 := cell_at g7 0; have nc1 := cell_at g7 1; have nc2 := cell_at g7 2; have nc3 := cell_at g7 3; have nc4 := cell_at g7 4; have nc5 := cell_at g7 5; have nc6 := cell_at g7 6; have nc7 := cell_at g7 7; simp only [wcells_get] at nc0 nc1 nc2 nc3 nc4 nc5 nc6 nc7
          have nf0 := free_at g7 0; have nf1 := free_at g7 1; have nf2 := free_at g7 2; have nf3 := free_at g7 3; have nf4 := free_at g7 4; have nf5 := free_at g7 5; have nf6 := free_at g7 6; have nf7 := free_at g7 7
          have k6 := hid (set8_keep (b := b7) g6 NE.out.2 s0 s1 s2 s3 o0 o1 o2 o3)
          have k7 := hid (set8_at g7 s0 s1 s2 s3 o0 o1 o2 o3)
          have kt := hid (set8_keep (b := b7) gt NE.out.1.2.2.2.1 s0 s1 s2 s3 o0 o1 o2 o3)
          have kr := hid (set8_keep (b := b7) gr NE.out.1.2.2.2.2.1 s0 s1 s2 s3 o0 o1 o2 o3)
          have hM7 := hid (set8_mod lb7 hM6 s0 s1 s2 s3 o0 o1 o2 o3)
          clear g6 g7 gt gr hM6
          refine regOnly 13 (by kernel_rfl) rfl (by rfl) (fun K hK => ?_)
          go_wp2_with fail
          refine hK.out _ _ (fun h _ => absurd h (by decide)) ?_
          clear hK
          (try simp only [Act.put, List.setIfInBounds_toArray, List.set_cons_zero, List.set_cons_succ])
          clear nc0 nc1 nc2 nc3 nc4 nc5 nc6 nc7
          clear nf0 nf1 nf2 nf3 nf4 nf5 nf6 nf7
          refine regAbs (fun W9 => W9.heap[b6]? = some (.cells (wcells [z0, z1, z2, z3, 0, 0, 0, 0]) 100) ∧ W9.heap[b7]? = some (.cells (wcells [s0, s1, s2, s3, o0, o1, o2, o3]) 100) ∧ W9.heap[tb]? = some (.cells (wcells [z0, z1, z2, z3]) 26) ∧ W9.heap[tr]? = some (.cells (wcells [0, 0, 0, 0]) 26) ∧ Mod [] wq W9 ∧ tr < b6 ∧ tr < b7 ∧ b6 ≠ b7) ⟨k6.out, k7.out, kt.out, kr.out, hM7.out, NE.out.1.2.2.2.2.2.1, NE.out.1.2.2.2.2.2.2, NE.out.2⟩ ?_
          rintro W10 hR
          refine regDone (by kernel_rfl) ?_ _
          exact KEY.out b6 b7 W10 hR
        · go_wp2_with fail
          refine hK.out _ _ (fun _ h => ⟨get_alloc h.1 _, get_alloc h.2 _⟩) ?_
          clear hK
          (try simp only [Act.put, List.setIfInBounds_toArray, List.set_cons_zero, List.set_cons_succ])
          have gb6 : (wq2.alloc (.cells #[.int .u64 0, .int .u64 0, .int .u64 0, .int .u64 0, .int .u64 0, .int .u64 0, .int .u64 0, .int .u64 0] 100 (0, 0))).heap[wq2.heap.size]? = some (.cells (wcells [0, 0, 0, 0, 0, 0, 0, 0]) 100) := get_new wq2 _
          obtain ⟨b6, hb6⟩ : ∃ b, wq2.heap.size = b := ⟨_, rfl⟩
          have lb6 : wq.heap.size ≤ b6 := by rw [← hb6]; exact hM.size
          rw [hb6] at gb6 ⊢
          have nb7b6 : b7 < b6 := by rw [← hb6]; exact lt_of_block gb7
          have gb7 : (wq2.alloc (.cells #[.int .u64 0, .int .u64 0, .int .u64 0, .int .u64 0, .int .u64 0, .int .u64 0, .int .u64 0, .int .u64 0] 100 (0, 0))).heap[b7]? = some (.cells (wcells [0, 0, 0, 0, 0, 0, 0, 0]) 100) := get_alloc gb7 _
          have hM : Mod [] wq (wq2.alloc (.cells #[.int .u64 0, .int .u64 0, .int .u64 0, .int .u64 0, .int .u64 0, .int .u64 0, .int .u64 0, .int .u64 0] 100 (0, 0))) := hM.alloc _
          generalize wq2.alloc (.cells #[.int .u64 0, .int .u64 0, .int .u64 0, .int .u64 0, .int .u64 0, .int .u64 0, .int .u64 0, .int .u64 0] 100 (0, 0)) = wq3 at *
          refine regOnly 8 (by kernel_rfl) rfl (by rfl) (fun K hK => ?_)
          go_wp2_with (go_at_call 50; refine (CO.out _).mono ?_; rintro e wq4 ⟨rfl, hm⟩)
          refine hK.out _ _ (fun _ h => ⟨hm.get h.1 (by simp), hm.get h.2 (by simp)⟩) ?_
          clear hK
          (try simp only [Act.put, List.setIfInBounds_toArray, List.set_cons_zero, List.set_cons_succ])
          have gb7 := hm.get gb7 (by simp)
          have gb6 := hm.get gb6 (by simp)
          have hM := hM.trans hm
          clear hm
          refine regA 9 34 (v := ?_) rfl rfl (by kernel_rfl) (by kernel_rfl) (by kernel_rfl) (fun _ _ _ h => h) (by rfl) (fun w => ?_) ?_; rotate_left; (go_simp; first | done | with_reducible rfl); (try simp only [Act.put, List.setIfInBounds_toArray, List.set_cons_zero, List.set_cons_succ])
          have hne : ta ≠ b6 ∧ tb ≠ b6 ∧ tr ≠ b6 ∧ tb ≠ b7 ∧ tr ≠ b7 ∧ tr < b6 ∧ tr < b7 := by have := HLT.out; omega
          have hbb : b6 ≠ b7 := by omega
          have NE := hid (And.intro hne hbb)
          have nc0 := cell_at gb6 0; have nc1 := cell_at gb6 1; have nc2 := cell_at gb6 2; have nc3 := cell_at gb6 3; have nc4 := cell_at gb6 4; have nc5 := cell_at gb6 5; have nc6 := cell_at gb6 6; have nc7 := cell_at gb6 7; simp only [wcells_get] at nc0 nc1 nc2 nc3 nc4 nc5 nc6 nc7
          have nf0 := free_at gb6 0; have nf1 := free_at gb6 1; have nf2 := free_at gb6 2; have nf3 := free_at gb6 3; have nf4 := free_at gb6 4; have nf5 := free_at gb6 5; have nf6 := free_at gb6 6; have nf7 := free_at gb6 7
          have gx := HBX.out.1
          have gz := HBX.out.2.1
          have g6 := hid (set8_at gb6 z0 z1 z2 z3 0 0 0 0)
          have g7 := hid (set8_keep (b := b6) gb7 NE.out.2.symm z0 z1 z2 z3 0 0 0 0)
          have gt := hid (set8_keep (b := b6) (hM.get HBX.out.2.1 (by simp)) NE.out.1.2.1 z0 z1 z2 z3 0 0 0 0)
          have gr := hid (set8_keep (b := b6) (hM.get HBX.out.2.2 (by simp)) NE.out.1.2.2.1 z0 z1 z2 z3 0 0 0 0)
          have hM6 := hid (set8_mod lb6 hM z0 z1 z2 z3 0 0 0 0)
          clear gb6 gb7 hM hne hbb gx gz
          refine regOnly 12 (by kernel_rfl) rfl (by rfl) (fun K hK => ?_)
          go_wp2_with fail
          refine hK.out _ _ (fun _ h => ⟨set8_keep h.1 NE.out.1.1 _ _ _ _ 0 0 0 0, set8_keep h.2 NE.out.1.2.1 _ _ _ _ 0 0 0 0⟩) ?_
          clear hK
          (try simp only [Act.put, List.setIfInBounds_toArray, List.set_cons_zero, List.set_cons_succ])
          clear nc0 nc1 nc2 nc3 nc4 nc5 nc6 nc7
          clear nf0 nf1 nf2 nf3 nf4 nf5 nf6 nf7
          refine regAbs (fun W9 => W9.heap[b6]? = some (.cells (wcells [z0, z1, z2, z3, 0, 0, 0, 0]) 100) ∧ W9.heap[b7]? = some (.cells (wcells [0, 0, 0, 0, 0, 0, 0, 0]) 100) ∧ W9.heap[tb]? = some (.cells (wcells [z0, z1, z2, z3]) 26) ∧ W9.heap[tr]? = some (.cells (wcells [0, 0, 0, 0]) 26) ∧ Mod [] wq W9) ⟨g6.out, g7.out, gt.out, gr.out, hM6.out⟩ ?_
          clear g6 g7 gt gr hM6
          rintro W9 ⟨g6, g7, gt, gr, hM6⟩
          have nc0 := cell_at g7 0; have nc1 := cell_at g7 1; have nc2 := cell_at g7 2; have nc3 := cell_at g7 3; have nc4 := cell_at g7 4; have nc5 := cell_at g7 5; have nc6 := cell_at g7 6; have nc7 := cell_at g7 7; simp only [wcells_get] at nc0 nc1 nc2 nc3 nc4 nc5 nc6 nc7
          have nf0 := free_at g7 0; have nf1 := free_at g7 1; have nf2 := free_at g7 2; have nf3 := free_at g7 3; have nf4 := free_at g7 4; have nf5 := free_at g7 5; have nf6 := free_at g7 6; have nf7 := free_at g7 7
          have k6 := hid (set8_keep (b := b7) g6 NE.out.2 s0 s1 s2 s3 o0 o1 o2 o3)
          have k7 := hid (set8_at g7 s0 s1 s2 s3 o0 o1 o2 o3)
          have kt := hid (set8_keep (b := b7) gt NE.out.1.2.2.2.1 s0 s1 s2 s3 o0 o1 o2 o3)
          have kr := hid (set8_keep (b := b7) gr NE.out.1.2.2.2.2.1 s0 s1 s2 s3 o0 o1 o2 o3)
          have hM7 := hid (set8_mod lb7 hM6 s0 s1 s2 s3 o0 o1 o2 o3)
          clear g6 g7 gt gr hM6
          refine regOnly 13 (by kernel_rfl) rfl (by rfl) (fun K hK => ?_)
          go_wp2_with fail
          refine hK.out _ _ (fun h _ => absurd h (by decide)) ?_
          clear hK
          (try simp only [Act.put, List.setIfInBounds_toArray, List.set_cons_zero, List.set_cons_succ])
          clear nc0 nc1 nc2 nc3 nc4 nc5 nc6 nc7
          clear nf0 nf1 nf2 nf3 nf4 nf5 nf6 nf7
          refine regAbs (fun W9 => W9.heap[b6]? = some (.cells (wcells [z0, z1, z2, z3, 0, 0, 0, 0]) 100) ∧ W9.heap[b7]? = some (.cells (wcells [s0, s1, s2, s3, o0, o1, o2, o3]) 100) ∧ W9.heap[tb]? = some (.cells (wcells [z0, z1, z2, z3]) 26) ∧ W9.heap[tr]? = some (.cells (wcells [0, 0, 0, 0]) 26) ∧ Mod [] wq W9 ∧ tr < b6 ∧ tr < b7 ∧ b6 ≠ b7) ⟨k6.out, k7.out, kt.out, kr.out, hM7.out, NE.out.1.2.2.2.2.2.1, NE.out.1.2.2.2.2.2.2, NE.out.2⟩ ?_
          rintro W10 hR
          refine regDone (by kernel_rfl) ?_ _
          exact KEY.out b6 b7 W10 hR
      · go_wp2_with fail
        refine hK.out _ _ (fun _ h => ⟨get_alloc h.1 _, get_alloc h.2 _⟩) ?_
        clear hK
        (try simp only [Act.put, List.setIfInBounds_toArray, List.set_cons_zero, List.set_cons_succ])
        have gb6 : (wq1.alloc (.cells #[.int .u64 0, .int .u64 0, .int .u64 0, .int .u64 0, .int .u64 0, .int .u64 0, .int .u64 0, .int .u64 0] 100 (0, 0))).heap[wq1.heap.size]? = some (.cells (wcells [0, 0, 0, 0, 0, 0, 0, 0]) 100) := get_new wq1 _
        obtain ⟨b6, hb6⟩ : ∃ b, wq1.heap.size = b := ⟨_, rfl⟩
        have lb6 : wq.heap.size ≤ b6 := by rw [← hb6]; exact hM.size
        rw [hb6] at gb6 ⊢
        have nb7b6 : b7 < b6 := by rw [← hb6]; exact lt_of_block gb7
        have gb7 : (wq1.alloc (.cells #[.int .u64 0, .int .u64 0, .int .u64 0, .int .u64 0, .int .u64 0, .int .u64 0, .int .u64 0, .int .u64 0] 100 (0, 0))).heap[b7]? = some (.cells (wcells [0, 0, 0, 0, 0, 0, 0, 0]) 100) := get_alloc gb7 _
        have hM : Mod [] wq (wq1.alloc (.cells #[.int .u64 0, .int .u64 0, .int .u64 0, .int .u64 0, .int .u64 0, .int .u64 0, .int .u64 0, .int .u64 0] 100 (0, 0))) := hM.alloc _
        generalize wq1.alloc (.cells #[.int .u64 0, .int .u64 0, .int .u64 0, .int .u64 0, .int .u64 0, .int .u64 0, .int .u64 0, .int .u64 0] 100 (0, 0)) = wq2 at *
        refine regOnly 5 (by kernel_rfl) rfl (by rfl) (fun K hK => ?_)
        go_wp2_with (go_at_call 50; refine (CA.out _).mono ?_; rintro e wq3 ⟨rfl, hm⟩)
        refine hK.out _ _ (fun _ h => ⟨hm.get h.1 (by simp), hm.get h.2 (by simp)⟩) ?_
        clear hK
        (try simp only [Act.put, List.setIfInBounds_toArray, List.set_cons_zero, List.set_cons_succ])
        have gb7 := hm.get gb7 (by simp)
        have gb6 := hm.get gb6 (by simp)
        have hM := hM.trans hm
        clear hm
        refine regOnly 8 (by kernel_rfl) rfl (by rfl) (fun K hK => ?_)
        go_wp2_with (go_at_call 50; refine (CO.out _).mono ?_; rintro e wq4 ⟨rfl, hm⟩)
        refine hK.out _ _ (fun _ h => ⟨hm.get h.1 (by simp), hm.get h.2 (by simp)⟩) ?_
        clear hK
        (try simp only [Act.put, List.setIfInBounds_toArray, List.set_cons_zero, List.set_cons_succ])
        have gb7 := hm.get gb7 (by simp)
        have gb6 := hm.get gb6 (by simp)
        have hM := hM.trans hm
        clear hm
        refine regA 9 34 (v := ?_) rfl rfl (by kernel_rfl) (by kernel_rfl) (by kernel_rfl) (fun _ _ _ h => h) (by rfl) (fun w => ?_) ?_; rotate_left; (go_simp; first | done | with_reducible rfl); (try simp only [Act.put, List.setIfInBounds_toArray, List.set_cons_zero, List.set_cons_succ])
        have hne : ta ≠ b6 ∧ tb ≠ b6 ∧ tr ≠ b6 ∧ tb ≠ b7 ∧ tr ≠ b7 ∧ tr < b6 ∧ tr < b7 := by have := HLT.out; omega
        have hbb : b6 ≠ b7 := by omega
        have NE := hid (And.intro hne hbb)
        have nc0 := cell_at gb6 0; have nc1 := cell_at gb6 1; have nc2 := cell_at gb6 2; have nc3 := cell_at gb6 3; have nc4 := cell_at gb6 4; have nc5 := cell_at gb6 5; have nc6 := cell_at gb6 6; have nc7 := cell_at gb6 7; simp only [wcells_get] at nc0 nc1 nc2 nc3 nc4 nc5 nc6 nc7
        have nf0 := free_at gb6 0; have nf1 := free_at gb6 1; have nf2 := free_at gb6 2; have nf3 := free_at gb6 3; have nf4 := free_at gb6 4; have nf5 := free_at gb6 5; have nf6 := free_at gb6 6; have nf7 := free_at gb6 7
        have gx := HBX.out.1
        have gz := HBX.out.2.1
        have g6 := hid (set8_at gb6 z0 z1 z2 z3 0 0 0 0)
        have g7 := hid (set8_keep (b := b6) gb7 NE.out.2.symm z0 z1 z2 z3 0 0 0 0)
        have gt := hid (set8_keep (b := b6) (hM.get HBX.out.2.1 (by simp)) NE.out.1.2.1 z0 z1 z2 z3 0 0 0 0)
        have gr := hid (set8_keep (b := b6) (hM.get HBX.out.2.2 (by simp)) NE.out.1.2.2.1 z0 z1 z2 z3 0 0 0 0)
        have hM6 := hid (set8_mod lb6 hM z0 z1 z2 z3 0 0 0 0)
        clear gb6 gb7 hM hne hbb gx gz
        refine regOnly 12 (by kernel_rfl) rfl (by rfl) (fun K hK => ?_)
        go_wp2_with fail
        refine hK.out _ _ (fun _ h => ⟨set8_keep h.1 NE.out.1.1 _ _ _ _ 0 0 0 0, set8_keep h.2 NE.out.1.2.1 _ _ _ _ 0 0 0 0⟩) ?_
        clear hK
        (try simp only [Act.put, List.setIfInBounds_toArray, List.set_cons_zero, List.set_cons_succ])
        clear nc0 nc1 nc2 nc3 nc4 nc5 nc6 nc7
        clear nf0 nf1 nf2 nf3 nf4 nf5 nf6 nf7
        refine regAbs (fun W9 => W9.heap[b6]? = some (.cells (wcells [z0, z1, z2, z3, 0, 0, 0, 0]) 100) ∧ W9.heap[b7]? = some (.cells (wcells [0, 0, 0, 0, 0, 0, 0, 0]) 100) ∧ W9.heap[tb]? = some (.cells (wcells [z0, z1, z2, z3]) 26) ∧ W9.heap[tr]? = some (.cells (wcells [0, 0, 0, 0]) 26) ∧ Mod [] wq W9) ⟨g6.out, g7.out, gt.out, gr.out, hM6.out⟩ ?_
        clear g6 g7 gt gr hM6
        rintro W9 ⟨g6, g7, gt, gr, hM6⟩
        have nc0 := cell_at g7 0; have nc1 := cell_at g7 1; have nc2 := cell_at g7 2; have nc3 := cell_at g7 3; have nc4 := cell_at g7 4; have nc5 := cell_at g7 5; have nc6 := cell_at g7 6; have nc7 := cell_at g7 7; simp only [wcells_get] at nc0 nc1 nc2 nc3 nc4 nc5 nc6 nc7
        have nf0 := free_at g7 0; have nf1 := free_at g7 1; have nf2 := free_at g7 2; have nf3 := free_at g7 3; have nf4 := free_at g7 4; have nf5 := free_at g7 5; have nf6 := free_at g7 6; have nf7 := free_at g7 7
        have k6 := hid (set8_keep (b := b7) g6 NE.out.2 s0 s1 s2 s3 o0 o1 o2 o3)
        have k7 := hid (set8_at g7 s0 s1 s2 s3 o0 o1 o2 o3)
        have kt := hid (set8_keep (b := b7) gt NE.out.1.2.2.2.1 s0 s1 s2 s3 o0 o1 o2 o3)
        have kr := hid (set8_keep (b := b7) gr NE.out.1.2.2.2.2.1 s0 s1 s2 s3 o0 o1 o2 o3)
        have hM7 := hid (set8_mod lb7 hM6 s0 s1 s2 s3 o0 o1 o2 o3)
        clear g6 g7 gt gr hM6
        refine regOnly 13 (by kernel_rfl) rfl (by rfl) (fun K hK => ?_)
        go_wp2_with fail
        refine hK.out _ _ (fun h _ => absurd h (by decide)) ?_
        clear hK
        (try simp only [Act.put, List.setIfInBounds_toArray, List.set_cons_zero, List.set_cons_succ])
        clear nc0 nc1 nc2 nc3 nc4 nc5 nc6 nc7
        clear nf0 nf1 nf2 nf3 nf4 nf5 nf6 nf7
        refine regAbs (fun W9 => W9.heap[b6]? = some (.cells (wcells [z0, z1, z2, z3, 0, 0, 0, 0]) 100) ∧ W9.heap[b7]? = some (.cells (wcells [s0, s1, s2, s3, o0, o1, o2, o3]) 100) ∧ W9.heap[tb]? = some (.cells (wcells [z0, z1, z2, z3]) 26) ∧ W9.heap[tr]? = some (.cells (wcells [0, 0, 0, 0]) 26) ∧ Mod [] wq W9 ∧ tr < b6 ∧ tr < b7 ∧ b6 ≠ b7) ⟨k6.out, k7.out, kt.out, kr.out, hM7.out, NE.out.1.2.2.2.2.2.1, NE.out.1.2.2.2.2.2.2, NE.out.2⟩ ?_
        rintro W10 hR
        refine regDone (by kernel_rfl) ?_ _
        exact KEY.out b6 b7 W10 hR
  · rintro b6 b7 W5 ⟨g6, g7, gt, gr, hm5, l6, l7, lne⟩
    have hInv : InvW w tb tr b6 b7 m m 0 (a % m) (1 % m) W5 := by
      obtain ⟨px, pz, ps, po, -⟩ := HP.out
      have e0 : parts 0 4 = [0, 0, 0, 0] := by simp [parts]
      exact ⟨by rw [pz]; exact gt, gr, by rw [pz, e0]; exact g6, by rw [ps, po]; exact g7, (HM.out.1.trans HMW.out).trans hm5, by have := HM.out; omega⟩
    have HI := hid hInv
    clear g6 g7 gt gr hm5 l6 l7 lne hInv
    go_wp2_with fail
    go_loopg [] (a % m) (fun gk W' => InvRel W5 b6 b7 a m gk W')
    case atStart =>
      obtain ⟨px, pz, ps, po, ha, hm, h1, hg, hz⟩ := HP.out
      refine ⟨m, 0, a % m, 1 % m, rfl, hm, Nat.lt_trans (Nat.mod_lt _ (by omega)) hm, by omega, Nat.mod_lt _ (by omega), ?_, ?_, ?_, HI.out.x, HI.out.y, Mod.refl _ _⟩
      · unfold Cg
        rw [show ((0 : Nat) : Int) * (a : Int) - (m : Int) = -(m : Int) by rw [Int.natCast_zero, Int.zero_mul]; omega]
        exact Int.dvd_neg.2 (Int.dvd_refl _)
      · rw [Nat.mod_eq_of_lt h1, Int.natCast_one, Int.one_mul, Int.natCast_emod]
        exact (Cg.mod _ _).symm
      · rw [Nat.gcd_comm, ← Nat.gcd_rec, Nat.gcd_comm]
        exact hg
    case round =>
      obtain ⟨xn, xo, yn, yo, hgy, xN, yN, xoM, yoM, cx, cy, hgc, g6, g7, hm5⟩ := hrel
      have hmN := HP.out.2.2.2.2.2.1
      have cn2 := fun W => mnone yN W
      obtain ⟨s0', s1', s2', s3', hs, pxn⟩ := nv_lits xn
      obtain ⟨x4, x5, x6, x7, hxo, pxo⟩ := nv_lits xo
      obtain ⟨y0, y1, y2, y3, hyn, pyn⟩ := nv_lits yn
      obtain ⟨y4, y5, y6, y7, hyo, pyo⟩ := nv_lits yo
      rw [pxn, pxo] at g6
      rw [pyn, pyo] at g7
      rw [hyn] at cn2
      unfold lit4 at *
      have gb := hm5.get HI.out.box (by have := HI.out.lt; simp only [List.mem_cons, List.not_mem_nil, or_false]; omega)
      have gr := hm5.get HI.out.res (by have := HI.out.lt; simp only [List.mem_cons, List.not_mem_nil, or_false]; omega)
      rw [HP.out.2.1] at gb
      by_cases hy0 : yn = 0
      · have hx1 : xn = 1 := by rw [hy0, Nat.gcd_zero_right] at hgc; exact hgc
        simp only [decide_eq_true hy0] at cn2
        have CN2 := hid cn2
        rw [hx1] at cx
        have yc0 := cell_at g7 0; have yc1 := cell_at g7 1; have yc2 := cell_at g7 2; have yc3 := cell_at g7 3; have yc4 := cell_at g7 4; have yc5 := cell_at g7 5; have yc6 := cell_at g7 6; have yc7 := cell_at g7 7; simp only [wcells_get] at yc0 yc1 yc2 yc3 yc4 yc5 yc6 yc7
        have HN := hid (And.intro g6 (And.intro gr (And.intro hm5 (And.intro cx (And.intro xoM hxo)))))
        clear g6 g7 gr gb hm5 cx cy xoM yoM hgc hxo hs hyn hyo pxn pxo pyn pyo cn2 hgy xN yN hy0 hx1 hmN
        go_upto_region 9 with (go_at_call 48; refine (CN2.out _).mono ?_; rintro e w1 ⟨rfl, hm1⟩; have H1 := hid hm1; clear hm1)
        clear yc0 yc1 yc2 yc3 yc4 yc5 yc6 yc7
        have gx := H1.out.get HN.out.1 (by simp)
        have gr := H1.out.get HN.out.2.1 (by simp)
        have xc0 := cell_at gx 0; have xc1 := cell_at gx 1; have xc2 := cell_at gx 2; have xc3 := cell_at gx 3; have xc4 := cell_at gx 4; have xc5 := cell_at gx 5; have xc6 := cell_at gx 6; have xc7 := cell_at gx 7; simp only [wcells_get] at xc0 xc1 xc2 xc3 xc4 xc5 xc6 xc7
        have rc0 := cell_at gr 0; have rc1 := cell_at gr 1; have rc2 := cell_at gr 2; have rc3 := cell_at gr 3; simp only [wcells_get] at rc0 rc1 rc2 rc3
        have rf0 := free_at gr 0; have rf1 := free_at gr 1; have rf2 := free_at gr 2; have rf3 := free_at gr 3
        have g := hid (set4_at gr x4 x5 x6 x7)
        clear gx gr
        go_wp2_with fail
        have g2 := g.out
        clear rc0 rc1 rc2 rc3
        clear rf0 rf1 rf2 rf3
        clear xc0 xc1 xc2 xc3 xc4 xc5 xc6 xc7
        have rc0 := cell_at g2 0; have rc1 := cell_at g2 1; have rc2 := cell_at g2 2; have rc3 := cell_at g2 3; simp only [wcells_get] at rc0 rc1 rc2 rc3
        obtain ⟨-, -, hm5, cx, xoM, hxo⟩ := HN.out
        have hmm := (HI.out.mod.trans' hm5 (fun b hb => .inr (by have := HI.out.lt; simp only [List.mem_cons, List.not_mem_nil, or_false] at hb; omega))).trans H1.out
        exact bodyPost_ret (v := .tuple #[.agg #[.int .u64 (x4 : Int), .int .u64 (x5 : Int), .int .u64 (x6 : Int), .int .u64 (x7 : Int)], .int .i64 0]) (by simp [results, Tryd.results52, go_sem, rc0, rc1, rc2, rc3]) rfl ⟨⟨xo, xoM, cx, by rw [hxo]⟩, set4_mod (by have := HI.out.lt; omega) hmm _ _ _ _⟩
      · simp only [decide_eq_false hy0] at cn2
        have cw := fun W => lwiden xN W
        have cd := fun W => ldiv (a := xn) (m := yn) (Nat.lt_of_lt_of_le xN NN_le) yN hy0 W
        have hqN : xn / yn < NN := Nat.lt_of_le_of_lt (Nat.div_le_self _ _) xN
        have hm0 : m ≠ 0 := by omega
        have cm := fun W => mmul (a := xn / yn) (b := yo) hqN (by omega) hmN hm0 W
        have hpm : xn / yn * yo % m < m := Nat.mod_lt _ (by omega)
        have csb := fun W => msub (a := xo) (b := xn / yn * yo % m) (by omega) (by omega) hmN hm0 W
        have hin := inv_plain (yn := yn) cx cy (Nat.pos_of_ne_zero hm0) xoM
        have hfm : (xo % m + m - xn / yn * yo % m % m) % m < m := Nat.mod_lt _ (by omega)
        have hgc2 : Nat.gcd yn (xn % yn) = 1 := by rw [Nat.gcd_comm, ← Nat.gcd_rec, Nat.gcd_comm]; exact hgc
        have hrl : xn % yn < yn := Nat.mod_lt _ (Nat.pos_of_ne_zero hy0)
        obtain ⟨w0', w1', w2', w3', w4', w5', w6', w7', hw⟩ := wdv_lit xn
        obtain ⟨q0, q1, q2, q3, hq, pq⟩ := nv_lits (xn / yn)
        obtain ⟨q4, q5, q6, q7, hq8, pq8⟩ : ∃ a b c d, wdv (xn / yn) = lit8 q0 q1 q2 q3 a b c d ∧ parts (xn / yn) 8 = [q0, q1, q2, q3, a, b, c, d] := by
          have h1 := parts_len (xn / yn) 8
          obtain ⟨l, hl⟩ := parts_half (xn / yn)
          rw [pq] at hl
          rw [hl] at h1
          match l, h1 with
          | [a, b, c, d], _ => exact ⟨a, b, c, d, by unfold wdv; rw [hl]; exact wv_lit8 .., hl⟩
        obtain ⟨e0, e1, e2, e3, he, pe⟩ := nv_lits (xn % yn)
        obtain ⟨p0, p1, p2, p3, hp, pp⟩ := nv_lits (xn / yn * yo % m)
        obtain ⟨f0, f1, f2, f3, hf, pf⟩ := nv_lits ((xo % m + m - xn / yn * yo % m % m) % m)
        rw [hs, hw] at cw
        rw [hw, hyn, hq8, he] at cd
        rw [hq, hyo, HP.out.2.2.2.2.2.2.2.2, hp] at cm
        rw [hxo, hp, HP.out.2.2.2.2.2.2.2.2, hf] at csb
        unfold lit4 lit8 at *
        have CN2 := hid cn2
        have CW := hid cw
        have CD := hid cd
        have CM := hid cm
        have CB := hid csb
        have HN := hid (And.intro g6 (And.intro g7 (And.intro gb (And.intro hm5 (And.intro hin (And.intro hfm (And.intro hgc2 (And.intro hrl (And.intro pe (And.intro pf (And.intro pyn (And.intro pyo (And.intro cy (And.intro yoM (And.intro yN hgy)))))))))))))))
        have yc0 := cell_at g7 0; have yc1 := cell_at g7 1; have yc2 := cell_at g7 2; have yc3 := cell_at g7 3; have yc4 := cell_at g7 4; have yc5 := cell_at g7 5; have yc6 := cell_at g7 6; have yc7 := cell_at g7 7; simp only [wcells_get] at yc0 yc1 yc2 yc3 yc4 yc5 yc6 yc7
        clear g6 g7 gb gr hm5 hin hfm hgc2 hrl pe pf pyn pyo cy yoM yN hgy cn2 cw cd cm csb hqN hm0 hpm hw hq pq hq8 pq8 he hp pp hf hs hxo hyn hyo pxn pxo cx xN xoM hgc hy0 hmN
        go_upto_region 5 with (go_at_call 48; refine (CN2.out _).mono ?_; rintro e w1 ⟨rfl, hm1⟩; have H1 := hid hm1; clear hm1)
        clear yc0 yc1 yc2 yc3 yc4 yc5 yc6 yc7
        have hbx : BoxS 100 b6 b7 [s0', s1', s2', s3', x4, x5, x6, x7] [y0, y1, y2, y3, y4, y5, y6, y7] w1.drew := ⟨H1.out.get HN.out.1 (by simp), H1.out.get HN.out.2.1 (by simp)⟩
        have hmw : Mod [] wr w1.drew := H1.out.drew
        refine wp_region_N (BoxS 100 b6 b7 [s0', s1', s2', s3', x4, x5, x6, x7] [y0, y1, y2, y3, y4, y5, y6, y7]) (fun i => !(i == 12 || i == 13 || i == 14)) (by kernel_rfl) ?_
        generalize w1.drew = wq at *
        have HBX := hid hbx
        have HMW := hid hmw
        clear hbx hmw H1
        apply merge2 (R := fun b8 b9 W9 => W9.heap[b8]? = some (.cells (wcells [q0, q1, q2, q3, q4, q5, q6, q7]) 60) ∧ W9.heap[b9]? = some (.cells (wcells [e0, e1, e2, e3]) 26) ∧ Mod [] wq W9 ∧ wq.heap.size ≤ b9)
        · intro key
          have KEY := hid key
          clear key
          have hS := HBX.out
          refine regA 0 40 (v := .pointer (some ⟨b6, 0, none⟩)) rfl rfl (by kernel_rfl) (by kernel_rfl) (by kernel_rfl) (fun _ _ _ h => h) (by rfl) (fun w => ?_) ?_
          · go_simp
          (try simp only [Act.put, List.setIfInBounds_toArray, List.set_cons_zero, List.set_cons_succ])
          refine regS 1 41 (v := ?_) hS rfl rfl (by kernel_rfl) (by kernel_rfl) (by kernel_rfl) (by kernel_rfl) (fun _ _ _ h => h) (by rfl) (fun w hSw => ?_) ?_; rotate_left; (have qc0 := cell_at hSw.1 0; have qc1 := cell_at hSw.1 1; have qc2 := cell_at hSw.1 2; have qc3 := cell_at hSw.1 3; simp only [wcells_get] at qc0 qc1 qc2 qc3; go_simp; first | done | with_reducible rfl); (try simp only [Act.put, List.setIfInBounds_toArray, List.set_cons_zero, List.set_cons_succ])
          refine regA 3 43 (v := .pointer (some ⟨b7, 0, none⟩)) rfl rfl (by kernel_rfl) (by kernel_rfl) (by kernel_rfl) (fun _ _ _ h => h) (by rfl) (fun w => ?_) ?_
          · go_simp
          (try simp only [Act.put, List.setIfInBounds_toArray, List.set_cons_zero, List.set_cons_succ])
          refine regS 4 44 (v := ?_) hS rfl rfl (by kernel_rfl) (by kernel_rfl) (by kernel_rfl) (by kernel_rfl) (fun _ _ _ h => h) (by rfl) (fun w hSw => ?_) ?_; rotate_left; (have qc0 := cell_at hSw.2 0; have qc1 := cell_at hSw.2 1; have qc2 := cell_at hSw.2 2; have qc3 := cell_at hSw.2 3; simp only [wcells_get] at qc0 qc1 qc2 qc3; go_simp; first | done | with_reducible rfl); (try simp only [Act.put, List.setIfInBounds_toArray, List.set_cons_zero, List.set_cons_succ])
          clear hS
          have hM := Mod.refl [] wq
          refine regThree 2 10 11 (by kernel_rfl) rfl (by rfl) rfl (by rfl) rfl (by rfl) (fun K hK => ?_) (fun K hK => ?_) (fun K hK => ?_)
          · go_wp2_with (go_at_call 41; refine (CW.out _).mono ?_; rintro e wq1 ⟨rfl, hm⟩)
            refine hK.out _ _ (fun _ h => ⟨hm.get h.1 (by simp), hm.get h.2 (by simp)⟩) ?_
            clear hK
            (try simp only [Act.put, List.setIfInBounds_toArray, List.set_cons_zero, List.set_cons_succ])
            have hM := hM.trans hm
            clear hm
            refine regThree 5 10 11 (by kernel_rfl) rfl (by rfl) rfl (by rfl) rfl (by rfl) (fun K hK => ?_) (fun K hK => ?_) (fun K hK => ?_)
            · go_wp2_with (go_at_call 56; refine (CD.out _).mono ?_; rintro e wq2 ⟨rfl, hm⟩)
              refine hK.out _ _ (fun _ h => ⟨hm.get h.1 (by simp), hm.get h.2 (by simp)⟩) ?_
              clear hK
              (try simp only [Act.put, List.setIfInBounds_toArray, List.set_cons_zero, List.set_cons_succ])
              have hM := hM.trans hm
              clear hm
              refine regA 6 39 (v := ?_) rfl rfl (by kernel_rfl) (by kernel_rfl) (by kernel_rfl) (fun _ _ _ h => h) (by rfl) (fun w => ?_) ?_; rotate_left; (go_simp; first | done | with_reducible rfl); (try simp only [Act.put, List.setIfInBounds_toArray, List.set_cons_zero, List.set_cons_succ])
              refine regA 7 46 (v := ?_) rfl rfl (by kernel_rfl) (by kernel_rfl) (by kernel_rfl) (fun _ _ _ h => h) (by rfl) (fun w => ?_) ?_; rotate_left; (go_simp; first | done | with_reducible rfl); (try simp only [Act.put, List.setIfInBounds_toArray, List.set_cons_zero, List.set_cons_succ])
              refine regA 8 47 (v := ?_) rfl rfl (by kernel_rfl) (by kernel_rfl) (by kernel_rfl) (fun _ _ _ h => h) (by rfl) (fun w => ?_) ?_; rotate_left; (go_simp; first | done | with_reducible rfl); (try simp only [Act.put, List.setIfInBounds_toArray, List.set_cons_zero, List.set_cons_succ])
              refine regA 9 48 (v := ?_) rfl rfl (by kernel_rfl) (by kernel_rfl) (by kernel_rfl) (fun _ _ _ h => h) (by rfl) (fun w => ?_) ?_; rotate_left; (go_simp; first | done | with_reducible rfl); (try simp only [Act.put, List.setIfInBounds_toArray, List.set_cons_zero, List.set_cons_succ])
              refine regTwo 10 11 (by kernel_rfl) rfl (by rfl) rfl (by rfl) (fun K hK => ?_) (fun K hK => ?_)
              · go_wp2_with fail
                refine hK.out _ _ (fun _ h => ⟨get_alloc h.1 _, get_alloc h.2 _⟩) ?_
                clear hK
                (try simp only [Act.put, List.setIfInBounds_toArray, List.set_cons_zero, List.set_cons_succ])
                have gb8 : (wq2.alloc (.cells #[.int .u64 0, .int .u64 0, .int .u64 0, .int .u64 0, .int .u64 0, .int .u64 0, .int .u64 0, .int .u64 0] 60 (0, 0))).heap[wq2.heap.size]? = some (.cells (wcells [0, 0, 0, 0, 0, 0, 0, 0]) 60) := get_new wq2 _
                obtain ⟨b8, hb8⟩ : ∃ b, wq2.heap.size = b := ⟨_, rfl⟩
                have lb8 : wq.heap.size ≤ b8 := by rw [← hb8]; exact hM.size
                rw [hb8] at gb8 ⊢
                have hM : Mod [] wq (wq2.alloc (.cells #[.int .u64 0, .int .u64 0, .int .u64 0, .int .u64 0, .int .u64 0, .int .u64 0, .int .u64 0, .int .u64 0] 60 (0, 0))) := hM.alloc _
                generalize wq2.alloc (.cells #[.int .u64 0, .int .u64 0, .int .u64 0, .int .u64 0, .int .u64 0, .int .u64 0, .int .u64 0, .int .u64 0] 60 (0, 0)) = wq3 at *
                refine regOnly 11 (by kernel_rfl) rfl (by rfl) (fun K hK => ?_)
                go_wp2_with fail
                refine hK.out _ _ (fun _ h => ⟨get_alloc h.1 _, get_alloc h.2 _⟩) ?_
                clear hK
                (try simp only [Act.put, List.setIfInBounds_toArray, List.set_cons_zero, List.set_cons_succ])
                have gb9 : (wq3.alloc (.cells #[.int .u64 0, .int .u64 0, .int .u64 0, .int .u64 0] 26 (0, 0))).heap[wq3.heap.size]? = some (.cells (wcells [0, 0, 0, 0]) 26) := get_new wq3 _
                obtain ⟨b9, hb9⟩ : ∃ b, wq3.heap.size = b := ⟨_, rfl⟩
                have lb9 : wq.heap.size ≤ b9 := by rw [← hb9]; exact hM.size
                rw [hb9] at gb9 ⊢
                have nb8b9 : b8 < b9 := by rw [← hb9]; exact lt_of_block gb8
                have gb8 : (wq3.alloc (.cells #[.int .u64 0, .int .u64 0, .int .u64 0, .int .u64 0] 26 (0, 0))).heap[b8]? = some (.cells (wcells [0, 0, 0, 0, 0, 0, 0, 0]) 60) := get_alloc gb8 _
                have hM : Mod [] wq (wq3.alloc (.cells #[.int .u64 0, .int .u64 0, .int .u64 0, .int .u64 0] 26 (0, 0))) := hM.alloc _
                generalize wq3.alloc (.cells #[.int .u64 0, .int .u64 0, .int .u64 0, .int .u64 0] 26 (0, 0)) = wq4 at *
                have hbb : b8 ≠ b9 := by omega
                have NE := hid hbb
                have nc0 := cell_at gb8 0; have nc1 := cell_at gb8 1; have nc2 := cell_at gb8 2; have nc3 := cell_at gb8 3; have nc4 := cell_at gb8 4; have nc5 := cell_at gb8 5; have nc6 := cell_at gb8 6; have nc7 := cell_at gb8 7; simp only [wcells_get] at nc0 nc1 nc2 nc3 nc4 nc5 nc6 nc7
                have nf0 := free_at gb8 0; have nf1 := free_at gb8 1; have nf2 := free_at gb8 2; have nf3 := free_at gb8 3; have nf4 := free_at gb8 4; have nf5 := free_at gb8 5; have nf6 := free_at gb8 6; have nf7 := free_at gb8 7
                have g8 := hid (set8_at gb8 q0 q1 q2 q3 q4 q5 q6 q7)
                have g9 := hid (set8_keep (b := b8) gb9 NE.out.symm q0 q1 q2 q3 q4 q5 q6 q7)
                have hM8 := hid (set8_mod lb8 hM q0 q1 q2 q3 q4 q5 q6 q7)
                clear gb8 gb9 hM hbb
                refine regOnly 12 (by kernel_rfl) rfl (by rfl) (fun K hK => ?_)
                go_wp2_with fail
                refine hK.out _ _ (fun h _ => absurd h (by decide)) ?_
                clear hK
                (try simp only [Act.put, List.setIfInBounds_toArray, List.set_cons_zero, List.set_cons_succ])
                clear nc0 nc1 nc2 nc3 nc4 nc5 nc6 nc7
                clear nf0 nf1 nf2 nf3 nf4 nf5 nf6 nf7
                refine regAbs (fun W9 => W9.heap[b8]? = some (.cells (wcells [q0, q1, q2, q3, q4, q5, q6, q7]) 60) ∧ W9.heap[b9]? = some (.cells (wcells [0, 0, 0, 0]) 26) ∧ Mod [] wq W9) ⟨g8.out, g9.out, hM8.out⟩ ?_
                clear g8 g9 hM8
                rintro W9 ⟨g8, g9, hM8⟩
                have nc0 := cell_at g9 0; have nc1 := cell_at g9 1; have nc2 := cell_at g9 2; have nc3 := cell_at g9 3; simp only [wcells_get] at nc0 nc1 nc2 nc3
                have nf0 := free_at g9 0; have nf1 := free_at g9 1; have nf2 := free_at g9 2; have nf3 := free_at g9 3
                have k8 := hid (set4_keep (b := b9) g8 NE.out e0 e1 e2 e3)
                have k9 := hid (set4_at g9 e0 e1 e2 e3)
                have hM9 := hid (set4_mod lb9 hM8 e0 e1 e2 e3)
                clear g8 g9 hM8
                refine regOnly 13 (by kernel_rfl) rfl (by rfl) (fun K hK => ?_)
                go_wp2_with fail
                refine hK.out _ _ (fun h _ => absurd h (by decide)) ?_
                clear hK
                (try simp only [Act.put, List.setIfInBounds_toArray, List.set_cons_zero, List.set_cons_succ])
                clear nc0 nc1 nc2 nc3
                clear nf0 nf1 nf2 nf3
                refine regA 14 10 (v := ?_) rfl rfl (by kernel_rfl) (by kernel_rfl) (by kernel_rfl) (fun _ _ _ h => h) (by rfl) (fun w => ?_) ?_; rotate_left; (go_simp; first | done | with_reducible rfl); (try simp only [Act.put, List.setIfInBounds_toArray, List.set_cons_zero, List.set_cons_succ])
                refine regAbs (fun W9 => W9.heap[b8]? = some (.cells (wcells [q0, q1, q2, q3, q4, q5, q6, q7]) 60) ∧ W9.heap[b9]? = some (.cells (wcells [e0, e1, e2, e3]) 26) ∧ Mod [] wq W9 ∧ wq.heap.size ≤ b9) ⟨k8.out, k9.out, hM9.out, lb9⟩ ?_
                rintro W10 hR
                refine regDone (by kernel_rfl) ?_ _
                exact KEY.out b8 b9 W10 hR
              · go_wp2_with fail
                refine hK.out _ _ (fun _ h => ⟨get_alloc h.1 _, get_alloc h.2 _⟩) ?_
                clear hK
                (try simp only [Act.put, List.setIfInBounds_toArray, List.set_cons_zero, List.set_cons_succ])
                have gb9 : (wq2.alloc (.cells #[.int .u64 0, .int .u64 0, .int .u64 0, .int .u64 0] 26 (0, 0))).heap[wq2.heap.size]? = some (.cells (wcells [0, 0, 0, 0]) 26) := get_new wq2 _
                obtain ⟨b9, hb9⟩ : ∃ b, wq2.heap.size = b := ⟨_, rfl⟩
                have lb9 : wq.heap.size ≤ b9 := by rw [← hb9]; exact hM.size
                rw [hb9] at gb9 ⊢
                have hM : Mod [] wq (wq2.alloc (.cells #[.int .u64 0, .int .u64 0, .int .u64 0, .int .u64 0] 26 (0, 0))) := hM.alloc _
                generalize wq2.alloc (.cells #[.int .u64 0, .int .u64 0, .int .u64 0, .int .u64 0] 26 (0, 0)) = wq3 at *
                refine regOnly 10 (by kernel_rfl) rfl (by rfl) (fun K hK => ?_)
                go_wp2_with fail
                refine hK.out _ _ (fun _ h => ⟨get_alloc h.1 _, get_alloc h.2 _⟩) ?_
                clear hK
                (try simp only [Act.put, List.setIfInBounds_toArray, List.set_cons_zero, List.set_cons_succ])
                have gb8 : (wq3.alloc (.cells #[.int .u64 0, .int .u64 0, .int .u64 0, .int .u64 0, .int .u64 0, .int .u64 0, .int .u64 0, .int .u64 0] 60 (0, 0))).heap[wq3.heap.size]? = some (.cells (wcells [0, 0, 0, 0, 0, 0, 0, 0]) 60) := get_new wq3 _
                obtain ⟨b8, hb8⟩ : ∃ b, wq3.heap.size = b := ⟨_, rfl⟩
                have lb8 : wq.heap.size ≤ b8 := by rw [← hb8]; exact hM.size
                rw [hb8] at gb8 ⊢
                have nb9b8 : b9 < b8 := by rw [← hb8]; exact lt_of_block gb9
                have gb9 : (wq3.alloc (.cells #[.int .u64 0, .int .u64 0, .int .u64 0, .int .u64 0, .int .u64 0, .int .u64 0, .int .u64 0, .int .u64 0] 60 (0, 0))).heap[b9]? = some (.cells (wcells [0, 0, 0, 0]) 26) := get_alloc gb9 _
                have hM : Mod [] wq (wq3.alloc (.cells #[.int .u64 0, .int .u64 0, .int .u64 0, .int .u64 0, .int .u64 0, .int .u64 0, .int .u64 0, .int .u64 0] 60 (0, 0))) := hM.alloc _
                generalize wq3.alloc (.cells #[.int .u64 0, .int .u64 0, .int .u64 0, .int .u64 0, .int .u64 0, .int .u64 0, .int .u64 0, .int .u64 0] 60 (0, 0)) = wq4 at *
                have hbb : b8 ≠ b9 := by omega
                have NE := hid hbb
                have nc0 := cell_at gb8 0; have nc1 := cell_at gb8 1; have nc2 := cell_at gb8 2; have nc3 := cell_at gb8 3; have nc4 := cell_at gb8 4; have nc5 := cell_at gb8 5; have nc6 := cell_at gb8 6; have nc7 := cell_at gb8 7; simp only [wcells_get] at nc0 nc1 nc2 nc3 nc4 nc5 nc6 nc7
                have nf0 := free_at gb8 0; have nf1 := free_at gb8 1; have nf2 := free_at gb8 2; have nf3 := free_at gb8 3; have nf4 := free_at gb8 4; have nf5 := free_at gb8 5; have nf6 := free_at gb8 6; have nf7 := free_at gb8 7
                have g8 := hid (set8_at gb8 q0 q1 q2 q3 q4 q5 q6 q7)
                have g9 := hid (set8_keep (b := b8) gb9 NE.out.symm q0 q1 q2 q3 q4 q5 q6 q7)
                have hM8 := hid (set8_mod lb8 hM q0 q1 q2 q3 q4 q5 q6 q7)
                clear gb8 gb9 hM hbb
                refine regOnly 12 (by kernel_rfl) rfl (by rfl) (fun K hK => ?_)
                go_wp2_with fail
                refine hK.out _ _ (fun h _ => absurd h (by decide)) ?_
                clear hK
                (try simp only [Act.put, List.setIfInBounds_toArray, List.set_cons_zero, List.set_cons_succ])
                clear nc0 nc1 nc2 nc3 nc4 nc5 nc6 nc7
                clear nf0 nf1 nf2 nf3 nf4 nf5 nf6 nf7
                refine regAbs (fun W9 => W9.heap[b8]? = some (.cells (wcells [q0, q1, q2, q3, q4, q5, q6, q7]) 60) ∧ W9.heap[b9]? = some (.cells (wcells [0, 0, 0, 0]) 26) ∧ Mod [] wq W9) ⟨g8.out, g9.out, hM8.out⟩ ?_
                clear g8 g9 hM8
                rintro W9 ⟨g8, g9, hM8⟩
                have nc0 := cell_at g9 0; have nc1 := cell_at g9 1; have nc2 := cell_at g9 2; have nc3 := cell_at g9 3; simp only [wcells_get] at nc0 nc1 nc2 nc3
                have nf0 := free_at g9 0; have nf1 := free_at g9 1; have nf2 := free_at g9 2; have nf3 := free_at g9 3
                have k8 := hid (set4_keep (b := b9) g8 NE.out e0 e1 e2 e3)
                have k9 := hid (set4_at g9 e0 e1 e2 e3)
                have hM9 := hid (set4_mod lb9 hM8 e0 e1 e2 e3)
                clear g8 g9 hM8
                refine regOnly 13 (by kernel_rfl) rfl (by rfl) (fun K hK => ?_)
                go_wp2_with fail
                refine hK.out _ _ (fun h _ => absurd h (by decide)) ?_
                clear hK
                (try simp only [Act.put, List.setIfInBounds_toArray, List.set_cons_zero, List.set_cons_succ])
                clear nc0 nc1 nc2 nc3
                clear nf0 nf1 nf2 nf3
                refine regA 14 10 (v := ?_) rfl rfl (by kernel_rfl) (by kernel_rfl) (by kernel_rfl) (fun _ _ _ h => h) (by rfl) (fun w => ?_) ?_; rotate_left; (go_simp; first | done | with_reducible rfl); (try simp only [Act.put, List.setIfInBounds_toArray, List.set_cons_zero, List.set_cons_succ])
                refine regAbs (fun W9 => W9.heap[b8]? = some (.cells (wcells [q0, q1, q2, q3, q4, q5, q6, q7]) 60) ∧ W9.heap[b9]? = some (.cells (wcells [e0, e1, e2, e3]) 26) ∧ Mod [] wq W9 ∧ wq.heap.size ≤ b9) ⟨k8.out, k9.out, hM9.out, lb9⟩ ?_
                rintro W10 hR
                refine regDone (by kernel_rfl) ?_ _
                exact KEY.out b8 b9 W10 hR
            · go_wp2_with fail
              refine hK.out _ _ (fun _ h => ⟨get_alloc h.1 _, get_alloc h.2 _⟩) ?_
              clear hK
              (try simp only [Act.put, List.setIfInBounds_toArray, List.set_cons_zero, List.set_cons_succ])
              have gb8 : (wq1.alloc (.cells #[.int .u64 0, .int .u64 0, .int .u64 0, .int .u64 0, .int .u64 0, .int .u64 0, .int .u64 0, .int .u64 0] 60 (0, 0))).heap[wq1.heap.size]? = some (.cells (wcells [0, 0, 0, 0, 0, 0, 0, 0]) 60) := get_new wq1 _
              obtain ⟨b8, hb8⟩ : ∃ b, wq1.heap.size = b := ⟨_, rfl⟩
              have lb8 : wq.heap.size ≤ b8 := by rw [← hb8]; exact hM.size
              rw [hb8] at gb8 ⊢
              have hM : Mod [] wq (wq1.alloc (.cells #[.int .u64 0, .int .u64 0, .int .u64 0, .int .u64 0, .int .u64 0, .int .u64 0, .int .u64 0, .int .u64 0] 60 (0, 0))) := hM.alloc _
              generalize wq1.alloc (.cells #[.int .u64 0, .int .u64 0, .int .u64 0, .int .u64 0, .int .u64 0, .int .u64 0, .int .u64 0, .int .u64 0] 60 (0, 0)) = wq2 at *
              refine regTwo 5 11 (by kernel_rfl) rfl (by rfl) rfl (by rfl) (fun K hK => ?_) (fun K hK => ?_)
              · go_wp2_with (go_at_call 56; refine (CD.out _).mono ?_; rintro e wq3 ⟨rfl, hm⟩)
                refine hK.out _ _ (fun _ h => ⟨hm.get h.1 (by simp), hm.get h.2 (by simp)⟩) ?_
                clear hK
                (try simp only [Act.put, List.setIfInBounds_toArray, List.set_cons_zero, List.set_cons_succ])
                have gb8 := hm.get gb8 (by simp)
                have hM := hM.trans hm
                clear hm
                refine regA 6 39 (v := ?_) rfl rfl (by kernel_rfl) (by kernel_rfl) (by kernel_rfl) (fun _ _ _ h => h) (by rfl) (fun w => ?_) ?_; rotate_left; (go_simp; first | done | with_reducible rfl); (try simp only [Act.put, List.setIfInBounds_toArray, List.set_cons_zero, List.set_cons_succ])
                refine regA 7 46 (v := ?_) rfl rfl (by kernel_rfl) (by kernel_rfl) (by kernel_rfl) (fun _ _ _ h => h) (by rfl) (fun w => ?_) ?_; rotate_left; (go_simp; first | done | with_reducible rfl); (try simp only [Act.put, List.setIfInBounds_toArray, List.set_cons_zero, List.set_cons_succ])
                refine regA 8 47 (v := ?_) rfl rfl (by kernel_rfl) (by kernel_rfl) (by kernel_rfl) (fun _ _ _ h => h) (by rfl) (fun w => ?_) ?_; rotate_left; (go_simp; first | done | with_reducible rfl); (try simp only [Act.put, List.setIfInBounds_toArray, List.set_cons_zero, List.set_cons_succ])
                refine regA 9 48 (v := ?_) rfl rfl (by kernel_rfl) (by kernel_rfl) (by kernel_rfl) (fun _ _ _ h => h) (by rfl) (fun w => ?_) ?_; rotate_left; (go_simp; first | done | with_reducible rfl); (try simp only [Act.put, List.setIfInBounds_toArray, List.set_cons_zero, List.set_cons_succ])
                refine regOnly 11 (by kernel_rfl) rfl (by rfl) (fun K hK => ?_)
                go_wp2_with fail
                refine hK.out _ _ (fun _ h => ⟨get_alloc h.1 _, get_alloc h.2 _⟩) ?_
                clear hK
                (try simp only [Act.put, List.setIfInBounds_toArray, List.set_cons_zero, List.set_cons_succ])
                have gb9 : (wq3.alloc (.cells #[.int .u64 0, .int .u64 0, .int .u64 0, .int .u64 0] 26 (0, 0))).heap[wq3.heap.size]? = some (.cells (wcells [0, 0, 0, 0]) 26) := get_new wq3 _
                obtain ⟨b9, hb9⟩ : ∃ b, wq3.heap.size = b := ⟨_, rfl⟩
                have lb9 : wq.heap.size ≤ b9 := by rw [← hb9]; exact hM.size
                rw [hb9] at gb9 ⊢
                have nb8b9 : b8 < b9 := by rw [← hb9]; exact lt_of_block gb8
                have gb8 : (wq3.alloc (.cells #[.int .u64 0, .int .u64 0, .int .u64 0, .int .u64 0] 26 (0, 0))).heap[b8]? = some (.cells (wcells [0, 0, 0, 0, 0, 0, 0, 0]) 60) := get_alloc gb8 _
                have hM : Mod [] wq (wq3.alloc (.cells #[.int .u64 0, .int .u64 0, .int .u64 0, .int .u64 0] 26 (0, 0))) := hM.alloc _
                generalize wq3.alloc (.cells #[.int .u64 0, .int .u64 0, .int .u64 0, .int .u64 0] 26 (0, 0)) = wq4 at *
                have hbb : b8 ≠ b9 := by omega
                have NE := hid hbb
                have nc0 := cell_at gb8 0; have nc1 := cell_at gb8 1; have nc2 := cell_at gb8 2; have nc3 := cell_at gb8 3; have nc4 := cell_at gb8 4; have nc5 := cell_at gb8 5; have nc6 := cell_at gb8 6; have nc7 := cell_at gb8 7; simp only [wcells_get] at nc0 nc1 nc2 nc3 nc4 nc5 nc6 nc7
                have nf0 := free_at gb8 0; have nf1 := free_at gb8 1; have nf2 := free_at gb8 2; have nf3 := free_at gb8 3; have nf4 := free_at gb8 4; have nf5 := free_at gb8 5; have nf6 := free_at gb8 6; have nf7 := free_at gb8 7
                have g8 := hid (set8_at gb8 q0 q1 q2 q3 q4 q5 q6 q7)
                have g9 := hid (set8_keep (b := b8) gb9 NE.out.symm q0 q1 q2 q3 q4 q5 q6 q7)
                have hM8 := hid (set8_mod lb8 hM q0 q1 q2 q3 q4 q5 q6 q7)
                clear gb8 gb9 hM hbb
                refine regOnly 12 (by kernel_rfl) rfl (by rfl) (fun K hK => ?_)
                go_wp2_with fail
                refine hK.out _ _ (fun h _ => absurd h (by decide)) ?_
                clear hK
                (try simp only [Act.put, List.setIfInBounds_toArray, List.set_cons_zero, List.set_cons_succ])
                clear nc0 nc1 nc2 nc3 nc4 nc5 nc6 nc7
                clear nf0 nf1 nf2 nf3 nf4 nf5 nf6 nf7
                refine regAbs (fun W9 => W9.heap[b8]? = some (.cells (wcells [q0, q1, q2, q3, q4, q5, q6, q7]) 60) ∧ W9.heap[b9]? = some (.cells (wcells [0, 0, 0, 0]) 26) ∧ Mod [] wq W9) ⟨g8.out, g9.out, hM8.out⟩ ?_
                clear g8 g9 hM8
                rintro W9 ⟨g8, g9, hM8⟩
                have nc0 := cell_at g9 0; have nc1 := cell_at g9 1; have nc2 := cell_at g9 2; have nc3 := cell_at g9 3; simp only [wcells_get] at nc0 nc1 nc2 nc3
                have nf0 := free_at g9 0; have nf1 := free_at g9 1; have nf2 := free_at g9 2; have nf3 := free_at g9 3
                have k8 := hid (set4_keep (b := b9) g8 NE.out e0 e1 e2 e3)
                have k9 := hid (set4_at g9 e0 e1 e2 e3)
                have hM9 := hid (set4_mod lb9 hM8 e0 e1 e2 e3)
                clear g8 g9 hM8
                refine regOnly 13 (by kernel_rfl) rfl (by rfl) (fun K hK => ?_)
                go_wp2_with fail
                refine hK.out _ _ (fun h _ => absurd h (by decide)) ?_
                clear hK
                (try simp only [Act.put, List.setIfInBounds_toArray, List.set_cons_zero, List.set_cons_succ])
                clear nc0 nc1 nc2 nc3
                clear nf0 nf1 nf2 nf3
                refine regA 14 10 (v := ?_) rfl rfl (by kernel_rfl) (by kernel_rfl) (by kernel_rfl) (fun _ _ _ h => h) (by rfl) (fun w => ?_) ?_; rotate_left; (go_simp; first | done | with_reducible rfl); (try simp only [Act.put, List.setIfInBounds_toArray, List.set_cons_zero, List.set_cons_succ])
                refine regAbs (fun W9 => W9.heap[b8]? = some (.cells (wcells [q0, q1, q2, q3, q4, q5, q6, q7]) 60) ∧ W9.heap[b9]? = some (.cells (wcells [e0, e1, e2, e3]) 26) ∧ Mod [] wq W9 ∧ wq.heap.size ≤ b9) ⟨k8.out, k9.out, hM9.out, lb9⟩ ?_
                rintro W10 hR
                refine regDone (by kernel_rfl) ?_ _
                exact KEY.out b8 b9 W10 hR
              · go_wp2_with fail
                refine hK.out _ _ (fun _ h => ⟨get_alloc h.1 _, get_alloc h.2 _⟩) ?_
                clear hK
                (try simp only [Act.put, List.setIfInBounds_toArray, List.set_cons_zero, List.set_cons_succ])
                have gb9 : (wq2.alloc (.cells #[.int .u64 0, .int .u64 0, .int .u64 0, .int .u64 0] 26 (0, 0))).heap[wq2.heap.size]? = some (.cells (wcells [0, 0, 0, 0]) 26) := get_new wq2 _
                obtain ⟨b9, hb9⟩ : ∃ b, wq2.heap.size = b := ⟨_, rfl⟩
                have lb9 : wq.heap.size ≤ b9 := by rw [← hb9]; exact hM.size
                rw [hb9] at gb9 ⊢
                have nb8b9 : b8 < b9 := by rw [← hb9]; exact lt_of_block gb8
                have gb8 : (wq2.alloc (.cells #[.int .u64 0, .int .u64 0, .int .u64 0, .int .u64 0] 26 (0, 0))).heap[b8]? = some (.cells (wcells [0, 0, 0, 0, 0, 0, 0, 0]) 60) := get_alloc gb8 _
                have hM : Mod [] wq (wq2.alloc (.cells #[.int .u64 0, .int .u64 0, .int .u64 0, .int .u64 0] 26 (0, 0))) := hM.alloc _
                generalize wq2.alloc (.cells #[.int .u64 0, .int .u64 0, .int .u64 0, .int .u64 0] 26 (0, 0)) = wq3 at *
                refine regOnly 5 (by kernel_rfl) rfl (by rfl) (fun K hK => ?_)
                go_wp2_with (go_at_call 56; refine (CD.out _).mono ?_; rintro e wq4 ⟨rfl, hm⟩)
                refine hK.out _ _ (fun _ h => ⟨hm.get h.1 (by simp), hm.get h.2 (by simp)⟩) ?_
                clear hK
                (try simp only [Act.put, List.setIfInBounds_toArray, List.set_cons_zero, List.set_cons_succ])
                have gb8 := hm.get gb8 (by simp)
                have gb9 := hm.get gb9 (by simp)
                have hM := hM.trans hm
                clear hm
                refine regA 6 39 (v := ?_) rfl rfl (by kernel_rfl) (by kernel_rfl) (by kernel_rfl) (fun _ _ _ h => h) (by rfl) (fun w => ?_) ?_; rotate_left; (go_simp; first | done | with_reducible rfl); (try simp only [Act.put, List.setIfInBounds_toArray, List.set_cons_zero, List.set_cons_succ])
                refine regA 7 46 (v := ?_) rfl rfl (by kernel_rfl) (by kernel_rfl) (by kernel_rfl) (fun _ _ _ h => h) (by rfl) (fun w => ?_) ?_; rotate_left; (go_simp; first | done | with_reducible rfl); (try simp only [Act.put, List.setIfInBounds_toArray, List.set_cons_zero, List.set_cons_succ])
                refine regA 8 47 (v := ?_) rfl rfl (by kernel_rfl) (by kernel_rfl) (by kernel_rfl) (fun _ _ _ h => h) (by rfl) (fun w => ?_) ?_; rotate_left; (go_simp; first | done | with_reducible rfl); (try simp only [Act.put, List.setIfInBounds_toArray, List.set_cons_zero, List.set_cons_succ])
                refine regA 9 48 (v := ?_) rfl rfl (by kernel_rfl) (by kernel_rfl) (by kernel_rfl) (fun _ _ _ h => h) (by rfl) (fun w => ?_) ?_; rotate_left; (go_simp; first | done | with_reducible rfl); (try simp only [Act.put, List.setIfInBounds_toArray, List.set_cons_zero, List.set_cons_succ])
                have hbb : b8 ≠ b9 := by omega
                have NE := hid hbb
                have nc0 := cell_at gb8 0; have nc1 := cell_at gb8 1; have nc2 := cell_at gb8 2; have nc3 := cell_at gb8 3; have nc4 := cell_at gb8 4; have nc5 := cell_at gb8 5; have nc6 := cell_at gb8 6; have nc7 := cell_at gb8 7; simp only [wcells_get] at nc0 nc1 nc2 nc3 nc4 nc5 nc6 nc7
                have nf0 := free_at gb8 0; have nf1 := free_at gb8 1; have nf2 := free_at gb8 2; have nf3 := free_at gb8 3; have nf4 := free_at gb8 4; have nf5 := free_at gb8 5; have nf6 := free_at gb8 6; have nf7 := free_at gb8 7
                have g8 := hid (set8_at gb8 q0 q1 q2 q3 q4 q5 q6 q7)
                have g9 := hid (set8_keep (b := b8) gb9 NE.out.symm q0 q1 q2 q3 q4 q5 q6 q7)
                have hM8 := hid (set8_mod lb8 hM q0 q1 q2 q3 q4 q5 q6 q7)
                clear gb8 gb9 hM hbb
                refine regOnly 12 (by kernel_rfl) rfl (by rfl) (fun K hK => ?_)
                go_wp2_with fail
                refine hK.out _ _ (fun h _ => absurd h (by decide)) ?_
                clear hK
                (try simp only [Act.put, List.setIfInBounds_toArray, List.set_cons_zero, List.set_cons_succ])
                clear nc0 nc1 nc2 nc3 nc4 nc5 nc6 nc7
                clear nf0 nf1 nf2 nf3 nf4 nf5 nf6 nf7
                refine regAbs (fun W9 => W9.heap[b8]? = some (.cells (wcells [q0, q1, q2, q3, q4, q5, q6, q7]) 60) ∧ W9.heap[b9]? = some (.cells (wcells [0, 0, 0, 0]) 26) ∧ Mod [] wq W9) ⟨g8.out, g9.out, hM8.out⟩ ?_
                clear g8 g9 hM8
                rintro W9 ⟨g8, g9, hM8⟩
                have nc0 := cell_at g9 0; have nc1 := cell_at g9 1; have nc2 := cell_at g9 2; have nc3 := cell_at g9 3; simp only [wcells_get] at nc0 nc1 nc2 nc3
                have nf0 := free_at g9 0; have nf1 := free_at g9 1; have nf2 := free_at g9 2; have nf3 := free_at g9 3
                have k8 := hid (set4_keep (b := b9) g8 NE.out e0 e1 e2 e3)
                have k9 := hid (set4_at g9 e0 e1 e2 e3)
                have hM9 := hid (set4_mod lb9 hM8 e0 e1 e2 e3)
                clear g8 g9 hM8
                refine regOnly 13 (by kernel_rfl) rfl (by rfl) (fun K hK => ?_)
                go_wp2_with fail
                refine hK.out _ _ (fun h _ => absurd h (by decide)) ?_
                clear hK
                (try simp only [Act.put, List.setIfInBounds_toArray, List.set_cons_zero, List.set_cons_succ])
                clear nc0 nc1 nc2 nc3
                clear nf0 nf1 nf2 nf3
                refine regA 14 10 (v := ?_) rfl rfl (by kernel_rfl) (by kernel_rfl) (by kernel_rfl) (fun _ _ _ h => h) (by rfl) (fun w => ?_) ?_; rotate_left; (go_simp; first | done | with_reducible rfl); (try simp only [Act.put, List.setIfInBounds_toArray, List.set_cons_zero, List.set_cons_succ])
                refine regAbs (fun W9 => W9.heap[b8]? = some (.cells (wcells [q0, q1, q2, q3, q4, q5, q6, q7]) 60) ∧ W9.heap[b9]? = some (.cells (wcells [e0, e1, e2, e3]) 26) ∧ Mod [] wq W9 ∧ wq.heap.size ≤ b9) ⟨k8.out, k9.out, hM9.out, lb9⟩ ?_
                rintro W10 hR
                refine regDone (by kernel_rfl) ?_ _
                exact KEY.out b8 b9 W10 hR
            · go_wp2_with fail
              refine hK.out _ _ (fun _ h => ⟨get_alloc h.1 _, get_alloc h.2 _⟩) ?_
              clear hK
              (try simp only [Act.put, List.setIfInBounds_toArray, List.set_cons_zero, List.set_cons_succ])
              have gb9 : (wq1.alloc (.cells #[.int .u64 0, .int .u64 0, .int .u64 0, .int .u64 0] 26 (0, 0))).heap[wq1.heap.size]? = some (.cells (wcells [0, 0, 0, 0]) 26) := get_new wq1 _
              obtain ⟨b9, hb9⟩ : ∃ b, wq1.heap.size = b := ⟨_, rfl⟩
              have lb9 : wq.heap.size ≤ b9 := by rw [← hb9]; exact hM.size
              rw [hb9] at gb9 ⊢
              have hM : Mod [] wq (wq1.alloc (.cells #[.int .u64 0, .int .u64 0, .int .u64 0, .int .u64 0] 26 (0, 0))) := hM.alloc _
              generalize wq1.alloc (.cells #[.int .u64 0, .int .u64 0, .int .u64 0, .int .u64 0] 26 (0, 0)) = wq2 at *
              refine regTwo 5 10 (by kernel_rfl) rfl (by rfl) rfl (by rfl) (fun K hK => ?_) (fun K hK => ?_)
              · go_wp2_with (go_at_call 56; refine (CD.out _).mono ?_; rintro e wq3 ⟨rfl, hm⟩)
                refine hK.out _ _ (fun _ h => ⟨hm.get h.1 (by simp), hm.get h.2 (by simp)⟩) ?_
                clear hK
                (try simp only [Act.put, List.setIfInBounds_toArray, List.set_cons_zero, List.set_cons_succ])
                have gb9 := hm.get gb9 (by simp)
                have hM := hM.trans hm
                clear hm
                refine regA 6 39 (v := ?_) rfl rfl (by kernel_rfl) (by kernel_rfl) (by kernel_rfl) (fun _ _ _ h => h) (by rfl) (fun w => ?_) ?_; rotate_left; (go_simp; first | done | with_reducible rfl); (try simp only [Act.put, List.setIfInBounds_toArray, List.set_cons_zero, List.set_cons_succ])
                refine regA 7 46 (v := ?_) rfl rfl (by kernel_rfl) (by kernel_rfl) (by kernel_rfl) (fun _ _ _ h => h) (by rfl) (fun w => ?_) ?_; rotate_left; (go_simp; first | done | with_reducible rfl); (try simp only [Act.put, List.setIfInBounds_toArray, List.set_cons_zero, List.set_cons_succ])
                refine regA 8 47 (v := ?_) rfl rfl (by kernel_rfl) (by kernel_rfl) (by kernel_rfl) (fun _ _ _ h => h) (by rfl) (fun w => ?_) ?_; rotate_left; (go_simp; first | done | with_reducible rfl); (try simp only [Act.put, List.setIfInBounds_toArray, List.set_cons_zero, List.set_cons_succ])
                refine regA 9 48 (v := ?_) rfl rfl (by kernel_rfl) (by kernel_rfl) (by kernel_rfl) (fun _ _ _ h => h) (by rfl) (fun w => ?_) ?_; rotate_left; (go_simp; first | done | with_reducible rfl); (try simp only [Act.put, List.setIfInBounds_toArray, List.set_cons_zero, List.set_cons_succ])
                refine regOnly 10 (by kernel_rfl) rfl (by rfl) (fun K hK => ?_)
                go_wp2_with fail
                refine hK.out _ _ (fun _ h => ⟨get_alloc h.1 _, get_alloc h.2 _⟩) ?_
                clear hK
                (try simp only [Act.put, List.setIfInBounds_toArray, List.set_cons_zero, List.set_cons_succ])
                have gb8 : (wq3.alloc (.cells #[.int .u64 0, .int .u64 0, .int .u64 0, .int .u64 0, .int .u64 0, .int .u64 0, .int .u64 0, .int .u64 0] 60 (0, 0))).heap[wq3.heap.size]? = some (.cells (wcells [0, 0, 0, 0, 0, 0, 0, 0]) 60) := get_new wq3 _
                obtain ⟨b8, hb8⟩ : ∃ b, wq3.heap.size = b := ⟨_, rfl⟩
                have lb8 : wq.heap.size ≤ b8 := by rw [← hb8]; exact hM.size
                rw [hb8] at gb8 ⊢
                have nb9b8 : b9 < b8 := by rw [← hb8]; exact lt_of_block gb9
                have gb9 : (wq3.alloc (.cells #[.int .u64 0, .int .u64 0, .int .u64 0, .int .u64 0, .int .u64 0, .int .u64 0, .int .u64 0, .int .u64 0] 60 (0, 0))).heap[b9]? = some (.cells (wcells [0, 0, 0, 0]) 26) := get_alloc gb9 _
                have hM : Mod [] wq (wq3.alloc (.cells #[.int .u64 0, .int .u64 0, .int .u64 0, .int .u64 0, .int .u64 0, .int .u64 0, .int .u64 0, .int .u64 0] 60 (0, 0))) := hM.alloc _
                generalize wq3.alloc (.cells #[.int .u64 0, .int .u64 0, .int .u64 0, .int .u64 0, .int .u64 0, .int .u64 0, .int .u64 0, .int .u64 0] 60 (0, 0)) = wq4 at *
                have hbb : b8 ≠ b9 := by omega
                have NE := hid hbb
                have nc0 := cell_at gb8 0; have nc1 := cell_at gb8 1; have nc2 := cell_at gb8 2; have nc3 := cell_at gb8 3; have nc4 := cell_at gb8 4; have nc5 := cell_at gb8 5; have nc6 := cell_at gb8 6; have nc7 := cell_at gb8 7; simp only [wcells_get] at nc0 nc1 nc2 nc3 nc4 nc5 nc6 nc7
                have nf0 := free_at gb8 0; have nf1 := free_at gb8 1; have nf2 := free_at gb8 2; have nf3 := free_at gb8 3; have nf4 := free_at gb8 4; have nf5 := free_at gb8 5; have nf6 := free_at gb8 6; have nf7 := free_at gb8 7
                have g8 := hid (set8_at gb8 q0 q1 q2 q3 q4 q5 q6 q7)
                have g9 := hid (set8_keep (b := b8) gb9 NE.out.symm q0 q1 q2 q3 q4 q5 q6 q7)
                have hM8 := hid (set8_mod lb8 hM q0 q1 q2 q3 q4 q5 q6 q7)
                clear gb8 gb9 hM hbb
                refine regOnly 12 (by kernel_rfl) rfl (by rfl) (fun K hK => ?_)
                go_wp2_with fail
                refine hK.out _ _ (fun h _ => absurd h (by decide)) ?_
                clear hK
                (try simp only [Act.put, List.setIfInBounds_toArray, List.set_cons_zero, List.set_cons_succ])
                clear nc0 nc1 nc2 nc3 nc4 nc5 nc6 nc7
                clear nf0 nf1 nf2 nf3 nf4 nf5 nf6 nf7
                refine regAbs (fun W9 => W9.heap[b8]? = some (.cells (wcells [q0, q1, q2, q3, q4, q5, q6, q7]) 60) ∧ W9.heap[b9]? = some (.cells (wcells [0, 0, 0, 0]) 26) ∧ Mod [] wq W9) ⟨g8.out, g9.out, hM8.out⟩ ?_
                clear g8 g9 hM8
                rintro W9 ⟨g8, g9, hM8⟩
                have nc0 := cell_at g9 0; have nc1 := cell_at g9 1; have nc2 := cell_at g9 2; have nc3 := cell_at g9 3; simp only [wcells_get] at nc0 nc1 nc2 nc3
                have nf0 := free_at g9 0; have nf1 := free_at g9 1; have nf2 := free_at g9 2; have nf3 := free_at g9 3
                have k8 := hid (set4_keep (b := b9) g8 NE.out e0 e1 e2 e3)
                have k9 := hid (set4_at g9 e0 e1 e2 e3)
                have hM9 := hid (set4_mod lb9 hM8 e0 e1 e2 e3)
                clear g8 g9 hM8
                refine regOnly 13 (by kernel_rfl) rfl (by rfl) (fun K hK => ?_)
                go_wp2_with fail
                refine hK.out _ _ (fun h _ => absurd h (by decide)) ?_
                clear hK
                (try simp only [Act.put, List.setIfInBounds_toArray, List.set_cons_zero, List.set_cons_succ])
                clear nc0 nc1 nc2 nc3
                clear nf0 nf1 nf2 nf3
                refine regA 14 10 (v := ?_) rfl rfl (by kernel_rfl) (by kernel_rfl) (by kernel_rfl) (fun _ _ _ h => h) (by rfl) (fun w => ?_) ?_; rotate_left; (go_simp; first | done | with_reducible rfl); (try simp only [Act.put, List.setIfInBounds_toArray, List.set_cons_zero, List.set_cons_succ])
                refine regAbs (fun W9 => W9.heap[b8]? = some (.cells (wcells [q0, q1, q2, q3, q4, q5, q6, q7]) 60) ∧ W9.heap[b9]? = some (.cells (wcells [e0, e1, e2, e3]) 26) ∧ Mod [] wq W9 ∧ wq.heap.size ≤ b9) ⟨k8.out, k9.out, hM9.out, lb9⟩ ?_
                rintro W10 hR
                refine regDone (by kernel_rfl) ?_ _
                exact KEY.out b8 b9 W10 hR
              · go_wp2_with fail
                refine hK.out _ _ (fun _ h => ⟨get_alloc h.1 _, get_alloc h.2 _⟩) ?_
                clear hK
                (try simp only [Act.put, List.setIfInBounds_toArray, List.set_cons_zero, List.set_cons_succ])
                have gb8 : (wq2.alloc (.cells #[.int .u64 0, .int .u64 0, .int .u64 0, .int .u64 0, .int .u64 0, .int .u64 0, .int .u64 0, .int .u64 0] 60 (0, 0))).heap[wq2.heap.size]? = some (.cells (wcells [0, 0, 0, 0, 0, 0, 0, 0]) 60) := get_new wq2 _
                obtain ⟨b8, hb8⟩ : ∃ b, wq2.heap.size = b := ⟨_, rfl⟩
                have lb8 : wq.heap.size ≤ b8 := by rw [← hb8]; exact hM.size
                rw [hb8] at gb8 ⊢
                have nb9b8 : b9 < b8 := by rw [← hb8]; exact lt_of_block gb9
                have gb9 : (wq2.alloc (.cells #[.int .u64 0, .int .u64 0, .int .u64 0, .int .u64 0, .int .u64 0, .int .u64 0, .int .u64 0, .int .u64 0] 60 (0, 0))).heap[b9]? = some (.cells (wcells [0, 0, 0, 0]) 26) := get_alloc gb9 _
                have hM : Mod [] wq (wq2.alloc (.cells #[.int .u64 0, .int .u64 0, .int .u64 0, .int .u64 0, .int .u64 0, .int .u64 0, .int .u64 0, .int .u64 0] 60 (0, 0))) := hM.alloc _
                generalize wq2.alloc (.cells #[.int .u64 0, .int .u64 0, .int .u64 0, .int .u64 0, .int .u64 0, .int .u64 0, .int .u64 0, .int .u64 0] 60 (0, 0)) = wq3 at *
                refine regOnly 5 (by kernel_rfl) rfl (by rfl) (fun K hK => ?_)
                go_wp2_with (go_at_call 56; refine (CD.out _).mono ?_; rintro e wq4 ⟨rfl, hm⟩)
                refine hK.out _ _ (fun _ h => ⟨hm.get h.1 (by simp), hm.get h.2 (by simp)⟩) ?_
                clear hK
                (try simp only [Act.put, List.setIfInBounds_toArray, List.set_cons_zero, List.set_cons_succ])
                have gb9 := hm.get gb9 (by simp)
                have gb8 := hm.get gb8 (by simp)
                have hM := hM.trans hm
                clear hm
                refine regA 6 39 (v := ?_) rfl rfl (by kernel_rfl) (by kernel_rfl) (by kernel_rfl) (fun _ _ _ h => h) (by rfl) (fun w => ?_) ?_; rotate_left; (go_simp; first | done | with_reducible rfl); (try simp only [Act.put, List.setIfInBounds_toArray, List.set_cons_zero, List.set_cons_succ])
                refine regA 7 46 (v := ?_) rfl rfl (by kernel_rfl) (by kernel_rfl) (by kernel_rfl) (fun _ _ _ h => h) (by rfl) (fun w => ?_) ?_; rotate_left; (go_simp; first | done | with_reducible rfl); (try simp only [Act.put, List.setIfInBounds_toArray, List.set_cons_zero, List.set_cons_succ])
                refine regA 8 47 (v := ?_) rfl rfl (by kernel_rfl) (by kernel_rfl) (by kernel_rfl) (fun _ _ _ h => h) (by rfl) (fun w => ?_) ?_; rotate_left; (go_simp; first | done | with_reducible rfl); (try simp only [Act.put, List.setIfInBounds_toArray, List.set_cons_zero, List.set_cons_succ])
                refine regA 9 48 (v := ?_) rfl rfl (by kernel_rfl) (by kernel_rfl) (by kernel_rfl) (fun _ _ _ h => h) (by rfl) (fun w => ?_) ?_; rotate_left; (go_simp; first | done | with_reducible rfl); (try simp only [Act.put, List.setIfInBounds_toArray, List.set_cons_zero, List.set_cons_succ])
                have hbb : b8 ≠ b9 := by omega
                have NE := hid hbb
                have nc0 := cell_at gb8 0; have nc1 := cell_at gb8 1; have nc2 := cell_at gb8 2; have nc3 := cell_at gb8 3; have nc4 := cell_at gb8 4; have nc5 := cell_at gb8 5; have nc6 := cell_at gb8 6; have nc7 := cell_at gb8 7; simp only [wcells_get] at nc0 nc1 nc2 nc3 nc4 nc5 nc6 nc7
                have nf0 := free_at gb8 0; have nf1 := free_at gb8 1; have nf2 := free_at gb8 2; have nf3 := free_at gb8 3; have nf4 := free_at gb8 4; have nf5 := free_at gb8 5; have nf6 := free_at gb8 6; have nf7 := free_at gb8 7
                have g8 := hid (set8_at gb8 q0 q1 q2 q3 q4 q5 q6 q7)
                have g9 := hid (set8_keep (b := b8) gb9 NE.out.symm q0 q1 q2 q3 q4 q5 q6 q7)
                have hM8 := hid (set8_mod lb8 hM q0 q1 q2 q3 q4 q5 q6 q7)
                clear gb8 gb9 hM hbb
                refine regOnly 12 (by kernel_rfl) rfl (by rfl) (fun K hK => ?_)
                go_wp2_with fail
                refine hK.out _ _ (fun h _ => absurd h (by decide)) ?_
                clear hK
                (try simp only [Act.put, List.setIfInBounds_toArray, List.set_cons_zero, List.set_cons_succ])
                clear nc0 nc1 nc2 nc3 nc4 nc5 nc6 nc7
                clear nf0 nf1 nf2 nf3 nf4 nf5 nf6 nf7
                refine regAbs (fun W9 => W9.heap[b8]? = some (.cells (wcells [q0, q1, q2, q3, q4, q5, q6, q7]) 60) ∧ W9.heap[b9]? = some (.cells (wcells [0, 0, 0, 0]) 26) ∧ Mod [] wq W9) ⟨g8.out, g9.out, hM8.out⟩ ?_
                clear g8 g9 hM8
                rintro W9 ⟨g8, g9, hM8⟩
                have nc0 := cell_at g9 0; have nc1 := cell_at g9 1; have nc2 := cell_at g9 2; have nc3 := cell_at g9 3; simp only [wcells_get] at nc0 nc1 nc2 nc3
                have nf0 := free_at g9 0; have nf1 := free_at g9 1; have nf2 := free_at g9 2; have nf3 := free_at g9 3
                have k8 := hid (set4_keep (b := b9) g8 NE.out e0 e1 e2 e3)
                have k9 := hid (set4_at g9 e0 e1 e2 e3)
                have hM9 := hid (set4_mod lb9 hM8 e0 e1 e2 e3)
                clear g8 g9 hM8
                refine regOnly 13 (by kernel_rfl) rfl (by rfl) (fun K hK => ?_)
                go_wp2_with fail
                refine hK.out _ _ (fun h _ => absurd h (by decide)) ?_
                clear hK
                (try simp only [Act.put, List.setIfInBounds_toArray, List.set_cons_zero, List.set_cons_succ])
                clear nc0 nc1 nc2 nc3
                clear nf0 nf1 nf2 nf3
                refine regA 14 10 (v := ?_) rfl rfl (by kernel_rfl) (by kernel_rfl) (by kernel_rfl) (fun _ _ _ h => h) (by rfl) (fun w => ?_) ?_; rotate_left; (go_simp; first | done | with_reducible rfl); (try simp only [Act.put, List.setIfInBounds_toArray, List.set_cons_zero, List.set_cons_succ])
                refine regAbs (fun W9 => W9.heap[b8]? = some (.cells (wcells [q0, q1, q2, q3, q4, q5, q6, q7]) 60) ∧ W9.heap[b9]? = some (.cells (wcells [e0, e1, e2, e3]) 26) ∧ Mod [] wq W9 ∧ wq.heap.size ≤ b9) ⟨k8.out, k9.out, hM9.out, lb9⟩ ?_
                rintro W10 hR
                refine regDone (by kernel_rfl) ?_ _
                exact KEY.out b8 b9 W10 hR
          · go_wp2_with fail
            refine hK.out _ _ (fun _ h => ⟨get_alloc h.1 _, get_alloc h.2 _⟩) ?_
            clear hK
            (try simp only [Act.put, List.setIfInBounds_toArray, List.set_cons_zero, List.set_cons_succ])
            have gb8 : (wq.alloc (.cells #[.int .u64 0, .int .u64 0, .int .u64 0, .int .u64 0, .int .u64 0, .int .u64 0, .int .u64 0, .int .u64 0] 60 (0, 0))).heap[wq.heap.size]? = some (.cells (wcells [0, 0, 0, 0, 0, 0, 0, 0]) 60) := get_new wq _
            obtain ⟨b8, hb8⟩ : ∃ b, wq.heap.size = b := ⟨_, rfl⟩
            have lb8 : wq.heap.size ≤ b8 := by rw [← hb8]; exact hM.size
            rw [hb8] at gb8 ⊢
            have hM : Mod [] wq (wq.alloc (.cells #[.int .u64 0, .int .u64 0, .int .u64 0, .int .u64 0, .int .u64 0, .int .u64 0, .int .u64 0, .int .u64 0] 60 (0, 0))) := hM.alloc _
            generalize wq.alloc (.cells #[.int .u64 0, .int .u64 0, .int .u64 0, .int .u64 0, .int .u64 0, .int .u64 0, .int .u64 0, .int .u64 0] 60 (0, 0)) = wq1 at *
            refine regTwo 2 11 (by kernel_rfl) rfl (by rfl) rfl (by rfl) (fun K hK => ?_) (fun K hK => ?_)
            · go_wp2_with (go_at_call 41; refine (CW.out _).mono ?_; rintro e wq2 ⟨rfl, hm⟩)
              refine hK.out _ _ (fun _ h => ⟨hm.get h.1 (by simp), hm.get h.2 (by simp)⟩) ?_
              clear hK
              (try simp only [Act.put, List.setIfInBounds_toArray, List.set_cons_zero, List.set_cons_succ])
              have gb8 := hm.get gb8 (by simp)
              have hM := hM.trans hm
              clear hm
              refine regTwo 5 11 (by kernel_rfl) rfl (by rfl) rfl (by rfl) (fun K hK => ?_) (fun K hK => ?_)
              · go_wp2_with (go_at_call 56; refine (CD.out _).mono ?_; rintro e wq3 ⟨rfl, hm⟩)
                refine hK.out _ _ (fun _ h => ⟨hm.get h.1 (by simp), hm.get h.2 (by simp)⟩) ?_
                clear hK
                (try simp only [Act.put, List.setIfInBounds_toArray, List.set_cons_zero, List.set_cons_succ])
                have gb8 := hm.get gb8 (by simp)
                have hM := hM.trans hm
                clear hm
                refine regA 6 39 (v := ?_) rfl rfl (by kernel_rfl) (by kernel_rfl) (by kernel_rfl) (fun _ _ _ h => h) (by rfl) (fun w => ?_) ?_; rotate_left; (go_simp; first | done | with_reducible rfl); (try simp only [Act.put, List.setIfInBounds_toArray, List.set_cons_zero, List.set_cons_succ])
                refine regA 7 46 (v := ?_) rfl rfl (by kernel_rfl) (by kernel_rfl) (by kernel_rfl) (fun _ _ _ h => h) (by rfl) (fun w => ?_) ?_; rotate_left; (go_simp; first | done | with_reducible rfl); (try simp only [Act.put, List.setIfInBounds_toArray, List.set_cons_zero, List.set_cons_succ])
                refine regA 8 47 (v := ?_) rfl rfl (by kernel_rfl) (by kernel_rfl) (by kernel_rfl) (fun _ _ _ h => h) (by rfl) (fun w => ?_) ?_; rotate_left; (go_simp; first | done | with_reducible rfl); (try simp only [Act.put, List.setIfInBounds_toArray, List.set_cons_zero, List.set_cons_succ])
                refine regA 9 48 (v := ?_) rfl rfl (by kernel_rfl) (by kernel_rfl) (by kernel_rfl) (fun _ _ _ h => h) (by rfl) (fun w => ?_) ?_; rotate_left; (go_simp; first | done | with_reducible rfl); (try simp only [Act.put, List.setIfInBounds_toArray, List.set_cons_zero, List.set_cons_succ])
                refine regOnly 11 (by kernel_rfl) rfl (by rfl) (fun K hK => ?_)
                go_wp2_with fail
                refine hK.out _ _ (fun _ h => ⟨get_alloc h.1 _, get_alloc h.2 _⟩) ?_
                clear hK
                (try simp only [Act.put, List.setIfInBounds_toArray, List.set_cons_zero, List.set_cons_succ])
                have gb9 : (wq3.alloc (.cells #[.int .u64 0, .int .u64 0, .int .u64 0, .int .u64 0] 26 (0, 0))).heap[wq3.heap.size]? = some (.cells (wcells [0, 0, 0, 0]) 26) := get_new wq3 _
                obtain ⟨b9, hb9⟩ : ∃ b, wq3.heap.size = b := ⟨_, rfl⟩
                have lb9 : wq.heap.size ≤ b9 := by rw [← hb9]; exact hM.size
                rw [hb9] at gb9 ⊢
                have nb8b9 : b8 < b9 := by rw [← hb9]; exact lt_of_block gb8
                have gb8 : (wq3.alloc (.cells #[.int .u64 0, .int .u64 0, .int .u64 0, .int .u64 0] 26 (0, 0))).heap[b8]? = some (.cells (wcells [0, 0, 0, 0, 0, 0, 0, 0]) 60) := get_alloc gb8 _
                have hM : Mod [] wq (wq3.alloc (.cells #[.int .u64 0, .int .u64 0, .int .u64 0, .int .u64 0] 26 (0, 0))) := hM.alloc _
                generalize wq3.alloc (.cells #[.int .u64 0, .int .u64 0, .int .u64 0, .int .u64 0] 26 (0, 0)) = wq4 at *
                have hbb : b8 ≠ b9 := by omega
                have NE := hid hbb
                have nc0 := cell_at gb8 0; have nc1 := cell_at gb8 1; have nc2 := cell_at gb8 2; have nc3 := cell_at gb8 3; have nc4 := cell_at gb8 4; have nc5 := cell_at gb8 5; have nc6 := cell_at gb8 6; have nc7 := cell_at gb8 7; simp only [wcells_get] at nc0 nc1 nc2 nc3 nc4 nc5 nc6 nc7
                have nf0 := free_at gb8 0; have nf1 := free_at gb8 1; have nf2 := free_at gb8 2; have nf3 := free_at gb8 3; have nf4 := free_at gb8 4; have nf5 := free_at gb8 5; have nf6 := free_at gb8 6; have nf7 := free_at gb8 7
                have g8 := hid (set8_at gb8 q0 q1 q2 q3 q4 q5 q6 q7)
                have g9 := hid (set8_keep (b := b8) gb9 NE.out.symm q0 q1 q2 q3 q4 q5 q6 q7)
                have hM8 := hid (set8_mod lb8 hM q0 q1 q2 q3 q4 q5 q6 q7)
                clear gb8 gb9 hM hbb
                refine regOnly 12 (by kernel_rfl) rfl (by rfl) (fun K hK => ?_)
                go_wp2_with fail
                refine hK.out _ _ (fun h _ => absurd h (by decide)) ?_
                clear hK
                (try simp only [Act.put, List.setIfInBounds_toArray, List.set_cons_zero, List.set_cons_succ])
                clear nc0 nc1 nc2 nc3 nc4 nc5 nc6 nc7
                clear nf0 nf1 nf2 nf3 nf4 nf5 nf6 nf7
                refine regAbs (fun W9 => W9.heap[b8]? = some (.cells (wcells [q0, q1, q2, q3, q4, q5, q6, q7]) 60) ∧ W9.heap[b9]? = some (.cells (wcells [0, 0, 0, 0]) 26) ∧ Mod [] wq W9) ⟨g8.out, g9.out, hM8.out⟩ ?_
                clear g8 g9 hM8
                rintro W9 ⟨g8, g9, hM8⟩
                have nc0 := cell_at g9 0; have nc1 := cell_at g9 1; have nc2 := cell_at g9 2; have nc3 := cell_at g9 3; simp only [wcells_get] at nc0 nc1 nc2 nc3
                have nf0 := free_at g9 0; have nf1 := free_at g9 1; have nf2 := free_at g9 2; have nf3 := free_at g9 3
                have k8 := hid (set4_keep (b := b9) g8 NE.out e0 e1 e2 e3)
                have k9 := hid (set4_at g9 e0 e1 e2 e3)
                have hM9 := hid (set4_mod lb9 hM8 e0 e1 e2 e3)
                clear g8 g9 hM8
                refine regOnly 13 (by kernel_rfl) rfl (by rfl) (fun K hK => ?_)
                go_wp2_with fail
                refine hK.out _ _ (fun h _ => absurd h (by decide)) ?_
                clear hK
                (try simp only [Act.put, List.setIfInBounds_toArray, List.set_cons_zero, List.set_cons_succ])
                clear nc0 nc1 nc2 nc3
                clear nf0 nf1 nf2 nf3
                refine regA 14 10 (v := ?_) rfl rfl (by kernel_rfl) (by kernel_rfl) (by kernel_rfl) (fun _ _ _ h => h) (by rfl) (fun w => ?_) ?_; rotate_left; (go_simp; first | done | with_reducible rfl); (try simp only [Act.put, List.setIfInBounds_toArray, List.set_cons_zero, List.set_cons_succ])
                refine regAbs (fun W9 => W9.heap[b8]? = some (.cells (wcells [q0, q1, q2, q3, q4, q5, q6, q7]) 60) ∧ W9.heap[b9]? = some (.cells (wcells [e0, e1, e2, e3]) 26) ∧ Mod [] wq W9 ∧ wq.heap.size ≤ b9) ⟨k8.out, k9.out, hM9.out, lb9⟩ ?_
                rintro W10 hR
                refine regDone (by kernel_rfl) ?_ _
                exact KEY.out b8 b9 W10 hR
              · go_wp2_with fail
                refine hK.out _ _ (fun _ h => ⟨get_alloc h.1 _, get_alloc h.2 _⟩) ?_
                clear hK
                (try simp only [Act.put, List.setIfInBounds_toArray, List.set_cons_zero, List.set_cons_succ])
                have gb9 : (wq2.alloc (.cells #[.int .u64 0, .int .u64 0, .int .u64 0, .int .u64 0] 26 (0, 0))).heap[wq2.heap.size]? = some (.cells (wcells [0, 0, 0, 0]) 26) := get_new wq2 _
                obtain ⟨b9, hb9⟩ : ∃ b, wq2.heap.size = b := ⟨_, rfl⟩
                have lb9 : wq.heap.size ≤ b9 := by rw [← hb9]; exact hM.size
                rw [hb9] at gb9 ⊢
                have nb8b9 : b8 < b9 := by rw [← hb9]; exact lt_of_block gb8
                have gb8 : (wq2.alloc (.cells #[.int .u64 0, .int .u64 0, .int .u64 0, .int .u64 0] 26 (0, 0))).heap[b8]? = some (.cells (wcells [0, 0, 0, 0, 0, 0, 0, 0]) 60) := get_alloc gb8 _
                have hM : Mod [] wq (wq2.alloc (.cells #[.int .u64 0, .int .u64 0, .int .u64 0, .int .u64 0] 26 (0, 0))) := hM.alloc _
                generalize wq2.alloc (.cells #[.int .u64 0, .int .u64 0, .int .u64 0, .int .u64 0] 26 (0, 0)) = wq3 at *
                refine regOnly 5 (by kernel_rfl) rfl (by rfl) (fun K hK => ?_)
                go_wp2_with (go_at_call 56; refine (CD.out _).mono ?_; rintro e wq4 ⟨rfl, hm⟩)
                refine hK.out _ _ (fun _ h => ⟨hm.get h.1 (by simp), hm.get h.2 (by simp)⟩) ?_
                clear hK
                (try simp only [Act.put, List.setIfInBounds_toArray, List.set_cons_zero, List.set_cons_succ])
                have gb8 := hm.get gb8 (by simp)
                have gb9 := hm.get gb9 (by simp)
                have hM := hM.trans hm
                clear hm
                refine regA 6 39 (v := ?_) rfl rfl (by kernel_rfl) (by kernel_rfl) (by kernel_rfl) (fun _ _ _ h => h) (by rfl) (fun w => ?_) ?_; rotate_left; (go_simp; first | done | with_reducible rfl); (try simp only [Act.put, List.setIfInBounds_toArray, List.set_cons_zero, List.set_cons_succ])
                refine regA 7 46 (v := ?_) rfl rfl (by kernel_rfl) (by kernel_rfl) (by kernel_rfl) (fun _ _ _ h => h) (by rfl) (fun w => ?_) ?_; rotate_left; (go_simp; first | done | with_reducible rfl); (try simp only [Act.put, List.setIfInBounds_toArray, List.set_cons_zero, List.set_cons_succ])
                refine regA 8 47 (v := ?_) rfl rfl (by kernel_rfl) (by kernel_rfl) (by kernel_rfl) (fun _ _ _ h => h) (by rfl) (fun w => ?_) ?_; rotate_left; (go_simp; first | done | with_reducible rfl); (try simp only [Act.put, List.setIfInBounds_toArray, List.set_cons_zero, List.set_cons_succ])
                refine regA 9 48 (v := ?_) rfl rfl (by kernel_rfl) (by kernel_rfl) (by kernel_rfl) (fun _ _ _ h => h) (by rfl) (fun w => ?_) ?_; rotate_left; (go_simp; first | done | with_reducible rfl); (try simp only [Act.put, List.setIfInBounds_toArray, List.set_cons_zero, List.set_cons_succ])
                have hbb : b8 ≠ b9 := by omega
                have NE := hid hbb
                have nc0 := cell_at gb8 0; have nc1 := cell_at gb8 1; have nc2 := cell_at gb8 2; have nc3 := cell_at gb8 3; have nc4 := cell_at gb8 4; have nc5 := cell_at gb8 5; have nc6 := cell_at gb8 6; have nc7 := cell_at gb8 7; simp only [wcells_get] at nc0 nc1 nc2 nc3 nc4 nc5 nc6 nc7
                have nf0 := free_at gb8 0; have nf1 := free_at gb8 1; have nf2 := free_at gb8 2; have nf3 := free_at gb8 3; have nf4 := free_at gb8 4; have nf5 := free_at gb8 5; have nf6 := free_at gb8 6; have nf7 := free_at gb8 7
                have g8 := hid (set8_at gb8 q0 q1 q2 q3 q4 q5 q6 q7)
                have g9 := hid (set8_keep (b := b8) gb9 NE.out.symm q0 q1 q2 q3 q4 q5 q6 q7)
                have hM8 := hid (set8_mod lb8 hM q0 q1 q2 q3 q4 q5 q6 q7)
                clear gb8 gb9 hM hbb
                refine regOnly 12 (by kernel_rfl) rfl (by rfl) (fun K hK => ?_)
                go_wp2_with fail
                refine hK.out _ _ (fun h _ => absurd h (by decide)) ?_
                clear hK
                (try simp only [Act.put, List.setIfInBounds_toArray, List.set_cons_zero, List.set_cons_succ])
                clear nc0 nc1 nc2 nc3 nc4 nc5 nc6 nc7
                clear nf0 nf1 nf2 nf3 nf4 nf5 nf6 nf7
                refine regAbs (fun W9 => W9.heap[b8]? = some (.cells (wcells [q0, q1, q2, q3, q4, q5, q6, q7]) 60) ∧ W9.heap[b9]? = some (.cells (wcells [0, 0, 0, 0]) 26) ∧ Mod [] wq W9) ⟨g8.out, g9.out, hM8.out⟩ ?_
                clear g8 g9 hM8
                rintro W9 ⟨g8, g9, hM8⟩
                have nc0 := cell_at g9 0; have nc1 := cell_at g9 1; have nc2 := cell_at g9 2; have nc3 := cell_at g9 3; simp only [wcells_get] at nc0 nc1 nc2 nc3
                have nf0 := free_at g9 0; have nf1 := free_at g9 1; have nf2 := free_at g9 2; have nf3 := free_at g9 3
                have k8 := hid (set4_keep (b := b9) g8 NE.out e0 e1 e2 e3)
                have k9 := hid (set4_at g9 e0 e1 e2 e3)
                have hM9 := hid (set4_mod lb9 hM8 e0 e1 e2 e3)
                clear g8 g9 hM8
                refine regOnly 13 (by kernel_rfl) rfl (by rfl) (fun K hK => ?_)
                go_wp2_with fail
                refine hK.out _ _ (fun h _ => absurd h (by decide)) ?_
                clear hK
                (try simp only [Act.put, List.setIfInBounds_toArray, List.set_cons_zero, List.set_cons_succ])
                clear nc0 nc1 nc2 nc3
                clear nf0 nf1 nf2 nf3
                refine regA 14 10 (v := ?_) rfl rfl (by kernel_rfl) (by kernel_rfl) (by kernel_rfl) (fun _ _ _ h => h) (by rfl) (fun w => ?_) ?_; rotate_left; (go_simp; first | done | with_reducible rfl); (try simp only [Act.put, List.setIfInBounds_toArray, List.set_cons_zero, List.set_cons_succ])
                refine regAbs (fun W9 => W9.heap[b8]? = some (.cells (wcells [q0, q1, q2, q3, q4, q5, q6, q7]) 60) ∧ W9.heap[b9]? = some (.cells (wcells [e0, e1, e2, e3]) 26) ∧ Mod [] wq W9 ∧ wq.heap.size ≤ b9) ⟨k8.out, k9.out, hM9.out, lb9⟩ ?_
                rintro W10 hR
                refine regDone (by kernel_rfl) ?_ _
                exact KEY.out b8 b9 W10 hR
            · go_wp2_with fail
              refine hK.out _ _ (fun _ h => ⟨get_alloc h.1 _, get_alloc h.2 _⟩) ?_
              clear hK
              (try simp only [Act.put, List.setIfInBounds_toArray, List.set_cons_zero, List.set_cons_succ])
              have gb9 : (wq1.alloc (.cells #[.int .u64 0, .int .u64 0, .int .u64 0, .int .u64 0] 26 (0, 0))).heap[wq1.heap.size]? = some (.cells (wcells [0, 0, 0, 0]) 26) := get_new wq1 _
              obtain ⟨b9, hb9⟩ : ∃ b, wq1.heap.size = b := ⟨_, rfl⟩
              have lb9 : wq.heap.size ≤ b9 := by rw [← hb9]; exact hM.size
              rw [hb9] at gb9 ⊢
              have nb8b9 : b8 < b9 := by rw [← hb9]; exact lt_of_block gb8
              have gb8 : (wq1.alloc (.cells #[.int .u64 0, .int .u64 0, .int .u64 0, .int .u64 0] 26 (0, 0))).heap[b8]? = some (.cells (wcells [0, 0, 0, 0, 0, 0, 0, 0]) 60) := get_alloc gb8 _
              have hM : Mod [] wq (wq1.alloc (.cells #[.int .u64 0, .int .u64 0, .int .u64 0, .int .u64 0] 26 (0, 0))) := hM.alloc _
              generalize wq1.alloc (.cells #[.int .u64 0, .int .u64 0, .int .u64 0, .int .u64 0] 26 (0, 0)) = wq2 at *
              refine regOnly 2 (by kernel_rfl) rfl (by rfl) (fun K hK => ?_)
              go_wp2_with (go_at_call 41; refine (CW.out _).mono ?_; rintro e wq3 ⟨rfl, hm⟩)
              refine hK.out _ _ (fun _ h => ⟨hm.get h.1 (by simp), hm.get h.2 (by simp)⟩) ?_
              clear hK
              (try simp only [Act.put, List.setIfInBounds_toArray, List.set_cons_zero, List.set_cons_succ])
              have gb8 := hm.get gb8 (by simp)
              have gb9 := hm.get gb9 (by simp)
              have hM := hM.trans hm
              clear hm
              refine regOnly 5 (by kernel_rfl) rfl (by rfl) (fun K hK => ?_)
              go_wp2_with (go_at_call 56; refine (CD.out _).mono ?_; rintro e wq4 ⟨rfl, hm⟩)
              refine hK.out _ _ (fun _ h => ⟨hm.get h.1 (by simp), hm.get h.2 (by simp)⟩) ?_
              clear hK
              (try simp only [Act.put, List.setIfInBounds_toArray, List.set_cons_zero, List.set_cons_succ])
              have gb8 := hm.get gb8 (by simp)
              have gb9 := hm.get gb9 (by simp)
              have hM := hM.trans hm
              clear hm
              refine regA 6 39 (v := ?_) rfl rfl (by kernel_rfl) (by kernel_rfl) (by kernel_rfl) (fun _ _ _ h => h) (by rfl) (fun w => ?_) ?_; rotate_left; (go_simp; first | done | with_reducible rfl); (try simp only [Act.put, List.setIfInBounds_toArray, List.set_cons_zero, List.set_cons_succ])
              refine regA 7 46 (v := ?_) rfl rfl (by kernel_rfl) (by kernel_rfl) (by kernel_rfl) (fun _ _ _ h => h) (by rfl) (fun w => ?_) ?_; rotate_left; (go_simp; first | done | with_reducible rfl); (try simp only [Act.put, List.setIfInBounds_toArray, List.set_cons_zero, List.set_cons_succ])
              refine regA 8 47 (v := ?_) rfl rfl (by kernel_rfl) (by kernel_rfl) (by kernel_rfl) (fun _ _ _ h => h) (by rfl) (fun w => ?_) ?_; rotate_left; (go_simp; first | done | with_reducible rfl); (try simp only [Act.put, List.setIfInBounds_toArray, List.set_cons_zero, List.set_cons_succ])
              refine regA 9 48 (v := ?_) rfl rfl (by kernel_rfl) (by kernel_rfl) (by kernel_rfl) (fun _ _ _ h => h) (by rfl) (fun w => ?_) ?_; rotate_left; (go_simp; first | done | with_reducible rfl); (try simp only [Act.put, List.setIfInBounds_toArray, List.set_cons_zero, List.set_cons_succ])
              have hbb : b8 ≠ b9 := by omega
              have NE := hid hbb
              have nc0 := cell_at gb8 0; have nc1 := cell_at gb8 1; have nc2 := cell_at gb8 2; have nc3 := cell_at gb8 3; have nc4 := cell_at gb8 4; have nc5 := cell_at gb8 5; have nc6 := cell_at gb8 6; have nc7 := cell_at gb8 7; simp only [wcells_get] at nc0 nc1 nc2 nc3 nc4 nc5 nc6 nc7
              have nf0 := free_at gb8 0; have nf1 := free_at gb8 1; have nf2 := free_at gb8 2; have nf3 := free_at gb8 3; have nf4 := free_at gb8 4; have nf5 := free_at gb8 5; have nf6 := free_at gb8 6; have nf7 := free_at gb8 7
              have g8 := hid (set8_at gb8 q0 q1 q2 q3 q4 q5 q6 q7)
              have g9 := hid (set8_keep (b := b8) gb9 NE.out.symm q0 q1 q2 q3 q4 q5 q6 q7)
              have hM8 := hid (set8_mod lb8 hM q0 q1 q2 q3 q4 q5 q6 q7)
              clear gb8 gb9 hM hbb
              refine regOnly 12 (by kernel_rfl) rfl (by rfl) (fun K hK => ?_)
              go_wp2_with fail
              refine hK.out _ _ (fun h _ => absurd h (by decide)) ?_
              clear hK
              (try simp only [Act.put, List.setIfInBounds_toArray, List.set_cons_zero, List.set_cons_succ])
              clear nc0 nc1 nc2 nc3 nc4 nc5 nc6 nc7
              clear nf0 nf1 nf2 nf3 nf4 nf5 nf6 nf7
              refine regAbs (fun W9 => W9.heap[b8]? = some (.cells (wcells [q0, q1, q2, q3, q4, q5, q6, q7]) 60) ∧ W9.heap[b9]? = some (.cells (wcells [0, 0, 0, 0]) 26) ∧ Mod [] wq W9) ⟨g8.out, g9.out, hM8.out⟩ ?_
              clear g8 g9 hM8
              rintro W9 ⟨g8, g9, hM8⟩
              have nc0 := cell_at g9 0; have nc1 := cell_at g9 1; have nc2 := cell_at g9 2; have nc3 := cell_at g9 3; simp only [wcells_get] at nc0 nc1 nc2 nc3
              have nf0 := free_at g9 0; have nf1 := free_at g9 1; have nf2 := free_at g9 2; have nf3 := free_at g9 3
              have k8 := hid (set4_keep (b := b9) g8 NE.out e0 e1 e2 e3)
              have k9 := hid (set4_at g9 e0 e1 e2 e3)
              have hM9 := hid (set4_mod lb9 hM8 e0 e1 e2 e3)
              clear g8 g9 hM8
              refine regOnly 13 (by kernel_rfl) rfl (by rfl) (fun K hK => ?_)
              go_wp2_with fail
              refine hK.out _ _ (fun h _ => absurd h (by decide)) ?_
              clear hK
              (try simp only [Act.put, List.setIfInBounds_toArray, List.set_cons_zero, List.set_cons_succ])
              clear nc0 nc1 nc2 nc3
              clear nf0 nf1 nf2 nf3
              refine regA 14 10 (v := ?_) rfl rfl (by kernel_rfl) (by kernel_rfl) (by kernel_rfl) (fun _ _ _ h => h) (by rfl) (fun w => ?_) ?_; rotate_left; (go_simp; first | done | with_reducible rfl); (try simp only [Act.put, List.setIfInBounds_toArray, List.set_cons_zero, List.set_cons_succ])
              refine regAbs (fun W9 => W9.heap[b8]? = some (.cells (wcells [q0, q1, q2, q3, q4, q5, q6, q7]) 60) ∧ W9.heap[b9]? = some (.cells (wcells [e0, e1, e2, e3]) 26) ∧ Mod [] wq W9 ∧ wq.heap.size ≤ b9) ⟨k8.out, k9.out, hM9.out, lb9⟩ ?_
              rintro W10 hR
              refine regDone (by kernel_rfl) ?_ _
              exact KEY.out b8 b9 W10 hR
          · go_wp2_with fail
            refine hK.out _ _ (fun _ h => ⟨get_alloc h.1 _, get_alloc h.2 _⟩) ?_
            clear hK
            (try simp only [Act.put, List.setIfInBounds_toArray, List.set_cons_zero, List.set_cons_succ])
            have gb9 : (wq.alloc (.cells #[.int .u64 0, .int .u64 0, .int .u64 0, .int .u64 0] 26 (0, 0))).heap[wq.heap.size]? = some (.cells (wcells [0, 0, 0, 0]) 26) := get_new wq _
            obtain ⟨b9, hb9⟩ : ∃ b, wq.heap.size = b := ⟨_, rfl⟩
            have lb9 : wq.heap.size ≤ b9 := by rw [← hb9]; exact hM.size
            rw [hb9] at gb9 ⊢
            have hM : Mod [] wq (wq.alloc (.cells #[.int .u64 0, .int .u64 0, .int .u64 0, .int .u64 0] 26 (0, 0))) := hM.alloc _
            generalize wq.alloc (.cells #[.int .u64 0, .int .u64 0, .int .u64 0, .int .u64 0] 26 (0, 0)) = wq1 at *
            refine regTwo 2 10 (by kernel_rfl) rfl (by rfl) rfl (by rfl) (fun K hK => ?_) (fun K hK => ?_)
            · go_wp2_with (go_at_call 41; refine (CW.out _).mono ?_; rintro e wq2 ⟨rfl, hm⟩)
              refine hK.out _ _ (fun _ h => ⟨hm.get h.1 (by simp), hm.get h.2 (by simp)⟩) ?_
              clear hK
              (try simp only [Act.put, List.setIfInBounds_toArray, List.set_cons_zero, List.set_cons_succ])
              have gb9 := hm.get gb9 (by simp)
              have hM := hM.trans hm
              clear hm
              refine regTwo 5 10 (by kernel_rfl) rfl (by rfl) rfl (by rfl) (fun K hK => ?_) (fun K hK => ?_)
              · go_wp2_with (go_at_call 56; refine (CD.out _).mono ?_; rintro e wq3 ⟨rfl, hm⟩)
                refine hK.out _ _ (fun _ h => ⟨hm.get h.1 (by simp), hm.get h.2 (by simp)⟩) ?_
                clear hK
                (try simp only [Act.put, List.setIfInBounds_toArray, List.set_cons_zero, List.set_cons_succ])
                have gb9 := hm.get gb9 (by simp)
                have hM := hM.trans hm
                clear hm
                refine regA 6 39 (v := ?_) rfl rfl (by kernel_rfl) (by kernel_rfl) (by kernel_rfl) (fun _ _ _ h => h) (by rfl) (fun w => ?_) ?_; rotate_left; (go_simp; first | done | with_reducible rfl); (try simp only [Act.put, List.setIfInBounds_toArray, List.set_cons_zero, List.set_cons_succ])
                refine regA 7 46 (v := ?_) rfl rfl (by kernel_rfl) (by kernel_rfl) (by kernel_rfl) (fun _ _ _ h => h) (by rfl) (fun w => ?_) ?_; rotate_left; (go_simp; first | done | with_reducible rfl); (try simp only [Act.put, List.setIfInBounds_toArray, List.set_cons_zero, List.set_cons_succ])
                refine regA 8 47 (v := ?_) rfl rfl (by kernel_rfl) (by kernel_rfl) (by kernel_rfl) (fun _ _ _ h => h) (by rfl) (fun w => ?_) ?_; rotate_left; (go_simp; first | done | with_reducible rfl); (try simp only [Act.put, List.setIfInBounds_toArray, List.set_cons_zero, List.set_cons_succ])
                refine regA 9 48 (v := ?_) rfl rfl (by kernel_rfl) (by kernel_rfl) (by kernel_rfl) (fun _ _ _ h => h) (by rfl) (fun w => ?_) ?_; rotate_left; (go_simp; first | done | with_reducible rfl); (try simp only [Act.put, List.setIfInBounds_toArray, List.set_cons_zero, List.set_cons_succ])
                refine regOnly 10 (by kernel_rfl) rfl (by rfl) (fun K hK => ?_)
                go_wp2_with fail
                refine hK.out _ _ (fun _ h => ⟨get_alloc h.1 _, get_alloc h.2 _⟩) ?_
                clear hK
                (try simp only [Act.put, List.setIfInBounds_toArray, List.set_cons_zero, List.set_cons_succ])
                have gb8 : (wq3.alloc (.cells #[.int .u64 0, .int .u64 0, .int .u64 0, .int .u64 0, .int .u64 0, .int .u64 0, .int .u64 0, .int .u64 0] 60 (0, 0))).heap[wq3.heap.size]? = some (.cells (wcells [0, 0, 0, 0, 0, 0, 0, 0]) 60) := get_new wq3 _
                obtain ⟨b8, hb8⟩ : ∃ b, wq3.heap.size = b := ⟨_, rfl⟩
                have lb8 : wq.heap.size ≤ b8 := by rw [← hb8]; exact hM.size
                rw [hb8] at gb8 ⊢
                have nb9b8 : b9 < b8 := by rw [← hb8]; exact lt_of_block gb9
                have gb9 : (wq3.alloc (.cells #[.int .u64 0, .int .u64 0, .int .u64 0, .int .u64 0, .int .u64 0, .int .u64 0, .int .u64 0, .int .u64 0] 60 (0, 0))).heap[b9]? = some (.cells (wcells [0, 0, 0, 0]) 26) := get_alloc gb9 _
                have hM : Mod [] wq (wq3.alloc (.cells #[.int .u64 0, .int .u64 0, .int .u64 0, .int .u64 0, .int .u64 0, .int .u64 0, .int .u64 0, .int .u64 0] 60 (0, 0))) := hM.alloc _
                generalize wq3.alloc (.cells #[.int .u64 0, .int .u64 0, .int .u64 0, .int .u64 0, .int .u64 0, .int .u64 0, .int .u64 0, .int .u64 0] 60 (0, 0)) = wq4 at *
                have hbb : b8 ≠ b9 := by omega
                have NE := hid hbb
                have nc0 := cell_at gb8 0; have nc1 := cell_at gb8 1; have nc2 := cell_at gb8 2; have nc3 := cell_at gb8 3; have nc4 := cell_at gb8 4; have nc5 := cell_at gb8 5; have nc6 := cell_at gb8 6; have nc7 := cell_at gb8 7; simp only [wcells_get] at nc0 nc1 nc2 nc3 nc4 nc5 nc6 nc7
                have nf0 := free_at gb8 0; have nf1 := free_at gb8 1; have nf2 := free_at gb8 2; have nf3 := free_at gb8 3; have nf4 := free_at gb8 4; have nf5 := free_at gb8 5; have nf6 := free_at gb8 6; have nf7 := free_at gb8 7
                have g8 := hid (set8_at gb8 q0 q1 q2 q3 q4 q5 q6 q7)
                have g9 := hid (set8_keep (b := b8) gb9 NE.out.symm q0 q1 q2 q3 q4 q5 q6 q7)
                have hM8 := hid (set8_mod lb8 hM q0 q1 q2 q3 q4 q5 q6 q7)
                clear gb8 gb9 hM hbb
                refine regOnly 12 (by kernel_rfl) rfl (by rfl) (fun K hK => ?_)
                go_wp2_with fail
                refine hK.out _ _ (fun h _ => absurd h (by decide)) ?_
                clear hK
                (try simp only [Act.put, List.setIfInBounds_toArray, List.set_cons_zero, List.set_cons_succ])
                clear nc0 nc1 nc2 nc3 nc4 nc5 nc6 nc7
                clear nf0 nf1 nf2 nf3 nf4 nf5 nf6 nf7
                refine regAbs (fun W9 => W9.heap[b8]? = some (.cells (wcells [q0, q1, q2, q3, q4, q5, q6, q7]) 60) ∧ W9.heap[b9]? = some (.cells (wcells [0, 0, 0, 0]) 26) ∧ Mod [] wq W9) ⟨g8.out, g9.out, hM8.out⟩ ?_
                clear g8 g9 hM8
                rintro W9 ⟨g8, g9, hM8⟩
                have nc0 := cell_at g9 0; have nc1 := cell_at g9 1; have nc2 := cell_at g9 2; have nc3 := cell_at g9 3; simp only [wcells_get] at nc0 nc1 nc2 nc3
                have nf0 := free_at g9 0; have nf1 := free_at g9 1; have nf2 := free_at g9 2; have nf3 := free_at g9 3
                have k8 := hid (set4_keep (b := b9) g8 NE.out e0 e1 e2 e3)
                have k9 := hid (set4_at g9 e0 e1 e2 e3)
                have hM9 := hid (set4_mod lb9 hM8 e0 e1 e2 e3)
                clear g8 g9 hM8
                refine regOnly 13 (by kernel_rfl) rfl (by rfl) (fun K hK => ?_)
                go_wp2_with fail
                refine hK.out _ _ (fun h _ => absurd h (by decide)) ?_
                clear hK
                (try simp only [Act.put, List.setIfInBounds_toArray, List.set_cons_zero, List.set_cons_succ])
                clear nc0 nc1 nc2 nc3
                clear nf0 nf1 nf2 nf3
                refine regA 14 10 (v := ?_) rfl rfl (by kernel_rfl) (by kernel_rfl) (by kernel_rfl) (fun _ _ _ h => h) (by rfl) (fun w => ?_) ?_; rotate_left; (go_simp; first | done | with_reducible rfl); (try simp only [Act.put, List.setIfInBounds_toArray, List.set_cons_zero, List.set_cons_succ])
                refine regAbs (fun W9 => W9.heap[b8]? = some (.cells (wcells [q0, q1, q2, q3, q4, q5, q6, q7]) 60) ∧ W9.heap[b9]? = some (.cells (wcells [e0, e1, e2, e3]) 26) ∧ Mod [] wq W9 ∧ wq.heap.size ≤ b9) ⟨k8.out, k9.out, hM9.out, lb9⟩ ?_
                rintro W10 hR
                refine regDone (by kernel_rfl) ?_ _
                exact KEY.out b8 b9 W10 hR
              · go_wp2_with fail
                refine hK.out _ _ (fun _ h => ⟨get_alloc h.1 _, get_alloc h.2 _⟩) ?_
                clear hK
                (try simp only [Act.put, List.setIfInBounds_toArray, List.set_cons_zero, List.set_cons_succ])
                have gb8 : (wq2.alloc (.cells #[.int .u64 0, .int .u64 0, .int .u64 0, .int .u64 0, .int .u64 0, .int .u64 0, .int .u64 0, .int .u64 0] 60 (0, 0))).heap[wq2.heap.size]? = some (.cells (wcells [0, 0, 0, 0, 0, 0, 0, 0]) 60) := get_new wq2 _
                obtain ⟨b8, hb8⟩ : ∃ b, wq2.heap.size = b := ⟨_, rfl⟩
                have lb8 : wq.heap.size ≤ b8 := by rw [← hb8]; exact hM.size
                rw [hb8] at gb8 ⊢
                have nb9b8 : b9 < b8 := by rw [← hb8]; exact lt_of_block gb9
                have gb9 : (wq2.alloc (.cells #[.int .u64 0, .int .u64 0, .int .u64 0, .int .u64 0, .int .u64 0, .int .u64 0, .int .u64 0, .int .u64 0] 60 (0, 0))).heap[b9]? = some (.cells (wcells [0, 0, 0, 0]) 26) := get_alloc gb9 _
                have hM : Mod [] wq (wq2.alloc (.cells #[.int .u64 0, .int .u64 0, .int .u64 0, .int .u64 0, .int .u64 0, .int .u64 0, .int .u64 0, .int .u64 0] 60 (0, 0))) := hM.alloc _
                generalize wq2.alloc (.cells #[.int .u64 0, .int .u64 0, .int .u64 0, .int .u64 0, .int .u64 0, .int .u64 0, .int .u64 0, .int .u64 0] 60 (0, 0)) = wq3 at *
                refine regOnly 5 (by kernel_rfl) rfl (by rfl) (fun K hK => ?_)
                go_wp2_with (go_at_call 56; refine (CD.out _).mono ?_; rintro e wq4 ⟨rfl, hm⟩)
                refine hK.out _ _ (fun _ h => ⟨hm.get h.1 (by simp), hm.get h.2 (by simp)⟩) ?_
                clear hK
                (try simp only [Act.put, List.setIfInBounds_toArray, List.set_cons_zero, List.set_cons_succ])
                have gb9 := hm.get gb9 (by simp)
                have gb8 := hm.get gb8 (by simp)
                have hM := hM.trans hm
                clear hm
                refine regA 6 39 (v := ?_) rfl rfl (by kernel_rfl) (by kernel_rfl) (by kernel_rfl) (fun _ _ _ h => h) (by rfl) (fun w => ?_) ?_; rotate_left; (go_simp; first | done | with_reducible rfl); (try simp only [Act.put, List.setIfInBounds_toArray, List.set_cons_zero, List.set_cons_succ])
                refine regA 7 46 (v := ?_) rfl rfl (by kernel_rfl) (by kernel_rfl) (by kernel_rfl) (fun _ _ _ h => h) (by rfl) (fun w => ?_) ?_; rotate_left; (go_simp; first | done | with_reducible rfl); (try simp only [Act.put, List.setIfInBounds_toArray, List.set_cons_zero, List.set_cons_succ])
                refine regA 8 47 (v := ?_) rfl rfl (by kernel_rfl) (by kernel_rfl) (by kernel_rfl) (fun _ _ _ h => h) (by rfl) (fun w => ?_) ?_; rotate_left; (go_simp; first | done | with_reducible rfl); (try simp only [Act.put, List.setIfInBounds_toArray, List.set_cons_zero, List.set_cons_succ])
                refine regA 9 48 (v := ?_) rfl rfl (by kernel_rfl) (by kernel_rfl) (by kernel_rfl) (fun _ _ _ h => h) (by rfl) (fun w => ?_) ?_; rotate_left; (go_simp; first | done | with_reducible rfl); (try simp only [Act.put, List.setIfInBounds_toArray, List.set_cons_zero, List.set_cons_succ])
                have hbb : b8 ≠ b9 := by omega
                have NE := hid hbb
                have nc0 := cell_at gb8 0; have nc1 := cell_at gb8 1; have nc2 := cell_at gb8 2; have nc3 := cell_at gb8 3; have nc4 := cell_at gb8 4; have nc5 := cell_at gb8 5; have nc6 := cell_at gb8 6; have nc7 := cell_at gb8 7; simp only [wcells_get] at nc0 nc1 nc2 nc3 nc4 nc5 nc6 nc7
                have nf0 := free_at gb8 0; have nf1 := free_at gb8 1; have nf2 := free_at gb8 2; have nf3 := free_at gb8 3; have nf4 := free_at gb8 4; have nf5 := free_at gb8 5; have nf6 := free_at gb8 6; have nf7 := free_at gb8 7
                have g8 := hid (set8_at gb8 q0 q1 q2 q3 q4 q5 q6 q7)
                have g9 := hid (set8_keep (b := b8) gb9 NE.out.symm q0 q1 q2 q3 q4 q5 q6 q7)
                have hM8 := hid (set8_mod lb8 hM q0 q1 q2 q3 q4 q5 q6 q7)
                clear gb8 gb9 hM hbb
                refine regOnly 12 (by kernel_rfl) rfl (by rfl) (fun K hK => ?_)
                go_wp2_with fail
                refine hK.out _ _ (fun h _ => absurd h (by decide)) ?_
                clear hK
                (try simp only [Act.put, List.setIfInBounds_toArray, List.set_cons_zero, List.set_cons_succ])
                clear nc0 nc1 nc2 nc3 nc4 nc5 nc6 nc7
                clear nf0 nf1 nf2 nf3 nf4 nf5 nf6 nf7
                refine regAbs (fun W9 => W9.heap[b8]? = some (.cells (wcells [q0, q1, q2, q3, q4, q5, q6, q7]) 60) ∧ W9.heap[b9]? = some (.cells (wcells [0, 0, 0, 0]) 26) ∧ Mod [] wq W9) ⟨g8.out, g9.out, hM8.out⟩ ?_
                clear g8 g9 hM8
                rintro W9 ⟨g8, g9, hM8⟩
                have nc0 := cell_at g9 0; have nc1 := cell_at g9 1; have nc2 := cell_at g9 2; have nc3 := cell_at g9 3; simp only [wcells_get] at nc0 nc1 nc2 nc3
                have nf0 := free_at g9 0; have nf1 := free_at g9 1; have nf2 := free_at g9 2; have nf3 := free_at g9 3
                have k8 := hid (set4_keep (b := b9) g8 NE.out e0 e1 e2 e3)
                have k9 := hid (set4_at g9 e0 e1 e2 e3)
                have hM9 := hid (set4_mod lb9 hM8 e0 e1 e2 e3)
                clear g8 g9 hM8
                refine regOnly 13 (by kernel_rfl) rfl (by rfl) (fun K hK => ?_)
                go_wp2_with fail
                refine hK.out _ _ (fun h _ => absurd h (by decide)) ?_
                clear hK
                (try simp only [Act.put, List.setIfInBounds_toArray, List.set_cons_zero, List.set_cons_succ])
                clear nc0 nc1 nc2 nc3
                clear nf0 nf1 nf2 nf3
                refine regA 14 10 (v := ?_) rfl rfl (by kernel_rfl) (by kernel_rfl) (by kernel_rfl) (fun _ _ _ h => h) (by rfl) (fun w => ?_) ?_; rotate_left; (go_simp; first | done | with_reducible rfl); (try simp only [Act.put, List.setIfInBounds_toArray, List.set_cons_zero, List.set_cons_succ])
                refine regAbs (fun W9 => W9.heap[b8]? = some (.cells (wcells [q0, q1, q2, q3, q4, q5, q6, q7]) 60) ∧ W9.heap[b9]? = some (.cells (wcells [e0, e1, e2, e3]) 26) ∧ Mod [] wq W9 ∧ wq.heap.size ≤ b9) ⟨k8.out, k9.out, hM9.out, lb9⟩ ?_
                rintro W10 hR
                refine regDone (by kernel_rfl) ?_ _
                exact KEY.out b8 b9 W10 hR
            · go_wp2_with fail
              refine hK.out _ _ (fun _ h => ⟨get_alloc h.1 _, get_alloc h.2 _⟩) ?_
              clear hK
              (try simp only [Act.put, List.setIfInBounds_toArray, List.set_cons_zero, List.set_cons_succ])
              have gb8 : (wq1.alloc (.cells #[.int .u64 0, .int .u64 0, .int .u64 0, .int .u64 0, .int .u64 0, .int .u64 0, .int .u64 0, .int .u64 0] 60 (0, 0))).heap[wq1.heap.size]? = some (.cells (wcells [0, 0, 0, 0, 0, 0, 0, 0]) 60) := get_new wq1 _
              obtain ⟨b8, hb8⟩ : ∃ b, wq1.heap.size = b := ⟨_, rfl⟩
              have lb8 : wq.heap.size ≤ b8 := by rw [← hb8]; exact hM.size
              rw [hb8] at gb8 ⊢
              have nb9b8 : b9 < b8 := by rw [← hb8]; exact lt_of_block gb9
              have gb9 : (wq1.alloc (.cells #[.int .u64 0, .int .u64 0, .int .u64 0, .int .u64 0, .int .u64 0, .int .u64 0, .int .u64 0, .int .u64 0] 60 (0, 0))).heap[b9]? = some (.cells (wcells [0, 0, 0, 0]) 26) := get_alloc gb9 _
              have hM : Mod [] wq (wq1.alloc (.cells #[.int .u64 0, .int .u64 0, .int .u64 0, .int .u64 0, .int .u64 0, .int .u64 0, .int .u64 0, .int .u64 0] 60 (0, 0))) := hM.alloc _
              generalize wq1.alloc (.cells #[.int .u64 0, .int .u64 0, .int .u64 0, .int .u64 0, .int .u64 0, .int .u64 0, .int .u64 0, .int .u64 0] 60 (0, 0)) = wq2 at *
              refine regOnly 2 (by kernel_rfl) rfl (by rfl) (fun K hK => ?_)
              go_wp2_with (go_at_call 41; refine (CW.out _).mono ?_; rintro e wq3 ⟨rfl, hm⟩)
              refine hK.out _ _ (fun _ h => ⟨hm.get h.1 (by simp), hm.get h.2 (by simp)⟩) ?_
              clear hK
              (try simp only [Act.put, List.setIfInBounds_toArray, List.set_cons_zero, List.set_cons_succ])
              have gb9 := hm.get gb9 (by simp)
              have gb8 := hm.get gb8 (by simp)
              have hM := hM.trans hm
              clear hm
              refine regOnly 5 (by kernel_rfl) rfl (by rfl) (fun K hK => ?_)
              go_wp2_with (go_at_call 56; refine (CD.out _).mono ?_; rintro e wq4 ⟨rfl, hm⟩)
              refine hK.out _ _ (fun _ h => ⟨hm.get h.1 (by simp), hm.get h.2 (by simp)⟩) ?_
              clear hK
              (try simp only [Act.put, List.setIfInBounds_toArray, List.set_cons_zero, List.set_cons_succ])
              have gb9 := hm.get gb9 (by simp)
              have gb8 := hm.get gb8 (by simp)
              have hM := hM.trans hm
              clear hm
              refine regA 6 39 (v := ?_) rfl rfl (by kernel_rfl) (by kernel_rfl) (by kernel_rfl) (fun _ _ _ h => h) (by rfl) (fun w => ?_) ?_; rotate_left; (go_simp; first | done | with_reducible rfl); (try simp only [Act.put, List.setIfInBounds_toArray, List.set_cons_zero, List.set_cons_succ])
              refine regA 7 46 (v := ?_) rfl rfl (by kernel_rfl) (by kernel_rfl) (by kernel_rfl) (fun _ _ _ h => h) (by rfl) (fun w => ?_) ?_; rotate_left; (go_simp; first | done | with_reducible rfl); (try simp only [Act.put, List.setIfInBounds_toArray, List.set_cons_zero, List.set_cons_succ])
              refine regA 8 47 (v := ?_) rfl rfl (by kernel_rfl) (by kernel_rfl) (by kernel_rfl) (fun _ _ _ h => h) (by rfl) (fun w => ?_) ?_; rotate_left; (go_simp; first | done | with_reducible rfl); (try simp only [Act.put, List.setIfInBounds_toArray, List.set_cons_zero, List.set_cons_succ])
              refine regA 9 48 (v := ?_) rfl rfl (by kernel_rfl) (by kernel_rfl) (by kernel_rfl) (fun _ _ _ h => h) (by rfl) (fun w => ?_) ?_; rotate_left; (go_simp; first | done | with_reducible rfl); (try simp only [Act.put, List.setIfInBounds_toArray, List.set_cons_zero, List.set_cons_succ])
              have hbb : b8 ≠ b9 := by omega
              have NE := hid hbb
              have nc0 := cell_at gb8 0; have nc1 := cell_at gb8 1; have nc2 := cell_at gb8 2; have nc3 := cell_at gb8 3; have nc4 := cell_at gb8 4; have nc5 := cell_at gb8 5; have nc6 := cell_at gb8 6; have nc7 := cell_at gb8 7; simp only [wcells_get] at nc0 nc1 nc2 nc3 nc4 nc5 nc6 nc7
              have nf0 := free_at gb8 0; have nf1 := free_at gb8 1; have nf2 := free_at gb8 2; have nf3 := free_at gb8 3; have nf4 := free_at gb8 4; have nf5 := free_at gb8 5; have nf6 := free_at gb8 6; have nf7 := free_at gb8 7
              have g8 := hid (set8_at gb8 q0 q1 q2 q3 q4 q5 q6 q7)
              have g9 := hid (set8_keep (b := b8) gb9 NE.out.symm q0 q1 q2 q3 q4 q5 q6 q7)
              have hM8 := hid (set8_mod lb8 hM q0 q1 q2 q3 q4 q5 q6 q7)
              clear gb8 gb9 hM hbb
              refine regOnly 12 (by kernel_rfl) rfl (by rfl) (fun K hK => ?_)
              go_wp2_with fail
              refine hK.out _ _ (fun h _ => absurd h (by decide)) ?_
              clear hK
              (try simp only [Act.put, List.setIfInBounds_toArray, List.set_cons_zero, List.set_cons_succ])
              clear nc0 nc1 nc2 nc3 nc4 nc5 nc6 nc7
              clear nf0 nf1 nf2 nf3 nf4 nf5 nf6 nf7
              refine regAbs (fun W9 => W9.heap[b8]? = some (.cells (wcells [q0, q1, q2, q3, q4, q5, q6, q7]) 60) ∧ W9.heap[b9]? = some (.cells (wcells [0, 0, 0, 0]) 26) ∧ Mod [] wq W9) ⟨g8.out, g9.out, hM8.out⟩ ?_
              clear g8 g9 hM8
              rintro W9 ⟨g8, g9, hM8⟩
              have nc0 := cell_at g9 0; have nc1 := cell_at g9 1; have nc2 := cell_at g9 2; have nc3 := cell_at g9 3; simp only [wcells_get] at nc0 nc1 nc2 nc3
              have nf0 := free_at g9 0; have nf1 := free_at g9 1; have nf2 := free_at g9 2; have nf3 := free_at g9 3
              have k8 := hid (set4_keep (b := b9) g8 NE.out e0 e1 e2 e3)
              have k9 := hid (set4_at g9 e0 e1 e2 e3)
              have hM9 := hid (set4_mod lb9 hM8 e0 e1 e2 e3)
              clear g8 g9 hM8
              refine regOnly 13 (by kernel_rfl) rfl (by rfl) (fun K hK => ?_)
              go_wp2_with fail
              refine hK.out _ _ (fun h _ => absurd h (by decide)) ?_
              clear hK
              (try simp only [Act.put, List.setIfInBounds_toArray, List.set_cons_zero, List.set_cons_succ])
              clear nc0 nc1 nc2 nc3
              clear nf0 nf1 nf2 nf3
              refine regA 14 10 (v := ?_) rfl rfl (by kernel_rfl) (by kernel_rfl) (by kernel_rfl) (fun _ _ _ h => h) (by rfl) (fun w => ?_) ?_; rotate_left; (go_simp; first | done | with_reducible rfl); (try simp only [Act.put, List.setIfInBounds_toArray, List.set_cons_zero, List.set_cons_succ])
              refine regAbs (fun W9 => W9.heap[b8]? = some (.cells (wcells [q0, q1, q2, q3, q4, q5, q6, q7]) 60) ∧ W9.heap[b9]? = some (.cells (wcells [e0, e1, e2, e3]) 26) ∧ Mod [] wq W9 ∧ wq.heap.size ≤ b9) ⟨k8.out, k9.out, hM9.out, lb9⟩ ?_
              rintro W10 hR
              refine regDone (by kernel_rfl) ?_ _
              exact KEY.out b8 b9 W10 hR
        · rintro b8 b9 W6 ⟨g8, g9, hm6, l9⟩
          have hb6 := lt_of_block HN.out.1
          have hb9 : b6 < b9 := by have := HMW.out.size; omega
          have HB9 := hid (And.intro hb6 hb9)
          clear l9 hb6 hb9
          have hM6 := HMW.out.trans hm6
          clear hm6 HBX HMW
          have H6 := hid (And.intro g8 (And.intro g9 hM6))
          clear g8 g9 hM6
          go_upto_region 6 with fail
          have hbx : SatM b8 b7 tb [q0, q1, q2, q3, q4, q5, q6, q7] [y0, y1, y2, y3, y4, y5, y6, y7] [z0, z1, z2, z3] W6.drew := ⟨H6.out.1, H6.out.2.2.get HN.out.2.1 (by simp), H6.out.2.2.get HN.out.2.2.1 (by simp)⟩
          have hmw : Mod [] W6 W6.drew := (Mod.refl _ _).drew
          refine wp_region_N (SatM b8 b7 tb [q0, q1, q2, q3, q4, q5, q6, q7] [y0, y1, y2, y3, y4, y5, y6, y7] [z0, z1, z2, z3]) (fun i => !(i == 11 || i == 12)) (by kernel_rfl) ?_
          generalize W6.drew = wq at *
          have HBX := hid hbx
          have HMW := hid hmw
          clear hbx hmw
          apply merge1 (R := fun b11 W9 => W9.heap[b11]? = some (.cells (wcells [p0, p1, p2, p3]) 26) ∧ Mod [] wq W9)
          · intro key
            have KEY := hid key
            clear key
            have hS := HBX.out
            refine regA 0 50 (v := .slice (some ⟨b8, 0, none⟩) 4 8) rfl rfl (by kernel_rfl) (by kernel_rfl) (by kernel_rfl) (fun _ _ _ h => h) (by rfl) (fun w => ?_) ?_
            · go_simp
            (try simp only [Act.put, List.setIfInBounds_toArray, List.set_cons_zero, List.set_cons_succ])
            refine regA 1 51 (v := .pointer (some ⟨b8, 0, none⟩)) rfl rfl (by kernel_rfl) (by kernel_rfl) (by kernel_rfl) (fun _ _ _ h => h) (by rfl) (fun w => ?_) ?_
            · have hat := run_arrayAt (P := Tryd.prog) w 26 _ 4 (some ⟨b8, 0, none⟩) 4 8 Tryd.underlying26 (by omega)
              go_simp
            (try simp only [Act.put, List.setIfInBounds_toArray, List.set_cons_zero, List.set_cons_succ])
            refine regS 2 52 (v := ?_) hS rfl rfl (by kernel_rfl) (by kernel_rfl) (by kernel_rfl) (by kernel_rfl) (fun _ _ _ h => h) (by rfl) (fun w hSw => ?_) ?_; rotate_left; (have qc0 := cell_at hSw.1 0; have qc1 := cell_at hSw.1 1; have qc2 := cell_at hSw.1 2; have qc3 := cell_at hSw.1 3; simp only [wcells_get] at qc0 qc1 qc2 qc3; go_simp; first | done | with_reducible rfl); (try simp only [Act.put, List.setIfInBounds_toArray, List.set_cons_zero, List.set_cons_succ])
            refine regA 3 53 (v := .pointer (some ⟨b7, 4, none⟩)) rfl rfl (by kernel_rfl) (by kernel_rfl) (by kernel_rfl) (fun _ _ _ h => h) (by rfl) (fun w => ?_) ?_
            · go_simp
            (try simp only [Act.put, List.setIfInBounds_toArray, List.set_cons_zero, List.set_cons_succ])
            refine regS 4 54 (v := ?_) hS rfl rfl (by kernel_rfl) (by kernel_rfl) (by kernel_rfl) (by kernel_rfl) (fun _ _ _ h => h) (by rfl) (fun w hSw => ?_) ?_; rotate_left; (have qc0 := cell_at hSw.2.1 4; have qc1 := cell_at hSw.2.1 5; have qc2 := cell_at hSw.2.1 6; have qc3 := cell_at hSw.2.1 7; simp only [wcells_get] at qc0 qc1 qc2 qc3; go_simp; first | done | with_reducible rfl); (try simp only [Act.put, List.setIfInBounds_toArray, List.set_cons_zero, List.set_cons_succ])
            refine regS 5 55 (v := ?_) hS rfl rfl (by kernel_rfl) (by kernel_rfl) (by kernel_rfl) (by kernel_rfl) (fun _ _ _ h => h) (by rfl) (fun w hSw => ?_) ?_; rotate_left; (have qc0 := cell_at hSw.2.2 0; have qc1 := cell_at hSw.2.2 1; have qc2 := cell_at hSw.2.2 2; have qc3 := cell_at hSw.2.2 3; simp only [wcells_get] at qc0 qc1 qc2 qc3; go_simp; first | done | with_reducible rfl); (try simp only [Act.put, List.setIfInBounds_toArray, List.set_cons_zero, List.set_cons_succ])
            clear hS
            have hM := Mod.refl [] wq
            refine regTwo 6 10 (by kernel_rfl) rfl (by rfl) rfl (by rfl) (fun K hK => ?_) (fun K hK => ?_)
            · go_wp2_with (go_at_call 33; refine (CM.out _).mono ?_; rintro e wq1 ⟨rfl, hm⟩)
              refine hK.out _ _ (fun _ h => ⟨hm.get h.1 (by simp), hm.get h.2.1 (by simp), hm.get h.2.2 (by simp)⟩) ?_
              clear hK
              (try simp only [Act.put, List.setIfInBounds_toArray, List.set_cons_zero, List.set_cons_succ])
              have hM := hM.trans hm
              clear hm
              refine regA 7 49 (v := ?_) rfl rfl (by kernel_rfl) (by kernel_rfl) (by kernel_rfl) (fun _ _ _ h => h) (by rfl) (fun w => ?_) ?_; rotate_left; (go_simp; first | done | with_reducible rfl); (try simp only [Act.put, List.setIfInBounds_toArray, List.set_cons_zero, List.set_cons_succ])
              refine regA 8 57 (v := ?_) rfl rfl (by kernel_rfl) (by kernel_rfl) (by kernel_rfl) (fun _ _ _ h => h) (by rfl) (fun w => ?_) ?_; rotate_left; (go_simp; first | done | with_reducible rfl); (try simp only [Act.put, List.setIfInBounds_toArray, List.set_cons_zero, List.set_cons_succ])
              refine regA 9 58 (v := ?_) rfl rfl (by kernel_rfl) (by kernel_rfl) (by kernel_rfl) (fun _ _ _ h => h) (by rfl) (fun w => ?_) ?_; rotate_left; (go_simp; first | done | with_reducible rfl); (try simp only [Act.put, List.setIfInBounds_toArray, List.set_cons_zero, List.set_cons_succ])
              refine regOnly 10 (by kernel_rfl) rfl (by rfl) (fun K hK => ?_)
              go_wp2_with fail
              refine hK.out _ _ (fun _ h => ⟨get_alloc h.1 _, get_alloc h.2.1 _, get_alloc h.2.2 _⟩) ?_
              clear hK
              (try simp only [Act.put, List.setIfInBounds_toArray, List.set_cons_zero, List.set_cons_succ])
              have gb11 : (wq1.alloc (.cells #[.int .u64 0, .int .u64 0, .int .u64 0, .int .u64 0] 26 (0, 0))).heap[wq1.heap.size]? = some (.cells (wcells [0, 0, 0, 0]) 26) := get_new wq1 _
              obtain ⟨b11, hb11⟩ : ∃ b, wq1.heap.size = b := ⟨_, rfl⟩
              have lb11 : wq.heap.size ≤ b11 := by rw [← hb11]; exact hM.size
              rw [hb11] at gb11 ⊢
              have hM : Mod [] wq (wq1.alloc (.cells #[.int .u64 0, .int .u64 0, .int .u64 0, .int .u64 0] 26 (0, 0))) := hM.alloc _
              generalize wq1.alloc (.cells #[.int .u64 0, .int .u64 0, .int .u64 0, .int .u64 0] 26 (0, 0)) = wq2 at *
              have nc0 := cell_at gb11 0; have nc1 := cell_at gb11 1; have nc2 := cell_at gb11 2; have nc3 := cell_at gb11 3; simp only [wcells_get] at nc0 nc1 nc2 nc3
              have nf0 := free_at gb11 0; have nf1 := free_at gb11 1; have nf2 := free_at gb11 2; have nf3 := free_at gb11 3
              have k11 := hid (set4_at gb11 p0 p1 p2 p3)
              have hM9 := hid (set4_mod lb11 hM p0 p1 p2 p3)
              clear gb11 hM
              refine regOnly 11 (by kernel_rfl) rfl (by rfl) (fun K hK => ?_)
              go_wp2_with fail
              refine hK.out _ _ (fun h _ => absurd h (by decide)) ?_
              clear hK
              (try simp only [Act.put, List.setIfInBounds_toArray, List.set_cons_zero, List.set_cons_succ])
              clear nc0 nc1 nc2 nc3
              clear nf0 nf1 nf2 nf3
              refine regA 12 12 (v := ?_) rfl rfl (by kernel_rfl) (by kernel_rfl) (by kernel_rfl) (fun _ _ _ h => h) (by rfl) (fun w => ?_) ?_; rotate_left; (go_simp; first | done | with_reducible rfl); (try simp only [Act.put, List.setIfInBounds_toArray, List.set_cons_zero, List.set_cons_succ])
              refine regAbs (fun W9 => W9.heap[b11]? = some (.cells (wcells [p0, p1, p2, p3]) 26) ∧ Mod [] wq W9) ⟨k11.out, hM9.out⟩ ?_
              rintro W10 hR
              refine regDone (by kernel_rfl) ?_ _
              exact KEY.out b11 W10 hR
            · go_wp2_with fail
              refine hK.out _ _ (fun _ h => ⟨get_alloc h.1 _, get_alloc h.2.1 _, get_alloc h.2.2 _⟩) ?_
              clear hK
              (try simp only [Act.put, List.setIfInBounds_toArray, List.set_cons_zero, List.set_cons_succ])
              have gb11 : (wq.alloc (.cells #[.int .u64 0, .int .u64 0, .int .u64 0, .int .u64 0] 26 (0, 0))).heap[wq.heap.size]? = some (.cells (wcells [0, 0, 0, 0]) 26) := get_new wq _
              obtain ⟨b11, hb11⟩ : ∃ b, wq.heap.size = b := ⟨_, rfl⟩
              have lb11 : wq.heap.size ≤ b11 := by rw [← hb11]; exact hM.size
              rw [hb11] at gb11 ⊢
              have hM : Mod [] wq (wq.alloc (.cells #[.int .u64 0, .int .u64 0, .int .u64 0, .int .u64 0] 26 (0, 0))) := hM.alloc _
              generalize wq.alloc (.cells #[.int .u64 0, .int .u64 0, .int .u64 0, .int .u64 0] 26 (0, 0)) = wq1 at *
              refine regOnly 6 (by kernel_rfl) rfl (by rfl) (fun K hK => ?_)
              go_wp2_with (go_at_call 33; refine (CM.out _).mono ?_; rintro e wq2 ⟨rfl, hm⟩)
              refine hK.out _ _ (fun _ h => ⟨hm.get h.1 (by simp), hm.get h.2.1 (by simp), hm.get h.2.2 (by simp)⟩) ?_
              clear hK
              (try simp only [Act.put, List.setIfInBounds_toArray, List.set_cons_zero, List.set_cons_succ])
              have gb11 := hm.get gb11 (by simp)
              have hM := hM.trans hm
              clear hm
              refine regA 7 49 (v := ?_) rfl rfl (by kernel_rfl) (by kernel_rfl) (by kernel_rfl) (fun _ _ _ h => h) (by rfl) (fun w => ?_) ?_; rotate_left; (go_simp; first | done | with_reducible rfl); (try simp only [Act.put, List.setIfInBounds_toArray, List.set_cons_zero, List.set_cons_succ])
              refine regA 8 57 (v := ?_) rfl rfl (by kernel_rfl) (by kernel_rfl) (by kernel_rfl) (fun _ _ _ h => h) (by rfl) (fun w => ?_) ?_; rotate_left; (go_simp; first | done | with_reducible rfl); (try simp only [Act.put, List.setIfInBounds_toArray, List.set_cons_zero, List.set_cons_succ])
              refine regA 9 58 (v := ?_) rfl rfl (by kernel_rfl) (by kernel_rfl) (by kernel_rfl) (fun _ _ _ h => h) (by rfl) (fun w => ?_) ?_; rotate_left; (go_simp; first | done | with_reducible rfl); (try simp only [Act.put, List.setIfInBounds_toArray, List.set_cons_zero, List.set_cons_succ])
              have nc0 := cell_at gb11 0; have nc1 := cell_at gb11 1; have nc2 := cell_at gb11 2; have nc3 := cell_at gb11 3; simp only [wcells_get] at nc0 nc1 nc2 nc3
              have nf0 := free_at gb11 0; have nf1 := free_at gb11 1; have nf2 := free_at gb11 2; have nf3 := free_at gb11 3
              have k11 := hid (set4_at gb11 p0 p1 p2 p3)
              have hM9 := hid (set4_mod lb11 hM p0 p1 p2 p3)
              clear gb11 hM
              refine regOnly 11 (by kernel_rfl) rfl (by rfl) (fun K hK => ?_)
              go_wp2_with fail
              refine hK.out _ _ (fun h _ => absurd h (by decide)) ?_
              clear hK
              (try simp only [Act.put, List.setIfInBounds_toArray, List.set_cons_zero, List.set_cons_succ])
              clear nc0 nc1 nc2 nc3
              clear nf0 nf1 nf2 nf3
              refine regA 12 12 (v := ?_) rfl rfl (by kernel_rfl) (by kernel_rfl) (by kernel_rfl) (fun _ _ _ h => h) (by rfl) (fun w => ?_) ?_; rotate_left; (go_simp; first | done | with_reducible rfl); (try simp only [Act.put, List.setIfInBounds_toArray, List.set_cons_zero, List.set_cons_succ])
              refine regAbs (fun W9 => W9.heap[b11]? = some (.cells (wcells [p0, p1, p2, p3]) 26) ∧ Mod [] wq W9) ⟨k11.out, hM9.out⟩ ?_
              rintro W10 hR
              refine regDone (by kernel_rfl) ?_ _
              exact KEY.out b11 W10 hR
          · rintro b11 W7 ⟨g11, hm7⟩
            have hM7 := H6.out.2.2.trans (HMW.out.trans hm7)
            have g9 := (HMW.out.trans hm7).get H6.out.2.1 (by simp)
            have gx := hM7.get HN.out.1 (by simp)
            have gy := hM7.get HN.out.2.1 (by simp)
            have gb := hM7.get HN.out.2.2.1 (by simp)
            have xc0 := cell_at gx 0; have xc1 := cell_at gx 1; have xc2 := cell_at gx 2; have xc3 := cell_at gx 3; have xc4 := cell_at gx 4; have xc5 := cell_at gx 5; have xc6 := cell_at gx 6; have xc7 := cell_at gx 7; simp only [wcells_get] at xc0 xc1 xc2 xc3 xc4 xc5 xc6 xc7
            have pc0 := cell_at g11 0; have pc1 := cell_at g11 1; have pc2 := cell_at g11 2; have pc3 := cell_at g11 3; simp only [wcells_get] at pc0 pc1 pc2 pc3
            have zc0 := cell_at gb 0; have zc1 := cell_at gb 1; have zc2 := cell_at gb 2; have zc3 := cell_at gb 3; simp only [wcells_get] at zc0 zc1 zc2 zc3
            have H7 := hid (And.intro g9 hM7)
            clear hm7 HBX HMW g11 g9 gx gy gb hM7 H6
            go_upto_region 8 with (go_at_call 51; refine (CB.out _).mono ?_; rintro e w8 ⟨rfl, hm1⟩; have H8 := hid hm1; clear hm1)
            clear xc0 xc1 xc2 xc3 xc4 xc5 xc6 xc7
            clear pc0 pc1 pc2 pc3
            clear zc0 zc1 zc2 zc3
            refine wp_abs (fun W9 => W9.heap[w8.heap.size]? = some (.cells (wcells [f0, f1, f2, f3]) 26) ∧ Mod [] W7 W9) ⟨get_new _ _, H8.out.alloc _⟩ ?_
            have hb13 : b6 < w8.heap.size := by have := (H7.out.2.trans H8.out).size; have := HB9.out; omega
            have HB13 := hid hb13
            clear hb13
            generalize w8.heap.size = b13 at *
            rintro W8 ⟨g13, hm8⟩
            have hM8 := H7.out.2.trans hm8
            have hbx : SatE b7 b9 b13 [y0, y1, y2, y3, y4, y5, y6, y7] [e0, e1, e2, e3] [f0, f1, f2, f3] W8.drew := ⟨hM8.get HN.out.2.1 (by simp), hm8.get H7.out.1 (by simp), g13⟩
            have g6 : W8.drew.heap[b6]? = _ := hM8.get HN.out.1 (by simp)
            have g7 : W8.drew.heap[b7]? = _ := hM8.get HN.out.2.1 (by simp)
            have hM9 : Mod [] wr W8.drew := hM8.drew
            have hlt : b7 ≠ b6 ∧ b9 ≠ b6 ∧ b13 ≠ b6 := by
              have h1 := HI.out.lt
              have h2 := HB9.out
              have h3 := HB13.out
              omega
            have NE := hid hlt
            clear hlt
            have hS := hbx
            refine wp_region_N (SatE b7 b9 b13 [y0, y1, y2, y3, y4, y5, y6, y7] [e0, e1, e2, e3] [f0, f1, f2, f3]) (fun i => !(i == 5)) (by kernel_rfl) ?_
            clear H7 H8 g13 hm8 hM8 hbx
            generalize W8.drew = wq at *
            refine regS 0 67 (v := ?_) hS rfl rfl (by kernel_rfl) (by kernel_rfl) (by kernel_rfl) (by kernel_rfl) (fun _ _ _ h => h) (by rfl) (fun w hSw => ?_) ?_; rotate_left; (have qc0 := cell_at hSw.1 0; have qc1 := cell_at hSw.1 1; have qc2 := cell_at hSw.1 2; have qc3 := cell_at hSw.1 3; have qc4 := cell_at hSw.1 4; have qc5 := cell_at hSw.1 5; have qc6 := cell_at hSw.1 6; have qc7 := cell_at hSw.1 7; simp only [wcells_get] at qc0 qc1 qc2 qc3 qc4 qc5 qc6 qc7; go_simp; first | done | with_reducible rfl); (try simp only [Act.put, List.setIfInBounds_toArray, List.set_cons_zero, List.set_cons_succ])
            refine regS 1 68 (v := ?_) hS rfl rfl (by kernel_rfl) (by kernel_rfl) (by kernel_rfl) (by kernel_rfl) (fun _ _ _ h => h) (by rfl) (fun w hSw => ?_) ?_; rotate_left; (have qc0 := cell_at hSw.2.1 0; have qc1 := cell_at hSw.2.1 1; have qc2 := cell_at hSw.2.1 2; have qc3 := cell_at hSw.2.1 3; simp only [wcells_get] at qc0 qc1 qc2 qc3; go_simp; first | done | with_reducible rfl); (try simp only [Act.put, List.setIfInBounds_toArray, List.set_cons_zero, List.set_cons_succ])
            refine regS 2 69 (v := ?_) hS rfl rfl (by kernel_rfl) (by kernel_rfl) (by kernel_rfl) (by kernel_rfl) (fun _ _ _ h => h) (by rfl) (fun w hSw => ?_) ?_; rotate_left; (have qc0 := cell_at hSw.2.2 0; have qc1 := cell_at hSw.2.2 1; have qc2 := cell_at hSw.2.2 2; have qc3 := cell_at hSw.2.2 3; simp only [wcells_get] at qc0 qc1 qc2 qc3; go_simp; first | done | with_reducible rfl); (try simp only [Act.put, List.setIfInBounds_toArray, List.set_cons_zero, List.set_cons_succ])
            refine regA 3 70 (v := ?_) rfl rfl (by kernel_rfl) (by kernel_rfl) (by kernel_rfl) (fun _ _ _ h => h) (by rfl) (fun w => ?_) ?_; rotate_left; (go_simp; first | done | with_reducible rfl); (try simp only [Act.put, List.setIfInBounds_toArray, List.set_cons_zero, List.set_cons_succ])
            clear hS
            have xc0 := cell_at g6 0; have xc1 := cell_at g6 1; have xc2 := cell_at g6 2; have xc3 := cell_at g6 3; have xc4 := cell_at g6 4; have xc5 := cell_at g6 5; have xc6 := cell_at g6 6; have xc7 := cell_at g6 7; simp only [wcells_get] at xc0 xc1 xc2 xc3 xc4 xc5 xc6 xc7
            have xf0 := free_at g6 0; have xf1 := free_at g6 1; have xf2 := free_at g6 2; have xf3 := free_at g6 3; have xf4 := free_at g6 4; have xf5 := free_at g6 5; have xf6 := free_at g6 6; have xf7 := free_at g6 7
            have k6 := hid (set8_at g6 y0 y1 y2 y3 y4 y5 y6 y7)
            have k7 := hid (set8_keep (b := b6) g7 NE.out.1 y0 y1 y2 y3 y4 y5 y6 y7)
            have km := hid (set8_modS (S := [b6, b7]) (b := b6) (by simp) (hM9.mono (S' := [b6, b7]) (by simp)) y0 y1 y2 y3 y4 y5 y6 y7)
            clear g6 g7 hM9
            refine regOnly 4 (by kernel_rfl) rfl (by rfl) (fun K hK => ?_)
            go_wp2_with fail
            refine hK.out _ _ (fun _ h => ⟨set8_keep h.1 NE.out.1 _ _ _ _ _ _ _ _, set8_keep h.2.1 NE.out.2.1 _ _ _ _ _ _ _ _, set8_keep h.2.2 NE.out.2.2 _ _ _ _ _ _ _ _⟩) ?_
            clear hK
            (try simp only [Act.put, List.setIfInBounds_toArray, List.set_cons_zero, List.set_cons_succ])
            clear xc0 xc1 xc2 xc3 xc4 xc5 xc6 xc7
            clear xf0 xf1 xf2 xf3 xf4 xf5 xf6 xf7
            refine regAbs (fun W9 => W9.heap[b6]? = some (.cells (wcells [y0, y1, y2, y3, y4, y5, y6, y7]) 100) ∧ W9.heap[b7]? = some (.cells (wcells [y0, y1, y2, y3, y4, y5, y6, y7]) 100) ∧ Mod [b6, b7] wr W9) ⟨k6.out, k7.out, km.out⟩ ?_
            clear k6 k7 km
            rintro W10 ⟨g6, g7, hM9⟩
            have xc0 := cell_at g7 0; have xc1 := cell_at g7 1; have xc2 := cell_at g7 2; have xc3 := cell_at g7 3; have xc4 := cell_at g7 4; have xc5 := cell_at g7 5; have xc6 := cell_at g7 6; have xc7 := cell_at g7 7; simp only [wcells_get] at xc0 xc1 xc2 xc3 xc4 xc5 xc6 xc7
            have xf0 := free_at g7 0; have xf1 := free_at g7 1; have xf2 := free_at g7 2; have xf3 := free_at g7 3; have xf4 := free_at g7 4; have xf5 := free_at g7 5; have xf6 := free_at g7 6; have xf7 := free_at g7 7
            have k6 := hid (set8_keep (b := b7) g6 NE.out.1.symm e0 e1 e2 e3 f0 f1 f2 f3)
            have k7 := hid (set8_at g7 e0 e1 e2 e3 f0 f1 f2 f3)
            have km := hid (set8_modS (S := [b6, b7]) (b := b7) (by simp) hM9 e0 e1 e2 e3 f0 f1 f2 f3)
            clear g6 g7 hM9
            refine regOnly 5 (by kernel_rfl) rfl (by rfl) (fun K hK => ?_)
            go_wp2_with fail
            refine hK.out _ _ (fun h _ => absurd h (by decide)) ?_
            clear hK
            (try simp only [Act.put, List.setIfInBounds_toArray, List.set_cons_zero, List.set_cons_succ])
            clear xc0 xc1 xc2 xc3 xc4 xc5 xc6 xc7
            clear xf0 xf1 xf2 xf3 xf4 xf5 xf6 xf7
            refine regDone (by kernel_rfl) ?_ _
            go_wp2_with fail
            obtain ⟨-, -, -, hm5, hin, hfm, hgc2, hrl, pe, pf, pyn, pyo, cy, yoM, yN, hgy⟩ := HN.out
            go_roundg (xn % yn)
            case measure => omega
            case rel =>
              refine ⟨yn, yo, xn % yn, (xo % m + m - xn / yn * yo % m % m) % m, rfl, yN, Nat.lt_trans hrl yN, yoM, hfm, cy, hin, hgc2, ?_, ?_, hm5.trans km.out⟩
              · rw [pyn, pyo]
                exact k6.out
              · rw [pe, pf]
                exact k7.out
end Go.Proofs.YtdgmnhiffoemmaaDoor
