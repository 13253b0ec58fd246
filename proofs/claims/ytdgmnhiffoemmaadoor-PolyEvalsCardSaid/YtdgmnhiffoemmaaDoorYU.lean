/-
  PolyShares. No statement of a claim stands here; each contract names what it asks.
-/
import Derived.Test.YtdgmnhiffoemmaaDoorYU0
set_option linter.unusedSimpArgs false
namespace Go.Proofs.YtdgmnhiffoemmaaDoor
open Go Go.RowKit Go.ChangeMaps

theorem NatsArg.mod {w w' : World} {a : Option Addr} {l : List Nat} (h : NatsArg w a l) (m : Mod [] w w') : NatsArg w' a l := by
  intro i n hi
  obtain ⟨b, o, e, hc⟩ := h i n hi
  exact ⟨b, o, e, fun j u hu => m.cell (hc j u hu) (by simp)⟩
theorem IntsArg.mod {w w' : World} {a : Option Addr} {l : List Int} (h : IntsArg w a l) (m : Mod [] w w') : IntsArg w' a l := by
  intro i n hi
  obtain ⟨b, o, e, hc⟩ := h i n hi
  exact ⟨b, o, e, m.cell hc (by simp)⟩

set_option maxRecDepth 100000 in
set_option maxHeartbeats 8000000 in
theorem shares_any (l : List Nat) (hll : l.length ≤ maxLen) (hlN : ∀ n ∈ l, n < NN) (a : Option Addr) (c : Nat) (hc : l.length ≤ c) (hn : a = none → l = [] ∧ c = 0)
    (xs : List Int) (hxl : xs.length ≤ maxLen) (ax : Option Addr) (cx : Nat) {at_ : Nat} (hat : at_ < NN) (w : World) (h : NatsArg w a l) (hx : IntsArg w ax xs) :
    Calls Tryd.prog 3 #[.slice a l.length c, .slice ax xs.length cx, nv at_] w fun e w' => e = .returned (.bool true) ∧ Mod [] w w' := by
  obtain ⟨x0, x1, x2, x3, hxx⟩ := nv_lit at_
  have CW : Hid (∀ W : World, _) := fun W => works_any W
  have CF : Hid (∀ (W : World) (h : NatsArg W a l), _) := fun W h => few_any l hll a c hc hn W h
  have CA : Hid (∀ (n : Nat) (hn : n ≤ 13) (W : World) (h : IntsArg W ax xs), _) := fun n hn W h => apart_any xs hxl ax cx n hn W h
  have CO : Hid (∀ W : World, _) := fun W => c_order W
  have CPT0 : Hid (∀ (p : List Nat) (hl : ∀ n ∈ p, n < NN) (hl1 : 1 ≤ p.length) (hl2 : p.length ≤ 256) (g c : Nat) (xs : List Nat) (hxs : ∀ x ∈ xs, x < 1000000) (hn : xs.length = p.length) (gx cx : Nat) (W : World) (h : NatRow W g p) (hx : IntRow W gx xs),
      Calls Tryd.prog 10 #[one4 581039633, .slice (some ⟨g, 0, none⟩) p.length c, .slice (some ⟨gx, 0, none⟩) p.length cx] W fun e w' =>
      (∃ (v : Value) (ps : List (Nat × Nat)), OnPoly order p xs ps ∧ Pts W.heap.size w' v ps ∧ e = .returned (.tuple #[v, .int .i64 0])) ∧ Mod [] W w') :=
    fun p h1 h2 h3 g c xs hxs hn gx cx W h hx => by
      have hc := c_points p h1 h2 h3 g c xs hxs (by omega) gx cx W h hx
      rwa [hn] at hc
  have CEV : Hid (∀ (p : List Nat) (hl : ∀ n ∈ p, n < NN) (hl1 : 1 ≤ p.length) (hl2 : p.length ≤ 256) (g c : Nat) (W : World) (h : NatRow W g p), _) := fun p h1 h2 h3 g c W h => c_eval hat p h1 h2 h3 g c W h
  have CCB : Hid (∀ (p xs : List Nat) (ps : List (Nat × Nat)) (hon : OnPoly order p xs ps) (hxs : ∀ x ∈ xs, x < 1000000) (hap : AllApart order xs) (hl : xs.length = p.length) (hl1 : 1 ≤ p.length) (hl2 : p.length ≤ 256) (g c : Nat) (W : World) (h : PtRow W g ps),
      Calls Tryd.prog 13 #[one4 581039633, nv at_, .slice (some ⟨g, 0, none⟩) p.length c] W fun e w' => e = .returned (.tuple #[one4 (worth p at_ : Int), .int .i64 0]) ∧ Mod [] W w') :=
    fun p xs ps hon hxs hap hl h1 h2 g c W h => (by rw [← hl, ← hon.1]; exact c_combine hat hon hxs hap hl h1 h2 g c W h)
  have HX := hid (And.intro h hx)
  rw [hxx] at CEV CCB
  rw [hxx]
  unfold lit4 one4 at *
  have HN : Hid ((∀ n ∈ l.take 12, n < NN) ∧ (l.take 12).length ≤ 12) := ⟨fun n hn => hlN n (List.mem_of_mem_take hn), by rw [List.length_take]; omega⟩
  have hmx : l.length ≤ 9223372036854775807 := hll
  clear h hx hxx hat hlN hll hxl hn hc
  go_enter Tryd.func3, Tryd.ntmps3
  go_upto_region 1 with fail
  refine wp_abs (fun W => W.heap[w.heap.size]? = some (.cells (wcells [x0, x1, x2, x3]) 26) ∧ Mod [] w W) ⟨get_new _ _, (Mod.refl _ _).alloc _⟩ ?_
  generalize w.heap.size = t5 at *
  rintro W ⟨g5, hm0⟩
  have HB := hid (And.intro g5 hm0)
  clear g5 hm0
  go_upto_region 4 with (first
    | (go_at_call 8; refine (CW.out _).mono ?_; rintro e w1 ⟨rfl, hm1⟩; have H1 := hid hm1; clear hm1)
    | (go_at_call 9; refine (CF.out _ (HX.out.1.mod (HB.out.2.trans H1.out))).mono ?_; rintro e w2 ⟨⟨v, rfl, hv⟩, hm2⟩; have H2 := hid (H1.out.trans hm2); clear hm2))
  obtain ⟨a2, c2, rfl⟩ := row_sl hv.row
  generalize hp : l.take 12 = p at *
  clear hp CF
  by_cases hp0 : p = []
  · subst hp0
    clear hv
    go_wp2_with fail
    exact bodyPost_ret (v := .bool true) (by simp [results, Tryd.results3, go_sem]) rfl ⟨rfl, HB.out.2.trans H2.out⟩
  · have hpl : 1 ≤ p.length := List.length_pos_iff.2 hp0
    obtain ⟨g, c3, e3, -, -, hrow⟩ := hv.natRow hp0
    cases e3
    have hp12 := HN.out.2
    have CA2 : Hid (∀ (W : World) (h : IntsArg W ax xs), _) := fun W h => CA.out p.length (by omega) W h
    have CPT : Hid (∀ (g c : Nat) (xs : List Nat) (hxs : ∀ x ∈ xs, x < 1000000) (hn : xs.length = p.length) (gx cx : Nat) (W : World) (h : NatRow W g p) (hx : IntRow W gx xs), _) := fun g c xs hxs hn gx cx W h hx => CPT0.out p HN.out.1 hpl (by omega) g c xs hxs hn gx cx W h hx
    have CE : Hid (∀ (g c : Nat) (W : World) (h : NatRow W g p), _) := fun g c W h => CEV.out p HN.out.1 hpl (by omega) g c W h
    have CC : Hid (∀ (xs : List Nat) (ps : List (Nat × Nat)) (hon : OnPoly order p xs ps) (hxs : ∀ x ∈ xs, x < 1000000) (hap : AllApart order xs) (hl : xs.length = p.length) (g c : Nat) (W : World) (h : PtRow W g ps), _) :=
      fun xs ps hon hxs hap hl g c W h => CCB.out p xs ps hon hxs hap hl hpl (by omega) g c W h
    have HY := hid (order_BB (worth_lt p at_))
    have HRW := hid hrow
    have n1 : (p.length : Int) ≤ 12 := by omega
    have n2 : 1 ≤ (p.length : Int) := by omega
    have n3 : ((p.length : Int) == 0) = false := by simp; omega
    have hp0' : p.length ≠ 0 := by omega
    generalize worth p at_ = Y at *
    clear hv hrow CA CPT0 CEV CCB HN hp12 hp0
    unfold one4 at CPT
    go_upto_region 7 with (first
      | (go_at_call 11; refine (CO.out _).mono ?_; rintro e w3 ⟨rfl, hm3⟩; have H3 := hid hm3; clear hm3)
      | (go_at_call 12; refine (CA2.out _ (((HX.out.2.mod HB.out.2).mod H2.out).mod H3.out)).mono ?_; rintro e w4 ⟨⟨v4, l4, rfl, hv4, hl4, hd4⟩, hm4⟩; obtain ⟨gx, cx4, e4, -, hrx⟩ := hv4.intRow (by intro h; rw [h] at hl4; simp at hl4; omega) (fun x hx => Int.le_trans (by decide) (hd4.range x hx).1); rw [hl4] at e4; subst e4; have H4 := hid (And.intro hrx (And.intro hd4.small (And.intro hd4.apart (And.intro (show (l4.map Int.toNat).length = p.length by rw [List.length_map]; exact hl4) (H3.out.trans hm4))))); generalize l4.map Int.toNat = ys at *; clear hv4 hl4 hd4 hm4 hrx)
      | (go_at_call 10; refine (CPT.out _ _ ys H4.out.2.1 H4.out.2.2.2.1 _ _ _ (HRW.out.mod H4.out.2.2.2.2 (by simp)) H4.out.1).mono ?_; rintro e w5 ⟨⟨v5, ps, hon, hv5, rfl⟩, hm5⟩; obtain ⟨g5, c5, e5, -, -, hpr⟩ := Pts.ptRow hv5 (by intro h; have h1 := hon.1; rw [h, H4.out.2.2.2.1] at h1; simp at h1; omega); rw [hon.1, H4.out.2.2.2.1] at e5; subst e5; have H5 := hid (And.intro hon (And.intro hpr (H4.out.2.2.2.2.trans hm5))); clear hon hpr hm5 hv5))
    have hS : w5.drew.heap[t5]? = some (.cells (wcells [x0, x1, x2, x3]) 26) := ((H2.out.trans H5.out.2.2).drew).get HB.out.1 (by simp)
    have hmw : Mod [] w5 w5.drew := (Mod.refl _ _).drew
    have HPR := hid (H5.out.2.1.mod hmw (by simp))
    refine wp_region_N (fun w' : World => w'.heap[t5]? = some (.cells (wcells [x0, x1, x2, x3]) 26)) (fun i => !(i == 8 || i == 9)) (by kernel_rfl) ?_
    generalize w5.drew = wq at *
    have HS := hid hS
    have HMW := hid (H5.out.2.2.trans hmw)
    clear hS hmw
    apply merge1 (R := fun b3 W9 => W9.heap[b3]? = some (.cells (wcells [Y, 0, 0, 0]) 26) ∧ Mod [] wq W9)
    · intro key
      have KEY := hid key
      clear key
      have hS := HS.out
      refine regS 1 32 (v := ?_) hS rfl rfl (by kernel_rfl) (by kernel_rfl) (by kernel_rfl) (by kernel_rfl) (fun _ _ _ h => h) (by rfl) (fun w hSw => ?_) ?_; rotate_left; (have qc0 := cell_at hSw 0; have qc1 := cell_at hSw 1; have qc2 := cell_at hSw 2; have qc3 := cell_at hSw 3; simp only [wcells_get] at qc0 qc1 qc2 qc3; go_simp; first | done | with_reducible rfl); (try simp only [Act.put, List.setIfInBounds_toArray, List.set_cons_zero, List.set_cons_succ])
      refine regA 2 33 (v := ?_) rfl rfl (by kernel_rfl) (by kernel_rfl) (by kernel_rfl) (fun _ _ _ h => h) (by rfl) (fun w => ?_) ?_; rotate_left; (go_simp; first | done | with_reducible rfl); (try simp only [Act.put, List.setIfInBounds_toArray, List.set_cons_zero, List.set_cons_succ])
      clear hS
      have hM := Mod.refl [] wq
      refine regTwo 0 7 (by kernel_rfl) rfl (by rfl) rfl (by rfl) (fun K hK => ?_) (fun K hK => ?_)
      · go_wp2_with (go_at_call 11; refine (CO.out _).mono ?_; rintro e wq1 ⟨rfl, hm⟩)
        refine hK.out _ _ (fun _ h => hm.get h (by simp)) ?_
        clear hK
        (try simp only [Act.put, List.setIfInBounds_toArray, List.set_cons_zero, List.set_cons_succ])
        have hM := hM.trans hm
        clear hm
        refine regTwo 3 7 (by kernel_rfl) rfl (by rfl) rfl (by rfl) (fun K hK => ?_) (fun K hK => ?_)
        · go_wp2_with (go_at_call 13; refine (CC.out _ _ H5.out.1 H4.out.2.1 H4.out.2.2.1 H4.out.2.2.2.1 _ _ _ (HPR.out.mod hM (by simp))).mono ?_; rintro e wq2 ⟨rfl, hm⟩)
          refine hK.out _ _ (fun _ h => hm.get h (by simp)) ?_
          clear hK
          (try simp only [Act.put, List.setIfInBounds_toArray, List.set_cons_zero, List.set_cons_succ])
          have hM := hM.trans hm
          clear hm
          refine regA 4 30 (v := ?_) rfl rfl (by kernel_rfl) (by kernel_rfl) (by kernel_rfl) (fun _ _ _ h => h) (by rfl) (fun w => ?_) ?_; rotate_left; (go_simp; first | done | with_reducible rfl); (try simp only [Act.put, List.setIfInBounds_toArray, List.set_cons_zero, List.set_cons_succ])
          refine regA 5 35 (v := ?_) rfl rfl (by kernel_rfl) (by kernel_rfl) (by kernel_rfl) (fun _ _ _ h => h) (by rfl) (fun w => ?_) ?_; rotate_left; (go_simp; first | done | with_reducible rfl); (try simp only [Act.put, List.setIfInBounds_toArray, List.set_cons_zero, List.set_cons_succ])
          refine regA 6 36 (v := ?_) rfl rfl (by kernel_rfl) (by kernel_rfl) (by kernel_rfl) (fun _ _ _ h => h) (by rfl) (fun w => ?_) ?_; rotate_left; (go_simp; first | done | with_reducible rfl); (try simp only [Act.put, List.setIfInBounds_toArray, List.set_cons_zero, List.set_cons_succ])
          refine regOnly 7 (by kernel_rfl) rfl (by rfl) (fun K hK => ?_)
          go_wp2_with fail
          refine hK.out _ _ (fun _ h => get_alloc h _) ?_
          clear hK
          (try simp only [Act.put, List.setIfInBounds_toArray, List.set_cons_zero, List.set_cons_succ])
          have gb3 : (wq2.alloc (.cells #[.int .u64 0, .int .u64 0, .int .u64 0, .int .u64 0] 26 (0, 0))).heap[wq2.heap.size]? = some (.cells (wcells [0, 0, 0, 0]) 26) := get_new wq2 _
          obtain ⟨b3, hb3⟩ : ∃ b, wq2.heap.size = b := ⟨_, rfl⟩
          have lb3 : wq.heap.size ≤ b3 := by rw [← hb3]; exact hM.size
          rw [hb3] at gb3 ⊢
          have hM : Mod [] wq (wq2.alloc (.cells #[.int .u64 0, .int .u64 0, .int .u64 0, .int .u64 0] 26 (0, 0))) := hM.alloc _
          generalize wq2.alloc (.cells #[.int .u64 0, .int .u64 0, .int .u64 0, .int .u64 0] 26 (0, 0)) = wq3 at *
          have nc0 := cell_at gb3 0; have nc1 := cell_at gb3 1; have nc2 := cell_at gb3 2; have nc3 := cell_at gb3 3; simp only [wcells_get] at nc0 nc1 nc2 nc3
          have nf0 := free_at gb3 0; have nf1 := free_at gb3 1; have nf2 := free_at gb3 2; have nf3 := free_at gb3 3
          have k3 := hid (set4_at gb3 Y 0 0 0)
          have hM9 := hid (set4_mod lb3 hM Y 0 0 0)
          clear gb3 hM
          refine regOnly 8 (by kernel_rfl) rfl (by rfl) (fun K hK => ?_)
          go_wp2_with fail
          refine hK.out _ _ (fun h _ => absurd h (by decide)) ?_
          clear hK
          (try simp only [Act.put, List.setIfInBounds_toArray, List.set_cons_zero, List.set_cons_succ])
          clear nc0 nc1 nc2 nc3
          clear nf0 nf1 nf2 nf3
          refine regA 9 10 (v := ?_) rfl rfl (by kernel_rfl) (by kernel_rfl) (by kernel_rfl) (fun _ _ _ h => h) (by rfl) (fun w => ?_) ?_; rotate_left; (go_simp; first | done | with_reducible rfl); (try simp only [Act.put, List.setIfInBounds_toArray, List.set_cons_zero, List.set_cons_succ])
          refine regAbs (fun W9 => W9.heap[b3]? = some (.cells (wcells [Y, 0, 0, 0]) 26) ∧ Mod [] wq W9) ⟨k3.out, hM9.out⟩ ?_
          rintro W10 hR
          refine regDone (by kernel_rfl) ?_ _
          exact KEY.out b3 W10 hR
        · go_wp2_with fail
          refine hK.out _ _ (fun _ h => get_alloc h _) ?_
          clear hK
          (try simp only [Act.put, List.setIfInBounds_toArray, List.set_cons_zero, List.set_cons_succ])
          have gb3 : (wq1.alloc (.cells #[.int .u64 0, .int .u64 0, .int .u64 0, .int .u64 0] 26 (0, 0))).heap[wq1.heap.size]? = some (.cells (wcells [0, 0, 0, 0]) 26) := get_new wq1 _
          obtain ⟨b3, hb3⟩ : ∃ b, wq1.heap.size = b := ⟨_, rfl⟩
          have lb3 : wq.heap.size ≤ b3 := by rw [← hb3]; exact hM.size
          rw [hb3] at gb3 ⊢
          have hM : Mod [] wq (wq1.alloc (.cells #[.int .u64 0, .int .u64 0, .int .u64 0, .int .u64 0] 26 (0, 0))) := hM.alloc _
          generalize wq1.alloc (.cells #[.int .u64 0, .int .u64 0, .int .u64 0, .int .u64 0] 26 (0, 0)) = wq2 at *
          refine regOnly 3 (by kernel_rfl) rfl (by rfl) (fun K hK => ?_)
          go_wp2_with (go_at_call 13; refine (CC.out _ _ H5.out.1 H4.out.2.1 H4.out.2.2.1 H4.out.2.2.2.1 _ _ _ (HPR.out.mod hM (by simp))).mono ?_; rintro e wq3 ⟨rfl, hm⟩)
          refine hK.out _ _ (fun _ h => hm.get h (by simp)) ?_
          clear hK
          (try simp only [Act.put, List.setIfInBounds_toArray, List.set_cons_zero, List.set_cons_succ])
          have gb3 := hm.get gb3 (by simp)
          have hM := hM.trans hm
          clear hm
          refine regA 4 30 (v := ?_) rfl rfl (by kernel_rfl) (by kernel_rfl) (by kernel_rfl) (fun _ _ _ h => h) (by rfl) (fun w => ?_) ?_; rotate_left; (go_simp; first | done | with_reducible rfl); (try simp only [Act.put, List.setIfInBounds_toArray, List.set_cons_zero, List.set_cons_succ])
          refine regA 5 35 (v := ?_) rfl rfl (by kernel_rfl) (by kernel_rfl) (by kernel_rfl) (fun _ _ _ h => h) (by rfl) (fun w => ?_) ?_; rotate_left; (go_simp; first | done | with_reducible rfl); (try simp only [Act.put, List.setIfInBounds_toArray, List.set_cons_zero, List.set_cons_succ])
          refine regA 6 36 (v := ?_) rfl rfl (by kernel_rfl) (by kernel_rfl) (by kernel_rfl) (fun _ _ _ h => h) (by rfl) (fun w => ?_) ?_; rotate_left; (go_simp; first | done | with_reducible rfl); (try simp only [Act.put, List.setIfInBounds_toArray, List.set_cons_zero, List.set_cons_succ])
          have nc0 := cell_at gb3 0; have nc1 := cell_at gb3 1; have nc2 := cell_at gb3 2; have nc3 := cell_at gb3 3; simp only [wcells_get] at nc0 nc1 nc2 nc3
          have nf0 := free_at gb3 0; have nf1 := free_at gb3 1; have nf2 := free_at gb3 2; have nf3 := free_at gb3 3
          have k3 := hid (set4_at gb3 Y 0 0 0)
          have hM9 := hid (set4_mod lb3 hM Y 0 0 0)
          clear gb3 hM
          refine regOnly 8 (by kernel_rfl) rfl (by rfl) (fun K hK => ?_)
          go_wp2_with fail
          refine hK.out _ _ (fun h _ => absurd h (by decide)) ?_
          clear hK
          (try simp only [Act.put, List.setIfInBounds_toArray, List.set_cons_zero, List.set_cons_succ])
          clear nc0 nc1 nc2 nc3
          clear nf0 nf1 nf2 nf3
          refine regA 9 10 (v := ?_) rfl rfl (by kernel_rfl) (by kernel_rfl) (by kernel_rfl) (fun _ _ _ h => h) (by rfl) (fun w => ?_) ?_; rotate_left; (go_simp; first | done | with_reducible rfl); (try simp only [Act.put, List.setIfInBounds_toArray, List.set_cons_zero, List.set_cons_succ])
          refine regAbs (fun W9 => W9.heap[b3]? = some (.cells (wcells [Y, 0, 0, 0]) 26) ∧ Mod [] wq W9) ⟨k3.out, hM9.out⟩ ?_
          rintro W10 hR
          refine regDone (by kernel_rfl) ?_ _
          exact KEY.out b3 W10 hR
      · go_wp2_with fail
        refine hK.out _ _ (fun _ h => get_alloc h _) ?_
        clear hK
        (try simp only [Act.put, List.setIfInBounds_toArray, List.set_cons_zero, List.set_cons_succ])
        have gb3 : (wq.alloc (.cells #[.int .u64 0, .int .u64 0, .int .u64 0, .int .u64 0] 26 (0, 0))).heap[wq.heap.size]? = some (.cells (wcells [0, 0, 0, 0]) 26) := get_new wq _
        obtain ⟨b3, hb3⟩ : ∃ b, wq.heap.size = b := ⟨_, rfl⟩
        have lb3 : wq.heap.size ≤ b3 := by rw [← hb3]; exact hM.size
        rw [hb3] at gb3 ⊢
        have hM : Mod [] wq (wq.alloc (.cells #[.int .u64 0, .int .u64 0, .int .u64 0, .int .u64 0] 26 (0, 0))) := hM.alloc _
        generalize wq.alloc (.cells #[.int .u64 0, .int .u64 0, .int .u64 0, .int .u64 0] 26 (0, 0)) = wq1 at *
        refine regOnly 0 (by kernel_rfl) rfl (by rfl) (fun K hK => ?_)
        go_wp2_with (go_at_call 11; refine (CO.out _).mono ?_; rintro e wq2 ⟨rfl, hm⟩)
        refine hK.out _ _ (fun _ h => hm.get h (by simp)) ?_
        clear hK
        (try simp only [Act.put, List.setIfInBounds_toArray, List.set_cons_zero, List.set_cons_succ])
        have gb3 := hm.get gb3 (by simp)
        have hM := hM.trans hm
        clear hm
        refine regOnly 3 (by kernel_rfl) rfl (by rfl) (fun K hK => ?_)
        go_wp2_with (go_at_call 13; refine (CC.out _ _ H5.out.1 H4.out.2.1 H4.out.2.2.1 H4.out.2.2.2.1 _ _ _ (HPR.out.mod hM (by simp))).mono ?_; rintro e wq3 ⟨rfl, hm⟩)
        refine hK.out _ _ (fun _ h => hm.get h (by simp)) ?_
        clear hK
        (try simp only [Act.put, List.setIfInBounds_toArray, List.set_cons_zero, List.set_cons_succ])
        have gb3 := hm.get gb3 (by simp)
        have hM := hM.trans hm
        clear hm
        refine regA 4 30 (v := ?_) rfl rfl (by kernel_rfl) (by kernel_rfl) (by kernel_rfl) (fun _ _ _ h => h) (by rfl) (fun w => ?_) ?_; rotate_left; (go_simp; first | done | with_reducible rfl); (try simp only [Act.put, List.setIfInBounds_toArray, List.set_cons_zero, List.set_cons_succ])
        refine regA 5 35 (v := ?_) rfl rfl (by kernel_rfl) (by kernel_rfl) (by kernel_rfl) (fun _ _ _ h => h) (by rfl) (fun w => ?_) ?_; rotate_left; (go_simp; first | done | with_reducible rfl); (try simp only [Act.put, List.setIfInBounds_toArray, List.set_cons_zero, List.set_cons_succ])
        refine regA 6 36 (v := ?_) rfl rfl (by kernel_rfl) (by kernel_rfl) (by kernel_rfl) (fun _ _ _ h => h) (by rfl) (fun w => ?_) ?_; rotate_left; (go_simp; first | done | with_reducible rfl); (try simp only [Act.put, List.setIfInBounds_toArray, List.set_cons_zero, List.set_cons_succ])
        have nc0 := cell_at gb3 0; have nc1 := cell_at gb3 1; have nc2 := cell_at gb3 2; have nc3 := cell_at gb3 3; simp only [wcells_get] at nc0 nc1 nc2 nc3
        have nf0 := free_at gb3 0; have nf1 := free_at gb3 1; have nf2 := free_at gb3 2; have nf3 := free_at gb3 3
        have k3 := hid (set4_at gb3 Y 0 0 0)
        have hM9 := hid (set4_mod lb3 hM Y 0 0 0)
        clear gb3 hM
        refine regOnly 8 (by kernel_rfl) rfl (by rfl) (fun K hK => ?_)
        go_wp2_with fail
        refine hK.out _ _ (fun h _ => absurd h (by decide)) ?_
        clear hK
        (try simp only [Act.put, List.setIfInBounds_toArray, List.set_cons_zero, List.set_cons_succ])
        clear nc0 nc1 nc2 nc3
        clear nf0 nf1 nf2 nf3
        refine regA 9 10 (v := ?_) rfl rfl (by kernel_rfl) (by kernel_rfl) (by kernel_rfl) (fun _ _ _ h => h) (by rfl) (fun w => ?_) ?_; rotate_left; (go_simp; first | done | with_reducible rfl); (try simp only [Act.put, List.setIfInBounds_toArray, List.set_cons_zero, List.set_cons_succ])
        refine regAbs (fun W9 => W9.heap[b3]? = some (.cells (wcells [Y, 0, 0, 0]) 26) ∧ Mod [] wq W9) ⟨k3.out, hM9.out⟩ ?_
        rintro W10 hR
        refine regDone (by kernel_rfl) ?_ _
        exact KEY.out b3 W10 hR
    · rintro b3 W7 ⟨g3, hm7⟩
      go_upto_region 8 with fail
      have hS : W7.drew.heap[t5]? = some (.cells (wcells [x0, x1, x2, x3]) 26) := (hm7.drew).get HS.out (by simp)
      have hmw : Mod [] W7 W7.drew := (Mod.refl _ _).drew
      have HRO := hid (HRW.out.mod ((HMW.out.trans hm7).trans hmw) (by simp))
      refine wp_region_N (fun w' : World => w'.heap[t5]? = some (.cells (wcells [x0, x1, x2, x3]) 26)) (fun i => !(i == 8 || i == 9)) (by kernel_rfl) ?_
      generalize W7.drew = wr at *
      have HS2 := hid hS
      have HMR := hid (And.intro (hmw.get g3 (by simp)) ((((HB.out.2.trans H2.out).trans HMW.out).trans hm7).trans hmw))
      clear hS hmw g3 hm7
      apply merge1 (R := fun b4 W9 => W9.heap[b4]? = some (.cells (wcells [Y, 0, 0, 0]) 26) ∧ Mod [] wr W9)
      · intro key
        have KEY := hid key
        clear key
        have hS := HS2.out
        refine regS 2 40 (v := ?_) hS rfl rfl (by kernel_rfl) (by kernel_rfl) (by kernel_rfl) (by kernel_rfl) (fun _ _ _ h => h) (by rfl) (fun w hSw => ?_) ?_; rotate_left; (have qc0 := cell_at hSw 0; have qc1 := cell_at hSw 1; have qc2 := cell_at hSw 2; have qc3 := cell_at hSw 3; simp only [wcells_get] at qc0 qc1 qc2 qc3; go_simp; first | done | with_reducible rfl); (try simp only [Act.put, List.setIfInBounds_toArray, List.set_cons_zero, List.set_cons_succ])
        refine regA 1 39 (v := ?_) rfl rfl (by kernel_rfl) (by kernel_rfl) (by kernel_rfl) (fun _ _ _ h => h) (by rfl) (fun w => ?_) ?_; rotate_left; (go_simp; first | done | with_reducible rfl); (try simp only [Act.put, List.setIfInBounds_toArray, List.set_cons_zero, List.set_cons_succ])
        clear hS
        have hM := Mod.refl [] wr
        refine regTwo 0 7 (by kernel_rfl) rfl (by rfl) rfl (by rfl) (fun K hK => ?_) (fun K hK => ?_)
        · go_wp2_with (go_at_call 11; refine (CO.out _).mono ?_; rintro e wr1 ⟨rfl, hm⟩)
          refine hK.out _ _ (fun _ h => hm.get h (by simp)) ?_
          clear hK
          (try simp only [Act.put, List.setIfInBounds_toArray, List.set_cons_zero, List.set_cons_succ])
          have hM := hM.trans hm
          clear hm
          refine regTwo 3 7 (by kernel_rfl) rfl (by rfl) rfl (by rfl) (fun K hK => ?_) (fun K hK => ?_)
          · go_wp2_with (go_at_call 14; refine (CE.out _ _ _ (HRO.out.mod hM (by simp))).mono ?_; rintro e wr2 ⟨rfl, hm⟩)
            refine hK.out _ _ (fun _ h => hm.get h (by simp)) ?_
            clear hK
            (try simp only [Act.put, List.setIfInBounds_toArray, List.set_cons_zero, List.set_cons_succ])
            have hM := hM.trans hm
            clear hm
            refine regA 4 37 (v := ?_) rfl rfl (by kernel_rfl) (by kernel_rfl) (by kernel_rfl) (fun _ _ _ h => h) (by rfl) (fun w => ?_) ?_; rotate_left; (go_simp; first | done | with_reducible rfl); (try simp only [Act.put, List.setIfInBounds_toArray, List.set_cons_zero, List.set_cons_succ])
            refine regA 5 42 (v := ?_) rfl rfl (by kernel_rfl) (by kernel_rfl) (by kernel_rfl) (fun _ _ _ h => h) (by rfl) (fun w => ?_) ?_; rotate_left; (go_simp; first | done | with_reducible rfl); (try simp only [Act.put, List.setIfInBounds_toArray, List.set_cons_zero, List.set_cons_succ])
            refine regA 6 43 (v := ?_) rfl rfl (by kernel_rfl) (by kernel_rfl) (by kernel_rfl) (fun _ _ _ h => h) (by rfl) (fun w => ?_) ?_; rotate_left; (go_simp; first | done | with_reducible rfl); (try simp only [Act.put, List.setIfInBounds_toArray, List.set_cons_zero, List.set_cons_succ])
            refine regOnly 7 (by kernel_rfl) rfl (by rfl) (fun K hK => ?_)
            go_wp2_with fail
            refine hK.out _ _ (fun _ h => get_alloc h _) ?_
            clear hK
            (try simp only [Act.put, List.setIfInBounds_toArray, List.set_cons_zero, List.set_cons_succ])
            have gb4 : (wr2.alloc (.cells #[.int .u64 0, .int .u64 0, .int .u64 0, .int .u64 0] 26 (0, 0))).heap[wr2.heap.size]? = some (.cells (wcells [0, 0, 0, 0]) 26) := get_new wr2 _
            obtain ⟨b4, hb4⟩ : ∃ b, wr2.heap.size = b := ⟨_, rfl⟩
            have lb4 : wr.heap.size ≤ b4 := by rw [← hb4]; exact hM.size
            rw [hb4] at gb4 ⊢
            have hM : Mod [] wr (wr2.alloc (.cells #[.int .u64 0, .int .u64 0, .int .u64 0, .int .u64 0] 26 (0, 0))) := hM.alloc _
            generalize wr2.alloc (.cells #[.int .u64 0, .int .u64 0, .int .u64 0, .int .u64 0] 26 (0, 0)) = wr3 at *
            have nc0 := cell_at gb4 0; have nc1 := cell_at gb4 1; have nc2 := cell_at gb4 2; have nc3 := cell_at gb4 3; simp only [wcells_get] at nc0 nc1 nc2 nc3
            have nf0 := free_at gb4 0; have nf1 := free_at gb4 1; have nf2 := free_at gb4 2; have nf3 := free_at gb4 3
            have k3 := hid (set4_at gb4 Y 0 0 0)
            have hM9 := hid (set4_mod lb4 hM Y 0 0 0)
            clear gb4 hM
            refine regOnly 8 (by kernel_rfl) rfl (by rfl) (fun K hK => ?_)
            go_wp2_with fail
            refine hK.out _ _ (fun h _ => absurd h (by decide)) ?_
            clear hK
            (try simp only [Act.put, List.setIfInBounds_toArray, List.set_cons_zero, List.set_cons_succ])
            clear nc0 nc1 nc2 nc3
            clear nf0 nf1 nf2 nf3
            refine regA 9 12 (v := ?_) rfl rfl (by kernel_rfl) (by kernel_rfl) (by kernel_rfl) (fun _ _ _ h => h) (by rfl) (fun w => ?_) ?_; rotate_left; (go_simp; first | done | with_reducible rfl); (try simp only [Act.put, List.setIfInBounds_toArray, List.set_cons_zero, List.set_cons_succ])
            refine regAbs (fun W9 => W9.heap[b4]? = some (.cells (wcells [Y, 0, 0, 0]) 26) ∧ Mod [] wr W9) ⟨k3.out, hM9.out⟩ ?_
            rintro W10 hR
            refine regDone (by kernel_rfl) ?_ _
            exact KEY.out b4 W10 hR
          · go_wp2_with fail
            refine hK.out _ _ (fun _ h => get_alloc h _) ?_
            clear hK
            (try simp only [Act.put, List.setIfInBounds_toArray, List.set_cons_zero, List.set_cons_succ])
            have gb4 : (wr1.alloc (.cells #[.int .u64 0, .int .u64 0, .int .u64 0, .int .u64 0] 26 (0, 0))).heap[wr1.heap.size]? = some (.cells (wcells [0, 0, 0, 0]) 26) := get_new wr1 _
            obtain ⟨b4, hb4⟩ : ∃ b, wr1.heap.size = b := ⟨_, rfl⟩
            have lb4 : wr.heap.size ≤ b4 := by rw [← hb4]; exact hM.size
            rw [hb4] at gb4 ⊢
            have hM : Mod [] wr (wr1.alloc (.cells #[.int .u64 0, .int .u64 0, .int .u64 0, .int .u64 0] 26 (0, 0))) := hM.alloc _
            generalize wr1.alloc (.cells #[.int .u64 0, .int .u64 0, .int .u64 0, .int .u64 0] 26 (0, 0)) = wr2 at *
            refine regOnly 3 (by kernel_rfl) rfl (by rfl) (fun K hK => ?_)
            go_wp2_with (go_at_call 14; refine (CE.out _ _ _ (HRO.out.mod hM (by simp))).mono ?_; rintro e wr3 ⟨rfl, hm⟩)
            refine hK.out _ _ (fun _ h => hm.get h (by simp)) ?_
            clear hK
            (try simp only [Act.put, List.setIfInBounds_toArray, List.set_cons_zero, List.set_cons_succ])
            have gb4 := hm.get gb4 (by simp)
            have hM := hM.trans hm
            clear hm
            refine regA 4 37 (v := ?_) rfl rfl (by kernel_rfl) (by kernel_rfl) (by kernel_rfl) (fun _ _ _ h => h) (by rfl) (fun w => ?_) ?_; rotate_left; (go_simp; first | done | with_reducible rfl); (try simp only [Act.put, List.setIfInBounds_toArray, List.set_cons_zero, List.set_cons_succ])
            refine regA 5 42 (v := ?_) rfl rfl (by kernel_rfl) (by kernel_rfl) (by kernel_rfl) (fun _ _ _ h => h) (by rfl) (fun w => ?_) ?_; rotate_left; (go_simp; first | done | with_reducible rfl); (try simp only [Act.put, List.setIfInBounds_toArray, List.set_cons_zero, List.set_cons_succ])
            refine regA 6 43 (v := ?_) rfl rfl (by kernel_rfl) (by kernel_rfl) (by kernel_rfl) (fun _ _ _ h => h) (by rfl) (fun w => ?_) ?_; rotate_left; (go_simp; first | done | with_reducible rfl); (try simp only [Act.put, List.setIfInBounds_toArray, List.set_cons_zero, List.set_cons_succ])
            have nc0 := cell_at gb4 0; have nc1 := cell_at gb4 1; have nc2 := cell_at gb4 2; have nc3 := cell_at gb4 3; simp only [wcells_get] at nc0 nc1 nc2 nc3
            have nf0 := free_at gb4 0; have nf1 := free_at gb4 1; have nf2 := free_at gb4 2; have nf3 := free_at gb4 3
            have k3 := hid (set4_at gb4 Y 0 0 0)
            have hM9 := hid (set4_mod lb4 hM Y 0 0 0)
            clear gb4 hM
            refine regOnly 8 (by kernel_rfl) rfl (by rfl) (fun K hK => ?_)
            go_wp2_with fail
            refine hK.out _ _ (fun h _ => absurd h (by decide)) ?_
            clear hK
            (try simp only [Act.put, List.setIfInBounds_toArray, List.set_cons_zero, List.set_cons_succ])
            clear nc0 nc1 nc2 nc3
            clear nf0 nf1 nf2 nf3
            refine regA 9 12 (v := ?_) rfl rfl (by kernel_rfl) (by kernel_rfl) (by kernel_rfl) (fun _ _ _ h => h) (by rfl) (fun w => ?_) ?_; rotate_left; (go_simp; first | done | with_reducible rfl); (try simp only [Act.put, List.setIfInBounds_toArray, List.set_cons_zero, List.set_cons_succ])
            refine regAbs (fun W9 => W9.heap[b4]? = some (.cells (wcells [Y, 0, 0, 0]) 26) ∧ Mod [] wr W9) ⟨k3.out, hM9.out⟩ ?_
            rintro W10 hR
            refine regDone (by kernel_rfl) ?_ _
            exact KEY.out b4 W10 hR
        · go_wp2_with fail
          refine hK.out _ _ (fun _ h => get_alloc h _) ?_
          clear hK
          (try simp only [Act.put, List.setIfInBounds_toArray, List.set_cons_zero, List.set_cons_succ])
          have gb4 : (wr.alloc (.cells #[.int .u64 0, .int .u64 0, .int .u64 0, .int .u64 0] 26 (0, 0))).heap[wr.heap.size]? = some (.cells (wcells [0, 0, 0, 0]) 26) := get_new wr _
          obtain ⟨b4, hb4⟩ : ∃ b, wr.heap.size = b := ⟨_, rfl⟩
          have lb4 : wr.heap.size ≤ b4 := by rw [← hb4]; exact hM.size
          rw [hb4] at gb4 ⊢
          have hM : Mod [] wr (wr.alloc (.cells #[.int .u64 0, .int .u64 0, .int .u64 0, .int .u64 0] 26 (0, 0))) := hM.alloc _
          generalize wr.alloc (.cells #[.int .u64 0, .int .u64 0, .int .u64 0, .int .u64 0] 26 (0, 0)) = wr1 at *
          refine regOnly 0 (by kernel_rfl) rfl (by rfl) (fun K hK => ?_)
          go_wp2_with (go_at_call 11; refine (CO.out _).mono ?_; rintro e wr2 ⟨rfl, hm⟩)
          refine hK.out _ _ (fun _ h => hm.get h (by simp)) ?_
          clear hK
          (try simp only [Act.put, List.setIfInBounds_toArray, List.set_cons_zero, List.set_cons_succ])
          have gb4 := hm.get gb4 (by simp)
          have hM := hM.trans hm
          clear hm
          refine regOnly 3 (by kernel_rfl) rfl (by rfl) (fun K hK => ?_)
          go_wp2_with (go_at_call 14; refine (CE.out _ _ _ (HRO.out.mod hM (by simp))).mono ?_; rintro e wr3 ⟨rfl, hm⟩)
          refine hK.out _ _ (fun _ h => hm.get h (by simp)) ?_
          clear hK
          (try simp only [Act.put, List.setIfInBounds_toArray, List.set_cons_zero, List.set_cons_succ])
          have gb4 := hm.get gb4 (by simp)
          have hM := hM.trans hm
          clear hm
          refine regA 4 37 (v := ?_) rfl rfl (by kernel_rfl) (by kernel_rfl) (by kernel_rfl) (fun _ _ _ h => h) (by rfl) (fun w => ?_) ?_; rotate_left; (go_simp; first | done | with_reducible rfl); (try simp only [Act.put, List.setIfInBounds_toArray, List.set_cons_zero, List.set_cons_succ])
          refine regA 5 42 (v := ?_) rfl rfl (by kernel_rfl) (by kernel_rfl) (by kernel_rfl) (fun _ _ _ h => h) (by rfl) (fun w => ?_) ?_; rotate_left; (go_simp; first | done | with_reducible rfl); (try simp only [Act.put, List.setIfInBounds_toArray, List.set_cons_zero, List.set_cons_succ])
          refine regA 6 43 (v := ?_) rfl rfl (by kernel_rfl) (by kernel_rfl) (by kernel_rfl) (fun _ _ _ h => h) (by rfl) (fun w => ?_) ?_; rotate_left; (go_simp; first | done | with_reducible rfl); (try simp only [Act.put, List.setIfInBounds_toArray, List.set_cons_zero, List.set_cons_succ])
          have nc0 := cell_at gb4 0; have nc1 := cell_at gb4 1; have nc2 := cell_at gb4 2; have nc3 := cell_at gb4 3; simp only [wcells_get] at nc0 nc1 nc2 nc3
          have nf0 := free_at gb4 0; have nf1 := free_at gb4 1; have nf2 := free_at gb4 2; have nf3 := free_at gb4 3
          have k3 := hid (set4_at gb4 Y 0 0 0)
          have hM9 := hid (set4_mod lb4 hM Y 0 0 0)
          clear gb4 hM
          refine regOnly 8 (by kernel_rfl) rfl (by rfl) (fun K hK => ?_)
          go_wp2_with fail
          refine hK.out _ _ (fun h _ => absurd h (by decide)) ?_
          clear hK
          (try simp only [Act.put, List.setIfInBounds_toArray, List.set_cons_zero, List.set_cons_succ])
          clear nc0 nc1 nc2 nc3
          clear nf0 nf1 nf2 nf3
          refine regA 9 12 (v := ?_) rfl rfl (by kernel_rfl) (by kernel_rfl) (by kernel_rfl) (fun _ _ _ h => h) (by rfl) (fun w => ?_) ?_; rotate_left; (go_simp; first | done | with_reducible rfl); (try simp only [Act.put, List.setIfInBounds_toArray, List.set_cons_zero, List.set_cons_succ])
          refine regAbs (fun W9 => W9.heap[b4]? = some (.cells (wcells [Y, 0, 0, 0]) 26) ∧ Mod [] wr W9) ⟨k3.out, hM9.out⟩ ?_
          rintro W10 hR
          refine regDone (by kernel_rfl) ?_ _
          exact KEY.out b4 W10 hR
      · rintro b4 W8 ⟨g4, hm8⟩
        have g3 := hm8.get HMR.out.1 (by simp)
        have yc0 := cell_at g3 0; have yc1 := cell_at g3 1; have yc2 := cell_at g3 2; have yc3 := cell_at g3 3; simp only [wcells_get] at yc0 yc1 yc2 yc3
        have zc0 := cell_at g4 0; have zc1 := cell_at g4 1; have zc2 := cell_at g4 2; have zc3 := cell_at g4 3; simp only [wcells_get] at zc0 zc1 zc2 zc3
        have HMF := hid (HMR.out.2.trans hm8)
        have Q : ∀ W : World, (Op.equalIn 10000 26 (.agg #[.int .u64 (Y : Int), .int .u64 0, .int .u64 0, .int .u64 0]) (.agg #[.int .u64 (Y : Int), .int .u64 0, .int .u64 0, .int .u64 0])).run Tryd.prog W = .ok true W := fun W => q_sameB HY.out W
        clear g3 g4 hm8
        go_wp2_with fail
        exact bodyPost_ret (v := .bool true) (by simp [results, Tryd.results3, go_sem]) rfl ⟨rfl, HMF.out⟩
end Go.Proofs.YtdgmnhiffoemmaaDoor
