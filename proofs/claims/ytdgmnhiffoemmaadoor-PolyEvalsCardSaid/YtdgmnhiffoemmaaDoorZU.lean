/-
  PolyEvals, walked. No statement of a claim stands here; each contract names what it asks.
-/
import Derived.Test.YtdgmnhiffoemmaaDoorGJ
import Derived.Test.YtdgmnhiffoemmaaDoorYU
set_option linter.unusedSimpArgs false
namespace Go.Proofs.YtdgmnhiffoemmaaDoor
open Go Go.RowKit Go.ChangeMaps

theorem slice_any {P : Program} {t e : TypeId} (ht : P.underlying t = some (.slice e)) {i : TypeInfo} (hi : P.info? e = some i) (a : Option Addr) (n cap k : Nat) (hk : k ≤ cap) (hn : a = none → n = 0 ∧ cap = 0) (w : World) :
    (Instr.slice t (.slice a n cap) none (some (.int .i64 (k : Int))) none).run P w = .ok (.slice a k cap) w := by
  cases a with
  | some ad => exact slice_toA ht hi ad n cap k hk w
  | none =>
    obtain ⟨rfl, rfl⟩ := hn rfl
    obtain rfl : k = 0 := by omega
    have h1 : (Instr.sliceBound (.int .i64 ((0 : Nat) : Int)) 0 .sliceAcap).run P w = .ok 0 w := by rw [run_sliceBound _ _ _ _ _ (by omega) (by omega)]; simp
    rw [show ((0 : Nat) : Int) = 0 from rfl] at h1
    simp [Instr.slice, run_underlying ht, Instr.sliceBounds, h1, sizeOf, typeInfo, hi]

set_option maxRecDepth 100000 in
set_option maxHeartbeats 8000000 in
theorem evals_law {q x : Nat} (hq : q < NN) (hx : x < NN) (l1 : List Nat) (hl1 : l1.length ≤ maxLen) (hN1 : ∀ n ∈ l1, n < NN) (a1 : Option Addr) (c1 : Nat) (hc1 : l1.length ≤ c1) (hn1 : a1 = none → l1 = [] ∧ c1 = 0)
    (l2 : List Nat) (hl2 : l2.length ≤ maxLen) (hN2 : ∀ n ∈ l2, n < NN) (a2 : Option Addr) (c2 : Nat) (hc2 : l2.length ≤ c2) (hn2 : a2 = none → l2 = [] ∧ c2 = 0)
    (xl : List Int) (hxl : xl.length ≤ maxLen) (hxs : ∀ x ∈ xl, x < 9223372036854775808) (ax : Option Addr) (cx : Nat) (hcx : xl.length ≤ cx) (hnx : ax = none → xl = [] ∧ cx = 0) (w : World) (h1 : NatsArg w a1 l1) (h2 : NatsArg w a2 l2) (h3 : IntsArg w ax xl) :
    Calls Tryd.prog 5 #[nv q, .slice a1 l1.length c1, .slice a2 l2.length c2, nv x, .slice ax xl.length cx] w fun e w' => e = .returned (.bool true) ∧ Mod [] w w' := by
  have hla : ∀ n ∈ l1.take 12, n < NN := fun n hn => hN1 n (List.mem_of_mem_take hn)
  have hlb : ∀ n ∈ l2.take 12, n < NN := fun n hn => hN2 n (List.mem_of_mem_take hn)
  have hxt : ∀ x ∈ xl.take 12, x < 9223372036854775808 := fun n hn => hxs n (List.mem_of_mem_take hn)
  have hla12 : (l1.take 12).length ≤ 12 := by rw [List.length_take]; omega
  have hlb12 : (l2.take 12).length ≤ 12 := by rw [List.length_take]; omega
  have hxt12 : (xl.take 12).length ≤ 12 := by rw [List.length_take]; omega
  have kmin : min (xl.length : Int) 12 = ((xl.take 12).length : Int) := by rw [List.length_take]; omega
  have hcx2 : (xl.take 12).length ≤ cx := by rw [List.length_take]; omega
  obtain ⟨iI, hiI⟩ := Option.isSome_iff_exists.1 (show (Tryd.prog.info? 3).isSome = true by kernel_rfl)
  have hsl := fun W => slice_any (P := Tryd.prog) Tryd.underlying23 hiI ax xl.length cx (xl.take 12).length hcx2 (fun h => ⟨by rw [(hnx h).1]; rfl, (hnx h).2⟩) W
  have h3 := h3.take 12
  have hnx2 : ax = none → xl.take 12 = [] ∧ cx = 0 := fun h => ⟨by rw [(hnx h).1]; rfl, (hnx h).2⟩
  obtain ⟨y, ee, hyN, cE, cR⟩ := eval_both hq hx _ hla hla12
  obtain ⟨ps, ep, hps, hpsN, cP, cQ⟩ := points_both hq _ hla hla12 _ hxt hxt12
  obtain ⟨s, ea, hs, hsN, cA, cB⟩ := add_both hq _ _ hla hlb hla12 hlb12
  have CW : Hid (∀ W : World, _) := fun W => works_any W
  have CF1 : Hid (∀ (W : World) (h : NatsArg W a1 l1), _) := fun W h => few_first l1 hl1 a1 c1 hc1 hn1 W h
  have CF2 : Hid (∀ (W : World) (h : NatsArg W a2 l2), _) := fun W h => few_first l2 hl2 a2 c2 hc2 hn2 W h
  have CFA : Hid (∀ (a : Option Addr) (c : Nat) (hc : (l1.take 12).length ≤ c) (hn : a = none → l1.take 12 = [] ∧ c = 0) (W : World) (h : RowArg W a (l1.take 12)), _) := fun a c hc hn W h => few_row _ hla12 a c hc hn W h
  have CFB : Hid (∀ (a : Option Addr) (c : Nat) (hc : (l2.take 12).length ≤ c) (hn : a = none → l2.take 12 = [] ∧ c = 0) (W : World) (h : RowArg W a (l2.take 12)), _) := fun a c hc hn W h => few_row _ hlb12 a c hc hn W h
  have CI : Hid (∀ (W : World) (h : IntsArg W ax (xl.take 12)), _) := fun W h => ints_row _ hxt12 ax cx hnx2 W h
  have qy := fun W => equalIn_nv hyN hyN W
  rw [decide_eq_true rfl] at qy
  obtain ⟨z0, z1, z2, z3, hz⟩ := nv_lit q
  obtain ⟨x0, x1, x2, x3, hxx⟩ := nv_lit x
  obtain ⟨y0, y1, y2, y3, hyy⟩ := nv_lit y
  rw [hz] at cE cR cP cQ cA cB
  rw [hxx] at cE cR
  rw [hyy] at cE cR qy
  rw [hz, hxx]
  unfold lit4 at *
  have CE := hid cE
  have CR := hid cR
  have CP := hid cP
  have CQ := hid cQ
  have CA := hid cA
  have CB := hid cB
  have QY := hid qy
  have HX := hid (And.intro h1 (And.intro h2 h3))
  have HP := hid (And.intro hps (And.intro hpsN (And.intro hs hsN)))
  generalize l1.take 12 = la at *
  generalize l2.take 12 = lb at *
  generalize xl.take 12 = xs at *
  clear h1 h2 h3 cE cR cP cQ cA cB qy hz hxx hyy hps hpsN hs hsN hyN hla hlb hxt hN1 hN2 hxs hl1 hl2 hxl hc1 hc2 hcx hn1 hn2 hnx hnx2 hcx2 hla12 hlb12 hxt12 hiI hq hx
  have HSL := hid hsl
  clear hsl
  go_enter Tryd.func5, Tryd.ntmps5
  go_upto_region 1 with fail
  refine wp_abs (fun W => W.heap[w.heap.size]? = some (.cells (wcells [z0, z1, z2, z3]) 26) ∧ W.heap[w.heap.size + 1]? = some (.cells (wcells [x0, x1, x2, x3]) 26) ∧ Mod [] w W) (two_news w _ _) ?_
  rintro W ⟨g5, g8, hm0⟩
  generalize w.heap.size = t5 at *
  generalize t5 + 1 = t8 at *
  have hmw : Mod [] W W.drew := (Mod.refl _ _).drew
  have HB := hid (And.intro (hmw.get g5 (by simp)) (And.intro (hmw.get g8 (by simp)) (hm0.trans hmw)))
  clear g5 g8 hm0 hmw
  refine wp_region_N (fun _ => True) (fun i => !(i == 1 || i == 3)) (by kernel_rfl) ?_
  generalize W.drew = wq at *
  have hM := Mod.refl [] wq
  refine regA 0 24 (v := ?_) rfl rfl (by kernel_rfl) (by kernel_rfl) (by kernel_rfl) (fun _ _ _ h => h) (by rfl) (fun w => ?_) ?_; rotate_left; (go_simp; first | done | with_reducible rfl); (try simp only [Act.put, List.setIfInBounds_toArray, List.set_cons_zero, List.set_cons_succ])
  refine regA 2 26 (v := ?_) rfl rfl (by kernel_rfl) (by kernel_rfl) (by kernel_rfl) (fun _ _ _ h => h) (by rfl) (fun w => ?_) ?_; rotate_left; (go_simp; first | done | with_reducible rfl); (try simp only [Act.put, List.setIfInBounds_toArray, List.set_cons_zero, List.set_cons_succ])
  refine regA 4 28 (v := ?_) rfl rfl (by kernel_rfl) (by kernel_rfl) (by kernel_rfl) (fun _ _ _ h => h) (by rfl) (fun w => ?_) ?_; rotate_left; (go_simp; first | done | with_reducible rfl); (try simp only [Act.put, List.setIfInBounds_toArray, List.set_cons_zero, List.set_cons_succ])
  refine regA 5 29 (v := ?_) rfl rfl (by kernel_rfl) (by kernel_rfl) (by kernel_rfl) (fun _ _ _ h => h) (by rfl) (fun w => ?_) ?_; rotate_left; (go_simp; first | done | with_reducible rfl); (try simp only [Act.put, List.setIfInBounds_toArray, List.set_cons_zero, List.set_cons_succ])
  refine regA 6 30 (v := ?_) rfl rfl (by kernel_rfl) (by kernel_rfl) (by kernel_rfl) (fun _ _ _ h => h) (by rfl) (fun w => ?_) ?_; rotate_left; (go_simp; first | done | with_reducible rfl); (try simp only [Act.put, List.setIfInBounds_toArray, List.set_cons_zero, List.set_cons_succ])
  refine regA 7 31 (v := .int .i64 (xs.length : Int)) rfl rfl (by kernel_rfl) (by kernel_rfl) (by kernel_rfl) (fun _ _ _ h => h) (by rfl) (fun w => ?_) ?_
  · go_simp
  (try simp only [Act.put, List.setIfInBounds_toArray, List.set_cons_zero, List.set_cons_succ])
  refine regA 8 32 (v := .slice ax xs.length cx) rfl rfl (by kernel_rfl) (by kernel_rfl) (by kernel_rfl) (fun _ _ _ h => h) (by rfl) (fun w => ?_) ?_
  · have hk := HSL.out w
    go_simp
  (try simp only [Act.put, List.setIfInBounds_toArray, List.set_cons_zero, List.set_cons_succ])
  refine regOnly 1 (by kernel_rfl) rfl (by rfl) (fun K hK => ?_)
  go_wp2_with (go_at_call 9; refine (CF1.out _ (HX.out.1.mod (HB.out.2.2.trans hM))).mono ?_; rintro e wq1 ⟨⟨b1, d1, rfl, hr1, hc1, hn1⟩, hm⟩)
  refine hK.out _ _ (fun _ h => trivial) ?_
  clear hK
  (try simp only [Act.put, List.setIfInBounds_toArray, List.set_cons_zero, List.set_cons_succ])
  have hM := hM.trans hm
  clear hm
  refine regOnly 3 (by kernel_rfl) rfl (by rfl) (fun K hK => ?_)
  go_wp2_with (go_at_call 9; refine (CF2.out _ (HX.out.2.1.mod (HB.out.2.2.trans hM))).mono ?_; rintro e wq2 ⟨⟨b2, d2, rfl, hr2, hc2, hn2⟩, hm⟩)
  refine hK.out _ _ (fun _ h => trivial) ?_
  clear hK
  (try simp only [Act.put, List.setIfInBounds_toArray, List.set_cons_zero, List.set_cons_succ])
  have hM := hM.trans hm
  have H1 := hid (And.intro (And.intro hc1 hn1) (And.intro hc2 hn2))
  have HE : Hid (EvW t5 t8 [z0, z1, z2, z3] [x0, x1, x2, x3] b1 la b2 lb ax xs wq2) := ⟨hM.get HB.out.1 (by simp), hM.get HB.out.2.1 (by simp), hr1.mod hm, hr2, HX.out.2.2.mod (HB.out.2.2.trans hM)⟩
  have HM := hid (HB.out.2.2.trans hM)
  clear hm hr1 hr2 hc1 hn1 hc2 hn2 hM CF1 CF2 HX HB
  refine regA 9 1 (v := ?_) rfl rfl (by kernel_rfl) (by kernel_rfl) (by kernel_rfl) (fun _ _ _ h => h) (by rfl) (fun w => ?_) ?_; rotate_left; (go_simp; first | done | with_reducible rfl); (try simp only [Act.put, List.setIfInBounds_toArray, List.set_cons_zero, List.set_cons_succ])
  refine regA 10 2 (v := ?_) rfl rfl (by kernel_rfl) (by kernel_rfl) (by kernel_rfl) (fun _ _ _ h => h) (by rfl) (fun w => ?_) ?_; rotate_left; (go_simp; first | done | with_reducible rfl); (try simp only [Act.put, List.setIfInBounds_toArray, List.set_cons_zero, List.set_cons_succ])
  refine regA 11 4 (v := ?_) rfl rfl (by kernel_rfl) (by kernel_rfl) (by kernel_rfl) (fun _ _ _ h => h) (by rfl) (fun w => ?_) ?_; rotate_left; (go_simp; first | done | with_reducible rfl); (try simp only [Act.put, List.setIfInBounds_toArray, List.set_cons_zero, List.set_cons_succ])
  refine regDone (by kernel_rfl) ?_ _
  go_upto_region 2 with fail
  have hmw : Mod [] wq2 wq2.drew := (Mod.refl _ _).drew
  have hE := HE.out.mod hmw
  have hM := HM.out.trans hmw
  clear HE HM hmw
  refine wp_region_N (fun w' => w'.heap[t5]? = some (.cells (wcells [z0, z1, z2, z3]) 26) ∧ w'.heap[t8]? = some (.cells (wcells [x0, x1, x2, x3]) 26)) (fun i => !(i == 9 || i == 10)) (by kernel_rfl) ?_
  generalize wq2.drew = ws at *
  have HE := hid hE
  have HM := hid hM
  clear hE hM
  apply merge3 (R := fun b a d W9 => W9.heap[b]? = some (.cells (wcells [y0, y1, y2, y3]) 26) ∧ Mod [] ws W9)
  · intro key
    have KEY := hid key
    clear key
    have hS := And.intro HE.out.1 HE.out.2.1
    refine regS 0 34 (v := ?_) hS rfl rfl (by kernel_rfl) (by kernel_rfl) (by kernel_rfl) (by kernel_rfl) (fun _ _ _ h => h) (by rfl) (fun w hSw => ?_) ?_; rotate_left; (have qc0 := cell_at hSw.1 0; have qc1 := cell_at hSw.1 1; have qc2 := cell_at hSw.1 2; have qc3 := cell_at hSw.1 3; simp only [wcells_get] at qc0 qc1 qc2 qc3; go_simp; first | done | with_reducible rfl); (try simp only [Act.put, List.setIfInBounds_toArray, List.set_cons_zero, List.set_cons_succ])
    refine regA 1 35 (v := ?_) rfl rfl (by kernel_rfl) (by kernel_rfl) (by kernel_rfl) (fun _ _ _ h => h) (by rfl) (fun w => ?_) ?_; rotate_left; (go_simp; first | done | with_reducible rfl); (try simp only [Act.put, List.setIfInBounds_toArray, List.set_cons_zero, List.set_cons_succ])
    refine regS 3 37 (v := ?_) hS rfl rfl (by kernel_rfl) (by kernel_rfl) (by kernel_rfl) (by kernel_rfl) (fun _ _ _ h => h) (by rfl) (fun w hSw => ?_) ?_; rotate_left; (have qc0 := cell_at hSw.2 0; have qc1 := cell_at hSw.2 1; have qc2 := cell_at hSw.2 2; have qc3 := cell_at hSw.2 3; simp only [wcells_get] at qc0 qc1 qc2 qc3; go_simp; first | done | with_reducible rfl); (try simp only [Act.put, List.setIfInBounds_toArray, List.set_cons_zero, List.set_cons_succ])
    clear hS
    have hM := Mod.refl [] ws
    refine regTwo 2 8 (by kernel_rfl) rfl (by rfl) rfl (by rfl) (fun K hK => ?_) (fun K hK => ?_)
    · go_wp2_with (go_at_call 9; refine (CFA.out _ _ H1.out.1.1 H1.out.1.2 _ (HE.out.2.2.1.mod hM)).mono ?_; rintro e ws1 ⟨⟨fa, fd, rfl, hra⟩, hm⟩)
      refine hK.out _ _ (fun _ h => ⟨hm.get h.1 (by simp), hm.get h.2 (by simp)⟩) ?_
      clear hK
      (try simp only [Act.put, List.setIfInBounds_toArray, List.set_cons_zero, List.set_cons_succ])
      have hM := hM.trans hm
      clear hm
      refine regTwo 4 8 (by kernel_rfl) rfl (by rfl) rfl (by rfl) (fun K hK => ?_) (fun K hK => ?_)
      · go_wp2_with (go_at_call 14; refine (CE.out _ _ _ hra).mono ?_; rintro e ws2 ⟨rfl, hm⟩)
        refine hK.out _ _ (fun _ h => ⟨hm.get h.1 (by simp), hm.get h.2 (by simp)⟩) ?_
        clear hK
        (try simp only [Act.put, List.setIfInBounds_toArray, List.set_cons_zero, List.set_cons_succ])
        have hM := hM.trans hm
        clear hm
        clear hra
        refine regA 5 33 (v := ?_) rfl rfl (by kernel_rfl) (by kernel_rfl) (by kernel_rfl) (fun _ _ _ h => h) (by rfl) (fun w => ?_) ?_; rotate_left; (go_simp; first | done | with_reducible rfl); (try simp only [Act.put, List.setIfInBounds_toArray, List.set_cons_zero, List.set_cons_succ])
        refine regA 6 39 (v := ?_) rfl rfl (by kernel_rfl) (by kernel_rfl) (by kernel_rfl) (fun _ _ _ h => h) (by rfl) (fun w => ?_) ?_; rotate_left; (go_simp; first | done | with_reducible rfl); (try simp only [Act.put, List.setIfInBounds_toArray, List.set_cons_zero, List.set_cons_succ])
        refine regA 7 40 (v := ?_) rfl rfl (by kernel_rfl) (by kernel_rfl) (by kernel_rfl) (fun _ _ _ h => h) (by rfl) (fun w => ?_) ?_; rotate_left; (go_simp; first | done | with_reducible rfl); (try simp only [Act.put, List.setIfInBounds_toArray, List.set_cons_zero, List.set_cons_succ])
        refine regOnly 8 (by kernel_rfl) rfl (by rfl) (fun K hK => ?_)
        go_wp2_with fail
        refine hK.out _ _ (fun _ h => ⟨get_alloc h.1 _, get_alloc h.2 _⟩) ?_
        clear hK
        (try simp only [Act.put, List.setIfInBounds_toArray, List.set_cons_zero, List.set_cons_succ])
        have gb11 : (ws2.alloc (.cells #[.int .u64 0, .int .u64 0, .int .u64 0, .int .u64 0] 26 (0, 0))).heap[ws2.heap.size]? = some (.cells (wcells [0, 0, 0, 0]) 26) := get_new ws2 _
        obtain ⟨b11, hb11⟩ : ∃ b, ws2.heap.size = b := ⟨_, rfl⟩
        have lb11 : ws.heap.size ≤ b11 := by rw [← hb11]; exact hM.size
        rw [hb11] at gb11 ⊢
        try have hra : RowArg (ws2.alloc (.cells #[.int .u64 0, .int .u64 0, .int .u64 0, .int .u64 0] 26 (0, 0))) fa la := hra.mod ((Mod.refl [] _).alloc _)
        have hM : Mod [] ws (ws2.alloc (.cells #[.int .u64 0, .int .u64 0, .int .u64 0, .int .u64 0] 26 (0, 0))) := hM.alloc _
        generalize ws2.alloc (.cells #[.int .u64 0, .int .u64 0, .int .u64 0, .int .u64 0] 26 (0, 0)) = ws3 at *
        have nc0 := cell_at gb11 0; have nc1 := cell_at gb11 1; have nc2 := cell_at gb11 2; have nc3 := cell_at gb11 3; simp only [wcells_get] at nc0 nc1 nc2 nc3
        have nf0 := free_at gb11 0; have nf1 := free_at gb11 1; have nf2 := free_at gb11 2; have nf3 := free_at gb11 3
        have k3 := hid (set4_at gb11 y0 y1 y2 y3)
        have hM9 := hid (set4_mod lb11 hM y0 y1 y2 y3)
        clear gb11 hM
        refine regOnly 9 (by kernel_rfl) rfl (by rfl) (fun K hK => ?_)
        go_wp2_with fail
        refine hK.out _ _ (fun h _ => absurd h (by decide)) ?_
        clear hK
        (try simp only [Act.put, List.setIfInBounds_toArray, List.set_cons_zero, List.set_cons_succ])
        clear nc0 nc1 nc2 nc3
        clear nf0 nf1 nf2 nf3
        refine regA 10 12 (v := ?_) rfl rfl (by kernel_rfl) (by kernel_rfl) (by kernel_rfl) (fun _ _ _ h => h) (by rfl) (fun w => ?_) ?_; rotate_left; (go_simp; first | done | with_reducible rfl); (try simp only [Act.put, List.setIfInBounds_toArray, List.set_cons_zero, List.set_cons_succ])
        refine regAbs (fun W9 => W9.heap[b11]? = some (.cells (wcells [y0, y1, y2, y3]) 26) ∧ Mod [] ws W9) ⟨k3.out, hM9.out⟩ ?_
        rintro W10 hR
        refine regDone (by kernel_rfl) ?_ _
        exact KEY.out b11 fa fd W10 hR
      · go_wp2_with fail
        refine hK.out _ _ (fun _ h => ⟨get_alloc h.1 _, get_alloc h.2 _⟩) ?_
        clear hK
        (try simp only [Act.put, List.setIfInBounds_toArray, List.set_cons_zero, List.set_cons_succ])
        have gb11 : (ws1.alloc (.cells #[.int .u64 0, .int .u64 0, .int .u64 0, .int .u64 0] 26 (0, 0))).heap[ws1.heap.size]? = some (.cells (wcells [0, 0, 0, 0]) 26) := get_new ws1 _
        obtain ⟨b11, hb11⟩ : ∃ b, ws1.heap.size = b := ⟨_, rfl⟩
        have lb11 : ws.heap.size ≤ b11 := by rw [← hb11]; exact hM.size
        rw [hb11] at gb11 ⊢
        try have hra : RowArg (ws1.alloc (.cells #[.int .u64 0, .int .u64 0, .int .u64 0, .int .u64 0] 26 (0, 0))) fa la := hra.mod ((Mod.refl [] _).alloc _)
        have hM : Mod [] ws (ws1.alloc (.cells #[.int .u64 0, .int .u64 0, .int .u64 0, .int .u64 0] 26 (0, 0))) := hM.alloc _
        generalize ws1.alloc (.cells #[.int .u64 0, .int .u64 0, .int .u64 0, .int .u64 0] 26 (0, 0)) = ws2 at *
        refine regOnly 4 (by kernel_rfl) rfl (by rfl) (fun K hK => ?_)
        go_wp2_with (go_at_call 14; refine (CE.out _ _ _ hra).mono ?_; rintro e ws3 ⟨rfl, hm⟩)
        refine hK.out _ _ (fun _ h => ⟨hm.get h.1 (by simp), hm.get h.2 (by simp)⟩) ?_
        clear hK
        (try simp only [Act.put, List.setIfInBounds_toArray, List.set_cons_zero, List.set_cons_succ])
        have gb11 := hm.get gb11 (by simp)
        have hM := hM.trans hm
        clear hm
        clear hra
        refine regA 5 33 (v := ?_) rfl rfl (by kernel_rfl) (by kernel_rfl) (by kernel_rfl) (fun _ _ _ h => h) (by rfl) (fun w => ?_) ?_; rotate_left; (go_simp; first | done | with_reducible rfl); (try simp only [Act.put, List.setIfInBounds_toArray, List.set_cons_zero, List.set_cons_succ])
        refine regA 6 39 (v := ?_) rfl rfl (by kernel_rfl) (by kernel_rfl) (by kernel_rfl) (fun _ _ _ h => h) (by rfl) (fun w => ?_) ?_; rotate_left; (go_simp; first | done | with_reducible rfl); (try simp only [Act.put, List.setIfInBounds_toArray, List.set_cons_zero, List.set_cons_succ])
        refine regA 7 40 (v := ?_) rfl rfl (by kernel_rfl) (by kernel_rfl) (by kernel_rfl) (fun _ _ _ h => h) (by rfl) (fun w => ?_) ?_; rotate_left; (go_simp; first | done | with_reducible rfl); (try simp only [Act.put, List.setIfInBounds_toArray, List.set_cons_zero, List.set_cons_succ])
        have nc0 := cell_at gb11 0; have nc1 := cell_at gb11 1; have nc2 := cell_at gb11 2; have nc3 := cell_at gb11 3; simp only [wcells_get] at nc0 nc1 nc2 nc3
        have nf0 := free_at gb11 0; have nf1 := free_at gb11 1; have nf2 := free_at gb11 2; have nf3 := free_at gb11 3
        have k3 := hid (set4_at gb11 y0 y1 y2 y3)
        have hM9 := hid (set4_mod lb11 hM y0 y1 y2 y3)
        clear gb11 hM
        refine regOnly 9 (by kernel_rfl) rfl (by rfl) (fun K hK => ?_)
        go_wp2_with fail
        refine hK.out _ _ (fun h _ => absurd h (by decide)) ?_
        clear hK
        (try simp only [Act.put, List.setIfInBounds_toArray, List.set_cons_zero, List.set_cons_succ])
        clear nc0 nc1 nc2 nc3
        clear nf0 nf1 nf2 nf3
        refine regA 10 12 (v := ?_) rfl rfl (by kernel_rfl) (by kernel_rfl) (by kernel_rfl) (fun _ _ _ h => h) (by rfl) (fun w => ?_) ?_; rotate_left; (go_simp; first | done | with_reducible rfl); (try simp only [Act.put, List.setIfInBounds_toArray, List.set_cons_zero, List.set_cons_succ])
        refine regAbs (fun W9 => W9.heap[b11]? = some (.cells (wcells [y0, y1, y2, y3]) 26) ∧ Mod [] ws W9) ⟨k3.out, hM9.out⟩ ?_
        rintro W10 hR
        refine regDone (by kernel_rfl) ?_ _
        exact KEY.out b11 fa fd W10 hR
    · go_wp2_with fail
      refine hK.out _ _ (fun _ h => ⟨get_alloc h.1 _, get_alloc h.2 _⟩) ?_
      clear hK
      (try simp only [Act.put, List.setIfInBounds_toArray, List.set_cons_zero, List.set_cons_succ])
      have gb11 : (ws.alloc (.cells #[.int .u64 0, .int .u64 0, .int .u64 0, .int .u64 0] 26 (0, 0))).heap[ws.heap.size]? = some (.cells (wcells [0, 0, 0, 0]) 26) := get_new ws _
      obtain ⟨b11, hb11⟩ : ∃ b, ws.heap.size = b := ⟨_, rfl⟩
      have lb11 : ws.heap.size ≤ b11 := by rw [← hb11]; exact hM.size
      rw [hb11] at gb11 ⊢
      try have hra : RowArg (ws.alloc (.cells #[.int .u64 0, .int .u64 0, .int .u64 0, .int .u64 0] 26 (0, 0))) fa la := hra.mod ((Mod.refl [] _).alloc _)
      have hM : Mod [] ws (ws.alloc (.cells #[.int .u64 0, .int .u64 0, .int .u64 0, .int .u64 0] 26 (0, 0))) := hM.alloc _
      generalize ws.alloc (.cells #[.int .u64 0, .int .u64 0, .int .u64 0, .int .u64 0] 26 (0, 0)) = ws1 at *
      refine regOnly 2 (by kernel_rfl) rfl (by rfl) (fun K hK => ?_)
      go_wp2_with (go_at_call 9; refine (CFA.out _ _ H1.out.1.1 H1.out.1.2 _ (HE.out.2.2.1.mod hM)).mono ?_; rintro e ws2 ⟨⟨fa, fd, rfl, hra⟩, hm⟩)
      refine hK.out _ _ (fun _ h => ⟨hm.get h.1 (by simp), hm.get h.2 (by simp)⟩) ?_
      clear hK
      (try simp only [Act.put, List.setIfInBounds_toArray, List.set_cons_zero, List.set_cons_succ])
      have gb11 := hm.get gb11 (by simp)
      have hM := hM.trans hm
      clear hm
      refine regOnly 4 (by kernel_rfl) rfl (by rfl) (fun K hK => ?_)
      go_wp2_with (go_at_call 14; refine (CE.out _ _ _ hra).mono ?_; rintro e ws3 ⟨rfl, hm⟩)
      refine hK.out _ _ (fun _ h => ⟨hm.get h.1 (by simp), hm.get h.2 (by simp)⟩) ?_
      clear hK
      (try simp only [Act.put, List.setIfInBounds_toArray, List.set_cons_zero, List.set_cons_succ])
      have gb11 := hm.get gb11 (by simp)
      have hM := hM.trans hm
      clear hm
      clear hra
      refine regA 5 33 (v := ?_) rfl rfl (by kernel_rfl) (by kernel_rfl) (by kernel_rfl) (fun _ _ _ h => h) (by rfl) (fun w => ?_) ?_; rotate_left; (go_simp; first | done | with_reducible rfl); (try simp only [Act.put, List.setIfInBounds_toArray, List.set_cons_zero, List.set_cons_succ])
      refine regA 6 39 (v := ?_) rfl rfl (by kernel_rfl) (by kernel_rfl) (by kernel_rfl) (fun _ _ _ h => h) (by rfl) (fun w => ?_) ?_; rotate_left; (go_simp; first | done | with_reducible rfl); (try simp only [Act.put, List.setIfInBounds_toArray, List.set_cons_zero, List.set_cons_succ])
      refine regA 7 40 (v := ?_) rfl rfl (by kernel_rfl) (by kernel_rfl) (by kernel_rfl) (fun _ _ _ h => h) (by rfl) (fun w => ?_) ?_; rotate_left; (go_simp; first | done | with_reducible rfl); (try simp only [Act.put, List.setIfInBounds_toArray, List.set_cons_zero, List.set_cons_succ])
      have nc0 := cell_at gb11 0; have nc1 := cell_at gb11 1; have nc2 := cell_at gb11 2; have nc3 := cell_at gb11 3; simp only [wcells_get] at nc0 nc1 nc2 nc3
      have nf0 := free_at gb11 0; have nf1 := free_at gb11 1; have nf2 := free_at gb11 2; have nf3 := free_at gb11 3
      have k3 := hid (set4_at gb11 y0 y1 y2 y3)
      have hM9 := hid (set4_mod lb11 hM y0 y1 y2 y3)
      clear gb11 hM
      refine regOnly 9 (by kernel_rfl) rfl (by rfl) (fun K hK => ?_)
      go_wp2_with fail
      refine hK.out _ _ (fun h _ => absurd h (by decide)) ?_
      clear hK
      (try simp only [Act.put, List.setIfInBounds_toArray, List.set_cons_zero, List.set_cons_succ])
      clear nc0 nc1 nc2 nc3
      clear nf0 nf1 nf2 nf3
      refine regA 10 12 (v := ?_) rfl rfl (by kernel_rfl) (by kernel_rfl) (by kernel_rfl) (fun _ _ _ h => h) (by rfl) (fun w => ?_) ?_; rotate_left; (go_simp; first | done | with_reducible rfl); (try simp only [Act.put, List.setIfInBounds_toArray, List.set_cons_zero, List.set_cons_succ])
      refine regAbs (fun W9 => W9.heap[b11]? = some (.cells (wcells [y0, y1, y2, y3]) 26) ∧ Mod [] ws W9) ⟨k3.out, hM9.out⟩ ?_
      rintro W10 hR
      refine regDone (by kernel_rfl) ?_ _
      exact KEY.out b11 fa fd W10 hR
  rintro b11 fa fd W9 ⟨g11, hm9⟩
  have g5 := hm9.get HE.out.1 (by simp)
  have g8 := hm9.get HE.out.2.1 (by simp)
  have zc0 := cell_at g5 0; have zc1 := cell_at g5 1; have zc2 := cell_at g5 2; have zc3 := cell_at g5 3; simp only [wcells_get] at zc0 zc1 zc2 zc3
  have xc0 := cell_at g8 0; have xc1 := cell_at g8 1; have xc2 := cell_at g8 2; have xc3 := cell_at g8 3; simp only [wcells_get] at xc0 xc1 xc2 xc3
  have HE9 := hid (HE.out.mod hm9)
  have HM9 := hid (HM.out.trans hm9)
  have G11 := hid g11
  clear g5 g8 g11 hm9 HE HM CE
  go_upto_region 4 with (go_at_call 19; refine (CR.out _ _ _ HE9.out.2.2.1).mono ?_; rintro e w3 ⟨rfl, hm⟩; have H3 := hid hm; clear hm)
  clear zc0 zc1 zc2 zc3
  clear xc0 xc1 xc2 xc3
  refine wp_abs (fun W4 => W4.heap[w3.heap.size]? = some (.cells (wcells [y0, y1, y2, y3]) 26) ∧ Mod [] W9 W4) ⟨get_new _ _, H3.out.alloc _⟩ ?_
  generalize w3.heap.size = t13 at *
  rintro W4 ⟨g13, hm4⟩
  have hm4 := hm4.trans ((Mod.refl [] W4).drew)
  have hE := HE9.out.mod hm4
  have hG := hm4.get G11.out (by simp)
  have hG3 := ((Mod.refl [] W4).drew).get g13 (by simp)
  have hM := HM9.out.trans hm4
  clear HE9 HM9 G11 g13 hm4 CR H3
  refine wp_region_N (fun w' => w'.heap[t5]? = some (.cells (wcells [z0, z1, z2, z3]) 26)) (fun i => !(i == 9 || i == 10)) (by kernel_rfl) ?_
  generalize W4.drew = ws4 at *
  have HE := hid hE
  have HM := hid hM
  have HG := hid (And.intro hG hG3)
  have hS := hE.1
  clear hE hM hG hG3
  refine regS 0 49 (v := ?_) hS rfl rfl (by kernel_rfl) (by kernel_rfl) (by kernel_rfl) (by kernel_rfl) (fun _ _ _ h => h) (by rfl) (fun w hSw => ?_) ?_; rotate_left; (have qc0 := cell_at hSw 0; have qc1 := cell_at hSw 1; have qc2 := cell_at hSw 2; have qc3 := cell_at hSw 3; simp only [wcells_get] at qc0 qc1 qc2 qc3; go_simp; first | done | with_reducible rfl); (try simp only [Act.put, List.setIfInBounds_toArray, List.set_cons_zero, List.set_cons_succ])
  refine regA 1 50 (v := ?_) rfl rfl (by kernel_rfl) (by kernel_rfl) (by kernel_rfl) (fun _ _ _ h => h) (by rfl) (fun w => ?_) ?_; rotate_left; (go_simp; first | done | with_reducible rfl); (try simp only [Act.put, List.setIfInBounds_toArray, List.set_cons_zero, List.set_cons_succ])
  refine regA 3 52 (v := ?_) rfl rfl (by kernel_rfl) (by kernel_rfl) (by kernel_rfl) (fun _ _ _ h => h) (by rfl) (fun w => ?_) ?_; rotate_left; (go_simp; first | done | with_reducible rfl); (try simp only [Act.put, List.setIfInBounds_toArray, List.set_cons_zero, List.set_cons_succ])
  clear hS
  have hM := Mod.refl [] ws4
  refine regOnly 2 (by kernel_rfl) rfl (by rfl) (fun K hK => ?_)
  go_wp2_with (go_at_call 9; refine (CFA.out _ _ H1.out.1.1 H1.out.1.2 _ (HE.out.2.2.1.mod hM)).mono ?_; rintro e w41 ⟨⟨ga4, gd4, rfl, hra⟩, hm⟩)
  refine hK.out _ _ (fun _ h => hm.get h (by simp)) ?_
  clear hK
  (try simp only [Act.put, List.setIfInBounds_toArray, List.set_cons_zero, List.set_cons_succ])
  have hM := hM.trans hm
  clear hm
  refine regOnly 4 (by kernel_rfl) rfl (by rfl) (fun K hK => ?_)
  go_wp2_with (go_at_call 20; refine (CI.out _ (HE.out.2.2.2.2.mod hM)).mono ?_; rintro e w42 ⟨⟨gi4, di4, rfl, hxa⟩, hm⟩)
  refine hK.out _ _ (fun _ h => hm.get h (by simp)) ?_
  clear hK
  (try simp only [Act.put, List.setIfInBounds_toArray, List.set_cons_zero, List.set_cons_succ])
  have hra := hra.mod hm
  have hM := hM.trans hm
  clear hm
  refine regOnly 5 (by kernel_rfl) rfl (by rfl) (fun K hK => ?_)
  go_wp2_with (go_at_call 10; refine (CP.out _ _ _ _ _ hra hxa).mono ?_; rintro e w43 ⟨⟨vp, hvp, rfl⟩, hm⟩)
  refine hK.out _ _ (fun _ h => hm.get h (by simp)) ?_
  clear hK
  (try simp only [Act.put, List.setIfInBounds_toArray, List.set_cons_zero, List.set_cons_succ])
  have hM := hM.trans hm
  clear hm hra hxa
  obtain ⟨bp, dp, rfl⟩ := row_sl hvp.row
  have HV := hid hvp
  clear hvp
  refine regA 6 48 (v := ?_) rfl rfl (by kernel_rfl) (by kernel_rfl) (by kernel_rfl) (fun _ _ _ h => h) (by rfl) (fun w => ?_) ?_; rotate_left; (go_simp; first | done | with_reducible rfl); (try simp only [Act.put, List.setIfInBounds_toArray, List.set_cons_zero, List.set_cons_succ])
  refine regA 7 55 (v := ?_) rfl rfl (by kernel_rfl) (by kernel_rfl) (by kernel_rfl) (fun _ _ _ h => h) (by rfl) (fun w => ?_) ?_; rotate_left; (go_simp; first | done | with_reducible rfl); (try simp only [Act.put, List.setIfInBounds_toArray, List.set_cons_zero, List.set_cons_succ])
  refine regA 8 56 (v := ?_) rfl rfl (by kernel_rfl) (by kernel_rfl) (by kernel_rfl) (fun _ _ _ h => h) (by rfl) (fun w => ?_) ?_; rotate_left; (go_simp; first | done | with_reducible rfl); (try simp only [Act.put, List.setIfInBounds_toArray, List.set_cons_zero, List.set_cons_succ])
  refine regA 9 15 (v := ?_) rfl rfl (by kernel_rfl) (by kernel_rfl) (by kernel_rfl) (fun _ _ _ h => h) (by rfl) (fun w => ?_) ?_; rotate_left; (go_simp; first | done | with_reducible rfl); (try simp only [Act.put, List.setIfInBounds_toArray, List.set_cons_zero, List.set_cons_succ])
  refine regA 10 16 (v := ?_) rfl rfl (by kernel_rfl) (by kernel_rfl) (by kernel_rfl) (fun _ _ _ h => h) (by rfl) (fun w => ?_) ?_; rotate_left; (go_simp; first | done | with_reducible rfl); (try simp only [Act.put, List.setIfInBounds_toArray, List.set_cons_zero, List.set_cons_succ])
  refine regDone (by kernel_rfl) ?_ _
  have hE := HE.out.mod hM
  have g5 := hE.1
  have zc0 := cell_at g5 0; have zc1 := cell_at g5 1; have zc2 := cell_at g5 2; have zc3 := cell_at g5 3; simp only [wcells_get] at zc0 zc1 zc2 zc3
  have HE5 := hid hE
  have HM5 := hid (HM.out.trans hM)
  have HG5 := hid (And.intro (hM.get HG.out.1 (by simp)) (hM.get HG.out.2 (by simp)))
  clear hE g5 hM HE HM HG CP CI HSL
  go_upto_region 6 with (go_at_call 21; refine (CQ.out _ _ _ _ _ HE5.out.2.2.1 HE5.out.2.2.2.2).mono ?_; rintro e w5 ⟨⟨vq, hvq, rfl⟩, hm⟩; have H5 := hid (And.intro hvq hm); clear hvq hm)
  obtain ⟨bq, dq, rfl⟩ := row_sl H5.out.1.row
  clear zc0 zc1 zc2 zc3
  have hm5 := H5.out.2.trans ((Mod.refl [] w5).drew)
  have hE := HE5.out.mod hm5
  have hV := ptArg_of (HV.out.mod hm5 (fun _ _ => by simp))
  have hV2 := ptArg_of (H5.out.1.mod ((Mod.refl [] w5).drew) (fun _ _ => by simp))
  have hM := HM5.out.trans hm5
  have hG := And.intro (hm5.get HG5.out.1 (by simp)) (hm5.get HG5.out.2 (by simp))
  clear HE5 HV H5 HM5 HG5 hm5 CQ
  refine wp_region_N (fun w' => w'.heap[t5]? = some (.cells (wcells [z0, z1, z2, z3]) 26)) (fun i => !(i == 9 || i == 10)) (by kernel_rfl) ?_
  generalize w5.drew = ws6 at *
  have HE := hid hE
  have HM := hid hM
  have HG := hid hG
  have HV := hid (And.intro hV hV2)
  have hS := hE.1
  clear hE hM hG hV hV2
  refine regS 0 65 (v := ?_) hS rfl rfl (by kernel_rfl) (by kernel_rfl) (by kernel_rfl) (by kernel_rfl) (fun _ _ _ h => h) (by rfl) (fun w hSw => ?_) ?_; rotate_left; (have qc0 := cell_at hSw 0; have qc1 := cell_at hSw 1; have qc2 := cell_at hSw 2; have qc3 := cell_at hSw 3; simp only [wcells_get] at qc0 qc1 qc2 qc3; go_simp; first | done | with_reducible rfl); (try simp only [Act.put, List.setIfInBounds_toArray, List.set_cons_zero, List.set_cons_succ])
  refine regA 1 66 (v := ?_) rfl rfl (by kernel_rfl) (by kernel_rfl) (by kernel_rfl) (fun _ _ _ h => h) (by rfl) (fun w => ?_) ?_; rotate_left; (go_simp; first | done | with_reducible rfl); (try simp only [Act.put, List.setIfInBounds_toArray, List.set_cons_zero, List.set_cons_succ])
  refine regA 3 68 (v := ?_) rfl rfl (by kernel_rfl) (by kernel_rfl) (by kernel_rfl) (fun _ _ _ h => h) (by rfl) (fun w => ?_) ?_; rotate_left; (go_simp; first | done | with_reducible rfl); (try simp only [Act.put, List.setIfInBounds_toArray, List.set_cons_zero, List.set_cons_succ])
  clear hS
  have hM := Mod.refl [] ws6
  refine regOnly 2 (by kernel_rfl) rfl (by rfl) (fun K hK => ?_)
  go_wp2_with (go_at_call 9; refine (CFA.out _ _ H1.out.1.1 H1.out.1.2 _ (HE.out.2.2.1.mod hM)).mono ?_; rintro e w61 ⟨⟨ga6, gd6, rfl, hra⟩, hm⟩)
  refine hK.out _ _ (fun _ h => hm.get h (by simp)) ?_
  clear hK
  (try simp only [Act.put, List.setIfInBounds_toArray, List.set_cons_zero, List.set_cons_succ])
  have hM := hM.trans hm
  clear hm
  refine regOnly 4 (by kernel_rfl) rfl (by rfl) (fun K hK => ?_)
  go_wp2_with (go_at_call 9; refine (CFB.out _ _ H1.out.2.1 H1.out.2.2 _ (HE.out.2.2.2.1.mod hM)).mono ?_; rintro e w62 ⟨⟨gb6, ge6, rfl, hrb⟩, hm⟩)
  refine hK.out _ _ (fun _ h => hm.get h (by simp)) ?_
  clear hK
  (try simp only [Act.put, List.setIfInBounds_toArray, List.set_cons_zero, List.set_cons_succ])
  have hra := hra.mod hm
  have hM := hM.trans hm
  clear hm
  refine regOnly 5 (by kernel_rfl) rfl (by rfl) (fun K hK => ?_)
  go_wp2_with (go_at_call 22; refine (CA.out _ _ _ _ _ hra hrb).mono ?_; rintro e w63 ⟨⟨gs, ds, hva, rfl⟩, hm⟩)
  refine hK.out _ _ (fun _ h => hm.get h (by simp)) ?_
  clear hK
  (try simp only [Act.put, List.setIfInBounds_toArray, List.set_cons_zero, List.set_cons_succ])
  have hM := hM.trans hm
  clear hm hra hrb
  refine regA 6 64 (v := ?_) rfl rfl (by kernel_rfl) (by kernel_rfl) (by kernel_rfl) (fun _ _ _ h => h) (by rfl) (fun w => ?_) ?_; rotate_left; (go_simp; first | done | with_reducible rfl); (try simp only [Act.put, List.setIfInBounds_toArray, List.set_cons_zero, List.set_cons_succ])
  refine regA 7 71 (v := ?_) rfl rfl (by kernel_rfl) (by kernel_rfl) (by kernel_rfl) (fun _ _ _ h => h) (by rfl) (fun w => ?_) ?_; rotate_left; (go_simp; first | done | with_reducible rfl); (try simp only [Act.put, List.setIfInBounds_toArray, List.set_cons_zero, List.set_cons_succ])
  refine regA 8 72 (v := ?_) rfl rfl (by kernel_rfl) (by kernel_rfl) (by kernel_rfl) (fun _ _ _ h => h) (by rfl) (fun w => ?_) ?_; rotate_left; (go_simp; first | done | with_reducible rfl); (try simp only [Act.put, List.setIfInBounds_toArray, List.set_cons_zero, List.set_cons_succ])
  refine regA 9 19 (v := ?_) rfl rfl (by kernel_rfl) (by kernel_rfl) (by kernel_rfl) (fun _ _ _ h => h) (by rfl) (fun w => ?_) ?_; rotate_left; (go_simp; first | done | with_reducible rfl); (try simp only [Act.put, List.setIfInBounds_toArray, List.set_cons_zero, List.set_cons_succ])
  refine regA 10 20 (v := ?_) rfl rfl (by kernel_rfl) (by kernel_rfl) (by kernel_rfl) (fun _ _ _ h => h) (by rfl) (fun w => ?_) ?_; rotate_left; (go_simp; first | done | with_reducible rfl); (try simp only [Act.put, List.setIfInBounds_toArray, List.set_cons_zero, List.set_cons_succ])
  refine regDone (by kernel_rfl) ?_ _
  have hE := HE.out.mod hM
  have g5 := hE.1
  have zc0 := cell_at g5 0; have zc1 := cell_at g5 1; have zc2 := cell_at g5 2; have zc3 := cell_at g5 3; simp only [wcells_get] at zc0 zc1 zc2 zc3
  have HE7 := hid hE
  have HK7 := hid (And.intro (HM.out.trans hM) (And.intro (And.intro (hM.get HG.out.1 (by simp)) (hM.get HG.out.2 (by simp))) (And.intro (HV.out.1.mod hM) (And.intro (HV.out.2.mod hM) hva))))
  clear hE g5 hM HE HM HG HV hva CA CFA CFB
  go_upto_region 10 with (go_at_call 23; refine (CB.out _ _ _ _ _ HE7.out.2.2.1 HE7.out.2.2.2.1).mono ?_; rintro e w7 ⟨⟨gt, dt, hvb, rfl⟩, hm⟩; have H7 := hid (And.intro hvb hm); clear hvb hm)
  clear zc0 zc1 zc2 zc3
  have hm7 := H7.out.2
  have HK := hid (And.intro (HK7.out.1.trans hm7) (And.intro (And.intro (hm7.get HK7.out.2.1.1 (by simp)) (hm7.get HK7.out.2.1.2 (by simp))) (And.intro (HK7.out.2.2.1.mod hm7) (And.intro (HK7.out.2.2.2.1.mod hm7) (And.intro (HK7.out.2.2.2.2.mod hm7) H7.out.1)))))
  clear HK7 hm7 H7 HE7 CB H1
  go_wp2_with fail
  have pl : (ps.length : Int) ≤ 12 := by have := HP.out.1; omega
  go_loopg [23] ps.length (fun gk v W' => ∃ j : Nat, v = .int .i64 j ∧ gk + j = ps.length ∧ Mod [] w7 W')
  case atStart => exact ⟨0, rfl, rfl, Mod.refl _ _⟩
  case round =>
    obtain ⟨j, rfl, hgj, hm⟩ := hrel
    by_cases hj : j < ps.length
    · have j0 : (0 : Int) ≤ (j : Int) := by omega
      have j1 : (j : Int) < (ps.length : Int) := by omega
      obtain ⟨⟨px, py⟩, hp⟩ : ∃ p, ps[j]? = some p := ⟨_, List.getElem?_eq_getElem hj⟩
      have hpN := HP.out.2.1 _ (List.mem_of_getElem? hp)
      obtain ⟨gp, e1, p1, p2⟩ := (HK.out.2.2.1.mod hm) j px py hp
      obtain ⟨gq, e2, q1, q2⟩ := (HK.out.2.2.2.1.mod hm) j px py hp
      subst e1
      subst e2
      have qx := fun W => equalIn_nv hpN.1 hpN.1 W
      have qy := fun W => equalIn_nv hpN.2 hpN.2 W
      rw [decide_eq_true rfl] at qx qy
      obtain ⟨u0, u1, u2, u3, huu, pu⟩ := nv_lits px
      obtain ⟨v0, v1, v2, v3, hvv, pv⟩ := nv_lits py
      rw [huu] at qx
      rw [hvv] at qy
      unfold lit4 at qx qy
      rw [encN_lit pu] at p1 q1
      rw [encN_lit pv] at p2 q2
      have pa0 : wr.cell? ⟨gp, j * 8, none⟩ = some (.int .u64 (u0 : Int)) := p1 0 _ rfl
      have pa1 : wr.cell? ⟨gp, j * 8 + 1, none⟩ = some (.int .u64 (u1 : Int)) := p1 1 _ rfl
      have pa2 : wr.cell? ⟨gp, j * 8 + 2, none⟩ = some (.int .u64 (u2 : Int)) := p1 2 _ rfl
      have pa3 : wr.cell? ⟨gp, j * 8 + 3, none⟩ = some (.int .u64 (u3 : Int)) := p1 3 _ rfl
      have pb0 : wr.cell? ⟨gp, j * 8 + 4, none⟩ = some (.int .u64 (v0 : Int)) := p2 0 _ rfl
      have pb1 : wr.cell? ⟨gp, j * 8 + 4 + 1, none⟩ = some (.int .u64 (v1 : Int)) := p2 1 _ rfl
      have pc1 : wr.cell? ⟨gp, j * 8 + 5, none⟩ = some (.int .u64 (v1 : Int)) := pb1
      have pb2 : wr.cell? ⟨gp, j * 8 + 4 + 2, none⟩ = some (.int .u64 (v2 : Int)) := p2 2 _ rfl
      have pc2 : wr.cell? ⟨gp, j * 8 + 6, none⟩ = some (.int .u64 (v2 : Int)) := pb2
      have pb3 : wr.cell? ⟨gp, j * 8 + 4 + 3, none⟩ = some (.int .u64 (v3 : Int)) := p2 3 _ rfl
      have pc3 : wr.cell? ⟨gp, j * 8 + 7, none⟩ = some (.int .u64 (v3 : Int)) := pb3
      have qa0 : wr.cell? ⟨gq, j * 8, none⟩ = some (.int .u64 (u0 : Int)) := q1 0 _ rfl
      have qa1 : wr.cell? ⟨gq, j * 8 + 1, none⟩ = some (.int .u64 (u1 : Int)) := q1 1 _ rfl
      have qa2 : wr.cell? ⟨gq, j * 8 + 2, none⟩ = some (.int .u64 (u2 : Int)) := q1 2 _ rfl
      have qa3 : wr.cell? ⟨gq, j * 8 + 3, none⟩ = some (.int .u64 (u3 : Int)) := q1 3 _ rfl
      have qb0 : wr.cell? ⟨gq, j * 8 + 4, none⟩ = some (.int .u64 (v0 : Int)) := q2 0 _ rfl
      have qb1 : wr.cell? ⟨gq, j * 8 + 4 + 1, none⟩ = some (.int .u64 (v1 : Int)) := q2 1 _ rfl
      have qc1 : wr.cell? ⟨gq, j * 8 + 5, none⟩ = some (.int .u64 (v1 : Int)) := qb1
      have qb2 : wr.cell? ⟨gq, j * 8 + 4 + 2, none⟩ = some (.int .u64 (v2 : Int)) := q2 2 _ rfl
      have qc2 : wr.cell? ⟨gq, j * 8 + 6, none⟩ = some (.int .u64 (v2 : Int)) := qb2
      have qb3 : wr.cell? ⟨gq, j * 8 + 4 + 3, none⟩ = some (.int .u64 (v3 : Int)) := q2 3 _ rfl
      have qc3 : wr.cell? ⟨gq, j * 8 + 7, none⟩ = some (.int .u64 (v3 : Int)) := qb3
      have HN := hid (And.intro hm hgj)
      clear hm hgj hp hpN p1 p2 q1 q2 huu pu hvv pv
      go_wp2_with fail
      go_quiet (fail)
      go_wp2_with fail
      go_roundg (gk - 1)
      case measure => have := HN.out.2; omega
      case rel => exact ⟨j + 1, by go_num, by have := HN.out.2; omega, HN.out.1.drewN _⟩
    · have j1 : ¬ (j : Int) < (ps.length : Int) := by omega
      have g11 := hm.get HK.out.2.1.1 (by simp)
      have g13 := hm.get HK.out.2.1.2 (by simp)
      have yc0 := cell_at g11 0; have yc1 := cell_at g11 1; have yc2 := cell_at g11 2; have yc3 := cell_at g11 3; simp only [wcells_get] at yc0 yc1 yc2 yc3
      have xc0 := cell_at g13 0; have xc1 := cell_at g13 1; have xc2 := cell_at g13 2; have xc3 := cell_at g13 3; simp only [wcells_get] at xc0 xc1 xc2 xc3
      have Q := QY.out
      have HF := hid (And.intro (HK.out.1.trans hm) (And.intro (HK.out.2.2.2.2.1.mod hm) (HK.out.2.2.2.2.2.mod hm)))
      have CS : Hid (∀ (a b : Option Addr) (ca cb : Nat) (W : World) (ha : NatsArg W a s) (hb : NatsArg W b s), _) := fun a b ca cb W ha hb => same_nats s HP.out.2.2.2 (by have := HP.out.2.2.1; omega) a b ca cb W ha hb
      clear hm hgj g11 g13 QY HK
      go_wp2_with (first
        | (go_at_call 24; refine (CS.out _ _ _ _ _ HF.out.2.1 HF.out.2.2).mono ?_; rintro e w8 ⟨rfl, hm⟩; have H8 := hid hm; clear hm)
        | (go_at_call 8; refine (CW.out _).mono ?_; rintro e w9 ⟨rfl, hm⟩; have H9 := hid hm; clear hm))
      exact bodyPost_ret (v := .bool true) (by simp [results, Tryd.results5, go_sem]) rfl ⟨rfl, (HF.out.1.trans H8.out).trans H9.out⟩
end Go.Proofs.YtdgmnhiffoemmaaDoor
