/-
  mod.small. No statement of a claim stands here; each contract names what it asks.
-/
import Derived.Test.YtdgmnhiffoemmaaDoorGD
import Derived.Deep.CutRange
set_option linter.unusedSimpArgs false
namespace Go.Proofs.YtdgmnhiffoemmaaDoor
open Go Go.RowKit Go.ChangeMaps

theorem merge1 {R G : Nat → World → Prop} {T : Prop} (use : (∀ b W, R b W → G b W) → T) (prove : ∀ b W, R b W → G b W) : T := use prove
/-- Two boxes. -/
def BoxS (t : TypeId) (p q : Nat) (xs ys : List Nat) (w : World) : Prop := w.heap[p]? = some (.cells (wcells xs) t) ∧ w.heap[q]? = some (.cells (wcells ys) t)
section
variable {P : Program} {ops : Array Oper} {Q : Exit → Act → World → Prop} {md : Region.Mode} {S : World → Prop} {need : Nat → Bool}
/-- One of three may come up. -/
theorem regThree (i k j : Nat) {o o' o'' : Oper} {fuel : Nat} {listed : Array Bool} {a : Act} {w : World} (hr : Region.ready md ops listed = [i, k, j]) (ho : ops[i]? = some o) (hg : o.guard = none) (ho' : ops[k]? = some o') (hg' : o'.guard = none) (ho'' : ops[j]? = some o'') (hg'' : o''.guard = none)
    (h : ∀ K' : Act → World → Prop, Shut (∀ a' w', (need i = true → S w → S w') → wpAnyN P md ops Q S need fuel (listed.setIfInBounds i true) a' w' → K' a' w') → Oper.wp P o a w K' Q)
    (h' : ∀ K' : Act → World → Prop, Shut (∀ a' w', (need k = true → S w → S w') → wpAnyN P md ops Q S need fuel (listed.setIfInBounds k true) a' w' → K' a' w') → Oper.wp P o' a w K' Q)
    (h'' : ∀ K' : Act → World → Prop, Shut (∀ a' w', (need j = true → S w → S w') → wpAnyN P md ops Q S need fuel (listed.setIfInBounds j true) a' w' → K' a' w') → Oper.wp P o'' a w K' Q) : wpAnyN P md ops Q S need (fuel + 1) listed a w := by
  refine ⟨fun h0 => (by rw [hr] at h0; cases h0), fun l hl => ?_⟩
  rw [hr] at hl
  have : l = i ∨ l = k ∨ l = j := by simpa using hl
  rcases this with rfl | rfl | rfl
  · refine wpOp_step ho (fun K' hK => ?_)
    rw [if_pos (by simp [Region.wanted, hg])]
    exact h K' fun a' w' h1 h2 => hK a' w' ⟨h1, h2⟩
  · refine wpOp_step ho' (fun K' hK => ?_)
    rw [if_pos (by simp [Region.wanted, hg'])]
    exact h' K' fun a' w' h1 h2 => hK a' w' ⟨h1, h2⟩
  · refine wpOp_step ho'' (fun K' hK => ?_)
    rw [if_pos (by simp [Region.wanted, hg''])]
    exact h'' K' fun a' w' h1 h2 => hK a' w' ⟨h1, h2⟩
end

set_option maxRecDepth 100000 in
theorem msmall {a m : Nat} (ha : a < NN) (hm : m < NN) (h0 : m ≠ 0) (w : World) : Calls Tryd.prog 50 #[nv a, nv m] w fun e w' => e = .returned (nv (a % m)) ∧ Mod [] w w' := by
  have cc := fun W => lcmp ha hm W
  have cw := fun W => lwiden ha W
  have cr := fun W => mreduce (a := a) (Nat.lt_of_lt_of_le ha NN_le) hm h0 W
  have hlt : (if a = m then (0 : Int) else if a < m then -1 else 1) < 0 ↔ a < m := by
    by_cases h1 : a = m
    · simp [h1]
    · by_cases h2 : a < m
      · simp [h1, h2]
      · simp [h1, h2]
  have hlit : a < m → nv a = nv (a % m) := fun h => by rw [Nat.mod_eq_of_lt h]
  generalize (if a = m then (0 : Int) else if a < m then -1 else 1) = cv at *
  obtain ⟨x0, x1, x2, x3, hx⟩ := nv_lit a
  obtain ⟨y0, y1, y2, y3, hy⟩ := nv_lit m
  obtain ⟨w0, w1, w2, w3, w4, w5, w6, w7, hw⟩ := wdv_lit a
  obtain ⟨r0, r1, r2, r3, hr⟩ := nv_lit (a % m)
  rw [hx, hy] at cc
  rw [hx, hw] at cw
  rw [hw, hy, hr] at cr
  rw [hx, hr] at hlit
  rw [hx, hy, hr]
  clear hx hy hr hw ha hm h0
  unfold lit4 lit8 at *
  have CC := hid cc
  have CW := hid cw
  have CR := hid cr
  have HL := hid hlit
  clear cc cw cr hlit
  by_cases hc : cv < 0
  · rw [HL.out (hlt.1 hc)]
    rw [HL.out (hlt.1 hc)] at CC CW
    clear hlt HL
    go_enter Tryd.func50, Tryd.ntmps50
    go_upto_region 1 with fail
    refine wp_abs (fun W => W.heap[w.heap.size]? = some (.cells (wcells [r0, r1, r2, r3]) 26) ∧ W.heap[w.heap.size + 1]? = some (.cells (wcells [y0, y1, y2, y3]) 26) ∧ W.heap[w.heap.size + 1 + 1]? = some (.cells (wcells [0, 0, 0, 0]) 26) ∧ Mod [] w W) ⟨three_a w _ _ _, three_b w _ _ _, three_c w _ _ _, (((Mod.refl _ _).alloc _).alloc _).alloc _⟩ ?_
    rintro W ⟨gx, gy, gr, hm⟩
    generalize hta : w.heap.size = ta at *
    generalize htb : ta + 1 = tb at *
    generalize htr : tb + 1 = tr at *
    have xc0 := cell_at gx 0; have xc1 := cell_at gx 1; have xc2 := cell_at gx 2; have xc3 := cell_at gx 3; simp only [wcells_get] at xc0 xc1 xc2 xc3
    have yc0 := cell_at gy 0; have yc1 := cell_at gy 1; have yc2 := cell_at gy 2; have yc3 := cell_at gy 3; simp only [wcells_get] at yc0 yc1 yc2 yc3
    have HM := hid (And.intro gx (And.intro gy (And.intro gr (And.intro hm (And.intro hta (And.intro htb htr))))))
    clear gx gy gr hm hta htb htr
    go_upto_region 2 with (go_at_call 64; refine (CC.out _).mono ?_; rintro e w1 ⟨rfl, hm1⟩; have H1 := hid hm1; clear hm1)
    clear xc0 xc1 xc2 xc3
    clear yc0 yc1 yc2 yc3
    have gx := H1.out.get HM.out.1 (by simp)
    have gr := H1.out.get HM.out.2.2.1 (by simp)
    have xc0 := cell_at gx 0; have xc1 := cell_at gx 1; have xc2 := cell_at gx 2; have xc3 := cell_at gx 3; simp only [wcells_get] at xc0 xc1 xc2 xc3
    have rc0 := cell_at gr 0; have rc1 := cell_at gr 1; have rc2 := cell_at gr 2; have rc3 := cell_at gr 3; simp only [wcells_get] at rc0 rc1 rc2 rc3
    have rf0 := free_at gr 0; have rf1 := free_at gr 1; have rf2 := free_at gr 2; have rf3 := free_at gr 3
    have g := hid (set4_at gr r0 r1 r2 r3)
    clear gx gr
    go_wp2_with fail
    have g := g.out
    clear rc0 rc1 rc2 rc3
    clear rf0 rf1 rf2 rf3
    have rc0 := cell_at g 0; have rc1 := cell_at g 1; have rc2 := cell_at g 2; have rc3 := cell_at g 3; simp only [wcells_get] at rc0 rc1 rc2 rc3
    obtain ⟨-, -, -, hm, hta, htb, htr⟩ := HM.out
    have hl : w.heap.size ≤ tr := by omega
    exact bodyPost_ret (v := .agg #[.int .u64 (r0 : Int), .int .u64 (r1 : Int), .int .u64 (r2 : Int), .int .u64 (r3 : Int)]) (by simp [results, Tryd.results50, go_sem, rc0, rc1, rc2, rc3]) rfl ⟨rfl, ((((hm.trans H1.out).setCell (p := ⟨tr, 0, none⟩) (.inr hl) _).setCell (p := ⟨tr, 1, none⟩) (.inr hl) _).setCell (p := ⟨tr, 2, none⟩) (.inr hl) _).setCell (p := ⟨tr, 3, none⟩) (.inr hl) _⟩
  · clear hlt HL
    go_enter Tryd.func50, Tryd.ntmps50
    go_upto_region 1 with fail
    refine wp_abs (fun W => W.heap[w.heap.size]? = some (.cells (wcells [x0, x1, x2, x3]) 26) ∧ W.heap[w.heap.size + 1]? = some (.cells (wcells [y0, y1, y2, y3]) 26) ∧ W.heap[w.heap.size + 1 + 1]? = some (.cells (wcells [0, 0, 0, 0]) 26) ∧ Mod [] w W) ⟨three_a w _ _ _, three_b w _ _ _, three_c w _ _ _, (((Mod.refl _ _).alloc _).alloc _).alloc _⟩ ?_
    rintro W ⟨gx, gy, gr, hm⟩
    generalize hta : w.heap.size = ta at *
    generalize htb : ta + 1 = tb at *
    generalize htr : tb + 1 = tr at *
    have xc0 := cell_at gx 0; have xc1 := cell_at gx 1; have xc2 := cell_at gx 2; have xc3 := cell_at gx 3; simp only [wcells_get] at xc0 xc1 xc2 xc3
    have yc0 := cell_at gy 0; have yc1 := cell_at gy 1; have yc2 := cell_at gy 2; have yc3 := cell_at gy 3; simp only [wcells_get] at yc0 yc1 yc2 yc3
    have HM := hid (And.intro gx (And.intro gy (And.intro gr (And.intro hm (And.intro hta (And.intro htb htr))))))
    clear gx gy gr hm hta htb htr
    go_upto_region 3 with (go_at_call 64; refine (CC.out _).mono ?_; rintro e w1 ⟨rfl, hm1⟩; have H1 := hid hm1; clear hm1)
    clear xc0 xc1 xc2 xc3
    clear yc0 yc1 yc2 yc3
    have hS : BoxS 26 ta tb [x0, x1, x2, x3] [y0, y1, y2, y3] w1.drew := ⟨H1.out.get HM.out.1 (by simp), H1.out.get HM.out.2.1 (by simp)⟩
    have HR : Hid (w1.drew.heap[tr]? = some (.cells (wcells [0, 0, 0, 0]) 26)) := H1.out.get HM.out.2.2.1 (by simp)
    have HW1 : Hid (Mod [] w w1.drew ∧ w.heap.size ≤ tr) := by
      obtain ⟨-, -, -, hm, hta, htb, htr⟩ := HM.out
      exact ⟨(hm.trans H1.out).drew, by omega⟩
    have HSS := hid hS
    clear hS
    refine wp_region_N (BoxS 26 ta tb [x0, x1, x2, x3] [y0, y1, y2, y3]) (fun i => !(i == 8 || i == 9)) (by kernel_rfl) ?_
    generalize w1.drew = wq at *
    apply merge1 (R := fun b W => W.heap[b]? = some (.cells (wcells [r0, r1, r2, r3]) 26) ∧ W.heap[tr]? = some (.cells (wcells [0, 0, 0, 0]) 26) ∧ Mod [] wq W)
    · intro key
      have hS := HSS.out
      have hM := Mod.refl [] wq
      refine regS 0 13 (v := ?_) hS rfl rfl (by kernel_rfl) (by kernel_rfl) (by kernel_rfl) (by kernel_rfl) (fun _ _ _ h => h) (by rfl) (fun w hSw => ?_) ?_; rotate_left; (have qc0 := cell_at hSw.1 0; have qc1 := cell_at hSw.1 1; have qc2 := cell_at hSw.1 2; have qc3 := cell_at hSw.1 3; simp only [wcells_get] at qc0 qc1 qc2 qc3; go_simp; first | done | with_reducible rfl); (try simp only [Act.put, List.setIfInBounds_toArray, List.set_cons_zero, List.set_cons_succ])
      refine regS 2 15 (v := ?_) hS rfl rfl (by kernel_rfl) (by kernel_rfl) (by kernel_rfl) (by kernel_rfl) (fun _ _ _ h => h) (by rfl) (fun w hSw => ?_) ?_; rotate_left; (have qc0 := cell_at hSw.2 0; have qc1 := cell_at hSw.2 1; have qc2 := cell_at hSw.2 2; have qc3 := cell_at hSw.2 3; simp only [wcells_get] at qc0 qc1 qc2 qc3; go_simp; first | done | with_reducible rfl); (try simp only [Act.put, List.setIfInBounds_toArray, List.set_cons_zero, List.set_cons_succ])
      refine regTwo 1 7 (by kernel_rfl) rfl (by rfl) rfl (by rfl) (fun K hK => ?_) (fun K hK => ?_)
      · go_wp2_with (go_at_call 41; refine (CW.out _).mono ?_; rintro e wq1 ⟨rfl, hm⟩)
        refine hK.out _ _ (fun _ h => ⟨hm.get h.1 (by simp), hm.get h.2 (by simp)⟩) ?_
        clear hK
        (try simp only [Act.put, List.setIfInBounds_toArray, List.set_cons_zero, List.set_cons_succ])
        have hM := hM.trans hm
        clear hm
        refine regTwo 3 7 (by kernel_rfl) rfl (by rfl) rfl (by rfl) (fun K hK => ?_) (fun K hK => ?_)
        · go_wp2_with (go_at_call 40; refine (CR.out _).mono ?_; rintro e wq2 ⟨rfl, hm⟩)
          refine hK.out _ _ (fun _ h => ⟨hm.get h.1 (by simp), hm.get h.2 (by simp)⟩) ?_
          clear hK
          (try simp only [Act.put, List.setIfInBounds_toArray, List.set_cons_zero, List.set_cons_succ])
          have hM := hM.trans hm
          clear hm
          refine regA 4 12 (v := ?_) rfl rfl (by kernel_rfl) (by kernel_rfl) (by kernel_rfl) (fun _ _ _ h => h) (by rfl) (fun w => ?_) ?_; rotate_left; (go_simp; first | done | with_reducible rfl); (try simp only [Act.put, List.setIfInBounds_toArray, List.set_cons_zero, List.set_cons_succ])
          refine regA 5 17 (v := ?_) rfl rfl (by kernel_rfl) (by kernel_rfl) (by kernel_rfl) (fun _ _ _ h => h) (by rfl) (fun w => ?_) ?_; rotate_left; (go_simp; first | done | with_reducible rfl); (try simp only [Act.put, List.setIfInBounds_toArray, List.set_cons_zero, List.set_cons_succ])
          refine regA 6 18 (v := ?_) rfl rfl (by kernel_rfl) (by kernel_rfl) (by kernel_rfl) (fun _ _ _ h => h) (by rfl) (fun w => ?_) ?_; rotate_left; (go_simp; first | done | with_reducible rfl); (try simp only [Act.put, List.setIfInBounds_toArray, List.set_cons_zero, List.set_cons_succ])
          refine regOnly 7 (by kernel_rfl) rfl (by rfl) (fun K hK => ?_)
          go_wp2_with fail
          refine hK.out _ _ (fun _ h => ⟨get_alloc h.1 _, get_alloc h.2 _⟩) ?_
          clear hK
          (try simp only [Act.put, List.setIfInBounds_toArray, List.set_cons_zero, List.set_cons_succ])
          have gb5 : (wq2.alloc (.cells #[.int .u64 0, .int .u64 0, .int .u64 0, .int .u64 0] 26 (0, 0))).heap[wq2.heap.size]? = some (.cells (wcells [0, 0, 0, 0]) 26) := get_new wq2 _
          obtain ⟨b5, hb5⟩ : ∃ b, wq2.heap.size = b := ⟨_, rfl⟩
          have lb5 : wq.heap.size ≤ b5 := by rw [← hb5]; exact hM.size
          rw [hb5] at gb5 ⊢
          have hM : Mod [] wq (wq2.alloc (.cells #[.int .u64 0, .int .u64 0, .int .u64 0, .int .u64 0] 26 (0, 0))) := hM.alloc _
          generalize wq2.alloc (.cells #[.int .u64 0, .int .u64 0, .int .u64 0, .int .u64 0] 26 (0, 0)) = wq3 at *
          have nc0 := cell_at gb5 0; have nc1 := cell_at gb5 1; have nc2 := cell_at gb5 2; have nc3 := cell_at gb5 3; simp only [wcells_get] at nc0 nc1 nc2 nc3
          have nf0 := free_at gb5 0; have nf1 := free_at gb5 1; have nf2 := free_at gb5 2; have nf3 := free_at gb5 3
          clear hS
          refine regOnly 8 (by kernel_rfl) rfl (by rfl) (fun K hK => ?_)
          go_wp2_with fail
          refine hK.out _ _ (fun h _ => absurd h (by decide)) ?_
          clear hK
          (try simp only [Act.put, List.setIfInBounds_toArray, List.set_cons_zero, List.set_cons_succ])
          clear nc0 nc1 nc2 nc3
          clear nf0 nf1 nf2 nf3
          refine regA 9 6 (v := ?_) rfl rfl (by kernel_rfl) (by kernel_rfl) (by kernel_rfl) (fun _ _ _ h => h) (by rfl) (fun w => ?_) ?_; rotate_left; (go_simp; first | done | with_reducible rfl); (try simp only [Act.put, List.setIfInBounds_toArray, List.set_cons_zero, List.set_cons_succ])
          refine regDone (by kernel_rfl) ?_ _
          have hne : tr ≠ b5 := by have := lt_of_block HR.out; omega
          refine key b5 _ ⟨set4_at gb5 r0 r1 r2 r3, ?_, ?_⟩
          · exact get_setCell (p := ⟨b5, 3, none⟩) (get_setCell (p := ⟨b5, 2, none⟩) (get_setCell (p := ⟨b5, 1, none⟩) (get_setCell (p := ⟨b5, 0, none⟩) (hM.get HR.out (by simp)) hne _) hne _) hne _) hne _
          · exact (((hM.setCell (p := ⟨b5, 0, none⟩) (.inr lb5) _).setCell (p := ⟨b5, 1, none⟩) (.inr lb5) _).setCell (p := ⟨b5, 2, none⟩) (.inr lb5) _).setCell (p := ⟨b5, 3, none⟩) (.inr lb5) _
        · go_wp2_with fail
          refine hK.out _ _ (fun _ h => ⟨get_alloc h.1 _, get_alloc h.2 _⟩) ?_
          clear hK
          (try simp only [Act.put, List.setIfInBounds_toArray, List.set_cons_zero, List.set_cons_succ])
          have gb5 : (wq1.alloc (.cells #[.int .u64 0, .int .u64 0, .int .u64 0, .int .u64 0] 26 (0, 0))).heap[wq1.heap.size]? = some (.cells (wcells [0, 0, 0, 0]) 26) := get_new wq1 _
          obtain ⟨b5, hb5⟩ : ∃ b, wq1.heap.size = b := ⟨_, rfl⟩
          have lb5 : wq.heap.size ≤ b5 := by rw [← hb5]; exact hM.size
          rw [hb5] at gb5 ⊢
          have hM : Mod [] wq (wq1.alloc (.cells #[.int .u64 0, .int .u64 0, .int .u64 0, .int .u64 0] 26 (0, 0))) := hM.alloc _
          generalize wq1.alloc (.cells #[.int .u64 0, .int .u64 0, .int .u64 0, .int .u64 0] 26 (0, 0)) = wq2 at *
          refine regOnly 3 (by kernel_rfl) rfl (by rfl) (fun K hK => ?_)
          go_wp2_with (go_at_call 40; refine (CR.out _).mono ?_; rintro e wq3 ⟨rfl, hm⟩)
          refine hK.out _ _ (fun _ h => ⟨hm.get h.1 (by simp), hm.get h.2 (by simp)⟩) ?_
          clear hK
          (try simp only [Act.put, List.setIfInBounds_toArray, List.set_cons_zero, List.set_cons_succ])
          have gb5 := hm.get gb5 (by simp)
          have hM := hM.trans hm
          clear hm
          refine regA 4 12 (v := ?_) rfl rfl (by kernel_rfl) (by kernel_rfl) (by kernel_rfl) (fun _ _ _ h => h) (by rfl) (fun w => ?_) ?_; rotate_left; (go_simp; first | done | with_reducible rfl); (try simp only [Act.put, List.setIfInBounds_toArray, List.set_cons_zero, List.set_cons_succ])
          refine regA 5 17 (v := ?_) rfl rfl (by kernel_rfl) (by kernel_rfl) (by kernel_rfl) (fun _ _ _ h => h) (by rfl) (fun w => ?_) ?_; rotate_left; (go_simp; first | done | with_reducible rfl); (try simp only [Act.put, List.setIfInBounds_toArray, List.set_cons_zero, List.set_cons_succ])
          refine regA 6 18 (v := ?_) rfl rfl (by kernel_rfl) (by kernel_rfl) (by kernel_rfl) (fun _ _ _ h => h) (by rfl) (fun w => ?_) ?_; rotate_left; (go_simp; first | done | with_reducible rfl); (try simp only [Act.put, List.setIfInBounds_toArray, List.set_cons_zero, List.set_cons_succ])
          have nc0 := cell_at gb5 0; have nc1 := cell_at gb5 1; have nc2 := cell_at gb5 2; have nc3 := cell_at gb5 3; simp only [wcells_get] at nc0 nc1 nc2 nc3
          have nf0 := free_at gb5 0; have nf1 := free_at gb5 1; have nf2 := free_at gb5 2; have nf3 := free_at gb5 3
          clear hS
          refine regOnly 8 (by kernel_rfl) rfl (by rfl) (fun K hK => ?_)
          go_wp2_with fail
          refine hK.out _ _ (fun h _ => absurd h (by decide)) ?_
          clear hK
          (try simp only [Act.put, List.setIfInBounds_toArray, List.set_cons_zero, List.set_cons_succ])
          clear nc0 nc1 nc2 nc3
          clear nf0 nf1 nf2 nf3
          refine regA 9 6 (v := ?_) rfl rfl (by kernel_rfl) (by kernel_rfl) (by kernel_rfl) (fun _ _ _ h => h) (by rfl) (fun w => ?_) ?_; rotate_left; (go_simp; first | done | with_reducible rfl); (try simp only [Act.put, List.setIfInBounds_toArray, List.set_cons_zero, List.set_cons_succ])
          refine regDone (by kernel_rfl) ?_ _
          have hne : tr ≠ b5 := by have := lt_of_block HR.out; omega
          refine key b5 _ ⟨set4_at gb5 r0 r1 r2 r3, ?_, ?_⟩
          · exact get_setCell (p := ⟨b5, 3, none⟩) (get_setCell (p := ⟨b5, 2, none⟩) (get_setCell (p := ⟨b5, 1, none⟩) (get_setCell (p := ⟨b5, 0, none⟩) (hM.get HR.out (by simp)) hne _) hne _) hne _) hne _
          · exact (((hM.setCell (p := ⟨b5, 0, none⟩) (.inr lb5) _).setCell (p := ⟨b5, 1, none⟩) (.inr lb5) _).setCell (p := ⟨b5, 2, none⟩) (.inr lb5) _).setCell (p := ⟨b5, 3, none⟩) (.inr lb5) _
      · go_wp2_with fail
        refine hK.out _ _ (fun _ h => ⟨get_alloc h.1 _, get_alloc h.2 _⟩) ?_
        clear hK
        (try simp only [Act.put, List.setIfInBounds_toArray, List.set_cons_zero, List.set_cons_succ])
        have gb5 : (wq.alloc (.cells #[.int .u64 0, .int .u64 0, .int .u64 0, .int .u64 0] 26 (0, 0))).heap[wq.heap.size]? = some (.cells (wcells [0, 0, 0, 0]) 26) := get_new wq _
        obtain ⟨b5, hb5⟩ : ∃ b, wq.heap.size = b := ⟨_, rfl⟩
        have lb5 : wq.heap.size ≤ b5 := by rw [← hb5]; exact hM.size
        rw [hb5] at gb5 ⊢
        have hM : Mod [] wq (wq.alloc (.cells #[.int .u64 0, .int .u64 0, .int .u64 0, .int .u64 0] 26 (0, 0))) := hM.alloc _
        generalize wq.alloc (.cells #[.int .u64 0, .int .u64 0, .int .u64 0, .int .u64 0] 26 (0, 0)) = wq1 at *
        refine regOnly 1 (by kernel_rfl) rfl (by rfl) (fun K hK => ?_)
        go_wp2_with (go_at_call 41; refine (CW.out _).mono ?_; rintro e wq2 ⟨rfl, hm⟩)
        refine hK.out _ _ (fun _ h => ⟨hm.get h.1 (by simp), hm.get h.2 (by simp)⟩) ?_
        clear hK
        (try simp only [Act.put, List.setIfInBounds_toArray, List.set_cons_zero, List.set_cons_succ])
        have gb5 := hm.get gb5 (by simp)
        have hM := hM.trans hm
        clear hm
        refine regOnly 3 (by kernel_rfl) rfl (by rfl) (fun K hK => ?_)
        go_wp2_with (go_at_call 40; refine (CR.out _).mono ?_; rintro e wq3 ⟨rfl, hm⟩)
        refine hK.out _ _ (fun _ h => ⟨hm.get h.1 (by simp), hm.get h.2 (by simp)⟩) ?_
        clear hK
        (try simp only [Act.put, List.setIfInBounds_toArray, List.set_cons_zero, List.set_cons_succ])
        have gb5 := hm.get gb5 (by simp)
        have hM := hM.trans hm
        clear hm
        refine regA 4 12 (v := ?_) rfl rfl (by kernel_rfl) (by kernel_rfl) (by kernel_rfl) (fun _ _ _ h => h) (by rfl) (fun w => ?_) ?_; rotate_left; (go_simp; first | done | with_reducible rfl); (try simp only [Act.put, List.setIfInBounds_toArray, List.set_cons_zero, List.set_cons_succ])
        refine regA 5 17 (v := ?_) rfl rfl (by kernel_rfl) (by kernel_rfl) (by kernel_rfl) (fun _ _ _ h => h) (by rfl) (fun w => ?_) ?_; rotate_left; (go_simp; first | done | with_reducible rfl); (try simp only [Act.put, List.setIfInBounds_toArray, List.set_cons_zero, List.set_cons_succ])
        refine regA 6 18 (v := ?_) rfl rfl (by kernel_rfl) (by kernel_rfl) (by kernel_rfl) (fun _ _ _ h => h) (by rfl) (fun w => ?_) ?_; rotate_left; (go_simp; first | done | with_reducible rfl); (try simp only [Act.put, List.setIfInBounds_toArray, List.set_cons_zero, List.set_cons_succ])
        have nc0 := cell_at gb5 0; have nc1 := cell_at gb5 1; have nc2 := cell_at gb5 2; have nc3 := cell_at gb5 3; simp only [wcells_get] at nc0 nc1 nc2 nc3
        have nf0 := free_at gb5 0; have nf1 := free_at gb5 1; have nf2 := free_at gb5 2; have nf3 := free_at gb5 3
        clear hS
        refine regOnly 8 (by kernel_rfl) rfl (by rfl) (fun K hK => ?_)
        go_wp2_with fail
        refine hK.out _ _ (fun h _ => absurd h (by decide)) ?_
        clear hK
        (try simp only [Act.put, List.setIfInBounds_toArray, List.set_cons_zero, List.set_cons_succ])
        clear nc0 nc1 nc2 nc3
        clear nf0 nf1 nf2 nf3
        refine regA 9 6 (v := ?_) rfl rfl (by kernel_rfl) (by kernel_rfl) (by kernel_rfl) (fun _ _ _ h => h) (by rfl) (fun w => ?_) ?_; rotate_left; (go_simp; first | done | with_reducible rfl); (try simp only [Act.put, List.setIfInBounds_toArray, List.set_cons_zero, List.set_cons_succ])
        refine regDone (by kernel_rfl) ?_ _
        have hne : tr ≠ b5 := by have := lt_of_block HR.out; omega
        refine key b5 _ ⟨set4_at gb5 r0 r1 r2 r3, ?_, ?_⟩
        · exact get_setCell (p := ⟨b5, 3, none⟩) (get_setCell (p := ⟨b5, 2, none⟩) (get_setCell (p := ⟨b5, 1, none⟩) (get_setCell (p := ⟨b5, 0, none⟩) (hM.get HR.out (by simp)) hne _) hne _) hne _) hne _
        · exact (((hM.setCell (p := ⟨b5, 0, none⟩) (.inr lb5) _).setCell (p := ⟨b5, 1, none⟩) (.inr lb5) _).setCell (p := ⟨b5, 2, none⟩) (.inr lb5) _).setCell (p := ⟨b5, 3, none⟩) (.inr lb5) _
    · rintro b5 W5 ⟨gb, gr, hm⟩
      have bc0 := cell_at gb 0; have bc1 := cell_at gb 1; have bc2 := cell_at gb 2; have bc3 := cell_at gb 3; simp only [wcells_get] at bc0 bc1 bc2 bc3
      have rc0 := cell_at gr 0; have rc1 := cell_at gr 1; have rc2 := cell_at gr 2; have rc3 := cell_at gr 3; simp only [wcells_get] at rc0 rc1 rc2 rc3
      have rf0 := free_at gr 0; have rf1 := free_at gr 1; have rf2 := free_at gr 2; have rf3 := free_at gr 3
      have HE := hid (And.intro gr hm)
      clear gb gr hm
      go_wp2_with fail
      have g := set4_at HE.out.1 r0 r1 r2 r3
      clear rc0 rc1 rc2 rc3
      clear rf0 rf1 rf2 rf3
      have rc0 := cell_at g 0; have rc1 := cell_at g 1; have rc2 := cell_at g 2; have rc3 := cell_at g 3; simp only [wcells_get] at rc0 rc1 rc2 rc3
      have hl := HW1.out.2
      exact bodyPost_ret (v := .agg #[.int .u64 (r0 : Int), .int .u64 (r1 : Int), .int .u64 (r2 : Int), .int .u64 (r3 : Int)]) (by simp [results, Tryd.results50, go_sem, rc0, rc1, rc2, rc3]) rfl ⟨rfl, ((((HW1.out.1.trans HE.out.2).setCell (p := ⟨tr, 0, none⟩) (.inr hl) _).setCell (p := ⟨tr, 1, none⟩) (.inr hl) _).setCell (p := ⟨tr, 2, none⟩) (.inr hl) _).setCell (p := ⟨tr, 3, none⟩) (.inr hl) _⟩
end Go.Proofs.YtdgmnhiffoemmaaDoor
