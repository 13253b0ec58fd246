/-
  mod.Mul, Add, Sub. No statement of a claim stands here; each contract names what it asks.
-/
import Derived.Test.YtdgmnhiffoemmaaDoorYC
set_option linter.unusedSimpArgs false
namespace Go.Proofs.YtdgmnhiffoemmaaDoor
open Go Go.RowKit Go.ChangeMaps

/-- Three boxes. -/
def Box3 (t : TypeId) (p q r : Nat) (xs ys zs : List Nat) (w : World) : Prop := w.heap[p]? = some (.cells (wcells xs) t) ∧ w.heap[q]? = some (.cells (wcells ys) t) ∧ w.heap[r]? = some (.cells (wcells zs) t)
theorem Box3.mod {t : TypeId} {p q r : Nat} {xs ys zs : List Nat} {w w' : World} (h : Box3 t p q r xs ys zs w) (m : Mod [] w w') : Box3 t p q r xs ys zs w' := ⟨m.get h.1 (by simp), m.get h.2.1 (by simp), m.get h.2.2 (by simp)⟩
theorem set4_mod {w w' : World} {b : Nat} (hl : w.heap.size ≤ b) (m : Mod [] w w') (x0 x1 x2 x3 : Nat) : Mod [] w ((((w'.setCell ⟨b, 0, none⟩ (.int .u64 (x0 : Int))).setCell ⟨b, 1, none⟩ (.int .u64 (x1 : Int))).setCell ⟨b, 2, none⟩ (.int .u64 (x2 : Int))).setCell ⟨b, 3, none⟩ (.int .u64 (x3 : Int))) :=
  (((m.setCell (p := ⟨b, 0, none⟩) (.inr hl) _).setCell (p := ⟨b, 1, none⟩) (.inr hl) _).setCell (p := ⟨b, 2, none⟩) (.inr hl) _).setCell (p := ⟨b, 3, none⟩) (.inr hl) _
theorem set4_keep {w : World} {b c : Nat} {o : Obj} (h : w.heap[c]? = some o) (hne : c ≠ b) (x0 x1 x2 x3 : Nat) : ((((w.setCell ⟨b, 0, none⟩ (.int .u64 (x0 : Int))).setCell ⟨b, 1, none⟩ (.int .u64 (x1 : Int))).setCell ⟨b, 2, none⟩ (.int .u64 (x2 : Int))).setCell ⟨b, 3, none⟩ (.int .u64 (x3 : Int))).heap[c]? = some o :=
  get_setCell (p := ⟨b, 3, none⟩) (get_setCell (p := ⟨b, 2, none⟩) (get_setCell (p := ⟨b, 1, none⟩) (get_setCell (p := ⟨b, 0, none⟩) h hne _) hne _) hne _) hne _

set_option maxRecDepth 100000 in
theorem mmul {a b m : Nat} (ha : a < NN) (hb : b < NN) (hm : m < NN) (h0 : m ≠ 0) (w : World) :
    Calls Tryd.prog 33 #[nv a, nv b, nv m] w fun e w' => e = .returned (.tuple #[nv (a * b % m), .int .i64 0]) ∧ Mod [] w w' := by
  have cm := fun W => lmul ha hb W
  have cr := fun W => mreduce (NN_mul ha hb) hm h0 W
  obtain ⟨x0, x1, x2, x3, hx⟩ := nv_lit a
  obtain ⟨y0, y1, y2, y3, hy⟩ := nv_lit b
  obtain ⟨z0, z1, z2, z3, hz⟩ := nv_lit m
  obtain ⟨p0, p1, p2, p3, p4, p5, p6, p7, hp⟩ := wdv_lit (a * b)
  obtain ⟨r0, r1, r2, r3, hr⟩ := nv_lit (a * b % m)
  rw [hx, hy, hp] at cm
  rw [hp, hz, hr] at cr
  rw [hx, hy, hz, hr]
  clear hx hy hz hp hr ha hb hm h0
  unfold lit4 lit8 at *
  have CM := hid cm
  have CR := hid cr
  clear cm cr
  go_enter Tryd.func33, Tryd.ntmps33
  go_upto_region 1 with fail
  refine wp_abs (fun W => W.heap[w.heap.size]? = some (.cells (wcells [x0, x1, x2, x3]) 26) ∧ W.heap[w.heap.size + 1]? = some (.cells (wcells [y0, y1, y2, y3]) 26) ∧ W.heap[w.heap.size + 1 + 1]? = some (.cells (wcells [z0, z1, z2, z3]) 26) ∧ W.heap[w.heap.size + 1 + 1 + 1]? = some (.cells (wcells [0, 0, 0, 0]) 26) ∧ Mod [] w W) (four_new w _ _ _ _) ?_
  rintro W ⟨gx, gy, gz, gr, hm⟩
  generalize hta : w.heap.size = ta at *
  generalize htb : ta + 1 = tb at *
  generalize htc : tb + 1 = tc at *
  generalize htr : tc + 1 = tr at *
  have HB : Hid (Box3 26 ta tb tc [x0, x1, x2, x3] [y0, y1, y2, y3] [z0, z1, z2, z3] W) := ⟨gx, gy, gz⟩
  have HR := hid gr
  have HM : Hid (Mod [] w W ∧ w.heap.size ≤ tr) := ⟨hm, by omega⟩
  have HT : Hid (ta < tb ∧ tb < tc ∧ tc < tr) := ⟨by omega, by omega, by omega⟩
  clear gx gy gz gr hm hta htb htc htr
  have hS : Box3 26 ta tb tc [x0, x1, x2, x3] [y0, y1, y2, y3] [z0, z1, z2, z3] W.drew := HB.out
  refine wp_region_N (Box3 26 ta tb tc [x0, x1, x2, x3] [y0, y1, y2, y3] [z0, z1, z2, z3]) (fun i => !(i == 7 || i == 8)) (by kernel_rfl) ?_
  have hM : Mod [] W W.drew := (Mod.refl _ _).drew
  generalize W.drew = wq at *
  refine regS 0 8 (v := ?_) hS rfl rfl (by kernel_rfl) (by kernel_rfl) (by kernel_rfl) (by kernel_rfl) (fun _ _ _ h => h) (by rfl) (fun w hSw => ?_) ?_; rotate_left; (have qc0 := cell_at hSw.1 0; have qc1 := cell_at hSw.1 1; have qc2 := cell_at hSw.1 2; have qc3 := cell_at hSw.1 3; simp only [wcells_get] at qc0 qc1 qc2 qc3; go_simp; first | done | with_reducible rfl); (try simp only [Act.put, List.setIfInBounds_toArray, List.set_cons_zero, List.set_cons_succ])
  refine regS 1 9 (v := ?_) hS rfl rfl (by kernel_rfl) (by kernel_rfl) (by kernel_rfl) (by kernel_rfl) (fun _ _ _ h => h) (by rfl) (fun w hSw => ?_) ?_; rotate_left; (have qc0 := cell_at hSw.2.1 0; have qc1 := cell_at hSw.2.1 1; have qc2 := cell_at hSw.2.1 2; have qc3 := cell_at hSw.2.1 3; simp only [wcells_get] at qc0 qc1 qc2 qc3; go_simp; first | done | with_reducible rfl); (try simp only [Act.put, List.setIfInBounds_toArray, List.set_cons_zero, List.set_cons_succ])
  refine regS 3 11 (v := ?_) hS rfl rfl (by kernel_rfl) (by kernel_rfl) (by kernel_rfl) (by kernel_rfl) (fun _ _ _ h => h) (by rfl) (fun w hSw => ?_) ?_; rotate_left; (have qc0 := cell_at hSw.2.2 0; have qc1 := cell_at hSw.2.2 1; have qc2 := cell_at hSw.2.2 2; have qc3 := cell_at hSw.2.2 3; simp only [wcells_get] at qc0 qc1 qc2 qc3; go_simp; first | done | with_reducible rfl); (try simp only [Act.put, List.setIfInBounds_toArray, List.set_cons_zero, List.set_cons_succ])
  clear hS
  refine regOnly 2 (by kernel_rfl) rfl (by rfl) (fun K hK => ?_)
  go_wp2_with (go_at_call 47; refine (CM.out _).mono ?_; rintro e w1 ⟨rfl, hm⟩)
  refine hK.out _ _ (fun _ h => ⟨hm.get h.1 (by simp), hm.get h.2.1 (by simp), hm.get h.2.2 (by simp)⟩) ?_
  clear hK
  (try simp only [Act.put, List.setIfInBounds_toArray, List.set_cons_zero, List.set_cons_succ])
  have hM := hM.trans hm
  clear hm
  refine regOnly 4 (by kernel_rfl) rfl (by rfl) (fun K hK => ?_)
  go_wp2_with (go_at_call 40; refine (CR.out _).mono ?_; rintro e w2 ⟨rfl, hm⟩)
  refine hK.out _ _ (fun _ h => ⟨hm.get h.1 (by simp), hm.get h.2.1 (by simp), hm.get h.2.2 (by simp)⟩) ?_
  clear hK
  (try simp only [Act.put, List.setIfInBounds_toArray, List.set_cons_zero, List.set_cons_succ])
  have hM := hM.trans hm
  clear hm
  refine regA 5 13 (v := ?_) rfl rfl (by kernel_rfl) (by kernel_rfl) (by kernel_rfl) (fun _ _ _ h => h) (by rfl) (fun w => ?_) ?_; rotate_left; (go_simp; first | done | with_reducible rfl); (try simp only [Act.put, List.setIfInBounds_toArray, List.set_cons_zero, List.set_cons_succ])
  refine regA 6 14 (v := ?_) rfl rfl (by kernel_rfl) (by kernel_rfl) (by kernel_rfl) (fun _ _ _ h => h) (by rfl) (fun w => ?_) ?_; rotate_left; (go_simp; first | done | with_reducible rfl); (try simp only [Act.put, List.setIfInBounds_toArray, List.set_cons_zero, List.set_cons_succ])
  have gr := hM.get HR.out (by simp)
  have rc0 := cell_at gr 0; have rc1 := cell_at gr 1; have rc2 := cell_at gr 2; have rc3 := cell_at gr 3; simp only [wcells_get] at rc0 rc1 rc2 rc3
  have rf0 := free_at gr 0; have rf1 := free_at gr 1; have rf2 := free_at gr 2; have rf3 := free_at gr 3
  have g := hid (set4_at gr r0 r1 r2 r3)
  clear gr
  refine regOnly 7 (by kernel_rfl) rfl (by rfl) (fun K hK => ?_)
  go_wp2_with fail
  refine hK.out _ _ (fun h _ => absurd h (by decide)) ?_
  clear hK
  (try simp only [Act.put, List.setIfInBounds_toArray, List.set_cons_zero, List.set_cons_succ])
  clear rc0 rc1 rc2 rc3
  clear rf0 rf1 rf2 rf3
  refine regA 8 7 (v := ?_) rfl rfl (by kernel_rfl) (by kernel_rfl) (by kernel_rfl) (fun _ _ _ h => h) (by rfl) (fun w => ?_) ?_; rotate_left; (go_simp; first | done | with_reducible rfl); (try simp only [Act.put, List.setIfInBounds_toArray, List.set_cons_zero, List.set_cons_succ])
  refine regDone (by kernel_rfl) ?_ _
  go_wp2_with fail
  have g := g.out
  have rc0 := cell_at g 0; have rc1 := cell_at g 1; have rc2 := cell_at g 2; have rc3 := cell_at g 3; simp only [wcells_get] at rc0 rc1 rc2 rc3
  exact bodyPost_ret (v := .tuple #[.agg #[.int .u64 (r0 : Int), .int .u64 (r1 : Int), .int .u64 (r2 : Int), .int .u64 (r3 : Int)], .int .i64 0]) (by simp [results, Tryd.results33, go_sem, rc0, rc1, rc2, rc3]) rfl ⟨rfl, set4_mod HM.out.2 (HM.out.1.trans hM) _ _ _ _⟩

set_option maxRecDepth 100000 in
theorem madd {a b m : Nat} (ha : a < NN) (hb : b < NN) (hm : m < NN) (h0 : m ≠ 0) (w : World) :
    Calls Tryd.prog 34 #[nv a, nv b, nv m] w fun e w' => e = .returned (.tuple #[nv ((a + b) % m), .int .i64 0]) ∧ Mod [] w w' := by
  have cn := fun W => mnone hm W
  have ca := fun W => msmall ha hm h0 W
  have cb := fun W => msmall hb hm h0 W
  have cp := fun W => mplus (Nat.mod_lt a (Nat.pos_of_ne_zero h0)) (Nat.mod_lt b (Nat.pos_of_ne_zero h0)) hm W
  rw [← Nat.add_mod] at cp
  simp only [decide_eq_false h0] at cn
  obtain ⟨x0, x1, x2, x3, hx⟩ := nv_lit a
  obtain ⟨y0, y1, y2, y3, hy⟩ := nv_lit b
  obtain ⟨z0, z1, z2, z3, hz⟩ := nv_lit m
  obtain ⟨p0, p1, p2, p3, hp⟩ := nv_lit (a % m)
  obtain ⟨q0, q1, q2, q3, hq⟩ := nv_lit (b % m)
  obtain ⟨r0, r1, r2, r3, hr⟩ := nv_lit ((a + b) % m)
  rw [hz] at cn
  rw [hx, hz, hp] at ca
  rw [hy, hz, hq] at cb
  rw [hp, hq, hz, hr] at cp
  rw [hx, hy, hz, hr]
  clear hx hy hz hp hq hr ha hb hm h0
  unfold lit4 at *
  have CN := hid cn
  have CA := hid ca
  have CB := hid cb
  have CP := hid cp
  clear cn ca cb cp
  go_enter Tryd.func34, Tryd.ntmps34
  go_upto_region 1 with fail
  refine wp_abs (fun W => W.heap[w.heap.size]? = some (.cells (wcells [x0, x1, x2, x3]) 26) ∧ W.heap[w.heap.size + 1]? = some (.cells (wcells [y0, y1, y2, y3]) 26) ∧ W.heap[w.heap.size + 1 + 1]? = some (.cells (wcells [z0, z1, z2, z3]) 26) ∧ W.heap[w.heap.size + 1 + 1 + 1]? = some (.cells (wcells [0, 0, 0, 0]) 26) ∧ Mod [] w W) (four_new w _ _ _ _) ?_
  rintro W ⟨gx, gy, gz, gr, hm⟩
  generalize hta : w.heap.size = ta at *
  generalize htb : ta + 1 = tb at *
  generalize htc : tb + 1 = tc at *
  generalize htr : tc + 1 = tr at *
  have HB : Hid (Box3 26 ta tb tc [x0, x1, x2, x3] [y0, y1, y2, y3] [z0, z1, z2, z3] W) := ⟨gx, gy, gz⟩
  have HR := hid gr
  have HM : Hid (Mod [] w W ∧ w.heap.size ≤ tr) := ⟨hm, by omega⟩
  have HT : Hid (ta < tb ∧ tb < tc ∧ tc < tr) := ⟨by omega, by omega, by omega⟩
  clear gx gy gz gr hm hta htb htc htr
  have gz := HB.out.2.2
  have zc0 := cell_at gz 0; have zc1 := cell_at gz 1; have zc2 := cell_at gz 2; have zc3 := cell_at gz 3; simp only [wcells_get] at zc0 zc1 zc2 zc3
  clear gz
  go_upto_region 3 with (go_at_call 48; refine (CN.out _).mono ?_; rintro e w0 ⟨rfl, hm1⟩; have H1 := hid hm1; clear hm1)
  clear zc0 zc1 zc2 zc3
  have hS : Box3 26 ta tb tc [x0, x1, x2, x3] [y0, y1, y2, y3] [z0, z1, z2, z3] w0.drew := HB.out.mod H1.out.drew
  refine wp_region_N (Box3 26 ta tb tc [x0, x1, x2, x3] [y0, y1, y2, y3] [z0, z1, z2, z3]) (fun i => !(i == 8 || i == 9)) (by kernel_rfl) ?_
  have hM : Mod [] W w0.drew := H1.out.drew
  generalize w0.drew = wq at *
  refine regS 0 11 (v := ?_) hS rfl rfl (by kernel_rfl) (by kernel_rfl) (by kernel_rfl) (by kernel_rfl) (fun _ _ _ h => h) (by rfl) (fun w hSw => ?_) ?_; rotate_left; (have qc0 := cell_at hSw.1 0; have qc1 := cell_at hSw.1 1; have qc2 := cell_at hSw.1 2; have qc3 := cell_at hSw.1 3; simp only [wcells_get] at qc0 qc1 qc2 qc3; go_simp; first | done | with_reducible rfl); (try simp only [Act.put, List.setIfInBounds_toArray, List.set_cons_zero, List.set_cons_succ])
  refine regS 1 12 (v := ?_) hS rfl rfl (by kernel_rfl) (by kernel_rfl) (by kernel_rfl) (by kernel_rfl) (fun _ _ _ h => h) (by rfl) (fun w hSw => ?_) ?_; rotate_left; (have qc0 := cell_at hSw.2.2 0; have qc1 := cell_at hSw.2.2 1; have qc2 := cell_at hSw.2.2 2; have qc3 := cell_at hSw.2.2 3; simp only [wcells_get] at qc0 qc1 qc2 qc3; go_simp; first | done | with_reducible rfl); (try simp only [Act.put, List.setIfInBounds_toArray, List.set_cons_zero, List.set_cons_succ])
  refine regS 3 14 (v := ?_) hS rfl rfl (by kernel_rfl) (by kernel_rfl) (by kernel_rfl) (by kernel_rfl) (fun _ _ _ h => h) (by rfl) (fun w hSw => ?_) ?_; rotate_left; (have qc0 := cell_at hSw.2.1 0; have qc1 := cell_at hSw.2.1 1; have qc2 := cell_at hSw.2.1 2; have qc3 := cell_at hSw.2.1 3; simp only [wcells_get] at qc0 qc1 qc2 qc3; go_simp; first | done | with_reducible rfl); (try simp only [Act.put, List.setIfInBounds_toArray, List.set_cons_zero, List.set_cons_succ])
  refine regS 4 15 (v := ?_) hS rfl rfl (by kernel_rfl) (by kernel_rfl) (by kernel_rfl) (by kernel_rfl) (fun _ _ _ h => h) (by rfl) (fun w hSw => ?_) ?_; rotate_left; (have qc0 := cell_at hSw.2.2 0; have qc1 := cell_at hSw.2.2 1; have qc2 := cell_at hSw.2.2 2; have qc3 := cell_at hSw.2.2 3; simp only [wcells_get] at qc0 qc1 qc2 qc3; go_simp; first | done | with_reducible rfl); (try simp only [Act.put, List.setIfInBounds_toArray, List.set_cons_zero, List.set_cons_succ])
  refine regS 6 17 (v := ?_) hS rfl rfl (by kernel_rfl) (by kernel_rfl) (by kernel_rfl) (by kernel_rfl) (fun _ _ _ h => h) (by rfl) (fun w hSw => ?_) ?_; rotate_left; (have qc0 := cell_at hSw.2.2 0; have qc1 := cell_at hSw.2.2 1; have qc2 := cell_at hSw.2.2 2; have qc3 := cell_at hSw.2.2 3; simp only [wcells_get] at qc0 qc1 qc2 qc3; go_simp; first | done | with_reducible rfl); (try simp only [Act.put, List.setIfInBounds_toArray, List.set_cons_zero, List.set_cons_succ])
  clear hS
  refine regOnly 2 (by kernel_rfl) rfl (by rfl) (fun K hK => ?_)
  go_wp2_with (go_at_call 50; refine (CA.out _).mono ?_; rintro e w1 ⟨rfl, hm⟩)
  refine hK.out _ _ (fun _ h => ⟨hm.get h.1 (by simp), hm.get h.2.1 (by simp), hm.get h.2.2 (by simp)⟩) ?_
  clear hK
  (try simp only [Act.put, List.setIfInBounds_toArray, List.set_cons_zero, List.set_cons_succ])
  have hM := hM.trans hm
  clear hm
  refine regOnly 5 (by kernel_rfl) rfl (by rfl) (fun K hK => ?_)
  go_wp2_with (go_at_call 50; refine (CB.out _).mono ?_; rintro e w2 ⟨rfl, hm⟩)
  refine hK.out _ _ (fun _ h => ⟨hm.get h.1 (by simp), hm.get h.2.1 (by simp), hm.get h.2.2 (by simp)⟩) ?_
  clear hK
  (try simp only [Act.put, List.setIfInBounds_toArray, List.set_cons_zero, List.set_cons_succ])
  have hM := hM.trans hm
  clear hm
  refine regOnly 7 (by kernel_rfl) rfl (by rfl) (fun K hK => ?_)
  go_wp2_with (go_at_call 49; refine (CP.out _).mono ?_; rintro e w3 ⟨rfl, hm⟩)
  refine hK.out _ _ (fun _ h => ⟨hm.get h.1 (by simp), hm.get h.2.1 (by simp), hm.get h.2.2 (by simp)⟩) ?_
  clear hK
  (try simp only [Act.put, List.setIfInBounds_toArray, List.set_cons_zero, List.set_cons_succ])
  have hM := hM.trans hm
  clear hm
  have gr := hM.get HR.out (by simp)
  have rc0 := cell_at gr 0; have rc1 := cell_at gr 1; have rc2 := cell_at gr 2; have rc3 := cell_at gr 3; simp only [wcells_get] at rc0 rc1 rc2 rc3
  have rf0 := free_at gr 0; have rf1 := free_at gr 1; have rf2 := free_at gr 2; have rf3 := free_at gr 3
  have g := hid (set4_at gr r0 r1 r2 r3)
  clear gr
  refine regOnly 8 (by kernel_rfl) rfl (by rfl) (fun K hK => ?_)
  go_wp2_with fail
  refine hK.out _ _ (fun h _ => absurd h (by decide)) ?_
  clear hK
  (try simp only [Act.put, List.setIfInBounds_toArray, List.set_cons_zero, List.set_cons_succ])
  clear rc0 rc1 rc2 rc3
  clear rf0 rf1 rf2 rf3
  refine regA 9 7 (v := ?_) rfl rfl (by kernel_rfl) (by kernel_rfl) (by kernel_rfl) (fun _ _ _ h => h) (by rfl) (fun w => ?_) ?_; rotate_left; (go_simp; first | done | with_reducible rfl); (try simp only [Act.put, List.setIfInBounds_toArray, List.set_cons_zero, List.set_cons_succ])
  refine regDone (by kernel_rfl) ?_ _
  go_wp2_with fail
  have g := g.out
  have rc0 := cell_at g 0; have rc1 := cell_at g 1; have rc2 := cell_at g 2; have rc3 := cell_at g 3; simp only [wcells_get] at rc0 rc1 rc2 rc3
  exact bodyPost_ret (v := .tuple #[.agg #[.int .u64 (r0 : Int), .int .u64 (r1 : Int), .int .u64 (r2 : Int), .int .u64 (r3 : Int)], .int .i64 0]) (by simp [results, Tryd.results34, go_sem, rc0, rc1, rc2, rc3]) rfl ⟨rfl, set4_mod HM.out.2 (HM.out.1.trans hM) _ _ _ _⟩
end Go.Proofs.YtdgmnhiffoemmaaDoor
