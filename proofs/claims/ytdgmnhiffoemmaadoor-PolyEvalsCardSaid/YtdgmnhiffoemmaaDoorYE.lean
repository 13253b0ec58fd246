/-
  mod.Sub. No statement of a claim stands here; each contract names what it asks.
-/
import Derived.Test.YtdgmnhiffoemmaaDoorYD
set_option linter.unusedSimpArgs false
namespace Go.Proofs.YtdgmnhiffoemmaaDoor
open Go Go.RowKit Go.ChangeMaps

set_option maxRecDepth 100000 in
theorem msub {a b m : Nat} (ha : a < NN) (hb : b < NN) (hm : m < NN) (h0 : m ≠ 0) (w : World) :
    Calls Tryd.prog 51 #[nv a, nv b, nv m] w fun e w' => e = .returned (.tuple #[nv ((a % m + m - b % m) % m), .int .i64 0]) ∧ Mod [] w w' := by
  have cn := fun W => mnone hm W
  have ca := fun W => msmall ha hm h0 W
  have cb := fun W => msmall hb hm h0 W
  have la := Nat.mod_lt a (Nat.pos_of_ne_zero h0)
  have lb := Nat.mod_lt b (Nat.pos_of_ne_zero h0)
  generalize a % m = a' at *
  generalize b % m = b' at *
  have cs := fun W => lsub (a := a') (b := b') (by omega) (by omega) W
  have ct := fun W => lsub (a := m) (b := b') hm (by omega) W
  have cd := fun W => ladd (a := a') (b := (m + NN - b') % NN) (by omega) (Nat.mod_lt _ NN_pos) W
  simp only [decide_eq_false h0] at cn
  have e1 : ¬ a' < b' → (a' + NN - b') % NN = (a' + m - b') % m := by
    intro h
    rw [Nat.mod_eq_sub_mod (by omega), Nat.mod_eq_of_lt (by omega), Nat.mod_eq_sub_mod (by omega), Nat.mod_eq_of_lt (by omega)]
    omega
  have e2 : a' < b' → (a' + (m + NN - b') % NN) % NN = (a' + m - b') % m := by
    intro h
    rw [show (m + NN - b') % NN = m - b' by rw [Nat.mod_eq_sub_mod (by omega), Nat.mod_eq_of_lt (by omega)]; omega, Nat.mod_eq_of_lt (by omega), Nat.mod_eq_of_lt (by omega)]
    omega
  generalize (a' + NN - b') % NN = dd at *
  generalize (m + NN - b') % NN = rr at *
  generalize (a' + rr) % NN = ss at *
  generalize decide (NN ≤ a' + rr) = oo at *
  generalize (a' + m - b') % m = res at *
  obtain ⟨x0, x1, x2, x3, hx⟩ := nv_lit a
  obtain ⟨y0, y1, y2, y3, hy⟩ := nv_lit b
  obtain ⟨z0, z1, z2, z3, hz⟩ := nv_lit m
  obtain ⟨p0, p1, p2, p3, hp⟩ := nv_lit a'
  obtain ⟨q0, q1, q2, q3, hq⟩ := nv_lit b'
  obtain ⟨r0, r1, r2, r3, hr⟩ := nv_lit res
  obtain ⟨d0, d1, d2, d3, hd⟩ := nv_lit dd
  obtain ⟨k0, k1, k2, k3, hk⟩ := nv_lit rr
  obtain ⟨s0, s1, s2, s3, hs⟩ := nv_lit ss
  have f1 : ¬ a' < b' → lit4 d0 d1 d2 d3 = lit4 r0 r1 r2 r3 := fun h => by rw [← hd, ← hr, e1 h]
  have f2 : a' < b' → lit4 s0 s1 s2 s3 = lit4 r0 r1 r2 r3 := fun h => by rw [← hs, ← hr, e2 h]
  rw [hz] at cn
  rw [hx, hz, hp] at ca
  rw [hy, hz, hq] at cb
  rw [hp, hq, hd] at cs
  rw [hz, hq, hk] at ct
  rw [hp, hk, hs] at cd
  rw [hx, hy, hz, hr]
  clear hx hy hz hp hq hr hd hk hs ha hb hm h0 la lb e1 e2
  unfold lit4 at *
  have CN := hid cn
  have CA := hid ca
  have CB := hid cb
  have CS := hid cs
  have CT := hid ct
  have CD := hid cd
  have F1 := hid f1
  have F2 := hid f2
  clear cn ca cb cs ct cd f1 f2
  go_enter Tryd.func51, Tryd.ntmps51
  go_upto_region 1 with fail
  refine wp_abs (fun W => W.heap[w.heap.size]? = some (.cells (wcells [x0, x1, x2, x3]) 26) ∧ W.heap[w.heap.size + 1]? = some (.cells (wcells [y0, y1, y2, y3]) 26) ∧ W.heap[w.heap.size + 1 + 1]? = some (.cells (wcells [z0, z1, z2, z3]) 26) ∧ W.heap[w.heap.size + 1 + 1 + 1]? = some (.cells (wcells [0, 0, 0, 0]) 26) ∧ Mod [] w W) (four_new w _ _ _ _) ?_
  rintro W ⟨gx, gy, gz, gr, hm⟩
  generalize hta : w.heap.size = ta at *
  generalize htb : ta + 1 = tb at *
  generalize htc : tb + 1 = tc at *
  generalize htr : tc + 1 = tr at *
  have HB : Hid (Box3 26 ta tb tc [x0, x1, x2, x3] [y0, y1, y2, y3] [z0, z1, z2, z3] W) := ⟨gx, gy, gz⟩
  have HR := hid gr
  have HM : Hid (Mod [] w W ∧ w.heap.size ≤ tr) := ⟨hm, by omega⟩
  have HT : Hid (w.heap.size ≤ ta ∧ ta < tb ∧ tb < tc ∧ tc < tr) := ⟨by omega, by omega, by omega, by omega⟩
  clear gx gy gz gr hm hta htb htc htr
  have gz := HB.out.2.2
  have zc0 := cell_at gz 0; have zc1 := cell_at gz 1; have zc2 := cell_at gz 2; have zc3 := cell_at gz 3; simp only [wcells_get] at zc0 zc1 zc2 zc3
  clear gz
  go_upto_region 3 with (go_at_call 48; refine (CN.out _).mono ?_; rintro e w0 ⟨rfl, hm1⟩; have H1 := hid hm1; clear hm1)
  clear zc0 zc1 zc2 zc3
  have hbx := HB.out.mod H1.out.drew
  have hS : BoxS 26 tb tc [y0, y1, y2, y3] [z0, z1, z2, z3] w0.drew := hbx.2
  have gx := hbx.1
  refine wp_region_N (BoxS 26 tb tc [y0, y1, y2, y3] [z0, z1, z2, z3]) (fun i => !(i == 7)) (by kernel_rfl) ?_
  have hM : Mod [] W w0.drew := H1.out.drew
  generalize w0.drew = wq at *
  refine regS 1 18 (v := ?_) hS rfl rfl (by kernel_rfl) (by kernel_rfl) (by kernel_rfl) (by kernel_rfl) (fun _ _ _ h => h) (by rfl) (fun w hSw => ?_) ?_; rotate_left; (have qc0 := cell_at hSw.2 0; have qc1 := cell_at hSw.2 1; have qc2 := cell_at hSw.2 2; have qc3 := cell_at hSw.2 3; simp only [wcells_get] at qc0 qc1 qc2 qc3; go_simp; first | done | with_reducible rfl); (try simp only [Act.put, List.setIfInBounds_toArray, List.set_cons_zero, List.set_cons_succ])
  refine regS 3 20 (v := ?_) hS rfl rfl (by kernel_rfl) (by kernel_rfl) (by kernel_rfl) (by kernel_rfl) (fun _ _ _ h => h) (by rfl) (fun w hSw => ?_) ?_; rotate_left; (have qc0 := cell_at hSw.1 0; have qc1 := cell_at hSw.1 1; have qc2 := cell_at hSw.1 2; have qc3 := cell_at hSw.1 3; simp only [wcells_get] at qc0 qc1 qc2 qc3; go_simp; first | done | with_reducible rfl); (try simp only [Act.put, List.setIfInBounds_toArray, List.set_cons_zero, List.set_cons_succ])
  refine regS 4 21 (v := ?_) hS rfl rfl (by kernel_rfl) (by kernel_rfl) (by kernel_rfl) (by kernel_rfl) (fun _ _ _ h => h) (by rfl) (fun w hSw => ?_) ?_; rotate_left; (have qc0 := cell_at hSw.2 0; have qc1 := cell_at hSw.2 1; have qc2 := cell_at hSw.2 2; have qc3 := cell_at hSw.2 3; simp only [wcells_get] at qc0 qc1 qc2 qc3; go_simp; first | done | with_reducible rfl); (try simp only [Act.put, List.setIfInBounds_toArray, List.set_cons_zero, List.set_cons_succ])
  have xc0 := cell_at gx 0; have xc1 := cell_at gx 1; have xc2 := cell_at gx 2; have xc3 := cell_at gx 3; simp only [wcells_get] at xc0 xc1 xc2 xc3
  have GX := hid gx
  have GS := hid hS
  clear hS gx hbx
  refine regOnly 0 (by kernel_rfl) rfl (by rfl) (fun K hK => ?_)
  go_wp2_with fail
  refine hK.out _ _ (fun _ h => h) ?_
  clear hK
  (try simp only [Act.put, List.setIfInBounds_toArray, List.set_cons_zero, List.set_cons_succ])
  clear xc0 xc1 xc2 xc3
  refine regOnly 2 (by kernel_rfl) rfl (by rfl) (fun K hK => ?_)
  go_wp2_with (go_at_call 50; refine (CA.out _).mono ?_; rintro e w1 ⟨rfl, hm⟩)
  refine hK.out _ _ (fun _ h => ⟨hm.get h.1 (by simp), hm.get h.2 (by simp)⟩) ?_
  clear hK
  (try simp only [Act.put, List.setIfInBounds_toArray, List.set_cons_zero, List.set_cons_succ])
  have hM := hM.trans hm
  clear hm
  refine regOnly 5 (by kernel_rfl) rfl (by rfl) (fun K hK => ?_)
  go_wp2_with (go_at_call 50; refine (CB.out _).mono ?_; rintro e w2 ⟨rfl, hm⟩)
  refine hK.out _ _ (fun _ h => ⟨hm.get h.1 (by simp), hm.get h.2 (by simp)⟩) ?_
  clear hK
  (try simp only [Act.put, List.setIfInBounds_toArray, List.set_cons_zero, List.set_cons_succ])
  have hM := hM.trans hm
  clear hm
  have hbx := HB.out.mod hM
  have gr := hM.get HR.out (by simp)
  have hT := HT.out
  have gx := hbx.1
  have xc0 := cell_at gx 0; have xc1 := cell_at gx 1; have xc2 := cell_at gx 2; have xc3 := cell_at gx 3; simp only [wcells_get] at xc0 xc1 xc2 xc3
  have xf0 := free_at gx 0; have xf1 := free_at gx 1; have xf2 := free_at gx 2; have xf3 := free_at gx 3
  have g1 := hid (set4_at gx p0 p1 p2 p3)
  have g2 := hid (set4_keep (b := ta) hbx.2.1 (by omega) p0 p1 p2 p3)
  have g3 := hid (set4_keep (b := ta) hbx.2.2 (by omega) p0 p1 p2 p3)
  have g4 := hid (set4_keep (b := ta) gr (by omega) p0 p1 p2 p3)
  have nn : tb ≠ ta ∧ tc ≠ ta := by omega
  have NE := hid nn
  clear gx hbx gr hT nn
  refine regOnly 6 (by kernel_rfl) rfl (by rfl) (fun K hK => ?_)
  go_wp2_with fail
  refine hK.out _ _ (fun _ h => ⟨set4_keep h.1 NE.out.1 _ _ _ _, set4_keep h.2 NE.out.2 _ _ _ _⟩) ?_
  clear hK
  (try simp only [Act.put, List.setIfInBounds_toArray, List.set_cons_zero, List.set_cons_succ])
  clear xc0 xc1 xc2 xc3
  clear xf0 xf1 xf2 xf3
  have hta : w.heap.size ≤ ta := HT.out.1
  refine regAbs (fun W9 => W9.heap[ta]? = some (.cells (wcells [p0, p1, p2, p3]) 26) ∧ W9.heap[tb]? = some (.cells (wcells [y0, y1, y2, y3]) 26) ∧ W9.heap[tc]? = some (.cells (wcells [z0, z1, z2, z3]) 26) ∧ W9.heap[tr]? = some (.cells (wcells [0, 0, 0, 0]) 26) ∧ Mod [] w W9) ⟨g1.out, g2.out, g3.out, g4.out, set4_mod hta (HM.out.1.trans hM) _ _ _ _⟩ ?_
  clear g1 g2 g3 g4
  rintro W9 ⟨gx, gy, gz, gr, hm9⟩
  have yc0 := cell_at gy 0; have yc1 := cell_at gy 1; have yc2 := cell_at gy 2; have yc3 := cell_at gy 3; simp only [wcells_get] at yc0 yc1 yc2 yc3
  have yf0 := free_at gy 0; have yf1 := free_at gy 1; have yf2 := free_at gy 2; have yf3 := free_at gy 3
  have hT := HT.out
  have g1 := hid (set4_at gy q0 q1 q2 q3)
  have g2 := hid (set4_keep (b := tb) gx (by omega) q0 q1 q2 q3)
  have g3 := hid (set4_keep (b := tb) gz (by omega) q0 q1 q2 q3)
  have g4 := hid (set4_keep (b := tb) gr (by omega) q0 q1 q2 q3)
  have HM9 := hid hm9
  clear gx gy gz gr hm9 hT
  refine regOnly 7 (by kernel_rfl) rfl (by rfl) (fun K hK => ?_)
  go_wp2_with fail
  refine hK.out _ _ (fun h _ => absurd h (by decide)) ?_
  clear hK
  (try simp only [Act.put, List.setIfInBounds_toArray, List.set_cons_zero, List.set_cons_succ])
  clear yc0 yc1 yc2 yc3
  clear yf0 yf1 yf2 yf3
  refine regAbs (fun W9 => W9.heap[ta]? = some (.cells (wcells [p0, p1, p2, p3]) 26) ∧ W9.heap[tb]? = some (.cells (wcells [q0, q1, q2, q3]) 26) ∧ W9.heap[tc]? = some (.cells (wcells [z0, z1, z2, z3]) 26) ∧ W9.heap[tr]? = some (.cells (wcells [0, 0, 0, 0]) 26) ∧ Mod [] w W9) ⟨g2.out, g1.out, g3.out, g4.out, set4_mod (by have := HT.out; omega) HM9.out _ _ _ _⟩ ?_
  clear g1 g2 g3 g4
  rintro W10 ⟨gx, gy, gz, gr, hm10⟩
  refine regDone (by kernel_rfl) ?_ _
  have xc0 := cell_at gx 0; have xc1 := cell_at gx 1; have xc2 := cell_at gx 2; have xc3 := cell_at gx 3; simp only [wcells_get] at xc0 xc1 xc2 xc3
  have yc0 := cell_at gy 0; have yc1 := cell_at gy 1; have yc2 := cell_at gy 2; have yc3 := cell_at gy 3; simp only [wcells_get] at yc0 yc1 yc2 yc3
  have HN := hid (And.intro gx (And.intro gy (And.intro gz (And.intro gr hm10))))
  clear gx gy gz gr hm10
  go_upto_region 5 with (go_at_call 63; refine (CS.out _).mono ?_; rintro e w4 ⟨rfl, hm1⟩; have H4 := hid hm1; clear hm1)
  clear xc0 xc1 xc2 xc3
  clear yc0 yc1 yc2 yc3
  refine wp_abs (fun W9 => W9.heap[w4.heap.size]? = some (.cells (wcells [d0, d1, d2, d3]) 26) ∧ Mod [] W10 W9) ⟨get_new _ _, H4.out.alloc _⟩ ?_
  generalize w4.heap.size = td at *
  rintro W11 ⟨gd, hm11⟩
  have gx := hm11.get HN.out.1 (by simp)
  have gy := hm11.get HN.out.2.1 (by simp)
  have gz := hm11.get HN.out.2.2.1 (by simp)
  have gr := hm11.get HN.out.2.2.2.1 (by simp)
  have hm := HN.out.2.2.2.2.trans hm11
  clear hm11 H4 HN HM9 hM NE GS GX H1 HB HR
  by_cases hlt : a' < b'
  · have F := hid (F2.out hlt)
    simp only [decide_eq_true hlt]
    clear hlt
    have zc0 := cell_at gz 0; have zc1 := cell_at gz 1; have zc2 := cell_at gz 2; have zc3 := cell_at gz 3; simp only [wcells_get] at zc0 zc1 zc2 zc3
    have yc0 := cell_at gy 0; have yc1 := cell_at gy 1; have yc2 := cell_at gy 2; have yc3 := cell_at gy 3; simp only [wcells_get] at yc0 yc1 yc2 yc3
    have HN := hid (And.intro gx (And.intro gr hm))
    clear gx gy gz gr gd hm
    go_upto_region 8 with (go_at_call 63; refine (CT.out _).mono ?_; rintro e w5 ⟨rfl, hm1⟩; have H5 := hid hm1; clear hm1)
    clear yc0 yc1 yc2 yc3
    clear zc0 zc1 zc2 zc3
    refine wp_abs (fun W9 => W9.heap[w5.heap.size]? = some (.cells (wcells [k0, k1, k2, k3]) 26) ∧ Mod [] W11 W9) ⟨get_new _ _, H5.out.alloc _⟩ ?_
    generalize w5.heap.size = tk at *
    rintro W12 ⟨gk, hm12⟩
    have gx := hm12.get HN.out.1 (by simp)
    have gr := hm12.get HN.out.2.1 (by simp)
    have hm := HN.out.2.2.trans hm12
    clear hm12 H5 HN
    have xc0 := cell_at gx 0; have xc1 := cell_at gx 1; have xc2 := cell_at gx 2; have xc3 := cell_at gx 3; simp only [wcells_get] at xc0 xc1 xc2 xc3
    have kc0 := cell_at gk 0; have kc1 := cell_at gk 1; have kc2 := cell_at gk 2; have kc3 := cell_at gk 3; simp only [wcells_get] at kc0 kc1 kc2 kc3
    have HN := hid (And.intro gr hm)
    clear gx gk gr hm
    go_upto_region 9 with (go_at_call 62; refine (CD.out _).mono ?_; rintro e w6 ⟨rfl, hm1⟩; have H6 := hid hm1; clear hm1)
    clear xc0 xc1 xc2 xc3
    clear kc0 kc1 kc2 kc3
    refine wp_abs (fun W9 => W9.heap[w6.heap.size]? = some (.cells (wcells [s0, s1, s2, s3]) 26) ∧ Mod [] W12 W9) ⟨get_new _ _, H6.out.alloc _⟩ ?_
    generalize w6.heap.size = ts at *
    rintro W13 ⟨gs, hm13⟩
    have gr := hm13.get HN.out.1 (by simp)
    have hm := HN.out.2.trans hm13
    clear hm13 H6 HN
    have sc0 := cell_at gs 0; have sc1 := cell_at gs 1; have sc2 := cell_at gs 2; have sc3 := cell_at gs 3; simp only [wcells_get] at sc0 sc1 sc2 sc3
    have rc0 := cell_at gr 0; have rc1 := cell_at gr 1; have rc2 := cell_at gr 2; have rc3 := cell_at gr 3; simp only [wcells_get] at rc0 rc1 rc2 rc3
    have rf0 := free_at gr 0; have rf1 := free_at gr 1; have rf2 := free_at gr 2; have rf3 := free_at gr 3
    have g := hid (And.intro (set4_at gr s0 s1 s2 s3) hm)
    clear gs gr hm
    go_wp2_with fail
    have g2 := g.out.1
    clear rc0 rc1 rc2 rc3
    clear rf0 rf1 rf2 rf3
    have rc0 := cell_at g2 0; have rc1 := cell_at g2 1; have rc2 := cell_at g2 2; have rc3 := cell_at g2 3; simp only [wcells_get] at rc0 rc1 rc2 rc3
    exact bodyPost_ret (v := .tuple #[.agg #[.int .u64 (s0 : Int), .int .u64 (s1 : Int), .int .u64 (s2 : Int), .int .u64 (s3 : Int)], .int .i64 0]) (by simp [results, Tryd.results51, go_sem, rc0, rc1, rc2, rc3]) rfl ⟨by rw [F.out], set4_mod HM.out.2 g.out.2 _ _ _ _⟩
  · have F := hid (F1.out hlt)
    simp only [decide_eq_false hlt]
    clear hlt
    have dc0 := cell_at gd 0; have dc1 := cell_at gd 1; have dc2 := cell_at gd 2; have dc3 := cell_at gd 3; simp only [wcells_get] at dc0 dc1 dc2 dc3
    have rc0 := cell_at gr 0; have rc1 := cell_at gr 1; have rc2 := cell_at gr 2; have rc3 := cell_at gr 3; simp only [wcells_get] at rc0 rc1 rc2 rc3
    have rf0 := free_at gr 0; have rf1 := free_at gr 1; have rf2 := free_at gr 2; have rf3 := free_at gr 3
    have g := hid (And.intro (set4_at gr d0 d1 d2 d3) hm)
    clear gx gy gz gr gd hm
    go_wp2_with fail
    have g2 := g.out.1
    clear rc0 rc1 rc2 rc3
    clear rf0 rf1 rf2 rf3
    have rc0 := cell_at g2 0; have rc1 := cell_at g2 1; have rc2 := cell_at g2 2; have rc3 := cell_at g2 3; simp only [wcells_get] at rc0 rc1 rc2 rc3
    exact bodyPost_ret (v := .tuple #[.agg #[.int .u64 (d0 : Int), .int .u64 (d1 : Int), .int .u64 (d2 : Int), .int .u64 (d3 : Int)], .int .i64 0]) (by simp [results, Tryd.results51, go_sem, rc0, rc1, rc2, rc3]) rfl ⟨by rw [F.out], set4_mod HM.out.2 g.out.2 _ _ _ _⟩
end Go.Proofs.YtdgmnhiffoemmaaDoor
