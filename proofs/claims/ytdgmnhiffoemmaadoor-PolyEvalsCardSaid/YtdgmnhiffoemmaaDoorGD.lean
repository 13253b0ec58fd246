/-
  limb over numbers: Of, Widen, Divide; mod.Reduce, none. No statement of a claim stands here; each contract names what it asks.
-/
import Derived.Test.YtdgmnhiffoemmaaDoorY9
set_option linter.unusedSimpArgs false
namespace Go.Proofs.YtdgmnhiffoemmaaDoor
open Go Go.RowKit Go.ChangeMaps

/-- A wide number's eight cells. -/
def lit8 (a b c d e f g h : Nat) : Value := .agg #[.int .u64 (a : Int), .int .u64 (b : Int), .int .u64 (c : Int), .int .u64 (d : Int), .int .u64 (e : Int), .int .u64 (f : Int), .int .u64 (g : Int), .int .u64 (h : Int)]
theorem wv_lit8 (a b c d e f g h : Nat) : wv [a, b, c, d, e, f, g, h] = lit8 a b c d e f g h := by rfl
theorem wdv_lit (n : Nat) : ∃ a b c d e f g h, wdv n = lit8 a b c d e f g h := by
  have hl := parts_len n 8
  unfold wdv
  generalize parts n 8 = l at *
  match l, hl with
  | [a, b, c, d, e, f, g, h], _ => exact ⟨a, b, c, d, e, f, g, h, wv_lit8 ..⟩

/-- 2 to the 512. -/
def WW : Nat := BB ^ 8
theorem WW_eq : WW = BB ^ 8 := by unfold WW; rfl
theorem parts_wide {a : Nat} (ha : a < WW) : val (parts a 8) = a := by
  rw [val_parts]
  rw [WW_eq] at ha
  exact Nat.mod_eq_of_lt ha
theorem NN_le : NN ≤ WW := by
  rw [NN_eq, WW_eq]
  exact Nat.pow_le_pow_right BB_pos (by decide)
theorem NN_mul {a b : Nat} (ha : a < NN) (hb : b < NN) : a * b < WW := by
  have h1 : NN * NN = WW := by rw [NN_eq, WW_eq, ← Nat.pow_add]
  rw [← h1]
  exact Nat.mul_lt_mul'' ha hb
theorem BB_NN : BB < NN := by
  rw [NN_eq]
  have h : BB ^ 1 < BB ^ 4 := Nat.pow_lt_pow_right (by decide) (by decide)
  rwa [Nat.pow_one] at h
theorem NN_pos : 0 < NN := Nat.lt_trans BB_pos BB_NN

theorem ldiv {a m : Nat} (ha : a < WW) (hm : m < NN) (h0 : m ≠ 0) (w : World) :
    Calls Tryd.prog 56 #[wdv a, nv m] w fun e w' => e = .returned (.tuple #[wdv (a / m), nv (a % m), .int .i64 0]) ∧ Mod [] w w' := by
  have e1 := parts_wide ha
  have e2 := parts_num hm
  refine (ldiv_words (parts a 8) (parts m 4) (parts_len _ _) (parts_len _ _) (parts_small _ _) (parts_small _ _) (by rw [e2]; exact h0) w).mono ?_
  rintro e w' ⟨⟨Q, R, hQ, sQ, hR, sR, vQ, vR, rfl⟩, hm⟩
  rw [e1, e2] at vQ vR
  refine ⟨?_, hm⟩
  rw [parts_of sQ hQ vQ, parts_of sR hR vR]
  rfl
theorem lof {x : Nat} (hx : x < BB) (w : World) : Calls Tryd.prog 30 #[.int .u64 x] w fun e w' => e = .returned (nv x) ∧ Mod [] w w' := by
  refine (of_any x w).mono ?_
  rintro e w' ⟨rfl, hm⟩
  refine ⟨?_, hm⟩
  have h : parts x 4 = [x, 0, 0, 0] := by
    simp only [parts, Nat.mod_eq_of_lt hx, Nat.div_eq_of_lt hx, Nat.zero_div, Nat.zero_mod]
  unfold nv
  rw [h]
theorem lwiden {a : Nat} (ha : a < NN) (w : World) : Calls Tryd.prog 41 #[nv a] w fun e w' => e = .returned (wdv a) ∧ Mod [] w w' := by
  obtain ⟨a0, a1, a2, a3, h1, h2⟩ := nv_words a
  rw [h1]
  refine (widen_any a0 a1 a2 a3 w).mono ?_
  rintro e w' ⟨rfl, hm⟩
  refine ⟨?_, hm⟩
  have hs : Small [a0, a1, a2, a3] := by rw [← h2]; exact parts_small _ _
  have hv : val [a0, a1, a2, a3] = a := by rw [← h2]; exact parts_num ha
  have h8 : Small ([a0, a1, a2, a3] ++ List.replicate 4 0) := hs.append (Small.zeros 4)
  have h9 : val ([a0, a1, a2, a3] ++ List.replicate 4 0) = a := by rw [val_append, val_zeros, Nat.mul_zero, Nat.add_zero, hv]
  have := parts_of h8 (k := 8) rfl h9
  unfold wdv
  rw [← this]
  rfl

theorem two_b (w : World) (A B : Obj) : ((w.alloc A).alloc B).heap[w.heap.size + 1]? = some B := by
  have h := get_new (w.alloc A) B
  have e : (w.alloc A).heap.size = w.heap.size + 1 := Array.size_push _
  rwa [e] at h

set_option maxRecDepth 100000 in
theorem mreduce {a m : Nat} (ha : a < WW) (hm : m < NN) (h0 : m ≠ 0) (w : World) :
    Calls Tryd.prog 40 #[wdv a, nv m] w fun e w' => e = .returned (.tuple #[nv (a % m), .int .i64 0]) ∧ Mod [] w w' := by
  have c := fun W => ldiv ha hm h0 W
  obtain ⟨x0, x1, x2, x3, x4, x5, x6, x7, hx⟩ := wdv_lit a
  obtain ⟨q0, q1, q2, q3, q4, q5, q6, q7, hq⟩ := wdv_lit (a / m)
  obtain ⟨y0, y1, y2, y3, hy⟩ := nv_lit m
  obtain ⟨r0, r1, r2, r3, hr⟩ := nv_lit (a % m)
  rw [hx, hy, hq, hr] at c
  rw [hx, hy, hr]
  clear hx hy hq hr ha hm h0
  unfold lit8 lit4 at *
  have C := hid c
  clear c
  go_enter Tryd.func40, Tryd.ntmps40
  go_upto_region 2 with (go_at_call 56; refine (C.out _).mono ?_; rintro e w' ⟨rfl, hm⟩; have hg : w'.heap[w.heap.size + 1 + 1]? = some (.cells (wcells [0, 0, 0, 0]) 26) := hm.get (three_c w _ _ _) (by simp); have HG := hid (And.intro hg ((((Mod.refl [] w).alloc _).alloc _).alloc _ |>.trans hm)); clear hg hm)
  refine wp_abs (fun W => W.heap[w.heap.size + 1 + 1]? = some (.cells (wcells [0, 0, 0, 0]) 26) ∧ W.heap[w'.heap.size + 1]? = some (.cells (wcells [r0, r1, r2, r3]) 26) ∧ Mod [] w W)
    ⟨get_alloc (get_alloc HG.out.1 _) _, two_b w' _ _, (HG.out.2.alloc _).alloc _⟩ ?_
  rintro W ⟨hg, h7, hm⟩
  generalize w'.heap.size + 1 = t7 at *
  generalize ht : w.heap.size + 1 + 1 = tr at *
  have kc0 := cell_at hg 0; have kc1 := cell_at hg 1; have kc2 := cell_at hg 2; have kc3 := cell_at hg 3; simp only [wcells_get] at kc0 kc1 kc2 kc3
  have kf0 := free_at hg 0; have kf1 := free_at hg 1; have kf2 := free_at hg 2; have kf3 := free_at hg 3
  have dc0 := cell_at h7 0; have dc1 := cell_at h7 1; have dc2 := cell_at h7 2; have dc3 := cell_at h7 3; simp only [wcells_get] at dc0 dc1 dc2 dc3
  have HM := hid (And.intro hm (And.intro hg ht))
  clear hm hg h7 ht HG C
  go_wp2_with fail
  obtain ⟨hm, hg, ht⟩ := HM.out
  have q := set4_at hg r0 r1 r2 r3
  clear kc0 kc1 kc2 kc3
  clear kf0 kf1 kf2 kf3
  have kc0 := cell_at q 0; have kc1 := cell_at q 1; have kc2 := cell_at q 2; have kc3 := cell_at q 3; simp only [wcells_get] at kc0 kc1 kc2 kc3
  refine bodyPost_ret (v := .tuple #[.agg #[.int .u64 (r0 : Int), .int .u64 (r1 : Int), .int .u64 (r2 : Int), .int .u64 (r3 : Int)], .int .i64 0]) ?_ rfl ⟨rfl, ?_⟩
  · simp [results, Tryd.results40, go_sem, kc0, kc1, kc2, kc3]
  · have hl : w.heap.size ≤ tr := by omega
    exact (((hm.setCell (.inr hl) _).setCell (.inr hl) _).setCell (.inr hl) _).setCell (.inr hl) _
end Go.Proofs.YtdgmnhiffoemmaaDoor
/-
  mod.none, small, plus. No statement of a claim stands here; each contract names what it asks.
-/
set_option linter.unusedSimpArgs false
namespace Go.Proofs.YtdgmnhiffoemmaaDoor
open Go Go.RowKit Go.ChangeMaps

theorem nv_zero : nv 0 = .agg #[.int .u64 0, .int .u64 0, .int .u64 0, .int .u64 0] := by
  simp [nv, parts, wv]
theorem nv_one : nv 1 = .agg #[.int .u64 1, .int .u64 0, .int .u64 0, .int .u64 0] := by
  simp [nv, parts, wv, BB]

set_option maxRecDepth 100000 in
theorem mnone {m : Nat} (hm : m < NN) (w : World) : Calls Tryd.prog 48 #[nv m] w fun e w' => e = .returned (.bool (decide (m = 0))) ∧ Mod [] w w' := by
  have q := fun W => equalIn_nv hm NN_pos W
  obtain ⟨x0, x1, x2, x3, hx⟩ := nv_lit m
  rw [hx, nv_zero] at q
  rw [hx]
  clear hx
  unfold lit4 at *
  go_enter Tryd.func48, Tryd.ntmps48
  go_wp2_with (simp only [q])
  exact bodyPost_ret (v := .bool (decide (m = 0))) (by simp [results, Tryd.results48, go_sem]) rfl ⟨rfl, (Mod.refl _ _).alloc _⟩

set_option maxRecDepth 100000 in
theorem mplus {a b m : Nat} (ha : a < m) (hb : b < m) (hm : m < NN) (w : World) :
    Calls Tryd.prog 49 #[nv a, nv b, nv m] w fun e w' => e = .returned (nv ((a + b) % m)) ∧ Mod [] w w' := by
  have ca := fun W => ladd (a := a) (b := b) (by omega) (by omega) W
  have cs := fun W => lsub (a := (a + b) % NN) (b := m) (Nat.mod_lt _ NN_pos) hm W
  have hr : (a + b) % m = if decide (NN ≤ a + b) || !decide ((a + b) % NN < m) then ((a + b) % NN + NN - m) % NN else (a + b) % NN := by
    have hN := NN_pos
    generalize NN = N at *
    by_cases h1 : N ≤ a + b
    · have e1 : (a + b) % N = a + b - N := by rw [Nat.mod_eq_sub_mod h1, Nat.mod_eq_of_lt (by omega)]
      have e2 : (a + b) % m = a + b - m := by rw [Nat.mod_eq_sub_mod (by omega), Nat.mod_eq_of_lt (by omega)]
      simp only [decide_eq_true h1, Bool.true_or, if_true, e1, e2]
      rw [Nat.mod_eq_of_lt (by omega)]
      omega
    · have e1 : (a + b) % N = a + b := Nat.mod_eq_of_lt (by omega)
      by_cases h2 : a + b < m
      · simp [h1, e1, h2, Nat.mod_eq_of_lt h2]
      · have e2 : (a + b) % m = a + b - m := by rw [Nat.mod_eq_sub_mod (by omega), Nat.mod_eq_of_lt (by omega)]
        simp only [e1, e2, decide_eq_false h2, Bool.not_false, Bool.or_true, if_true]
        rw [Nat.mod_eq_sub_mod (by omega), Nat.mod_eq_of_lt (by omega)]
        omega
  rw [hr]
  generalize decide (NN ≤ a + b) = p at *
  generalize decide ((a + b) % NN < m) = q at *
  generalize ((a + b) % NN + NN - m) % NN = d at *
  generalize (a + b) % NN = s at *
  clear hr ha hb hm
  obtain ⟨x0, x1, x2, x3, hx⟩ := nv_lit a
  obtain ⟨y0, y1, y2, y3, hy⟩ := nv_lit b
  obtain ⟨z0, z1, z2, z3, hz⟩ := nv_lit m
  obtain ⟨s0, s1, s2, s3, hs⟩ := nv_lit s
  obtain ⟨d0, d1, d2, d3, hd⟩ := nv_lit d
  rw [hx, hy, hs] at ca
  rw [hs, hz, hd] at cs
  rw [hx, hy, hz, show nv (if p || !q then d else s) = if p || !q then nv d else nv s by split <;> rfl, hs, hd]
  clear hx hy hz hs hd
  unfold lit4 at *
  cases p <;> cases q <;> simp only [Bool.not_true, Bool.not_false, Bool.true_or, Bool.or_true, Bool.or_false, if_true, if_false, Bool.false_eq_true]
  all_goals
    have CA := hid ca
    have CS := hid cs
    clear ca cs
    go_enter Tryd.func49, Tryd.ntmps49
    go_upto_region 1 with fail
    refine wp_abs (fun W => W.heap[w.heap.size]? = some (.cells (wcells [x0, x1, x2, x3]) 26) ∧ W.heap[w.heap.size + 1]? = some (.cells (wcells [y0, y1, y2, y3]) 26) ∧ W.heap[w.heap.size + 1 + 1]? = some (.cells (wcells [z0, z1, z2, z3]) 26) ∧ W.heap[w.heap.size + 1 + 1 + 1]? = some (.cells (wcells [0, 0, 0, 0]) 26) ∧ Mod [] w W) (four_new w _ _ _ _) ?_
    rintro W ⟨gx, gy, gz, gr, hm⟩
    generalize hta : w.heap.size = ta at *
    generalize htb : ta + 1 = tb at *
    generalize htc : tb + 1 = tc at *
    generalize htr : tc + 1 = tr at *
    have xc0 := cell_at gx 0; have xc1 := cell_at gx 1; have xc2 := cell_at gx 2; have xc3 := cell_at gx 3; simp only [wcells_get] at xc0 xc1 xc2 xc3
    have yc0 := cell_at gy 0; have yc1 := cell_at gy 1; have yc2 := cell_at gy 2; have yc3 := cell_at gy 3; simp only [wcells_get] at yc0 yc1 yc2 yc3
    have HM := hid (And.intro gz (And.intro gr (And.intro hm (And.intro hta (And.intro htb (And.intro htc htr))))))
    clear gx gy gz gr hm hta htb htc htr
    go_upto_region 2 with (go_at_call 62; refine (CA.out _).mono ?_; rintro e w1 ⟨rfl, hm1⟩; have H1 := hid hm1; clear hm1)
    clear xc0 xc1 xc2 xc3
    clear yc0 yc1 yc2 yc3
    refine wp_abs (fun W2 => W2.heap[w1.heap.size]? = some (.cells (wcells [s0, s1, s2, s3]) 26) ∧ W2.heap[tc]? = some (.cells (wcells [z0, z1, z2, z3]) 26) ∧ W2.heap[tr]? = some (.cells (wcells [0, 0, 0, 0]) 26) ∧ Mod [] W W2) ⟨get_new _ _, get_alloc (H1.out.get HM.out.1 (by simp)) _, get_alloc (H1.out.get HM.out.2.1 (by simp)) _, H1.out.alloc _⟩ ?_
    rintro W2 ⟨gs, gz, gr, hm2⟩
    generalize w1.heap.size = ts at *
    have sc0 := cell_at gs 0; have sc1 := cell_at gs 1; have sc2 := cell_at gs 2; have sc3 := cell_at gs 3; simp only [wcells_get] at sc0 sc1 sc2 sc3
    have zc0 := cell_at gz 0; have zc1 := cell_at gz 1; have zc2 := cell_at gz 2; have zc3 := cell_at gz 3; simp only [wcells_get] at zc0 zc1 zc2 zc3
    have HM2 := hid (And.intro gs (And.intro gr hm2))
    clear gs gz gr hm2 H1
    go_upto_region 3 with (go_at_call 63; refine (CS.out _).mono ?_; rintro e w3 ⟨rfl, hm1⟩; have H1 := hid hm1; clear hm1)
    clear sc0 sc1 sc2 sc3
    clear zc0 zc1 zc2 zc3
    refine wp_abs (fun W3 => W3.heap[w3.heap.size]? = some (.cells (wcells [d0, d1, d2, d3]) 26) ∧ W3.heap[ts]? = some (.cells (wcells [s0, s1, s2, s3]) 26) ∧ W3.heap[tr]? = some (.cells (wcells [0, 0, 0, 0]) 26) ∧ Mod [] W2 W3) ⟨get_new _ _, get_alloc (H1.out.get HM2.out.1 (by simp)) _, get_alloc (H1.out.get HM2.out.2.1 (by simp)) _, H1.out.alloc _⟩ ?_
    rintro W3 ⟨gd, gs, gr, hm3⟩
    generalize w3.heap.size = td at *
    have dc0 := cell_at gd 0; have dc1 := cell_at gd 1; have dc2 := cell_at gd 2; have dc3 := cell_at gd 3; simp only [wcells_get] at dc0 dc1 dc2 dc3
    have sc0 := cell_at gs 0; have sc1 := cell_at gs 1; have sc2 := cell_at gs 2; have sc3 := cell_at gs 3; simp only [wcells_get] at sc0 sc1 sc2 sc3
    have rc0 := cell_at gr 0; have rc1 := cell_at gr 1; have rc2 := cell_at gr 2; have rc3 := cell_at gr 3; simp only [wcells_get] at rc0 rc1 rc2 rc3
    have rf0 := free_at gr 0; have rf1 := free_at gr 1; have rf2 := free_at gr 2; have rf3 := free_at gr 3
    have HM3 := hid (And.intro gr hm3)
    clear gd gs gr hm3 H1
    have HE : Hid (∀ v0 v1 v2 v3 : Nat, Mod [] w ((((W3.setCell ⟨tr, 0, none⟩ (.int .u64 (v0 : Int))).setCell ⟨tr, 1, none⟩ (.int .u64 (v1 : Int))).setCell ⟨tr, 2, none⟩ (.int .u64 (v2 : Int))).setCell ⟨tr, 3, none⟩ (.int .u64 (v3 : Int)))) := by
      intro v0 v1 v2 v3
      obtain ⟨-, -, hm, hta, htb, htc, htr⟩ := HM.out
      have hl : w.heap.size ≤ tr := by omega
      have m := (hm.trans HM2.out.2.2).trans HM3.out.2
      exact (((m.setCell (p := ⟨tr, 0, none⟩) (.inr hl) _).setCell (p := ⟨tr, 1, none⟩) (.inr hl) _).setCell (p := ⟨tr, 2, none⟩) (.inr hl) _).setCell (p := ⟨tr, 3, none⟩) (.inr hl) _
    go_wp2_with fail
    first
      | (have g := set4_at HM3.out.1 d0 d1 d2 d3
         clear rc0 rc1 rc2 rc3
         clear rf0 rf1 rf2 rf3
         have rc0 := cell_at g 0; have rc1 := cell_at g 1; have rc2 := cell_at g 2; have rc3 := cell_at g 3; simp only [wcells_get] at rc0 rc1 rc2 rc3
         exact bodyPost_ret (v := .agg #[.int .u64 (d0 : Int), .int .u64 (d1 : Int), .int .u64 (d2 : Int), .int .u64 (d3 : Int)]) (by simp [results, Tryd.results49, go_sem, rc0, rc1, rc2, rc3]) rfl ⟨rfl, HE.out _ _ _ _⟩)
      | (have g := set4_at HM3.out.1 s0 s1 s2 s3
         clear rc0 rc1 rc2 rc3
         clear rf0 rf1 rf2 rf3
         have rc0 := cell_at g 0; have rc1 := cell_at g 1; have rc2 := cell_at g 2; have rc3 := cell_at g 3; simp only [wcells_get] at rc0 rc1 rc2 rc3
         exact bodyPost_ret (v := .agg #[.int .u64 (s0 : Int), .int .u64 (s1 : Int), .int .u64 (s2 : Int), .int .u64 (s3 : Int)]) (by simp [results, Tryd.results49, go_sem, rc0, rc1, rc2, rc3]) rfl ⟨rfl, HE.out _ _ _ _⟩)
end Go.Proofs.YtdgmnhiffoemmaaDoor
