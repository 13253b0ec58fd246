/-
  The reference's limb.Mul. No statement of a claim stands here; each contract names what it asks.
-/
import Derived.Test.YtdgmnhiffoemmaaDoorZG0
import Derived.Test.YtdgmnhiffoemmaaDoorZ8
set_option linter.unusedSimpArgs false
namespace Go.Proofs.YtdgmnhiffoemmaaDoor
open Go Go.RowKit Go.ChangeMaps

/-- Digits lie in a block, from its start. -/
def DigRow (w : World) (g : Nat) (D : List Nat) : Prop := ∃ (cur : Array Value) (T : TypeId) (f : Nat × Nat), w.heap[g]? = some (.cells cur T f) ∧ ∀ (i d : Nat), D[i]? = some d → cur[i]? = some (Value.int .u64 (d : Int))
theorem DigRow.mod {S : List Nat} {w w' : World} {g : Nat} {D : List Nat} (h : DigRow w g D) (m : Mod S w w') (hn : g ∉ S) : DigRow w' g D := by
  obtain ⟨cur, T, f, hg, hc⟩ := h
  exact ⟨cur, T, f, m.get hg hn, hc⟩
theorem DigRow.cell {w : World} {g : Nat} {D : List Nat} (h : DigRow w g D) {i d : Nat} (hd : D[i]? = some d) : w.cell? ⟨g, i, none⟩ = some (.int .u64 (d : Int)) := by
  obtain ⟨cur, T, f, hg, hc⟩ := h
  rw [cell_at hg]
  exact hc i d hd
theorem DigRow.lt {w : World} {g : Nat} {D : List Nat} (h : DigRow w g D) : g < w.heap.size := by
  obtain ⟨cur, T, f, hg, -⟩ := h
  exact lt_of_block hg
theorem Us.digRow {B : Nat} {w : World} {v : Value} {D : List Nat} (h : Us B w v D) (hl : D ≠ []) : ∃ g c, v = .slice (some ⟨g, 0, none⟩) D.length c ∧ DigRow w g D := by
  obtain ⟨g, c, cur, e, -, hg, hc, hx⟩ := RowOf.at h encU_len hl
  refine ⟨g, c, e, cur, _, _, hg, fun i d hd => ?_⟩
  have := hx i d hd 0 _ rfl
  rwa [Nat.mul_one, Nat.add_zero] at this

/-- A product's step, as the program comes to it. -/
theorem dig_step {a y x c : Nat} (ha : a < HB) (hy : y < HB) (hx : x < HB) (hc : c < HB) : ∃ m s nn d0 d1 : Nat, IntKind.u64.wrap ((a : Int) * (y : Int)) = (m : Int) ∧ IntKind.u64.wrap ((x : Int) + (m : Int)) = (s : Int) ∧ IntKind.u64.wrap ((s : Int) + (c : Int)) = (nn : Int) ∧
    (nn : Int).tmod 4294967296 = (d0 : Int) ∧ (nn : Int) / 4294967296 = (d1 : Int) ∧ (nn : Int).tdiv 4294967296 = (d1 : Int) ∧ IntKind.u64.wrap (d1 : Int) = (d1 : Int) ∧ (a * y + x + c) % HB = d0 ∧ (a * y + x + c) / HB = d1 ∧ d0 < HB ∧ d1 < HB := by
  have h1 : a * y ≤ (HB - 1) * (HB - 1) := Nat.mul_le_mul (by omega) (by omega)
  have h3 := hmul_carry ha hy hx hc
  have h4 := Nat.mod_lt (a * y + x + c) HB_pos
  obtain ⟨p, hp⟩ : ∃ p, a * y = p := ⟨_, rfl⟩
  have hpI : (a : Int) * (y : Int) = (p : Int) := by rw [← hp]; exact (Int.natCast_mul a y).symm
  rw [hp] at h1 h3 h4 ⊢
  rw [hpI]
  have hB : (HB - 1) * (HB - 1) = 18446744065119617025 := by decide
  rw [hB] at h1
  unfold HB at ha hy hx hc h3 h4 ⊢
  refine ⟨p, x + p, p + x + c, (p + x + c) % 4294967296, (p + x + c) / 4294967296, ?_, ?_, ?_, ?_, ?_, ?_, ?_, rfl, rfl, h4, h3⟩
  · rw [IntKind.wrap_u64]; omega
  · rw [IntKind.wrap_u64]; omega
  · rw [IntKind.wrap_u64]; omega
  · rw [Int.tmod_eq_emod_of_nonneg (by omega)]; omega
  · omega
  · rw [Int.tdiv_eq_ediv_of_nonneg (by omega)]; omega
  · rw [IntKind.wrap_u64]; omega

/-- While a product's rows are laid. -/
def RMulOut (W : World) (tg : Nat) (X Y : List Nat) (gk : Nat) (v : Value) (w : World) : Prop :=
  ∃ (j : Nat) (O : List Nat), v = .int .i64 j ∧ gk + j = 8 ∧ O.length = 17 ∧ (∀ d ∈ O, d < HB) ∧ hval O = hval (X.take j) * hval Y ∧ (∀ t, j + 8 ≤ t → t < 17 → O[t]? = some 0) ∧ w.heap[tg]? = some (.cells (wcells O) 24) ∧ Mod [tg] W w
def RMulIn (W : World) (tg j a V : Nat) (Y : List Nat) (gk : Nat) (cv kv : Value) (w : World) : Prop :=
  ∃ (k c : Nat) (O : List Nat), kv = .int .i64 k ∧ cv = .int .u64 (c : Int) ∧ gk + k = 8 ∧ c < HB ∧ O.length = 17 ∧ (∀ d ∈ O, d < HB) ∧ hval O + c * HB ^ (j + k) = V + a * hval (Y.take k) * HB ^ j ∧ (∀ t, j + 8 ≤ t → t < 17 → O[t]? = some 0) ∧ w.heap[tg]? = some (.cells (wcells O) 24) ∧ Mod [tg] W w

set_option maxRecDepth 100000 in
set_option maxHeartbeats 4000000 in
theorem rmul {a b : Nat} (ha : a < NN) (hb : b < NN) (w : World) :
    Calls Tryd.prog 55 #[nv a, nv b] w fun e w' => e = .returned (wdv (a * b)) ∧ Mod [] w w' := by
  obtain ⟨u0, u1, u2, u3, hu, pu⟩ := nv_words a
  obtain ⟨v0, v1, v2, v3, hv, pv⟩ := nv_words b
  have sU : Small [u0, u1, u2, u3] := by rw [← pu]; exact parts_small _ _
  have sV : Small [v0, v1, v2, v3] := by rw [← pv]; exact parts_small _ _
  have hX : hval (dig [u0, u1, u2, u3]) = a := by rw [hval_dig, ← pu]; exact parts_num ha
  have hY : hval (dig [v0, v1, v2, v3]) = b := by rw [hval_dig, ← pv]; exact parts_num hb
  have HS := hid (And.intro sU (And.intro sV (And.intro hX (And.intro hY (NN_mul ha hb)))))
  obtain ⟨r0, r1, r2, r3, r4, r5, r6, r7, hr⟩ := wdv_lit (a * b)
  rw [wv_lit] at hu hv
  rw [hu, hv, hr]
  have HRR := hid hr
  have hmk : ∀ W : World, (Instr.makeSlice 81 (.int .i64 17) (.int .i64 17)).run Tryd.prog W = .ok (.slice (some ⟨W.heap.size, 0, none⟩) 17 17) (W.alloc (.cells (wcells (List.replicate 17 0)) 24)) := fun W => make_parts 17 (by omega) W
  unfold lit4 lit8 at *
  clear hu hv hr pu pv sU sV hX hY ha hb
  go_enter Tryd.func55, Tryd.ntmps55
  go_upto_region 1 with fail
  refine wp_abs (fun W => W.heap[w.heap.size]? = some (.cells (wcells [u0, u1, u2, u3]) 26) ∧ W.heap[w.heap.size + 1]? = some (.cells (wcells [v0, v1, v2, v3]) 26) ∧ W.heap[w.heap.size + 1 + 1]? = some (.cells (wcells [0, 0, 0, 0, 0, 0, 0, 0]) 60) ∧ Mod [] w W) ⟨three_a w _ _ _, three_b w _ _ _, three_c w _ _ _, (((Mod.refl _ _).alloc _).alloc _).alloc _⟩ ?_
  rintro W ⟨gu, gv, gr, hm⟩
  generalize hta : w.heap.size = ta at *
  generalize htb : ta + 1 = tb at *
  generalize htr : tb + 1 = tr at *
  have HM : Hid (Mod [] w W ∧ w.heap.size ≤ tr ∧ tr < W.heap.size) := ⟨hm, by omega, lt_of_block gr⟩
  have HG := hid (And.intro gr (And.intro gu gv))
  clear hm gu gv gr hta htb htr
  refine wp_region_N (fun _ => True) (fun i => true) (by kernel_rfl) ?_
  have hm0 : Mod [] W W.drew := (Mod.refl _ _).drew
  generalize W.drew = wq at *
  have hM := Mod.refl [] wq
  have HG0 := hid hm0
  clear hm0
  refine regA 0 12 (v := ?_) rfl rfl (by kernel_rfl) (by kernel_rfl) (by kernel_rfl) (fun _ _ _ h => h) (by rfl) (fun w => ?_) ?_; rotate_left; (go_simp; first | done | with_reducible rfl); (try simp only [Act.put, List.setIfInBounds_toArray, List.set_cons_zero, List.set_cons_succ])
  refine regA 2 14 (v := ?_) rfl rfl (by kernel_rfl) (by kernel_rfl) (by kernel_rfl) (fun _ _ _ h => h) (by rfl) (fun w => ?_) ?_; rotate_left; (go_simp; first | done | with_reducible rfl); (try simp only [Act.put, List.setIfInBounds_toArray, List.set_cons_zero, List.set_cons_succ])
  have CD1 := hid (rdigits [u0, u1, u2, u3] (by simp) HS.out.1 ta 4 _ _ wq (HG0.out.get HG.out.2.1 (by simp)))
  refine regOnly 1 (by kernel_rfl) rfl (by rfl) (fun K hK => ?_)
  go_wp2_with (go_at_call 45; refine CD1.out.mono ?_; rintro e w1 ⟨⟨vx, hvx, rfl⟩, hm⟩)
  refine hK.out _ _ (fun _ _ => trivial) ?_
  clear hK
  (try simp only [Act.put, List.setIfInBounds_toArray, List.set_cons_zero, List.set_cons_succ])
  obtain ⟨gx, cx, rfl, hdx⟩ := Us.digRow hvx (by simp [dig])
  have H1 := hid (And.intro hdx (HG0.out.trans hm))
  have CD2 := hid (rdigits [v0, v1, v2, v3] (by simp) HS.out.2.1 tb 4 _ _ w1 (H1.out.2.get HG.out.2.2 (by simp)))
  clear hm hvx hdx
  refine regOnly 3 (by kernel_rfl) rfl (by rfl) (fun K hK => ?_)
  go_wp2_with (go_at_call 45; refine CD2.out.mono ?_; rintro e w2 ⟨⟨vy, hvy, rfl⟩, hm⟩)
  refine hK.out _ _ (fun _ _ => trivial) ?_
  clear hK
  (try simp only [Act.put, List.setIfInBounds_toArray, List.set_cons_zero, List.set_cons_succ])
  obtain ⟨gy, cy, rfl, hdy⟩ := Us.digRow hvy (by simp [dig])
  have H2 := hid (And.intro (H1.out.1.mod hm (by simp)) (And.intro hdy (H1.out.2.trans hm)))
  clear hm hvy hdy H1 CD1 CD2 hM
  refine regA 4 5 (v := ?_) rfl rfl (by kernel_rfl) (by kernel_rfl) (by kernel_rfl) (fun _ _ _ h => h) (by rfl) (fun w => ?_) ?_; rotate_left; (go_simp; first | done | with_reducible rfl); (try simp only [Act.put, List.setIfInBounds_toArray, List.set_cons_zero, List.set_cons_succ])
  refine regA 5 6 (v := ?_) rfl rfl (by kernel_rfl) (by kernel_rfl) (by kernel_rfl) (fun _ _ _ h => h) (by rfl) (fun w => ?_) ?_; rotate_left; (go_simp; first | done | with_reducible rfl); (try simp only [Act.put, List.setIfInBounds_toArray, List.set_cons_zero, List.set_cons_succ])
  refine regDone (by kernel_rfl) ?_ _
  go_upto_block 0 with (simp only [hmk])
  refine wp_abs (fun W3 => W3.heap[w2.heap.size]? = some (.cells (wcells (List.replicate 17 0)) 24) ∧ Mod [] w2 W3) ⟨get_new _ _, (Mod.refl _ _).alloc _⟩ ?_
  have hlt : gx < w2.heap.size ∧ gy < w2.heap.size ∧ tr < w2.heap.size ∧ w.heap.size ≤ w2.heap.size := ⟨H2.out.1.lt, H2.out.2.1.lt, Nat.lt_of_lt_of_le HM.out.2.2 H2.out.2.2.size, Nat.le_trans HM.out.1.size H2.out.2.2.size⟩
  generalize w2.heap.size = tg at *
  rintro W3 ⟨gg, hm3⟩
  have HLT := hid hlt
  have H3 := hid (And.intro (H2.out.1.mod hm3 (by simp)) (And.intro (H2.out.2.1.mod hm3 (by simp)) (And.intro (HM.out.1.trans (H2.out.2.2.trans hm3)) (And.intro gg ((H2.out.2.2.trans hm3).get HG.out.1 (by simp))))))
  have lX : (dig [u0, u1, u2, u3]).length = 8 := by simp [dig]
  have lY : (dig [v0, v1, v2, v3]).length = 8 := by simp [dig]
  have sX := dig_small HS.out.1
  have sY := dig_small HS.out.2.1
  obtain ⟨X, hX⟩ : ∃ X, dig [u0, u1, u2, u3] = X := ⟨_, rfl⟩
  obtain ⟨Y, hY⟩ : ∃ Y, dig [v0, v1, v2, v3] = Y := ⟨_, rfl⟩
  rw [hX] at lX sX H3 HS ⊢
  rw [hY] at lY sY H3 HS ⊢
  rw [lX, lY]
  have HXY := hid (And.intro lX (And.intro lY (And.intro sX sY)))
  clear gg hm3 hlt H2 HG HG0 hmk lX lY sX sY hX hY
  go_wp2_with fail
  go_loopg [8] 8 (fun gk v W' => RMulOut W3 tg X Y gk v W')
  case atStart =>
    refine ⟨0, List.replicate 17 0, rfl, rfl, by simp, fun d hd => by rw [(List.mem_replicate.1 hd).2]; exact HB_pos, ?_, fun t h1 h2 => by rw [List.getElem?_replicate, if_pos h2], H3.out.2.2.2.1, Mod.refl _ _⟩
    rw [hval_zeros, List.take_zero]
    simp [hval]
  case round =>
    obtain ⟨j, O, rfl, hgj, lO, sO, hvO, hzO, gO, hm⟩ := hrel
    by_cases hj : j < 8
    · have j1 : (j : Int) < 8 := by omega
      have j0 : (0 : Int) ≤ (j : Int) := by omega
      obtain ⟨a', hxa⟩ : ∃ d, X[j]? = some d := ⟨_, List.getElem?_eq_getElem (by have := HXY.out.1; omega)⟩
      have haB := HXY.out.2.2.1 a' (List.mem_of_getElem? hxa)
      have HJ := hid (And.intro hgj (And.intro hxa haB))
      have HO := hid (And.intro lO (And.intro sO (And.intro hvO (And.intro hzO (And.intro gO hm)))))
      clear hgj lO sO hvO hzO gO hm hxa haB
      go_wp2_with fail
      go_loopg [9, 10] 8 (fun gk cv kv W' => RMulIn W3 tg j a' (hval (X.take j) * hval Y) Y gk cv kv W')
      case atStart =>
        obtain ⟨lO, sO, hvO, hzO, gO, hm⟩ := HO.out
        exact ⟨0, 0, O, rfl, rfl, rfl, HB_pos, lO, sO, by rw [List.take_zero, hvO]; simp [hval], hzO, gO, hm⟩
      case round =>
        obtain ⟨k, c, P, rfl, rfl, hgk, hcB, lP, sP, hvP, hzP, gP, hm⟩ := hrel
        by_cases hk : k < 8
        · have k1 : (k : Int) < 8 := by omega
          have k0 : (0 : Int) ≤ (k : Int) := by omega
          obtain ⟨y, hy⟩ : ∃ d, Y[k]? = some d := ⟨_, List.getElem?_eq_getElem (by have := HXY.out.2.1; omega)⟩
          have hyB := HXY.out.2.2.2 y (List.mem_of_getElem? hy)
          obtain ⟨x, hx⟩ : ∃ d, P[j + k]? = some d := ⟨_, List.getElem?_eq_getElem (by omega)⟩
          have hxB := sP x (List.mem_of_getElem? hx)
          obtain ⟨m, s, nn, d0, d1, e1, e2, e3, e4, e5, e6, e7, f0, f1, b0, b1⟩ := dig_step HJ.out.2.2 hyB hxB hcB
          have hst := hmul_step hx hy hvP
          rw [f0, f1] at hst
          obtain ⟨t, ht⟩ : ∃ t, j + k = t := ⟨_, rfl⟩
          have ew : IntKind.i64.wrap ((j : Int) + (k : Int)) = (t : Int) := by rw [← ht]; exact IntWalk.i64_in _ (by omega)
          rw [ht] at hst hx
          have t1 : (t : Int) < 17 := by omega
          have t0 : (0 : Int) ≤ (t : Int) := by omega
          have cx1 := (H3.out.1.mod hm (by have := HLT.out; rw [List.mem_singleton]; omega)).cell HJ.out.2.1
          have cy1 := (H3.out.2.1.mod hm (by have := HLT.out; rw [List.mem_singleton]; omega)).cell hy
          have co1 := cell_of gP hx
          have fo1 := free_at gP t
          have HN := hid (And.intro hgk (And.intro lP (And.intro sP (And.intro hst (And.intro hzP (And.intro gP (And.intro hm (And.intro b0 (And.intro b1 (show t < j + 8 ∧ t + 1 = j + (k + 1) by omega))))))))))
          clear hgk hcB lP sP hvP hzP gP hm hy hyB hx hxB e6 f0 f1 b0 b1 hst ht
          go_wp2_with fail
          go_quiet (fail)
          have co2 : (wr.drewN nq).cell? ⟨tg, t, none⟩ = some (.int .u64 (x : Int)) := co1
          have fo2 : (wr.drewN nq).frozen? ⟨tg, t, none⟩ = false := fo1
          have HQ := hid (And.intro (show (wr.drewN nq).heap[tg]? = _ from HN.out.2.2.2.2.2.1) (HN.out.2.2.2.2.2.2.1.drewN nq))
          clear cx1 cy1 co1 fo1
          generalize wr.drewN nq = wq at *
          go_wp2_with fail
          obtain ⟨hgk, lP, sP, hst, hzP, -, -, b0, b1, ht1, ht2⟩ := HN.out
          have gs := get_setCell_self HQ.out.1 t (.int .u64 (d0 : Int))
          rw [wcells_set] at gs
          go_roundg (gk - 1)
          case measure => omega
          case rel =>
            refine ⟨k + 1, d1, P.set t d0, by go_num, ?_, by omega, b1, by rw [List.length_set]; exact lP, fun d hd => ?_, by rw [ht2] at hst; exact hst, fun q h1 h2 => ?_, gs, HQ.out.2.setCell (p := ⟨tg, t, none⟩) (.inl (by simp)) _⟩
            · first | rfl | (rw [e5, e7]) | (rw [e7])
            · rcases List.mem_or_eq_of_mem_set hd with h | h
              · exact sP d h
              · rw [h]; exact b0
            · rw [List.getElem?_set_ne (by omega)]
              exact hzP q h1 h2
        · have k1 : ¬ (k : Int) < 8 := by omega
          obtain rfl : k = 8 := by omega
          have hY8 : Y.take 8 = Y := List.take_of_length_le (by have := HXY.out.2.1; omega)
          have hz := hzP (j + 8) (by omega) (by omega)
          have hend := hmul_end hz hvP
          rw [hY8] at hend
          obtain ⟨t, ht⟩ : ∃ t, j + 8 = t := ⟨_, rfl⟩
          have ew : IntKind.i64.wrap ((j : Int) + 8) = (t : Int) := by rw [← ht]; exact IntWalk.i64_in _ (by omega)
          rw [ht] at hz hend
          have t1 : (t : Int) < 17 := by omega
          have t0 : (0 : Int) ≤ (t : Int) := by omega
          have co1 := cell_of gP hz
          have fo1 := free_at gP t
          have HN := hid (And.intro lP (And.intro sP (And.intro hend (And.intro hzP (And.intro gP (And.intro hm (And.intro hcB ht)))))))
          clear hgk hcB lP sP hvP hzP gP hm hz hend ht hY8
          go_wp2_with fail
          obtain ⟨lP, sP, hend, hzP, gP, hm, hcB, ht⟩ := HN.out
          have gs := get_setCell_self gP t (.int .u64 (c : Int))
          rw [wcells_set] at gs
          go_roundg (7 - j)
          case measure => have := HJ.out.1; omega
          case rel =>
            refine ⟨j + 1, P.set t c, by go_num, by have := HJ.out.1; omega, by rw [List.length_set]; exact lP, fun d hd => ?_, ?_, fun q h1 h2 => ?_, gs, hm.setCell (p := ⟨tg, t, none⟩) (.inl (by simp)) _⟩
            · rcases List.mem_or_eq_of_mem_set hd with h | h
              · exact sP d h
              · rw [h]; exact hcB
            · rw [hend, hval_take_succ HJ.out.2.1, Nat.add_mul, Nat.mul_right_comm]
            · rw [List.getElem?_set_ne (by omega)]
              exact hzP q (by omega) h2
    · have j1 : ¬ (j : Int) < 8 := by omega
      obtain rfl : j = 8 := by omega
      have hX8 : X.take 8 = X := List.take_of_length_le (by have := HXY.out.1; omega)
      rw [hX8, HS.out.2.2.1, HS.out.2.2.2.1] at hvO
      have hz := hzO 16 (by omega) (by omega)
      have hO17 : O.take 17 = O := List.take_of_length_le (by omega)
      have hv16 := hval_take_succ hz
      rw [hO17, Nat.zero_mul, Nat.add_zero, hvO] at hv16
      have l16 : (O.take 16).length = 16 := by rw [List.length_take]; omega
      have s16 : ∀ d ∈ O.take 16, d < HB := fun d hd => sO d (List.mem_of_mem_take hd)
      have hcomb : comb (O.take 16) = parts (a * b) 8 := parts_of (comb_small _ s16) (comb_len _ 8 (by omega)) (by rw [val_comb _ 8 (by omega), ← hv16])
      have hrow : Us 0 wr (.slice (some ⟨tg, 0, none⟩) 16 17) (O.take 16) := by
        refine ⟨?_, fun k hk => Nat.zero_le _⟩
        rw [l16]
        refine ⟨by rw [flatU, List.length_map, l16], .inr ⟨tg, 17, wcells O, rfl, Nat.zero_le _, gO, by omega, by unfold maxLen; omega, by simp [wcells, lO], ?_⟩⟩
        rw [flatU]
        simp [wcells, List.map_take]
      have cw := rwide (O.take 16) l16 s16 _ wr hrow
      rw [hcomb, show wv (parts (a * b) 8) = wdv (a * b) from rfl, HRR.out] at cw
      have CW := hid cw
      obtain ⟨ip, hip⟩ := Option.isSome_iff_exists.1 (show (Tryd.prog.info? 24).isSome = true by kernel_rfl)
      have hsl : ∀ W : World, (Instr.slice 81 (.slice (some ⟨tg, 0, none⟩) 17 17) none (some (.int .i64 16)) none).run Tryd.prog W = .ok (.slice (some ⟨tg, 0, none⟩) 16 17) W := fun W => slice_to (P := Tryd.prog) Tryd.underlying81 hip tg 17 17 16 (by omega) W
      clear hip
      have gr := hm.get H3.out.2.2.2.2 (by have := HLT.out; rw [List.mem_singleton]; omega)
      have hmW := H3.out.2.2.1.trans' hm (fun q hq => .inr (by rw [List.mem_singleton.1 hq]; exact HLT.out.2.2.2))
      have HE := hid (And.intro gr hmW)
      clear hgj lO sO hvO hzO gO hm hX8 hz hO17 hv16 l16 s16 hcomb hrow cw gr hmW
      go_wp2_with (first
        | simp only [hsl]
        | (go_at_call 44; refine CW.out.mono ?_; rintro e w9 ⟨rfl, hm9⟩; have g9 := hm9.get HE.out.1 (by simp); have zc0 := cell_at g9 0; have zc1 := cell_at g9 1; have zc2 := cell_at g9 2; have zc3 := cell_at g9 3; have zc4 := cell_at g9 4; have zc5 := cell_at g9 5; have zc6 := cell_at g9 6; have zc7 := cell_at g9 7; simp only [wcells_get] at zc0 zc1 zc2 zc3 zc4 zc5 zc6 zc7; have zf0 := free_at g9 0; have zf1 := free_at g9 1; have zf2 := free_at g9 2; have zf3 := free_at g9 3; have zf4 := free_at g9 4; have zf5 := free_at g9 5; have zf6 := free_at g9 6; have zf7 := free_at g9 7; have H9 := hid (And.intro g9 (HE.out.2.trans hm9)); clear hm9 g9))
      have qq := set8_at H9.out.1 r0 r1 r2 r3 r4 r5 r6 r7
      clear zc0 zc1 zc2 zc3 zc4 zc5 zc6 zc7
      clear zf0 zf1 zf2 zf3 zf4 zf5 zf6 zf7
      have zc0 := cell_at qq 0; have zc1 := cell_at qq 1; have zc2 := cell_at qq 2; have zc3 := cell_at qq 3; have zc4 := cell_at qq 4; have zc5 := cell_at qq 5; have zc6 := cell_at qq 6; have zc7 := cell_at qq 7; simp only [wcells_get] at zc0 zc1 zc2 zc3 zc4 zc5 zc6 zc7
      exact bodyPost_ret (v := .agg #[.int .u64 (r0 : Int), .int .u64 (r1 : Int), .int .u64 (r2 : Int), .int .u64 (r3 : Int), .int .u64 (r4 : Int), .int .u64 (r5 : Int), .int .u64 (r6 : Int), .int .u64 (r7 : Int)]) (by simp [results, Tryd.results55, go_sem, zc0, zc1, zc2, zc3, zc4, zc5, zc6, zc7]) rfl ⟨rfl, set8_mod (b := tr) HM.out.2.1 H9.out.2 r0 r1 r2 r3 r4 r5 r6 r7⟩
end Go.Proofs.YtdgmnhiffoemmaaDoor
