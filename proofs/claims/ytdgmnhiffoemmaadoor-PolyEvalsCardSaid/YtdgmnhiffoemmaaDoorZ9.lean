/-
  The reference's mod.Add. No statement of a claim stands here; each contract names what it asks.
-/
import Derived.Test.YtdgmnhiffoemmaaDoorZ8
set_option linter.unusedSimpArgs false
namespace Go.Proofs.YtdgmnhiffoemmaaDoor
open Go Go.RowKit Go.ChangeMaps

theorem wide_words {s s0 s1 s2 s3 : Nat} (hs : s < NN) (hp : parts s 4 = [s0, s1, s2, s3]) : parts s 8 = [s0, s1, s2, s3, 0, 0, 0, 0] ∧ parts (s + NN) 8 = [s0, s1, s2, s3, 1, 0, 0, 0] := by
  have h1 : Small [s0, s1, s2, s3] := by rw [← hp]; exact parts_small _ _
  have hv : val [s0, s1, s2, s3] = s := by rw [← hp]; exact parts_num hs
  have h8 : Small ([s0, s1, s2, s3] ++ [0, 0, 0, 0]) := h1.append (Small.zeros 4)
  have h81 : Small ([s0, s1, s2, s3] ++ [1, 0, 0, 0]) := h1.append (fun x hx => by
    simp only [List.mem_cons, List.not_mem_nil, or_false] at hx
    rcases hx with rfl | rfl | rfl | rfl <;> (unfold BB; decide))
  constructor
  · refine (parts_of h8 rfl ?_).symm
    rw [val_append, hv, show val [0, 0, 0, 0] = 0 from val_zeros 4, Nat.mul_zero, Nat.add_zero]
  · refine (parts_of h81 rfl ?_).symm
    rw [val_append, hv, show val [1, 0, 0, 0] = 1 by simp [val], Nat.mul_one]
    congr 1
theorem add_WW {a b : Nat} (ha : a < NN) (hb : b < NN) : a + b < WW := by
  have h2 : NN * 2 ≤ WW := by
    have h1 : NN * NN = WW := by rw [NN_eq, WW_eq, ← Nat.pow_add]
    rw [← h1]
    have h3 : 1 < BB := (by unfold BB; decide)
    have h4 := BB_NN
    exact Nat.mul_le_mul_left _ (by omega)
  omega

set_option maxRecDepth 100000 in
set_option maxHeartbeats 1000000 in
theorem rmadd {a b m : Nat} (ha : a < NN) (hb : b < NN) (hm : m < NN) (h0 : m ≠ 0) (w : World) :
    Calls Tryd.prog 26 #[nv a, nv b, nv m] w fun e w' => e = .returned (.tuple #[nv ((a + b) % m), .int .i64 0]) ∧ Mod [] w w' := by
  have ca := fun W => radd ha hb W
  have hsN : (a + b) % NN < NN := Nat.mod_lt _ NN_pos
  have cw := fun W => rwiden hsN W
  have cr := fun W => rreduce (add_WW ha hb) hm h0 W
  obtain ⟨x0, x1, x2, x3, hx⟩ := nv_lit a
  obtain ⟨y0, y1, y2, y3, hy⟩ := nv_lit b
  obtain ⟨m0, m1, m2, m3, hml⟩ := nv_lit m
  obtain ⟨r0, r1, r2, r3, hr⟩ := nv_lit ((a + b) % m)
  obtain ⟨s0, s1, s2, s3, hs, ps⟩ := nv_words ((a + b) % NN)
  rw [wv_lit] at hs
  obtain ⟨w8a, w8b⟩ := wide_words hsN ps
  obtain ⟨ov, hov⟩ : ∃ ov, decide (NN ≤ a + b) = ov := ⟨_, rfl⟩
  have hcr : ∀ W, Calls Tryd.prog 27 #[wv [s0, s1, s2, s3, if ov then 1 else 0, 0, 0, 0], nv m] W fun e w' => e = .returned (.tuple #[nv ((a + b) % m), .int .i64 0]) ∧ Mod [] W w' := by
    intro W
    have h := cr W
    unfold wdv at h
    cases ov with
    | true =>
      have h1 : NN ≤ a + b := of_decide_eq_true hov
      have h2 : (a + b) % NN + NN = a + b := by rw [Nat.mod_eq_sub_mod h1, Nat.mod_eq_of_lt (by omega)]; omega
      rw [h2] at w8b
      rw [w8b] at h
      exact h
    | false =>
      have h1 : ¬ NN ≤ a + b := of_decide_eq_false hov
      rw [Nat.mod_eq_of_lt (by omega)] at w8a
      rw [w8a] at h
      exact h
  unfold wdv at cw
  rw [w8a, hs] at cw
  rw [hx, hy, hs, hov] at ca
  rw [hml, hr] at hcr
  rw [hx, hy, hml, hr]
  have CA := hid ca
  have CW := hid cw
  have CR0 := hid hcr
  clear ca cw cr hx hy hml hr hs ps w8a w8b hov hcr ha hb hm h0 hsN
  unfold lit4 wv at *
  go_enter Tryd.func26, Tryd.ntmps26
  go_upto_region 1 with fail
  refine wp_abs (fun W => W.heap[w.heap.size]? = some (.cells (wcells [x0, x1, x2, x3]) 26) ∧ W.heap[w.heap.size + 1]? = some (.cells (wcells [y0, y1, y2, y3]) 26) ∧ W.heap[w.heap.size + 1 + 1]? = some (.cells (wcells [m0, m1, m2, m3]) 26) ∧ W.heap[w.heap.size + 1 + 1 + 1]? = some (.cells (wcells [0, 0, 0, 0]) 26) ∧ Mod [] w W)
    (four_new w _ _ _ _) ?_
  rintro W ⟨gx, gy, gm, gr, hm⟩
  generalize hta : w.heap.size = ta at *
  generalize htb : ta + 1 = tb at *
  generalize htm : tb + 1 = tm at *
  generalize htr : tm + 1 = tr at *
  have HT : Hid (w.heap.size ≤ tr ∧ ta < tb ∧ tb < tm ∧ tm < tr) := ⟨by omega, by omega, by omega, by omega⟩
  have HG := hid (And.intro gr (And.intro gm hm))
  have xc0 := cell_at gx 0; have xc1 := cell_at gx 1; have xc2 := cell_at gx 2; have xc3 := cell_at gx 3; simp only [wcells_get] at xc0 xc1 xc2 xc3
  have yc0 := cell_at gy 0; have yc1 := cell_at gy 1; have yc2 := cell_at gy 2; have yc3 := cell_at gy 3; simp only [wcells_get] at yc0 yc1 yc2 yc3
  clear gx gy gm gr hm hta htb htm htr
  go_upto_region 2 with (go_at_call 42; refine (CA.out _).mono ?_; rintro e w1 ⟨rfl, hm1⟩; have H1 := hid hm1; clear hm1)
  clear xc0 xc1 xc2 xc3
  clear yc0 yc1 yc2 yc3
  refine wp_abs (fun W2 => W2.heap[w1.heap.size]? = some (.cells (wcells [s0, s1, s2, s3]) 26) ∧ Mod [] W W2) ⟨get_new _ _, H1.out.alloc _⟩ ?_
  generalize w1.heap.size = t8 at *
  rintro W2 ⟨g8, hm2⟩
  have sc0 := cell_at g8 0; have sc1 := cell_at g8 1; have sc2 := cell_at g8 2; have sc3 := cell_at g8 3; simp only [wcells_get] at sc0 sc1 sc2 sc3
  have H2 := hid hm2
  clear g8 hm2 H1
  go_upto_region 3 with (go_at_call 28; refine (CW.out _).mono ?_; rintro e w3 ⟨rfl, hm3⟩; have H3 := hid (H2.out.trans hm3); clear hm3)
  clear sc0 sc1 sc2 sc3
  refine wp_abs (fun W4 => W4.heap[tr]? = some (.cells (wcells [0, 0, 0, 0]) 26) ∧ W4.heap[tm]? = some (.cells (wcells [m0, m1, m2, m3]) 26) ∧ W4.heap[w3.heap.size]? = some (.cells (wcells [s0, s1, s2, s3, 0, 0, 0, 0]) 60) ∧ Mod [] w W4)
    ⟨get_alloc (H3.out.get HG.out.1 (by simp)) _, get_alloc (H3.out.get HG.out.2.1 (by simp)) _, get_new _ _, (HG.out.2.2.trans H3.out).alloc _⟩ ?_
  have h10 : tr < w3.heap.size := Nat.lt_of_lt_of_le (lt_of_block HG.out.1) H3.out.size
  have h11 : w.heap.size ≤ w3.heap.size := Nat.le_trans HG.out.2.2.size H3.out.size
  generalize w3.heap.size = t10 at *
  rintro W4 ⟨gr, gm, g10, hm4⟩
  have HL : Hid (tr < t10 ∧ w.heap.size ≤ t10) := ⟨h10, h11⟩
  clear HG H2 H3 h10 h11
  cases ov with
  | true =>
    have CR : Hid (∀ W, _) := fun W => CR0.out W
    rw [if_pos rfl] at CR
    have q4 := get_setCell_self g10 4 (.int .u64 1)
    have c4 := cell_at g10 4
    simp only [wcells_get] at c4
    have f4 := free_at g10 4
    have k1 := get_setCell (p := ⟨t10, 4, none⟩) gr (by have := HL.out; show tr ≠ t10; omega) (.int .u64 1)
    have k2 := get_setCell (p := ⟨t10, 4, none⟩) gm (by have := HL.out; have := HT.out; show tm ≠ t10; omega) (.int .u64 1)
    have km := hm4.setCell (p := ⟨t10, 4, none⟩) (.inr HL.out.2) (.int .u64 1)
    rw [show (Value.int .u64 1) = Value.int .u64 ((1 : Nat) : Int) from rfl, wcells_set] at q4
    have HQ := hid (And.intro k1 (And.intro k2 (And.intro q4 km)))
    clear gr gm g10 hm4 k1 k2 km q4
    go_upto_region 5 with fail
    refine wp_abs (fun W5 => W5.heap[tr]? = some (.cells (wcells [0, 0, 0, 0]) 26) ∧ W5.heap[tm]? = some (.cells (wcells [m0, m1, m2, m3]) 26) ∧ W5.heap[t10]? = some (.cells (wcells [s0, s1, s2, s3, 1, 0, 0, 0]) 60) ∧ Mod [] w W5) HQ.out ?_
    clear HQ c4 f4
    rintro W5 ⟨gr, gm, g10, hm5⟩
    have HB := hid (And.intro gr (And.intro gm hm5))
    have dc0 := cell_at g10 0; have dc1 := cell_at g10 1; have dc2 := cell_at g10 2; have dc3 := cell_at g10 3; have dc4 := cell_at g10 4; have dc5 := cell_at g10 5; have dc6 := cell_at g10 6; have dc7 := cell_at g10 7; simp only [wcells_get] at dc0 dc1 dc2 dc3 dc4 dc5 dc6 dc7
    have mc0 := cell_at gm 0; have mc1 := cell_at gm 1; have mc2 := cell_at gm 2; have mc3 := cell_at gm 3; simp only [wcells_get] at mc0 mc1 mc2 mc3
    clear gr gm g10 hm5
    go_wp2_with (go_at_call 27; refine (CR.out _).mono ?_; rintro e w9 ⟨rfl, hm9⟩; have H9 := hid (HB.out.2.2.trans hm9); have g9 := hm9.get HB.out.1 (by simp); have zc0 := cell_at g9 0; have zc1 := cell_at g9 1; have zc2 := cell_at g9 2; have zc3 := cell_at g9 3; simp only [wcells_get] at zc0 zc1 zc2 zc3; have zf0 := free_at g9 0; have zf1 := free_at g9 1; have zf2 := free_at g9 2; have zf3 := free_at g9 3; have G9 := hid g9; clear hm9 g9)
    clear zc0 zc1 zc2 zc3
    clear zf0 zf1 zf2 zf3
    have qq := set4_at G9.out r0 r1 r2 r3
    have zc0 := cell_at qq 0; have zc1 := cell_at qq 1; have zc2 := cell_at qq 2; have zc3 := cell_at qq 3; simp only [wcells_get] at zc0 zc1 zc2 zc3
    exact bodyPost_ret (v := .tuple #[.agg #[.int .u64 (r0 : Int), .int .u64 (r1 : Int), .int .u64 (r2 : Int), .int .u64 (r3 : Int)], .int .i64 0]) (by simp [results, Tryd.results26, go_sem, zc0, zc1, zc2, zc3]) rfl ⟨rfl, set4_mod (b := tr) HT.out.1 H9.out r0 r1 r2 r3⟩
  | false =>
    have CR : Hid (∀ W, _) := fun W => CR0.out W
    rw [if_neg (by decide)] at CR
    have HB := hid (And.intro gr (And.intro gm hm4))
    have dc0 := cell_at g10 0; have dc1 := cell_at g10 1; have dc2 := cell_at g10 2; have dc3 := cell_at g10 3; have dc4 := cell_at g10 4; have dc5 := cell_at g10 5; have dc6 := cell_at g10 6; have dc7 := cell_at g10 7; simp only [wcells_get] at dc0 dc1 dc2 dc3 dc4 dc5 dc6 dc7
    have mc0 := cell_at gm 0; have mc1 := cell_at gm 1; have mc2 := cell_at gm 2; have mc3 := cell_at gm 3; simp only [wcells_get] at mc0 mc1 mc2 mc3
    clear gr gm g10 hm4
    go_wp2_with (go_at_call 27; refine (CR.out _).mono ?_; rintro e w9 ⟨rfl, hm9⟩; have H9 := hid (HB.out.2.2.trans hm9); have g9 := hm9.get HB.out.1 (by simp); have zc0 := cell_at g9 0; have zc1 := cell_at g9 1; have zc2 := cell_at g9 2; have zc3 := cell_at g9 3; simp only [wcells_get] at zc0 zc1 zc2 zc3; have zf0 := free_at g9 0; have zf1 := free_at g9 1; have zf2 := free_at g9 2; have zf3 := free_at g9 3; have G9 := hid g9; clear hm9 g9)
    clear zc0 zc1 zc2 zc3
    clear zf0 zf1 zf2 zf3
    have qq := set4_at G9.out r0 r1 r2 r3
    have zc0 := cell_at qq 0; have zc1 := cell_at qq 1; have zc2 := cell_at qq 2; have zc3 := cell_at qq 3; simp only [wcells_get] at zc0 zc1 zc2 zc3
    exact bodyPost_ret (v := .tuple #[.agg #[.int .u64 (r0 : Int), .int .u64 (r1 : Int), .int .u64 (r2 : Int), .int .u64 (r3 : Int)], .int .i64 0]) (by simp [results, Tryd.results26, go_sem, zc0, zc1, zc2, zc3]) rfl ⟨rfl, set4_mod (b := tr) HT.out.1 H9.out r0 r1 r2 r3⟩
end Go.Proofs.YtdgmnhiffoemmaaDoor
