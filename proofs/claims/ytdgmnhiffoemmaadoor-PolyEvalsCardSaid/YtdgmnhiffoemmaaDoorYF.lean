/-
  mod.Gcd. No statement of a claim stands here; each contract names what it asks.
-/
import Derived.Test.YtdgmnhiffoemmaaDoorYE
set_option linter.unusedSimpArgs false
namespace Go.Proofs.YtdgmnhiffoemmaaDoor
open Go Go.RowKit Go.ChangeMaps

/-- While the greatest common divisor is looked for. -/
def GcdRel (W : World) (ta tb tr : Nat) (a b : Nat) (gk : Nat) (w : World) : Prop :=
  ∃ x y : Nat, gk = y ∧ x < NN ∧ y < NN ∧ Nat.gcd x y = Nat.gcd a b ∧ w.heap[ta]? = some (.cells (wcells (parts x 4)) 26) ∧ w.heap[tb]? = some (.cells (wcells (parts y 4)) 26) ∧
    w.heap[tr]? = some (.cells (wcells [0, 0, 0, 0]) 26) ∧ Mod [ta, tb] W w

theorem set4_modS {S : List Nat} {w w' : World} {b : Nat} (hl : b ∈ S) (m : Mod S w w') (x0 x1 x2 x3 : Nat) : Mod S w ((((w'.setCell ⟨b, 0, none⟩ (.int .u64 (x0 : Int))).setCell ⟨b, 1, none⟩ (.int .u64 (x1 : Int))).setCell ⟨b, 2, none⟩ (.int .u64 (x2 : Int))).setCell ⟨b, 3, none⟩ (.int .u64 (x3 : Int))) :=
  (((m.setCell (p := ⟨b, 0, none⟩) (.inl hl) _).setCell (p := ⟨b, 1, none⟩) (.inl hl) _).setCell (p := ⟨b, 2, none⟩) (.inl hl) _).setCell (p := ⟨b, 3, none⟩) (.inl hl) _
theorem nv_lits (n : Nat) : ∃ a b c d, nv n = lit4 a b c d ∧ parts n 4 = [a, b, c, d] := by
  obtain ⟨a, b, c, d, h, h2⟩ := nv_words n
  exact ⟨a, b, c, d, by rw [h, wv_lit], h2⟩

set_option maxRecDepth 100000 in
theorem mgcd {a b : Nat} (ha : a < NN) (hb : b < NN) (w : World) :
    Calls Tryd.prog 65 #[nv a, nv b] w fun e w' => e = .returned (nv (Nat.gcd a b)) ∧ Mod [] w w' := by
  obtain ⟨x0, x1, x2, x3, hx, px⟩ := nv_lits a
  obtain ⟨y0, y1, y2, y3, hy, py⟩ := nv_lits b
  rw [hx, hy]
  clear hx hy
  unfold lit4 at *
  have HA := hid (And.intro ha (And.intro hb (And.intro px py)))
  clear ha hb px py
  go_enter Tryd.func65, Tryd.ntmps65
  go_wp2_with fail
  refine wp_abs (fun W => W.heap[w.heap.size]? = some (.cells (wcells [x0, x1, x2, x3]) 26) ∧ W.heap[w.heap.size + 1]? = some (.cells (wcells [y0, y1, y2, y3]) 26) ∧ W.heap[w.heap.size + 1 + 1]? = some (.cells (wcells [0, 0, 0, 0]) 26) ∧ Mod [] w W) ⟨three_a w _ _ _, three_b w _ _ _, three_c w _ _ _, (((Mod.refl _ _).alloc _).alloc _).alloc _⟩ ?_
  rintro W ⟨gx, gy, gr, hm⟩
  generalize hta : w.heap.size = ta at *
  generalize htb : ta + 1 = tb at *
  generalize htr : tb + 1 = tr at *
  have HM : Hid (Mod [] w W ∧ w.heap.size ≤ ta ∧ ta < tb ∧ tb < tr) := ⟨hm, by omega, by omega, by omega⟩
  have HG := hid (And.intro gx (And.intro gy gr))
  clear gx gy gr hm hta htb htr
  go_loopg [] b (fun gk W' => GcdRel W ta tb tr a b gk W')
  case atStart =>
    obtain ⟨ha, hb, px, py⟩ := HA.out
    exact ⟨a, b, rfl, ha, hb, rfl, by rw [px]; exact HG.out.1, by rw [py]; exact HG.out.2.1, HG.out.2.2, Mod.refl _ _⟩
  case round =>
    obtain ⟨x, y, hgy, xN, yN, hg, gx, gy, gr, hm⟩ := hrel
    have cn := fun W => mnone yN W
    obtain ⟨s0, s1, s2, s3, hs, ps⟩ := nv_lits x
    obtain ⟨t0, t1, t2, t3, ht, pt⟩ := nv_lits y
    rw [ps] at gx
    rw [pt] at gy
    rw [ht] at cn
    unfold lit4 at *
    by_cases hy0 : y = 0
    · have hgz : Nat.gcd a b = x := by rw [← hg, hy0, Nat.gcd_zero_right]
      simp only [decide_eq_true hy0] at cn
      have CN := hid cn
      have yc0 := cell_at gy 0; have yc1 := cell_at gy 1; have yc2 := cell_at gy 2; have yc3 := cell_at gy 3; simp only [wcells_get] at yc0 yc1 yc2 yc3
      have HN := hid (And.intro gx (And.intro gr (And.intro hm (And.intro hs hgz))))
      clear gx gy gr hm hg hs hgz hy0 cn hgy xN yN ps pt ht
      go_upto_region 3 with (go_at_call 48; refine (CN.out _).mono ?_; rintro e w1 ⟨rfl, hm1⟩; have H1 := hid hm1; clear hm1)
      clear yc0 yc1 yc2 yc3
      have gx := H1.out.get HN.out.1 (by simp)
      have gr := H1.out.get HN.out.2.1 (by simp)
      have xc0 := cell_at gx 0; have xc1 := cell_at gx 1; have xc2 := cell_at gx 2; have xc3 := cell_at gx 3; simp only [wcells_get] at xc0 xc1 xc2 xc3
      have rc0 := cell_at gr 0; have rc1 := cell_at gr 1; have rc2 := cell_at gr 2; have rc3 := cell_at gr 3; simp only [wcells_get] at rc0 rc1 rc2 rc3
      have rf0 := free_at gr 0; have rf1 := free_at gr 1; have rf2 := free_at gr 2; have rf3 := free_at gr 3
      have g := hid (set4_at gr s0 s1 s2 s3)
      clear gx gr
      go_wp2_with fail
      have g2 := g.out
      clear rc0 rc1 rc2 rc3
      clear rf0 rf1 rf2 rf3
      have rc0 := cell_at g2 0; have rc1 := cell_at g2 1; have rc2 := cell_at g2 2; have rc3 := cell_at g2 3; simp only [wcells_get] at rc0 rc1 rc2 rc3
      obtain ⟨-, -, hm, hs, hgz⟩ := HN.out
      have hmm := (HM.out.1.trans' hm (fun b hb => .inr (by have := HM.out; simp only [List.mem_cons, List.not_mem_nil, or_false] at hb; omega))).trans H1.out
      exact bodyPost_ret (v := .agg #[.int .u64 (s0 : Int), .int .u64 (s1 : Int), .int .u64 (s2 : Int), .int .u64 (s3 : Int)]) (by simp [results, Tryd.results65, go_sem, rc0, rc1, rc2, rc3]) rfl ⟨by rw [hgz, hs], set4_mod (by have := HM.out; omega) hmm _ _ _ _⟩
    · have cs := fun W => msmall xN yN hy0 W
      have hlt := Nat.mod_lt x (Nat.pos_of_ne_zero hy0)
      have hg2 : Nat.gcd y (x % y) = Nat.gcd a b := by rw [← hg, Nat.gcd_comm x y, Nat.gcd_rec y x, Nat.gcd_comm]
      simp only [decide_eq_false hy0] at cn
      obtain ⟨r0, r1, r2, r3, hr, pr⟩ := nv_lits (x % y)
      rw [hs, ht, hr] at cs
      unfold lit4 at *
      have CN := hid cn
      have CS := hid cs
      have yc0 := cell_at gy 0; have yc1 := cell_at gy 1; have yc2 := cell_at gy 2; have yc3 := cell_at gy 3; simp only [wcells_get] at yc0 yc1 yc2 yc3
      have HN := hid (And.intro gx (And.intro gy (And.intro gr (And.intro hm (And.intro hg2 (And.intro hlt (And.intro yN (And.intro pt (And.intro pr hgy)))))))))
      clear gx gy gr hm hg hs hy0 cn cs hgy xN yN ps pt ht hr pr hlt hg2
      go_upto_region 2 with (go_at_call 48; refine (CN.out _).mono ?_; rintro e w1 ⟨rfl, hm1⟩; have H1 := hid hm1; clear hm1)
      clear yc0 yc1 yc2 yc3
      have hS : w1.drew.heap[tb]? = some (.cells (wcells [t0, t1, t2, t3]) 26) := H1.out.get HN.out.2.1 (by simp)
      have gx : w1.drew.heap[ta]? = some (.cells (wcells [s0, s1, s2, s3]) 26) := H1.out.get HN.out.1 (by simp)
      have gr : w1.drew.heap[tr]? = some (.cells (wcells [0, 0, 0, 0]) 26) := H1.out.get HN.out.2.2.1 (by simp)
      refine wp_region_N (fun w' : World => w'.heap[tb]? = some (.cells (wcells [t0, t1, t2, t3]) 26)) (fun i => !(i == 5)) (by kernel_rfl) ?_
      have hM : Mod [] wr w1.drew := H1.out.drew
      generalize w1.drew = wq at *
      refine regS 0 8 (v := ?_) hS rfl rfl (by kernel_rfl) (by kernel_rfl) (by kernel_rfl) (by kernel_rfl) (fun _ _ _ h => h) (by rfl) (fun w hSw => ?_) ?_; rotate_left; (have qc0 := cell_at hSw 0; have qc1 := cell_at hSw 1; have qc2 := cell_at hSw 2; have qc3 := cell_at hSw 3; simp only [wcells_get] at qc0 qc1 qc2 qc3; go_simp; first | done | with_reducible rfl); (try simp only [Act.put, List.setIfInBounds_toArray, List.set_cons_zero, List.set_cons_succ])
      refine regS 2 10 (v := ?_) hS rfl rfl (by kernel_rfl) (by kernel_rfl) (by kernel_rfl) (by kernel_rfl) (fun _ _ _ h => h) (by rfl) (fun w hSw => ?_) ?_; rotate_left; (have qc0 := cell_at hSw 0; have qc1 := cell_at hSw 1; have qc2 := cell_at hSw 2; have qc3 := cell_at hSw 3; simp only [wcells_get] at qc0 qc1 qc2 qc3; go_simp; first | done | with_reducible rfl); (try simp only [Act.put, List.setIfInBounds_toArray, List.set_cons_zero, List.set_cons_succ])
      have xc0 := cell_at gx 0; have xc1 := cell_at gx 1; have xc2 := cell_at gx 2; have xc3 := cell_at gx 3; simp only [wcells_get] at xc0 xc1 xc2 xc3
      have HX := hid (And.intro gx (And.intro hS gr))
      clear gx hS gr
      refine regOnly 1 (by kernel_rfl) rfl (by rfl) (fun K hK => ?_)
      go_wp2_with fail
      refine hK.out _ _ (fun _ h => h) ?_
      clear hK
      (try simp only [Act.put, List.setIfInBounds_toArray, List.set_cons_zero, List.set_cons_succ])
      clear xc0 xc1 xc2 xc3
      refine regOnly 3 (by kernel_rfl) rfl (by rfl) (fun K hK => ?_)
      go_wp2_with (go_at_call 50; refine (CS.out _).mono ?_; rintro e w2 ⟨rfl, hm⟩)
      refine hK.out _ _ (fun _ h => hm.get h (by simp)) ?_
      clear hK
      (try simp only [Act.put, List.setIfInBounds_toArray, List.set_cons_zero, List.set_cons_succ])
      have gx := hm.get HX.out.1 (by simp)
      have gy := hm.get HX.out.2.1 (by simp)
      have gr := hm.get HX.out.2.2 (by simp)
      have hM := hM.trans hm
      clear hm HX
      have hT := HM.out
      have xc0 := cell_at gx 0; have xc1 := cell_at gx 1; have xc2 := cell_at gx 2; have xc3 := cell_at gx 3; simp only [wcells_get] at xc0 xc1 xc2 xc3
      have xf0 := free_at gx 0; have xf1 := free_at gx 1; have xf2 := free_at gx 2; have xf3 := free_at gx 3
      have g1 := hid (set4_at gx t0 t1 t2 t3)
      have g2 := hid (set4_keep (b := ta) gy (by omega) t0 t1 t2 t3)
      have g3 := hid (set4_keep (b := ta) gr (by omega) t0 t1 t2 t3)
      have nn : tb ≠ ta := by omega
      have NE := hid nn
      have hm2 := hid ((HN.out.2.2.2.1.trans (hM.mono (S' := [ta, tb]) (by simp))))
      clear gx gy gr hT nn hM
      refine regOnly 4 (by kernel_rfl) rfl (by rfl) (fun K hK => ?_)
      go_wp2_with fail
      refine hK.out _ _ (fun _ h => set4_keep h NE.out _ _ _ _) ?_
      clear hK
      (try simp only [Act.put, List.setIfInBounds_toArray, List.set_cons_zero, List.set_cons_succ])
      clear xc0 xc1 xc2 xc3
      clear xf0 xf1 xf2 xf3
      refine regAbs (fun W9 => W9.heap[ta]? = some (.cells (wcells [t0, t1, t2, t3]) 26) ∧ W9.heap[tb]? = some (.cells (wcells [t0, t1, t2, t3]) 26) ∧ W9.heap[tr]? = some (.cells (wcells [0, 0, 0, 0]) 26) ∧ Mod [ta, tb] W W9) ⟨g1.out, g2.out, g3.out, set4_modS (by simp) hm2.out _ _ _ _⟩ ?_
      clear g1 g2 g3 hm2
      rintro W9 ⟨gx, gy, gr, hm9⟩
      have yc0 := cell_at gy 0; have yc1 := cell_at gy 1; have yc2 := cell_at gy 2; have yc3 := cell_at gy 3; simp only [wcells_get] at yc0 yc1 yc2 yc3
      have yf0 := free_at gy 0; have yf1 := free_at gy 1; have yf2 := free_at gy 2; have yf3 := free_at gy 3
      have hT := HM.out
      have g1 := hid (set4_at gy r0 r1 r2 r3)
      have g2 := hid (set4_keep (b := tb) gx (by omega) r0 r1 r2 r3)
      have g3 := hid (set4_keep (b := tb) gr (by omega) r0 r1 r2 r3)
      have HM9 := hid hm9
      clear gx gy gr hm9 hT
      refine regOnly 5 (by kernel_rfl) rfl (by rfl) (fun K hK => ?_)
      go_wp2_with fail
      refine hK.out _ _ (fun h _ => absurd h (by decide)) ?_
      clear hK
      (try simp only [Act.put, List.setIfInBounds_toArray, List.set_cons_zero, List.set_cons_succ])
      clear yc0 yc1 yc2 yc3
      clear yf0 yf1 yf2 yf3
      refine regDone (by kernel_rfl) ?_ _
      go_wp2_with fail
      obtain ⟨-, -, -, -, hg2, hlt, yN, pt, pr, hgy⟩ := HN.out
      go_roundg (x % y)
      case measure => omega
      case rel => exact ⟨y, x % y, rfl, yN, Nat.lt_trans hlt yN, hg2, by rw [pt]; exact g2.out, by rw [pr]; exact g1.out, g3.out, set4_modS (by simp) HM9.out _ _ _ _⟩
end Go.Proofs.YtdgmnhiffoemmaaDoor
