/-
  The reference's mod.Sum. No statement of a claim stands here; each contract names what it asks.
-/
import Derived.Test.YtdgmnhiffoemmaaDoorZ9
set_option linter.unusedSimpArgs false
namespace Go.Proofs.YtdgmnhiffoemmaaDoor
open Go Go.RowKit Go.ChangeMaps

def SumRel (W : World) (t6 m : Nat) (l : List Nat) (gk : Nat) (e i : Value) (w : World) : Prop :=
  ∃ j : Nat, i = .int .i64 j ∧ e = .int .i64 0 ∧ gk + j = l.length ∧ w.heap[t6]? = some (.cells (wcells (parts ((l.take j).sum % m) 4)) 26) ∧ Mod [t6] W w

set_option maxRecDepth 100000 in
set_option maxHeartbeats 2000000 in
theorem rmsum {m : Nat} (hm : m < NN) (h0 : m ≠ 0) (l : List Nat) (hl : ∀ n ∈ l, n < NN) (hll : l.length ≤ 256) (g cap : Nat) (w : World) (hg : NatRow w g l) :
    Calls Tryd.prog 18 #[nv m, .slice (some ⟨g, 0, none⟩) l.length cap] w fun e w' => e = .returned (.tuple #[nv (l.sum % m), .int .i64 0]) ∧ Mod [] w w' := by
  have cr := fun W => rreduce (a := 0) (m := m) (by rw [WW_eq]; exact Nat.pow_pos BB_pos) hm h0 W
  rw [Nat.zero_mod, show wdv 0 = lit8 0 0 0 0 0 0 0 0 by unfold wdv; rw [show parts 0 8 = [0, 0, 0, 0, 0, 0, 0, 0] by simp [parts]]; rfl, nv_small BB_pos] at cr
  obtain ⟨m0, m1, m2, m3, hml, pm⟩ := nv_words m
  rw [wv_lit] at hml
  have HL := hid (And.intro hl (And.intro hg (And.intro hm (And.intro h0 hml))))
  have n3 : (l.length : Int) ≤ 256 := by omega
  rw [hml] at cr
  rw [hml]
  have CR := hid cr
  clear cr hl hg hm h0 hml
  unfold lit4 lit8 at *
  go_enter Tryd.func18, Tryd.ntmps18
  go_upto_region 1 with fail
  refine wp_abs (fun W => W.heap[w.heap.size]? = some (.cells (wcells [m0, m1, m2, m3]) 26) ∧ W.heap[w.heap.size + 1]? = some (.cells (wcells [0, 0, 0, 0]) 26) ∧ Mod [] w W)
    ⟨get_alloc (get_new w _) _, two_b w _ _, ((Mod.refl _ _).alloc _).alloc _⟩ ?_
  rintro W ⟨gm, gr, hm⟩
  generalize htm : w.heap.size = tm at *
  generalize htr : tm + 1 = tr at *
  have HM : Hid (Mod [] w W ∧ w.heap.size ≤ tr ∧ tm < tr) := ⟨hm, by omega, by omega⟩
  have HG := hid (And.intro gm gr)
  have mc0 := cell_at gm 0; have mc1 := cell_at gm 1; have mc2 := cell_at gm 2; have mc3 := cell_at gm 3; simp only [wcells_get] at mc0 mc1 mc2 mc3
  clear hm gm gr htm htr
  go_upto_block 0 with (go_at_call 27; refine (CR.out _).mono ?_; rintro e w1 ⟨rfl, hm1⟩; have H1 := hid hm1; clear hm1)
  clear mc0 mc1 mc2 mc3
  refine wp_abs (fun W2 => W2.heap[w1.heap.size]? = some (.cells (wcells [0, 0, 0, 0]) 26) ∧ Mod [] W W2) ⟨get_new _ _, H1.out.alloc _⟩ ?_
  have h6 : tr < w1.heap.size := Nat.lt_of_lt_of_le (lt_of_block HG.out.2) H1.out.size
  have h6g : g < w1.heap.size := Nat.lt_of_lt_of_le HL.out.2.1.lt (Nat.le_trans HM.out.1.size H1.out.size)
  generalize w1.heap.size = t6 at *
  rintro W2 ⟨g6, hm2⟩
  have H2 := hid (And.intro g6 (And.intro hm2 (And.intro h6 h6g)))
  clear g6 hm2 h6 h6g H1
  go_wp2_with fail
  go_loopg [7, 8] l.length (fun gk e i W' => SumRel W2 t6 m l gk e i W')
  case atStart =>
    refine ⟨0, rfl, rfl, rfl, ?_, Mod.refl _ _⟩
    rw [List.take_zero, List.sum_nil, Nat.zero_mod, show parts 0 4 = [0, 0, 0, 0] by simp [parts]]
    exact H2.out.1
  case round =>
    obtain ⟨j, rfl, rfl, hgj, g6, hm⟩ := hrel
    have gm := hm.get (H2.out.2.1.get HG.out.1 (by simp)) (by have := H2.out; have := HM.out; rw [List.mem_singleton]; omega)
    have gr := hm.get (H2.out.2.1.get HG.out.2 (by simp)) (by have := H2.out; have := HM.out; rw [List.mem_singleton]; omega)
    by_cases hj : j < l.length
    · have j1 : (j : Int) < (l.length : Int) := by omega
      have j0 : (0 : Int) ≤ (j : Int) := by omega
      obtain ⟨c, hc⟩ : ∃ c, l[j]? = some c := ⟨_, List.getElem?_eq_getElem hj⟩
      have hcN : c < NN := HL.out.1 c (List.mem_of_getElem? hc)
      have hst : (l.take (j + 1)).sum = (l.take j).sum + c := by rw [List.take_add_one, hc]; simp
      obtain ⟨s, hs⟩ : ∃ s, (l.take j).sum % m = s := ⟨_, rfl⟩
      have hsm : s < m := by rw [← hs]; exact Nat.mod_lt _ (Nat.pos_of_ne_zero HL.out.2.2.2.1)
      have hs2 : (l.take (j + 1)).sum % m = (s + c) % m := by rw [hst, ← hs, Nat.mod_add_mod]
      have ca := fun W => rmadd (a := s) (b := c) (m := m) (Nat.lt_trans hsm HL.out.2.2.1) hcN HL.out.2.2.1 HL.out.2.2.2.1 W
      obtain ⟨y0, y1, y2, y3, hy, py⟩ := nv_words s
      obtain ⟨c0, c1, c2, c3, hcc, pc⟩ := nv_words c
      obtain ⟨s0, s1, s2, s3, hss, ps⟩ := nv_words ((s + c) % m)
      rw [wv_lit] at hy hcc hss
      unfold lit4 at hy hcc hss
      rw [hy, hcc, HL.out.2.2.2.2, hss] at ca
      rw [hs, py] at g6
      have CA := hid ca
      have hrow := (HL.out.2.1.mod (HM.out.1.trans H2.out.2.1) (by simp)).mod hm (by have := H2.out; rw [List.mem_singleton]; omega)
      have hcl := hrow.cells hc pc
      have hd : decide ((j : Int) < (l.length : Int)) = true := decide_eq_true j1
      have hd2 : decide (j < l.length) = true := decide_eq_true hj
      have HN := hid (And.intro hm (And.intro hs2 (And.intro ps hgj)))
      have HS := hid (And.intro g6 (And.intro gm hcl))
      clear g6 gm gr hm hs2 hcc pc hy py hss ps hs hst hsm hcN hc hcl hrow ca hgj
      go_upto_region 5 with fail
      have hS : SatV t6 tm g j [y0, y1, y2, y3] [m0, m1, m2, m3] c0 c1 c2 c3 wr.drew := HS.out
      have hmd := HN.out.1.drew
      have HD := hid (And.intro hmd hS.1)
      clear hmd
      refine wp_region_N (SatV t6 tm g j [y0, y1, y2, y3] [m0, m1, m2, m3] c0 c1 c2 c3) (fun i => !(i == 10)) (by kernel_rfl) ?_
      generalize wr.drew = wq at *
      have hM := Mod.refl [] wq
      refine regS 0 26 (v := ?_) hS rfl rfl (by kernel_rfl) (by kernel_rfl) (by kernel_rfl) (by kernel_rfl) (fun _ _ _ h => h) (by rfl) (fun w hSw => ?_) ?_; rotate_left; (have qc0 := cell_at hSw.1 0; have qc1 := cell_at hSw.1 1; have qc2 := cell_at hSw.1 2; have qc3 := cell_at hSw.1 3; simp only [wcells_get] at qc0 qc1 qc2 qc3; go_simp; first | done | with_reducible rfl); (try simp only [Act.put, List.setIfInBounds_toArray, List.set_cons_zero, List.set_cons_succ])
      refine regA 1 27 (v := ?_) rfl rfl (by kernel_rfl) (by kernel_rfl) (by kernel_rfl) (fun _ _ _ h => h) (by rfl) (fun w => ?_) ?_; rotate_left; (go_simp; first | done | with_reducible rfl); (try simp only [Act.put, List.setIfInBounds_toArray, List.set_cons_zero, List.set_cons_succ])
      refine regA 2 28 (v := ?_) rfl rfl (by kernel_rfl) (by kernel_rfl) (by kernel_rfl) (fun _ _ _ h => h) (by rfl) (fun w => ?_) ?_; rotate_left; (go_simp; first | done | with_reducible rfl); (try simp only [Act.put, List.setIfInBounds_toArray, List.set_cons_zero, List.set_cons_succ])
      refine regA 3 29 (v := .pointer (some ⟨g, j * 4, none⟩)) rfl rfl (by kernel_rfl) (by kernel_rfl) (by kernel_rfl) (fun _ _ _ h => h) (by rfl) (fun w => ?_) ?_
      · go_simp
      (try simp only [Act.put, List.setIfInBounds_toArray, List.set_cons_zero, List.set_cons_succ])
      refine regS 4 30 (v := ?_) hS rfl rfl (by kernel_rfl) (by kernel_rfl) (by kernel_rfl) (by kernel_rfl) (fun _ _ _ h => h) (by rfl) (fun w hSw => ?_) ?_; rotate_left; (obtain ⟨qc0, qc1, qc2, qc3⟩ := hSw.2.2; go_simp; first | done | with_reducible rfl); (try simp only [Act.put, List.setIfInBounds_toArray, List.set_cons_zero, List.set_cons_succ])
      refine regS 5 31 (v := ?_) hS rfl rfl (by kernel_rfl) (by kernel_rfl) (by kernel_rfl) (by kernel_rfl) (fun _ _ _ h => h) (by rfl) (fun w hSw => ?_) ?_; rotate_left; (have qc0 := cell_at hSw.2.1 0; have qc1 := cell_at hSw.2.1 1; have qc2 := cell_at hSw.2.1 2; have qc3 := cell_at hSw.2.1 3; simp only [wcells_get] at qc0 qc1 qc2 qc3; go_simp; first | done | with_reducible rfl); (try simp only [Act.put, List.setIfInBounds_toArray, List.set_cons_zero, List.set_cons_succ])
      clear hS
      refine regOnly 6 (by kernel_rfl) rfl (by rfl) (fun K hK => ?_)
      go_wp2_with (go_at_call 26; refine (CA.out _).mono ?_; rintro e w5 ⟨rfl, hm⟩)
      refine hK.out _ _ (fun _ h => ⟨hm.get h.1 (by simp), hm.get h.2.1 (by simp), hm.cell h.2.2.1 (by simp), hm.cell h.2.2.2.1 (by simp), hm.cell h.2.2.2.2.1 (by simp), hm.cell h.2.2.2.2.2 (by simp)⟩) ?_
      clear hK
      (try simp only [Act.put, List.setIfInBounds_toArray, List.set_cons_zero, List.set_cons_succ])
      have hM := hM.trans hm
      clear hm
      refine regA 7 25 (v := ?_) rfl rfl (by kernel_rfl) (by kernel_rfl) (by kernel_rfl) (fun _ _ _ h => h) (by rfl) (fun w => ?_) ?_; rotate_left; (go_simp; first | done | with_reducible rfl); (try simp only [Act.put, List.setIfInBounds_toArray, List.set_cons_zero, List.set_cons_succ])
      refine regA 8 33 (v := ?_) rfl rfl (by kernel_rfl) (by kernel_rfl) (by kernel_rfl) (fun _ _ _ h => h) (by rfl) (fun w => ?_) ?_; rotate_left; (go_simp; first | done | with_reducible rfl); (try simp only [Act.put, List.setIfInBounds_toArray, List.set_cons_zero, List.set_cons_succ])
      refine regA 9 34 (v := ?_) rfl rfl (by kernel_rfl) (by kernel_rfl) (by kernel_rfl) (fun _ _ _ h => h) (by rfl) (fun w => ?_) ?_; rotate_left; (go_simp; first | done | with_reducible rfl); (try simp only [Act.put, List.setIfInBounds_toArray, List.set_cons_zero, List.set_cons_succ])
      have g6 := hM.get HD.out.2 (by simp)
      have yc0 := cell_at g6 0; have yc1 := cell_at g6 1; have yc2 := cell_at g6 2; have yc3 := cell_at g6 3; simp only [wcells_get] at yc0 yc1 yc2 yc3
      have yf0 := free_at g6 0; have yf1 := free_at g6 1; have yf2 := free_at g6 2; have yf3 := free_at g6 3
      have k9 := hid (set4_at g6 s0 s1 s2 s3)
      have km := hid (set4_modS' (S := [t6]) (b := t6) (by simp) (HD.out.1.trans (hM.mono (by simp))) s0 s1 s2 s3)
      clear g6 hM
      refine regOnly 10 (by kernel_rfl) rfl (by rfl) (fun K hK => ?_)
      go_wp2_with fail
      refine hK.out _ _ (fun h _ => absurd h (by decide)) ?_
      clear hK
      (try simp only [Act.put, List.setIfInBounds_toArray, List.set_cons_zero, List.set_cons_succ])
      clear yc0 yc1 yc2 yc3
      clear yf0 yf1 yf2 yf3
      refine regA 11 7 (v := ?_) rfl rfl (by kernel_rfl) (by kernel_rfl) (by kernel_rfl) (fun _ _ _ h => h) (by rfl) (fun w => ?_) ?_; rotate_left; (go_simp; first | done | with_reducible rfl); (try simp only [Act.put, List.setIfInBounds_toArray, List.set_cons_zero, List.set_cons_succ])
      refine regDone (by kernel_rfl) ?_ _
      go_wp2_with fail
      obtain ⟨-, hs2, ps, hgj⟩ := HN.out
      go_roundg (gk - 1)
      case measure => omega
      case rel => exact ⟨j + 1, rfl, rfl, by omega, by rw [hs2, ps]; exact k9.out, km.out⟩
    · have j1 : ¬ (j : Int) < (l.length : Int) := by omega
      obtain rfl : j = l.length := by omega
      rw [List.take_of_length_le (Nat.le_refl _)] at g6
      obtain ⟨y0, y1, y2, y3, hy, py⟩ := nv_words (l.sum % m)
      rw [wv_lit] at hy
      unfold lit4 at hy
      rw [py] at g6
      have hd : decide ((l.length : Int) < (l.length : Int)) = false := decide_eq_false j1
      have yc0 := cell_at g6 0; have yc1 := cell_at g6 1; have yc2 := cell_at g6 2; have yc3 := cell_at g6 3; simp only [wcells_get] at yc0 yc1 yc2 yc3
      have rc0 := cell_at gr 0; have rc1 := cell_at gr 1; have rc2 := cell_at gr 2; have rc3 := cell_at gr 3; simp only [wcells_get] at rc0 rc1 rc2 rc3
      have rf0 := free_at gr 0; have rf1 := free_at gr 1; have rf2 := free_at gr 2; have rf3 := free_at gr 3
      have q := hid (set4_at gr y0 y1 y2 y3)
      have hmm := (HM.out.1.trans H2.out.2.1).trans' hm (fun b hb => .inr (by have := HM.out; have := H2.out; rw [List.mem_singleton.1 hb]; omega))
      have HE := hid (And.intro (set4_mod (b := tr) HM.out.2.1 hmm y0 y1 y2 y3) hy)
      clear g6 gm gr hm hmm hgj hy py
      go_wp2_with fail
      clear rc0 rc1 rc2 rc3
      clear rf0 rf1 rf2 rf3
      have qq := q.out
      have rc0 := cell_at qq 0; have rc1 := cell_at qq 1; have rc2 := cell_at qq 2; have rc3 := cell_at qq 3; simp only [wcells_get] at rc0 rc1 rc2 rc3
      exact bodyPost_ret (v := .tuple #[.agg #[.int .u64 (y0 : Int), .int .u64 (y1 : Int), .int .u64 (y2 : Int), .int .u64 (y3 : Int)], .int .i64 0]) (by simp [results, Tryd.results18, go_sem, rc0, rc1, rc2, rc3]) rfl ⟨by rw [HE.out.2], HE.out.1⟩
end Go.Proofs.YtdgmnhiffoemmaaDoor
