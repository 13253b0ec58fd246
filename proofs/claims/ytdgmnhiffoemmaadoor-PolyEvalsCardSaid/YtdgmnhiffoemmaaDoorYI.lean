/-
  poly.Eval, where all is right. No statement of a claim stands here; each contract names what it asks.
-/
import Derived.Test.YtdgmnhiffoemmaaDoorYD
import Derived.Test.YtdgmnhiffoemmaaDoorYH
import Derived.Test.YtdgmnhiffoemmaaDoorGB
set_option linter.unusedSimpArgs false
namespace Go.Proofs.YtdgmnhiffoemmaaDoor
open Go Go.RowKit Go.ChangeMaps

/-- A row of numbers lies in a block, from its start. -/
def NatRow (w : World) (g : Nat) (l : List Nat) : Prop :=
  ∃ (cur : Array Value) (T : TypeId) (f : Nat × Nat), w.heap[g]? = some (.cells cur T f) ∧ ∀ i n, l[i]? = some n → ∀ j y, (parts n 4)[j]? = some y → cur[i * 4 + j]? = some (.int .u64 (y : Int))
theorem NatRow.mod {S : List Nat} {w w' : World} {g : Nat} {l : List Nat} (h : NatRow w g l) (m : Mod S w w') (hn : g ∉ S) : NatRow w' g l := by
  obtain ⟨cur, T, f, hg, hc⟩ := h
  exact ⟨cur, T, f, m.get hg hn, hc⟩
theorem set4_modS' {S : List Nat} {w w' : World} {b : Nat} (hl : b ∈ S) (m : Mod S w w') (x0 x1 x2 x3 : Nat) : Mod S w ((((w'.setCell ⟨b, 0, none⟩ (.int .u64 (x0 : Int))).setCell ⟨b, 1, none⟩ (.int .u64 (x1 : Int))).setCell ⟨b, 2, none⟩ (.int .u64 (x2 : Int))).setCell ⟨b, 3, none⟩ (.int .u64 (x3 : Int))) :=
  (((m.setCell (p := ⟨b, 0, none⟩) (.inl hl) _).setCell (p := ⟨b, 1, none⟩) (.inl hl) _).setCell (p := ⟨b, 2, none⟩) (.inl hl) _).setCell (p := ⟨b, 3, none⟩) (.inl hl) _
theorem NatRow.lt {w : World} {g : Nat} {l : List Nat} (h : NatRow w g l) : g < w.heap.size := by
  obtain ⟨cur, T, f, hg, hc⟩ := h
  exact lt_of_block hg
theorem cell_atF {w : World} {b : Nat} {cs : Array Value} {t : TypeId} {f : Nat × Nat} (hb : w.heap[b]? = some (.cells cs t f)) (o : Nat) : w.cell? ⟨b, o, none⟩ = cs[o]? := cell_at hb o
theorem NatRow.cells {w : World} {g : Nat} {l : List Nat} (h : NatRow w g l) {i n a b c d : Nat} (hn : l[i]? = some n) (hp : parts n 4 = [a, b, c, d]) :
    w.cell? ⟨g, i * 4, none⟩ = some (.int .u64 (a : Int)) ∧ w.cell? ⟨g, i * 4 + 1, none⟩ = some (.int .u64 (b : Int)) ∧ w.cell? ⟨g, i * 4 + 2, none⟩ = some (.int .u64 (c : Int)) ∧ w.cell? ⟨g, i * 4 + 3, none⟩ = some (.int .u64 (d : Int)) := by
  obtain ⟨cur, T, f, hg, hc⟩ := h
  have k := hc i n hn
  rw [hp] at k
  refine ⟨?_, ?_, ?_, ?_⟩ <;> rw [cell_at hg]
  · exact k 0 a rfl
  · exact k 1 b rfl
  · exact k 2 c rfl
  · exact k 3 d rfl

/-- Numbers, as whole ones. -/
def zs (l : List Nat) : List Int := l.map fun (n : Nat) => (n : Int)
theorem zs_get {l : List Nat} {i n : Nat} (h : l[i]? = some n) : (zs l)[i]? = some (n : Int) := by simp [zs, h]
theorem eval_step {q y x c : Nat} {l : List Nat} {i : Nat} (hc : l[i]? = some c) (h : Cg (q : Int) (y : Int) (ev ((zs l).drop (i + 1)) (x : Int))) :
    Cg (q : Int) (((y * x % q + c) % q : Nat) : Int) (ev ((zs l).drop i) (x : Int)) := by
  rw [ev_drop (zs_get hc), Int.natCast_emod, Int.natCast_add, Int.natCast_emod, Int.natCast_mul]
  exact (Cg.mod _ _).trans (((Cg.mod _ _).trans (h.mul (Cg.refl _ _))).add (Cg.refl _ _))

/-- While a value is worked out. -/
def EvalRel (W : World) (t9 q x : Nat) (l : List Nat) (gk : Nat) (v : Value) (w : World) : Prop :=
  ∃ y : Nat, v = .int .i64 ((gk : Int) - 1) ∧ gk ≤ l.length ∧ y < q ∧ Cg (q : Int) (y : Int) (ev ((zs l).drop gk) (x : Int)) ∧ w.heap[t9]? = some (.cells (wcells (parts y 4)) 26) ∧ Mod [t9] W w
/-- What a round's loads read. -/
def SatV (t9 t3 g i : Nat) (ys qs : List Nat) (c0 c1 c2 c3 : Nat) (w : World) : Prop := w.heap[t9]? = some (.cells (wcells ys) 26) ∧ w.heap[t3]? = some (.cells (wcells qs) 26) ∧
  (w.cell? ⟨g, i * 4, none⟩ = some (.int .u64 (c0 : Int)) ∧ w.cell? ⟨g, i * 4 + 1, none⟩ = some (.int .u64 (c1 : Int)) ∧ w.cell? ⟨g, i * 4 + 2, none⟩ = some (.int .u64 (c2 : Int)) ∧ w.cell? ⟨g, i * 4 + 3, none⟩ = some (.int .u64 (c3 : Int)))

set_option maxRecDepth 100000 in
set_option maxHeartbeats 2000000 in
theorem peval {q x : Nat} (hq : q < NN) (h2 : 2 ≤ q) (hx : x < NN) (l : List Nat) (hl : ∀ n ∈ l, n < NN) (hl1 : 1 ≤ l.length) (hl2 : l.length ≤ 256) (g cap : Nat) (w : World) (hg : NatRow w g l) :
    Calls Tryd.prog 14 #[nv q, .slice (some ⟨g, 0, none⟩) l.length cap, nv x] w fun e w' => (∃ y, y < q ∧ Cg (q : Int) (y : Int) (ev (zs l) (x : Int)) ∧ e = .returned (.tuple #[nv y, .int .i64 0])) ∧ Mod [] w w' := by
  have cr := fun (b : Nat) (W : World) (hb : W.heap[b]? = some (.cells #[.int .i64 (l.length : Int)] 3)) => pright hq h2 [l.length] (by simp) b (by simp; omega) W hb
  obtain ⟨z0, z1, z2, z3, hz, pz⟩ := nv_words q
  obtain ⟨x0, x1, x2, x3, hxx, px⟩ := nv_words x
  rw [wv_lit] at hz hxx
  have HZ := hid (And.intro hz (And.intro hxx (And.intro pz (And.intro px (And.intro hq (And.intro h2 hx))))))
  rw [hz] at cr
  rw [hz, hxx]
  unfold lit4 at *
  have CR := hid cr
  have HL := hid (And.intro hl (And.intro hl1 (And.intro hl2 hg)))
  clear cr hz hxx pz px hq h2 hx hl hg
  have l1 : (1 : Int) ≤ (l.length : Int) := by omega
  have l2 : (l.length : Int) ≤ 256 := by omega
  go_enter Tryd.func14, Tryd.ntmps14
  go_upto_region 1 with fail
  refine wp_abs (fun W => W.heap[w.heap.size]? = some (.cells (wcells [z0, z1, z2, z3]) 26) ∧ W.heap[w.heap.size + 1]? = some (.cells (wcells [x0, x1, x2, x3]) 26) ∧ W.heap[w.heap.size + 1 + 1]? = some (.cells (wcells [0, 0, 0, 0]) 26) ∧ Mod [] w W) ⟨three_a w _ _ _, three_b w _ _ _, three_c w _ _ _, (((Mod.refl _ _).alloc _).alloc _).alloc _⟩ ?_
  rintro W ⟨gz, gx, gr, hm⟩
  generalize hta : w.heap.size = ta at *
  generalize htb : ta + 1 = tb at *
  generalize htr : tb + 1 = tr at *
  have HM : Hid (Mod [] w W ∧ w.heap.size ≤ ta ∧ ta < tb ∧ tb < tr) := ⟨hm, by omega, by omega, by omega⟩
  have HG := hid (And.intro gz (And.intro gx gr))
  have zc0 := cell_at gz 0; have zc1 := cell_at gz 1; have zc2 := cell_at gz 2; have zc3 := cell_at gz 3; simp only [wcells_get] at zc0 zc1 zc2 zc3
  clear gz gx gr hm hta htb htr
  go_upto_region 4 with (go_at_call 29; refine (CR.out _ _ (get_new _ _)).mono ?_; rintro e w1 ⟨rfl, hm⟩; have H1 := hid (((Mod.refl [] W).alloc _).trans hm); clear hm)
  clear zc0 zc1 zc2 zc3
  go_wp2_with fail
  refine wp_abs (fun W2 => W2.heap[w1.heap.size]? = some (.cells (wcells [0, 0, 0, 0]) 26) ∧ Mod [] W W2) ⟨get_new _ _, H1.out.alloc _⟩ ?_
  have h9 : tr < w1.heap.size := Nat.lt_of_lt_of_le (lt_of_block HG.out.2.2) H1.out.size
  have h9g : g < w1.heap.size := Nat.lt_of_lt_of_le HL.out.2.2.2.lt (Nat.le_trans HM.out.1.size H1.out.size)
  generalize w1.heap.size = t9 at *
  rintro W2 ⟨g9, hm2⟩
  have H2 := hid (And.intro g9 (And.intro hm2 (And.intro h9 h9g)))
  clear g9 hm2 h9 h9g H1
  go_loopg [10] l.length (fun gk v W' => EvalRel W2 t9 q x l gk v W')
  case atStart =>
    refine ⟨0, rfl, Nat.le_refl _, by have := HZ.out.2.2.2.2.2.1; omega, ?_, ?_, Mod.refl _ _⟩
    · rw [show (zs l).drop l.length = [] by rw [List.drop_eq_nil_of_le]; simp [zs]]
      exact Cg.refl _ _
    · rw [show parts 0 4 = [0, 0, 0, 0] by simp [parts]]
      exact H2.out.1
  case round =>
    obtain ⟨y, rfl, hgk, hyq, hcy, g9, hm⟩ := hrel
    have gq := hm.get (H2.out.2.1.get HG.out.1 (by simp)) (by have := H2.out; have := HM.out; rw [List.mem_singleton]; omega)
    have gx := hm.get (H2.out.2.1.get HG.out.2.1 (by simp)) (by have := H2.out; have := HM.out; rw [List.mem_singleton]; omega)
    have gr := hm.get (H2.out.2.1.get HG.out.2.2 (by simp)) (by have := H2.out; have := HM.out; rw [List.mem_singleton]; omega)
    obtain ⟨y0, y1, y2, y3, hy, py⟩ := nv_words y
    rw [wv_lit] at hy
    unfold lit4 at hy
    rw [py] at g9
    by_cases hg0 : gk = 0
    · subst hg0
      rw [show ((0 : Nat) : Int) - 1 = -1 by omega]
      have yc0 := cell_at g9 0; have yc1 := cell_at g9 1; have yc2 := cell_at g9 2; have yc3 := cell_at g9 3; simp only [wcells_get] at yc0 yc1 yc2 yc3
      have rc0 := cell_at gr 0; have rc1 := cell_at gr 1; have rc2 := cell_at gr 2; have rc3 := cell_at gr 3; simp only [wcells_get] at rc0 rc1 rc2 rc3
      have rf0 := free_at gr 0; have rf1 := free_at gr 1; have rf2 := free_at gr 2; have rf3 := free_at gr 3
      have g := hid (set4_at gr y0 y1 y2 y3)
      have HN := hid (And.intro hyq (And.intro hcy (And.intro hm hy)))
      clear g9 gr gq gx hyq hcy hm hy py
      go_wp2_with fail
      have g2 := g.out
      clear rc0 rc1 rc2 rc3
      clear rf0 rf1 rf2 rf3
      clear yc0 yc1 yc2 yc3
      have rc0 := cell_at g2 0; have rc1 := cell_at g2 1; have rc2 := cell_at g2 2; have rc3 := cell_at g2 3; simp only [wcells_get] at rc0 rc1 rc2 rc3
      obtain ⟨hyq, hcy, hm, hy⟩ := HN.out
      have hmm := ((HM.out.1.trans H2.out.2.1).trans' hm (fun b hb => .inr (by have := HM.out; have := H2.out; rw [List.mem_singleton.1 hb]; omega)))
      exact bodyPost_ret (v := .tuple #[.agg #[.int .u64 (y0 : Int), .int .u64 (y1 : Int), .int .u64 (y2 : Int), .int .u64 (y3 : Int)], .int .i64 0]) (by simp [results, Tryd.results14, go_sem, rc0, rc1, rc2, rc3]) rfl ⟨⟨y, hyq, hcy, by rw [hy]⟩, set4_mod (by have := HM.out; omega) hmm _ _ _ _⟩
    · obtain ⟨i, rfl⟩ : ∃ i, gk = i + 1 := ⟨gk - 1, by omega⟩
      rw [show ((i + 1 : Nat) : Int) - 1 = (i : Int) by omega]
      obtain ⟨c, hc⟩ : ∃ c, l[i]? = some c := ⟨_, List.getElem?_eq_getElem (by omega)⟩
      have hqN := HZ.out.2.2.2.2.1
      have hq0 : q ≠ 0 := by have := HZ.out.2.2.2.2.2.1; omega
      have hcN : c < NN := HL.out.1 c (List.mem_of_getElem? hc)
      have cm := fun W => mmul (a := y) (b := x) (m := q) (by omega) HZ.out.2.2.2.2.2.2 hqN hq0 W
      have hpq : y * x % q < q := Nat.mod_lt _ (by omega)
      have ca := fun W => madd (a := y * x % q) (b := c) (m := q) (by omega) hcN hqN hq0 W
      have hsq : (y * x % q + c) % q < q := Nat.mod_lt _ (by omega)
      have hst := eval_step hc hcy
      obtain ⟨p0, p1, p2, p3, hp, pp⟩ := nv_words (y * x % q)
      obtain ⟨c0, c1, c2, c3, hcc, pc⟩ := nv_words c
      obtain ⟨s0, s1, s2, s3, hs, ps⟩ := nv_words ((y * x % q + c) % q)
      rw [wv_lit] at hp hcc hs
      unfold lit4 at hp hcc hs
      rw [hy, HZ.out.1, HZ.out.2.1, hp] at cm
      rw [hp, hcc, HZ.out.1, hs] at ca
      have CM := hid cm
      have CA := hid ca
      have hrow := (HL.out.2.2.2.mod (HM.out.1.trans H2.out.2.1) (by simp)).mod hm (by have := H2.out; rw [List.mem_singleton]; omega)
      have HN := hid (And.intro g9 (And.intro gq (And.intro gr (And.intro hm (And.intro hrow (And.intro hc (And.intro pc (And.intro hsq (And.intro hst (And.intro ps hgk))))))))))
      have yc0 := cell_at g9 0; have yc1 := cell_at g9 1; have yc2 := cell_at g9 2; have yc3 := cell_at g9 3; simp only [wcells_get] at yc0 yc1 yc2 yc3
      have xc0 := cell_at gx 0; have xc1 := cell_at gx 1; have xc2 := cell_at gx 2; have xc3 := cell_at gx 3; simp only [wcells_get] at xc0 xc1 xc2 xc3
      have zc0 := cell_at gq 0; have zc1 := cell_at gq 1; have zc2 := cell_at gq 2; have zc3 := cell_at gq 3; simp only [wcells_get] at zc0 zc1 zc2 zc3
      have yf0 := free_at g9 0; have yf1 := free_at g9 1; have yf2 := free_at g9 2; have yf3 := free_at g9 3
      have i0 : (0 : Int) ≤ (i : Int) := by omega
      have i1 : (i : Int) < (l.length : Int) := by omega
      clear g9 gr gq gx hyq hcy hm hy py hp pp hcc pc hs ps cm ca hpq hsq hst hqN hq0 hcN hrow hc hg0
      go_upto_region 9 with (go_at_call 33; refine (CM.out _).mono ?_; rintro e w2 ⟨rfl, hm1⟩; have H3 := hid hm1; have g9 := hm1.get HN.out.1 (by simp); have yc0 := cell_at g9 0; have yc1 := cell_at g9 1; have yc2 := cell_at g9 2; have yc3 := cell_at g9 3; simp only [wcells_get] at yc0 yc1 yc2 yc3; have yf0 := free_at g9 0; have yf1 := free_at g9 1; have yf2 := free_at g9 2; have yf3 := free_at g9 3; clear hm1 g9)
      clear xc0 xc1 xc2 xc3
      clear zc0 zc1 zc2 zc3
      clear yc0 yc1 yc2 yc3
      clear yf0 yf1 yf2 yf3
      refine wp_abs (fun W3 => W3.heap[t9]? = some (.cells (wcells [p0, p1, p2, p3]) 26) ∧ W3.heap[ta]? = some (.cells (wcells [z0, z1, z2, z3]) 26) ∧ NatRow W3 g l ∧ Mod [t9] W2 W3) ?_ ?_
      · have h9 := H3.out.get HN.out.1 (by simp)
        have hne : ta ≠ t9 := by have := H2.out; have := HM.out; omega
        have hm3 : Mod [t9] W2 w2 := HN.out.2.2.2.1.trans (H3.out.mono (by simp))
        have hm4 := set4_modS' (S := [t9]) (b := t9) (by simp) hm3 p0 p1 p2 p3
        refine ⟨set4_at h9 p0 p1 p2 p3, set4_keep (H3.out.get HN.out.2.1 (by simp)) hne p0 p1 p2 p3, ?_, hm4⟩
        exact (HL.out.2.2.2.mod (HM.out.1.trans H2.out.2.1) (by simp)).mod hm4 (by have := H2.out; rw [List.mem_singleton]; omega)
      rintro W3 ⟨g9, gq, hrow, hm3⟩
      have hcl := hrow.cells HN.out.2.2.2.2.2.1 HN.out.2.2.2.2.2.2.1
      have hS : SatV t9 ta g i [p0, p1, p2, p3] [z0, z1, z2, z3] c0 c1 c2 c3 W3.drew := ⟨g9, gq, hcl⟩
      have HO := hid (And.intro g9 hm3)
      clear g9 gq hrow hm3 hcl H3
      refine wp_region_N (SatV t9 ta g i [p0, p1, p2, p3] [z0, z1, z2, z3] c0 c1 c2 c3) (fun i => !(i == 10)) (by kernel_rfl) ?_
      have hM : Mod [] W3 W3.drew := (Mod.refl _ _).drew
      generalize W3.drew = wq at *
      refine regS 0 35 (v := ?_) hS rfl rfl (by kernel_rfl) (by kernel_rfl) (by kernel_rfl) (by kernel_rfl) (fun _ _ _ h => h) (by rfl) (fun w hSw => ?_) ?_; rotate_left; (have qc0 := cell_at hSw.1 0; have qc1 := cell_at hSw.1 1; have qc2 := cell_at hSw.1 2; have qc3 := cell_at hSw.1 3; simp only [wcells_get] at qc0 qc1 qc2 qc3; go_simp; first | done | with_reducible rfl); (try simp only [Act.put, List.setIfInBounds_toArray, List.set_cons_zero, List.set_cons_succ])
      refine regA 1 36 (v := ?_) rfl rfl (by kernel_rfl) (by kernel_rfl) (by kernel_rfl) (fun _ _ _ h => h) (by rfl) (fun w => ?_) ?_; rotate_left; (go_simp; first | done | with_reducible rfl); (try simp only [Act.put, List.setIfInBounds_toArray, List.set_cons_zero, List.set_cons_succ])
      refine regA 2 37 (v := ?_) rfl rfl (by kernel_rfl) (by kernel_rfl) (by kernel_rfl) (fun _ _ _ h => h) (by rfl) (fun w => ?_) ?_; rotate_left; (go_simp; first | done | with_reducible rfl); (try simp only [Act.put, List.setIfInBounds_toArray, List.set_cons_zero, List.set_cons_succ])
      refine regA 3 38 (v := .pointer (some ⟨g, i * 4, none⟩)) rfl rfl (by kernel_rfl) (by kernel_rfl) (by kernel_rfl) (fun _ _ _ h => h) (by rfl) (fun w => ?_) ?_
      · go_simp
      (try simp only [Act.put, List.setIfInBounds_toArray, List.set_cons_zero, List.set_cons_succ])
      refine regS 4 39 (v := ?_) hS rfl rfl (by kernel_rfl) (by kernel_rfl) (by kernel_rfl) (by kernel_rfl) (fun _ _ _ h => h) (by rfl) (fun w hSw => ?_) ?_; rotate_left; (obtain ⟨qc0, qc1, qc2, qc3⟩ := hSw.2.2; go_simp; first | done | with_reducible rfl); (try simp only [Act.put, List.setIfInBounds_toArray, List.set_cons_zero, List.set_cons_succ])
      refine regS 5 40 (v := ?_) hS rfl rfl (by kernel_rfl) (by kernel_rfl) (by kernel_rfl) (by kernel_rfl) (fun _ _ _ h => h) (by rfl) (fun w hSw => ?_) ?_; rotate_left; (have qc0 := cell_at hSw.2.1 0; have qc1 := cell_at hSw.2.1 1; have qc2 := cell_at hSw.2.1 2; have qc3 := cell_at hSw.2.1 3; simp only [wcells_get] at qc0 qc1 qc2 qc3; go_simp; first | done | with_reducible rfl); (try simp only [Act.put, List.setIfInBounds_toArray, List.set_cons_zero, List.set_cons_succ])
      clear hS
      refine regOnly 6 (by kernel_rfl) rfl (by rfl) (fun K hK => ?_)
      go_wp2_with (go_at_call 34; refine (CA.out _).mono ?_; rintro e w5 ⟨rfl, hm⟩)
      refine hK.out _ _ (fun _ h => ⟨hm.get h.1 (by simp), hm.get h.2.1 (by simp), hm.cell h.2.2.1 (by simp), hm.cell h.2.2.2.1 (by simp), hm.cell h.2.2.2.2.1 (by simp), hm.cell h.2.2.2.2.2 (by simp)⟩) ?_
      clear hK
      (try simp only [Act.put, List.setIfInBounds_toArray, List.set_cons_zero, List.set_cons_succ])
      have hM := hM.trans hm
      clear hm
      refine regA 7 34 (v := ?_) rfl rfl (by kernel_rfl) (by kernel_rfl) (by kernel_rfl) (fun _ _ _ h => h) (by rfl) (fun w => ?_) ?_; rotate_left; (go_simp; first | done | with_reducible rfl); (try simp only [Act.put, List.setIfInBounds_toArray, List.set_cons_zero, List.set_cons_succ])
      refine regA 8 42 (v := ?_) rfl rfl (by kernel_rfl) (by kernel_rfl) (by kernel_rfl) (fun _ _ _ h => h) (by rfl) (fun w => ?_) ?_; rotate_left; (go_simp; first | done | with_reducible rfl); (try simp only [Act.put, List.setIfInBounds_toArray, List.set_cons_zero, List.set_cons_succ])
      refine regA 9 43 (v := ?_) rfl rfl (by kernel_rfl) (by kernel_rfl) (by kernel_rfl) (fun _ _ _ h => h) (by rfl) (fun w => ?_) ?_; rotate_left; (go_simp; first | done | with_reducible rfl); (try simp only [Act.put, List.setIfInBounds_toArray, List.set_cons_zero, List.set_cons_succ])
      have g9 := hM.get HO.out.1 (by simp)
      have yc0 := cell_at g9 0; have yc1 := cell_at g9 1; have yc2 := cell_at g9 2; have yc3 := cell_at g9 3; simp only [wcells_get] at yc0 yc1 yc2 yc3
      have yf0 := free_at g9 0; have yf1 := free_at g9 1; have yf2 := free_at g9 2; have yf3 := free_at g9 3
      have k9 := hid (set4_at g9 s0 s1 s2 s3)
      have km := hid (set4_modS' (S := [t9]) (b := t9) (by simp) (HO.out.2.trans (hM.mono (by simp))) s0 s1 s2 s3)
      clear g9 hM
      refine regOnly 10 (by kernel_rfl) rfl (by rfl) (fun K hK => ?_)
      go_wp2_with fail
      refine hK.out _ _ (fun h _ => absurd h (by decide)) ?_
      clear hK
      (try simp only [Act.put, List.setIfInBounds_toArray, List.set_cons_zero, List.set_cons_succ])
      clear yc0 yc1 yc2 yc3
      clear yf0 yf1 yf2 yf3
      refine regDone (by kernel_rfl) ?_ _
      go_wp2_with fail
      obtain ⟨-, -, -, -, -, -, -, hsq, hst, ps, hgk⟩ := HN.out
      go_roundg i
      case measure => omega
      case rel => exact ⟨(y * x % q + c) % q, rfl, by omega, hsq, hst, by rw [ps]; exact k9.out, km.out⟩
end Go.Proofs.YtdgmnhiffoemmaaDoor
