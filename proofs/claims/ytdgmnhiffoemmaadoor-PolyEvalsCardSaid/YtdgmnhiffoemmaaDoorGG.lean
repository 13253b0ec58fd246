/-
  The reference's Eval, refused. No statement of a claim stands here; each contract names what it asks.
-/
import Derived.Test.YtdgmnhiffoemmaaDoorZI
set_option linter.unusedSimpArgs false
namespace Go.Proofs.YtdgmnhiffoemmaaDoor
open Go Go.RowKit Go.ChangeMaps

set_option maxRecDepth 100000 in
set_option maxHeartbeats 1000000 in
theorem reval_no {q x : Nat} (hq : q < NN) (a : Option Addr) (n c : Nat) (hn : n ≤ 12) (hno : ¬ 2 ≤ q ∨ n = 0) (w : World) :
    Calls Tryd.prog 19 #[nv q, .slice a n c, nv x] w fun e w' => e = .returned (.tuple #[nv 0, .int .i64 2]) ∧ Mod [] w w' := by
  have crr := fun W => rright hq W
  have crm := fun W => rmany 0 (by unfold maxLen; omega) W
  rw [decide_eq_false (by omega)] at crm
  rw [nv_small (x := 0) BB_pos, show ((0 : Nat) : Int) = 0 from rfl]
  obtain ⟨z0, z1, z2, z3, hz⟩ := nv_lit q
  obtain ⟨x0, x1, x2, x3, hxx⟩ := nv_lit x
  rw [hz] at crr
  rw [hz, hxx]
  unfold lit4 at *
  have CRM : Hid (∀ W : World, Calls Tryd.prog 38 #[.int .i64 0] W fun e w' => e = .returned (.bool false) ∧ w' = W) := crm
  by_cases h2 : 2 ≤ q
  · obtain rfl : n = 0 := by omega
    rw [decide_eq_true h2] at crr
    have CRR := hid crr
    clear crr crm hz hxx hq hno hn h2
    go_enter Tryd.func19, Tryd.ntmps19
    go_upto_region 1 with fail
    refine wp_abs (fun W => W.heap[w.heap.size]? = some (.cells (wcells [z0, z1, z2, z3]) 26) ∧ W.heap[w.heap.size + 1 + 1]? = some (.cells (wcells [0, 0, 0, 0]) 26) ∧ Mod [] w W) ⟨three_a w _ _ _, three_c w _ _ _, (((Mod.refl _ _).alloc _).alloc _).alloc _⟩ ?_
    rintro W ⟨gz, gr, hm⟩
    generalize hta : w.heap.size = ta at *
    generalize htr : ta + 1 + 1 = tr at *
    have HT : Hid (w.heap.size ≤ tr) := by show w.heap.size ≤ tr; omega
    have HG := hid (And.intro gr (And.intro gz hm))
    have zc0 := cell_at gz 0; have zc1 := cell_at gz 1; have zc2 := cell_at gz 2; have zc3 := cell_at gz 3; simp only [wcells_get] at zc0 zc1 zc2 zc3
    clear gz gr hm hta htr
    go_wp2_with (first
      | (go_at_call 37; refine (CRR.out _).mono ?_; rintro e w1 ⟨rfl, hm⟩; have H1 := hid hm; have gr := hm.get HG.out.1 (by simp); have rc0 := cell_at gr 0; have rc1 := cell_at gr 1; have rc2 := cell_at gr 2; have rc3 := cell_at gr 3; simp only [wcells_get] at rc0 rc1 rc2 rc3; have rf0 := free_at gr 0; have rf1 := free_at gr 1; have rf2 := free_at gr 2; have rf3 := free_at gr 3; have HR := hid gr; clear hm gr)
      | (go_at_call 38; refine (CRM.out _).mono ?_; rintro e w1' ⟨rfl, hw⟩; subst hw))
    have qq := set4_at HR.out 0 0 0 0
    have km := set4_mod (b := tr) HT.out (HG.out.2.2.trans H1.out) 0 0 0 0
    rw [show ((0 : Nat) : Int) = 0 from rfl] at qq km
    clear rc0 rc1 rc2 rc3
    clear rf0 rf1 rf2 rf3
    have rc0 := cell_at qq 0; have rc1 := cell_at qq 1; have rc2 := cell_at qq 2; have rc3 := cell_at qq 3; simp only [wcells_get] at rc0 rc1 rc2 rc3
    exact bodyPost_ret (v := .tuple #[.agg #[.int .u64 0, .int .u64 0, .int .u64 0, .int .u64 0], .int .i64 2]) (by simp [results, Tryd.results19, go_sem, rc0, rc1, rc2, rc3]) rfl ⟨rfl, km⟩
  · rw [decide_eq_false h2] at crr
    have CRR := hid crr
    clear crr crm hz hxx hq hno hn h2
    go_enter Tryd.func19, Tryd.ntmps19
    go_upto_region 1 with fail
    refine wp_abs (fun W => W.heap[w.heap.size]? = some (.cells (wcells [z0, z1, z2, z3]) 26) ∧ W.heap[w.heap.size + 1 + 1]? = some (.cells (wcells [0, 0, 0, 0]) 26) ∧ Mod [] w W) ⟨three_a w _ _ _, three_c w _ _ _, (((Mod.refl _ _).alloc _).alloc _).alloc _⟩ ?_
    rintro W ⟨gz, gr, hm⟩
    generalize hta : w.heap.size = ta at *
    generalize htr : ta + 1 + 1 = tr at *
    have HT : Hid (w.heap.size ≤ tr) := by show w.heap.size ≤ tr; omega
    have HG := hid (And.intro gr (And.intro gz hm))
    have zc0 := cell_at gz 0; have zc1 := cell_at gz 1; have zc2 := cell_at gz 2; have zc3 := cell_at gz 3; simp only [wcells_get] at zc0 zc1 zc2 zc3
    clear gz gr hm hta htr
    go_wp2_with (go_at_call 37; refine (CRR.out _).mono ?_; rintro e w1 ⟨rfl, hm⟩; have H1 := hid hm; have gr := hm.get HG.out.1 (by simp); have rc0 := cell_at gr 0; have rc1 := cell_at gr 1; have rc2 := cell_at gr 2; have rc3 := cell_at gr 3; simp only [wcells_get] at rc0 rc1 rc2 rc3; have rf0 := free_at gr 0; have rf1 := free_at gr 1; have rf2 := free_at gr 2; have rf3 := free_at gr 3; have HR := hid gr; clear hm gr)
    have qq := set4_at HR.out 0 0 0 0
    have km := set4_mod (b := tr) HT.out (HG.out.2.2.trans H1.out) 0 0 0 0
    rw [show ((0 : Nat) : Int) = 0 from rfl] at qq km
    clear rc0 rc1 rc2 rc3
    clear rf0 rf1 rf2 rf3
    have rc0 := cell_at qq 0; have rc1 := cell_at qq 1; have rc2 := cell_at qq 2; have rc3 := cell_at qq 3; simp only [wcells_get] at rc0 rc1 rc2 rc3
    exact bodyPost_ret (v := .tuple #[.agg #[.int .u64 0, .int .u64 0, .int .u64 0, .int .u64 0], .int .i64 2]) (by simp [results, Tryd.results19, go_sem, rc0, rc1, rc2, rc3]) rfl ⟨rfl, km⟩
end Go.Proofs.YtdgmnhiffoemmaaDoor
/-
  poly.right, refused. No statement of a claim stands here; each contract names what it asks.
-/
set_option linter.unusedSimpArgs false
namespace Go.Proofs.YtdgmnhiffoemmaaDoor
open Go Go.RowKit Go.ChangeMaps

/-- While the counts are looked at, and one of them is nought. -/
def WrongRel (W : World) (ns : List Nat) (gk : Nat) (v : Value) (w : World) : Prop := ∃ i : Nat, v = .int .i64 i ∧ gk + i = ns.length ∧ 0 ∈ ns.drop i ∧ w = W

set_option maxRecDepth 100000 in
theorem pright_no {q : Nat} (hq : q < NN) (ns : List Nat) (hl : ns.length ≤ 8) (g : Nat) (hn : ∀ n ∈ ns, n ≤ 256) (hno : ¬ 2 ≤ q ∨ 0 ∈ ns) (w : World) (hg : w.heap[g]? = some (.cells (ns.map fun (n : Nat) => Value.int .i64 (n : Int)).toArray 3)) :
    Calls Tryd.prog 29 #[nv q, .slice (some ⟨g, 0, none⟩) ns.length ns.length] w fun e w' => e = .returned (.int .i64 2) ∧ Mod [] w w' := by
  have cl : ∀ W : World, Calls Tryd.prog 46 #[nv q] W fun e w' => (∃ k : Nat, e = .returned (.int .i64 k) ∧ (k < 2 ↔ q < 2)) ∧ Mod [] W w' := fun W => llength hq W
  obtain ⟨x0, x1, x2, x3, hx⟩ := nv_lit q
  rw [hx] at cl
  rw [hx]
  clear hx
  unfold lit4 at *
  have HG := hid (And.intro hg hn)
  by_cases h2 : 2 ≤ q
  · have h0 : 0 ∈ ns := by rcases hno with h | h; exact absurd h2 h; exact h
    have CL : Hid (∀ W : World, Calls Tryd.prog 46 #[.agg #[.int .u64 (x0 : Int), .int .u64 (x1 : Int), .int .u64 (x2 : Int), .int .u64 (x3 : Int)]] W fun e w' => (∃ k : Nat, e = .returned (.int .i64 k) ∧ ¬ (k : Int) < 2) ∧ Mod [] W w') := fun W => by
      refine (cl W).mono ?_
      rintro e w' ⟨⟨k, he, hk⟩, hm⟩
      exact ⟨⟨k, he, by omega⟩, hm⟩
    have H0 := hid h0
    clear cl hg h2 hq hn hno h0
    go_enter Tryd.func29, Tryd.ntmps29
    go_upto_region 3 with (go_at_call 46; refine (CL.out _).mono ?_; rintro e w1 ⟨⟨k, rfl, hk⟩, hm⟩; have HM := hid hm; clear hm)
    have hg1 := hid (HM.out.get (get_alloc HG.out.1 _) (by simp))
    have hm1 := hid (((Mod.refl [] w).alloc _).trans HM.out)
    clear HM
    go_wp2_with fail
    go_loopg [12] ns.length (fun gk v W' => WrongRel w1 ns gk v W')
    case atStart => exact ⟨0, rfl, rfl, H0.out, rfl⟩
    case round =>
      obtain ⟨i, rfl, hgi, hz, rfl⟩ := hrel
      have hi : i < ns.length := by
        apply Nat.lt_of_not_le
        intro h
        rw [List.drop_eq_nil_of_le h] at hz
        cases hz
      obtain ⟨n, hni⟩ : ∃ n, ns[i]? = some n := ⟨_, List.getElem?_eq_getElem hi⟩
      have hb2 := HG.out.2 n (List.mem_of_getElem? hni)
      have hzz : n = 0 ∨ 0 ∈ ns.drop (i + 1) := by
        rw [List.drop_eq_getElem_cons hi] at hz
        rcases List.mem_cons.1 hz with h | h
        · left
          rw [List.getElem?_eq_getElem hi] at hni
          exact (Option.some.inj hni).symm.trans h.symm
        · exact .inr h
      have ci := cell_at hg1.out i
      rw [List.getElem?_toArray, List.getElem?_map, hni] at ci
      have i1 : (i : Int) < (ns.length : Int) := by omega
      have i0 : (0 : Int) ≤ (i : Int) := by omega
      clear hz
      by_cases hn0 : n = 0
      · have n1 : (n : Int) < 1 := by omega
        clear hzz hn0
        go_wp2_with fail
        exact bodyPost_ret (v := .int .i64 2) (by simp [results, Tryd.results29, go_sem]) rfl ⟨rfl, hm1.out⟩
      · have n1 : ¬ (n : Int) < 1 := by omega
        have n2 : ¬ (256 : Int) < (n : Int) := by omega
        have HZ := hid (hzz.resolve_left hn0)
        clear hzz hn0
        go_wp2_with fail
        go_roundg (gk - 1)
        case measure => omega
        case rel => exact ⟨i + 1, rfl, by omega, HZ.out, rfl⟩
  · have CL : Hid (∀ W : World, Calls Tryd.prog 46 #[.agg #[.int .u64 (x0 : Int), .int .u64 (x1 : Int), .int .u64 (x2 : Int), .int .u64 (x3 : Int)]] W fun e w' => (∃ k : Nat, e = .returned (.int .i64 k) ∧ (k : Int) < 2) ∧ Mod [] W w') := fun W => by
      refine (cl W).mono ?_
      rintro e w' ⟨⟨k, he, hk⟩, hm⟩
      exact ⟨⟨k, he, by omega⟩, hm⟩
    clear cl hg h2 hq hn hno
    go_enter Tryd.func29, Tryd.ntmps29
    go_wp2_with (go_at_call 46; refine (CL.out _).mono ?_; rintro e w1 ⟨⟨k, rfl, hk⟩, hm⟩; have HM := hid hm; clear hm)
    have hm1 := hid (((Mod.refl [] w).alloc _).trans HM.out)
    exact bodyPost_ret (v := .int .i64 2) (by simp [results, Tryd.results29, go_sem]) rfl ⟨rfl, hm1.out⟩
end Go.Proofs.YtdgmnhiffoemmaaDoor
/-
  poly.Eval, refused. No statement of a claim stands here; each contract names what it asks.
-/
set_option linter.unusedSimpArgs false
namespace Go.Proofs.YtdgmnhiffoemmaaDoor
open Go Go.RowKit Go.ChangeMaps

set_option maxRecDepth 100000 in
set_option maxHeartbeats 1000000 in
theorem peval_no {q x : Nat} (hq : q < NN) (a : Option Addr) (n c : Nat) (hn : n ≤ 12) (hno : ¬ 2 ≤ q ∨ n = 0) (w : World) :
    Calls Tryd.prog 14 #[nv q, .slice a n c, nv x] w fun e w' => e = .returned (.tuple #[nv 0, .int .i64 2]) ∧ Mod [] w w' := by
  have crr := fun (b : Nat) (W : World) (hb : W.heap[b]? = some (.cells #[.int .i64 (n : Int)] 3)) => pright_no hq [n] (by simp) b (by simp; omega) (by rcases hno with h | h; exact .inl h; exact .inr (by simp [h])) W hb
  rw [nv_small (x := 0) BB_pos, show ((0 : Nat) : Int) = 0 from rfl]
  obtain ⟨z0, z1, z2, z3, hz⟩ := nv_lit q
  obtain ⟨x0, x1, x2, x3, hxx⟩ := nv_lit x
  rw [hz] at crr
  rw [hz, hxx]
  unfold lit4 at *
  have CR := hid crr
  clear crr hz hxx hq hno hn
  go_enter Tryd.func14, Tryd.ntmps14
  go_upto_region 1 with fail
  refine wp_abs (fun W => W.heap[w.heap.size]? = some (.cells (wcells [z0, z1, z2, z3]) 26) ∧ W.heap[w.heap.size + 1 + 1]? = some (.cells (wcells [0, 0, 0, 0]) 26) ∧ Mod [] w W) ⟨three_a w _ _ _, three_c w _ _ _, (((Mod.refl _ _).alloc _).alloc _).alloc _⟩ ?_
  rintro W ⟨gz, gr, hm⟩
  generalize hta : w.heap.size = ta at *
  generalize htr : ta + 1 + 1 = tr at *
  have HT : Hid (w.heap.size ≤ tr) := by show w.heap.size ≤ tr; omega
  have HG := hid (And.intro gr (And.intro gz hm))
  have zc0 := cell_at gz 0; have zc1 := cell_at gz 1; have zc2 := cell_at gz 2; have zc3 := cell_at gz 3; simp only [wcells_get] at zc0 zc1 zc2 zc3
  clear gz gr hm hta htr
  go_wp2_with (go_at_call 29; refine (CR.out _ _ (get_new _ _)).mono ?_; rintro e w1 ⟨rfl, hm⟩; have H1 := hid (((Mod.refl [] W).alloc _).trans hm); have gr := H1.out.get HG.out.1 (by simp); have rc0 := cell_at gr 0; have rc1 := cell_at gr 1; have rc2 := cell_at gr 2; have rc3 := cell_at gr 3; simp only [wcells_get] at rc0 rc1 rc2 rc3; have rf0 := free_at gr 0; have rf1 := free_at gr 1; have rf2 := free_at gr 2; have rf3 := free_at gr 3; have HR := hid gr; clear hm gr)
  have qq := set4_at HR.out 0 0 0 0
  have km := set4_mod (b := tr) HT.out (HG.out.2.2.trans H1.out) 0 0 0 0
  rw [show ((0 : Nat) : Int) = 0 from rfl] at qq km
  clear rc0 rc1 rc2 rc3
  clear rf0 rf1 rf2 rf3
  have rc0 := cell_at qq 0; have rc1 := cell_at qq 1; have rc2 := cell_at qq 2; have rc3 := cell_at qq 3; simp only [wcells_get] at rc0 rc1 rc2 rc3
  exact bodyPost_ret (v := .tuple #[.agg #[.int .u64 0, .int .u64 0, .int .u64 0, .int .u64 0], .int .i64 2]) (by simp [results, Tryd.results14, go_sem, rc0, rc1, rc2, rc3]) rfl ⟨rfl, km⟩
end Go.Proofs.YtdgmnhiffoemmaaDoor
/-
  Add and Points of both sides, refused at their counts. No statement of a claim stands here; each contract names what it asks.
-/
set_option linter.unusedSimpArgs false
namespace Go.Proofs.YtdgmnhiffoemmaaDoor
open Go Go.RowKit Go.ChangeMaps

set_option maxRecDepth 100000 in
set_option maxHeartbeats 1000000 in
theorem padd_no {q : Nat} (hq : q < NN) (a b : Option Addr) (n m c d : Nat) (hn : n ≤ 12) (hm : m ≤ 12) (hno : ¬ 2 ≤ q ∨ n = 0 ∨ m = 0) (w : World) :
    Calls Tryd.prog 22 #[nv q, .slice a n c, .slice b m d] w fun e w' => e = .returned (.tuple #[.slice none 0 0, .int .i64 2]) ∧ Mod [] w w' := by
  have crr := fun (g : Nat) (W : World) (hb : W.heap[g]? = some (.cells #[.int .i64 (n : Int), .int .i64 (m : Int)] 3)) => pright_no hq [n, m] (by simp) g (by intro k hk; simp at hk; omega) (by rcases hno with h | h | h; exact .inl h; exact .inr (by simp [h]); exact .inr (by simp [h])) W hb
  obtain ⟨z0, z1, z2, z3, hz⟩ := nv_lit q
  rw [hz] at crr
  rw [hz]
  unfold lit4 at *
  have CR := hid crr
  clear crr hz hq hno
  clear hn hm
  go_enter Tryd.func22, Tryd.ntmps22
  go_upto_region 1 with fail
  refine wp_abs (fun W => W.heap[w.heap.size]? = some (.cells (wcells [z0, z1, z2, z3]) 26) ∧ Mod [] w W) ⟨get_new _ _, (Mod.refl _ _).alloc _⟩ ?_
  rintro W ⟨gz, hm⟩
  generalize w.heap.size = ta at *
  have HG := hid (And.intro gz hm)
  have zc0 := cell_at gz 0; have zc1 := cell_at gz 1; have zc2 := cell_at gz 2; have zc3 := cell_at gz 3; simp only [wcells_get] at zc0 zc1 zc2 zc3
  clear gz hm
  go_wp2_with (go_at_call 29; refine (CR.out _ _ (get_new _ _)).mono ?_; rintro e w1 ⟨rfl, hm⟩; have H1 := hid (((Mod.refl [] W).alloc _).trans hm); clear hm)
  exact bodyPost_ret (v := .tuple #[.slice none 0 0, .int .i64 2]) (by simp [results, Tryd.results22, go_sem]) rfl ⟨rfl, HG.out.2.trans H1.out⟩

set_option maxRecDepth 100000 in
set_option maxHeartbeats 1000000 in
theorem ppoints_no {q : Nat} (hq : q < NN) (a b : Option Addr) (n m c d : Nat) (hn : n ≤ 12) (hno : ¬ 2 ≤ q ∨ n = 0) (w : World) :
    Calls Tryd.prog 10 #[nv q, .slice a n c, .slice b m d] w fun e w' => e = .returned (.tuple #[.slice none 0 0, .int .i64 2]) ∧ Mod [] w w' := by
  have crr := fun (b : Nat) (W : World) (hb : W.heap[b]? = some (.cells #[.int .i64 (n : Int)] 3)) => pright_no hq [n] (by simp) b (by simp; omega) (by rcases hno with h | h; exact .inl h; exact .inr (by simp [h])) W hb
  obtain ⟨z0, z1, z2, z3, hz⟩ := nv_lit q
  rw [hz] at crr
  rw [hz]
  unfold lit4 at *
  have CR := hid crr
  clear crr hz hq hno
  clear hn
  go_enter Tryd.func10, Tryd.ntmps10
  go_upto_region 1 with fail
  refine wp_abs (fun W => W.heap[w.heap.size]? = some (.cells (wcells [z0, z1, z2, z3]) 26) ∧ Mod [] w W) ⟨get_new _ _, (Mod.refl _ _).alloc _⟩ ?_
  rintro W ⟨gz, hm⟩
  generalize w.heap.size = ta at *
  have HG := hid (And.intro gz hm)
  have zc0 := cell_at gz 0; have zc1 := cell_at gz 1; have zc2 := cell_at gz 2; have zc3 := cell_at gz 3; simp only [wcells_get] at zc0 zc1 zc2 zc3
  clear gz hm
  go_wp2_with (go_at_call 29; refine (CR.out _ _ (get_new _ _)).mono ?_; rintro e w1 ⟨rfl, hm⟩; have H1 := hid (((Mod.refl [] W).alloc _).trans hm); clear hm)
  exact bodyPost_ret (v := .tuple #[.slice none 0 0, .int .i64 2]) (by simp [results, Tryd.results10, go_sem]) rfl ⟨rfl, HG.out.2.trans H1.out⟩

set_option maxRecDepth 100000 in
set_option maxHeartbeats 1000000 in
theorem rpoints_no {q : Nat} (hq : q < NN) (a b : Option Addr) (n m c d : Nat) (hn : n ≤ 12) (hno : ¬ 2 ≤ q ∨ n = 0) (w : World) :
    Calls Tryd.prog 21 #[nv q, .slice a n c, .slice b m d] w fun e w' => e = .returned (.tuple #[.slice none 0 0, .int .i64 2]) ∧ Mod [] w w' := by
  have crr := fun W => rright hq W
  have crm := fun W => rmany 0 (by unfold maxLen; omega) W
  rw [decide_eq_false (by omega)] at crm
  have CRM : Hid (∀ W : World, Calls Tryd.prog 38 #[.int .i64 0] W fun e w' => e = .returned (.bool false) ∧ w' = W) := crm
  clear crm
  by_cases h2 : 2 ≤ q
  · obtain rfl : n = 0 := by omega
    rw [decide_eq_true h2] at crr
    obtain ⟨z0, z1, z2, z3, hz⟩ := nv_lit q
    rw [hz] at crr
    rw [hz]
    unfold lit4 at *
    have CR := hid crr
    clear crr hz hq hno
    clear hn h2
    go_enter Tryd.func21, Tryd.ntmps21
    go_upto_region 1 with fail
    refine wp_abs (fun W => W.heap[w.heap.size]? = some (.cells (wcells [z0, z1, z2, z3]) 26) ∧ Mod [] w W) ⟨get_new _ _, (Mod.refl _ _).alloc _⟩ ?_
    rintro W ⟨gz, hm⟩
    generalize w.heap.size = ta at *
    have HG := hid (And.intro gz hm)
    have zc0 := cell_at gz 0; have zc1 := cell_at gz 1; have zc2 := cell_at gz 2; have zc3 := cell_at gz 3; simp only [wcells_get] at zc0 zc1 zc2 zc3
    clear gz hm
    go_wp2_with (first
      | (go_at_call 37; refine (CR.out _).mono ?_; rintro e w1 ⟨rfl, hm⟩; have H1 := hid hm; clear hm)
      | (go_at_call 38; refine (CRM.out _).mono ?_; rintro e w1' ⟨rfl, hw⟩; subst hw))
    exact bodyPost_ret (v := .tuple #[.slice none 0 0, .int .i64 2]) (by simp [results, Tryd.results21, go_sem]) rfl ⟨rfl, HG.out.2.trans H1.out⟩
  · rw [decide_eq_false h2] at crr
    obtain ⟨z0, z1, z2, z3, hz⟩ := nv_lit q
    rw [hz] at crr
    rw [hz]
    unfold lit4 at *
    have CR := hid crr
    clear crr hz hq hno
    clear hn h2
    go_enter Tryd.func21, Tryd.ntmps21
    go_upto_region 1 with fail
    refine wp_abs (fun W => W.heap[w.heap.size]? = some (.cells (wcells [z0, z1, z2, z3]) 26) ∧ Mod [] w W) ⟨get_new _ _, (Mod.refl _ _).alloc _⟩ ?_
    rintro W ⟨gz, hm⟩
    generalize w.heap.size = ta at *
    have HG := hid (And.intro gz hm)
    have zc0 := cell_at gz 0; have zc1 := cell_at gz 1; have zc2 := cell_at gz 2; have zc3 := cell_at gz 3; simp only [wcells_get] at zc0 zc1 zc2 zc3
    clear gz hm
    go_wp2_with (go_at_call 37; refine (CR.out _).mono ?_; rintro e w1 ⟨rfl, hm⟩; have H1 := hid hm; clear hm)
    exact bodyPost_ret (v := .tuple #[.slice none 0 0, .int .i64 2]) (by simp [results, Tryd.results21, go_sem]) rfl ⟨rfl, HG.out.2.trans H1.out⟩
end Go.Proofs.YtdgmnhiffoemmaaDoor
/-
  The reference's Add, refused. No statement of a claim stands here; each contract names what it asks.
-/
set_option linter.unusedSimpArgs false
namespace Go.Proofs.YtdgmnhiffoemmaaDoor
open Go Go.RowKit Go.ChangeMaps

set_option maxRecDepth 100000 in
set_option maxHeartbeats 1000000 in
theorem radd_no {q : Nat} (hq : q < NN) (a b : Option Addr) (n m c d : Nat) (hn : n ≤ 12) (hm : m ≤ 12) (hno : ¬ 2 ≤ q ∨ n = 0 ∨ m = 0) (w : World) :
    Calls Tryd.prog 23 #[nv q, .slice a n c, .slice b m d] w fun e w' => e = .returned (.tuple #[.slice none 0 0, .int .i64 2]) ∧ Mod [] w w' := by
  have crr := fun W => rright hq W
  have crm := fun W => rmany 0 (by unfold maxLen; omega) W
  rw [decide_eq_false (by omega)] at crm
  have CRM : Hid (∀ W : World, Calls Tryd.prog 38 #[.int .i64 0] W fun e w' => e = .returned (.bool false) ∧ w' = W) := crm
  clear crm
  by_cases h2 : 2 ≤ q
  · rw [decide_eq_true h2] at crr
    by_cases h1 : n = 0
    · subst h1
      obtain ⟨z0, z1, z2, z3, hz⟩ := nv_lit q
      rw [hz] at crr
      rw [hz]
      unfold lit4 at *
      have CR := hid crr
      clear crr hz hq hno
      clear hn hm h2
      go_enter Tryd.func23, Tryd.ntmps23
      go_upto_region 1 with fail
      refine wp_abs (fun W => W.heap[w.heap.size]? = some (.cells (wcells [z0, z1, z2, z3]) 26) ∧ Mod [] w W) ⟨get_new _ _, (Mod.refl _ _).alloc _⟩ ?_
      rintro W ⟨gz, hm⟩
      generalize w.heap.size = ta at *
      have HG := hid (And.intro gz hm)
      have zc0 := cell_at gz 0; have zc1 := cell_at gz 1; have zc2 := cell_at gz 2; have zc3 := cell_at gz 3; simp only [wcells_get] at zc0 zc1 zc2 zc3
      clear gz hm
      go_wp2_with (first
        | (go_at_call 37; refine (CR.out _).mono ?_; rintro e w1 ⟨rfl, hm⟩; have H1 := hid hm; clear hm)
        | (go_at_call 38; refine (CRM.out _).mono ?_; rintro e w1' ⟨rfl, hw⟩; subst hw))
      exact bodyPost_ret (v := .tuple #[.slice none 0 0, .int .i64 2]) (by simp [results, Tryd.results23, go_sem]) rfl ⟨rfl, HG.out.2.trans H1.out⟩
    · obtain rfl : m = 0 := by omega
      have cmn := fun W => rmany n (by unfold maxLen; omega) W
      rw [decide_eq_true (by omega)] at cmn
      have CMN : Hid (∀ W : World, Calls Tryd.prog 38 #[.int .i64 (n : Int)] W fun e w' => e = .returned (.bool true) ∧ w' = W) := cmn
      clear cmn
      obtain ⟨z0, z1, z2, z3, hz⟩ := nv_lit q
      rw [hz] at crr
      rw [hz]
      unfold lit4 at *
      have CR := hid crr
      clear crr hz hq hno
      clear hn hm h2 h1
      go_enter Tryd.func23, Tryd.ntmps23
      go_upto_region 1 with fail
      refine wp_abs (fun W => W.heap[w.heap.size]? = some (.cells (wcells [z0, z1, z2, z3]) 26) ∧ Mod [] w W) ⟨get_new _ _, (Mod.refl _ _).alloc _⟩ ?_
      rintro W ⟨gz, hm⟩
      generalize w.heap.size = ta at *
      have HG := hid (And.intro gz hm)
      have zc0 := cell_at gz 0; have zc1 := cell_at gz 1; have zc2 := cell_at gz 2; have zc3 := cell_at gz 3; simp only [wcells_get] at zc0 zc1 zc2 zc3
      clear gz hm
      go_wp2_with (first
        | (go_at_call 37; refine (CR.out _).mono ?_; rintro e w1 ⟨rfl, hm⟩; have H1 := hid hm; clear hm)
        | (go_at_call 38; (first | refine (CMN.out _).mono ?_ | refine (CRM.out _).mono ?_); rintro e w1' ⟨rfl, hw⟩; subst hw))
      exact bodyPost_ret (v := .tuple #[.slice none 0 0, .int .i64 2]) (by simp [results, Tryd.results23, go_sem]) rfl ⟨rfl, HG.out.2.trans H1.out⟩
  · rw [decide_eq_false h2] at crr
    obtain ⟨z0, z1, z2, z3, hz⟩ := nv_lit q
    rw [hz] at crr
    rw [hz]
    unfold lit4 at *
    have CR := hid crr
    clear crr hz hq hno
    clear hn hm h2
    go_enter Tryd.func23, Tryd.ntmps23
    go_upto_region 1 with fail
    refine wp_abs (fun W => W.heap[w.heap.size]? = some (.cells (wcells [z0, z1, z2, z3]) 26) ∧ Mod [] w W) ⟨get_new _ _, (Mod.refl _ _).alloc _⟩ ?_
    rintro W ⟨gz, hm⟩
    generalize w.heap.size = ta at *
    have HG := hid (And.intro gz hm)
    have zc0 := cell_at gz 0; have zc1 := cell_at gz 1; have zc2 := cell_at gz 2; have zc3 := cell_at gz 3; simp only [wcells_get] at zc0 zc1 zc2 zc3
    clear gz hm
    go_wp2_with (go_at_call 37; refine (CR.out _).mono ?_; rintro e w1 ⟨rfl, hm⟩; have H1 := hid hm; clear hm)
    exact bodyPost_ret (v := .tuple #[.slice none 0 0, .int .i64 2]) (by simp [results, Tryd.results23, go_sem]) rfl ⟨rfl, HG.out.2.trans H1.out⟩
end Go.Proofs.YtdgmnhiffoemmaaDoor
