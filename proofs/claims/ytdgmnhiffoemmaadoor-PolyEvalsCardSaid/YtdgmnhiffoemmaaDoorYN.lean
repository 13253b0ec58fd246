/-
  poly.Factors, where all is right. No statement of a claim stands here; each contract names what it asks.
-/
import Derived.Test.YtdgmnhiffoemmaaDoorYM
set_option linter.unusedSimpArgs false
namespace Go.Proofs.YtdgmnhiffoemmaaDoor
open Go Go.RowKit Go.ChangeMaps

/-- A place's factor. -/
def FacOk (q at_ : Nat) (xs : List Nat) (i f : Nat) : Prop := ∃ xi u : Nat, xs[i]? = some xi ∧ f < q ∧ u < q ∧ Cg (q : Int) ((u : Int) * topN (zs xs) i (xi : Int)) 1 ∧ Cg (q : Int) (f : Int) (topN (zs xs) i (at_ : Int) * (u : Int))
/-- All places differ, modulo q. -/
def AllApart (q : Nat) (xs : List Nat) : Prop := ∀ i xi, xs[i]? = some xi → Other q xs i xi

/-- While factors are gathered. -/
def FactorsRel (W : World) (q at_ : Nat) (xs : List Nat) (gk : Nat) (v i : Value) (w : World) : Prop :=
  ∃ (j : Nat) (fs : List Nat), i = .int .i64 j ∧ gk + j = xs.length ∧ fs.length = j ∧ (∀ (i f : Nat), fs[i]? = some f → FacOk q at_ xs i f) ∧ Nats W.heap.size w v fs ∧ Mod [] W w

set_option maxRecDepth 100000 in
set_option maxHeartbeats 4000000 in
theorem pfactors {q at_ : Nat} (hq : q < NN) (hpr : ∀ d, d ∣ q → d = 1 ∨ d = q) (h2 : 2 ≤ q) (hat : at_ < NN) (xs : List Nat) (hxs : ∀ x ∈ xs, x < NN) (hn1 : 1 ≤ xs.length) (hn : xs.length ≤ 256) (ho : AllApart q xs) (g c : Nat) (w : World) (hg : NatRow w g xs) :
    Calls Tryd.prog 17 #[nv q, nv at_, .slice (some ⟨g, 0, none⟩) xs.length c] w fun e w' =>
      (∃ (v : Value) (fs : List Nat), fs.length = xs.length ∧ (∀ (i f : Nat), fs[i]? = some f → FacOk q at_ xs i f) ∧ Nats w.heap.size w' v fs ∧ e = .returned (.tuple #[v, .int .i64 0])) ∧ Mod [] w w' := by
  have cr := fun (b : Nat) (W : World) (hb : W.heap[b]? = some (.cells #[.int .i64 (xs.length : Int)] 3)) => pright hq h2 [xs.length] (by simp) b (by simp; omega) W hb
  have cf := fun (i xi : Nat) (hi : xs[i]? = some xi) (W : World) (hW : NatRow W g xs) => pfactor hq hpr h2 hat xs hxs hn hi (ho i xi hi) g c W hW
  obtain ⟨z0, z1, z2, z3, hz⟩ := nv_lit q
  obtain ⟨a0, a1, a2, a3, ha⟩ := nv_lit at_
  rw [hz] at cr
  simp only [hz, ha] at cf
  rw [hz, ha]
  unfold lit4 at *
  have CR := hid cr
  have CF := hid cf
  have HL := hid hg
  have l2 : (xs.length : Int) ≤ 256 := by omega
  clear cr cf hz ha hq hpr h2 hat hxs ho hg
  go_enter Tryd.func17, Tryd.ntmps17
  go_upto_region 1 with fail
  refine wp_abs (fun W => W.heap[w.heap.size]? = some (.cells (wcells [z0, z1, z2, z3]) 26) ∧ W.heap[w.heap.size + 1]? = some (.cells (wcells [a0, a1, a2, a3]) 26) ∧ Mod [] w W) ⟨get_alloc (get_new _ _) _, two_b _ _ _, ((Mod.refl _ _).alloc _).alloc _⟩ ?_
  rintro W ⟨gz, ga, hm⟩
  generalize hta : w.heap.size = ta at *
  generalize htb : ta + 1 = tb at *
  have HM : Hid (Mod [] w W ∧ w.heap.size = ta) := ⟨hm, hta⟩
  have HG := hid (And.intro gz ga)
  have zc0 := cell_at gz 0; have zc1 := cell_at gz 1; have zc2 := cell_at gz 2; have zc3 := cell_at gz 3; simp only [wcells_get] at zc0 zc1 zc2 zc3
  clear gz ga hm hta htb
  go_upto_region 4 with (go_at_call 29; refine (CR.out _ _ (get_new _ _)).mono ?_; rintro e w1 ⟨rfl, hm⟩; have H1 := hid (((Mod.refl [] W).alloc _).trans hm); clear hm)
  clear zc0 zc1 zc2 zc3
  go_wp2_with fail
  go_loopg [9, 23] xs.length (fun gk v i W' => FactorsRel w1 q at_ xs gk v i W')
  case atStart =>
    exact ⟨0, [], rfl, rfl, rfl, fun k p hp => by simp at hp, RowOf.nil _ _, Mod.refl _ _⟩
  case round =>
    obtain ⟨j, fs, rfl, hgj, hfl, hfs, hv, hm⟩ := hrel
    have hmW : Mod [] w wr := (HM.out.1.trans H1.out).trans hm
    by_cases hj : j < xs.length
    · obtain ⟨x, hx⟩ : ∃ x, xs[j]? = some x := ⟨_, List.getElem?_eq_getElem hj⟩
      have hrow : NatRow wr g xs := HL.out.mod hmW (by simp)
      have gz := (H1.out.trans hm).get HG.out.1 (by simp)
      have ga := (H1.out.trans hm).get HG.out.2 (by simp)
      have CFJ := hid (CF.out j x hx wr hrow)
      have hpl : fs.length ≤ 5000 := by omega
      have zc0 := cell_at gz 0; have zc1 := cell_at gz 1; have zc2 := cell_at gz 2; have zc3 := cell_at gz 3; simp only [wcells_get] at zc0 zc1 zc2 zc3
      have ac0 := cell_at ga 0; have ac1 := cell_at ga 1; have ac2 := cell_at ga 2; have ac3 := cell_at ga 3; simp only [wcells_get] at ac0 ac1 ac2 ac3
      have HN := hid (And.intro hfl (And.intro hfs (And.intro hv (And.intro hm (And.intro hx (And.intro hpl hgj))))))
      have j0 : (0 : Int) ≤ (j : Int) := by omega
      have j1 : (j : Int) < (xs.length : Int) := by omega
      obtain ⟨av, kv, rfl⟩ := row_sl hv.row
      clear hfl hfs hv hm hrow gz ga hx hpl hmW
      go_upto_region 9 with (go_at_call 35; refine CFJ.out.mono ?_; rintro e w3 ⟨⟨f, u, hfq, huq, hu1, hf1, rfl⟩, hm1⟩; obtain ⟨y0, y1, y2, y3, hyy, py⟩ := nv_lits f; unfold lit4 at hyy; rw [hyy]; have hok : FacOk q at_ xs j f := ⟨x, u, HN.out.2.2.2.2.1, hfq, huq, hu1, hf1⟩; have H3 := hid (And.intro hok (And.intro py hm1)); clear hok py hm1 hyy hfq huq hu1 hf1)
      clear zc0 zc1 zc2 zc3
      clear ac0 ac1 ac2 ac3
      refine wp_abs (fun W3 => W3.heap[w3.heap.size]? = some (.cells (wcells [y0, y1, y2, y3]) 26) ∧ Mod [] wr W3) ⟨get_new _ _, H3.out.2.2.alloc _⟩ ?_
      generalize w3.heap.size = t11 at *
      rintro W3 ⟨g11, hm3⟩
      have yc0 := cell_at g11 0; have yc1 := cell_at g11 1; have yc2 := cell_at g11 2; have yc3 := cell_at g11 3; simp only [wcells_get] at yc0 yc1 yc2 yc3
      have hv := HN.out.2.2.1.mod hm3 (fun _ _ => by simp)
      have happ := RowOf.app elemN encN_len encN_one hv (Nat.le_trans HN.out.2.2.2.1.size hm3.size) f HN.out.2.2.2.2.2.1 (by omega)
      have e4 : (encN f).toArray = #[.int .u64 (y0 : Int), .int .u64 (y1 : Int), .int .u64 (y2 : Int), .int .u64 (y3 : Int)] := by rw [encN_lit H3.out.2.1]
      rw [e4] at happ
      have HA := hid happ
      have HP := hid (And.intro hm3 hv)
      clear g11 hm3 hv happ e4
      go_wp2_with (first
        | (at_builtin; refine wpList_app_run rfl _ _ 22 rfl _ _ rfl rfl _ HA.out ?_; rintro v3 w4 ⟨h31, h32, h33⟩; have H4 := hid (And.intro h31 (And.intro h32 h33)); clear h31 h32 h33))
      obtain ⟨hfl, hfs, -, hm, hx, -, hgj⟩ := HN.out
      have hmE : Mod [] w1 w4 := (hm.trans HP.out.1).trans' H4.out.2.1 (fun k hk => .inr (HP.out.2.own k (by simpa using hk)))
      go_roundg (gk - 1)
      case measure => omega
      case rel =>
        refine ⟨j + 1, fs ++ [f], rfl, by omega, by simp [hfl], ?_, H4.out.1, hmE⟩
        intro i f' hf'
        by_cases hi : i < j
        · rw [List.getElem?_append_left (by omega)] at hf'
          exact hfs i f' hf'
        · have hij : i = j := by
            have := (List.getElem?_eq_some_iff.1 hf').1
            simp only [List.length_append, List.length_singleton] at this
            omega
          subst hij
          rw [List.getElem?_append_right (by omega), hfl, Nat.sub_self] at hf'
          cases hf'
          exact H3.out.1
    · have j1 : ¬ (j : Int) < (xs.length : Int) := by omega
      obtain rfl : j = xs.length := by omega
      have HN := hid (And.intro hfl (And.intro hfs (And.intro (hv.lower (Nat.le_trans HM.out.1.size H1.out.size)) hmW)))
      clear hfl hfs hv hm hmW
      go_wp2_with fail
      exact bodyPost_ret (v := .tuple #[u9, .int .i64 0]) (by simp [results, Tryd.results17, go_sem]) rfl ⟨⟨u9, fs, HN.out.1, HN.out.2.1, HN.out.2.2.1, rfl⟩, HN.out.2.2.2⟩
end Go.Proofs.YtdgmnhiffoemmaaDoor
