/-
  The reference's Add, where all is right. No statement of a claim stands here; each contract names what it asks.
-/
import Derived.Test.YtdgmnhiffoemmaaDoorGI
import Derived.Test.YtdgmnhiffoemmaaDoorZE
import Derived.Test.YtdgmnhiffoemmaaDoorGG
import Derived.Test.YtdgmnhiffoemmaaDoorGH
set_option linter.unusedSimpArgs false
namespace Go.Proofs.YtdgmnhiffoemmaaDoor
open Go Go.RowKit Go.ChangeMaps

theorem stg_two {q n : Nat} {a b : List Nat} {i : Nat} (hi : i < n) : (stg q n a b 2)[i]? = some ((a.getD i 0 + b.getD i 0) % q) := by
  have e0 : (List.replicate n 0)[i]? = some 0 := by rw [List.getElem?_replicate, if_pos hi]
  have e1 : (addInto q (List.replicate n 0) a)[i]? = some (if i < a.length then a.getD i 0 % q else 0) := by
    by_cases ha : i < a.length
    · obtain ⟨x, hx⟩ : ∃ x, a[i]? = some x := ⟨_, List.getElem?_eq_getElem ha⟩
      rw [addInto_in e0 hx, if_pos ha, List.getD_eq_getElem?_getD, hx, Nat.zero_add]
      rfl
    · rw [addInto_out (by omega), e0, if_neg ha]
  show (addInto q (addInto q (List.replicate n 0) a) b)[i]? = _
  by_cases hb : i < b.length
  · obtain ⟨y, hy⟩ : ∃ y, b[i]? = some y := ⟨_, List.getElem?_eq_getElem hb⟩
    rw [addInto_in e1 hy, List.getD_eq_getElem?_getD, List.getD_eq_getElem?_getD, hy]
    by_cases ha : i < a.length
    · rw [if_pos ha, Nat.mod_add_mod]
      rfl
    · rw [if_neg ha, List.getElem?_eq_none (by omega)]
      rfl
  · rw [addInto_out (by omega), e1, List.getD_eq_getElem?_getD, List.getD_eq_getElem?_getD, List.getElem?_eq_none (l := b) (by omega)]
    by_cases ha : i < a.length
    · rw [if_pos ha]
      rfl
    · rw [if_neg ha, List.getElem?_eq_none (l := a) (by omega)]
      simp
theorem stg_snoc {q n : Nat} {a b : List Nat} {j : Nat} (hj : j < n) : (stg q n a b 2).take (j + 1) = (stg q n a b 2).take j ++ [(a.getD j 0 + b.getD j 0) % q] := by
  rw [List.take_add_one, stg_two hj]
  rfl
end Go.Proofs.YtdgmnhiffoemmaaDoor
/-
  The reference's Add, where all is right. No statement of a claim stands here; each contract names what it asks.
-/
set_option linter.unusedSimpArgs false
namespace Go.Proofs.YtdgmnhiffoemmaaDoor
open Go Go.RowKit Go.ChangeMaps

theorem two_news (w : World) (A B : Obj) : ((w.alloc A).alloc B).heap[w.heap.size]? = some A ∧ ((w.alloc A).alloc B).heap[w.heap.size + 1]? = some B ∧ Mod [] w ((w.alloc A).alloc B) := by
  refine ⟨get_alloc (get_new w A) B, ?_, ((Mod.refl _ _).alloc _).alloc _⟩
  have e : (w.alloc A).heap.size = w.heap.size + 1 := Array.size_push _
  have h := get_new (w.alloc A) B
  rwa [e] at h
theorem getD_small {l : List Nat} {B : Nat} (hB : 0 < B) (h : ∀ n ∈ l, n < B) (j : Nat) : l.getD j 0 < B := by
  rw [List.getD_eq_getElem?_getD]
  rcases hj : l[j]? with _ | x
  · exact hB
  · exact h x (List.mem_of_getElem? hj)
theorem getD_some {l : List Nat} {j x : Nat} (hj : j < l.length) (h : l.getD j 0 = x) : l[j]? = some x := by
  rw [List.getD_eq_getElem?_getD, List.getElem?_eq_getElem hj] at h
  rw [List.getElem?_eq_getElem hj]
  exact congrArg some h
theorem getD_none {l : List Nat} {j x : Nat} (hj : ¬ j < l.length) (h : l.getD j 0 = x) : x = 0 := by
  rw [List.getD_eq_getElem?_getD, List.getElem?_eq_none (by omega)] at h
  exact h.symm
theorem words_none {x x0 x1 x2 x3 : Nat} (h : x = 0) (p : parts x 4 = [x0, x1, x2, x3]) : [0, 0, 0, 0] = [x0, x1, x2, x3] := by
  subst h
  rw [← p]
  simp [parts]

/-- While the sums are gathered. -/
def RSumRel (B : Nat) (W : World) (q : Nat) (la lb : List Nat) (gk : Nat) (v i : Value) (w : World) : Prop :=
  ∃ j : Nat, i = .int .i64 j ∧ gk + j = max la.length lb.length ∧ Nats B w v ((stg q (max la.length lb.length) la lb 2).take j) ∧ Mod [] W w

set_option maxRecDepth 100000 in
set_option maxHeartbeats 4000000 in
theorem raddp {q : Nat} (hq : q < NN) (h2 : 2 ≤ q) (la lb : List Nat) (hla : ∀ n ∈ la, n < NN) (hlb : ∀ n ∈ lb, n < NN) (ha1 : 1 ≤ la.length) (ha2 : la.length ≤ 256) (hb1 : 1 ≤ lb.length) (hb2 : lb.length ≤ 256) (ga ca gb cb : Nat) (w : World) (hga : NatRow w ga la) (hgb : NatRow w gb lb) :
    Calls Tryd.prog 23 #[nv q, .slice (some ⟨ga, 0, none⟩) la.length ca, .slice (some ⟨gb, 0, none⟩) lb.length cb] w fun e w' => (∃ v, Nats w.heap.size w' v (stg q (max la.length lb.length) la lb 2) ∧ e = .returned (.tuple #[v, .int .i64 0])) ∧ Mod [] w w' := by
  have cr := fun W => rright hq W
  have cma := fun W => rmany la.length (by unfold maxLen; omega) W
  have cmb := fun W => rmany lb.length (by unfold maxLen; omega) W
  have hq0 : q ≠ 0 := by omega
  have CAX : Hid (∀ (a b : Nat) (ha : a < NN) (hb : b < NN) (W : World), _) := fun a b ha hb W => rmadd (a := a) (b := b) (m := q) ha hb hq hq0 W
  rw [decide_eq_true h2] at cr
  rw [decide_eq_true ⟨ha1, ha2⟩] at cma
  rw [decide_eq_true ⟨hb1, hb2⟩] at cmb
  have CMA : Hid (∀ W : World, Calls Tryd.prog 38 #[.int .i64 (la.length : Int)] W fun e w' => e = .returned (.bool true) ∧ w' = W) := cma
  have CMB : Hid (∀ W : World, Calls Tryd.prog 38 #[.int .i64 (lb.length : Int)] W fun e w' => e = .returned (.bool true) ∧ w' = W) := cmb
  clear cma cmb
  obtain ⟨z0, z1, z2, z3, hz⟩ := nv_lit q
  rw [hz] at cr CAX
  rw [hz]
  unfold lit4 at *
  have CR := hid cr
  have HL := hid (And.intro hga (And.intro hgb (And.intro hla hlb)))
  have hq1 := hid (show 0 < q by omega)
  clear cr hz hq h2 hq0 hla hlb hga hgb
  go_enter Tryd.func23, Tryd.ntmps23
  go_upto_region 1 with fail
  refine wp_abs (fun W => W.heap[w.heap.size]? = some (.cells (wcells [z0, z1, z2, z3]) 26) ∧ Mod [] w W) ⟨get_new _ _, (Mod.refl _ _).alloc _⟩ ?_
  rintro W ⟨gz, hm⟩
  generalize hta : w.heap.size = ta at *
  have HM : Hid (Mod [] w W ∧ w.heap.size = ta) := ⟨hm, hta⟩
  have HG := hid gz
  have zc0 := cell_at gz 0; have zc1 := cell_at gz 1; have zc2 := cell_at gz 2; have zc3 := cell_at gz 3; simp only [wcells_get] at zc0 zc1 zc2 zc3
  clear gz hm hta
  go_upto_region 3 with (first
    | (go_at_call 37; refine (CR.out _).mono ?_; rintro e w1 ⟨rfl, hm⟩; have H1 := hid hm; clear hm)
    | (go_at_call 38; (first | refine (CMA.out _).mono ?_ | refine (CMB.out _).mono ?_); rintro e w1' ⟨rfl, hw⟩; subst hw))
  clear zc0 zc1 zc2 zc3
  go_upto_region 4 with fail
  refine wp_abs (fun W2 => W2.heap[w1'.heap.size]? = some (.cells #[] 26) ∧ Mod [] w1' W2) ⟨get_new _ _, (Mod.refl _ _).alloc _⟩ ?_
  have hB : ta ≤ w1'.heap.size := by rw [← HM.out.2]; exact Nat.le_trans HM.out.1.size H1.out.size
  rintro W2 ⟨g8, hm8⟩
  generalize ht8 : w1'.heap.size = t8 at *
  have H8 := hid (And.intro g8 (And.intro hm8 hB))
  have H9 := hid ht8
  clear g8 hm8 hB ht8
  go_wp2_with fail
  go_loopg [8, 9] (max la.length lb.length) (fun gk v i W' => RSumRel t8 w1' q la lb gk v i W')
  case atStart =>
    exact ⟨0, rfl, rfl, RowOf.empty H8.out.1 (Nat.le_refl _), H8.out.2.1⟩
  case round =>
    obtain ⟨j, rfl, hgj, hv, hm⟩ := hrel
    have hmW : Mod [] w wr := (HM.out.1.trans H1.out).trans hm
    have j0 : (0 : Int) ≤ (j : Int) := by omega
    by_cases hjm : j < max la.length lb.length
    · obtain ⟨x, hx⟩ : ∃ x, la.getD j 0 = x := ⟨_, rfl⟩
      obtain ⟨y, hy⟩ : ∃ y, lb.getD j 0 = y := ⟨_, rfl⟩
      obtain ⟨s, hs⟩ : ∃ s, (x + y) % q = s := ⟨_, rfl⟩
      have hxN : x < NN := by rw [← hx]; exact getD_small NN_pos HL.out.2.2.1 j
      have hyN : y < NN := by rw [← hy]; exact getD_small NN_pos HL.out.2.2.2 j
      have ca := fun W => CAX.out x y hxN hyN W
      rw [hs] at ca
      obtain ⟨x0, x1, x2, x3, hxx, px⟩ := nv_words x
      obtain ⟨y0, y1, y2, y3, hyy, py⟩ := nv_words y
      obtain ⟨s0, s1, s2, s3, hss, ps⟩ := nv_words s
      rw [wv_lit] at hxx hyy hss
      unfold lit4 at hxx hyy hss
      rw [hxx, hyy, hss] at ca
      have CA := hid ca
      have hsn := stg_snoc (q := q) (a := la) (b := lb) hjm
      rw [hx, hy, hs] at hsn
      have hlen : ((stg q (max la.length lb.length) la lb 2).take j).length ≤ 5000 := by rw [List.length_take, stg_len]; omega
      obtain ⟨o, ho⟩ : ∃ o, (stg q (max la.length lb.length) la lb 2).take j = o := ⟨_, rfl⟩
      rw [ho] at hv hsn hlen
      have HV := hid (And.intro hx (And.intro hy (And.intro px py)))
      have HN := hid (And.intro hv (And.intro hm (And.intro (And.intro (HL.out.1.mod hmW (by simp)) ((H1.out.trans hm).get HG.out (by simp))) (And.intro (HL.out.2.1.mod hmW (by simp)) (And.intro ps (And.intro hlen (And.intro hsn hgj)))))))
      obtain ⟨av, kv, rfl⟩ := row_sl hv.row
      clear ho hv hm hmW hx hy hs hxN hyN ca hxx hyy hss px py ps hsn hlen hgj
      by_cases hja : j < la.length
      · have j1 : (j : Int) < (la.length : Int) := by omega
        go_upto_region 8 with fail
        refine wp_abs (fun W3 => W3.heap[wr.heap.size]? = some (.cells (wcells [0, 0, 0, 0]) 26) ∧ W3.heap[wr.heap.size + 1]? = some (.cells (wcells [0, 0, 0, 0]) 26) ∧ Mod [] wr W3) (two_news wr _ _) ?_
        rintro W3 ⟨g10, g11, hm3⟩
        generalize ht10 : wr.heap.size = t10 at *
        generalize ht11 : t10 + 1 = t11 at *
        have HT : Hid (wr.heap.size ≤ t10 ∧ wr.heap.size ≤ t11 ∧ t10 ≠ t11) := ⟨by omega, by omega, by omega⟩
        have HA0 := hid (And.intro g10 (And.intro g11 hm3))
        clear g10 g11 hm3 ht10 ht11
        obtain ⟨c0, c1, c2, c3⟩ := (HN.out.2.2.1.1.mod HA0.out.2.2 (by simp)).cells (getD_some hja HV.out.1) HV.out.2.2.1
        have g10 := HA0.out.1
        have ec0 := cell_at g10 0; have ec1 := cell_at g10 1; have ec2 := cell_at g10 2; have ec3 := cell_at g10 3; simp only [wcells_get] at ec0 ec1 ec2 ec3
        have ef0 := free_at g10 0; have ef1 := free_at g10 1; have ef2 := free_at g10 2; have ef3 := free_at g10 3
        go_upto_region 10 with fail
        refine wp_abs (fun W4 => W4.heap[t10]? = some (.cells (wcells [x0, x1, x2, x3]) 26) ∧ W4.heap[t11]? = some (.cells (wcells [0, 0, 0, 0]) 26) ∧ Mod [] wr W4) ⟨set4_at g10 _ _ _ _, set4_keep HA0.out.2.1 (Ne.symm HT.out.2.2) _ _ _ _, set4_mod HT.out.1 HA0.out.2.2 _ _ _ _⟩ ?_
        clear c0 c1 c2 c3 g10 ec0 ec1 ec2 ec3 ef0 ef1 ef2 ef3 HA0
        rintro W5 h5
        have HA1 := hid h5
        clear h5
        by_cases hjb : j < lb.length
        · have k1 : (j : Int) < (lb.length : Int) := by omega
          obtain ⟨c0, c1, c2, c3⟩ := (HN.out.2.2.2.1.mod HA1.out.2.2 (by simp)).cells (getD_some hjb HV.out.2.1) HV.out.2.2.2
          have g11 := HA1.out.2.1
          have ec0 := cell_at g11 0; have ec1 := cell_at g11 1; have ec2 := cell_at g11 2; have ec3 := cell_at g11 3; simp only [wcells_get] at ec0 ec1 ec2 ec3
          have ef0 := free_at g11 0; have ef1 := free_at g11 1; have ef2 := free_at g11 2; have ef3 := free_at g11 3
          go_upto_region 12 with fail
          refine wp_abs (fun W4 => W4.heap[t10]? = some (.cells (wcells [x0, x1, x2, x3]) 26) ∧ W4.heap[t11]? = some (.cells (wcells [y0, y1, y2, y3]) 26) ∧ Mod [] wr W4) ⟨set4_keep HA1.out.1 HT.out.2.2 _ _ _ _, set4_at g11 _ _ _ _, set4_mod HT.out.2.1 HA1.out.2.2 _ _ _ _⟩ ?_
          clear c0 c1 c2 c3 g11 ec0 ec1 ec2 ec3 ef0 ef1 ef2 ef3
          rintro W4 ⟨g10, g11, hm4⟩
          have gz := hm4.get HN.out.2.2.1.2 (by simp)
          have xc0 := cell_at g10 0; have xc1 := cell_at g10 1; have xc2 := cell_at g10 2; have xc3 := cell_at g10 3; simp only [wcells_get] at xc0 xc1 xc2 xc3
          have yc0 := cell_at g11 0; have yc1 := cell_at g11 1; have yc2 := cell_at g11 2; have yc3 := cell_at g11 3; simp only [wcells_get] at yc0 yc1 yc2 yc3
          have zc0 := cell_at gz 0; have zc1 := cell_at gz 1; have zc2 := cell_at gz 2; have zc3 := cell_at gz 3; simp only [wcells_get] at zc0 zc1 zc2 zc3
          have HB := hid (And.intro g10 (And.intro g11 hm4))
          clear g10 g11 gz hm4
          go_upto_region 13 with (go_at_call 26; refine (CA.out _).mono ?_; rintro e w5 ⟨rfl, hm⟩; have H5 := hid hm; clear hm)
          clear zc0 zc1 zc2 zc3
          clear xc0 xc1 xc2 xc3
          clear yc0 yc1 yc2 yc3
          refine wp_abs (fun W6 => W6.heap[w5.heap.size]? = some (.cells (wcells [s0, s1, s2, s3]) 26) ∧ Mod [] W4 W6) ⟨get_new _ _, H5.out.alloc _⟩ ?_
          generalize w5.heap.size = t12 at *
          rintro W6 ⟨g12, hm6⟩
          have sc0 := cell_at g12 0; have sc1 := cell_at g12 1; have sc2 := cell_at g12 2; have sc3 := cell_at g12 3; simp only [wcells_get] at sc0 sc1 sc2 sc3
          have hm7 : Mod [] wr W6 := HB.out.2.2.trans hm6
          have hv := HN.out.1.mod hm7 (fun _ _ => by simp)
          have happ := RowOf.app elemN encN_len encN_one hv (by have a1 := HN.out.2.1.size; have a2 := hm7.size; have a3 := H9.out; omega) s HN.out.2.2.2.2.2.1 (by omega)
          rw [encN_lit HN.out.2.2.2.2.1] at happ
          have HA := hid happ
          have HP := hid (And.intro hm7 hv)
          clear g12 hm6 hm7 hv happ
          go_wp2_with (first
            | (at_builtin; refine wpList_app_run rfl _ _ 22 rfl _ _ rfl rfl _ HA.out ?_; rintro v3 w4 ⟨h31, h32, h33⟩; have H4 := hid (And.intro h31 (And.intro h32 h33)); clear h31 h32 h33))
          have hmE : Mod [] w1' w4 := (HN.out.2.1.trans HP.out.1).trans' H4.out.2.1 (fun k hk => .inr (by rw [H9.out]; exact HP.out.2.own k (by simpa using hk)))
          obtain ⟨-, -, -, -, -, -, hsn, hgj⟩ := HN.out
          go_roundg (gk - 1)
          case measure => omega
          case rel => exact ⟨j + 1, rfl, by omega, by rw [hsn]; exact H4.out.1, hmE⟩
        · have k1 : ¬ (j : Int) < (lb.length : Int) := by omega
          go_upto_region 12 with fail
          have ey := words_none (getD_none hjb HV.out.2.1) HV.out.2.2.2
          refine wp_abs (fun W4 => W4.heap[t10]? = some (.cells (wcells [x0, x1, x2, x3]) 26) ∧ W4.heap[t11]? = some (.cells (wcells [y0, y1, y2, y3]) 26) ∧ Mod [] wr W4) ⟨HA1.out.1, by rw [← ey]; exact HA1.out.2.1, HA1.out.2.2⟩ ?_
          clear ey
          rintro W4 ⟨g10, g11, hm4⟩
          have gz := hm4.get HN.out.2.2.1.2 (by simp)
          have xc0 := cell_at g10 0; have xc1 := cell_at g10 1; have xc2 := cell_at g10 2; have xc3 := cell_at g10 3; simp only [wcells_get] at xc0 xc1 xc2 xc3
          have yc0 := cell_at g11 0; have yc1 := cell_at g11 1; have yc2 := cell_at g11 2; have yc3 := cell_at g11 3; simp only [wcells_get] at yc0 yc1 yc2 yc3
          have zc0 := cell_at gz 0; have zc1 := cell_at gz 1; have zc2 := cell_at gz 2; have zc3 := cell_at gz 3; simp only [wcells_get] at zc0 zc1 zc2 zc3
          have HB := hid (And.intro g10 (And.intro g11 hm4))
          clear g10 g11 gz hm4
          go_upto_region 13 with (go_at_call 26; refine (CA.out _).mono ?_; rintro e w5 ⟨rfl, hm⟩; have H5 := hid hm; clear hm)
          clear zc0 zc1 zc2 zc3
          clear xc0 xc1 xc2 xc3
          clear yc0 yc1 yc2 yc3
          refine wp_abs (fun W6 => W6.heap[w5.heap.size]? = some (.cells (wcells [s0, s1, s2, s3]) 26) ∧ Mod [] W4 W6) ⟨get_new _ _, H5.out.alloc _⟩ ?_
          generalize w5.heap.size = t12 at *
          rintro W6 ⟨g12, hm6⟩
          have sc0 := cell_at g12 0; have sc1 := cell_at g12 1; have sc2 := cell_at g12 2; have sc3 := cell_at g12 3; simp only [wcells_get] at sc0 sc1 sc2 sc3
          have hm7 : Mod [] wr W6 := HB.out.2.2.trans hm6
          have hv := HN.out.1.mod hm7 (fun _ _ => by simp)
          have happ := RowOf.app elemN encN_len encN_one hv (by have a1 := HN.out.2.1.size; have a2 := hm7.size; have a3 := H9.out; omega) s HN.out.2.2.2.2.2.1 (by omega)
          rw [encN_lit HN.out.2.2.2.2.1] at happ
          have HA := hid happ
          have HP := hid (And.intro hm7 hv)
          clear g12 hm6 hm7 hv happ
          go_wp2_with (first
            | (at_builtin; refine wpList_app_run rfl _ _ 22 rfl _ _ rfl rfl _ HA.out ?_; rintro v3 w4 ⟨h31, h32, h33⟩; have H4 := hid (And.intro h31 (And.intro h32 h33)); clear h31 h32 h33))
          have hmE : Mod [] w1' w4 := (HN.out.2.1.trans HP.out.1).trans' H4.out.2.1 (fun k hk => .inr (by rw [H9.out]; exact HP.out.2.own k (by simpa using hk)))
          obtain ⟨-, -, -, -, -, -, hsn, hgj⟩ := HN.out
          go_roundg (gk - 1)
          case measure => omega
          case rel => exact ⟨j + 1, rfl, by omega, by rw [hsn]; exact H4.out.1, hmE⟩
      · have hjb : j < lb.length := by omega
        have j1 : ¬ (j : Int) < (la.length : Int) := by omega
        have k1 : (j : Int) < (lb.length : Int) := by omega
        go_upto_region 8 with fail
        refine wp_abs (fun W3 => W3.heap[wr.heap.size]? = some (.cells (wcells [0, 0, 0, 0]) 26) ∧ W3.heap[wr.heap.size + 1]? = some (.cells (wcells [0, 0, 0, 0]) 26) ∧ Mod [] wr W3) (two_news wr _ _) ?_
        rintro W3 ⟨g10, g11, hm3⟩
        generalize ht10 : wr.heap.size = t10 at *
        generalize ht11 : t10 + 1 = t11 at *
        have HT : Hid (wr.heap.size ≤ t10 ∧ wr.heap.size ≤ t11 ∧ t10 ≠ t11) := ⟨by omega, by omega, by omega⟩
        have HA0 := hid (And.intro g10 (And.intro g11 hm3))
        clear g10 g11 hm3 ht10 ht11
        go_upto_region 10 with fail
        have ex := words_none (getD_none hja HV.out.1) HV.out.2.2.1
        have HA1 := hid (And.intro (show W3.heap[t10]? = some (.cells (wcells [x0, x1, x2, x3]) 26) by rw [← ex]; exact HA0.out.1) (And.intro HA0.out.2.1 HA0.out.2.2))
        clear ex HA0
        obtain ⟨c0, c1, c2, c3⟩ := (HN.out.2.2.2.1.mod HA1.out.2.2 (by simp)).cells (getD_some hjb HV.out.2.1) HV.out.2.2.2
        have g11 := HA1.out.2.1
        have ec0 := cell_at g11 0; have ec1 := cell_at g11 1; have ec2 := cell_at g11 2; have ec3 := cell_at g11 3; simp only [wcells_get] at ec0 ec1 ec2 ec3
        have ef0 := free_at g11 0; have ef1 := free_at g11 1; have ef2 := free_at g11 2; have ef3 := free_at g11 3
        go_upto_region 12 with fail
        refine wp_abs (fun W4 => W4.heap[t10]? = some (.cells (wcells [x0, x1, x2, x3]) 26) ∧ W4.heap[t11]? = some (.cells (wcells [y0, y1, y2, y3]) 26) ∧ Mod [] wr W4) ⟨set4_keep HA1.out.1 HT.out.2.2 _ _ _ _, set4_at g11 _ _ _ _, set4_mod HT.out.2.1 HA1.out.2.2 _ _ _ _⟩ ?_
        clear c0 c1 c2 c3 g11 ec0 ec1 ec2 ec3 ef0 ef1 ef2 ef3
        rintro W4 ⟨g10, g11, hm4⟩
        have gz := hm4.get HN.out.2.2.1.2 (by simp)
        have xc0 := cell_at g10 0; have xc1 := cell_at g10 1; have xc2 := cell_at g10 2; have xc3 := cell_at g10 3; simp only [wcells_get] at xc0 xc1 xc2 xc3
        have yc0 := cell_at g11 0; have yc1 := cell_at g11 1; have yc2 := cell_at g11 2; have yc3 := cell_at g11 3; simp only [wcells_get] at yc0 yc1 yc2 yc3
        have zc0 := cell_at gz 0; have zc1 := cell_at gz 1; have zc2 := cell_at gz 2; have zc3 := cell_at gz 3; simp only [wcells_get] at zc0 zc1 zc2 zc3
        have HB := hid (And.intro g10 (And.intro g11 hm4))
        clear g10 g11 gz hm4
        go_upto_region 13 with (go_at_call 26; refine (CA.out _).mono ?_; rintro e w5 ⟨rfl, hm⟩; have H5 := hid hm; clear hm)
        clear zc0 zc1 zc2 zc3
        clear xc0 xc1 xc2 xc3
        clear yc0 yc1 yc2 yc3
        refine wp_abs (fun W6 => W6.heap[w5.heap.size]? = some (.cells (wcells [s0, s1, s2, s3]) 26) ∧ Mod [] W4 W6) ⟨get_new _ _, H5.out.alloc _⟩ ?_
        generalize w5.heap.size = t12 at *
        rintro W6 ⟨g12, hm6⟩
        have sc0 := cell_at g12 0; have sc1 := cell_at g12 1; have sc2 := cell_at g12 2; have sc3 := cell_at g12 3; simp only [wcells_get] at sc0 sc1 sc2 sc3
        have hm7 : Mod [] wr W6 := HB.out.2.2.trans hm6
        have hv := HN.out.1.mod hm7 (fun _ _ => by simp)
        have happ := RowOf.app elemN encN_len encN_one hv (by have a1 := HN.out.2.1.size; have a2 := hm7.size; have a3 := H9.out; omega) s HN.out.2.2.2.2.2.1 (by omega)
        rw [encN_lit HN.out.2.2.2.2.1] at happ
        have HA := hid happ
        have HP := hid (And.intro hm7 hv)
        clear g12 hm6 hm7 hv happ
        go_wp2_with (first
          | (at_builtin; refine wpList_app_run rfl _ _ 22 rfl _ _ rfl rfl _ HA.out ?_; rintro v3 w4 ⟨h31, h32, h33⟩; have H4 := hid (And.intro h31 (And.intro h32 h33)); clear h31 h32 h33))
        have hmE : Mod [] w1' w4 := (HN.out.2.1.trans HP.out.1).trans' H4.out.2.1 (fun k hk => .inr (by rw [H9.out]; exact HP.out.2.own k (by simpa using hk)))
        obtain ⟨-, -, -, -, -, -, hsn, hgj⟩ := HN.out
        go_roundg (gk - 1)
        case measure => omega
        case rel => exact ⟨j + 1, rfl, by omega, by rw [hsn]; exact H4.out.1, hmE⟩
    · obtain rfl : j = max la.length lb.length := by omega
      have j1 : ¬ ((max la.length lb.length : Nat) : Int) < (la.length : Int) := by omega
      have k1 : ¬ ((max la.length lb.length : Nat) : Int) < (lb.length : Int) := by omega
      rw [List.take_of_length_le (Nat.le_of_eq (stg_len ..))] at hv
      have HN := hid (And.intro (hv.lower (show w.heap.size ≤ t8 from HM.out.2 ▸ H8.out.2.2)) hmW)
      clear hv hm hmW hgj
      go_wp2_with fail
      exact bodyPost_ret (v := .tuple #[u8, .int .i64 0]) (by simp [results, Tryd.results23, go_sem]) rfl ⟨⟨u8, HN.out.1, rfl⟩, HN.out.2⟩
end Go.Proofs.YtdgmnhiffoemmaaDoor
/-
  Eval, Points and Add of both sides answer alike. No statement of a claim stands here; each contract names what it asks.
-/
set_option linter.unusedSimpArgs false
namespace Go.Proofs.YtdgmnhiffoemmaaDoor
open Go Go.RowKit Go.ChangeMaps

/-- A row as an argument, whatever it holds. -/
def RowArg (w : World) (a : Option Addr) (l : List Nat) : Prop := l = [] ∨ ∃ g, a = some ⟨g, 0, none⟩ ∧ NatRow w g l
theorem RowArg.mod {w w' : World} {a : Option Addr} {l : List Nat} (h : RowArg w a l) (m : Mod [] w w') : RowArg w' a l := by
  rcases h with h | ⟨g, e, hr⟩
  · exact .inl h
  · exact .inr ⟨g, e, hr.mod m (by simp)⟩
theorem rowArg_of {B : Nat} {w : World} {b : Option Addr} {l : List Nat} {d : Nat} (h : Nats B w (.slice b l.length d) l) : RowArg w b l := by
  by_cases hl : l = []
  · exact .inl hl
  · obtain ⟨g, c, e, -, -, hr⟩ := h.natRow hl
    cases e
    exact .inr ⟨_, rfl, hr⟩
theorem RowArg.nats {w : World} {a : Option Addr} {l : List Nat} (h : RowArg w a l) : NatsArg w a l := fun i n hi => by
  rcases h with rfl | ⟨g, rfl, cur, T, f, hg, hc⟩
  · simp at hi
  · refine ⟨g, 0, rfl, fun j u hu => ?_⟩
    rw [encN, List.getElem?_map] at hu
    rcases hy : (parts n 4)[j]? with _ | y
    · rw [hy] at hu; cases hu
    · rw [hy] at hu
      cases hu
      rw [Nat.zero_add, cell_atF hg]
      exact hc i n hi j y hy
/-- The value at a place. -/
def valAt (q : Nat) (l : List Nat) (x : Nat) : Nat := (ev (zs l) (x : Int) % (q : Int)).toNat
theorem valAt_lt {q : Nat} (hq : 0 < q) (l : List Nat) (x : Nat) : valAt q l x < q := by
  have h1 := Int.emod_nonneg (ev (zs l) (x : Int)) (show (q : Int) ≠ 0 by omega)
  have h2 := Int.emod_lt_of_pos (ev (zs l) (x : Int)) (show (0 : Int) < (q : Int) by omega)
  unfold valAt
  omega
theorem valAt_eq {q y : Nat} (hy : y < q) {l : List Nat} {x : Nat} (h : Cg (q : Int) (y : Int) (ev (zs l) (x : Int))) : y = valAt q l x := by
  have h1 := Int.emod_nonneg (ev (zs l) (x : Int)) (show (q : Int) ≠ 0 by omega)
  have h2 := Int.emod_lt_of_pos (ev (zs l) (x : Int)) (show (0 : Int) < (q : Int) by omega)
  have h3 := (h.trans (Cg.mod (q : Int) (ev (zs l) (x : Int))).symm).eq ⟨by omega, by omega⟩ ⟨h1, h2⟩
  unfold valAt
  omega
theorem onPoly_eq {q : Nat} {l xs : List Nat} {ps : List (Nat × Nat)} (h : OnPoly q l xs ps) : ps = xs.map fun x => (x, valAt q l x) := by
  apply List.ext_getElem?
  intro k
  rcases hp : ps[k]? with _ | ⟨x, y⟩
  · rw [List.getElem?_map, List.getElem?_eq_none (by have := List.getElem?_eq_none_iff.1 hp; rw [← h.1]; exact this)]
    rfl
  · obtain ⟨e, hy, hc⟩ := h.2 k _ hp
    rw [List.getElem?_map, e]
    show some (x, y) = some (x, valAt q l x)
    exact congrArg (fun z => some (x, z)) (valAt_eq hy hc)

theorem eval_both {q x : Nat} (hq : q < NN) (hx : x < NN) (l : List Nat) (hl : ∀ n ∈ l, n < NN) (hl12 : l.length ≤ 12) : ∃ (y : Nat) (e0 : Int), y < NN ∧
    (∀ (a : Option Addr) (c : Nat) (W : World), RowArg W a l → Calls Tryd.prog 14 #[nv q, .slice a l.length c, nv x] W fun e w' => e = .returned (.tuple #[nv y, .int .i64 e0]) ∧ Mod [] W w') ∧
    (∀ (a : Option Addr) (c : Nat) (W : World), RowArg W a l → Calls Tryd.prog 19 #[nv q, .slice a l.length c, nv x] W fun e w' => e = .returned (.tuple #[nv y, .int .i64 e0]) ∧ Mod [] W w') := by
  by_cases hg : 2 ≤ q ∧ l ≠ []
  · obtain ⟨h2, hne⟩ := hg
    have hl1 : 1 ≤ l.length := List.length_pos_iff.2 hne
    refine ⟨valAt q l x, 0, Nat.lt_trans (valAt_lt (by omega) l x) hq, fun a c W hr => ?_, fun a c W hr => ?_⟩
    · rcases hr with h | ⟨g, rfl, hr⟩
      · exact absurd h hne
      · refine (peval hq h2 hx l hl hl1 (by omega) g c W hr).mono ?_
        rintro e w' ⟨⟨y, hy, hc, rfl⟩, hm⟩
        rw [valAt_eq hy hc]
        exact ⟨rfl, hm⟩
    · rcases hr with h | ⟨g, rfl, hr⟩
      · exact absurd h hne
      · refine (reval hq h2 hx l hl hl1 (by omega) g c W hr).mono ?_
        rintro e w' ⟨⟨y, hy, hc, rfl⟩, hm⟩
        rw [valAt_eq hy hc]
        exact ⟨rfl, hm⟩
  · have hno : ¬ 2 ≤ q ∨ l.length = 0 := by
      by_cases h2 : 2 ≤ q
      · exact .inr (Classical.byContradiction fun h => hg ⟨h2, fun e => h (by rw [e]; rfl)⟩)
      · exact .inl h2
    exact ⟨0, 2, NN_pos, fun a c W _ => peval_no hq a l.length c hl12 hno W, fun a c W _ => reval_no hq a l.length c hl12 hno W⟩

theorem points_both {q : Nat} (hq : q < NN) (l : List Nat) (hl : ∀ n ∈ l, n < NN) (hl12 : l.length ≤ 12) (xs : List Int) (hxs : ∀ x ∈ xs, x < 9223372036854775808) (hn : xs.length ≤ 12) : ∃ (ps : List (Nat × Nat)) (e0 : Int), ps.length ≤ 12 ∧ (∀ p ∈ ps, p.1 < NN ∧ p.2 < NN) ∧
    (∀ (a : Option Addr) (c : Nat) (ax : Option Addr) (cx : Nat) (W : World), RowArg W a l → IntsArg W ax xs → Calls Tryd.prog 10 #[nv q, .slice a l.length c, .slice ax xs.length cx] W fun e w' => (∃ v, Pts W.heap.size w' v ps ∧ e = .returned (.tuple #[v, .int .i64 e0])) ∧ Mod [] W w') ∧
    (∀ (a : Option Addr) (c : Nat) (ax : Option Addr) (cx : Nat) (W : World), RowArg W a l → IntsArg W ax xs → Calls Tryd.prog 21 #[nv q, .slice a l.length c, .slice ax xs.length cx] W fun e w' => (∃ v, RPts W.heap.size w' v ps ∧ e = .returned (.tuple #[v, .int .i64 e0])) ∧ Mod [] W w') := by
  by_cases hg : 2 ≤ q ∧ l ≠ []
  · obtain ⟨h2, hne⟩ := hg
    have hl1 : 1 ≤ l.length := List.length_pos_iff.2 hne
    by_cases hp : ∀ x ∈ xs, 0 ≤ x
    · refine ⟨(xs.map Int.toNat).map fun x => (x, valAt q l x), 0, by simpa using hn, ?_, fun a c ax cx W hr hx => ?_, fun a c ax cx W hr hx => ?_⟩
      · intro p hpm
        obtain ⟨x, hxm, rfl⟩ := List.mem_map.1 hpm
        obtain ⟨k, hk, rfl⟩ := List.mem_map.1 hxm
        have h1 := hxs k hk
        have h2 := hp k hk
        exact ⟨Nat.lt_trans (show k.toNat < BB by unfold BB; omega) BB_NN, Nat.lt_trans (valAt_lt (by omega) l _) hq⟩
      · rcases hr with h | ⟨g, rfl, hr⟩
        · exact absurd h hne
        · refine (ppoints_any hq h2 l hl hl1 (by omega) g c xs hxs (by omega) ax cx W hr hx).mono ?_
          rintro e w' ⟨⟨-, v, ps, hon, hv, rfl⟩ | ⟨⟨x, hxm, hx0⟩, -⟩, hm⟩
          · rw [onPoly_eq hon] at hv
            exact ⟨⟨v, hv, rfl⟩, hm⟩
          · exact absurd (hp x hxm) (by omega)
      · rcases hr with h | ⟨g, rfl, hr⟩
        · exact absurd h hne
        · refine (rpoints_any hq h2 l hl hl1 (by omega) g c xs hxs (by omega) ax cx W hr hx).mono ?_
          rintro e w' ⟨⟨-, v, ps, hon, hv, rfl⟩ | ⟨⟨x, hxm, hx0⟩, -⟩, hm⟩
          · rw [onPoly_eq hon] at hv
            exact ⟨⟨v, hv, rfl⟩, hm⟩
          · exact absurd (hp x hxm) (by omega)
    · refine ⟨[], 2, by simp, by simp, fun a c ax cx W hr hx => ?_, fun a c ax cx W hr hx => ?_⟩
      · rcases hr with h | ⟨g, rfl, hr⟩
        · exact absurd h hne
        · refine (ppoints_any hq h2 l hl hl1 (by omega) g c xs hxs (by omega) ax cx W hr hx).mono ?_
          rintro e w' ⟨⟨h, -⟩ | ⟨-, rfl⟩, hm⟩
          · exact absurd h hp
          · exact ⟨⟨_, RowOf.nil _ _, rfl⟩, hm⟩
      · rcases hr with h | ⟨g, rfl, hr⟩
        · exact absurd h hne
        · refine (rpoints_any hq h2 l hl hl1 (by omega) g c xs hxs (by omega) ax cx W hr hx).mono ?_
          rintro e w' ⟨⟨h, -⟩ | ⟨-, rfl⟩, hm⟩
          · exact absurd h hp
          · exact ⟨⟨_, RowOf.nil _ _, rfl⟩, hm⟩
  · have hno : ¬ 2 ≤ q ∨ l.length = 0 := by
      by_cases h2 : 2 ≤ q
      · exact .inr (Classical.byContradiction fun h => hg ⟨h2, fun e => h (by rw [e]; rfl)⟩)
      · exact .inl h2
    refine ⟨[], 2, by simp, by simp, fun a c ax cx W _ _ => ?_, fun a c ax cx W _ _ => ?_⟩
    · refine (ppoints_no hq a ax l.length xs.length c cx hl12 hno W).mono ?_
      rintro e w' ⟨rfl, hm⟩
      exact ⟨⟨_, RowOf.nil _ _, rfl⟩, hm⟩
    · refine (rpoints_no hq a ax l.length xs.length c cx hl12 hno W).mono ?_
      rintro e w' ⟨rfl, hm⟩
      exact ⟨⟨_, RowOf.nil _ _, rfl⟩, hm⟩

theorem add_both {q : Nat} (hq : q < NN) (la lb : List Nat) (hla : ∀ n ∈ la, n < NN) (hlb : ∀ n ∈ lb, n < NN) (ha12 : la.length ≤ 12) (hb12 : lb.length ≤ 12) : ∃ (s : List Nat) (e0 : Int), s.length ≤ 12 ∧ (∀ n ∈ s, n < NN) ∧
    (∀ (a : Option Addr) (c : Nat) (b : Option Addr) (d : Nat) (W : World), RowArg W a la → RowArg W b lb → Calls Tryd.prog 22 #[nv q, .slice a la.length c, .slice b lb.length d] W fun e w' => (∃ g k, NatsArg w' g s ∧ e = .returned (.tuple #[.slice g s.length k, .int .i64 e0])) ∧ Mod [] W w') ∧
    (∀ (a : Option Addr) (c : Nat) (b : Option Addr) (d : Nat) (W : World), RowArg W a la → RowArg W b lb → Calls Tryd.prog 23 #[nv q, .slice a la.length c, .slice b lb.length d] W fun e w' => (∃ g k, NatsArg w' g s ∧ e = .returned (.tuple #[.slice g s.length k, .int .i64 e0])) ∧ Mod [] W w') := by
  by_cases hg : 2 ≤ q ∧ la ≠ [] ∧ lb ≠ []
  · obtain ⟨h2, hna, hnb⟩ := hg
    have ha1 : 1 ≤ la.length := List.length_pos_iff.2 hna
    have hb1 : 1 ≤ lb.length := List.length_pos_iff.2 hnb
    have hsl := stg_len q (max la.length lb.length) la lb 2
    refine ⟨stg q (max la.length lb.length) la lb 2, 0, by omega, stg_lt (by omega) (Nat.le_of_lt hq) la lb 2, fun a c b d W hA hB => ?_, fun a c b d W hA hB => ?_⟩
    · rcases hA with h | ⟨ga, rfl, hA⟩
      · exact absurd h hna
      rcases hB with h | ⟨gb, rfl, hB⟩
      · exact absurd h hnb
      refine (padd hq h2 la lb hla hlb ha1 (by omega) hb1 (by omega) ga c gb d W hA hB).mono ?_
      rintro e w' ⟨⟨g, rfl, -, hr⟩, hm⟩
      exact ⟨⟨some ⟨g, 0, none⟩, max la.length lb.length, RowArg.nats (.inr ⟨g, rfl, hr⟩), by rw [hsl]⟩, hm⟩
    · rcases hA with h | ⟨ga, rfl, hA⟩
      · exact absurd h hna
      rcases hB with h | ⟨gb, rfl, hB⟩
      · exact absurd h hnb
      refine (raddp hq h2 la lb hla hlb ha1 (by omega) hb1 (by omega) ga c gb d W hA hB).mono ?_
      rintro e w' ⟨⟨v, hv, rfl⟩, hm⟩
      obtain ⟨b, k, rfl⟩ := row_sl hv.row
      exact ⟨⟨b, k, (rowArg_of hv).nats, rfl⟩, hm⟩
  · have hno : ¬ 2 ≤ q ∨ la.length = 0 ∨ lb.length = 0 := by
      by_cases h2 : 2 ≤ q
      · by_cases ha : la = []
        · exact .inr (.inl (by simp [ha]))
        · by_cases hb : lb = []
          · exact .inr (.inr (by simp [hb]))
          · exact absurd ⟨h2, ha, hb⟩ hg
      · exact .inl h2
    refine ⟨[], 2, by simp, by simp, fun a c b d W _ _ => ?_, fun a c b d W _ _ => ?_⟩
    · refine (padd_no hq a b la.length lb.length c d ha12 hb12 hno W).mono ?_
      rintro e w' ⟨rfl, hm⟩
      exact ⟨⟨none, 0, fun i n hi => by simp at hi, rfl⟩, hm⟩
    · refine (radd_no hq a b la.length lb.length c d ha12 hb12 hno W).mono ?_
      rintro e w' ⟨rfl, hm⟩
      exact ⟨⟨none, 0, fun i n hi => by simp at hi, rfl⟩, hm⟩
end Go.Proofs.YtdgmnhiffoemmaaDoor
/-
  PolyEvals in parts: the calls as its walk meets them. No statement of a claim stands here; each contract names what it asks.
-/
set_option linter.unusedSimpArgs false
namespace Go.Proofs.YtdgmnhiffoemmaaDoor
open Go Go.RowKit Go.ChangeMaps

theorem row_cap {w : World} {e : TypeId} {size n d : Nat} {b : Option Addr} {xs : List Value} {base : Nat} (h : w.ownsRow base e size (.slice b n d) n xs) : n ≤ d ∧ (b = none → n = 0 ∧ d = 0) := by
  rcases h.2 with ⟨h1, h2⟩ | ⟨g, cap, cur, h1, -, -, h2, -⟩
  · cases h1
    exact ⟨Nat.le_refl _, fun _ => ⟨rfl, rfl⟩⟩
  · cases h1
    exact ⟨h2, fun h => by cases h⟩
theorem few_first (l : List Nat) (hl : l.length ≤ maxLen) (a : Option Addr) (c : Nat) (hc : l.length ≤ c) (hn : a = none → l = [] ∧ c = 0) (w : World) (h : NatsArg w a l) :
    Calls Tryd.prog 9 #[.slice a l.length c] w fun e w' => (∃ (b : Option Addr) (d : Nat), e = .returned (.slice b (l.take 12).length d) ∧ RowArg w' b (l.take 12) ∧ (l.take 12).length ≤ d ∧ (b = none → l.take 12 = [] ∧ d = 0)) ∧ Mod [] w w' := by
  refine (few_any l hl a c hc hn w h).mono ?_
  rintro e w' ⟨⟨v, rfl, hv⟩, hm⟩
  obtain ⟨b, d, rfl⟩ := row_sl hv.row
  obtain ⟨h1, h2⟩ := row_cap hv.row
  exact ⟨⟨b, d, rfl, rowArg_of hv, h1, fun hb => ⟨List.eq_nil_of_length_eq_zero (h2 hb).1, (h2 hb).2⟩⟩, hm⟩
theorem few_row (l : List Nat) (hl : l.length ≤ 12) (a : Option Addr) (c : Nat) (hc : l.length ≤ c) (hn : a = none → l = [] ∧ c = 0) (w : World) (h : RowArg w a l) :
    Calls Tryd.prog 9 #[.slice a l.length c] w fun e w' => (∃ (b : Option Addr) (d : Nat), e = .returned (.slice b l.length d) ∧ RowArg w' b l) ∧ Mod [] w w' := by
  refine (few_first l (by unfold maxLen; omega) a c hc hn w h.nats).mono ?_
  rintro e w' ⟨⟨b, d, rfl, hr, -, -⟩, hm⟩
  rw [List.take_of_length_le hl] at hr ⊢
  exact ⟨⟨b, d, rfl, hr⟩, hm⟩
theorem ints_arg {B : Nat} {w : World} {b : Option Addr} {l : List Int} {d : Nat} (h : Ints B w (.slice b l.length d) l) : IntsArg w b l := by
  by_cases hl : l = []
  · subst hl
    exact fun i x hi => by simp at hi
  · obtain ⟨g, c, cur, e, -, hg, -, hx⟩ := RowOf.at h encI_len hl
    cases e
    refine fun i x hi => ⟨g, 0, rfl, ?_⟩
    rw [Nat.zero_add, cell_at hg]
    have := hx i x hi 0 _ rfl
    simpa using this
theorem ints_row (l : List Int) (hl : l.length ≤ 12) (a : Option Addr) (c : Nat) (hn : a = none → l = [] ∧ c = 0) (w : World) (h : IntsArg w a l) :
    Calls Tryd.prog 20 #[.slice a l.length c] w fun e w' => (∃ (b : Option Addr) (d : Nat), e = .returned (.slice b l.length d) ∧ IntsArg w' b l) ∧ Mod [] w w' := by
  refine (ints_any l (by omega) a c hn w h).mono ?_
  rintro e w' ⟨⟨v, rfl, hv⟩, hm⟩
  obtain ⟨b, d, rfl⟩ := row_sl hv.row
  exact ⟨⟨b, d, rfl, ints_arg hv⟩, hm⟩
theorem IntsArg.take {w : World} {a : Option Addr} {l : List Int} (h : IntsArg w a l) (n : Nat) : IntsArg w a (l.take n) := fun i x hi => h i x (by
  rw [List.getElem?_take] at hi
  split at hi
  · exact hi
  · cases hi)
/-- What every call of the walk leaves as it is. -/
def EvW (t5 t8 : Nat) (Q X : List Nat) (b1 : Option Addr) (la : List Nat) (b2 : Option Addr) (lb : List Nat) (ax : Option Addr) (xs : List Int) (W : World) : Prop :=
  W.heap[t5]? = some (.cells (wcells Q) 26) ∧ W.heap[t8]? = some (.cells (wcells X) 26) ∧ RowArg W b1 la ∧ RowArg W b2 lb ∧ IntsArg W ax xs
theorem EvW.mod {t5 t8 : Nat} {Q X : List Nat} {b1 : Option Addr} {la : List Nat} {b2 : Option Addr} {lb : List Nat} {ax : Option Addr} {xs : List Int} {W W' : World} (h : EvW t5 t8 Q X b1 la b2 lb ax xs W) (m : Mod [] W W') : EvW t5 t8 Q X b1 la b2 lb ax xs W' :=
  ⟨m.get h.1 (by simp), m.get h.2.1 (by simp), h.2.2.1.mod m, h.2.2.2.1.mod m, h.2.2.2.2.mod m⟩
/-- Points as an argument. -/
def PtArg (w : World) (a : Option Addr) (ps : List (Nat × Nat)) : Prop := ∀ (i x y : Nat), ps[i]? = some (x, y) → ∃ g, a = some ⟨g, 0, none⟩ ∧ (∀ (j : Nat) (u : Value), (encN x)[j]? = some u → w.cell? ⟨g, i * 8 + j, none⟩ = some u) ∧ (∀ (j : Nat) (u : Value), (encN y)[j]? = some u → w.cell? ⟨g, i * 8 + 4 + j, none⟩ = some u)
theorem PtArg.mod {w w' : World} {a : Option Addr} {ps : List (Nat × Nat)} (h : PtArg w a ps) (m : Mod [] w w') : PtArg w' a ps := by
  intro i x y hi
  obtain ⟨g, e, h1, h2⟩ := h i x y hi
  exact ⟨g, e, fun j u hu => m.cell (h1 j u hu) (by simp), fun j u hu => m.cell (h2 j u hu) (by simp)⟩
theorem ptArg_of {e : TypeId} {B : Nat} {w : World} {b : Option Addr} {ps : List (Nat × Nat)} {d : Nat} (h : RowOf e 8 encP B w (.slice b ps.length d) ps) : PtArg w b ps := by
  intro i x y hi
  obtain ⟨g, c, cur, e, -, hg, -, hx⟩ := RowOf.at h encP_len (by rintro rfl; simp at hi)
  cases e
  have hk := hx i _ hi
  refine ⟨g, rfl, fun j u hu => ?_, fun j u hu => ?_⟩
  · rw [cell_at hg]
    have hj : j < (encN x).length := (List.getElem?_eq_some_iff.1 hu).1
    exact hk j u (by rw [encP, List.getElem?_append_left hj]; exact hu)
  · rw [cell_at hg, Nat.add_assoc]
    exact hk (4 + j) u (by rw [encP, List.getElem?_append_right (by rw [encN_len]; omega), encN_len]; simpa using hu)
theorem merge3 {R : Nat → Option Addr → Nat → World → Prop} {G : Nat → Option Addr → Nat → World → Prop} {T : Prop} (use : (∀ b a d W, R b a d W → G b a d W) → T) (prove : ∀ b a d W, R b a d W → G b a d W) : T := use prove
end Go.Proofs.YtdgmnhiffoemmaaDoor
