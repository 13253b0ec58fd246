/-
  poly.Points at ints of any sign. No statement of a claim stands here; each contract names what it asks.
-/
import Derived.Test.YtdgmnhiffoemmaaDoorGG
import Derived.Test.YtdgmnhiffoemmaaDoorGH
set_option linter.unusedSimpArgs false
namespace Go.Proofs.YtdgmnhiffoemmaaDoor
open Go Go.RowKit Go.ChangeMaps

/-- What Points says at ints. -/
def PointsSay (q : Nat) (l : List Nat) (xs : List Int) (pts : Nat → World → Value → List (Nat × Nat) → Prop) (B : Nat) (e : Ending) (w' : World) : Prop :=
  ((∀ x ∈ xs, 0 ≤ x) ∧ ∃ (v : Value) (ps : List (Nat × Nat)), OnPoly q l (xs.map Int.toNat) ps ∧ pts B w' v ps ∧ e = .returned (.tuple #[v, .int .i64 0])) ∨ ((∃ x ∈ xs, x < 0) ∧ e = .returned (.tuple #[.slice none 0 0, .int .i64 2]))
/-- While points are gathered. -/
def PointsRelI (pts : Nat → World → Value → List (Nat × Nat) → Prop) (W : World) (q : Nat) (l : List Nat) (xs : List Int) (gk : Nat) (v i : Value) (w : World) : Prop :=
  ∃ (j : Nat) (ps : List (Nat × Nat)), i = .int .i64 j ∧ gk + j = xs.length ∧ (∀ x ∈ xs.take j, 0 ≤ x) ∧ OnPoly q l ((xs.map Int.toNat).take j) ps ∧ pts W.heap.size w v ps ∧ Mod [] W w
theorem take_pos {xs : List Int} {j : Nat} {k : Int} (h : ∀ x ∈ xs.take j, 0 ≤ x) (hk : xs[j]? = some k) (h0 : 0 ≤ k) : ∀ x ∈ xs.take (j + 1), 0 ≤ x := by
  intro x hx
  rw [List.take_add_one, hk] at hx
  rcases List.mem_append.1 hx with h1 | h1
  · exact h x h1
  · simp at h1
    rw [h1]
    exact h0

set_option maxRecDepth 100000 in
set_option maxHeartbeats 4000000 in
theorem ppoints_any {q : Nat} (hq : q < NN) (h2 : 2 ≤ q) (l : List Nat) (hl : ∀ n ∈ l, n < NN) (hl1 : 1 ≤ l.length) (hl2 : l.length ≤ 256) (g cap : Nat) (xs : List Int) (hxs : ∀ x ∈ xs, x < 9223372036854775808) (hn : xs.length ≤ 256) (ax : Option Addr) (cx : Nat) (w : World) (hg : NatRow w g l) (hgx : IntsArg w ax xs) :
    Calls Tryd.prog 10 #[nv q, .slice (some ⟨g, 0, none⟩) l.length cap, .slice ax xs.length cx] w fun e w' => PointsSay q l xs Pts w.heap.size e w' ∧ Mod [] w w' := by
  have cr := fun (b : Nat) (W : World) (hb : W.heap[b]? = some (.cells #[.int .i64 (l.length : Int)] 3)) => pright hq h2 [l.length] (by simp) b (by simp; omega) W hb
  have ce := fun (x : Nat) (hx : x < NN) (W : World) (hW : NatRow W g l) => peval hq h2 hx l hl hl1 hl2 g cap W hW
  obtain ⟨z0, z1, z2, z3, hz⟩ := nv_lit q
  rw [hz] at cr
  simp only [hz] at ce
  rw [hz]
  unfold lit4 at *
  have CR := hid cr
  have CE := hid ce
  have HL := hid (And.intro hg (And.intro hgx hxs))
  have l2 : (l.length : Int) ≤ 256 := by omega
  have n2 : ¬ (256 : Int) < (xs.length : Int) := by omega
  have n3 : (xs.length : Int) ≤ 256 := by omega
  clear cr ce hz hq h2 hl hg hgx hxs
  go_enter Tryd.func10, Tryd.ntmps10
  go_upto_region 1 with fail
  refine wp_abs (fun W => W.heap[w.heap.size]? = some (.cells (wcells [z0, z1, z2, z3]) 26) ∧ Mod [] w W) ⟨get_new _ _, (Mod.refl _ _).alloc _⟩ ?_
  rintro W ⟨gz, hm⟩
  generalize hta : w.heap.size = ta at *
  have HM : Hid (Mod [] w W ∧ w.heap.size = ta) := ⟨hm, hta⟩
  have HG := hid gz
  have zc0 := cell_at gz 0; have zc1 := cell_at gz 1; have zc2 := cell_at gz 2; have zc3 := cell_at gz 3; simp only [wcells_get] at zc0 zc1 zc2 zc3
  clear gz hm hta
  go_upto_region 4 with (go_at_call 29; refine (CR.out _ _ (get_new _ _)).mono ?_; rintro e w1 ⟨rfl, hm⟩; have H1 := hid (((Mod.refl [] W).alloc _).trans hm); clear hm)
  clear zc0 zc1 zc2 zc3
  go_wp2_with fail
  go_loopg [9, 29] xs.length (fun gk v i W' => PointsRelI Pts w1 q l xs gk v i W')
  case atStart =>
    exact ⟨0, [], rfl, rfl, by simp, ⟨by simp, fun k p hp => by simp at hp⟩, RowOf.nil _ _, Mod.refl _ _⟩
  case round =>
    obtain ⟨j, ps, rfl, hgj, hpos, hps, hv, hm⟩ := hrel
    have hmW : Mod [] w wr := (HM.out.1.trans H1.out).trans hm
    by_cases hj : j < xs.length
    · obtain ⟨k, hk⟩ : ∃ k, xs[j]? = some k := ⟨_, List.getElem?_eq_getElem hj⟩
      have hkb := HL.out.2.2 k (List.mem_of_getElem? hk)
      obtain ⟨b, o, e, cx⟩ := (IntsArg.mod HL.out.2.1 hmW) j k hk
      have j0 : (0 : Int) ≤ (j : Int) := by omega
      have j1 : (j : Int) < (xs.length : Int) := by omega
      subst e
      by_cases hk0 : k < 0
      · have HN := hid (And.intro (⟨k, List.mem_of_getElem? hk, hk0⟩ : ∃ x ∈ xs, x < 0) hmW)
        clear hgj hpos hps hv hm hmW hk hkb
        go_wp2_with fail
        exact bodyPost_ret (v := .tuple #[.slice none 0 0, .int .i64 2]) (by simp [results, Tryd.results10, go_sem]) rfl ⟨.inr ⟨HN.out.1, rfl⟩, HN.out.2⟩
      obtain ⟨x, rfl⟩ : ∃ x : Nat, k = (x : Int) := ⟨k.toNat, by omega⟩
      have hx : (xs.map Int.toNat)[j]? = some x := by rw [List.getElem?_map, hk]; rfl
      have hpos2 := take_pos hpos hk (by omega)
      have hxb : x < BB := by unfold BB; omega
      have hxN : x < NN := Nat.lt_trans hxb BB_NN
      have hrow : NatRow wr g l := HL.out.1.mod hmW (by simp)
      have gz := (H1.out.trans hm).get HG.out (by simp)
      have cof := fun W => lof (x := x) hxb W
      have cev := CE.out x hxN
      obtain ⟨x0, x1, x2, x3, hxx, px⟩ := nv_words x
      rw [wv_lit] at hxx
      unfold lit4 at hxx
      rw [hxx] at cof cev
      have COF := hid cof
      have CEV := hid cev
      have hpl : ps.length ≤ 5000 := by rw [hps.1, List.length_take, List.length_map]; omega
      have HN := hid (And.intro hps (And.intro hv (And.intro hm (And.intro hrow (And.intro gz (And.intro hx (And.intro px (And.intro hpl (And.intro hpos2 hgj)))))))))
      have x0' : ¬ (x : Int) < 0 := by omega
      have hwx : IntKind.u64.wrap (x : Int) = (x : Int) := wrap_small hxb
      obtain ⟨av, kv, rfl⟩ := row_sl hv.row
      clear hps hv hm hrow gz hx px hpl hxx cof cev hmW hxb hxN hk hkb hk0 hpos hpos2
      go_upto_region 11 with (go_at_call 30; refine (COF.out _).mono ?_; rintro e w2 ⟨rfl, hm1⟩; have H2 := hid hm1; clear hm1)
      refine wp_abs (fun W2 => W2.heap[w2.heap.size]? = some (.cells (wcells [x0, x1, x2, x3]) 26) ∧ Mod [] wr W2) ⟨get_new _ _, H2.out.alloc _⟩ ?_
      generalize w2.heap.size = t12 at *
      rintro W2 ⟨g12, hm2⟩
      have gz := hm2.get HN.out.2.2.2.2.1 (by simp)
      have hrow := HN.out.2.2.2.1.mod hm2 (by simp)
      have zc0 := cell_at gz 0; have zc1 := cell_at gz 1; have zc2 := cell_at gz 2; have zc3 := cell_at gz 3; simp only [wcells_get] at zc0 zc1 zc2 zc3
      have xc0 := cell_at g12 0; have xc1 := cell_at g12 1; have xc2 := cell_at g12 2; have xc3 := cell_at g12 3; simp only [wcells_get] at xc0 xc1 xc2 xc3
      have HO := hid (And.intro g12 (And.intro hm2 hrow))
      clear gz g12 hm2 hrow H2
      go_upto_region 12 with (go_at_call 14; refine (CEV.out _ HO.out.2.2).mono ?_; rintro e w3 ⟨⟨y, hyq, hyc, rfl⟩, hm1⟩; obtain ⟨y0, y1, y2, y3, hyy, py⟩ := nv_words y; rw [wv_lit] at hyy; unfold lit4 at hyy; rw [hyy]; have H3 := hid (And.intro hyq (And.intro hyc (And.intro py hm1))); clear hyq hyc py hm1 hyy)
      clear zc0 zc1 zc2 zc3
      clear xc0 xc1 xc2 xc3
      refine wp_abs (fun W3 => W3.heap[w3.heap.size]? = some (.cells (wcells [y0, y1, y2, y3]) 26) ∧ Mod [] W2 W3) ⟨get_new _ _, H3.out.2.2.2.alloc _⟩ ?_
      generalize w3.heap.size = t13 at *
      rintro W3 ⟨g13, hm3⟩
      have g12 := hm3.get HO.out.1 (by simp)
      have xc0 := cell_at g12 0; have xc1 := cell_at g12 1; have xc2 := cell_at g12 2; have xc3 := cell_at g12 3; simp only [wcells_get] at xc0 xc1 xc2 xc3
      have yc0 := cell_at g13 0; have yc1 := cell_at g13 1; have yc2 := cell_at g13 2; have yc3 := cell_at g13 3; simp only [wcells_get] at yc0 yc1 yc2 yc3
      have hm4 : Mod [] wr W3 := HO.out.2.1.trans hm3
      have hv := HN.out.2.1.mod hm4 (fun _ _ => by simp)
      have happ := RowOf.app elemP encP_len encP_one hv (Nat.le_trans HN.out.2.2.1.size hm4.size) (x, y) HN.out.2.2.2.2.2.2.2.1 (by omega)
      have e8 : (encP (x, y)).toArray = #[.int .u64 (x0 : Int), .int .u64 (x1 : Int), .int .u64 (x2 : Int), .int .u64 (x3 : Int), .int .u64 (y0 : Int), .int .u64 (y1 : Int), .int .u64 (y2 : Int), .int .u64 (y3 : Int)] := by
        simp only [encP]
        rw [encN_lit HN.out.2.2.2.2.2.2.1, encN_lit H3.out.2.2.1]
        rfl
      rw [e8] at happ
      have HA := hid happ
      have HP := hid (And.intro hm4 hv)
      clear g12 g13 hm3 hm4 hv happ e8
      go_wp2_with (first
        | (at_builtin; refine wpList_app_run rfl _ _ 29 rfl _ _ rfl rfl _ HA.out ?_; rintro v3 w4 ⟨h31, h32, h33⟩; have H4 := hid (And.intro h31 (And.intro h32 h33)); clear h31 h32 h33))
      have hoj := HN.out.1.snoc HN.out.2.2.2.2.2.1 H3.out.1 H3.out.2.1
      have hmE : Mod [] w1 w4 := (HN.out.2.2.1.trans HP.out.1).trans' H4.out.2.1 (fun k hk => .inr (HP.out.2.own k (by simpa using hk)))
      obtain ⟨-, -, -, -, -, -, -, -, hpos2, hgj⟩ := HN.out
      go_roundg (gk - 1)
      case measure => omega
      case rel => exact ⟨j + 1, ps ++ [(x, y)], rfl, by omega, hpos2, hoj, H4.out.1, hmE⟩
    · have j1 : ¬ (j : Int) < (xs.length : Int) := by omega
      obtain rfl : j = xs.length := by omega
      rw [List.take_of_length_le (Nat.le_of_eq (by simp))] at hps
      rw [List.take_of_length_le (Nat.le_refl _)] at hpos
      have HP0 := hid hpos
      have HN := hid (And.intro hps (And.intro (hv.lower (Nat.le_trans HM.out.1.size H1.out.size)) hmW))
      clear hps hv hm hmW hpos
      go_wp2_with fail
      exact bodyPost_ret (v := .tuple #[u9, .int .i64 0]) (by simp [results, Tryd.results10, go_sem]) rfl ⟨.inl ⟨HP0.out, u9, ps, HN.out.1, HN.out.2.1, rfl⟩, HN.out.2.2⟩
end Go.Proofs.YtdgmnhiffoemmaaDoor
/-
  The reference's Points at ints of any sign. No statement of a claim stands here; each contract names what it asks.
-/
set_option linter.unusedSimpArgs false
namespace Go.Proofs.YtdgmnhiffoemmaaDoor
open Go Go.RowKit Go.ChangeMaps

theorem elemR : Elem Tryd.prog 46 52 8 64 :=
  Elem.of (z := .agg #[.int .u64 0, .int .u64 0, .int .u64 0, .int .u64 0, .int .u64 0, .int .u64 0, .int .u64 0, .int .u64 0]) Tryd.underlying46 (by kernel_rfl) rfl (by decide)
/-- While points are gathered, in blocks that are not below B. -/
def PointsRelJ (pts : Nat → World → Value → List (Nat × Nat) → Prop) (B : Nat) (W : World) (q : Nat) (l : List Nat) (xs : List Int) (gk : Nat) (v i : Value) (w : World) : Prop :=
  ∃ (j : Nat) (ps : List (Nat × Nat)), i = .int .i64 j ∧ gk + j = xs.length ∧ (∀ x ∈ xs.take j, 0 ≤ x) ∧ OnPoly q l ((xs.map Int.toNat).take j) ps ∧ pts B w v ps ∧ Mod [] W w
theorem parts_small4 {x a b c d : Nat} (hx : x < BB) (h : parts x 4 = [a, b, c, d]) : a = x ∧ b = 0 ∧ c = 0 ∧ d = 0 := by
  have e := nv_small hx
  rw [show nv x = Value.agg (encN x).toArray from rfl, encN_lit h] at e
  simp at e
  omega
abbrev RPts := RowOf 52 8 encP

set_option maxRecDepth 100000 in
set_option maxHeartbeats 4000000 in
theorem rpoints_any {q : Nat} (hq : q < NN) (h2 : 2 ≤ q) (l : List Nat) (hl : ∀ n ∈ l, n < NN) (hl1 : 1 ≤ l.length) (hl2 : l.length ≤ 256) (g cap : Nat) (xs : List Int) (hxs : ∀ x ∈ xs, x < 9223372036854775808) (hn : xs.length ≤ 256) (ax : Option Addr) (cx : Nat) (w : World) (hg : NatRow w g l) (hgx : IntsArg w ax xs) :
    Calls Tryd.prog 21 #[nv q, .slice (some ⟨g, 0, none⟩) l.length cap, .slice ax xs.length cx] w fun e w' => PointsSay q l xs RPts w.heap.size e w' ∧ Mod [] w w' := by
  have cr := fun W => rright hq W
  have crm := fun W => rmany l.length (by unfold maxLen; omega) W
  rw [decide_eq_true h2] at cr
  rw [decide_eq_true ⟨hl1, hl2⟩] at crm
  have CRM : Hid (∀ W : World, Calls Tryd.prog 38 #[.int .i64 (l.length : Int)] W fun e w' => e = .returned (.bool true) ∧ w' = W) := crm
  clear crm
  have ce := fun (x : Nat) (hx : x < NN) (W : World) (hW : NatRow W g l) => reval hq h2 hx l hl hl1 hl2 g cap W hW
  obtain ⟨z0, z1, z2, z3, hz⟩ := nv_lit q
  rw [hz] at cr
  simp only [hz] at ce
  rw [hz]
  unfold lit4 at *
  have CR := hid cr
  have CE := hid ce
  have HL := hid (And.intro hg (And.intro hgx hxs))
  have l2 : (l.length : Int) ≤ 256 := by omega
  have n2 : ¬ (256 : Int) < (xs.length : Int) := by omega
  have n3 : (xs.length : Int) ≤ 256 := by omega
  clear cr ce hz hq h2 hl hg hgx hxs
  go_enter Tryd.func21, Tryd.ntmps21
  go_upto_region 1 with fail
  refine wp_abs (fun W => W.heap[w.heap.size]? = some (.cells (wcells [z0, z1, z2, z3]) 26) ∧ Mod [] w W) ⟨get_new _ _, (Mod.refl _ _).alloc _⟩ ?_
  rintro W ⟨gz, hm⟩
  generalize hta : w.heap.size = ta at *
  have HM : Hid (Mod [] w W ∧ w.heap.size = ta) := ⟨hm, hta⟩
  have HG := hid gz
  have zc0 := cell_at gz 0; have zc1 := cell_at gz 1; have zc2 := cell_at gz 2; have zc3 := cell_at gz 3; simp only [wcells_get] at zc0 zc1 zc2 zc3
  clear gz hm hta
  go_upto_region 3 with (first
    | (go_at_call 37; refine (CR.out _).mono ?_; rintro e w1 ⟨rfl, hm⟩; have H1 := hid hm; clear hm)
    | (go_at_call 38; refine (CRM.out _).mono ?_; rintro e w1' ⟨rfl, hw⟩; subst hw))
  clear zc0 zc1 zc2 zc3
  go_upto_region 4 with fail
  refine wp_abs (fun W2 => W2.heap[w1'.heap.size]? = some (.cells #[] 52) ∧ Mod [] w1' W2) ⟨get_new _ _, (Mod.refl _ _).alloc _⟩ ?_
  have hB : ta ≤ w1'.heap.size := by rw [← HM.out.2]; exact Nat.le_trans HM.out.1.size H1.out.size
  rintro W2 ⟨g8, hm8⟩
  generalize ht8 : w1'.heap.size = t8 at *
  have H8 := hid (And.intro g8 (And.intro hm8 hB))
  have H9 := hid ht8
  clear g8 hm8 hB ht8
  go_wp2_with fail
  go_loopg [8, 9] xs.length (fun gk v i W' => PointsRelJ RPts t8 w1' q l xs gk v i W')
  case atStart =>
    exact ⟨0, [], rfl, rfl, by simp, ⟨by simp, fun k p hp => by simp at hp⟩, RowOf.empty H8.out.1 (Nat.le_refl _), H8.out.2.1⟩
  case round =>
    obtain ⟨j, ps, rfl, hgj, hpos, hps, hv, hm⟩ := hrel
    have hmW : Mod [] w wr := (HM.out.1.trans H1.out).trans hm
    by_cases hj : j < xs.length
    · obtain ⟨k, hk⟩ : ∃ k, xs[j]? = some k := ⟨_, List.getElem?_eq_getElem hj⟩
      have hkb := HL.out.2.2 k (List.mem_of_getElem? hk)
      obtain ⟨b, o, e, cx⟩ := (IntsArg.mod HL.out.2.1 hmW) j k hk
      have j0 : (0 : Int) ≤ (j : Int) := by omega
      have j1 : (j : Int) < (xs.length : Int) := by omega
      subst e
      by_cases hk0 : k < 0
      · have HN := hid (And.intro (⟨k, List.mem_of_getElem? hk, hk0⟩ : ∃ x ∈ xs, x < 0) hmW)
        clear hgj hpos hps hv hm hmW hk hkb
        go_wp2_with fail
        exact bodyPost_ret (v := .tuple #[.slice none 0 0, .int .i64 2]) (by simp [results, Tryd.results21, go_sem]) rfl ⟨.inr ⟨HN.out.1, rfl⟩, HN.out.2⟩
      obtain ⟨x, rfl⟩ : ∃ x : Nat, k = (x : Int) := ⟨k.toNat, by omega⟩
      have hx : (xs.map Int.toNat)[j]? = some x := by rw [List.getElem?_map, hk]; rfl
      have hpos2 := take_pos hpos hk (by omega)
      have hxb : x < BB := by unfold BB; omega
      have hxN : x < NN := Nat.lt_trans hxb BB_NN
      have hrow : NatRow wr g l := HL.out.1.mod hmW (by simp)
      have gz := (H1.out.trans hm).get HG.out (by simp)
      have cev := CE.out x hxN
      obtain ⟨x0, x1, x2, x3, hxx, px⟩ := nv_words x
      rw [wv_lit] at hxx
      unfold lit4 at hxx
      rw [hxx] at cev
      have hx4 := hid (parts_small4 hxb px)
      have CEV := hid cev
      have hpl : ps.length ≤ 5000 := by rw [hps.1, List.length_take, List.length_map]; omega
      have HN := hid (And.intro hps (And.intro hv (And.intro hm (And.intro hrow (And.intro gz (And.intro hx (And.intro px (And.intro hpl (And.intro hpos2 hgj)))))))))
      have x0' : ¬ (x : Int) < 0 := by omega
      have hwx : IntKind.u64.wrap (x : Int) = (x : Int) := wrap_small hxb
      obtain ⟨av, kv, rfl⟩ := row_sl hv.row
      clear hps hv hm hrow gz hx px hpl hxx cev hmW hxb hxN hk hkb hk0 hpos hpos2
      go_upto_region 10 with fail
      refine wp_abs (fun W3 => W3.heap[wr.heap.size]? = some (.cells (wcells [x0, x1, x2, x3]) 26) ∧ Mod [] wr W3) ⟨by obtain ⟨e0, e1, e2, e3⟩ := hx4.out; rw [e0, e1, e2, e3]; exact get_new _ _, (Mod.refl _ _).alloc _⟩ ?_
      generalize wr.heap.size = t12 at *
      rintro W3 ⟨g12, hm2⟩
      have gz := hm2.get HN.out.2.2.2.2.1 (by simp)
      have hrow := HN.out.2.2.2.1.mod hm2 (by simp)
      have zc0 := cell_at gz 0; have zc1 := cell_at gz 1; have zc2 := cell_at gz 2; have zc3 := cell_at gz 3; simp only [wcells_get] at zc0 zc1 zc2 zc3
      have xc0 := cell_at g12 0; have xc1 := cell_at g12 1; have xc2 := cell_at g12 2; have xc3 := cell_at g12 3; simp only [wcells_get] at xc0 xc1 xc2 xc3
      have HO := hid (And.intro g12 (And.intro hm2 hrow))
      clear gz g12 hm2 hrow
      go_upto_region 11 with (go_at_call 19; refine (CEV.out _ HO.out.2.2).mono ?_; rintro e w3 ⟨⟨y, hyq, hyc, rfl⟩, hm1⟩; obtain ⟨y0, y1, y2, y3, hyy, py⟩ := nv_words y; rw [wv_lit] at hyy; unfold lit4 at hyy; rw [hyy]; have H3 := hid (And.intro hyq (And.intro hyc (And.intro py hm1))); clear hyq hyc py hm1 hyy)
      clear zc0 zc1 zc2 zc3
      clear xc0 xc1 xc2 xc3
      refine wp_abs (fun W4 => W4.heap[w3.heap.size]? = some (.cells (wcells [y0, y1, y2, y3]) 26) ∧ Mod [] W3 W4) ⟨get_new _ _, H3.out.2.2.2.alloc _⟩ ?_
      generalize w3.heap.size = t13 at *
      rintro W4 ⟨g13, hm3⟩
      have g12 := hm3.get HO.out.1 (by simp)
      have xc0 := cell_at g12 0; have xc1 := cell_at g12 1; have xc2 := cell_at g12 2; have xc3 := cell_at g12 3; simp only [wcells_get] at xc0 xc1 xc2 xc3
      have yc0 := cell_at g13 0; have yc1 := cell_at g13 1; have yc2 := cell_at g13 2; have yc3 := cell_at g13 3; simp only [wcells_get] at yc0 yc1 yc2 yc3
      have hm4 : Mod [] wr W4 := HO.out.2.1.trans hm3
      have hv := HN.out.2.1.mod hm4 (fun _ _ => by simp)
      have happ := RowOf.app elemR encP_len encP_one hv (by have a1 := HN.out.2.2.1.size; have a2 := hm4.size; have a3 := H9.out; omega) (x, y) HN.out.2.2.2.2.2.2.2.1 (by omega)
      have e8 : (encP (x, y)).toArray = #[.int .u64 (x0 : Int), .int .u64 (x1 : Int), .int .u64 (x2 : Int), .int .u64 (x3 : Int), .int .u64 (y0 : Int), .int .u64 (y1 : Int), .int .u64 (y2 : Int), .int .u64 (y3 : Int)] := by
        simp only [encP]
        rw [encN_lit HN.out.2.2.2.2.2.2.1, encN_lit H3.out.2.2.1]
        rfl
      rw [e8] at happ
      have HA := hid happ
      have HP := hid (And.intro hm4 hv)
      clear g12 g13 hm3 hm4 hv happ e8
      go_wp2_with (first
        | (at_builtin; refine wpList_app_run rfl _ _ 46 rfl _ _ rfl rfl _ HA.out ?_; rintro v3 w4 ⟨h31, h32, h33⟩; have H4 := hid (And.intro h31 (And.intro h32 h33)); clear h31 h32 h33))
      have hoj := HN.out.1.snoc HN.out.2.2.2.2.2.1 H3.out.1 H3.out.2.1
      have hmE : Mod [] w1' w4 := (HN.out.2.2.1.trans HP.out.1).trans' H4.out.2.1 (fun k hk => .inr (by rw [H9.out]; exact HP.out.2.own k (by simpa using hk)))
      obtain ⟨-, -, -, -, -, -, -, -, hpos2, hgj⟩ := HN.out
      go_roundg (gk - 1)
      case measure => omega
      case rel => exact ⟨j + 1, ps ++ [(x, y)], rfl, by omega, hpos2, hoj, H4.out.1, hmE⟩
    · have j1 : ¬ (j : Int) < (xs.length : Int) := by omega
      obtain rfl : j = xs.length := by omega
      rw [List.take_of_length_le (Nat.le_of_eq (by simp))] at hps
      rw [List.take_of_length_le (Nat.le_refl _)] at hpos
      have HP0 := hid hpos
      have HN := hid (And.intro hps (And.intro (hv.lower (show w.heap.size ≤ t8 from HM.out.2 ▸ H8.out.2.2)) hmW))
      clear hps hv hm hmW hpos
      go_wp2_with fail
      exact bodyPost_ret (v := .tuple #[u8, .int .i64 0]) (by simp [results, Tryd.results21, go_sem]) rfl ⟨.inl ⟨HP0.out, u8, ps, HN.out.1, HN.out.2.1, rfl⟩, HN.out.2.2⟩
end Go.Proofs.YtdgmnhiffoemmaaDoor
