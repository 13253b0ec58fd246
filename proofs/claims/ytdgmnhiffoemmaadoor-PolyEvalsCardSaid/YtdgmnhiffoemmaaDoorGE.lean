/-
  Rows of one's own whose elements are several cells; one new element onto a row. No statement of a claim stands here; each lemma names what it asks.
-/
import Derived.Test.YtdgmnhiffoemmaaDoorYI
import Derived.Test.YtdgmnhiffoemmaaDoorGA
set_option linter.unusedSimpArgs false
namespace Go.Proofs.YtdgmnhiffoemmaaDoor
open Go Go.RowKit Go.ChangeMaps

theorem flat_get {α : Type} {enc : α → List Value} {size : Nat} (he : ∀ a, (enc a).length = size) {l : List α} {i : Nat} {a : α} (h : l[i]? = some a) (j : Nat) (hj : j < size) : (l.flatMap enc)[i * size + j]? = (enc a)[j]? := by
  induction l generalizing i with
  | nil => simp at h
  | cons b l ih =>
    rw [List.flatMap_cons]
    cases i with
    | zero =>
      simp at h
      subst h
      rw [Nat.zero_mul, Nat.zero_add, List.getElem?_append_left (by rw [he]; exact hj)]
    | succ i =>
      rw [List.getElem?_append_right (by rw [he, Nat.succ_mul]; omega), he, show (i + 1) * size + j - size = i * size + j by rw [Nat.succ_mul]; omega]
      exact ih (by simpa using h)
theorem flat_len {α : Type} {enc : α → List Value} {size : Nat} (he : ∀ a, (enc a).length = size) (l : List α) : (l.flatMap enc).length = l.length * size := by
  induction l with
  | nil => simp
  | cons b l ih => rw [List.flatMap_cons, List.length_append, he, ih, List.length_cons, Nat.succ_mul, Nat.add_comm]

/-- A row of one's own, in a block that is not below B. -/
structure RowOf {α : Type} (e : TypeId) (size : Nat) (enc : α → List Value) (B : Nat) (w : World) (v : Value) (l : List α) : Prop where
  row : w.ownsRow 0 e size v l.length (l.flatMap enc)
  own : ∀ k, v.ownBlock = some k → B ≤ k
section
variable {α : Type} {e : TypeId} {size : Nat} {enc : α → List Value}
theorem RowOf.nil (B : Nat) (w : World) : RowOf e size enc B w (.slice none 0 0) [] := ⟨⟨by simp, .inl ⟨rfl, rfl⟩⟩, fun k hk => by cases hk⟩
theorem RowOf.empty {B : Nat} {w : World} {g : Nat} (hg : w.heap[g]? = some (.cells #[] e (0, 0))) (hB : B ≤ g) : RowOf e size enc B w (.slice (some ⟨g, 0, none⟩) 0 0) [] :=
  ⟨⟨by simp, .inr ⟨g, 0, #[], rfl, Nat.zero_le _, hg, Nat.le_refl _, by unfold maxLen; omega, by simp, by simp⟩⟩, fun k hk => by cases hk; exact hB⟩
theorem RowOf.mod {B : Nat} {w w' : World} {v : Value} {l : List α} {S : List Nat} (h : RowOf e size enc B w v l) (m : Mod S w w') (hS : ∀ k, v.ownBlock = some k → k ∉ S) : RowOf e size enc B w' v l := ⟨row_mod h.row m hS, h.own⟩
theorem RowOf.lower {B B' : Nat} {w : World} {v : Value} {l : List α} (h : RowOf e size enc B w v l) (hB : B' ≤ B) : RowOf e size enc B' w v l := ⟨h.row, fun k hk => Nat.le_trans hB (h.own k hk)⟩
/-- Where it lies. -/
theorem RowOf.at {B : Nat} {w : World} {v : Value} {l : List α} (h : RowOf e size enc B w v l) (he : ∀ a, (enc a).length = size) (hl : l ≠ []) : ∃ g c cur, v = .slice (some ⟨g, 0, none⟩) l.length c ∧ B ≤ g ∧ w.heap[g]? = some (.cells cur e (0, 0)) ∧ l.length ≤ c ∧
    ∀ i a, l[i]? = some a → ∀ j u, (enc a)[j]? = some u → cur[i * size + j]? = some u := by
  rcases h.row.2 with ⟨_, h0⟩ | ⟨g, cap, cur, rfl, -, hg, hn, hc, hs, hx⟩
  · exact absurd (List.eq_nil_of_length_eq_zero h0) hl
  · refine ⟨g, cap, cur, rfl, h.own g rfl, hg, hn, fun i a hi j u hu => ?_⟩
    have hj : j < size := by rw [← he a]; exact (List.getElem?_eq_some_iff.1 hu).1
    have h1 := flat_get he hi j hj
    rw [hu, ← hx, List.getElem?_take] at h1
    split at h1
    · simpa using h1
    · cases h1
/-- One more element, that lies in a block of its own. -/
theorem RowOf.app {P : Program} {t : TypeId} {bytes : Nat} (E : Elem P t e size bytes) (he : ∀ a, (enc a).length = size) (h1 : ∀ a, ∀ u ∈ enc a, u.oneCell' = true) {B : Nat} {w : World} {v : Value} {l : List α} (h : RowOf e size enc B w v l) (hB : B ≤ w.heap.size) (x : α) (hl : l.length ≤ 5000) (hb : bytes ≤ 64) :
    ∃ v' w', (Builtin.append_ #[t, t] t #[v, .slice (some ⟨w.heap.size, 0, none⟩) 1 1]).run P (w.alloc (.cells (enc x).toArray e)) = .ok v' w' ∧
      RowOf e size enc B w' v' (l ++ [x]) ∧ Mod v.ownBlock.toList w w' ∧ (∀ k, v'.ownBlock = some k → v.ownBlock = some k ∨ w.heap.size ≤ k) := by
  have hr := row_mod h.row (Mod.alloc (Mod.refl [] w) (.cells (enc x).toArray e)) (fun _ _ => by simp)
  have hb2 : (l.length + 1) * bytes ≤ 5001 * 64 := Nat.mul_le_mul (by omega) hb
  obtain ⟨v', w', er, ho, hm, hk, -⟩ := E.app (w.alloc (.cells (enc x).toArray e)) t v l.length (l.flatMap enc) hr w.heap.size 1 (enc x).toArray e (0, 0) (get_new _ _) (by simp [he]) (by simpa using h1 x) (by unfold maxLen; omega) (by omega)
  have hk' : ∀ k, v'.ownBlock = some k → v.ownBlock = some k ∨ w.heap.size ≤ k := fun k hkk => by
    rcases hk k hkk with h1 | h1
    · exact .inl h1
    · right; simp at h1; omega
  refine ⟨v', w', er, ⟨?_, fun k hkk => ?_⟩, ?_, hk'⟩
  · have e2 : (l ++ [x]).flatMap enc = l.flatMap enc ++ enc x := by rw [List.flatMap_append]; simp
    rw [e2, List.length_append]
    exact ho
  · rcases hk' k hkk with h1 | h1
    · exact h.own k h1
    · omega
  · exact ((Mod.refl _ _).alloc _).trans hm
end

/-- A number's cells; a point's. -/
def encN (n : Nat) : List Value := (parts n 4).map fun (x : Nat) => Value.int .u64 (x : Int)
def encP (p : Nat × Nat) : List Value := encN p.1 ++ encN p.2
def encI (x : Int) : List Value := [.int .i64 x]
theorem encN_len (n : Nat) : (encN n).length = 4 := by simp [encN, parts_len]
theorem encP_len (p : Nat × Nat) : (encP p).length = 8 := by simp [encP, encN_len]
theorem encI_len (x : Int) : (encI x).length = 1 := rfl
theorem encN_one (n : Nat) : ∀ u ∈ encN n, u.oneCell' = true := by
  intro u hu
  simp only [encN, List.mem_map] at hu
  obtain ⟨x, -, rfl⟩ := hu
  rfl
theorem encP_one (p : Nat × Nat) : ∀ u ∈ encP p, u.oneCell' = true := by
  intro u hu
  rcases List.mem_append.1 hu with h | h
  · exact encN_one _ u h
  · exact encN_one _ u h
theorem encI_one (x : Int) : ∀ u ∈ encI x, u.oneCell' = true := by
  intro u hu
  rw [List.mem_singleton.1 hu]
  rfl
theorem encN_lit {n a b c d : Nat} (h : parts n 4 = [a, b, c, d]) : encN n = [.int .u64 (a : Int), .int .u64 (b : Int), .int .u64 (c : Int), .int .u64 (d : Int)] := by simp [encN, h]

theorem elemN : Elem Tryd.prog 22 26 4 32 :=
  Elem.of (z := .agg #[.int .u64 0, .int .u64 0, .int .u64 0, .int .u64 0]) Tryd.underlying22 (by kernel_rfl) rfl (by decide)
theorem elemP : Elem Tryd.prog 29 51 8 64 :=
  Elem.of (z := .agg #[.int .u64 0, .int .u64 0, .int .u64 0, .int .u64 0, .int .u64 0, .int .u64 0, .int .u64 0, .int .u64 0]) Tryd.underlying29 (by kernel_rfl) rfl (by decide)
theorem elemI : Elem Tryd.prog 23 3 1 8 :=
  Elem.of (z := .int .i64 0) Tryd.underlying23 (by kernel_rfl) rfl (by decide)

abbrev Nats := RowOf 26 4 encN
abbrev Pts := RowOf 51 8 encP
abbrev Ints := RowOf 3 1 encI

theorem Nats.natRow {B : Nat} {w : World} {v : Value} {l : List Nat} (h : Nats B w v l) (hl : l ≠ []) : ∃ g c, v = .slice (some ⟨g, 0, none⟩) l.length c ∧ B ≤ g ∧ l.length ≤ c ∧ NatRow w g l := by
  obtain ⟨g, c, cur, e, hB, hg, hc, hx⟩ := RowOf.at h encN_len hl
  refine ⟨g, c, e, hB, hc, cur, _, _, hg, fun i n hi j y hy => ?_⟩
  exact hx i n hi j _ (by rw [encN, List.getElem?_map, hy]; rfl)
end Go.Proofs.YtdgmnhiffoemmaaDoor
/-
  poly.Points, where all is right. No statement of a claim stands here; each contract names what it asks.
-/
set_option linter.unusedSimpArgs false
namespace Go.Proofs.YtdgmnhiffoemmaaDoor
open Go Go.RowKit Go.ChangeMaps

/-- A row of ints lies in a block, from its start. -/
def IntRow (w : World) (g : Nat) (l : List Nat) : Prop := ∃ (cur : Array Value) (T : TypeId) (f : Nat × Nat), w.heap[g]? = some (.cells cur T f) ∧ ∀ (i x : Nat), l[i]? = some x → cur[i]? = some (Value.int .i64 (x : Int))
theorem IntRow.mod {S : List Nat} {w w' : World} {g : Nat} {l : List Nat} (h : IntRow w g l) (m : Mod S w w') (hn : g ∉ S) : IntRow w' g l := by
  obtain ⟨cur, T, f, hg, hc⟩ := h
  exact ⟨cur, T, f, m.get hg hn, hc⟩
theorem IntRow.cell {w : World} {g : Nat} {l : List Nat} (h : IntRow w g l) {i x : Nat} (hx : l[i]? = some x) : w.cell? ⟨g, i, none⟩ = some (.int .i64 (x : Int)) := by
  obtain ⟨cur, T, f, hg, hc⟩ := h
  rw [cell_at hg]
  exact hc i x hx

/-- Points of a polynomial. -/
def OnPoly (q : Nat) (l : List Nat) (xs : List Nat) (ps : List (Nat × Nat)) : Prop :=
  ps.length = xs.length ∧ ∀ (k : Nat) (p : Nat × Nat), ps[k]? = some p → xs[k]? = some p.1 ∧ p.2 < q ∧ Cg (q : Int) (p.2 : Int) (ev (zs l) (p.1 : Int))
theorem OnPoly.snoc {q : Nat} {l xs : List Nat} {ps : List (Nat × Nat)} {i x y : Nat} (h : OnPoly q l (xs.take i) ps) (hx : xs[i]? = some x) (hy : y < q) (hc : Cg (q : Int) (y : Int) (ev (zs l) (x : Int))) : OnPoly q l (xs.take (i + 1)) (ps ++ [(x, y)]) := by
  have hi := (List.getElem?_eq_some_iff.1 hx).1
  have hl : ps.length = i := by rw [h.1, List.length_take]; omega
  refine ⟨by simp only [List.length_append, List.length_singleton, List.length_take, hl]; omega, fun k p hp => ?_⟩
  by_cases hk : k < i
  · rw [List.getElem?_append_left (by omega)] at hp
    obtain ⟨h1, h2, h3⟩ := h.2 k p hp
    refine ⟨?_, h2, h3⟩
    rw [List.getElem?_take, if_pos hk] at h1
    rw [List.getElem?_take, if_pos (by omega)]
    exact h1
  · have hki : k = i := by
      have := (List.getElem?_eq_some_iff.1 hp).1
      simp only [List.length_append, List.length_singleton, hl] at this
      omega
    subst hki
    rw [List.getElem?_append_right (by omega), hl, Nat.sub_self] at hp
    cases hp
    exact ⟨by rw [List.getElem?_take, if_pos (by omega)]; exact hx, hy, hc⟩

theorem row_sl {w : World} {e : TypeId} {size n : Nat} {v : Value} {xs : List Value} {base : Nat} (h : w.ownsRow base e size v n xs) : ∃ a c, v = .slice a n c := by
  rcases h.2 with ⟨rfl, rfl⟩ | ⟨g, cap, cur, rfl, _⟩
  · exact ⟨none, 0, rfl⟩
  · exact ⟨_, _, rfl⟩
/-- While points are gathered. -/
def PointsRel (W : World) (q : Nat) (l xs : List Nat) (gk : Nat) (v i : Value) (w : World) : Prop :=
  ∃ (j : Nat) (ps : List (Nat × Nat)), i = .int .i64 j ∧ gk + j = xs.length ∧ OnPoly q l (xs.take j) ps ∧ Pts W.heap.size w v ps ∧ Mod [] W w

set_option maxRecDepth 100000 in
set_option maxHeartbeats 4000000 in
theorem ppoints {q : Nat} (hq : q < NN) (h2 : 2 ≤ q) (l : List Nat) (hl : ∀ n ∈ l, n < NN) (hl1 : 1 ≤ l.length) (hl2 : l.length ≤ 256) (g cap : Nat) (xs : List Nat) (hxs : ∀ x ∈ xs, x < 1000000) (hn : xs.length ≤ 256) (gx cx : Nat) (w : World) (hg : NatRow w g l) (hgx : IntRow w gx xs) :
    Calls Tryd.prog 10 #[nv q, .slice (some ⟨g, 0, none⟩) l.length cap, .slice (some ⟨gx, 0, none⟩) xs.length cx] w fun e w' => (∃ (v : Value) (ps : List (Nat × Nat)), OnPoly q l xs ps ∧ Pts w.heap.size w' v ps ∧ e = .returned (.tuple #[v, .int .i64 0])) ∧ Mod [] w w' := by
  have cr := fun (b : Nat) (W : World) (hb : W.heap[b]? = some (.cells #[.int .i64 (l.length : Int)] 3)) => pright hq h2 [l.length] (by simp) b (by simp; omega) W hb
  have ce := fun (x : Nat) (hx : x < NN) (W : World) (hW : NatRow W g l) => peval hq h2 hx l hl hl1 hl2 g cap W hW
  obtain ⟨z0, z1, z2, z3, hz⟩ := nv_lit q
  rw [hz] at cr
  simp only [hz] at ce
  rw [hz]
  unfold lit4 at *
  have CR := hid cr
  have CE := hid ce
  have HL := hid (And.intro hg (And.intro hgx hxs))
  have l2 : (l.length : Int) ≤ 256 := by omega
  have n2 : ¬ (256 : Int) < (xs.length : Int) := by omega
  have n3 : (xs.length : Int) ≤ 256 := by omega
  clear cr ce hz hq h2 hl hg hgx hxs
  go_enter Tryd.func10, Tryd.ntmps10
  go_upto_region 1 with fail
  refine wp_abs (fun W => W.heap[w.heap.size]? = some (.cells (wcells [z0, z1, z2, z3]) 26) ∧ Mod [] w W) ⟨get_new _ _, (Mod.refl _ _).alloc _⟩ ?_
  rintro W ⟨gz, hm⟩
  generalize hta : w.heap.size = ta at *
  have HM : Hid (Mod [] w W ∧ w.heap.size = ta) := ⟨hm, hta⟩
  have HG := hid gz
  have zc0 := cell_at gz 0; have zc1 := cell_at gz 1; have zc2 := cell_at gz 2; have zc3 := cell_at gz 3; simp only [wcells_get] at zc0 zc1 zc2 zc3
  clear gz hm hta
  go_upto_region 4 with (go_at_call 29; refine (CR.out _ _ (get_new _ _)).mono ?_; rintro e w1 ⟨rfl, hm⟩; have H1 := hid (((Mod.refl [] W).alloc _).trans hm); clear hm)
  clear zc0 zc1 zc2 zc3
  go_wp2_with fail
  go_loopg [9, 29] xs.length (fun gk v i W' => PointsRel w1 q l xs gk v i W')
  case atStart =>
    exact ⟨0, [], rfl, rfl, ⟨by simp, fun k p hp => by simp at hp⟩, RowOf.nil _ _, Mod.refl _ _⟩
  case round =>
    obtain ⟨j, ps, rfl, hgj, hps, hv, hm⟩ := hrel
    have hmW : Mod [] w wr := (HM.out.1.trans H1.out).trans hm
    by_cases hj : j < xs.length
    · obtain ⟨x, hx⟩ : ∃ x, xs[j]? = some x := ⟨_, List.getElem?_eq_getElem hj⟩
      have hxb := HL.out.2.2 x (List.mem_of_getElem? hx)
      have hxN : x < NN := Nat.lt_trans (Nat.lt_trans hxb (by unfold BB; decide)) BB_NN
      have hrow : NatRow wr g l := HL.out.1.mod hmW (by simp)
      have cx := (HL.out.2.1.mod hmW (by simp)).cell hx
      have gz := (H1.out.trans hm).get HG.out (by simp)
      have cof := fun W => lof (x := x) (Nat.lt_trans hxb (by unfold BB; decide)) W
      have cev := CE.out x hxN
      obtain ⟨x0, x1, x2, x3, hxx, px⟩ := nv_words x
      rw [wv_lit] at hxx
      unfold lit4 at hxx
      rw [hxx] at cof cev
      have COF := hid cof
      have CEV := hid cev
      have hpl : ps.length ≤ 5000 := by rw [hps.1, List.length_take]; omega
      have HN := hid (And.intro hps (And.intro hv (And.intro hm (And.intro hrow (And.intro gz (And.intro hx (And.intro px (And.intro hpl hgj))))))))
      have j0 : (0 : Int) ≤ (j : Int) := by omega
      have j1 : (j : Int) < (xs.length : Int) := by omega
      have x0' : ¬ (x : Int) < 0 := by omega
      have hwx : IntKind.u64.wrap (x : Int) = (x : Int) := wrap_small (Nat.lt_trans hxb (by unfold BB; decide))
      obtain ⟨av, kv, rfl⟩ := row_sl hv.row
      clear hps hv hm hrow gz hx px hpl hxx cof cev hmW hxb hxN
      go_upto_region 11 with (go_at_call 30; refine (COF.out _).mono ?_; rintro e w2 ⟨rfl, hm1⟩; have H2 := hid hm1; clear hm1)
      refine wp_abs (fun W2 => W2.heap[w2.heap.size]? = some (.cells (wcells [x0, x1, x2, x3]) 26) ∧ Mod [] wr W2) ⟨get_new _ _, H2.out.alloc _⟩ ?_
      generalize w2.heap.size = t12 at *
      rintro W2 ⟨g12, hm2⟩
      have gz := hm2.get HN.out.2.2.2.2.1 (by simp)
      have hrow := HN.out.2.2.2.1.mod hm2 (by simp)
      have zc0 := cell_at gz 0; have zc1 := cell_at gz 1; have zc2 := cell_at gz 2; have zc3 := cell_at gz 3; simp only [wcells_get] at zc0 zc1 zc2 zc3
      have xc0 := cell_at g12 0; have xc1 := cell_at g12 1; have xc2 := cell_at g12 2; have xc3 := cell_at g12 3; simp only [wcells_get] at xc0 xc1 xc2 xc3
      have HO := hid (And.intro g12 (And.intro hm2 hrow))
      clear gz g12 hm2 hrow H2
      go_upto_region 12 with (go_at_call 14; refine (CEV.out _ HO.out.2.2).mono ?_; rintro e w3 ⟨⟨y, hyq, hyc, rfl⟩, hm1⟩; obtain ⟨y0, y1, y2, y3, hyy, py⟩ := nv_words y; rw [wv_lit] at hyy; unfold lit4 at hyy; rw [hyy]; have H3 := hid (And.intro hyq (And.intro hyc (And.intro py hm1))); clear hyq hyc py hm1 hyy)
      clear zc0 zc1 zc2 zc3
      clear xc0 xc1 xc2 xc3
      refine wp_abs (fun W3 => W3.heap[w3.heap.size]? = some (.cells (wcells [y0, y1, y2, y3]) 26) ∧ Mod [] W2 W3) ⟨get_new _ _, H3.out.2.2.2.alloc _⟩ ?_
      generalize w3.heap.size = t13 at *
      rintro W3 ⟨g13, hm3⟩
      have g12 := hm3.get HO.out.1 (by simp)
      have xc0 := cell_at g12 0; have xc1 := cell_at g12 1; have xc2 := cell_at g12 2; have xc3 := cell_at g12 3; simp only [wcells_get] at xc0 xc1 xc2 xc3
      have yc0 := cell_at g13 0; have yc1 := cell_at g13 1; have yc2 := cell_at g13 2; have yc3 := cell_at g13 3; simp only [wcells_get] at yc0 yc1 yc2 yc3
      have hm4 : Mod [] wr W3 := HO.out.2.1.trans hm3
      have hv := HN.out.2.1.mod hm4 (fun _ _ => by simp)
      have happ := RowOf.app elemP encP_len encP_one hv (Nat.le_trans HN.out.2.2.1.size hm4.size) (x, y) HN.out.2.2.2.2.2.2.2.1 (by omega)
      have e8 : (encP (x, y)).toArray = #[.int .u64 (x0 : Int), .int .u64 (x1 : Int), .int .u64 (x2 : Int), .int .u64 (x3 : Int), .int .u64 (y0 : Int), .int .u64 (y1 : Int), .int .u64 (y2 : Int), .int .u64 (y3 : Int)] := by
        simp only [encP]
        rw [encN_lit HN.out.2.2.2.2.2.2.1, encN_lit H3.out.2.2.1]
        rfl
      rw [e8] at happ
      have HA := hid happ
      have HP := hid (And.intro hm4 hv)
      clear g12 g13 hm3 hm4 hv happ e8
      go_wp2_with (first
        | (at_builtin; refine wpList_app_run rfl _ _ 29 rfl _ _ rfl rfl _ HA.out ?_; rintro v3 w4 ⟨h31, h32, h33⟩; have H4 := hid (And.intro h31 (And.intro h32 h33)); clear h31 h32 h33))
      have hoj := HN.out.1.snoc HN.out.2.2.2.2.2.1 H3.out.1 H3.out.2.1
      have hmE : Mod [] w1 w4 := (HN.out.2.2.1.trans HP.out.1).trans' H4.out.2.1 (fun k hk => .inr (HP.out.2.own k (by simpa using hk)))
      obtain ⟨-, -, -, -, -, -, -, -, hgj⟩ := HN.out
      go_roundg (gk - 1)
      case measure => omega
      case rel => exact ⟨j + 1, ps ++ [(x, y)], rfl, by omega, hoj, H4.out.1, hmE⟩
    · have j1 : ¬ (j : Int) < (xs.length : Int) := by omega
      obtain rfl : j = xs.length := by omega
      rw [List.take_of_length_le (Nat.le_refl _)] at hps
      have HN := hid (And.intro hps (And.intro (hv.lower (Nat.le_trans HM.out.1.size H1.out.size)) hmW))
      clear hps hv hm hmW
      go_wp2_with fail
      exact bodyPost_ret (v := .tuple #[u9, .int .i64 0]) (by simp [results, Tryd.results10, go_sem]) rfl ⟨⟨u9, ps, HN.out.1, HN.out.2.1, rfl⟩, HN.out.2.2⟩
end Go.Proofs.YtdgmnhiffoemmaaDoor
/-
  poly.places. No statement of a claim stands here; each contract names what it asks.
-/
set_option linter.unusedSimpArgs false
namespace Go.Proofs.YtdgmnhiffoemmaaDoor
open Go Go.RowKit Go.ChangeMaps

/-- A row of points lies in a block, from its start. -/
def PtRow (w : World) (g : Nat) (ps : List (Nat × Nat)) : Prop :=
  ∃ (cur : Array Value) (T : TypeId) (f : Nat × Nat), w.heap[g]? = some (.cells cur T f) ∧ ∀ (i : Nat) (p : Nat × Nat), ps[i]? = some p → ∀ (j : Nat) (u : Value), (encP p)[j]? = some u → cur[i * 8 + j]? = some u
theorem PtRow.mod {S : List Nat} {w w' : World} {g : Nat} {l : List (Nat × Nat)} (h : PtRow w g l) (m : Mod S w w') (hn : g ∉ S) : PtRow w' g l := by
  obtain ⟨cur, T, f, hg, hc⟩ := h
  exact ⟨cur, T, f, m.get hg hn, hc⟩
theorem PtRow.cells {w : World} {g : Nat} {l : List (Nat × Nat)} (h : PtRow w g l) {i x y a b c d e f' k m : Nat} (hn : l[i]? = some (x, y)) (hp : parts x 4 = [a, b, c, d]) (hq : parts y 4 = [e, f', k, m]) :
    w.cell? ⟨g, i * 8, none⟩ = some (.int .u64 (a : Int)) ∧ w.cell? ⟨g, i * 8 + 1, none⟩ = some (.int .u64 (b : Int)) ∧ w.cell? ⟨g, i * 8 + 2, none⟩ = some (.int .u64 (c : Int)) ∧ w.cell? ⟨g, i * 8 + 3, none⟩ = some (.int .u64 (d : Int)) ∧
    w.cell? ⟨g, i * 8 + 4, none⟩ = some (.int .u64 (e : Int)) ∧ w.cell? ⟨g, i * 8 + 5, none⟩ = some (.int .u64 (f' : Int)) ∧ w.cell? ⟨g, i * 8 + 6, none⟩ = some (.int .u64 (k : Int)) ∧ w.cell? ⟨g, i * 8 + 7, none⟩ = some (.int .u64 (m : Int)) := by
  obtain ⟨cur, T, f, hg, hc⟩ := h
  have z := hc i (x, y) hn
  simp only [encP] at z
  rw [encN_lit hp, encN_lit hq] at z
  refine ⟨?_, ?_, ?_, ?_, ?_, ?_, ?_, ?_⟩ <;> rw [cell_at hg]
  · exact z 0 _ rfl
  · exact z 1 _ rfl
  · exact z 2 _ rfl
  · exact z 3 _ rfl
  · exact z 4 _ rfl
  · exact z 5 _ rfl
  · exact z 6 _ rfl
  · exact z 7 _ rfl
theorem Pts.ptRow {B : Nat} {w : World} {v : Value} {l : List (Nat × Nat)} (h : Pts B w v l) (hl : l ≠ []) : ∃ g c, v = .slice (some ⟨g, 0, none⟩) l.length c ∧ B ≤ g ∧ l.length ≤ c ∧ PtRow w g l := by
  obtain ⟨g, c, cur, e, hB, hg, hc, hx⟩ := RowOf.at h encP_len hl
  exact ⟨g, c, e, hB, hc, cur, _, _, hg, hx⟩

/-- While places are gathered. -/
def PlacesRel (W : World) (ps : List (Nat × Nat)) (gk : Nat) (v i : Value) (w : World) : Prop :=
  ∃ j : Nat, i = .int .i64 j ∧ gk + j = ps.length ∧ Nats W.heap.size w v ((ps.take j).map Prod.fst) ∧ Mod [] W w

set_option maxRecDepth 100000 in
set_option maxHeartbeats 4000000 in
theorem pplaces (ps : List (Nat × Nat)) (hn : ps.length ≤ 256) (g c : Nat) (w : World) (hg : PtRow w g ps) :
    Calls Tryd.prog 32 #[.slice (some ⟨g, 0, none⟩) ps.length c] w fun e w' => (∃ v : Value, Nats w.heap.size w' v (ps.map Prod.fst) ∧ e = .returned v) ∧ Mod [] w w' := by
  have HG := hid hg
  clear hg
  have n3 : (ps.length : Int) ≤ 256 := by omega
  go_enter Tryd.func32, Tryd.ntmps32
  go_wp2_with fail
  go_loopg [3, 8] ps.length (fun gk v i W' => PlacesRel w ps gk v i W')
  case atStart => exact ⟨0, rfl, rfl, RowOf.nil _ _, Mod.refl _ _⟩
  case round =>
    obtain ⟨j, rfl, hgj, hv, hm⟩ := hrel
    by_cases hj : j < ps.length
    · obtain ⟨⟨x, y⟩, hx⟩ : ∃ p, ps[j]? = some p := ⟨_, List.getElem?_eq_getElem hj⟩
      obtain ⟨x0, x1, x2, x3, -, px⟩ := nv_words x
      obtain ⟨y0, y1, y2, y3, -, py⟩ := nv_words y
      obtain ⟨q0, q1, q2, q3, q4, q5, q6, q7⟩ := (HG.out.mod hm (by simp)).cells hx px py
      have j0 : (0 : Int) ≤ (j : Int) := by omega
      have j1 : (j : Int) < (ps.length : Int) := by omega
      have htk : (ps.take (j + 1)).map Prod.fst = (ps.take j).map Prod.fst ++ [x] := by rw [List.take_add_one, hx]; simp
      have hpl : ((ps.take j).map Prod.fst).length ≤ 5000 := by rw [List.length_map, List.length_take]; omega
      have hm1 : Mod [] wr (wr.alloc (.cells #[.int .u64 (x0 : Int), .int .u64 (x1 : Int), .int .u64 (x2 : Int), .int .u64 (x3 : Int), .int .u64 (y0 : Int), .int .u64 (y1 : Int), .int .u64 (y2 : Int), .int .u64 (y3 : Int)] 51)) := (Mod.refl _ _).alloc _
      have e4 : (encN x).toArray = #[.int .u64 (x0 : Int), .int .u64 (x1 : Int), .int .u64 (x2 : Int), .int .u64 (x3 : Int)] := by rw [encN_lit px]
      have hlen := hv.row.1
      obtain ⟨av, kv, rfl⟩ := row_sl hv.row
      have HN := hid (And.intro hv (And.intro hm (And.intro htk (And.intro hpl (And.intro e4 hgj)))))
      clear hv hm htk hpl e4 hx px py hlen hm1
      go_upto_region 5 with fail
      refine wp_abs (fun W2 => W2.heap[wr.heap.size]? = some (.cells (wcells [x0, x1, x2, x3, y0, y1, y2, y3]) 51) ∧ Mod [] wr W2) ⟨get_new _ _, (Mod.refl _ _).alloc _⟩ ?_
      generalize ht5 : wr.heap.size = t5 at *
      rintro W2 ⟨g5, hm2⟩
      have xc0 := cell_at g5 0; have xc1 := cell_at g5 1; have xc2 := cell_at g5 2; have xc3 := cell_at g5 3; have xc4 := cell_at g5 4; have xc5 := cell_at g5 5; have xc6 := cell_at g5 6; have xc7 := cell_at g5 7; simp only [wcells_get] at xc0 xc1 xc2 xc3 xc4 xc5 xc6 xc7
      have hv := HN.out.1.mod hm2 (fun _ _ => by simp)
      have happ := RowOf.app elemN encN_len encN_one hv (Nat.le_trans HN.out.2.1.size hm2.size) x HN.out.2.2.2.1 (by omega)
      rw [HN.out.2.2.2.2.1] at happ
      have HA := hid happ
      have HP := hid (And.intro hm2 hv)
      have elen : ((ps.take j).map Prod.fst).length = j := by rw [List.length_map, List.length_take]; omega
      clear g5 hm2 hv happ
      go_wp2_with (first
        | (at_builtin; refine wpList_app_run rfl _ _ 22 rfl _ _ rfl rfl _ HA.out ?_; rintro v3 w4 ⟨h31, h32, h33⟩; have H4 := hid (And.intro h31 (And.intro h32 h33)); clear h31 h32 h33))
      have hmE : Mod [] w w4 := (HN.out.2.1.trans HP.out.1).trans' H4.out.2.1 (fun k hk => .inr (HP.out.2.own k (by simpa using hk)))
      obtain ⟨-, -, htk, -, -, hgj⟩ := HN.out
      go_roundg (gk - 1)
      case measure => omega
      case rel => exact ⟨j + 1, rfl, by omega, by rw [htk]; exact H4.out.1, hmE⟩
    · have j1 : ¬ (j : Int) < (ps.length : Int) := by omega
      obtain rfl : j = ps.length := by omega
      rw [List.take_of_length_le (Nat.le_refl _)] at hv
      have HN := hid (And.intro hv hm)
      clear hv hm
      go_wp2_with fail
      exact bodyPost_ret (v := u3) (by simp [results, Tryd.results32, go_sem]) rfl ⟨⟨u3, HN.out.1, rfl⟩, HN.out.2⟩
end Go.Proofs.YtdgmnhiffoemmaaDoor
