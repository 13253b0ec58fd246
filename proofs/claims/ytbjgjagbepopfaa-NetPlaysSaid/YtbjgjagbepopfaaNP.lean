/-
  The statements' small helpers, walked: Among, short, a message held against a message; rows of structs as an argument. No statement of a claim stands here; each contract names what it asks.
-/
import Derived.Test.YtbjgjagbepopfaaNH
import Derived.Test.YtbjgjagbepopfaaOpen
set_option linter.unusedSimpArgs false
namespace Go.Proofs.Ytbjgjagbepopfaa
open Go Go.RowKit Go.ChangeShapes Go.WideShapes Go.ChangeMaps

def among (x n : Int) : Int := IntKind.u64.wrap x % n

theorem among_any (x n : Int) (w : World) (hn : 1 ≤ n) (hn' : n ≤ 9223372036854775807) :
    Calls Try.prog 12 #[.int .i64 x, .int .i64 n] w fun e w' => e = .returned (.int .i64 (among x n)) ∧ w = w' := by
  have hu : 0 ≤ IntKind.u64.wrap x := by simp only [IntKind.wrap_u64]; omega
  have hr : 0 ≤ among x n ∧ among x n < n := ⟨Int.emod_nonneg _ (by omega), Int.emod_lt_of_pos _ (by omega)⟩
  have ht : (IntKind.u64.wrap x).tmod n = among x n := by rw [Int.tmod_eq_emod_of_nonneg hu]; rfl
  have hw : IntKind.i64.wrap (among x n) = among x n := IntWalk.i64_in _ (by omega)
  go_enter Try.func12, Try.ntmps12
  go_wp2
  go_ret
  refine ⟨?_, rfl⟩
  simp [ht]
theorem among_in (x n : Int) (hn : 1 ≤ n) : 0 ≤ among x n ∧ among x n < n := ⟨Int.emod_nonneg _ (by omega), Int.emod_lt_of_pos _ (by omega)⟩

/-- A message with a short body. -/
def shortB (b : ByteArray) : ByteArray := if 4096 < b.size then b.extract 0 4097 else b.extract 0 (min b.size 100)
def Msg.short (m : Msg) : Msg := { m with body := shortB m.body }

set_option maxRecDepth 20000 in
set_option maxHeartbeats 1000000 in
theorem short_any (w : World) (m : Msg) (hm : m.body.size ≤ maxLen) :
    Calls Try.prog 11 #[m.v] w fun e w' => e = .returned m.short.v ∧ Mod [] w w' := by
  obtain ⟨V, hV⟩ : ∃ V, V = m.short.v := ⟨_, rfl⟩
  rw [← hV]
  have HV := hid hV
  clear hV
  have hg := get_new w (msgObj m)
  have hmd := (Mod.refl [] w).alloc (msgObj m)
  have hg2 := get_alloc hg zeroObj
  have hz2 := get_new (w.alloc (msgObj m)) zeroObj
  have hm2 := hmd.alloc zeroObj
  rw [show (w.alloc (msgObj m)).heap.size = w.heap.size + 1 from by simp] at hz2
  have HM := hid (And.intro hm2 (And.intro hg2 hz2))
  clear hg hmd hg2 hz2 hm2
  unfold Msg.v
  have hz : m.body.size ≤ 9223372036854775807 := by unfold maxLen at hm; omega
  go_enter Try.func11, Try.ntmps11
  go_upto_region 1 with fail
  generalize ((w.alloc (msgObj m)).alloc zeroObj) = W2 at *
  generalize hgg : w.heap.size = g at *
  have HGG := hid hgg
  clear hgg
  have b3 := cell_at HM.out.2.1 3
  have f3 := free_at HM.out.2.1 3
  by_cases hl : 4096 < m.body.size
  · have hs : m.short = ⟨m.frm, m.to, m.kind, m.body.extract 0 4097⟩ := by unfold Msg.short shortB; rw [if_pos hl]
    rw [hs] at HV
    clear hs
    go_upto_region 4 with fail
    have hg3 := get_setCell_self HM.out.2.1 3 (.string (m.body.extract 0 4097))
    have hm3 := HM.out.1.setCell (p := ⟨g, 3, none⟩) (.inr (by have := HGG.out; show _ ≤ g; omega)) (.string (m.body.extract 0 4097))
    have hz3 := get_setCell HM.out.2.2 (p := ⟨g, 3, none⟩) (by simp) (.string (m.body.extract 0 4097))
    rw [show (#[Value.int IntKind.i64 m.frm, Value.int IntKind.i64 m.to, Value.int IntKind.i64 m.kind, Value.string m.body].setIfInBounds 3 (.string (m.body.extract 0 4097))) = #[.int .i64 m.frm, .int .i64 m.to, .int .i64 m.kind, .string (m.body.extract 0 4097)] from rfl] at hg3
    clear b3 f3 HM
    generalize (W2.setCell ⟨g, 3, none⟩ (.string (m.body.extract 0 4097))) = W3 at *
    generalize m.body.extract 0 4097 = B at *
    have g0 := cell_at hg3 0
    have g1 := cell_at hg3 1
    have g2 := cell_at hg3 2
    have g3 := cell_at hg3 3
    have z0 := cell_at hz3 0
    have z1 := cell_at hz3 1
    have z2 := cell_at hz3 2
    have z3 := cell_at hz3 3
    have f0 := free_at hz3 0
    have f1 := free_at hz3 1
    have f2 := free_at hz3 2
    have f3 := free_at hz3 3
    have HW := hid (And.intro hm3 hz3)
    clear hm3 hz3 hg3
    go_wp2_with fail
    have hq := set4 HW.out.2 (.int .i64 m.frm) (.int .i64 m.to) (.int .i64 m.kind) (.string B)
    have hmm := mod4 HW.out.1 (b := g + 1) (.inr (by have := HGG.out; omega)) (.int .i64 m.frm) (.int .i64 m.to) (.int .i64 m.kind) (.string B)
    generalize ((((W3.setCell ⟨g + 1, 0, none⟩ (.int .i64 m.frm)).setCell ⟨g + 1, 1, none⟩ (.int .i64 m.to)).setCell ⟨g + 1, 2, none⟩ (.int .i64 m.kind)).setCell ⟨g + 1, 3, none⟩ (.string B)) = W6 at *
    have q0 := cell_at hq 0
    have q1 := cell_at hq 1
    have q2 := cell_at hq 2
    have q3 := cell_at hq 3
    refine bodyPost_ret (v := .agg #[.int .i64 m.frm, .int .i64 m.to, .int .i64 m.kind, .string B]) (by simp [results, Try.results11, go_sem, q0, q1, q2, q3]) rfl ⟨by rw [HV.out]; rfl, hmm⟩
  · have hs : m.short = ⟨m.frm, m.to, m.kind, m.body.extract 0 (min m.body.size 100)⟩ := by unfold Msg.short shortB; rw [if_neg hl]
    rw [hs] at HV
    clear hs
    go_upto_region 4 with fail
    rw [show (min (m.body.size : Int) 100).toNat = min m.body.size 100 from by omega]
    have hg3 := get_setCell_self HM.out.2.1 3 (.string (m.body.extract 0 (min m.body.size 100)))
    have hm3 := HM.out.1.setCell (p := ⟨g, 3, none⟩) (.inr (by have := HGG.out; show _ ≤ g; omega)) (.string (m.body.extract 0 (min m.body.size 100)))
    have hz3 := get_setCell HM.out.2.2 (p := ⟨g, 3, none⟩) (by simp) (.string (m.body.extract 0 (min m.body.size 100)))
    rw [show (#[Value.int IntKind.i64 m.frm, Value.int IntKind.i64 m.to, Value.int IntKind.i64 m.kind, Value.string m.body].setIfInBounds 3 (.string (m.body.extract 0 (min m.body.size 100)))) = #[.int .i64 m.frm, .int .i64 m.to, .int .i64 m.kind, .string (m.body.extract 0 (min m.body.size 100))] from rfl] at hg3
    clear b3 f3 HM
    generalize (W2.setCell ⟨g, 3, none⟩ (.string (m.body.extract 0 (min m.body.size 100)))) = W3 at *
    generalize m.body.extract 0 (min m.body.size 100) = B at *
    have g0 := cell_at hg3 0
    have g1 := cell_at hg3 1
    have g2 := cell_at hg3 2
    have g3 := cell_at hg3 3
    have z0 := cell_at hz3 0
    have z1 := cell_at hz3 1
    have z2 := cell_at hz3 2
    have z3 := cell_at hz3 3
    have f0 := free_at hz3 0
    have f1 := free_at hz3 1
    have f2 := free_at hz3 2
    have f3 := free_at hz3 3
    have HW := hid (And.intro hm3 hz3)
    clear hm3 hz3 hg3
    go_wp2_with fail
    have hq := set4 HW.out.2 (.int .i64 m.frm) (.int .i64 m.to) (.int .i64 m.kind) (.string B)
    have hmm := mod4 HW.out.1 (b := g + 1) (.inr (by have := HGG.out; omega)) (.int .i64 m.frm) (.int .i64 m.to) (.int .i64 m.kind) (.string B)
    generalize ((((W3.setCell ⟨g + 1, 0, none⟩ (.int .i64 m.frm)).setCell ⟨g + 1, 1, none⟩ (.int .i64 m.to)).setCell ⟨g + 1, 2, none⟩ (.int .i64 m.kind)).setCell ⟨g + 1, 3, none⟩ (.string B)) = W6 at *
    have q0 := cell_at hq 0
    have q1 := cell_at hq 1
    have q2 := cell_at hq 2
    have q3 := cell_at hq 3
    refine bodyPost_ret (v := .agg #[.int .i64 m.frm, .int .i64 m.to, .int .i64 m.kind, .string B]) (by simp [results, Try.results11, go_sem, q0, q1, q2, q3]) rfl ⟨by rw [HV.out]; rfl, hmm⟩

/-- Are they the same? -/
def Msg.same (m n : Msg) : Bool := m.frm == n.frm && (m.to == n.to && (m.kind == n.kind && decide (m.body = n.body)))
theorem Msg.same_iff (m n : Msg) : m.same n = true ↔ m = n := by
  obtain ⟨a, b, c, d⟩ := m
  obtain ⟨a', b', c', d'⟩ := n
  simp [Msg.same]
theorem Msg.same_self (m : Msg) : m.same m = true := (Msg.same_iff m m).2 rfl

set_option maxRecDepth 50000 in
theorem msg_run (m n : Msg) (w : World) (k : Nat) : (Op.equalIn (k + 2) 29 m.v n.v).run Try.prog w = .ok (m.same n) w := by
  have hf : (Try.prog.fieldsOf 29).toList.map (fun f => (f.name, f.type, f.offset)) = [("From", 3, 0), ("To", 3, 1), ("Kind", 3, 2), ("Body", 9, 3)] := by kernel_rfl
  have hp : Try.prog.plainKey 3 = true := by kernel_rfl
  have hq : Try.prog.plainKey 9 = true := by kernel_rfl
  unfold Msg.v
  rw [run_equalIn_struct w (k + 1) 29 _ _ (by kernel_rfl) (by kernel_rfl)]
  generalize (Try.prog.fieldsOf 29).toList = fs at hf
  match fs, hf with
  | [], hf => simp at hf
  | [_], hf => simp at hf
  | [_, _], hf => simp at hf
  | [_, _, _], hf => simp at hf
  | _ :: _ :: _ :: _ :: _ :: _, hf => simp at hf
  | [f0, f1, f2, f3], hf =>
    simp only [List.map_cons, List.map_nil, List.cons.injEq, Prod.mk.injEq, and_true] at hf
    obtain ⟨⟨a1, a2, a3⟩, ⟨b1, b2, b3⟩, ⟨c1, c2, c3⟩, d1, d2, d3⟩ := hf
    have p0 : ∀ m : Msg, (part f0.type #[.int .i64 m.frm, .int .i64 m.to, .int .i64 m.kind, .string m.body] f0.offset).run Try.prog w = .ok (.int .i64 m.frm) w := fun m => by rw [a2, a3]; exact run_part_plain w hp rfl
    have p1 : ∀ m : Msg, (part f1.type #[.int .i64 m.frm, .int .i64 m.to, .int .i64 m.kind, .string m.body] f1.offset).run Try.prog w = .ok (.int .i64 m.to) w := fun m => by rw [b2, b3]; exact run_part_plain w hp rfl
    have p2 : ∀ m : Msg, (part f2.type #[.int .i64 m.frm, .int .i64 m.to, .int .i64 m.kind, .string m.body] f2.offset).run Try.prog w = .ok (.int .i64 m.kind) w := fun m => by rw [c2, c3]; exact run_part_plain w hp rfl
    have p3 : ∀ m : Msg, (part f3.type #[.int .i64 m.frm, .int .i64 m.to, .int .i64 m.kind, .string m.body] f3.offset).run Try.prog w = .ok (.string m.body) w := fun m => by rw [d2, d3]; exact run_part_plain w hq rfl
    have e0 : ∀ x y : Int, (Op.equalIn (k + 1) f0.type (.int .i64 x) (.int .i64 y)).run Try.prog w = .ok (x == y) w := fun x y => by rw [a2]; exact run_equalIn_int w k 3 .i64 .i64 x y Try.underlying3
    have e1 : ∀ x y : Int, (Op.equalIn (k + 1) f1.type (.int .i64 x) (.int .i64 y)).run Try.prog w = .ok (x == y) w := fun x y => by rw [b2]; exact run_equalIn_int w k 3 .i64 .i64 x y Try.underlying3
    have e2 : ∀ x y : Int, (Op.equalIn (k + 1) f2.type (.int .i64 x) (.int .i64 y)).run Try.prog w = .ok (x == y) w := fun x y => by rw [c2]; exact run_equalIn_int w k 3 .i64 .i64 x y Try.underlying3
    have e3 : ∀ x y : ByteArray, (Op.equalIn (k + 1) f3.type (.string x) (.string y)).run Try.prog w = .ok (decide (x = y)) w := fun x y => by rw [d2, run_equalIn_string w k 9 x y Try.underlying9, chars_eq]
    simp only [Op.eqFields, a1, b1, c1, d1, ne_eq, Sem.run_bind, p0, p1, p2, p3, e0, e1, e2, e3, Result.andThen_ok]
    unfold Msg.same
    cases h0 : (m.frm == n.frm) <;> cases h1 : (m.to == n.to) <;> cases h2 : (m.kind == n.kind) <;> cases h3 : decide (m.body = n.body) <;> simp [p0, p1, p2, p3, e0, e1, e2, e3, h0, h1, h2, h3]

theorem msg_neq (m n : Msg) (w : World) : (binOp .neq 29 m.v n.v).run Try.prog w = .ok (.bool (!m.same n)) w := by
  have := msg_run m n w 9998
  unfold Msg.v at this ⊢
  rw [run_neq_struct, show (10000 : Nat) = 9998 + 2 from rfl, this]
  rfl

/-- Rows of structs, as an argument. -/
structure RowsAt (size : Nat) (W : World) (a : Option Addr) (l : List (List Value)) : Prop where
  cell : ∀ (i : Nat) (r : List Value), l[i]? = some r → ∃ b o, a = some ⟨b, o, none⟩ ∧ b < W.heap.size ∧ ∀ (j : Nat) (u : Value), r[j]? = some u → W.cell? ⟨b, o + i * size + j, none⟩ = some u
theorem RowsAt.mod0 {size : Nat} {W W' : World} {a : Option Addr} {l : List (List Value)} (h : RowsAt size W a l) (m : Mod [] W W') : RowsAt size W' a l :=
  ⟨fun i r hi => by
    obtain ⟨b, o, e, hb, hc⟩ := h.cell i r hi
    exact ⟨b, o, e, Nat.lt_of_lt_of_le hb m.size, fun j u hu => m.cell (hc j u hu) (by simp)⟩⟩

theorem open_rows {α H : Type} {P : Program} {enc : TypeId × Value → H} {ts te : TypeId} (cells : α → List Value) (size : Nat) (hpos : 0 < size) (hlen : ∀ x, (cells x).length = size) (ht : P.underlying ts = some (.slice te)) (hc : P.cellsOf te = size) {W : World}
    (opener : ∀ {n : Nat} {cs : List Value} {x : DataW H × List MemPlace}, DataW.trod enc P W 0 (fun _ => true) true n te cs = some x → ∃ m : α, ∀ (j : Nat) (u : Value), (cells m)[j]? = some u → cs[j]? = some u)
    {r : _root_.Go.Reach} {base : Nat} {v : Value} {d : DataW H} {p : List MemPlace} (hv : Value.okWide P W r base ts v) (h : DataW.Trod enc P W 0 (fun _ => true) true ts v d p) :
    ∃ (a : Option Addr) (l : List α) (c : Nat), v = .slice a l.length c ∧ l.length ≤ maxLen ∧ RowsAt size W a (l.map cells) := by
  obtain ⟨a0, len, cap, rfl⟩ := okWide_slice ht hv
  obtain ⟨fuel, hf⟩ := h
  rcases Deep.open_slice ht hf with ⟨h0, _⟩ | ⟨a, len', cap', m, n, D, Pl, h0, _, hl, hm, hmm, _, hx⟩
  · simp [Value.cells] at h0
    obtain ⟨rfl, rfl, rfl⟩ := h0
    exact ⟨none, [], 0, rfl, by simp, ⟨fun i m hi => by simp at hi⟩⟩
  · simp [Value.cells] at h0
    obtain ⟨rfl, rfl, rfl⟩ := h0
    simp only [if_true] at hmm
    subst hmm
    by_cases hz : len = 0
    · subst hz
      exact ⟨some a, [], m, rfl, by simp, ⟨fun i m hi => by simp at hi⟩⟩
    have hx0 := hx 0 (by omega)
    obtain ⟨cs0, _, ht0⟩ := hx0
    obtain ⟨m0, _⟩ := opener ht0
    have : Inhabited α := ⟨m0⟩
    obtain ⟨f, hfm⟩ := Deep.choose_lt (α := α) (n := len) (p := fun i mv => ∀ (j : Nat) (u : Value), (cells mv)[j]? = some u → W.cell? ((a.add (i * size)).add j) = some u) (fun i hi => by
      obtain ⟨cs, hcs, ht⟩ := hx i (by omega)
      rw [hc] at hcs
      obtain ⟨mv, hmv⟩ := opener ht
      refine ⟨mv, fun j u hu => ?_⟩
      have hj : j < size := by have := (List.getElem?_eq_some_iff.1 hu).1; rwa [hlen] at this
      rw [(World.cells?_some hcs).2.2 j hj]
      exact hmv j u hu)
    refine ⟨some a, (List.range len).map f, m, by simp, by simp; omega, ⟨fun i r hi => ?_⟩⟩
    have hil : i < len := by have := (List.getElem?_eq_some_iff.1 hi).1; simpa using this
    have hif : r = cells (f i) := by
      rw [List.getElem?_map, List.getElem?_map, List.getElem?_range hil] at hi
      simpa using hi.symm
    subst hif
    obtain ⟨u0, hu0⟩ : ∃ u, (cells (f 0))[0]? = some u := ⟨_, List.getElem?_eq_getElem (by rw [hlen]; exact hpos)⟩
    have h00 := hfm 0 (by omega) 0 _ hu0
    have ha : a = ⟨a.block, a.off, none⟩ := by
      have e : (a.add (0 * size)).add 0 = a := by simp [Addr.add]
      rw [e] at h00
      exact add_form h00
    refine ⟨a.block, a.off, by rw [← ha], ?_, fun j u hu => ?_⟩
    · have e : (a.add (0 * size)).add 0 = a := by simp [Addr.add]
      rw [e] at h00
      exact World.block_lt_of_cell? W _ h00
    · have := hfm i hil j u hu
      rw [ha, Addr.add_lit, Addr.add_lit] at this
      exact this

def Msg.cells (m : Msg) : List Value := [.int .i64 m.frm, .int .i64 m.to, .int .i64 m.kind, .string m.body]
/-- A message whose text is no longer than a text may be. -/
abbrev MsgW := { m : Msg // m.body.size ≤ maxLen }
set_option maxRecDepth 100000 in
theorem open_msgc {H : Type} {enc : TypeId × Value → H} {W : World} {n : Nat} {cs : List Value} {x : DataW H × List MemPlace} (h : DataW.trod enc Try.prog W 0 (fun _ => true) true n 29 cs = some x) : ∃ m : MsgW, ∀ (j : Nat) (u : Value), (Msg.cells m.1)[j]? = some u → cs[j]? = some u := by
  have F := open_field (P := Try.prog) Try.underlying29 (by kernel_rfl) (by kernel_rfl) h
  obtain ⟨v0, y0, n0, c0, t0⟩ := F 0 _ rfl
  obtain ⟨v1, y1, n1, c1, t1⟩ := F 1 _ rfl
  obtain ⟨v2, y2, n2, c2, t2⟩ := F 2 _ rfl
  obtain ⟨v3, y3, n3, c3, t3⟩ := F 3 _ rfl
  obtain ⟨k0, e0, -, -⟩ := DataW.trod_int (P := Try.prog) Try.underlying3 t0
  obtain ⟨k1, e1, -, -⟩ := DataW.trod_int (P := Try.prog) Try.underlying3 t1
  obtain ⟨k2, e2, -, -⟩ := DataW.trod_int (P := Try.prog) Try.underlying3 t2
  obtain ⟨s3, e3, -, hs⟩ := DataW.trod_string (P := Try.prog) Try.underlying9 t3
  cases e0; cases e1; cases e2; cases e3
  refine ⟨⟨⟨k0, k1, k2, s3⟩, hs⟩, fun j u hu => ?_⟩
  match j, hu with
  | 0, hu => cases hu; exact c0
  | 1, hu => cases hu; exact c1
  | 2, hu => cases hu; exact c2
  | 3, hu => cases hu; exact c3
  | j + 4, hu => simp [Msg.cells] at hu

/-- An act. -/
structure ActS where
  do_ : Int
  n : Int
  too : Int
  on : Bool
  m : Msg
  small : m.body.size ≤ maxLen
def ActS.cells (a : ActS) : List Value := [.int .i64 a.do_, .int .i64 a.n, .int .i64 a.too, .bool a.on] ++ a.m.cells
set_option maxRecDepth 100000 in
theorem open_act {H : Type} {enc : TypeId × Value → H} {W : World} {n : Nat} {cs : List Value} {x : DataW H × List MemPlace} (h : DataW.trod enc Try.prog W 0 (fun _ => true) true n 42 cs = some x) : ∃ m : ActS, ∀ (j : Nat) (u : Value), m.cells[j]? = some u → cs[j]? = some u := by
  obtain ⟨xs, n, _, rfl, hl, hlen, hx⟩ := DataW.trod_struct Try.underlying42 h
  have hC : Try.prog.cellsOf 42 = 8 := by kernel_rfl
  have h1 : Try.prog.cellsOf 3 = 1 := by kernel_rfl
  have h2 : Try.prog.cellsOf 4 = 1 := by kernel_rfl
  have h4 : Try.prog.cellsOf 29 = 4 := by kernel_rfl
  rw [hC] at hl
  match cs, hl with
  | [x0, x1, x2, x3, x4, x5, x6, x7], _ =>
    have hxl : xs.length = 5 := hlen
    match xs, hxl with
    | [y0, y1, y2, y3, y4], _ =>
      have t0 : DataW.trod enc Try.prog W 0 (fun _ => true) true n 3 (([x0, x1, x2, x3, x4, x5, x6, x7].drop 0).take (Try.prog.cellsOf 3)) = some y0 := hx 0 _ rfl
      rw [h1] at t0
      have t1 : DataW.trod enc Try.prog W 0 (fun _ => true) true n 3 (([x0, x1, x2, x3, x4, x5, x6, x7].drop 1).take (Try.prog.cellsOf 3)) = some y1 := hx 1 _ rfl
      rw [h1] at t1
      have t2 : DataW.trod enc Try.prog W 0 (fun _ => true) true n 3 (([x0, x1, x2, x3, x4, x5, x6, x7].drop 2).take (Try.prog.cellsOf 3)) = some y2 := hx 2 _ rfl
      rw [h1] at t2
      have t3 : DataW.trod enc Try.prog W 0 (fun _ => true) true n 4 (([x0, x1, x2, x3, x4, x5, x6, x7].drop 3).take (Try.prog.cellsOf 4)) = some y3 := hx 3 _ rfl
      rw [h2] at t3
      have t4 : DataW.trod enc Try.prog W 0 (fun _ => true) true n 29 (([x0, x1, x2, x3, x4, x5, x6, x7].drop 4).take (Try.prog.cellsOf 29)) = some y4 := hx 4 _ rfl
      rw [h4] at t4
      obtain ⟨k0, e0, -, -⟩ := DataW.trod_int (P := Try.prog) Try.underlying3 t0
      obtain ⟨k1, e1, -, -⟩ := DataW.trod_int (P := Try.prog) Try.underlying3 t1
      obtain ⟨k2, e2, -, -⟩ := DataW.trod_int (P := Try.prog) Try.underlying3 t2
      obtain ⟨k3, e3, -⟩ := DataW.trod_bool (P := Try.prog) Try.underlying4 t3
      obtain ⟨m, hm⟩ := open_msgc t4
      simp at e0 e1 e2 e3
      subst e0; subst e1; subst e2; subst e3
      refine ⟨⟨k0, k1, k2, k3, m.1, m.2⟩, fun j u hu => ?_⟩
      match j, hu with
      | 0, hu => cases hu; rfl
      | 1, hu => cases hu; rfl
      | 2, hu => cases hu; rfl
      | 3, hu => cases hu; rfl
      | j + 4, hu => exact hm j u hu

set_option maxRecDepth 100000 in
theorem open_msgs {H : Type} {enc : TypeId × Value → H} {W : World} {r : _root_.Go.Reach} {base : Nat} {v : Value} {d : DataW H} {p : List MemPlace} (hv : Value.okWide Try.prog W r base 22 v) (h : DataW.Trod enc Try.prog W 0 (fun _ => true) true 22 v d p) :
    ∃ (a : Option Addr) (l : List MsgW) (c : Nat), v = .slice a l.length c ∧ l.length ≤ maxLen ∧ RowsAt 4 W a (l.map fun m => m.1.cells) :=
  open_rows (fun m : MsgW => m.1.cells) 4 (by decide) (fun _ => rfl) Try.underlying22 (by kernel_rfl) open_msgc hv h
set_option maxRecDepth 100000 in
theorem open_acts {H : Type} {enc : TypeId × Value → H} {W : World} {r : _root_.Go.Reach} {base : Nat} {v : Value} {d : DataW H} {p : List MemPlace} (hv : Value.okWide Try.prog W r base 40 v) (h : DataW.Trod enc Try.prog W 0 (fun _ => true) true 40 v d p) :
    ∃ (a : Option Addr) (l : List ActS) (c : Nat), v = .slice a l.length c ∧ l.length ≤ maxLen ∧ RowsAt 8 W a (l.map ActS.cells) :=
  open_rows ActS.cells 8 (by decide) (fun _ => rfl) Try.underlying40 (by kernel_rfl) open_act hv h
end Go.Proofs.Ytbjgjagbepopfaa
