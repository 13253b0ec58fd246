/-
  The reference's Make; plain, SameInts, a reference's message held against one, walked. No statement of a claim stands here; each contract names what it asks.
-/
import Derived.Test.YtbjgjagbepopfaaM8
set_option linter.unusedSimpArgs false
namespace Go.Proofs.Ytbjgjagbepopfaa
open Go Go.RowKit Go.ChangeMaps

set_option maxRecDepth 50000 in
theorem rmsg_run (m n : Msg) (w : World) (k : Nat) : (Op.equalIn (k + 2) 53 m.v n.v).run Try.prog w = .ok (m.same n) w := by
  have hf : (Try.prog.fieldsOf 53).toList.map (fun f => (f.name, f.type, f.offset)) = [("From", 3, 0), ("To", 3, 1), ("Kind", 3, 2), ("Body", 9, 3)] := by kernel_rfl
  have hp : Try.prog.plainKey 3 = true := by kernel_rfl
  have hq : Try.prog.plainKey 9 = true := by kernel_rfl
  unfold Msg.v
  rw [run_equalIn_struct w (k + 1) 53 _ _ (by kernel_rfl) (by kernel_rfl)]
  generalize (Try.prog.fieldsOf 53).toList = fs at hf
  match fs, hf with
  | [], hf => simp at hf
  | [_], hf => simp at hf
  | [_, _], hf => simp at hf
  | [_, _, _], hf => simp at hf
  | _ :: _ :: _ :: _ :: _ :: _, hf => simp at hf
  | [f0, f1, f2, f3], hf =>
    simp only [List.map_cons, List.map_nil, List.cons.injEq, Prod.mk.injEq, and_true] at hf
    obtain ⟨⟨a1, a2, a3⟩, ⟨b1, b2, b3⟩, ⟨c1, c2, c3⟩, d1, d2, d3⟩ := hf
    have p0 : ∀ m : Msg, (part f0.type #[.int .i64 m.frm, .int .i64 m.to, .int .i64 m.kind, .string m.body] f0.offset).run Try.prog w = .ok (.int .i64 m.frm) w := fun m => by rw [a2, a3]; exact run_part_plain w hp rfl
    have p1 : ∀ m : Msg, (part f1.type #[.int .i64 m.frm, .int .i64 m.to, .int .i64 m.kind, .string m.body] f1.offset).run Try.prog w = .ok (.int .i64 m.to) w := fun m => by rw [b2, b3]; exact run_part_plain w hp rfl
    have p2 : ∀ m : Msg, (part f2.type #[.int .i64 m.frm, .int .i64 m.to, .int .i64 m.kind, .string m.body] f2.offset).run Try.prog w = .ok (.int .i64 m.kind) w := fun m => by rw [c2, c3]; exact run_part_plain w hp rfl
    have p3 : ∀ m : Msg, (part f3.type #[.int .i64 m.frm, .int .i64 m.to, .int .i64 m.kind, .string m.body] f3.offset).run Try.prog w = .ok (.string m.body) w := fun m => by rw [d2, d3]; exact run_part_plain w hq rfl
    have e0 : ∀ x y : Int, (Op.equalIn (k + 1) f0.type (.int .i64 x) (.int .i64 y)).run Try.prog w = .ok (x == y) w := fun x y => by rw [a2]; exact run_equalIn_int w k 3 .i64 .i64 x y Try.underlying3
    have e1 : ∀ x y : Int, (Op.equalIn (k + 1) f1.type (.int .i64 x) (.int .i64 y)).run Try.prog w = .ok (x == y) w := fun x y => by rw [b2]; exact run_equalIn_int w k 3 .i64 .i64 x y Try.underlying3
    have e2 : ∀ x y : Int, (Op.equalIn (k + 1) f2.type (.int .i64 x) (.int .i64 y)).run Try.prog w = .ok (x == y) w := fun x y => by rw [c2]; exact run_equalIn_int w k 3 .i64 .i64 x y Try.underlying3
    have e3 : ∀ x y : ByteArray, (Op.equalIn (k + 1) f3.type (.string x) (.string y)).run Try.prog w = .ok (decide (x = y)) w := fun x y => by rw [d2, run_equalIn_string w k 9 x y Try.underlying9, chars_eq]
    simp only [Op.eqFields, a1, b1, c1, d1, ne_eq, Sem.run_bind, p0, p1, p2, p3, e0, e1, e2, e3, Result.andThen_ok]
    unfold Msg.same
    cases h0 : (m.frm == n.frm) <;> cases h1 : (m.to == n.to) <;> cases h2 : (m.kind == n.kind) <;> cases h3 : decide (m.body = n.body) <;> simp [p0, p1, p2, p3, e0, e1, e2, e3, h0, h1, h2, h3]

/-- A message is the same as itself: as the walk asks it. -/
theorem rmsg_same (m : Msg) (w : World) : (Op.equalIn 10000 53 (.agg #[.int .i64 m.frm, .int .i64 m.to, .int .i64 m.kind, .string m.body]) (.agg #[.int .i64 m.frm, .int .i64 m.to, .int .i64 m.kind, .string m.body])).run Try.prog w = .ok true w := by
  have := rmsg_run m m w 9998
  rw [Msg.same_self] at this
  exact this

set_option maxRecDepth 20000 in
set_option maxHeartbeats 1000000 in
theorem plain_any (w : World) (m : Msg) :
    Calls Try.prog 24 #[.agg #[.int .i64 m.frm, .int .i64 m.to, .int .i64 m.kind, .string m.body]] w fun e w' => e = .returned (.agg #[.int .i64 m.frm, .int .i64 m.to, .int .i64 m.kind, .string m.body]) ∧ Mod [] w w' := by
  have hg := get_new w (msgObj m)
  have hmd := (Mod.refl [] w).alloc (msgObj m)
  have hg2 := get_alloc hg rzeroObj
  have hz2 := get_new (w.alloc (msgObj m)) rzeroObj
  have hm2 := hmd.alloc rzeroObj
  rw [show (w.alloc (msgObj m)).heap.size = w.heap.size + 1 from by simp] at hz2
  have HM := hid (And.intro hm2 (And.intro hg2 hz2))
  clear hg hmd hg2 hz2 hm2
  go_enter Try.func24, Try.ntmps24
  go_upto_region 1 with fail
  generalize ((w.alloc (msgObj m)).alloc rzeroObj) = W3 at *
  generalize hgg : w.heap.size = g at *
  have HGG := hid hgg
  clear hgg
  have g0 := cell_at HM.out.2.1 0
  have g1 := cell_at HM.out.2.1 1
  have g2 := cell_at HM.out.2.1 2
  have g3 := cell_at HM.out.2.1 3
  have z0 := cell_at HM.out.2.2 0
  have z1 := cell_at HM.out.2.2 1
  have z2 := cell_at HM.out.2.2 2
  have z3 := cell_at HM.out.2.2 3
  have f0 := free_at HM.out.2.2 0
  have f1 := free_at HM.out.2.2 1
  have f2 := free_at HM.out.2.2 2
  have f3 := free_at HM.out.2.2 3
  go_wp2_with fail
  have hq := set4 HM.out.2.2 (.int .i64 m.frm) (.int .i64 m.to) (.int .i64 m.kind) (.string m.body)
  have hmm := mod4 HM.out.1 (b := g + 1) (.inr (by have := HGG.out; omega)) (.int .i64 m.frm) (.int .i64 m.to) (.int .i64 m.kind) (.string m.body)
  generalize ((((W3.setCell ⟨g + 1, 0, none⟩ (.int .i64 m.frm)).setCell ⟨g + 1, 1, none⟩ (.int .i64 m.to)).setCell ⟨g + 1, 2, none⟩ (.int .i64 m.kind)).setCell ⟨g + 1, 3, none⟩ (.string m.body)) = W6 at *
  have q0 := cell_at hq 0
  have q1 := cell_at hq 1
  have q2 := cell_at hq 2
  have q3 := cell_at hq 3
  refine bodyPost_ret (v := .agg #[.int .i64 m.frm, .int .i64 m.to, .int .i64 m.kind, .string m.body]) (by simp [results, Try.results24, go_sem, q0, q1, q2, q3]) rfl ⟨rfl, hmm⟩

set_option maxRecDepth 20000 in
set_option maxHeartbeats 1000000 in
theorem same_any (w : World) (B B' : Nat) (v v' : Value) (l : List Int) (h : IntsAt B w v l) (h' : IntsAt B' w v' l) (hl : l.length ≤ 5000) :
    Calls Try.prog 32 #[v, v'] w fun e w' => e = .returned (.bool true) ∧ ∃ m, w' = w.drewN m := by
  obtain ⟨a0, c0, rfl⟩ := row_slice h.row
  obtain ⟨a1, c1, rfl⟩ := row_slice h'.row
  have H := hid (And.intro h h')
  clear h h'
  go_enter Try.func32, Try.ntmps32
  go_wp2_with fail
  go_loopg [5] l.length (fun gk i W' => ∃ (j : Nat), i = nat j ∧ gk + j = l.length ∧ ∃ m, W' = w.drewN m)
  case atStart => exact ⟨0, rfl, by omega, 0, rfl⟩
  case round =>
    obtain ⟨j, rfl, hj, m, rfl⟩ := hrel
    by_cases hjn : j < l.length
    · obtain ⟨x, hx⟩ : ∃ x, l[j]? = some x := ⟨_, List.getElem?_eq_getElem hjn⟩
      obtain ⟨g, c', e0, hcells⟩ := row_pos H.out.1.row (by omega)
      cases e0
      obtain ⟨g', c'', e0, hcells'⟩ := row_pos H.out.2.row (by omega)
      cases e0
      have x0 := hcells j (.int .i64 x) (by simp [intCells, hx])
      have x1 := hcells' j (.int .i64 x) (by simp [intCells, hx])
      have j0 : (0 : Int) ≤ (j : Int) := Int.natCast_nonneg _
      have j1 : (j : Int) < (l.length : Int) := by omega
      clear hcells hcells' hx
      go_upto_region 6 with fail
      go_quiet (fail)
      go_wp2_with fail
      go_roundg (gk - 1)
      case measure => omega
      case rel => exact ⟨j + 1, by go_num, by omega, m + nq, by first | rfl | rw [World.drewN_drewN]⟩
    · have j1 : ¬ (j : Int) < (l.length : Int) := by omega
      go_wp2_with fail
      go_ret
      exact ⟨rfl, m, rfl⟩

set_option maxRecDepth 50000 in
set_option maxHeartbeats 1000000 in
theorem rmake_yes (B : Nat) (parties room : Int) (w : World) (hB : B ≤ w.heap.size) (h1 : 1 ≤ parties) (h2 : parties ≤ 64) (h3 : 1 ≤ room) (h4 : room ≤ 4096) :
    Calls Try.prog 22 #[.int .i64 parties, .int .i64 room] w fun e w' => ∃ y : Nat, e = .returned (.tuple #[.pointer (some ⟨y, 0, none⟩), .int .i64 0]) ∧ RefAt B w' y 0 (newNet parties room) ∧ Mod [] w w' := by
  have d1 : decide (parties < 1) = false := by simp; omega
  have d2 : decide (64 < parties) = false := by simp; omega
  have d3 : decide (room < 1) = false := by simp; omega
  have d4 : decide (4096 < room) = false := by simp; omega
  clear h1 h2 h3 h4
  go_enter Try.func22, Try.ntmps22
  go_wp2_with fail
  go_ret2
  have hz : Try.zeroCells61 = (refHead (newNet 0 0) (.slice none 0 0) (.slice none 0 0) ++ List.replicate 65 (Value.bool false)).toArray := by kernel_rfl
  have e : (Try.zeroCells61.setIfInBounds 0 (.int .i64 parties)).setIfInBounds 1 (.int .i64 room) = (refHead (newNet parties room) (.slice none 0 0) (.slice none 0 0) ++ List.replicate 65 (Value.bool false)).toArray := by
    rw [hz, List.setIfInBounds_toArray, List.setIfInBounds_toArray]
    rfl
  rw [e]
  refine ⟨w.heap.size, rfl, ⟨.slice none 0 0, .slice none 0 0, [], List.replicate 65 (Value.bool false), ⟨get_new w _, VecAt.nil, VecAt.nil, ?_, by simp, ?_, hB⟩, by simp⟩, (Mod.refl _ _).alloc _⟩
  · intro k
    simp [NetS.cut, newNet, look_nil]
  · intro k h1 h2
    rw [List.getElem?_replicate, if_pos (by omega)]
    rfl

theorem rmake_no (parties room : Int) (w : World) (h : ¬ (1 ≤ parties ∧ parties ≤ 64 ∧ 1 ≤ room ∧ room ≤ 4096)) :
    Calls Try.prog 22 #[.int .i64 parties, .int .i64 room] w fun e w' => e = .returned (.tuple #[.pointer none, .int .i64 2]) ∧ w' = w := by
  have hd : (decide (parties < 1) || decide (64 < parties) || decide (room < 1) || decide (4096 < room)) = true := by
    simp only [Bool.or_eq_true, decide_eq_true_eq]; omega
  clear h
  revert hd
  generalize hb1 : decide (parties < 1) = b1
  generalize hb2 : decide (64 < parties) = b2
  generalize hb3 : decide (room < 1) = b3
  generalize hb4 : decide (4096 < room) = b4
  intro hd
  cases b1 <;> cases b2 <;> cases b3 <;> cases b4 <;> first
    | (exact absurd hd (by decide))
    | (clear hd
       go_enter Try.func22, Try.ntmps22
       go_wp2_with fail
       go_ret2
       exact ⟨rfl, rfl⟩)
end Go.Proofs.Ytbjgjagbepopfaa
