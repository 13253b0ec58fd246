/-
  A net in memory: its cells, its maps, their keys. No statement of a claim stands here; each lemma names what it asks.
-/
import Derived.Test.YtbjgjagbepopfaaN1
import Derived.Test.YtbjgjagbepopfaaRows
import Derived.Test.YtbjgjagbepopfaaReg
import Derived.Laws.StructEq
import Derived.ChangeKeysEq
import Derived.Deep.QuietTactic
import Derived.BigQuiet
import Derived.Deep.LoopGhost
import Derived.Deep.RegionHeld3
import Derived.Deep.DeepCutAuto
import Derived.Laws.IdiomRangeMap
set_option linter.unusedSimpArgs false
namespace Go.Proofs.Ytbjgjagbepopfaa
open Go Go.RowKit Go.ChangeMaps

def seatV (k : Seat) : Value := .agg #[.int .i64 k.1, .int .i64 k.2]

set_option maxRecDepth 50000 in
theorem seat_run (a b c d : Int) (w : World) (n : Nat) : (Op.equalIn (n + 2) 79 (.agg #[.int .i64 a, .int .i64 b]) (.agg #[.int .i64 c, .int .i64 d])).run Try.prog w = .ok (if (a == c) = true then (if (b == d) = true then true else false) else false) w := by
  have hf : (Try.prog.fieldsOf 79).toList.map (fun f => (f.name, f.type, f.offset)) = [("from", 3, 0), ("to", 3, 1)] := by kernel_rfl
  rw [run_equalIn_struct w (n + 1) 79 _ _ (by kernel_rfl) (by kernel_rfl)]
  generalize (Try.prog.fieldsOf 79).toList = fs at hf
  match fs, hf with
  | [], hf => simp at hf
  | [_], hf => simp at hf
  | [f, g], hf =>
    simp only [List.map_cons, List.map_nil, List.cons.injEq, Prod.mk.injEq, and_true] at hf
    obtain ⟨⟨f1, f2, f3⟩, g1, g2, g3⟩ := hf
    have hp : Try.prog.plainKey 3 = true := by kernel_rfl
    have p1 : ∀ x y : Int, (part f.type #[.int .i64 x, .int .i64 y] f.offset).run Try.prog w = .ok (.int .i64 x) w := fun x y => by
      rw [f2, f3]; exact run_part_plain w hp rfl
    have p2 : ∀ x y : Int, (part g.type #[.int .i64 x, .int .i64 y] g.offset).run Try.prog w = .ok (.int .i64 y) w := fun x y => by
      rw [g2, g3]; exact run_part_plain w hp rfl
    have e1 : ∀ x y : Int, (Op.equalIn (n + 1) f.type (.int .i64 x) (.int .i64 y)).run Try.prog w = .ok (x == y) w := fun x y => by
      rw [f2]; exact run_equalIn_int w n 3 .i64 .i64 x y Try.underlying3
    have e2 : ∀ x y : Int, (Op.equalIn (n + 1) g.type (.int .i64 x) (.int .i64 y)).run Try.prog w = .ok (x == y) w := fun x y => by
      rw [g2]; exact run_equalIn_int w n 3 .i64 .i64 x y Try.underlying3
    simp only [Op.eqFields, f1, g1, ne_eq, Sem.run_bind, p1, p2, e1, e2, Result.andThen_ok]
    cases h1 : (a == c) <;> cases h2 : (b == d) <;> simp [p1, p2, e1, e2, h1, h2]
  | _ :: _ :: _ :: _, hf => simp at hf

theorem seat_eq (k k' : Seat) (w : World) : (Op.equal 79 (seatV k) (seatV k')).run Try.prog w = .ok (decide (k = k')) w := by
  obtain ⟨a, b⟩ := k
  obtain ⟨c, d⟩ := k'
  have := seat_run a b c d w 9998
  unfold Op.equal seatV
  rw [show Op.maxDepth = 9998 + 2 from rfl, this]
  refine congrArg (fun r => Result.ok r w) ?_
  by_cases h1 : a = c <;> by_cases h2 : b = d <;> simp [h1, h2]

set_option maxRecDepth 50000 in
theorem seat_check_n (e : Bool) (k : Seat) (w : World) (n : Nat) : (Instr.checkKey e (n + 2) 79 (seatV k)).run Try.prog w = .ok () w := by
  have hf : (Try.prog.fieldsOf 79).toList.map (fun f => (f.name, f.type, f.offset)) = [("from", 3, 0), ("to", 3, 1)] := by kernel_rfl
  have hu : Try.prog.underlying 79 = some (.struct (Try.prog.fieldsOf 79)) := by kernel_rfl
  have hc : ∀ x : Int, (Instr.checkKey e (n + 1) 3 (.int .i64 x)).run Try.prog w = .ok () w := fun x => by simp [Instr.checkKey, run_underlying Try.underlying3]
  have hp : Try.prog.plainKey 3 = true := by kernel_rfl
  show (Instr.checkKey e ((n + 1) + 1) 79 (.agg #[.int .i64 k.1, .int .i64 k.2])).run Try.prog w = .ok () w
  rw [Instr.checkKey]
  simp only [Sem.run_bind, run_underlying hu, Result.andThen_ok]
  rw [← Array.forIn_toList]
  generalize (Try.prog.fieldsOf 79).toList = fs at hf
  match fs, hf with
  | [], hf => simp at hf
  | [_], hf => simp at hf
  | [f, g], hf =>
    simp only [List.map_cons, List.map_nil, List.cons.injEq, Prod.mk.injEq, and_true] at hf
    obtain ⟨⟨f1, f2, f3⟩, g1, g2, g3⟩ := hf
    have p1 : (part f.type #[.int .i64 k.1, .int .i64 k.2] f.offset).run Try.prog w = .ok (.int .i64 k.1) w := by
      rw [f2, f3]; exact run_part_plain w hp rfl
    have p2 : (part g.type #[.int .i64 k.1, .int .i64 k.2] g.offset).run Try.prog w = .ok (.int .i64 k.2) w := by
      rw [g2, g3]; exact run_part_plain w hp rfl
    have c1 : (Instr.checkKey e (n + 1) f.type (.int .i64 k.1)).run Try.prog w = .ok () w := by rw [f2]; exact hc _
    have c2 : (Instr.checkKey e (n + 1) g.type (.int .i64 k.2)).run Try.prog w = .ok () w := by rw [g2]; exact hc _
    simp [List.forIn_cons, f1, g1, p1, p2, c1, c2]
  | _ :: _ :: _ :: _, hf => simp at hf

theorem seat_check (e : Bool) (k : Seat) (w : World) : (Instr.checkKey e 10000 79 (seatV k)).run Try.prog w = .ok () w := seat_check_n e k w 9998

theorem kSeat : KeyT Try.prog 79 Seat seatV where
  check := seat_check
  find es ks k w hk := by
    have hu : Try.prog.underlying 79 = some (.struct (Try.prog.fieldsOf 79)) := by kernel_rfl
    have hask := findAsking_eq (P := Try.prog) seatV 79 k (fun k' w => seat_eq k k' w) es ks 0 w hk
    simp only [Nat.zero_add] at hask
    unfold Instr.findKey
    simp only [Sem.run_bind, run_underlying hu, Result.andThen]
    cases es with
    | nil =>
      cases ks with
      | nil => rfl
      | cons _ _ => simp at hk
    | cons e es =>
      have : Instr.findNow (.struct (Try.prog.fieldsOf 79)) (seatV k) (e :: es) 0 = none := by
        simp [Instr.findNow, Instr.sameNow]
      rw [this]
      exact hask
  same k := by
    have : ∀ n, Instr.sameBits (n + 1) (seatV k) (seatV k) = true := fun n => by
      simp [Instr.sameBits, seatV]
    exact this 9999

section
variable {P : Program}
theorem look_op {o : Oper} {a : Act} {w : World} (t : TypeId) (m x : Operand) (ok : Bool) (hop : o.op = .lookup t m x ok) (v : Value) (hr : (Instr.lookup t (a.eval m) (a.eval x) ok).run P w = .ok v w) : (execOp a.eval o).run P w = .ok (.value v) w := by
  simp [execOp, hop, hr]
theorem wp_put_new' {α β : Type} [DecidableEq α] {f : α → Value} {g : β → Value} {kt : TypeId} (KT : KeyT P kt α f) {o : Oper} {a : Act} {w : World} {K : Act → World → Prop} {Q : Exit → Act → World → Prop} (m x v : Operand) (t et : TypeId) (hop : o.op = Op.mapUpdate t m x v) (ht : P.underlying t = some (.map kt et)) (b c : Nat) (l : List (α × β × Nat)) (k : α) (y : β)
    (hm : a.eval m = .map (some b)) (hx : a.eval x = f k) (hv : a.eval v = g y) (hb : w.heap[b]? = some (mapObj f g l c)) (hk : look l k = none)
    (h : ∀ w', w'.heap[b]? = some (mapObj f g (l ++ [(k, y, c)]) (c + 1)) → Mod [b] w w' → w'.heap.size = w.heap.size → K (a.put o.dst undef) w') : o.wp P a w K Q := by
  have hr := run_put_new KT ht hb k y hk
  unfold Oper.wp
  simp [execOp, hop, hm, hx, hv, hr, Result.andThen]
  exact h _ (get_setBlock_self hb _) ((Mod.refl _ _).setBlock (.inl (by simp)) _) (by simp [setBlock])
end

theorem kInt : KeyT Try.prog 3 Int (.int .i64) := KeyT.ofInt Try.underlying3
theorem zMsg (w : World) : (zeroValue 29).run Try.prog w = .ok Msg.zero.v w := by kernel_rfl
theorem zBool (w : World) : (zeroValue 4).run Try.prog w = .ok (.bool false) w := by kernel_rfl

abbrev wayObj (l : Way) (c : Nat) : Obj := mapObj (.int .i64) Msg.v l c
abbrev cutsObj (l : List (Seat × Bool × Nat)) (c : Nat) : Obj := mapObj seatV .bool l c
abbrev downsObj (l : List (Int × Bool × Nat)) (c : Nat) : Obj := mapObj (.int .i64) .bool l c

/-- Where a net lies. -/
structure Loc where
  x : Nat
  bw : Nat
  bc : Nat
  bd : Nat
def Loc.foot (p : Loc) : List Nat := [p.x, p.bw, p.bc, p.bd]
def netCells (p : Loc) (s : NetS) : Array Value := #[.int .i64 s.parties, .int .i64 s.room, .int .i64 s.last, .int .i64 s.sent, .int .i64 s.taken, .int .i64 s.lost, .map (some p.bw), .map (some p.bc), .map (some p.bd)]

structure NetAt (w : World) (p : Loc) (s : NetS) : Prop where
  cells : w.heap[p.x]? = some (.cells (netCells p s) 68 (0, 0))
  way : w.heap[p.bw]? = some (wayObj s.way s.cw)
  cuts : w.heap[p.bc]? = some (cutsObj s.cuts s.cc)
  downs : w.heap[p.bd]? = some (downsObj s.downs s.cd)
  wc : p.bw ≠ p.bc
  wd : p.bw ≠ p.bd
  cd : p.bc ≠ p.bd

theorem NetAt.xne {w : World} {p : Loc} {s : NetS} (h : NetAt w p s) : p.x ≠ p.bw ∧ p.x ≠ p.bc ∧ p.x ≠ p.bd := ⟨ne_map h.cells h.way, ne_map h.cells h.cuts, ne_map h.cells h.downs⟩
theorem NetAt.mod {w w' : World} {p : Loc} {s : NetS} {S : List Nat} (h : NetAt w p s) (m : Mod S w w') (hS : ∀ b ∈ p.foot, b ∉ S) : NetAt w' p s :=
  ⟨m.get h.cells (hS _ (by simp [Loc.foot])), m.get h.way (hS _ (by simp [Loc.foot])), m.get h.cuts (hS _ (by simp [Loc.foot])), m.get h.downs (hS _ (by simp [Loc.foot])), h.wc, h.wd, h.cd⟩
theorem NetAt.mod0 {w w' : World} {p : Loc} {s : NetS} (h : NetAt w p s) (m : Mod [] w w') : NetAt w' p s := h.mod m (by simp)
theorem NetAt.ne {w : World} {p : Loc} {s : NetS} (h : NetAt w p s) {b : Nat} {c : Array Value} {t : TypeId} {f : Nat × Nat} (hb : w.heap[b]? = some (.cells c t f)) (ht : t ≠ 68) : b ∉ p.foot := by
  simp only [Loc.foot, List.mem_cons, List.not_mem_nil, or_false, not_or]
  refine ⟨?_, ne_map hb h.way, ne_map hb h.cuts, ne_map hb h.downs⟩
  rintro rfl
  rw [h.cells] at hb
  cases hb
  exact ht rfl
theorem NetAt.all {w : World} {p : Loc} {s : NetS} (h : NetAt w p s) :
    w.cell? ⟨p.x, 0, none⟩ = some (.int .i64 s.parties) ∧ w.cell? ⟨p.x, 1, none⟩ = some (.int .i64 s.room) ∧ w.cell? ⟨p.x, 2, none⟩ = some (.int .i64 s.last) ∧ w.cell? ⟨p.x, 3, none⟩ = some (.int .i64 s.sent) ∧
    w.cell? ⟨p.x, 4, none⟩ = some (.int .i64 s.taken) ∧ w.cell? ⟨p.x, 5, none⟩ = some (.int .i64 s.lost) ∧ w.cell? ⟨p.x, 6, none⟩ = some (.map (some p.bw)) ∧ w.cell? ⟨p.x, 7, none⟩ = some (.map (some p.bc)) ∧
    w.cell? ⟨p.x, 8, none⟩ = some (.map (some p.bd)) ∧ (∀ i, w.frozen? ⟨p.x, i, none⟩ = false) := by
  simp only [cell_at h.cells, netCells]
  exact ⟨rfl, rfl, rfl, rfl, rfl, rfl, rfl, rfl, rfl, free_at h.cells⟩
theorem NetAt.lt {w : World} {p : Loc} {s : NetS} (h : NetAt w p s) : ∀ b ∈ p.foot, b < w.heap.size := by
  simp only [Loc.foot, List.mem_cons, List.not_mem_nil, or_false]
  rintro b (rfl | rfl | rfl | rfl)
  · exact lt_of_block h.cells
  · exact lt_of_block h.way
  · exact lt_of_block h.cuts
  · exact lt_of_block h.downs

/-- A number of it is set. -/
theorem NetAt.set {w : World} {p : Loc} {s : NetS} (h : NetAt w p s) (o : Nat) (u : Value) (s' : NetS) (hc : (netCells p s).setIfInBounds o u = netCells p s') (hw : s'.way = s.way ∧ s'.cw = s.cw) (hk : s'.cuts = s.cuts ∧ s'.cc = s.cc) (hd : s'.downs = s.downs ∧ s'.cd = s.cd) :
    NetAt (w.setCell ⟨p.x, o, none⟩ u) p s' := by
  have m : Mod [p.x] w (w.setCell ⟨p.x, o, none⟩ u) := (Mod.refl _ _).setCell (by simp) _
  refine ⟨by rw [← hc]; exact get_setCell_self h.cells o u, ?_, ?_, ?_, h.wc, h.wd, h.cd⟩
  · rw [hw.1, hw.2]; exact m.get h.way (by simpa using h.xne.1.symm)
  · rw [hk.1, hk.2]; exact m.get h.cuts (by simpa using h.xne.2.1.symm)
  · rw [hd.1, hd.2]; exact m.get h.downs (by simpa using h.xne.2.2.symm)

theorem cut_look (w : World) (b c : Nat) (l : List (Seat × Bool × Nat)) (k : Seat) (h : w.heap[b]? = some (cutsObj l c)) : (Instr.lookup 65 (.map (some b)) (seatV k) false).run Try.prog w = .ok (.bool ((look l k).getD false)) w := by
  cases hl : look l k with
  | some v => exact run_look_v kSeat Try.underlying65 h k hl
  | none => exact run_look_z kSeat Try.underlying65 (zBool _) h k hl
theorem down_look (w : World) (b c : Nat) (l : List (Int × Bool × Nat)) (k : Int) (h : w.heap[b]? = some (downsObj l c)) : (Instr.lookup 66 (.map (some b)) (.int .i64 k) false).run Try.prog w = .ok (.bool ((look l k).getD false)) w := by
  cases hl : look l k with
  | some v => exact run_look_v kInt Try.underlying66 h k hl
  | none => exact run_look_z kInt Try.underlying66 (zBool _) h k hl
def wayV (o : Option Msg) : Value := .tuple #[(o.getD Msg.zero).v, .bool o.isSome]
theorem way_look (w : World) (b c : Nat) (l : Way) (k : Int) (h : w.heap[b]? = some (wayObj l c)) : (Instr.lookup 64 (.map (some b)) (.int .i64 k) true).run Try.prog w = .ok (wayV (look l k)) w := by
  cases hl : look l k with
  | some v => exact run_look_ok kInt Try.underlying64 h k hl
  | none => exact run_look_no kInt Try.underlying64 (zMsg _) h k hl
theorem way_look1 (w : World) (b c : Nat) (l : Way) (k : Int) (h : w.heap[b]? = some (wayObj l c)) : (Instr.lookup 64 (.map (some b)) (.int .i64 k) false).run Try.prog w = .ok ((look l k).getD Msg.zero).v w := by
  cases hl : look l k with
  | some v => exact run_look_v kInt Try.underlying64 h k hl
  | none => exact run_look_z kInt Try.underlying64 (zMsg _) h k hl

set_option maxRecDepth 50000 in
theorem wmap_nil (w : World) : (binOp .neq 64 (.map none) (.map none)).run Try.prog w = Result.ok (.bool false) w := by first | rfl | kernel_rfl
set_option maxRecDepth 50000 in
theorem wmap_some (b : Nat) (w : World) : (binOp .neq 64 (.map (some b)) (.map none)).run Try.prog w = Result.ok (.bool true) w := by first | rfl | kernel_rfl

end Go.Proofs.Ytbjgjagbepopfaa
