/-
  An agreement's node: keys of its maps. No statement of a claim stands here; each lemma names what it asks.
-/
import Derived.Test.YtnpmjpdndhedgaaG0
import Derived.Test.YtnpmjpdndhedgaaRows
import Derived.Laws.StructEq
import Derived.ChangeKeysEq
set_option linter.unusedSimpArgs false
namespace Go.Proofs.Ytnpmjpdndhedgaa
open Go Go.RowKit Go.ChangeMaps

def seatV (k : Seat) : Value := .agg #[.int .i64 k.1, .int .i64 k.2]

theorem seat_run (a b c d : Int) (w : World) (n : Nat) : (Op.equalIn (n + 2) 81 (.agg #[.int .i64 a, .int .i64 b]) (.agg #[.int .i64 c, .int .i64 d])).run Try.prog w = .ok (if (a == c) = true then (if (b == d) = true then true else false) else false) w := by
  have hf : (Try.prog.fieldsOf 81).toList.map (fun f => (f.name, f.type, f.offset)) = [("kind", 3, 0), ("round", 3, 1)] := by kernel_rfl
  rw [run_equalIn_struct w (n + 1) 81 _ _ (by kernel_rfl) (by kernel_rfl)]
  generalize (Try.prog.fieldsOf 81).toList = fs at hf
  match fs, hf with
  | [], hf => simp at hf
  | [_], hf => simp at hf
  | [f, g], hf =>
    simp only [List.map_cons, List.map_nil, List.cons.injEq, Prod.mk.injEq, and_true] at hf
    obtain ⟨⟨f1, f2, f3⟩, g1, g2, g3⟩ := hf
    have hp : Try.prog.plainKey 3 = true := by kernel_rfl
    have p1 : ∀ x y : Int, (part f.type #[.int .i64 x, .int .i64 y] f.offset).run Try.prog w = .ok (.int .i64 x) w := fun x y => by
      rw [f2, f3]; exact run_part_plain w hp rfl
    have p2 : ∀ x y : Int, (part g.type #[.int .i64 x, .int .i64 y] g.offset).run Try.prog w = .ok (.int .i64 y) w := fun x y => by
      rw [g2, g3]; exact run_part_plain w hp rfl
    have e1 : ∀ x y : Int, (Op.equalIn (n + 1) f.type (.int .i64 x) (.int .i64 y)).run Try.prog w = .ok (x == y) w := fun x y => by
      rw [f2]; exact run_equalIn_int w n 3 .i64 .i64 x y Try.underlying3
    have e2 : ∀ x y : Int, (Op.equalIn (n + 1) g.type (.int .i64 x) (.int .i64 y)).run Try.prog w = .ok (x == y) w := fun x y => by
      rw [g2]; exact run_equalIn_int w n 3 .i64 .i64 x y Try.underlying3
    simp only [Op.eqFields, f1, g1, ne_eq, Sem.run_bind, p1, p2, e1, e2, Result.andThen_ok]
    cases h1 : (a == c) <;> cases h2 : (b == d) <;> simp [p1, p2, e1, e2, h1, h2]
  | _ :: _ :: _ :: _, hf => simp at hf

theorem seat_eq (k k' : Seat) (w : World) : (Op.equal 81 (seatV k) (seatV k')).run Try.prog w = .ok (decide (k = k')) w := by
  obtain ⟨a, b⟩ := k
  obtain ⟨c, d⟩ := k'
  have := seat_run a b c d w 9998
  unfold Op.equal seatV
  rw [show Op.maxDepth = 9998 + 2 from rfl, this]
  congr 1
  by_cases h1 : a = c <;> by_cases h2 : b = d <;> simp [h1, h2]

theorem seat_check_n (e : Bool) (k : Seat) (w : World) (n : Nat) : (Instr.checkKey e (n + 2) 81 (seatV k)).run Try.prog w = .ok () w := by
  have hf : (Try.prog.fieldsOf 81).toList.map (fun f => (f.name, f.type, f.offset)) = [("kind", 3, 0), ("round", 3, 1)] := by kernel_rfl
  have hu : Try.prog.underlying 81 = some (.struct (Try.prog.fieldsOf 81)) := by kernel_rfl
  have hc : ∀ x : Int, (Instr.checkKey e (n + 1) 3 (.int .i64 x)).run Try.prog w = .ok () w := fun x => by simp [Instr.checkKey, run_underlying Try.underlying3]
  have hp : Try.prog.plainKey 3 = true := by kernel_rfl
  show (Instr.checkKey e ((n + 1) + 1) 81 (.agg #[.int .i64 k.1, .int .i64 k.2])).run Try.prog w = .ok () w
  rw [Instr.checkKey]
  simp only [Sem.run_bind, run_underlying hu, Result.andThen_ok]
  rw [← Array.forIn_toList]
  generalize (Try.prog.fieldsOf 81).toList = fs at hf
  match fs, hf with
  | [], hf => simp at hf
  | [_], hf => simp at hf
  | [f, g], hf =>
    simp only [List.map_cons, List.map_nil, List.cons.injEq, Prod.mk.injEq, and_true] at hf
    obtain ⟨⟨f1, f2, f3⟩, g1, g2, g3⟩ := hf
    have p1 : (part f.type #[.int .i64 k.1, .int .i64 k.2] f.offset).run Try.prog w = .ok (.int .i64 k.1) w := by
      rw [f2, f3]; exact run_part_plain w hp rfl
    have p2 : (part g.type #[.int .i64 k.1, .int .i64 k.2] g.offset).run Try.prog w = .ok (.int .i64 k.2) w := by
      rw [g2, g3]; exact run_part_plain w hp rfl
    have c1 : (Instr.checkKey e (n + 1) f.type (.int .i64 k.1)).run Try.prog w = .ok () w := by rw [f2]; exact hc _
    have c2 : (Instr.checkKey e (n + 1) g.type (.int .i64 k.2)).run Try.prog w = .ok () w := by rw [g2]; exact hc _
    simp [List.forIn_cons, f1, g1, p1, p2, c1, c2]
  | _ :: _ :: _ :: _, hf => simp at hf

theorem seat_check (e : Bool) (k : Seat) (w : World) : (Instr.checkKey e 10000 81 (seatV k)).run Try.prog w = .ok () w := seat_check_n e k w 9998

theorem kSeat : KeyT Try.prog 81 Seat seatV where
  check := seat_check
  find es ks k w hk := by
    have hu : Try.prog.underlying 81 = some (.struct (Try.prog.fieldsOf 81)) := by kernel_rfl
    have hask := findAsking_eq (P := Try.prog) seatV 81 k (fun k' w => seat_eq k k' w) es ks 0 w hk
    simp only [Nat.zero_add] at hask
    unfold Instr.findKey
    simp only [Sem.run_bind, run_underlying hu, Result.andThen]
    cases es with
    | nil =>
      cases ks with
      | nil => rfl
      | cons _ _ => simp at hk
    | cons e es =>
      have : Instr.findNow (.struct (Try.prog.fieldsOf 81)) (seatV k) (e :: es) 0 = none := by
        simp [Instr.findNow, Instr.sameNow]
      rw [this]
      exact hask
  same k := by
    have : ∀ n, Instr.sameBits (n + 1) (seatV k) (seatV k) = true := fun n => by
      simp [Instr.sameBits, seatV]
    exact this 9999
end Go.Proofs.Ytnpmjpdndhedgaa
