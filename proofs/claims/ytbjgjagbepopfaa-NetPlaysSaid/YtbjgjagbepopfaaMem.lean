/-
  Plain lemmas over any program: what a stretch of code may have changed (Mod), and the laws of a map whose entries are known as a list (MapIs). No statement of a claim stands here; no condition but those that each lemma names.
-/
import Derived.WalkKit
import Derived.WalkLawsBesides
import Derived.WalkSpells
import Derived.Maps.RangeRun
import Derived.Maps.OwnOps
import Derived.Maps.OwnSet
import Derived.Maps.RangeWalk
set_option linter.unusedSimpArgs false
namespace Go.Proofs.Ytbjgjagbepopfaa
open Go Go.RowKit Go.ChangeMaps

/-- Kept from the walk. -/
theorem hid {p : Prop} (h : p) : Hid p := h

/-- Only blocks of S, and new ones, may have changed. -/
structure Mod (S : List Nat) (w w' : World) : Prop where
  os : w'.os = w.os
  tape : w'.tape = w.tape
  output : w'.output = w.output
  size : w.heap.size ≤ w'.heap.size
  block : ∀ k, k < w.heap.size → k ∉ S → w'.heap[k]? = w.heap[k]?

theorem Mod.refl (S : List Nat) (w : World) : Mod S w w := ⟨rfl, rfl, rfl, Nat.le_refl _, fun _ _ _ => rfl⟩

theorem Mod.trans' {S S' : List Nat} {a b c : World} (h : Mod S a b) (k : Mod S' b c) (hs : ∀ x ∈ S', x ∈ S ∨ a.heap.size ≤ x) : Mod S a c :=
  ⟨k.os.trans h.os, k.tape.trans h.tape, k.output.trans h.output, Nat.le_trans h.size k.size, fun i hi hn =>
    (k.block i (Nat.lt_of_lt_of_le hi h.size) (fun hm => by rcases hs i hm with h' | h'; exact hn h'; omega)).trans (h.block i hi hn)⟩

theorem Mod.trans {S : List Nat} {a b c : World} (h : Mod S a b) (k : Mod S b c) : Mod S a c := h.trans' k fun _ hx => .inl hx

theorem Mod.mono {S S' : List Nat} {a b : World} (h : Mod S a b) (hs : ∀ x ∈ S, x ∈ S' ∨ a.heap.size ≤ x) : Mod S' a b :=
  (Mod.refl S' a).trans' h hs

theorem Mod.drew {S : List Nat} {a w : World} (h : Mod S a w) : Mod S a w.drew := ⟨h.os, h.tape, h.output, h.size, h.block⟩
theorem Mod.drewN {S : List Nat} {a w : World} (h : Mod S a w) (n : Nat) : Mod S a (w.drewN n) := ⟨h.os, h.tape, h.output, h.size, h.block⟩

theorem Mod.alloc {S : List Nat} {a w : World} (h : Mod S a w) (o : Obj) : Mod S a (w.alloc o) :=
  h.trans ⟨rfl, rfl, rfl, by simp, fun k hk _ => Below.heap_alloc _ _ _ hk⟩

theorem Mod.setCell {S : List Nat} {a w : World} (h : Mod S a w) {p : Addr} (hp : p.block ∈ S ∨ a.heap.size ≤ p.block) (u : Value) : Mod S a (w.setCell p u) :=
  ⟨h.os, h.tape, h.output, by simpa using h.size, fun k hk hn => (Below.heap_setCell _ _ _ _ (by rintro rfl; rcases hp with h' | h'; exact hn h'; omega)).trans (h.block k hk hn)⟩

theorem setBlock_at (w : World) (b : Nat) (o : Obj) (k : Nat) (h : k ≠ b) : (setBlock w b o).heap[k]? = w.heap[k]? := by
  simp only [setBlock, Array.getElem?_setIfInBounds]
  rw [if_neg (by omega)]

theorem Mod.setBlock {S : List Nat} {a w : World} (h : Mod S a w) {b : Nat} (hp : b ∈ S ∨ a.heap.size ≤ b) (o : Obj) : Mod S a (setBlock w b o) :=
  ⟨h.os, h.tape, h.output, by simpa [ChangeMaps.setBlock] using h.size, fun k hk hn => (setBlock_at w b o k (by rintro rfl; rcases hp with h' | h'; exact hn h'; omega)).trans (h.block k hk hn)⟩

theorem Mod.grown {S : List Nat} {a w w' : World} {row : Option Nat} (h : Mod S a w) (hg : w.grownBy w' row) (hr : ∀ k, row = some k → k ∈ S ∨ a.heap.size ≤ k) : Mod S a w' :=
  ⟨hg.os.trans h.os, hg.tape.trans h.tape, hg.output.trans h.output, Nat.le_trans h.size hg.size, fun k hk hn =>
    (hg.block k (Nat.lt_of_lt_of_le hk h.size) (fun e => by rcases hr k e.symm with h' | h'; exact hn h'; omega)).trans (h.block k hk hn)⟩

theorem Mod.below {S : List Nat} {a w : World} {B : Nat} (h : Mod S a w) (hB : B ≤ a.heap.size) (hs : ∀ x ∈ S, B ≤ x) : Below B a w :=
  ⟨h.os, h.tape, h.output, h.size, fun k hk => h.block k (by omega) (fun hm => by have := hs k hm; omega)⟩

theorem Mod.of_below {a w : World} {B : Nat} (h : Below B a w) (hB : B = a.heap.size) : Mod [] a w :=
  ⟨h.os, h.tape, h.output, h.size, fun k hk _ => h.block k (by omega)⟩

theorem Mod.get {S : List Nat} {a w : World} (h : Mod S a w) {b : Nat} {o : Obj} (hb : a.heap[b]? = some o) (hn : b ∉ S) : w.heap[b]? = some o :=
  (h.block b (lt_of_block hb) hn).trans hb

theorem get_alloc {w : World} {b : Nat} {o : Obj} (hb : w.heap[b]? = some o) (o' : Obj) : (w.alloc o').heap[b]? = some o :=
  (Below.heap_alloc _ _ _ (lt_of_block hb)).trans hb
theorem get_new (w : World) (o : Obj) : (w.alloc o).heap[w.heap.size]? = some o := heap_alloc_new w o
theorem get_setCell {w : World} {b : Nat} {o : Obj} (hb : w.heap[b]? = some o) {p : Addr} (hn : b ≠ p.block) (u : Value) : (w.setCell p u).heap[b]? = some o :=
  (Below.heap_setCell _ _ _ _ hn).trans hb
theorem get_setBlock {w : World} {b : Nat} {o : Obj} (hb : w.heap[b]? = some o) {c : Nat} (hn : b ≠ c) (o' : Obj) : (setBlock w c o').heap[b]? = some o :=
  (setBlock_at w c o' b hn).trans hb
theorem get_setBlock_self {w : World} {b : Nat} {o : Obj} (hb : w.heap[b]? = some o) (o' : Obj) : (setBlock w b o').heap[b]? = some o' := by
  have := lt_of_block hb
  simp [ChangeMaps.setBlock, this]
theorem get_setCell_self {w : World} {b : Nat} {cs : Array Value} {t : TypeId} {f : Nat × Nat} (hb : w.heap[b]? = some (.cells cs t f)) (o : Nat) (u : Value) :
    (w.setCell ⟨b, o, none⟩ u).heap[b]? = some (.cells (cs.setIfInBounds o u) t f) := by
  have := lt_of_block hb
  simp only [World.setCell, Array.getElem?_modify, hb]
  simp

theorem cell_at {w : World} {b : Nat} {cs : Array Value} {t : TypeId} {f : Nat × Nat} (hb : w.heap[b]? = some (.cells cs t f)) (o : Nat) : w.cell? ⟨b, o, none⟩ = cs[o]? := by
  simp [World.cell?, hb]
theorem free_at {w : World} {b : Nat} {cs : Array Value} {t : TypeId} (hb : w.heap[b]? = some (.cells cs t (0, 0))) (o : Nat) : w.frozen? ⟨b, o, none⟩ = false := by
  simp [World.frozen?, hb]

theorem Mod.cell {S : List Nat} {a w : World} (h : Mod S a w) {b o : Nat} {v : Value} (hc : a.cell? ⟨b, o, none⟩ = some v) (hn : b ∉ S) : w.cell? ⟨b, o, none⟩ = some v :=
  (World.cell?_of_block (a := ⟨b, o, none⟩) (h.block b (World.block_lt_of_cell? a _ hc) hn)).trans hc
theorem Mod.free {S : List Nat} {a w : World} (h : Mod S a w) {b o : Nat} {v : Value} (hc : a.cell? ⟨b, o, none⟩ = some v) (hn : b ∉ S) : w.frozen? ⟨b, o, none⟩ = a.frozen? ⟨b, o, none⟩ :=
  World.frozen?_of_block (a := ⟨b, o, none⟩) (h.block b (World.block_lt_of_cell? a _ hc) hn)

/-- The world at hand is known by R alone from here on. -/
theorem wp_abs {P : Program} {c : Code} {Q : Exit → Act → World → Prop} {a : Act} {w : World} (R : World → Prop) (h : R w) (k : ∀ W, R W → c.wp P Q a W) : c.wp P Q a w := k w h

/-! ### maps -/

/-- An entry: its key, its element, when it was laid. -/
def ent {α β : Type} (f : α → Value) (g : β → Value) (e : α × β × Nat) : MapEntry := { key := f e.1, val := g e.2.1, born := e.2.2 }
/-- A map's block. -/
def mapObj {α β : Type} (f : α → Value) (g : β → Value) (l : List (α × β × Nat)) (clock : Nat) : Obj := .map (l.map (ent f g)).toArray clock

/-- What is asked of a key's type. -/
structure KeyT (P : Program) (kt : TypeId) (α : Type) [DecidableEq α] (f : α → Value) : Prop where
  check : ∀ (e : Bool) (k : α) (w : World), (Instr.checkKey e 10000 kt (f k)).run P w = .ok () w
  find : ∀ (es : List MapEntry) (ks : List α) (k : α) (w : World), es.map (·.key) = ks.map f → (Instr.findKey kt (f k) es).run P w =
    .ok ((ks.findIdx? (· == k)).bind fun i => (es[i]?).map fun e => (i, e.val)) w
  same : ∀ k : α, Instr.sameBits 10000 (f k) (f k) = true

theorem findNow_eq {α : Type} [DecidableEq α] (f : α → Value) (d : TypeDesc) (k : α) (hs : ∀ k', Instr.sameNow d (f k) (f k') = some (decide (k = k'))) :
    ∀ (es : List MapEntry) (ks : List α) (i : Nat), es.map (·.key) = ks.map f → Instr.findNow d (f k) es i = some ((ks.findIdx? (· == k)).bind fun j => (es[j]?).map fun e => (i + j, e.val))
  | [], [], _, _ => rfl
  | [], _ :: _, _, h => by simp at h
  | _ :: _, [], _, h => by simp at h
  | e :: es, x :: ks, i, h => by
    simp only [List.map_cons, List.cons.injEq] at h
    have ih := findNow_eq f d k hs es ks (i + 1) h.2
    simp only [Instr.findNow, h.1, hs]
    by_cases hk : k = x
    · subst hk; simp [List.findIdx?_cons]
    · have hk' : (x == k) = false := by simp; exact fun h => hk h.symm
      simp only [hk, decide_false, ih, List.findIdx?_cons, hk', Bool.false_eq_true, if_false]
      cases ks.findIdx? (· == k) with
      | none => rfl
      | some j => simp; cases es[j]? <;> simp; omega

theorem findAsking_eq {P : Program} {α : Type} [DecidableEq α] (f : α → Value) (kt : TypeId) (k : α) (hs : ∀ k' w, (Op.equal kt (f k) (f k')).run P w = .ok (decide (k = k')) w) :
    ∀ (es : List MapEntry) (ks : List α) (i : Nat) (w : World), es.map (·.key) = ks.map f → (Instr.findAsking kt (f k) es i).run P w = .ok ((ks.findIdx? (· == k)).bind fun j => (es[j]?).map fun e => (i + j, e.val)) w
  | [], [], _, _, _ => rfl
  | [], _ :: _, _, _, h => by simp at h
  | _ :: _, [], _, _, h => by simp at h
  | e :: es, x :: ks, i, w, h => by
    simp only [List.map_cons, List.cons.injEq] at h
    have ih := findAsking_eq f kt k hs es ks (i + 1) w h.2
    simp only [Instr.findAsking, h.1, Sem.run_bind, hs, Result.andThen]
    by_cases hk : k = x
    · subst hk; simp [List.findIdx?_cons]
    · have hk' : (x == k) = false := by simp; exact fun h => hk h.symm
      simp only [hk, decide_false, Bool.false_eq_true, if_false, ih, List.findIdx?_cons, hk']
      cases ks.findIdx? (· == k) with
      | none => rfl
      | some j => simp; cases es[j]? <;> simp; omega

theorem bytes_eq (a b : ByteArray) : (a == b) = decide (a = b) := by
  rw [Bool.eq_iff_iff]; simp [MapKept.bytes_beq]
theorem bytes_same (a : ByteArray) : (a == a) = true := (MapKept.bytes_beq a a).2 rfl
theorem chars_eq (a b : ByteArray) : (a.toList == b.toList) = decide (a = b) := by
  rw [Bool.eq_iff_iff]; simp only [beq_iff_eq, decide_eq_true_eq, ByteArray.toList_eq]
  exact ⟨fun h => by cases a; cases b; simp_all, fun h => by rw [h]⟩

theorem KeyT.ofInt {P : Program} {kt : TypeId} {q : IntKind} (h : P.underlying kt = some (.int q)) : KeyT P kt Int (.int q) where
  check e k w := by
    have : ∀ n, (Instr.checkKey e (n + 1) kt (.int q k)).run P w = .ok () w := fun n => by simp [Instr.checkKey, run_underlying h]
    exact this 9999
  find es ks k w hk := by
    have := findNow_eq (.int q) (.int q) k (fun k' => by simp [Instr.sameNow]; rfl) es ks 0 hk
    simp only [Instr.findKey, Sem.run_bind, run_underlying h, Result.andThen, this]
    simp
  same k := by
    have : ∀ n, Instr.sameBits n (.int q k) (.int q k) = true := fun n => by unfold Instr.sameBits; simp
    exact this 10000

theorem KeyT.ofString {P : Program} {kt : TypeId} (h : P.underlying kt = some .string) : KeyT P kt ByteArray .string where
  check e k w := by
    have : ∀ n, (Instr.checkKey e (n + 1) kt (.string k)).run P w = .ok () w := fun n => by simp [Instr.checkKey, run_underlying h]
    exact this 9999
  find es ks k w hk := by
    have := findNow_eq .string .string k (fun k' => by simp [Instr.sameNow, bytes_eq]) es ks 0 hk
    simp only [Instr.findKey, Sem.run_bind, run_underlying h, Result.andThen, this]
    simp
  same k := by
    have : ∀ n, Instr.sameBits n (.string k) (.string k) = true := fun n => by unfold Instr.sameBits; simp [bytes_same]
    exact this 10000
end Go.Proofs.Ytbjgjagbepopfaa
