/-
  The reference's net in memory: rows of structs of one's own, its cells, what its calls may change. No statement of a claim stands here; each lemma names what it asks.
-/
import Derived.Test.YtbjgjagbepopfaaNP
import Derived.Test.YtbjgjagbepopfaaNC
import Derived.Test.YtbjgjagbepopfaaRegG
set_option linter.unusedSimpArgs false
namespace Go.Proofs.Ytbjgjagbepopfaa
open Go Go.RowKit Go.ChangeMaps

/-! ### rows of one's own -/
/-- A row of one's own, in a new block: each element is f of it. -/
structure VecAt {α : Type} (t : TypeId) (size : Nat) (f : α → List Value) (B : Nat) (w : World) (v : Value) (l : List α) : Prop where
  row : w.ownsRow 0 t size v l.length (l.flatMap f)
  own : ∀ k, v.ownBlock = some k → B ≤ k

section
variable {α : Type} {t : TypeId} {size B : Nat} {f : α → List Value} {w w' : World} {v : Value} {l : List α}
theorem VecAt.mod {S : List Nat} (h : VecAt t size f B w v l) (m : Mod S w w') (hS : ∀ k, v.ownBlock = some k → k ∉ S) : VecAt t size f B w' v l := ⟨row_mod h.row m hS, h.own⟩
theorem VecAt.mod0 (h : VecAt t size f B w v l) (m : Mod [] w w') : VecAt t size f B w' v l := h.mod m (fun _ _ => by simp)
theorem VecAt.nil : VecAt t size f B w (.slice none 0 0) [] := ⟨⟨by simp, .inl ⟨rfl, rfl⟩⟩, fun k hk => by cases hk⟩
theorem VecAt.new (w : World) (h : B ≤ w.heap.size) : VecAt t size f B (w.alloc (.cells #[] t)) (.slice (some ⟨w.heap.size, 0, none⟩) 0 0) [] :=
  ⟨World.ownsRow_made w #[] 0 (Nat.zero_le _) (Nat.zero_le _) (by simp), fun k hk => by cases hk; exact h⟩
theorem VecAt.form (h : VecAt t size f B w v l) : ∃ a c, v = .slice a l.length c := row_slice h.row
theorem flat_at (hf : ∀ x, (f x).length = size) {i : Nat} {x : α} (h : l[i]? = some x) (j : Nat) (u : Value) (hu : (f x)[j]? = some u) : (l.flatMap f)[i * size + j]? = some u := by
  induction l generalizing i with
  | nil => simp at h
  | cons y l ih =>
    have hj : j < size := by have := (List.getElem?_eq_some_iff.1 hu).1; rwa [hf] at this
    have hx := hf y
    simp only [List.flatMap_cons]
    cases i with
    | zero =>
      simp at h
      subst h
      rw [List.getElem?_append_left (by omega)]
      simpa using hu
    | succ i =>
      rw [Nat.succ_mul, List.getElem?_append_right (by omega)]
      have := ih (i := i) (by simpa using h)
      rw [show i * size + size + j - (f y).length = i * size + j from by omega]
      exact this
theorem VecAt.at (h : VecAt t size f B w v l) (hf : ∀ x, (f x).length = size) {i : Nat} {x : α} (hi : l[i]? = some x) : ∃ g c, v = .slice (some ⟨g, 0, none⟩) l.length c ∧ ∀ (j : Nat) (u : Value), (f x)[j]? = some u → w.cell? ⟨g, i * size + j, none⟩ = some u := by
  have hil := (List.getElem?_eq_some_iff.1 hi).1
  obtain ⟨g, c, e, hc⟩ := row_pos h.row (by omega)
  exact ⟨g, c, e, fun j u hu => hc _ u (flat_at hf hi j u hu)⟩
theorem VecAt.block (h : VecAt t size f B w v l) {k : Nat} (hk : v.ownBlock = some k) : ∃ c, w.heap[k]? = some (.cells c t (0, 0)) := row_block h.row hk
/-- One more element, out of a new block of its own. -/
theorem VecAt.app {P : Program} {ts : TypeId} {bytes : Nat} (E : Elem P ts t size bytes) (h : VecAt t size f B w v l) (hB : B ≤ w.heap.size) (x : α) (hx : (f x).length = size) (h1 : ∀ u ∈ f x, u.oneCell' = true) (hl : l.length ≤ 5000) (hy : bytes ≤ 1000) :
    ∃ v' w', (Builtin.append_ #[ts, ts] ts #[v, .slice (some ⟨w.heap.size, 0, none⟩) 1 1]).run P (w.alloc (.cells (f x).toArray t)) = .ok v' w' ∧
      VecAt t size f B w' v' (l ++ [x]) ∧ Mod v.ownBlock.toList w w' ∧ (∀ k, v'.ownBlock = some k → v.ownBlock = some k ∨ w.heap.size ≤ k) := by
  have hr := row_mod h.row (Mod.alloc (Mod.refl [] w) (.cells (f x).toArray t)) (fun _ _ => by simp)
  obtain ⟨v', w', e, ho, hm, hk, -⟩ := E.app (w.alloc (.cells (f x).toArray t)) ts v l.length (l.flatMap f) hr w.heap.size 1 (f x).toArray t (0, 0) (get_new _ _) (by simp [hx]) (by simpa using h1) (by unfold maxLen; omega) (by
    have : (l.length + 1) * bytes ≤ 5001 * 1000 := Nat.mul_le_mul (by omega) hy
    omega)
  have hk' : ∀ k, v'.ownBlock = some k → v.ownBlock = some k ∨ w.heap.size ≤ k := fun k hkk => by
    rcases hk k hkk with h1 | h1
    · exact .inl h1
    · right; simp at h1; omega
  refine ⟨v', w', e, ⟨?_, fun k hkk => ?_⟩, ?_, hk'⟩
  · rw [List.flatMap_append, List.length_append]
    simpa using ho
  · rcases hk' k hkk with h1 | h1
    · exact h.own k h1
    · omega
  · exact ((Mod.refl _ _).alloc _).trans hm
end

/-! ### the reference's net -/
abbrev RItem := Int × Msg × Nat
def itemC (e : RItem) : List Value := .int .i64 e.1 :: Msg.cells e.2.1
def seatC (k : Seat) : List Value := [.int .i64 k.1, .int .i64 k.2]
abbrev ItemsAt := VecAt (α := RItem) 83 5 itemC
abbrev CutsAt := VecAt (α := Seat) 85 2 seatC
theorem elemItem : Elem Try.prog 57 83 5 48 :=
  Elem.of (z := .agg #[.int .i64 0, .int .i64 0, .int .i64 0, .int .i64 0, .string ⟨#[]⟩]) Try.underlying57 (by kernel_rfl) rfl (by decide)
theorem elemCut : Elem Try.prog 58 85 2 16 :=
  Elem.of (z := .agg #[.int .i64 0, .int .i64 0]) Try.underlying58 (by kernel_rfl) rfl (by decide)

def refHead (s : NetS) (vl vc : Value) : List Value := [.int .i64 s.parties, .int .i64 s.room, .int .i64 s.last, .int .i64 s.sent, .int .i64 s.taken, .int .i64 s.lost, vl, vc]
/-- The reference's net lies at y. -/
structure RefOn (B : Nat) (w : World) (y : Nat) (vl vc : Value) (cl : List Seat) (dn : List Value) (s : NetS) : Prop where
  cells : w.heap[y]? = some (.cells (refHead s vl vc ++ dn).toArray 61 (0, 0))
  items : ItemsAt B w vl s.way
  cuts : CutsAt B w vc cl
  has : ∀ k, decide (k ∈ cl) = s.cut k
  len : dn.length = 65
  down : ∀ k : Nat, 1 ≤ k → k ≤ 64 → dn[k]? = some (.bool (s.down k))
  own : B ≤ y
def RefAt (B : Nat) (w : World) (y n : Nat) (s : NetS) : Prop := ∃ vl vc cl dn, RefOn B w y vl vc cl dn s ∧ cl.length ≤ n

/-- The types of what the reference's calls change. -/
def refType (t : TypeId) : Bool := t == 61 || (t == 83 || t == 85)
/-- What the reference's calls may change: blocks of its own, and new ones. -/
structure RMod (B : Nat) (w w' : World) : Prop where
  os : w'.os = w.os
  tape : w'.tape = w.tape
  output : w'.output = w.output
  size : w.heap.size ≤ w'.heap.size
  block : ∀ k o, w.heap[k]? = some o → (k < B ∨ ∀ c t f, o = .cells c t f → refType t = false) → w'.heap[k]? = some o
theorem RMod.refl (B : Nat) (w : World) : RMod B w w := ⟨rfl, rfl, rfl, Nat.le_refl _, fun _ _ h _ => h⟩
theorem RMod.trans {B : Nat} {a b c : World} (h : RMod B a b) (k : RMod B b c) : RMod B a c :=
  ⟨k.os.trans h.os, k.tape.trans h.tape, k.output.trans h.output, Nat.le_trans h.size k.size, fun i o hi hc => k.block i o (h.block i o hi hc) hc⟩
theorem RMod.of {B : Nat} {w w' : World} {S : List Nat} (h : Mod S w w') (hS : ∀ k ∈ S, (B ≤ k ∧ ∃ c t, w.heap[k]? = some (.cells c t (0, 0)) ∧ refType t = true) ∨ w.heap.size ≤ k) : RMod B w w' :=
  ⟨h.os, h.tape, h.output, h.size, fun k o hk hc => h.get hk (fun hm => by
    rcases hS k hm with ⟨hb, c, t, h1, h2⟩ | h1
    · rw [h1] at hk
      rcases hc with hc | hc
      · omega
      · cases hk; have := hc _ _ _ rfl; rw [h2] at this; cases this
    · have := lt_of_block hk; omega)⟩
theorem RMod.of0 {B : Nat} {w w' : World} (h : Mod [] w w') : RMod B w w' := .of h (by simp)
theorem RMod.old {B : Nat} {w w' : World} (h : RMod B w w') (hB : w.heap.size ≤ B) : Mod [] w w' :=
  ⟨h.os, h.tape, h.output, h.size, fun k hk _ => by
    have hw : w.heap[k]? = some w.heap[k] := Array.getElem?_eq_getElem hk
    rw [hw]
    exact h.block k _ hw (.inl (by omega))⟩
/-- With a world ahead, whose blocks are all below B. -/
theorem RMod.behind {B : Nat} {a w w' : World} (h : RMod B w w') (m : Mod [] a w) (hB : a.heap.size ≤ B) : Mod [] a w' :=
  ⟨h.os.trans m.os, h.tape.trans m.tape, h.output.trans m.output, Nat.le_trans m.size h.size, fun k hk hn => by
    have hw : a.heap[k]? = some a.heap[k] := Array.getElem?_eq_getElem hk
    rw [hw]
    exact h.block k _ (m.get hw hn) (.inl (by omega))⟩
theorem RMod.get {B : Nat} {w w' : World} (h : RMod B w w') {b : Nat} {c : Array Value} {t : TypeId} {f : Nat × Nat} (hb : w.heap[b]? = some (.cells c t f)) (ht : refType t = false) : w'.heap[b]? = some (.cells c t f) :=
  h.block b _ hb (.inr fun c' t' f' e => by cases e; exact ht)
theorem RMod.map {B : Nat} {w w' : World} (h : RMod B w w') {b : Nat} {es : Array MapEntry} {n : Nat} (hb : w.heap[b]? = some (.map es n)) : w'.heap[b]? = some (.map es n) :=
  h.block b _ hb (.inr fun c' t' f' e => by cases e)
theorem NetAt.rmod {B : Nat} {w w' : World} {p : Loc} {s : NetS} (h : NetAt w p s) (m : RMod B w w') : NetAt w' p s :=
  ⟨m.get h.cells (by decide), m.map h.way, m.map h.cuts, m.map h.downs, h.wc, h.wd, h.cd⟩

section
variable {B : Nat} {w : World} {y : Nat} {vl vc : Value} {cl : List Seat} {dn : List Value} {s : NetS}
theorem RefOn.all (h : RefOn B w y vl vc cl dn s) :
    w.cell? ⟨y, 0, none⟩ = some (.int .i64 s.parties) ∧ w.cell? ⟨y, 1, none⟩ = some (.int .i64 s.room) ∧ w.cell? ⟨y, 2, none⟩ = some (.int .i64 s.last) ∧ w.cell? ⟨y, 3, none⟩ = some (.int .i64 s.sent) ∧
    w.cell? ⟨y, 4, none⟩ = some (.int .i64 s.taken) ∧ w.cell? ⟨y, 5, none⟩ = some (.int .i64 s.lost) ∧ w.cell? ⟨y, 6, none⟩ = some vl ∧ w.cell? ⟨y, 7, none⟩ = some vc ∧ (∀ i, w.frozen? ⟨y, i, none⟩ = false) := by
  simp only [cell_at h.cells]
  refine ⟨?_, ?_, ?_, ?_, ?_, ?_, ?_, ?_, free_at h.cells⟩ <;> simp [refHead]
theorem RefOn.at_down (h : RefOn B w y vl vc cl dn s) {k : Nat} (h1 : 1 ≤ k) (h2 : k ≤ 64) : w.cell? ⟨y, 8 + k, none⟩ = some (.bool (s.down k)) := by
  rw [cell_at h.cells, ← h.down k h1 h2]
  simp only [List.getElem?_toArray]
  rw [List.getElem?_append_right (by simp [refHead])]
  congr 1
  simp [refHead]
theorem RefOn.mod {w' : World} {S : List Nat} (h : RefOn B w y vl vc cl dn s) (m : Mod S w w') (h1 : y ∉ S) (h2 : ∀ k, vl.ownBlock = some k → k ∉ S) (h3 : ∀ k, vc.ownBlock = some k → k ∉ S) : RefOn B w' y vl vc cl dn s :=
  ⟨m.get h.cells h1, h.items.mod m h2, h.cuts.mod m h3, h.has, h.len, h.down, h.own⟩
theorem RefOn.mod0 {w' : World} (h : RefOn B w y vl vc cl dn s) (m : Mod [] w w') : RefOn B w' y vl vc cl dn s := h.mod m (by simp) (fun _ _ => by simp) (fun _ _ => by simp)
theorem RefOn.y_ne (h : RefOn B w y vl vc cl dn s) : (∀ k, vl.ownBlock = some k → k ≠ y) ∧ (∀ k, vc.ownBlock = some k → k ≠ y) :=
  ⟨fun k hk => by obtain ⟨c, hc⟩ := h.items.block hk; exact ne_ty hc h.cells (by decide), fun k hk => by obtain ⟨c, hc⟩ := h.cuts.block hk; exact ne_ty hc h.cells (by decide)⟩
theorem RefOn.rows_ne (h : RefOn B w y vl vc cl dn s) : ∀ k, vl.ownBlock = some k → vc.ownBlock ≠ some k := fun k hk hk2 => by
  obtain ⟨c, hc⟩ := h.items.block hk
  obtain ⟨c', hc'⟩ := h.cuts.block hk2
  exact ne_ty hc hc' (by decide) rfl
/-- A number of it, or a row, is set. -/
theorem RefOn.set (h : RefOn B w y vl vc cl dn s) (o : Nat) (u : Value) (s' : NetS) (vl' vc' : Value) (hc : (refHead s vl vc).set o u = refHead s' vl' vc') (ho : o < 8) :
    (w.setCell ⟨y, o, none⟩ u).heap[y]? = some (.cells (refHead s' vl' vc' ++ dn).toArray 61 (0, 0)) := by
  have := get_setCell_self h.cells o u
  rw [List.setIfInBounds_toArray, List.set_append_left _ _ (by simp [refHead]; exact ho), hc] at this
  exact this
theorem RefOn.num (h : RefOn B w y vl vc cl dn s) (o : Nat) (u : Value) (s' : NetS) (hc : (refHead s vl vc).set o u = refHead s' vl vc) (ho : o < 8) (hw : s'.way = s.way) (hk : s'.cuts = s.cuts) (hd : s'.downs = s.downs) :
    RefOn B (w.setCell ⟨y, o, none⟩ u) y vl vc cl dn s' := by
  have m : Mod [y] w (w.setCell ⟨y, o, none⟩ u) := (Mod.refl _ _).setCell (by simp) _
  refine ⟨h.set o u s' vl vc hc ho, ?_, h.cuts.mod m (fun k hk => by simpa using h.y_ne.2 k hk), ?_, h.len, ?_, h.own⟩
  · rw [hw]; exact h.items.mod m (fun k hk => by simpa using h.y_ne.1 k hk)
  · intro k; rw [h.has k]; unfold NetS.cut; rw [hk]
  · intro k h1 h2; rw [h.down k h1 h2]; unfold NetS.down; rw [hd]

/-- What its calls may change. -/
def refFoot (y : Nat) (vl vc : Value) : List Nat := y :: (vl.ownBlock.toList ++ vc.ownBlock.toList)
theorem mem_foot {y : Nat} {vl vc : Value} : ∀ k, k ∈ refFoot y vl vc ↔ k = y ∨ vl.ownBlock = some k ∨ vc.ownBlock = some k := by
  intro k
  simp [refFoot]
theorem RefOn.rmod {w' : World} (h : RefOn B w y vl vc cl dn s) (m : Mod (refFoot y vl vc) w w') : RMod B w w' := by
  refine RMod.of m fun k hk => .inl ?_
  rcases (mem_foot k).1 hk with rfl | hk | hk
  · exact ⟨h.own, _, _, h.cells, by decide⟩
  · obtain ⟨c, hc⟩ := h.items.block hk
    exact ⟨h.items.own k hk, c, _, hc, by decide⟩
  · obtain ⟨c, hc⟩ := h.cuts.block hk
    exact ⟨h.cuts.own k hk, c, _, hc, by decide⟩
/-- The row of messages is another one. -/
theorem RefOn.setItems {w' : World} {S : List Nat} (h : RefOn B w y vl vc cl dn s) (hm : Mod S w w') (h1 : y ∉ S) (h3 : ∀ k, vc.ownBlock = some k → k ∉ S) (vl' : Value) (s' : NetS) (hv : ItemsAt B w' vl' s'.way)
    (hc : (refHead s vl vc).set 6 vl' = refHead s' vl' vc) (hk : s'.cuts = s.cuts) (hd : s'.downs = s.downs) : RefOn B (w'.setCell ⟨y, 6, none⟩ vl') y vl' vc cl dn s' := by
  have hcells := hm.get h.cells h1
  have m : Mod [y] w' (w'.setCell ⟨y, 6, none⟩ vl') := (Mod.refl _ _).setCell (by simp) _
  have hcuts := h.cuts.mod hm h3
  refine ⟨?_, ?_, hcuts.mod m (fun k hk => by simpa using h.y_ne.2 k hk), ?_, h.len, ?_, h.own⟩
  · have := get_setCell_self hcells 6 vl'
    rw [List.setIfInBounds_toArray, List.set_append_left _ _ (by simp [refHead]), hc] at this
    exact this
  · refine hv.mod m (fun k hk => ?_)
    obtain ⟨c, hcc⟩ := hv.block hk
    simpa using ne_ty hcc hcells (by decide)
  · intro k; rw [h.has k]; unfold NetS.cut; rw [hk]
  · intro k h1 h2; rw [h.down k h1 h2]; unfold NetS.down; rw [hd]
/-- The row of cut links is another one. -/
theorem RefOn.setCuts {w' : World} {S : List Nat} (h : RefOn B w y vl vc cl dn s) (hm : Mod S w w') (h1 : y ∉ S) (h2 : ∀ k, vl.ownBlock = some k → k ∉ S) (vc' : Value) (cl' : List Seat) (s' : NetS) (hv : CutsAt B w' vc' cl')
    (hc : (refHead s vl vc).set 7 vc' = refHead s' vl vc') (hw : s'.way = s.way) (hk : ∀ k, decide (k ∈ cl') = s'.cut k) (hd : s'.downs = s.downs) : RefOn B (w'.setCell ⟨y, 7, none⟩ vc') y vl vc' cl' dn s' := by
  have hcells := hm.get h.cells h1
  have m : Mod [y] w' (w'.setCell ⟨y, 7, none⟩ vc') := (Mod.refl _ _).setCell (by simp) _
  have hit := h.items.mod hm h2
  refine ⟨?_, ?_, ?_, hk, h.len, ?_, h.own⟩
  · have := get_setCell_self hcells 7 vc'
    rw [List.setIfInBounds_toArray, List.set_append_left _ _ (by simp [refHead]), hc] at this
    exact this
  · rw [hw]; exact hit.mod m (fun k hk => by simpa using h.y_ne.1 k hk)
  · refine hv.mod m (fun k hk => ?_)
    obtain ⟨c, hcc⟩ := hv.block hk
    simpa using ne_ty hcc hcells (by decide)
  · intro k h1 h2; rw [h.down k h1 h2]; unfold NetS.down; rw [hd]
end
end Go.Proofs.Ytbjgjagbepopfaa
