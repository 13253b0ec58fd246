/-
  Plain lemmas over any program: the operations on a map whose entries are known as a list of key, element and stamp (mapObj): look-up, store, delete, len, and ranging over it. No statement of a claim stands here; no condition but those that each lemma names.
-/
import Derived.Test.YtbjgjagbepopfaaMem
set_option linter.unusedSimpArgs false
namespace Go.Proofs.Ytbjgjagbepopfaa
open Go Go.RowKit Go.ChangeMaps

section
variable {P : Program} {α β : Type} [DecidableEq α] {f : α → Value} {g : β → Value} {kt : TypeId}

/-- What a map's list gives at a key. -/
def look (l : List (α × β × Nat)) (k : α) : Option β := (l.find? (fun e => decide (e.1 = k))).map (·.2.1)

theorem look_nil (k : α) : look ([] : List (α × β × Nat)) k = none := rfl
theorem look_cons (e : α × β × Nat) (l : List (α × β × Nat)) (k : α) : look (e :: l) k = if e.1 = k then some e.2.1 else look l k := by
  unfold look
  rw [List.find?_cons]
  by_cases h : e.1 = k <;> simp [h]
theorem look_append (l : List (α × β × Nat)) (e : α × β × Nat) (k : α) : look (l ++ [e]) k = match look l k with | some v => some v | none => if e.1 = k then some e.2.1 else none := by
  induction l with
  | nil => simp [look_cons, look_nil]
  | cons x l ih => simp only [List.cons_append, look_cons]; split <;> simp_all
theorem look_none {l : List (α × β × Nat)} {k : α} : look l k = none ↔ ∀ e ∈ l, e.1 ≠ k := by
  unfold look; simp [List.find?_eq_none]
theorem look_some_mem {l : List (α × β × Nat)} {k : α} {v : β} (h : look l k = some v) : ∃ n, (k, v, n) ∈ l := by
  induction l with
  | nil => simp [look_nil] at h
  | cons x l ih =>
    rw [look_cons] at h
    split at h
    · rename_i hk; subst hk; cases h; exact ⟨x.2.2, .head _⟩
    · obtain ⟨n, hn⟩ := ih h; exact ⟨n, .tail _ hn⟩
theorem look_mem {l : List (α × β × Nat)} {k : α} {v : β} {n : Nat} (hn : (l.map (·.1)).Nodup) (h : (k, v, n) ∈ l) : look l k = some v := by
  induction l with
  | nil => cases h
  | cons x l ih =>
    simp only [List.map_cons, List.nodup_cons] at hn
    rw [look_cons]
    cases h with
    | head => simp
    | tail _ h =>
      rw [if_neg (by rintro rfl; exact hn.1 (List.mem_map.2 ⟨_, h, rfl⟩))]
      exact ih hn.2 h

omit [DecidableEq α] in
theorem run_getMap {w : World} {b : Nat} {l : List (α × β × Nat)} {c : Nat} (hb : w.heap[b]? = some (mapObj f g l c)) : (getObj b).run P w = .ok (mapObj f g l c) w := by
  simp [getObj, Sem.run, hb, mapObj]

theorem findIdx_first {l : List (α × β × Nat)} {k : α} : ((l.map (·.1)).findIdx? (· == k)).bind (fun i => ((l.map (ent f g))[i]?).map fun e => (i, e.val)) =
    ((l.findIdx? (fun e => decide (e.1 = k))).bind fun i => (l[i]?).map fun e => (i, g e.2.1)) := by
  rw [List.findIdx?_map]
  have : ((· == k) ∘ fun x : α × β × Nat => x.1) = fun e : α × β × Nat => decide (e.1 = k) := by
    funext x; rfl
  rw [this]
  cases l.findIdx? (fun e => decide (e.1 = k)) with
  | none => rfl
  | some i => simp; cases l[i]? <;> simp [ent]

theorem find_run (K : KeyT P kt α f) (l : List (α × β × Nat)) (k : α) (w : World) : (Instr.findKey kt (f k) (l.map (ent f g))).run P w =
    .ok ((l.findIdx? (fun e => decide (e.1 = k))).bind fun i => (l[i]?).map fun e => (i, g e.2.1)) w := by
  rw [K.find (l.map (ent f g)) (l.map (·.1)) k w (by simp [ent]), findIdx_first]

theorem idx_none {l : List (α × β × Nat)} {k : α} (h : look l k = none) : l.findIdx? (fun e => decide (e.1 = k)) = none := by
  rw [List.findIdx?_eq_none_iff]
  intro x hx
  simpa using look_none.1 h x hx
theorem idx_some {l : List (α × β × Nat)} {k : α} {v : β} (h : look l k = some v) : ∃ i n, l.findIdx? (fun e => decide (e.1 = k)) = some i ∧ l[i]? = some (k, v, n) := by
  induction l with
  | nil => simp [look_nil] at h
  | cons x l ih =>
    rw [look_cons] at h
    rw [List.findIdx?_cons]
    split at h
    · rename_i hk; cases h; subst hk; exact ⟨0, x.2.2, by simp⟩
    · rename_i hk
      obtain ⟨i, n, h1, h2⟩ := ih h
      exact ⟨i + 1, n, by simp [hk, h1], by simpa using h2⟩

/-! ### look-up -/
theorem run_look_ok {t et : TypeId} {w : World} {b c : Nat} {l : List (α × β × Nat)} (K : KeyT P kt α f) (ht : P.underlying t = some (.map kt et)) (hb : w.heap[b]? = some (mapObj f g l c)) (k : α) {v : β} (h : look l k = some v) :
    (Instr.lookup t (.map (some b)) (f k) true).run P w = .ok (.tuple #[g v, .bool true]) w := by
  obtain ⟨i, n, h1, h2⟩ := idx_some h
  simp only [Instr.lookup, Sem.run_bind, run_underlying ht, Result.andThen, run_getMap hb, mapObj, Sem.run_pure, K.check, find_run K, h1, h2]
  simp [h1, h2]
theorem run_look_no {t et : TypeId} {w : World} {b c : Nat} {l : List (α × β × Nat)} {z : Value} (K : KeyT P kt α f) (ht : P.underlying t = some (.map kt et)) (hz : (zeroValue et).run P w = .ok z w) (hb : w.heap[b]? = some (mapObj f g l c)) (k : α) (h : look l k = none) :
    (Instr.lookup t (.map (some b)) (f k) true).run P w = .ok (.tuple #[z, .bool false]) w := by
  simp only [Instr.lookup, Sem.run_bind, run_underlying ht, Result.andThen, run_getMap hb, mapObj, Sem.run_pure, K.check, find_run K, idx_none h]
  simp [idx_none h, hz]
theorem run_look_v {t et : TypeId} {w : World} {b c : Nat} {l : List (α × β × Nat)} (K : KeyT P kt α f) (ht : P.underlying t = some (.map kt et)) (hb : w.heap[b]? = some (mapObj f g l c)) (k : α) {v : β} (h : look l k = some v) :
    (Instr.lookup t (.map (some b)) (f k) false).run P w = .ok (g v) w := by
  obtain ⟨i, n, h1, h2⟩ := idx_some h
  simp only [Instr.lookup, Sem.run_bind, run_underlying ht, Result.andThen, run_getMap hb, mapObj, Sem.run_pure, K.check, find_run K, h1, h2]
  simp [h1, h2]
theorem run_look_z {t et : TypeId} {w : World} {b c : Nat} {l : List (α × β × Nat)} {z : Value} (K : KeyT P kt α f) (ht : P.underlying t = some (.map kt et)) (hz : (zeroValue et).run P w = .ok z w) (hb : w.heap[b]? = some (mapObj f g l c)) (k : α) (h : look l k = none) :
    (Instr.lookup t (.map (some b)) (f k) false).run P w = .ok z w := by
  simp only [Instr.lookup, Sem.run_bind, run_underlying ht, Result.andThen, run_getMap hb, mapObj, Sem.run_pure, K.check, find_run K, idx_none h]
  simp [idx_none h, hz]
theorem run_look_nil {t et : TypeId} {w : World} {z : Value} (K : KeyT P kt α f) (ht : P.underlying t = some (.map kt et)) (hz : (zeroValue et).run P w = .ok z w) (k : α) (ok : Bool) :
    (Instr.lookup t (.map none) (f k) ok).run P w = .ok (if ok then .tuple #[z, .bool false] else z) w := by
  have := K.find [] [] k w rfl
  cases ok <;> simp [Instr.lookup, run_underlying ht, K.check, this, hz]

/-! ### store -/
omit [DecidableEq α] in
theorem run_setMap {w : World} {b c : Nat} {l : List (α × β × Nat)} (hb : w.heap[b]? = some (mapObj f g l c)) (o : Obj) : (setObj b o).run P w = .ok () (setBlock w b o) := by
  simp [setObj, Sem.run, hb, mapObj, setBlock]

theorem run_put_new {t et : TypeId} {w : World} {b c : Nat} {l : List (α × β × Nat)} (K : KeyT P kt α f) (ht : P.underlying t = some (.map kt et)) (hb : w.heap[b]? = some (mapObj f g l c)) (k : α) (v : β) (h : look l k = none) :
    (Instr.mapUpdate t (.map (some b)) (f k) (g v)).run P w = .ok () (setBlock w b (mapObj f g (l ++ [(k, v, c)]) (c + 1))) := by
  have hs := run_setMap (P := P) hb
  simp only [Instr.mapUpdate, Sem.run_bind, run_underlying ht, Result.andThen, run_getMap hb, mapObj, Sem.run_pure, K.check, find_run K, idx_none h, Option.bind_none] at hs ⊢
  rw [hs]
  simp [mapObj, ent]

/-- The list with another element at a key. -/
def putOld (l : List (α × β × Nat)) (k : α) (v : β) : List (α × β × Nat) := l.map fun e => if e.1 = k then (k, v, e.2.2) else e

theorem modify_old {l : List (α × β × Nat)} {k : α} {v v0 : β} {i n : Nat} (hn : (l.map (·.1)).Nodup) (h : l[i]? = some (k, v0, n)) :
    (l.map (ent f g)).modify i (fun e => { e with key := f k, val := g v }) = (putOld l k v).map (ent f g) := by
  induction l generalizing i with
  | nil => simp at h
  | cons x l ih =>
    simp only [List.map_cons, List.nodup_cons] at hn
    cases i with
    | zero =>
      simp at h
      subst h
      have : putOld l k v = l := by
        unfold putOld
        conv => rhs; rw [← List.map_id l]
        refine List.map_congr_left fun e he => ?_
        rw [if_neg (by rintro rfl; exact hn.1 (List.mem_map.2 ⟨_, he, rfl⟩))]; rfl
      have e : putOld ((k, v0, n) :: l) k v = (k, v, n) :: l := by simp only [putOld, List.map_cons, if_true] at this ⊢; rw [this]
      rw [e]; simp [ent]
    | succ i =>
      simp only [List.getElem?_cons_succ] at h
      have hx : x.1 ≠ k := by rintro rfl; exact hn.1 (List.mem_map.2 ⟨_, List.mem_of_getElem? h, rfl⟩)
      have := ih hn.2 h
      have e : putOld (x :: l) k v = x :: putOld l k v := by simp [putOld, hx]
      rw [e]; simpa using this

theorem run_put_old {t et : TypeId} {w : World} {b c : Nat} {l : List (α × β × Nat)} (K : KeyT P kt α f) (ht : P.underlying t = some (.map kt et)) (hb : w.heap[b]? = some (mapObj f g l c)) (k : α) (v : β) {v0 : β} (hn : (l.map (·.1)).Nodup) (h : look l k = some v0) :
    (Instr.mapUpdate t (.map (some b)) (f k) (g v)).run P w = .ok () (setBlock w b (mapObj f g (putOld l k v) c)) := by
  obtain ⟨i, n, h1, h2⟩ := idx_some h
  have hs := run_setMap (P := P) hb
  have hm := modify_old (f := f) (g := g) (v := v) hn h2
  have hk : (Instr.keyThatStays (((l.map (ent f g)).toArray[i]?).map (·.key) |>.getD (f k)) (f k)).run P w = .ok (f k) w := by
    simp [h2, ent, Instr.keyThatStays, K.same]
  simp only [Instr.mapUpdate, Sem.run_bind, run_underlying ht, Result.andThen, run_getMap hb, mapObj, Sem.run_pure, K.check, find_run K, h1, h2, Option.bind_some, Option.map_some] at hs hk ⊢
  rw [hk]
  simp only [Result.andThen]
  rw [hs]
  simp [mapObj, hm]

/-! ### delete, len -/
theorem erase_map {γ δ : Type} (h : γ → δ) : ∀ (l : List γ) (i : Nat), (l.map h).eraseIdx i = (l.eraseIdx i).map h
  | [], _ => rfl
  | _ :: _, 0 => rfl
  | x :: l, i + 1 => by simp [erase_map h l i]

theorem erase_filter {l : List (α × β × Nat)} {k : α} {v0 : β} {i n : Nat} (hn : (l.map (·.1)).Nodup) (h : l[i]? = some (k, v0, n)) : l.eraseIdx i = l.filter (fun e => decide (e.1 ≠ k)) := by
  induction l generalizing i with
  | nil => simp at h
  | cons x l ih =>
    simp only [List.map_cons, List.nodup_cons] at hn
    cases i with
    | zero =>
      simp at h
      subst h
      have : l.filter (fun e => decide (e.1 ≠ k)) = l := by
        rw [List.filter_eq_self]
        intro e he
        simp only [decide_eq_true_eq]
        rintro rfl
        exact hn.1 (List.mem_map.2 ⟨_, he, rfl⟩)
      simpa using this.symm
    | succ i =>
      simp only [List.getElem?_cons_succ] at h
      have hx : x.1 ≠ k := by rintro rfl; exact hn.1 (List.mem_map.2 ⟨_, List.mem_of_getElem? h, rfl⟩)
      have := ih hn.2 h
      simp [hx] at this ⊢
      exact this
theorem no_filter {l : List (α × β × Nat)} {k : α} (h : look l k = none) : l.filter (fun e => decide (e.1 ≠ k)) = l := by
  rw [List.filter_eq_self]
  intro e he
  simpa using look_none.1 h e he

theorem run_drop {t kt' : TypeId} {et : TypeId} {ty : TypeId} {w : World} {b c : Nat} {l : List (α × β × Nat)} (K : KeyT P kt α f) (ht : P.underlying t = some (.map kt et)) (hb : w.heap[b]? = some (mapObj f g l c)) (k : α) (hn : (l.map (·.1)).Nodup) :
    (Builtin.delete_ #[t, kt'] ty #[.map (some b), f k]).run P w = .ok (.tuple #[]) (setBlock w b (mapObj f g (l.filter (fun e => decide (e.1 ≠ k))) c)) := by
  have hs := run_setMap (P := P) hb
  cases h : look l k with
  | none =>
    have h3 := no_filter h
    rw [h3]
    simp [Builtin.delete_, run_underlying ht, run_getMap hb]
    simp [mapObj, K.check, find_run K, idx_none h] at hs ⊢
    rw [hs]
    rfl
  | some v =>
    obtain ⟨i, n, h1, h2⟩ := idx_some h
    have h3 := erase_filter hn h2
    have hi : i < l.length := (List.getElem?_eq_some_iff.1 h2).1
    rw [← h3]
    simp [Builtin.delete_, run_underlying ht, run_getMap hb]
    simp [mapObj, K.check, find_run K, h1, h2] at hs ⊢
    rw [hs]
    simp [Array.eraseIdxIfInBounds, hi, List.eraseIdx_toArray]
    rw [erase_map]

omit [DecidableEq α] in
theorem run_len_map {t et ty : TypeId} {w : World} {b c : Nat} {l : List (α × β × Nat)} (ht : P.underlying t = some (.map kt et)) (hb : w.heap[b]? = some (mapObj f g l c)) :
    (Builtin.len_ #[t] ty #[.map (some b)]).run P w = .ok (.int .i64 l.length) w := by
  simp [Builtin.len_, run_underlying ht, run_getMap hb]
  simp [mapObj, goInt]

/-! ### ranging -/
/-- Block r is an iterator over map b that began at clock c; the entries still to come are 'left'. -/
def IterAt (w : World) (r b c : Nat) (l left : List (α × β × Nat)) : Prop :=
  ∃ (seen : Array Nat) (c0 : Nat), w.heap[r]? = some (.mapIter (some b) c seen c0) ∧ c ≤ c0 ∧ left = l.filter fun e => !seen.contains e.2.2
/-- .. and it stands at the entry e. -/
def IterOn (w : World) (r b c : Nat) (l left : List (α × β × Nat)) (e : α × β × Nat) : Prop :=
  ∃ seen : Array Nat, w.heap[r]? = some (.mapIter (some b) c (seen.push e.2.2) c) ∧ left = l.filter fun x => !(seen.push e.2.2).contains x.2.2

omit [DecidableEq α] in
theorem IterOn.at {w : World} {r b c : Nat} {l left : List (α × β × Nat)} {e : α × β × Nat} (h : IterOn w r b c l left e) : IterAt w r b c l left := by
  obtain ⟨seen, h1, h2⟩ := h
  exact ⟨_, c, h1, Nat.le_refl _, h2⟩
omit [DecidableEq α] in
theorem IterAt.mod {w w' : World} {r b c : Nat} {l left : List (α × β × Nat)} {S : List Nat} (h : IterAt w r b c l left) (m : Mod S w w') (hn : r ∉ S) : IterAt w' r b c l left := by
  obtain ⟨seen, c0, h1, h2, h3⟩ := h
  exact ⟨seen, c0, m.get h1 hn, h2, h3⟩
omit [DecidableEq α] in
theorem IterOn.mod {w w' : World} {r b c : Nat} {l left : List (α × β × Nat)} {e : α × β × Nat} {S : List Nat} (h : IterOn w r b c l left e) (m : Mod S w w') (hn : r ∉ S) : IterOn w' r b c l left e := by
  obtain ⟨seen, h1, h2⟩ := h
  exact ⟨seen, m.get h1 hn, h2⟩
omit [DecidableEq α] in
theorem IterAt.lt {w : World} {r b c : Nat} {l left : List (α × β × Nat)} (h : IterAt w r b c l left) : r < w.heap.size := by
  obtain ⟨seen, c0, h1, _⟩ := h
  exact lt_of_block h1
omit [DecidableEq α] in
/-- The map's list has lost entries that the iterator has passed, and no other. -/
theorem IterAt.dropped {w : World} {r b c : Nat} {l l' left : List (α × β × Nat)} (h : IterAt w r b c l left) (hl : ∀ seen : Array Nat, left = l.filter (fun e => !seen.contains e.2.2) → left = l'.filter fun e => !seen.contains e.2.2) : IterAt w r b c l' left := by
  obtain ⟨seen, c0, h1, h2, h3⟩ := h
  exact ⟨seen, c0, h1, h2, hl seen h3⟩

omit [DecidableEq α] in
theorem iter_new {P : Program} {t et : TypeId} (w : World) (b c : Nat) (l : List (α × β × Nat)) (ht : P.underlying t = some (.map kt et)) (hb : w.heap[b]? = some (mapObj f g l c)) :
    (Instr.range t (.map (some b))).run P w = .ok (.pointer (some ⟨w.heap.size, 0, none⟩)) (w.alloc (.mapIter (some b) c #[] c)) ∧ IterAt (w.alloc (.mapIter (some b) c #[] c)) w.heap.size b c l l :=
  ⟨run_range_map w t kt et b _ c ht hb, #[], c, get_new _ _, Nat.le_refl _, by
    rw [List.filter_eq_self.2 (by simp)]⟩

omit [DecidableEq α] in
theorem leftOf_map (l : List (α × β × Nat)) (seen : Array Nat) : (leftOf (l.map (ent f g)).toArray seen).toList = (l.filter fun e => !seen.contains e.2.2).map (ent f g) := by
  simp only [leftOf, List.filter_toArray, List.toList_toArray, List.filter_map]
  rfl

omit [DecidableEq α] in
theorem iter_next {P : Program} {w : World} {r b c : Nat} {l left : List (α × β × Nat)} (ty : TypeId) (hb : w.heap[b]? = some (mapObj f g l c)) (hc : ∀ e ∈ l, e.2.2 < c) (h : IterAt w r b c l left) :
    (left = [] ∧ (Instr.next (.pointer (some ⟨r, 0, none⟩)) false ty).run P w = .ok (.tuple #[.bool false]) w) ∨
    ∃ e ∈ left, ∃ w', (Instr.next (.pointer (some ⟨r, 0, none⟩)) false ty).run P w = .ok (.tuple #[.bool true, f e.1, g e.2.1]) w' ∧ IterOn w' r b c l (left.filter fun x => x.2.2 != e.2.2) e ∧ Mod [r] w w' ∧ w'.heap.size = w.heap.size := by
  obtain ⟨seen, c0, h1, h2, rfl⟩ := h
  have hold : ∀ x ∈ (l.map (ent f g)).toArray.toList, x.born < c := fun x hx => by
    simp only [List.toList_toArray, List.mem_map] at hx
    obtain ⟨e, he, rfl⟩ := hx
    exact hc e he
  rcases run_next_at (P := P) w ty r b c c0 seen _ c h1 hb hold h2 with ⟨hs, hr⟩ | ⟨e, he, w1, hw1, hr⟩
  · left
    refine ⟨?_, hr⟩
    have := leftOf_map (f := f) (g := g) l seen
    rw [Array.eq_empty_of_size_eq_zero hs] at this
    simpa using this.symm
  · right
    rw [leftOf_map] at he
    obtain ⟨x, hx, rfl⟩ := List.mem_map.1 he
    have hw1' : w1.heap[r]? = some (.mapIter (some b) c seen c0) := by rcases hw1 with rfl | rfl <;> exact h1
    have hm : Mod [r] w w1 := by rcases hw1 with rfl | rfl; exact Mod.refl _ _; exact (Mod.refl _ _).drew
    refine ⟨x, hx, _, hr, ⟨seen, get_setBlock_self hw1' _, ?_⟩, hm.setBlock (.inl (List.mem_singleton.2 rfl)) _, ?_⟩
    · rw [List.filter_filter]
      refine List.filter_congr fun y _ => ?_
      simp only [ent, contains_push, Bool.not_or]
      rw [Bool.and_comm]
      rfl
    · rcases hw1 with rfl | rfl <;> simp [setBlock]

omit [DecidableEq α] in
theorem iter_entry {P : Program} {w : World} {r b c : Nat} {l left : List (α × β × Nat)} {e : α × β × Nat} (hb : w.heap[b]? = some (mapObj f g l c)) (hn : (l.map (·.2.2)).Nodup) (he : e ∈ l) (h : IterOn w r b c l left e) :
    (Instr.entry (.pointer (some ⟨r, 0, none⟩))).run P w = .ok (.tuple #[f e.1, g e.2.1]) w := by
  obtain ⟨seen, h1, _⟩ := h
  have : ((l.map (ent f g)).toArray.toList.map (·.born)) = l.map (·.2.2) := by simp [ent]
  exact run_entry_at (P := P) w r b c seen _ c (ent f g e) h1 hb (by simp only [List.toList_toArray]; exact List.mem_map.2 ⟨e, he, rfl⟩) (by rw [this]; exact hn)

/-! ### the laws at the operation -/
variable {ops : Array Oper} {rest : List Oper} {o : Oper} {a : Act} {w : World} {Q : Exit → Act → World → Prop}

omit [DecidableEq α] in
theorem wpList_next_at (hg : o.guard = none) (it : Operand) (hop : o.op = Op.next it false) (r b c : Nat) (l left : List (α × β × Nat)) (hit : a.eval it = .pointer (some ⟨r, 0, none⟩))
    (hb : w.heap[b]? = some (mapObj f g l c)) (hc : ∀ e ∈ l, e.2.2 < c) (hn : (l.map (·.2.2)).Nodup) (hl : ∀ e ∈ left, e ∈ l) (hrb : b ≠ r) (h : IterAt w r b c l left)
    (h0 : left = [] → wpList P ops Q rest (a.put o.dst (.tuple #[.bool false])) w)
    (h1 : ∀ e w', e ∈ left → IterOn w' r b c l (left.filter fun x => x.2.2 != e.2.2) e → Mod [r] w w' → w'.heap.size = w.heap.size → w'.heap[b]? = some (mapObj f g l c) →
      (Instr.entry (.pointer (some ⟨r, 0, none⟩))).run P w' = .ok (.tuple #[f e.1, g e.2.1]) w' → wpList P ops Q rest (a.put o.dst (.tuple #[.bool true, f e.1, g e.2.1])) w') :
    wpList P ops Q (o :: rest) a w := by
  refine wpList_plain hg fun K' hK' => ?_
  unfold Oper.wp
  rcases iter_next (P := P) o.type hb hc h with ⟨e0, hr⟩ | ⟨e, he, w', hr, hon, hm, hs⟩
  · simp [execOp, hop, hit, hr, Result.andThen]
    exact hK' _ _ (h0 e0)
  · have hb' := hm.get hb (by simpa using hrb)
    simp [execOp, hop, hit, hr, Result.andThen]
    exact hK' _ _ (h1 e w' he hon hm hs hb' (iter_entry hb' hn (hl e he) hon))

theorem wpList_put_new (K : KeyT P kt α f) (hg : o.guard = none) (m x v : Operand) (t et : TypeId) (hop : o.op = Op.mapUpdate t m x v) (ht : P.underlying t = some (.map kt et)) (b c : Nat) (l : List (α × β × Nat)) (k : α) (y : β)
    (hm : a.eval m = .map (some b)) (hx : a.eval x = f k) (hv : a.eval v = g y) (hb : w.heap[b]? = some (mapObj f g l c)) (hk : look l k = none)
    (h : ∀ w', w'.heap[b]? = some (mapObj f g (l ++ [(k, y, c)]) (c + 1)) → Mod [b] w w' → w'.heap.size = w.heap.size → wpList P ops Q rest (a.put o.dst undef) w') :
    wpList P ops Q (o :: rest) a w := by
  refine wpList_plain hg fun K' hK' => ?_
  have hr := run_put_new K ht hb k y hk
  unfold Oper.wp
  simp [execOp, hop, hm, hx, hv, hr, Result.andThen]
  exact hK' _ _ (h _ (get_setBlock_self hb _) ((Mod.refl _ _).setBlock (.inl (by simp)) _) (by simp [setBlock]))

theorem wpList_put_old (K : KeyT P kt α f) (hg : o.guard = none) (m x v : Operand) (t et : TypeId) (hop : o.op = Op.mapUpdate t m x v) (ht : P.underlying t = some (.map kt et)) (b c : Nat) (l : List (α × β × Nat)) (k : α) (y : β) {y0 : β}
    (hm : a.eval m = .map (some b)) (hx : a.eval x = f k) (hv : a.eval v = g y) (hb : w.heap[b]? = some (mapObj f g l c)) (hn : (l.map (·.1)).Nodup) (hk : look l k = some y0)
    (h : ∀ w', w'.heap[b]? = some (mapObj f g (putOld l k y) c) → Mod [b] w w' → w'.heap.size = w.heap.size → wpList P ops Q rest (a.put o.dst undef) w') :
    wpList P ops Q (o :: rest) a w := by
  refine wpList_plain hg fun K' hK' => ?_
  have hr := run_put_old K ht hb k y hn hk
  unfold Oper.wp
  simp [execOp, hop, hm, hx, hv, hr, Result.andThen]
  exact hK' _ _ (h _ (get_setBlock_self hb _) ((Mod.refl _ _).setBlock (.inl (by simp)) _) (by simp [setBlock]))

theorem wpList_drop_at (K : KeyT P kt α f) (hg : o.guard = none) (m x : Operand) (t kt' et : TypeId) (hop : o.op = Op.call { callee := Callee.builtin Builtin.delete, args := #[m, x], argTypes := #[t, kt'] }) (ht : P.underlying t = some (.map kt et)) (b c : Nat) (l : List (α × β × Nat)) (k : α)
    (hm : a.eval m = .map (some b)) (hx : a.eval x = f k) (hb : w.heap[b]? = some (mapObj f g l c)) (hn : (l.map (·.1)).Nodup)
    (h : ∀ w', w'.heap[b]? = some (mapObj f g (l.filter fun e => decide (e.1 ≠ k)) c) → Mod [b] w w' → w'.heap.size = w.heap.size → wpList P ops Q rest (a.put o.dst (.tuple #[])) w') :
    wpList P ops Q (o :: rest) a w := by
  refine wpList_plain hg fun K' hK' => ?_
  have hr := run_drop (ty := o.type) (kt' := kt') K ht hb k hn
  unfold Oper.wp
  simp only [ne_eq, decide_not] at hr h ⊢
  simp [execOp, hop, resolve, invoke, builtin, hm, hx, hr, Result.andThen]
  exact hK' _ _ (h _ (get_setBlock_self hb _) ((Mod.refl _ _).setBlock (.inl (by simp)) _) (by simp [setBlock]))

omit [DecidableEq α] in
theorem wpList_range_at (hg : o.guard = none) (m : Operand) (t et : TypeId) (hop : o.op = Op.range t m) (ht : P.underlying t = some (.map kt et)) (b c : Nat) (l : List (α × β × Nat))
    (hm : a.eval m = .map (some b)) (hb : w.heap[b]? = some (mapObj f g l c))
    (h : ∀ w', IterAt w' w.heap.size b c l l → Mod [] w w' → w'.heap[b]? = some (mapObj f g l c) → w'.heap.size = w.heap.size + 1 → wpList P ops Q rest (a.put o.dst (.pointer (some ⟨w.heap.size, 0, none⟩))) w') :
    wpList P ops Q (o :: rest) a w := by
  refine wpList_plain hg fun K' hK' => ?_
  obtain ⟨hr, hi⟩ := iter_new (P := P) w b c l ht hb
  unfold Oper.wp
  simp [execOp, hop, hm, hr, Result.andThen]
  exact hK' _ _ (h _ hi ((Mod.refl _ _).alloc _) (get_alloc hb _) (by simp))
end
end Go.Proofs.Ytbjgjagbepopfaa
