/-
  CacheFinds: what is found was put last of these names: plainly; and how the walk's world lies. No statement of a claim stands here; each lemma names what it asks.
-/
import Derived.Test.YteifjbfojjjacaaKaX
import Derived.Test.YteifjbfojjjacaaKaE
set_option linter.unusedSimpArgs false
namespace Go.Proofs.Yteifjbfojjjacaa
open Go Go.RowKit Go.ChangeMaps

def TkS.names (t : TkS) : ByteArray × ByteArray := (t.client, t.service)
theorem is_names {t : TkS} {c s : ByteArray} : t.is c s = true ↔ t.names = (c, s) := by simp [TkS.is, TkS.names]
/-- The last of these names. -/
def lastOf (put : Tks) (c s : ByteArray) : Value × TkS := put.foldl (fun acc p => if p.2.is c s then p else acc) (.slice none 0 0, noTk)
theorem lastOf_nil (c s : ByteArray) : lastOf [] c s = (.slice none 0 0, noTk) := rfl
theorem lastOf_more (put : Tks) (p : Value × TkS) (c s : ByteArray) : lastOf (put ++ [p]) c s = if p.2.is c s then p else lastOf put c s := by simp [lastOf]
theorem lastOf_take {put : Tks} {k : Nat} {p : Value × TkS} (h : put[k]? = some p) (c s : ByteArray) : lastOf (put.take (k + 1)) c s = if p.2.is c s then p else lastOf (put.take k) c s := by
  rw [List.take_add_one, h, Option.toList_some, lastOf_more]
theorem lastOf_key {W : World} {put : Tks} (h : ∀ p ∈ put, KeyIn W p.1 p.2.key) (c s : ByteArray) : KeyIn W (lastOf put c s).1 (lastOf put c s).2.key := by
  unfold lastOf
  have gen : ∀ (put : Tks) (acc : Value × TkS), (∀ p ∈ put, KeyIn W p.1 p.2.key) → KeyIn W acc.1 acc.2.key → KeyIn W (put.foldl (fun acc p => if p.2.is c s then p else acc) acc).1 (put.foldl (fun acc p => if p.2.is c s then p else acc) acc).2.key := by
    intro put
    induction put with
    | nil => exact fun acc _ h => h
    | cons p put ih =>
      intro acc hp ha
      rw [List.foldl_cons]
      refine ih _ (fun q hq => hp q (List.mem_cons_of_mem _ hq)) ?_
      split
      · exact hp p List.mem_cons_self
      · exact ha
  exact gen put _ h (.inl ⟨rfl, rfl⟩)

structure FInv (l put : Tks) : Prop where
  nodup : (l.map fun p => p.2.names).Nodup
  last : ∀ p ∈ l, (lastOf put p.2.client p.2.service).2 = p.2

theorem FInv.nil : FInv [] [] := ⟨List.nodup_nil, fun p hp => by cases hp⟩

theorem FInv.put {l put : Tks} (h : FInv l put) (room : Int) (kv kv' : Value) (t : TkS) (ht : t.timesOk = true) : FInv (putS room l kv' t) (put ++ [(kv, t)]) := by
  obtain ⟨l1, hl1, hsub, hno⟩ : ∃ l1, putS room l kv' t = l1 ++ [(kv', t)] ∧ l1.Sublist l ∧ ∀ p ∈ l1, p.2.names ≠ t.names := by
    refine ⟨_, by unfold putS; rw [if_pos ht], ?_, ?_⟩
    · split
      · split
        · exact List.eraseIdx_sublist ..
        · exact List.Sublist.refl _
      · exact List.eraseIdx_sublist ..
    · intro p hp
      rcases at_cases l t.client t.service with ⟨ha, hf⟩ | ⟨k, q, hk, ha, hq, hf⟩
      · have hin : p ∈ l := by
          rw [if_pos ha] at hp
          split at hp
          · exact (List.eraseIdx_sublist ..).subset hp
          · exact hp
        intro e
        exact List.find?_eq_none.1 hf p hin (is_names.2 e)
      · rw [if_neg (by omega), ha] at hp
        simp only [Int.toNat_natCast] at hp
        obtain ⟨i, hik, hi⟩ := List.mem_eraseIdx_iff_getElem?.1 hp
        intro e
        have hqs := List.find?_some hf
        have hqn : q.2.names = t.names := is_names.1 hqs
        refine hik ((List.getElem?_inj (l := l.map fun p => p.2.names) (i := i) (j := k) (by rw [List.length_map]; exact (List.getElem?_eq_some_iff.1 hi).1) h.nodup).1 ?_)
        rw [List.getElem?_map, List.getElem?_map, hi, hq, Option.map_some, Option.map_some, e, hqn]
  rw [hl1]
  refine ⟨?_, fun p hp => ?_⟩
  · rw [List.map_append, List.nodup_append]
    refine ⟨(hsub.map _).nodup h.nodup, by simp, fun a ha b hb => ?_⟩
    obtain ⟨p, hp, rfl⟩ := List.mem_map.1 ha
    simp only [List.map_cons, List.map_nil, List.mem_singleton] at hb
    rw [hb]; exact hno p hp
  · rw [lastOf_more]
    rcases List.mem_append.1 hp with hp | hp
    · have : t.is p.2.client p.2.service = false := by
        rw [Bool.eq_false_iff]
        intro e
        exact hno p hp (is_names.1 e).symm
      dsimp only
      rw [this, if_neg (by simp)]
      exact h.last p (hsub.subset hp)
    · rw [List.mem_singleton.1 hp]
      dsimp only
      rw [if_pos (is_names.2 rfl)]

theorem putS_len {room : Int} {l : Tks} (h : (l.length : Int) ≤ room) (hr : 0 < room) (kv : Value) (t : TkS) : ((putS room l kv t).length : Int) ≤ room := by
  unfold putS
  split
  · rw [List.length_append]
    rcases at_cases l t.client t.service with ⟨ha, -⟩ | ⟨k, q, hk, ha, -, -⟩
    · rw [if_pos ha]
      split
      · rename_i hf
        have hfk : firstS l < l.length := firstTo_in (by omega) (Nat.le_refl _)
        rw [List.length_eraseIdx_of_lt hfk]
        simp; omega
      · simp; omega
    · rw [if_neg (by omega), ha, Int.toNat_natCast, List.length_eraseIdx_of_lt hk]
      simp; omega
  · exact h
theorem putS_mem {room : Int} {l : Tks} {kv : Value} {t : TkS} {p : Value × TkS} (h : p ∈ putS room l kv t) : p ∈ l ∨ p = (kv, t) := by
  unfold putS at h
  split at h
  · rcases List.mem_append.1 h with h | h
    · left
      split at h
      · split at h
        · exact (List.eraseIdx_sublist ..).subset h
        · exact h
      · exact (List.eraseIdx_sublist ..).subset h
    · exact .inr (List.mem_singleton.1 h)
  · exact .inl h

/-- What is found. -/
theorem FInv.found {l put : Tks} (h : FInv l put) {c s : ByteArray} {now : Int} (ho : (findS l c s now).2 = 0) :
    ∃ t : TkS, findS l c s now = (t, 0) ∧ t.client = c ∧ t.service = s ∧ t.from_ ≤ now ∧ now ≤ t.until_ ∧ (lastOf put c s).2 = t := by
  unfold findS at ho ⊢
  split at ho
  · rename_i hn
    rw [if_pos hn]
    cases hf : l.find? (fun p => p.2.is c s) with
    | none => rw [hf] at ho; simp at ho
    | some p =>
      rw [hf] at ho
      dsimp only at ho ⊢
      split at ho
      · rename_i hin
        have hps := List.find?_some hf
        have his := is_names.1 hps
        simp only [TkS.names, Prod.mk.injEq] at his
        have hl := h.last p (List.mem_of_find?_eq_some hf)
        rw [his.1, his.2] at hl
        exact ⟨p.2, if_pos hin, his.1, his.2, hin.1, hin.2, hl⟩
      · simp at ho
  · simp at ho
theorem find_err (l : Tks) (c s : ByteArray) (now : Int) : (findS l c s now).2 = 0 ∨ (findS l c s now).2 = 2 ∨ (findS l c s now).2 = 5 := by
  unfold findS
  split
  · split
    · split <;> simp
    · simp
  · simp

/-- The cache, and what was put, in blocks that are new since W. -/
structure FindsAt (W W' : World) (x : Nat) (v : Value) (room : Int) (l : Tks) (vp : Value) (put : Tks) : Prop where
  held : HeldAt W' x v room l
  row : W'.ownsRow 0 50 7 vp put.length (tkCells put)
  mod : Mod [] W W'
  nx : W.heap.size ≤ x
  nv : ∀ k, v.ownBlock = some k → W.heap.size ≤ k
  np : ∀ k, vp.ownBlock = some k → W.heap.size ≤ k
  ne : ∀ k, vp.ownBlock = some k → v.ownBlock ≠ some k
  keys : ∀ p ∈ put, KeyIn W p.1 p.2.key
  kl : ∀ p ∈ l, p.2.key.length ≤ 140737488355328
  inv : FInv l put
  len : (l.length : Int) ≤ room

theorem FindsAt.mod0 {W W' W'' : World} {x : Nat} {v : Value} {room : Int} {l : Tks} {vp : Value} {put : Tks} (h : FindsAt W W' x v room l vp put) (m : Mod [] W' W'') : FindsAt W W'' x v room l vp put :=
  ⟨h.held.mod0 m, row_mod h.row m (by simp), h.mod.trans m, h.nx, h.nv, h.np, h.ne, h.keys, h.kl, h.inv, h.len⟩
theorem FindsAt.in_ {W W' : World} {x : Nat} {v : Value} {room : Int} {l : Tks} {vp : Value} {put : Tks} (h : FindsAt W W' x v room l vp put) : ∀ k ∈ x :: v.ownBlock.toList, W.heap.size ≤ k := fun k hk => by
  rcases List.mem_cons.1 hk with rfl | hk
  · exact h.nx
  · exact h.nv k (by simpa using hk)
theorem FindsAt.key {W W' W'' : World} {x : Nat} {v : Value} {room : Int} {l : Tks} {vp : Value} {put : Tks} (h : FindsAt W W' x v room l vp put) (m : Mod (x :: v.ownBlock.toList) W' W'') {kv : Value} {k : List Nat} (hk : KeyIn W kv k) : KeyIn W'' kv k :=
  hk.mod (h.mod.trans' m (fun b hb => .inr (h.in_ b hb)))
/-- Put: the cache turns. -/
theorem FindsAt.put {W W1 W2 : World} {x : Nat} {v v' : Value} {room : Int} {l : Tks} {vp : Value} {put : Tks} (h : FindsAt W W1 x v room l vp put) {kv' : Value} {t : TkS} (h2 : HeldAt W2 x v' room (putS room l kv' t)) (m : Mod (x :: v.ownBlock.toList) W1 W2) (hv : ∀ q, v'.ownBlock = some q → v.ownBlock = some q ∨ W1.heap.size ≤ q) (hr : 0 < room) (hkl : t.key.length ≤ 140737488355328) {put' : Tks} (hi : FInv (putS room l kv' t) put') :
    W2.ownsRow 0 50 7 vp put.length (tkCells put) ∧ (∀ k, vp.ownBlock = some k → v'.ownBlock ≠ some k) ∧ Mod [] W W2 ∧ (∀ k, v'.ownBlock = some k → W.heap.size ≤ k) ∧ (∀ p ∈ putS room l kv' t, p.2.key.length ≤ 140737488355328) ∧ ((putS room l kv' t).length : Int) ≤ room := by
  refine ⟨row_mod h.row m (fun k hk hm => ?_), fun k hk e => ?_, h.mod.trans' m (fun b hb => .inr (h.in_ b hb)), fun k hk => ?_, fun p hp => ?_, putS_len h.len hr _ _⟩
  · obtain ⟨c, hc⟩ := row_block h.row hk
    rcases List.mem_cons.1 hm with rfl | hm
    · exact ne_ty hc h.held.cells (by decide) rfl
    · exact h.ne k hk (by simpa using hm)
  · rcases hv k e with e | e
    · exact h.ne k hk e
    · obtain ⟨c, hc⟩ := row_block h.row hk
      have := lt_of_block hc
      omega
  · rcases hv k hk with e | e
    · exact h.nv k e
    · exact Nat.le_trans h.mod.size e
  · rcases putS_mem hp with hp | rfl
    · exact h.kl p hp
    · exact hkl
theorem FindsAt.same {W W1 W2 : World} {x : Nat} {v v' : Value} {room : Int} {l : Tks} {vp : Value} {put : Tks} (h : FindsAt W W1 x v room l vp put) {kv' : Value} {t : TkS} (h2 : HeldAt W2 x v' room (putS room l kv' t)) (m : Mod (x :: v.ownBlock.toList) W1 W2) (hv : ∀ q, v'.ownBlock = some q → v.ownBlock = some q ∨ W1.heap.size ≤ q) (hr : 0 < room) (hkl : t.key.length ≤ 140737488355328) (ht : t.timesOk = false) : FindsAt W W2 x v' room l vp put := by
  have e : putS room l kv' t = l := by unfold putS; rw [ht]; rfl
  have hi : FInv (putS room l kv' t) put := by rw [e]; exact h.inv
  obtain ⟨a1, a2, a3, a4, a5, a6⟩ := h.put h2 m hv hr hkl hi
  rw [e] at h2 a5 a6
  exact ⟨h2, a1, a3, h.nx, a4, h.np, a2, h.keys, a5, h.inv, a6⟩
/-- One more was put. -/
theorem FindsAt.more {W W1 : World} {x : Nat} {v : Value} {room : Int} {l : Tks} {vp kv : Value} {put : Tks} {t : TkS} (hx : HeldAt W1 x v room l) (hrow : W1.ownsRow 0 50 7 vp put.length (tkCells put)) (hne : ∀ k, vp.ownBlock = some k → v.ownBlock ≠ some k) (hm : Mod [] W W1) (hnx : W.heap.size ≤ x) (hnv : ∀ k, v.ownBlock = some k → W.heap.size ≤ k) (hnp : ∀ k, vp.ownBlock = some k → W.heap.size ≤ k)
    (hkl : ∀ p ∈ l, p.2.key.length ≤ 140737488355328) (hlen : (l.length : Int) ≤ room) (hkeys : ∀ p ∈ put, KeyIn W p.1 p.2.key) (hk : KeyIn W kv t.key) (hi : FInv l (put ++ [(kv, t)])) (hl : put.length ≤ 1000) :
    ∃ v' w', (Builtin.append_ #[46, 46] 46 #[vp, .slice (some ⟨W1.heap.size, 0, none⟩) 1 1]).run Try.prog (W1.alloc (.cells (t.cells kv).toArray 50)) = .ok v' w' ∧ FindsAt W w' x v room l v' (put ++ [(kv, t)]) := by
  have ma : Mod [] W1 (W1.alloc (.cells (t.cells kv).toArray 50)) := Mod.alloc (Mod.refl _ _) _
  obtain ⟨v', w', hrun, ho, hm', hk', -⟩ := elemTk.app (W1.alloc (.cells (t.cells kv).toArray 50)) 46 vp put.length _ (row_mod hrow ma (by simp)) W1.heap.size 1 _ _ _ (get_new W1 _) rfl (by
    intro u hu
    simp only [TkS.cells, List.mem_cons, List.not_mem_nil, or_false, List.toList_toArray] at hu
    have hkv : kv.oneCell' = true := by
      rcases hk with ⟨rfl, -⟩ | ⟨ad, c, rfl, -⟩ <;> rfl
    rcases hu with rfl | rfl | rfl | rfl | rfl | rfl | rfl <;> first | rfl | exact hkv) (by unfold maxLen; omega) (by omega)
  have hx1 : HeldAt w' x v room l := by
    have h1 := hx.mod0 ma
    refine ⟨hm'.get h1.cells (fun hq => ?_), row_mod h1.row hm' (fun k hk hq => ?_), fun p hp => row_mod (h1.keys p hp) hm' (fun k hk hq => ?_)⟩
    · have e : vp.ownBlock = some x := by simpa using hq
      obtain ⟨c, hc⟩ := row_block hrow e
      exact ne_ty hc hx.cells (by decide) rfl
    · exact hne k (by simpa using hq) hk
    · have e : vp.ownBlock = some k := by simpa using hq
      obtain ⟨c, hc⟩ := row_block hrow e
      obtain ⟨c', hc'⟩ := row_block (hx.keys p hp) hk
      exact ne_ty hc hc' (by decide) rfl
  refine ⟨v', w', hrun, hx1, ?_, (hm.trans ma).trans' hm' (fun k hk => .inr (hnp k (by simpa using hk))), hnx, hnv, fun k hk => ?_, fun k hk e => ?_, fun p hp => ?_, hkl, hi, hlen⟩
  · rw [tkCells_append, List.length_append]
    simpa [tkCells] using ho
  · rcases hk' k hk with h3 | h3
    · exact hnp k h3
    · have := hm.size; simp at h3; omega
  · rcases hk' k hk with h3 | h3
    · exact hne k h3 e
    · obtain ⟨c, hc⟩ := row_block hx.row e
      have := lt_of_block hc
      simp at h3; omega
  · rcases List.mem_append.1 hp with hp | hp
    · exact hkeys p hp
    · rw [List.mem_singleton.1 hp]; exact hk
end Go.Proofs.Yteifjbfojjjacaa
