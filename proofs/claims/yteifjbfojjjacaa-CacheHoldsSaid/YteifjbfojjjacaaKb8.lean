/-
  CacheHolds: the cache and the reference's, plainly; and how both lie. No statement of a claim stands here; each lemma names what it asks.
-/
import Derived.Test.YteifjbfojjjacaaKb7
import Derived.Test.YteifjbfojjjacaaKaZ
set_option linter.unusedSimpArgs false
namespace Go.Proofs.Yteifjbfojjjacaa
open Go Go.RowKit Go.ChangeMaps

def bare (l : Tks) : List TkS := l.map (·.2)
theorem bare_len {l m : Tks} (h : bare l = bare m) : l.length = m.length := by
  have := congrArg List.length h
  simpa [bare] using this
theorem bare_erase {l m : Tks} (h : bare l = bare m) (i : Nat) : bare (l.eraseIdx i) = bare (m.eraseIdx i) := by
  unfold bare at *
  rw [← erase_map, ← erase_map, h]
theorem bare_more {l m : Tks} (h : bare l = bare m) (kv ku : Value) (t : TkS) : bare (l ++ [(kv, t)]) = bare (m ++ [(ku, t)]) := by
  unfold bare at *
  simp [h]
theorem idx_bare (l : Tks) (c s : ByteArray) : l.findIdx? (fun p => p.2.is c s) = (bare l).findIdx? (fun t => t.is c s) := by
  unfold bare
  rw [List.findIdx?_map]
  rfl
theorem until_bare {l m : Tks} (h : bare l = bare m) (i : Nat) : untilAt l i = untilAt m i := by
  have e : ∀ l : Tks, untilAt l i = (((bare l)[i]?).map fun t => t.until_).getD 0 := fun l => by
    unfold untilAt bare
    rw [List.getElem?_map]
    cases l[i]? <;> rfl
  rw [e, e, h]
theorem first_bare {l m : Tks} (h : bare l = bare m) : firstS l = firstS m := by
  unfold firstS
  rw [bare_len h]
  generalize m.length = n
  induction n with
  | zero => rfl
  | succ n ih => simp only [firstTo, until_bare h, ih]

theorem put_bare {room : Int} {l m : Tks} (h : bare l = bare m) (hl : (l.length : Int) ≤ room) (kv ku : Value) (t : TkS) : bare (putS room l kv t) = bare (rputS room m ku t) := by
  unfold putS rputS
  split
  · refine bare_more ?_ _ _ _
    have hi := idx_bare l t.client t.service
    rw [h, ← idx_bare] at hi
    have hlen := bare_len h
    unfold atS gone
    rw [hi]
    cases hm : m.findIdx? (fun p => p.2.is t.client t.service) with
    | none =>
      dsimp only
      rw [if_pos rfl]
      unfold roomy
      by_cases hf : (l.length : Int) = room
      · rw [if_pos hf, if_pos (by omega), first_bare h]
        exact bare_erase h _
      · rw [if_neg hf, if_neg (by omega)]
        exact h
    | some k =>
      dsimp only
      have hk : k < m.length := by
        rw [List.findIdx?_eq_some_iff_getElem] at hm
        exact hm.1
      rw [if_neg (by omega), Int.toNat_natCast]
      unfold roomy
      rw [if_neg (by rw [List.length_eraseIdx_of_lt hk]; omega)]
      exact bare_erase h _
  · exact h

theorem drop_bare {l m : Tks} (h : bare l = bare m) (now : Int) : bare (dropS l now) = bare (dropS m now) ∧ dropN l now = dropN m now := by
  have hk : bare (keepS l now) = bare (keepS m now) := by
    have e : ∀ l : Tks, bare (keepS l now) = (bare l).filter (fun t => !decide (t.until_ < now)) := fun l => by
      unfold bare keepS
      rw [List.filter_map]
      rfl
    rw [e, e, h]
  unfold dropS dropN
  cases timeOk now with
  | false => exact ⟨h, rfl⟩
  | true =>
    simp only [if_true]
    exact ⟨hk, by rw [bare_len h, bare_len hk]⟩

theorem find_bare {l m : Tks} (h : bare l = bare m) (hn : (l.map fun p => p.2.names).Nodup) (c s : ByteArray) (now : Int) : findS l c s now = rfindS m c s now := by
  have e : ∀ l : Tks, rfindS l c s now = if timeOk now then match (bare l).find? (fun t => t.hit c s now) with | some t => (t, (0 : Int)) | none => (noTk, 5) else (noTk, 2) := fun l => by
    unfold rfindS bare
    rw [List.find?_map]
    congr 1
    rw [show ((fun t : TkS => t.hit c s now) ∘ fun x : Value × TkS => x.2) = fun p => p.2.hit c s now from rfl]
    cases l.find? (fun p => p.2.hit c s now) <;> rfl
  rw [e, ← h, ← e]
  unfold findS rfindS
  split
  · cases hf : l.find? (fun p => p.2.is c s) with
    | none =>
      have : l.find? (fun p => p.2.hit c s now) = none := by
        rw [List.find?_eq_none] at hf ⊢
        intro p hp
        have := hf p hp
        simp only [TkS.hit, Bool.and_eq_true, not_and] at this ⊢
        exact fun h => absurd h this
      rw [this]
    | some p =>
      dsimp only
      have hp := hf
      rw [List.find?_eq_some_iff_getElem] at hp
      obtain ⟨hps, i, hi, hip, hbefore⟩ := hp
      by_cases hin : p.2.from_ ≤ now ∧ now ≤ p.2.until_
      · rw [if_pos hin]
        have : l.find? (fun p => p.2.hit c s now) = some p := by
          rw [List.find?_eq_some_iff_getElem]
          refine ⟨by simp only [TkS.hit, hps, Bool.true_and, Bool.and_eq_true, decide_eq_true_eq]; exact hin, i, hi, hip, fun j hj => ?_⟩
          have := hbefore j hj
          simp only [Bool.not_eq_true'] at this
          simp only [TkS.hit, this, Bool.false_and, Bool.not_false]
        rw [this]
      · rw [if_neg hin]
        have : l.find? (fun p => p.2.hit c s now) = none := by
          rw [List.find?_eq_none]
          intro q hq hh
          simp only [TkS.hit, Bool.and_eq_true, decide_eq_true_eq] at hh
          have e1 := is_names.1 hh.1
          have e2 := is_names.1 hps
          obtain ⟨j, hj, hjq⟩ := List.mem_iff_getElem.1 hq
          have : i = j := by
            refine (List.getElem?_inj (l := l.map fun p => p.2.names) (i := i) (j := j) (by simpa using hi) hn).1 ?_
            rw [List.getElem?_map, List.getElem?_map, List.getElem?_eq_getElem hi, List.getElem?_eq_getElem hj, hip, hjq, Option.map_some, Option.map_some, e1, e2]
          subst this
          rw [hip] at hjq
          rw [hjq] at hin
          exact hin hh.2
        rw [this]
  · rfl

theorem FInv.dropped {l put : Tks} (h : FInv l put) (now : Int) : FInv (dropS l now) put := by
  unfold dropS
  split
  · exact ⟨(List.Sublist.map _ (List.filter_sublist (p := fun p : Value × TkS => !decide (p.2.until_ < now)))).nodup h.nodup, fun p hp => h.last p (List.mem_filter.1 hp).1⟩
  · exact h

/-- Both hold the same. -/
structure Twin (room : Int) (l m put : Tks) : Prop where
  same : bare l = bare m
  inv : FInv l put
  len : (l.length : Int) ≤ room
  kl : ∀ p ∈ l, p.2.key.length ≤ 140737488355328
theorem Twin.put {room : Int} {l m put : Tks} (h : Twin room l m put) (hr : 0 < room) (kv ku : Value) (t : TkS) (hk : t.key.length ≤ 140737488355328) : ∃ put', Twin room (putS room l kv t) (rputS room m ku t) put' := by
  cases ht : t.timesOk with
  | false =>
    have e1 : putS room l kv t = l := by unfold putS; rw [ht]; rfl
    have e2 : rputS room m ku t = m := by unfold rputS; rw [ht]; rfl
    rw [e1, e2]
    exact ⟨put, h⟩
  | true =>
    refine ⟨_, put_bare h.same h.len kv ku t, h.inv.put room kv kv t ht, putS_len h.len hr kv t, fun p hp => ?_⟩
    rcases putS_mem hp with hp | rfl
    · exact h.kl p hp
    · exact hk
theorem Twin.drop {room : Int} {l m put : Tks} (h : Twin room l m put) (now : Int) : Twin room (dropS l now) (dropS m now) put := by
  have hsub : ∀ p ∈ dropS l now, p ∈ l := fun p hp => by
    unfold dropS at hp
    split at hp
    · exact (List.mem_filter.1 hp).1
    · exact hp
  refine ⟨(drop_bare h.same now).1, h.inv.dropped now, ?_, fun p hp => h.kl p (hsub p hp)⟩
  have hlen := h.len
  unfold dropS
  split
  · have : (keepS l now).length ≤ l.length := List.length_filter_le _ _
    omega
  · exact hlen

/-- Where both lie. -/
structure TwoAt (W W' : World) (x y : Nat) (vx vy : Value) (room : Int) (l m : Tks) : Prop where
  held : HeldAt W' x vx room l
  ref : RHeldAt W' y vy room m
  mod : Mod [] W W'
  nx : W.heap.size ≤ x
  ny : W.heap.size ≤ y
  nvx : ∀ k, vx.ownBlock = some k → W.heap.size ≤ k
  nvy : ∀ k, vy.ownBlock = some k → W.heap.size ≤ k
  dis : ∀ k, vx.ownBlock = some k → vy.ownBlock ≠ some k
theorem TwoAt.mod0 {W W1 W2 : World} {x y : Nat} {vx vy : Value} {room : Int} {l m : Tks} (h : TwoAt W W1 x y vx vy room l m) (hm : Mod [] W1 W2) : TwoAt W W2 x y vx vy room l m :=
  ⟨h.held.mod0 hm, h.ref.mod0 hm, h.mod.trans hm, h.nx, h.ny, h.nvx, h.nvy, h.dis⟩
theorem TwoAt.inx {W W1 : World} {x y : Nat} {vx vy : Value} {room : Int} {l m : Tks} (h : TwoAt W W1 x y vx vy room l m) : ∀ k ∈ x :: vx.ownBlock.toList, W.heap.size ≤ k ∧ k < W1.heap.size ∧ ∃ c T, W1.heap[k]? = some (.cells c T (0, 0)) ∧ (T = 69 ∨ T = 50) := fun k hk => by
  rcases List.mem_cons.1 hk with rfl | hk
  · exact ⟨h.nx, lt_of_block h.held.cells, _, _, h.held.cells, .inl rfl⟩
  · have hk : vx.ownBlock = some k := by simpa using hk
    obtain ⟨c, hc⟩ := row_block h.held.row hk
    exact ⟨h.nvx k hk, lt_of_block hc, _, _, hc, .inr rfl⟩
theorem TwoAt.iny {W W1 : World} {x y : Nat} {vx vy : Value} {room : Int} {l m : Tks} (h : TwoAt W W1 x y vx vy room l m) : ∀ k ∈ y :: vy.ownBlock.toList, W.heap.size ≤ k ∧ k < W1.heap.size ∧ ∃ c T, W1.heap[k]? = some (.cells c T (0, 0)) ∧ (T = 64 ∨ T = 50) := fun k hk => by
  rcases List.mem_cons.1 hk with rfl | hk
  · exact ⟨h.ny, lt_of_block h.ref.cells, _, _, h.ref.cells, .inl rfl⟩
  · have hk : vy.ownBlock = some k := by simpa using hk
    obtain ⟨c, hc⟩ := row_block h.ref.row hk
    exact ⟨h.nvy k hk, lt_of_block hc, _, _, hc, .inr rfl⟩
/-- The cache turns. -/
theorem TwoAt.prog {W W1 W2 : World} {x y : Nat} {vx vx' vy : Value} {room : Int} {l l' m : Tks} (h : TwoAt W W1 x y vx vy room l m) (h2 : HeldAt W2 x vx' room l') (hm : Mod (x :: vx.ownBlock.toList) W1 W2) (hv : ∀ q, vx'.ownBlock = some q → vx.ownBlock = some q ∨ W1.heap.size ≤ q) : TwoAt W W2 x y vx' vy room l' m := by
  have hy : y ∉ x :: vx.ownBlock.toList := fun hk => by
    obtain ⟨-, -, c, T, hc, hT⟩ := h.inx y hk
    rcases hT with rfl | rfl <;> exact ne_ty hc h.ref.cells (by decide) rfl
  have hvy : ∀ k, vy.ownBlock = some k → k ∉ x :: vx.ownBlock.toList := fun k hk hm => by
    rcases List.mem_cons.1 hm with rfl | hm
    · obtain ⟨c, hc⟩ := row_block h.ref.row hk
      exact ne_ty hc h.held.cells (by decide) rfl
    · exact h.dis k (by simpa using hm) hk
  refine ⟨h2, ⟨hm.get h.ref.cells hy, row_mod h.ref.row hm hvy, fun p hp => row_mod (h.ref.keys p hp) hm (KeyOwn.apart (h.ref.keys p hp) (fun b hb => ?_))⟩, h.mod.trans' hm (fun k hk => .inr (h.inx k hk).1), h.nx, h.ny, fun k hk => ?_, h.nvy, fun k hk hk' => ?_⟩
  · obtain ⟨-, -, c, T, hc, hT⟩ := h.inx b hb
    exact ⟨c, T, hc, by rcases hT with rfl | rfl <;> decide⟩
  · rcases hv k hk with h' | h'
    · exact h.nvx k h'
    · exact Nat.le_trans h.mod.size h'
  · rcases hv k hk with h' | h'
    · exact h.dis k h' hk'
    · have := (h.iny k (List.mem_cons_of_mem _ (by simpa using hk'))).2.1
      omega
/-- The reference's turns. -/
theorem TwoAt.refp {W W1 W2 : World} {x y : Nat} {vx vy vy' : Value} {room : Int} {l m m' : Tks} (h : TwoAt W W1 x y vx vy room l m) (h2 : RHeldAt W2 y vy' room m') (hm : Mod (y :: vy.ownBlock.toList) W1 W2) (hv : ∀ q, vy'.ownBlock = some q → vy.ownBlock = some q ∨ W1.heap.size ≤ q) : TwoAt W W2 x y vx vy' room l m' := by
  have hx : x ∉ y :: vy.ownBlock.toList := fun hk => by
    obtain ⟨-, -, c, T, hc, hT⟩ := h.iny x hk
    rcases hT with rfl | rfl <;> exact ne_ty hc h.held.cells (by decide) rfl
  have hvx : ∀ k, vx.ownBlock = some k → k ∉ y :: vy.ownBlock.toList := fun k hk hm => by
    rcases List.mem_cons.1 hm with rfl | hm
    · obtain ⟨c, hc⟩ := row_block h.held.row hk
      exact ne_ty hc h.ref.cells (by decide) rfl
    · exact h.dis k hk (by simpa using hm)
  refine ⟨⟨hm.get h.held.cells hx, row_mod h.held.row hm hvx, fun p hp => row_mod (h.held.keys p hp) hm (KeyOwn.apart (h.held.keys p hp) (fun b hb => ?_))⟩, h2, h.mod.trans' hm (fun k hk => .inr (h.iny k hk).1), h.nx, h.ny, h.nvx, fun k hk => ?_, fun k hk hk' => ?_⟩
  · obtain ⟨-, -, c, T, hc, hT⟩ := h.iny b hb
    exact ⟨c, T, hc, by rcases hT with rfl | rfl <;> decide⟩
  · rcases hv k hk with h' | h'
    · exact h.nvy k h'
    · exact Nat.le_trans h.mod.size h'
  · rcases hv k hk' with h' | h'
    · exact h.dis k hk h'
    · have := (h.inx k (List.mem_cons_of_mem _ (by simpa using hk))).2.1
      omega
theorem TwoAt.key {W W1 W2 : World} {x y : Nat} {vx vy : Value} {room : Int} {l m : Tks} (h : TwoAt W W1 x y vx vy room l m) {S : List Nat} (hm : Mod S W1 W2) (hS : ∀ k ∈ S, W.heap.size ≤ k) {kv : Value} {k : List Nat} (hk : KeyIn W kv k) : KeyIn W2 kv k :=
  hk.mod (h.mod.trans' hm (fun b hb => .inr (hS b hb)))
end Go.Proofs.Yteifjbfojjjacaa
