/-
  'send' of the statements' world: what its stores leave. No statement of a claim stands here; each lemma names what it asks.
-/
import Derived.Test.YtnpmjpdndhedgaaL0
set_option linter.unusedSimpArgs false
namespace Go.Proofs.Ytnpmjpdndhedgaa
open Go Go.RowKit Go.ChangeMaps

theorem Apart.mod {W W' : World} {v vw va : Value} {out : List Msg} {S : List Nat} (h : Apart W v vw va out) (m : Mod S W W') (hS : ∀ k, v.ownBlock = some k → k ∉ S) : Apart W' v vw va out := ⟨row_mod h.row m hS, h.w, h.a⟩
theorem Apart.lt {W : World} {v vw va : Value} {out : List Msg} (h : Apart W v vw va out) {k : Nat} (hk : v.ownBlock = some k) : k < W.heap.size := by
  obtain ⟨c, hc⟩ := row_block h.row hk; exact lt_of_block hc

/-- One message more was sent. -/
theorem push_all {W W2 : World} {lw : Nat} {vn vt vw va va2 v : Value} {pl : List Loc} {L : LawS} {out : List Msg} {m : Msg} (h : LawAt W lw vn vt vw va pl L) (g : Apart W v vw va out)
    (hm : Mod va.ownBlock.toList W W2) (ho : W2.ownsRow 0 39 4 va2 (L.all.length + 1) (msgCells L.all ++ m.cells)) (hn : ∀ k, va2.ownBlock = some k → va.ownBlock = some k ∨ W.heap.size ≤ k) :
    LawAt (W2.setCell ⟨lw, 6, none⟩ va2) lw vn vt vw va2 pl { L with all := L.all ++ [m] } ∧ Apart (W2.setCell ⟨lw, 6, none⟩ va2) v vw va2 out ∧ Mod (lw :: va.ownBlock.toList) W (W2.setCell ⟨lw, 6, none⟩ va2) := by
  obtain ⟨e1, e2, e3, e4, e5⟩ := h.set
  have hmB : Mod (lw :: va.ownBlock.toList) W (W2.setCell ⟨lw, 6, none⟩ va2) := Mod.setCell (hm.mono (fun x hx => .inl (List.mem_cons_of_mem _ hx))) (by simp) _
  have hlw : lw ∉ va.ownBlock.toList := own_not e4
  have hset : Mod [lw] W2 (W2.setCell ⟨lw, 6, none⟩ va2) := Mod.setCell (Mod.refl _ _) (by simp) _
  have hltw := lt_of_block h.cells
  have hcc := get_setCell_self (hm.get h.cells hlw) 6 va2
  have hne : ∀ k, va2.ownBlock = some k → k ≠ lw := fun k hk => by
    rcases hn k hk with h1 | h1
    · exact e4 k h1
    · omega
  have hoff : ∀ k, vw.ownBlock = some k → k ∉ lw :: va.ownBlock.toList := fun k hk => by
    simp only [List.mem_cons, not_or, Option.mem_toList]
    exact ⟨e3 k hk, fun h1 => h.wa k hk h1⟩
  have hofft : ∀ k, vt.ownBlock = some k → k ∉ lw :: va.ownBlock.toList := fun k hk => by
    simp only [List.mem_cons, not_or, Option.mem_toList]
    refine ⟨e2 k hk, fun h1 => ?_⟩
    obtain ⟨c, hc⟩ := row_block h.dest hk
    obtain ⟨c', hc'⟩ := row_block h.all h1
    exact ne_ty hc hc' (by decide) rfl
  refine ⟨?_, ⟨row_mod g.row hmB (fun k hk => ?_), g.w, fun k hk h1 => ?_⟩, hmB⟩
  · refine h.rows (ds' := L.dest) (wait' := L.wait) (all' := L.all ++ [m]) hmB (fun k hk => ?_) hcc (row_mod h.dest hmB hofft) (row_mod h.wait hmB hoff) ?_ (fun k hk h1 => ?_)
    · simp only [List.mem_cons, Option.mem_toList] at hk
      rcases hk with h1 | h1
      · exact .inl h1
      · exact .inr (.inr (.inr h1))
    · have := row_mod ho hset (fun k hk => by simpa using hne k hk)
      rw [msgCells_append, List.length_append]
      simpa [msgCells] using this
    · rcases hn k h1 with h2 | h2
      · exact h.wa k hk h2
      · obtain ⟨c, hc⟩ := row_block h.wait hk
        have := lt_of_block hc
        omega
  · simp only [List.mem_cons, not_or, Option.mem_toList]
    refine ⟨fun h1 => ?_, fun h1 => g.a k hk h1⟩
    obtain ⟨c, hc⟩ := row_block g.row hk
    exact ne_ty hc h.cells (by decide) h1
  · rcases hn k h1 with h2 | h2
    · exact g.a k hk h2
    · have := g.lt hk; omega

/-- While a message is laid for one after another: j of them have it. -/
def InRel (W0 : World) (lw : Nat) (vn vt0 vw0 va v : Value) (pl : List Loc) (L : LawS) (out : List Msg) (m : Msg) (gk : Nat) (i : Value) (W : World) : Prop :=
  ∃ (j : Nat) (vt vw : Value), gk + j = L.good ∧ j ≤ L.good ∧ i = nat (1 + j) ∧
    LawAt W lw vn vt vw va pl { L with dest := L.dest ++ (List.range j).map (1 + ·), wait := L.wait ++ List.replicate j m } ∧ Apart W v vw va out ∧
    Mod (lw :: (vt0.ownBlock.toList ++ vw0.ownBlock.toList)) W0 W ∧
    (∀ k, vt.ownBlock = some k → vt0.ownBlock = some k ∨ W0.heap.size ≤ k) ∧ (∀ k, vw.ownBlock = some k → vw0.ownBlock = some k ∨ W0.heap.size ≤ k)

/-- One more has the message. -/
theorem in_step {W0 wr W4 : World} {lw : Nat} {vn vt0 vw0 vt1 vw1 vt2 vw2 va v : Value} {pl : List Loc} {L : LawS} {out : List Msg} {m : Msg} {j gk : Nat} (hgk : gk + (j + 1) = L.good)
    (h : LawAt wr lw vn vt1 vw1 va pl { L with dest := L.dest ++ (List.range j).map (1 + ·), wait := L.wait ++ List.replicate j m }) (g : Apart wr v vw1 va out)
    (hmod : Mod (lw :: (vt0.ownBlock.toList ++ vw0.ownBlock.toList)) W0 wr)
    (ht1 : ∀ k, vt1.ownBlock = some k → vt0.ownBlock = some k ∨ W0.heap.size ≤ k) (hw1 : ∀ k, vw1.ownBlock = some k → vw0.ownBlock = some k ∨ W0.heap.size ≤ k)
    (hm4 : Mod (vt1.ownBlock.toList ++ vw1.ownBlock.toList) wr W4)
    (ho : W4.ownsRow 0 3 1 vt2 (L.dest.length + j + 1) ((L.dest ++ (List.range j).map (1 + ·)).map nat ++ [nat (1 + j)]))
    (hw : W4.ownsRow 0 39 4 vw2 (L.wait.length + j + 1) (msgCells (L.wait ++ List.replicate j m) ++ m.cells))
    (hl2 : ∀ k, vt2.ownBlock = some k → vt1.ownBlock = some k ∨ wr.heap.size ≤ k) (hl4 : ∀ k, vw2.ownBlock = some k → vw1.ownBlock = some k ∨ wr.heap.size ≤ k) :
    InRel W0 lw vn vt0 vw0 va v pl L out m gk (nat (1 + (j + 1))) ((W4.setCell ⟨lw, 4, none⟩ vt2).setCell ⟨lw, 5, none⟩ vw2) := by
  obtain ⟨e1, e2, e3, e4, e5⟩ := h.set
  have hlw : lw ∉ vt1.ownBlock.toList ++ vw1.ownBlock.toList := by
    simp only [List.mem_append, not_or]
    exact ⟨own_not e2, own_not e3⟩
  have hmB : Mod (lw :: (vt1.ownBlock.toList ++ vw1.ownBlock.toList)) wr ((W4.setCell ⟨lw, 4, none⟩ vt2).setCell ⟨lw, 5, none⟩ vw2) :=
    Mod.setCell (Mod.setCell (hm4.mono (fun x hx => .inl (List.mem_cons_of_mem _ hx))) (by simp) _) (by simp) _
  have hc4 := hm4.get h.cells hlw
  have hltw := lt_of_block h.cells
  have hlw2 : ∀ k, vt2.ownBlock = some k → k ≠ lw := fun k hk => by
    rcases hl2 k hk with h1 | h1
    · exact e2 k h1
    · omega
  have hlw4 : ∀ k, vw2.ownBlock = some k → k ≠ lw := fun k hk => by
    rcases hl4 k hk with h1 | h1
    · exact e3 k h1
    · omega
  have hset : Mod [lw] W4 ((W4.setCell ⟨lw, 4, none⟩ vt2).setCell ⟨lw, 5, none⟩ vw2) := Mod.setCell (Mod.setCell (Mod.refl _ _) (by simp) _) (by simp) _
  have ho' := row_mod ho hset (fun k hk => by simpa using hlw2 k hk)
  have hw' := row_mod hw hset (fun k hk => by simpa using hlw4 k hk)
  have hcc := get_setCell_self (get_setCell_self hc4 4 vt2) 5 vw2
  have hoff : ∀ k, va.ownBlock = some k → k ∉ lw :: (vt1.ownBlock.toList ++ vw1.ownBlock.toList) := fun k hk => by
    simp only [List.mem_cons, List.mem_append, not_or, Option.mem_toList]
    refine ⟨e4 k hk, fun h1 => ?_, fun h1 => h.wa k h1 hk⟩
    obtain ⟨c, hc⟩ := row_block h.dest h1
    obtain ⟨c', hc'⟩ := row_block h.all hk
    exact ne_ty hc hc' (by decide) rfl
  have hvoff : ∀ k, v.ownBlock = some k → k ∉ lw :: (vt1.ownBlock.toList ++ vw1.ownBlock.toList) := fun k hk => by
    obtain ⟨c, hc⟩ := row_block g.row hk
    simp only [List.mem_cons, List.mem_append, not_or, Option.mem_toList]
    refine ⟨ne_ty hc h.cells (by decide), fun h1 => ?_, fun h1 => g.w k hk h1⟩
    obtain ⟨c', hc'⟩ := row_block h.dest h1
    exact ne_ty hc hc' (by decide) rfl
  have hva := row_mod h.all hmB hoff
  refine ⟨j + 1, vt2, vw2, hgk, by omega, rfl, ?_, ⟨row_mod g.row hmB hvoff, fun k hk h1 => ?_, g.a⟩, ?_, ?_, ?_⟩
  · have := h.rows (ds' := L.dest ++ (List.range (j + 1)).map (1 + ·)) (wait' := L.wait ++ List.replicate (j + 1) m) (all' := L.all) hmB (fun k hk => ?_) hcc ?_ ?_ hva (fun k hk h1 => ?_)
    · exact this
    · simp only [List.mem_cons, List.mem_append, Option.mem_toList] at hk
      rcases hk with h1 | h1 | h1
      · exact .inl h1
      · exact .inr (.inl h1)
      · exact .inr (.inr (.inl h1))
    · have e : (L.dest ++ (List.range (j + 1)).map (1 + ·)).length = L.dest.length + j + 1 := by simp; omega
      rw [e, List.range_succ]
      simp only [List.map_append, List.map_cons, List.map_nil, ← List.append_assoc] at ho' ⊢
      exact ho'
    · have e : (L.wait ++ List.replicate (j + 1) m).length = L.wait.length + j + 1 := by simp; omega
      rw [e, List.replicate_succ', ← List.append_assoc, msgCells_append]
      simpa [msgCells] using hw'
    · rcases hl4 k hk with h2 | h2
      · exact h.wa k h2 h1
      · obtain ⟨c, hc⟩ := row_block h.all h1
        have := lt_of_block hc
        omega
  · rcases hl4 k h1 with h2 | h2
    · exact g.w k hk h2
    · have := g.lt hk; omega
  · refine hmod.trans' hmB (fun x hx => ?_)
    simp only [List.mem_cons, List.mem_append, Option.mem_toList] at hx
    rcases hx with rfl | h1 | h1
    · exact .inl (by simp)
    · rcases ht1 x h1 with h2 | h2
      · exact .inl (by simp [h2])
      · exact .inr h2
    · rcases hw1 x h1 with h2 | h2
      · exact .inl (by simp [h2])
      · exact .inr h2
  · intro k hk
    rcases hl2 k hk with h1 | h1
    · exact ht1 k h1
    · exact .inr (Nat.le_trans hmod.size h1)
  · intro k hk
    rcases hl4 k hk with h1 | h1
    · exact hw1 k h1
    · exact .inr (Nat.le_trans hmod.size h1)

/-- While messages are sent: j of them were. -/
def SendRel (W0 : World) (lw : Nat) (vn vt0 vw0 va0 v : Value) (pl : List Loc) (L : LawS) (out : List Msg) (gk : Nat) (i : Value) (W : World) : Prop :=
  ∃ (j : Nat) (vt vw va : Value), gk + j = out.length ∧ i = nat j ∧ LawAt W lw vn vt vw va pl (sendS L (out.take j)) ∧ Apart W v vw va out ∧
    Mod (lw :: (vt0.ownBlock.toList ++ vw0.ownBlock.toList ++ va0.ownBlock.toList)) W0 W ∧
    (∀ k, vt.ownBlock = some k → vt0.ownBlock = some k ∨ W0.heap.size ≤ k) ∧ (∀ k, vw.ownBlock = some k → vw0.ownBlock = some k ∨ W0.heap.size ≤ k) ∧ (∀ k, va.ownBlock = some k → va0.ownBlock = some k ∨ W0.heap.size ≤ k)

theorem sendS_take (L : LawS) (out : List Msg) (j : Nat) (m : Msg) (h : out[j]? = some m) : sendS L (out.take (j + 1)) = send1 (sendS L (out.take j)) m := by
  rw [List.take_add_one, h]
  simp [sendS, List.foldl_append]
theorem sendS_same (L : LawS) (l : List Msg) : (sendS L l).n = L.n ∧ (sendS L l).t = L.t ∧ (sendS L l).good = L.good ∧ (sendS L l).nodes = L.nodes ∧ (sendS L l).dest.length = L.dest.length + l.length * L.good ∧ (sendS L l).wait.length = L.wait.length + l.length * L.good ∧ (sendS L l).all = L.all ++ l := by
  induction l generalizing L with
  | nil => simp [sendS]
  | cons m l ih =>
    obtain ⟨h1, h2, h3, h4, h5, h6, h7⟩ := ih (send1 L m)
    have e : sendS L (m :: l) = sendS (send1 L m) l := rfl
    rw [e]
    refine ⟨h1, h2, h3, h4, ?_, ?_, ?_⟩
    · rw [h5]; simp [send1, Nat.succ_mul]; omega
    · rw [h6]; simp [send1, Nat.succ_mul]; omega
    · rw [h7]; simp [send1]

/-- All have it. -/
theorem send_step {W0 wr W3 W : World} {lw : Nat} {vn vt0 vw0 va0 vt1 vw1 va1 vt2 vw2 va2 v : Value} {pl : List Loc} {L Lj La : LawS} {out : List Msg} {m : Msg} {j j2 gk : Nat} (hgk : gk + (j + 1) = out.length) (hm : out[j]? = some m) (hLj : Lj = sendS L (out.take j)) (hLa : La = { Lj with all := Lj.all ++ [m] }) (hj2 : j2 = La.good)
    (hmod : Mod (lw :: (vt0.ownBlock.toList ++ vw0.ownBlock.toList ++ va0.ownBlock.toList)) W0 wr) (ht1 : ∀ k, vt1.ownBlock = some k → vt0.ownBlock = some k ∨ W0.heap.size ≤ k) (hw1 : ∀ k, vw1.ownBlock = some k → vw0.ownBlock = some k ∨ W0.heap.size ≤ k) (ha1 : ∀ k, va1.ownBlock = some k → va0.ownBlock = some k ∨ W0.heap.size ≤ k)
    (hmod2 : Mod (lw :: va1.ownBlock.toList) wr W3) (ha2 : ∀ k, va2.ownBlock = some k → va1.ownBlock = some k ∨ wr.heap.size ≤ k)
    (h : LawAt W lw vn vt2 vw2 va2 pl { La with dest := La.dest ++ (List.range j2).map (1 + ·), wait := La.wait ++ List.replicate j2 m }) (g : Apart W v vw2 va2 out)
    (hmod3 : Mod (lw :: (vt1.ownBlock.toList ++ vw1.ownBlock.toList)) W3 W) (ht2 : ∀ k, vt2.ownBlock = some k → vt1.ownBlock = some k ∨ W3.heap.size ≤ k) (hw2 : ∀ k, vw2.ownBlock = some k → vw1.ownBlock = some k ∨ W3.heap.size ≤ k) :
    SendRel W0 lw vn vt0 vw0 va0 v pl L out gk (nat (j + 1)) W := by
  have hz1 := hmod.size
  have hz2 := hmod2.size
  refine ⟨j + 1, vt2, vw2, va2, hgk, rfl, ?_, g, ?_, ?_, ?_, ?_⟩
  · rw [sendS_take L out j m hm, ← hLj]
    subst hj2
    rw [hLa] at h
    exact h
  · have m1 : Mod (lw :: (vt0.ownBlock.toList ++ vw0.ownBlock.toList ++ va0.ownBlock.toList)) W0 W3 := hmod.trans' hmod2 (fun x hx => by
      simp only [List.mem_cons, Option.mem_toList] at hx
      rcases hx with rfl | h1
      · exact .inl (by simp)
      · rcases ha1 x h1 with h2 | h2
        · exact .inl (by simp [h2])
        · exact .inr h2)
    refine m1.trans' hmod3 (fun x hx => ?_)
    simp only [List.mem_cons, List.mem_append, Option.mem_toList] at hx
    rcases hx with rfl | h1 | h1
    · exact .inl (by simp)
    · rcases ht1 x h1 with h2 | h2
      · exact .inl (by simp [h2])
      · exact .inr h2
    · rcases hw1 x h1 with h2 | h2
      · exact .inl (by simp [h2])
      · exact .inr h2
  · intro k hk
    rcases ht2 k hk with h1 | h1
    · exact ht1 k h1
    · exact .inr (by omega)
  · intro k hk
    rcases hw2 k hk with h1 | h1
    · exact hw1 k h1
    · exact .inr (by omega)
  · intro k hk
    rcases ha2 k hk with h1 | h1
    · exact ha1 k h1
    · exact .inr (by omega)
end Go.Proofs.Ytnpmjpdndhedgaa
