/-
  The statements' world: a node takes a step; what waits is cut; the world as steps leave it (LawIn). No statement of a claim stands here; each lemma names what it asks.
-/
import Derived.Test.YtnpmjpdndhedgaaL2
set_option linter.unusedSimpArgs false
namespace Go.Proofs.Ytnpmjpdndhedgaa
open Go Go.RowKit Go.ChangeMaps

/-- A node took a step: the law's world behind it. -/
theorem law_step {W W' : World} {lw : Nat} {vn vt vw va v : Value} {pl : List Loc} {L : LawS} {i : Nat} {p p' : Loc} {s' : NodeS} {out : List Msg} (h : LawAt W lw vn vt vw va pl L) (hp : pl[i]? = some p)
    (hn : NodeAt W' p' s') (hm : MsgsAt W.heap.size W' v out) (hd : Mod p.foot W W') (hx : Next W p p') :
    LawAt W' lw vn vt vw va (pl.set i p') { L with nodes := L.nodes.set i s' } ∧ Apart W' v vw va out := by
  obtain ⟨e1, e2, e3, e4, e5⟩ := h.set
  have hi : i < pl.length := (List.getElem?_eq_some_iff.1 hp).1
  have hoff : ∀ {u : Value} {T : TypeId} {size n : Nat} {xs : List Value}, W.ownsRow 0 T size u n xs → T ≠ 78 → ∀ k, u.ownBlock = some k → k ∉ p.foot := fun hr hT k hk hk2 => by
    obtain ⟨c, hc⟩ := row_block hr hk
    exact h.foot_ne (foot_mem hp hk2) hc hT rfl
  have hlt : ∀ {u : Value} {T : TypeId} {size n : Nat} {xs : List Value}, W.ownsRow 0 T size u n xs → ∀ k, u.ownBlock = some k → k < W.heap.size := fun hr k hk => by
    obtain ⟨c, hc⟩ := row_block hr hk
    exact lt_of_block hc
  have hrow := row_mod h.nodes hd (hoff h.nodes (by decide))
  have hmap : (pl.set i p').map (fun p : Loc => Value.pointer (some ⟨p.x, 0, none⟩)) = pl.map fun p => .pointer (some ⟨p.x, 0, none⟩) := by
    rw [List.map_set, hx.x]
    apply List.ext_getElem?
    intro j
    by_cases hj : i = j
    · subst hj
      simp [hi, (List.getElem?_eq_some_iff.1 hp).2]
    · simp [List.getElem?_set_ne hj]
  have hfar : ∀ (j : Nat) (q : Loc), j ≠ i → pl[j]? = some q → ∀ x ∈ q.foot, x ∉ p'.foot := fun j q hj hq x hxq hxp => by
    rcases hx.foot x hxp with h1 | h1
    · exact h.apart j i q p hj hq hp x hxq h1
    · have := h.foot_lt (foot_mem hq hxq)
      omega
  refine ⟨⟨hd.get h.cells (fun h1 => e5 _ (foot_mem hp h1) rfl), by rw [hmap, List.length_set]; exact hrow, row_mod h.dest hd (hoff h.dest (by decide)), row_mod h.wait hd (hoff h.wait (by decide)), row_mod h.all hd (hoff h.all (by decide)), h.wa, by simp [h.len], fun j q s hq hs => ?_, fun j k a b hjk ha hb x hxa => ?_⟩,
    ⟨hm.row, fun k hk h1 => ?_, fun k hk h1 => ?_⟩⟩
  · by_cases hj : i = j
    · subst hj
      rw [List.getElem?_set_self hi] at hq
      have hi2 : i < L.nodes.length := by rw [← h.len]; exact hi
      dsimp only at hs
      rw [List.getElem?_set_self hi2] at hs
      cases hq; cases hs
      exact hn
    · rw [List.getElem?_set_ne hj] at hq
      dsimp only at hs
      rw [List.getElem?_set_ne hj] at hs
      exact (h.node j q s hq hs).mod hd (fun b hb hb2 => h.apart j i q p (Ne.symm hj) hq hp b hb hb2)
  · by_cases hj : i = j
    · subst hj
      rw [List.getElem?_set_self hi] at ha
      rw [List.getElem?_set_ne hjk] at hb
      cases ha
      exact fun hxb => hfar k b (Ne.symm hjk) hb x hxb hxa
    · rw [List.getElem?_set_ne hj] at ha
      by_cases hk : i = k
      · subst hk
        rw [List.getElem?_set_self hi] at hb
        cases hb
        exact hfar j a hjk ha x hxa
      · rw [List.getElem?_set_ne hk] at hb
        exact h.apart j k a b hjk ha hb x hxa
  · have := hm.own k hk
    have := hlt h.wait k h1
    omega
  · have := hm.own k hk
    have := hlt h.all k h1
    omega

/-- A step of a node: what it says goes to all. -/
def stepS (L : LawS) (i : Nat) (f : NodeS → NodeS × List Msg) : LawS := match L.nodes[i]? with
  | some s => sendS { L with nodes := L.nodes.set i (f s).1 } (f s).2
  | none => L
def cutS (L : LawS) (k : Nat) : LawS := { L with dest := L.dest.eraseIdx k, wait := L.wait.eraseIdx k }
def handS (L : LawS) (k : Nat) : LawS := match L.dest[k]?, L.wait[k]? with
  | some d, some m => stepS (cutS L k) (d - 1) (fun s => Go.Proofs.Ytnpmjpdndhedgaa.takeS s m)
  | _, _ => L

/-- The law's world lies there; all that it has is newer than W0, and nothing older has changed. -/
structure LawIn (W0 W : World) (lw : Nat) (vn vt vw va : Value) (pl : List Loc) (L : LawS) : Prop where
  law : LawAt W lw vn vt vw va pl L
  old : Mod [] W0 W
  lw : W0.heap.size ≤ lw
  n : ∀ k, vn.ownBlock = some k → W0.heap.size ≤ k
  t : ∀ k, vt.ownBlock = some k → W0.heap.size ≤ k
  w : ∀ k, vw.ownBlock = some k → W0.heap.size ≤ k
  a : ∀ k, va.ownBlock = some k → W0.heap.size ≤ k
  foot : ∀ k ∈ footsB pl, W0.heap.size ≤ k
def LawAny (W0 W : World) (lw : Nat) (L : LawS) : Prop := ∃ vn vt vw va pl, LawIn W0 W lw vn vt vw va pl L

theorem LawIn.mod0 {W0 W W' : World} {lw : Nat} {vn vt vw va : Value} {pl : List Loc} {L : LawS} (h : LawIn W0 W lw vn vt vw va pl L) (m : Mod [] W W') : LawIn W0 W' lw vn vt vw va pl L :=
  ⟨h.law.mod0 m, h.old.trans m, h.lw, h.n, h.t, h.w, h.a, h.foot⟩
theorem LawAny.mod0 {W0 W W' : World} {lw : Nat} {L : LawS} (h : LawAny W0 W lw L) (m : Mod [] W W') : LawAny W0 W' lw L := by
  obtain ⟨vn, vt, vw, va, pl, h⟩ := h
  exact ⟨vn, vt, vw, va, pl, h.mod0 m⟩

theorem LawIn.sent {W0 W W' : World} {lw : Nat} {vn vt vw va : Value} {pl : List Loc} {L : LawS} {L' : LawS} {e : Ending} (h : LawIn W0 W lw vn vt vw va pl L) (g : SendPost W lw vn vt vw va pl L' e W') : e = .returned (.tuple #[]) ∧ LawAny W0 W' lw L' := by
  obtain ⟨he, vt', vw', va', hL, hm, ht, hw, ha⟩ := g
  have hz := h.old.size
  refine ⟨he, vn, vt', vw', va', pl, hL, h.old.trans' hm (fun x hx => ?_), h.lw, h.n, fun k hk => ?_, fun k hk => ?_, fun k hk => ?_, h.foot⟩
  · right
    simp only [List.mem_cons, List.mem_append, Option.mem_toList] at hx
    rcases hx with rfl | (h1 | h1) | h1
    · exact h.lw
    · exact h.t x h1
    · exact h.w x h1
    · exact h.a x h1
  · rcases ht k hk with h1 | h1
    · exact h.t k h1
    · omega
  · rcases hw k hk with h1 | h1
    · exact h.w k h1
    · omega
  · rcases ha k hk with h1 | h1
    · exact h.a k h1
    · omega

theorem LawIn.step {W0 W W' : World} {lw : Nat} {vn vt vw va v : Value} {pl : List Loc} {L : LawS} {i : Nat} {p p' : Loc} {s' : NodeS} {out : List Msg} (h : LawIn W0 W lw vn vt vw va pl L) (hp : pl[i]? = some p)
    (hn : NodeAt W' p' s') (hm : MsgsAt W.heap.size W' v out) (hd : Mod p.foot W W') (hx : Next W p p') :
    LawIn W0 W' lw vn vt vw va (pl.set i p') { L with nodes := L.nodes.set i s' } ∧ Apart W' v vw va out := by
  obtain ⟨h1, h2⟩ := law_step h.law hp hn hm hd hx
  have hz := h.old.size
  refine ⟨⟨h1, h.old.trans' hd (fun x hx => .inr (h.foot x (foot_mem hp hx))), h.lw, h.n, h.t, h.w, h.a, fun k hk => ?_⟩, h2⟩
  simp only [footsB, List.mem_flatMap] at hk
  obtain ⟨q, hq, hk⟩ := hk
  rcases List.mem_or_eq_of_mem_set hq with h3 | rfl
  · exact h.foot k (by simp only [footsB, List.mem_flatMap]; exact ⟨q, h3, hk⟩)
  · rcases hx.foot k hk with h3 | h3
    · exact h.foot k (foot_mem hp h3)
    · omega

theorem erase_split {α : Type} (l : List α) (k : Nat) : l.eraseIdx k = l.take k ++ l.drop (k + 1) := List.eraseIdx_eq_take_drop_succ l k
theorem msgCells_take (l : List Msg) (k : Nat) : (msgCells l).take (k * 4) = msgCells (l.take k) := by
  induction l generalizing k with
  | nil => simp [msgCells]
  | cons m l ih =>
    cases k with
    | zero => simp [msgCells]
    | succ k =>
      have e : (k + 1) * 4 = k * 4 + 4 := by omega
      rw [e]
      simp only [msgCells, List.flatMap_cons, List.take_succ_cons, Msg.cells] at ih ⊢
      simp [ih]
theorem msgCells_drop (l : List Msg) (k : Nat) : (msgCells l).drop (k * 4) = msgCells (l.drop k) := by
  induction l generalizing k with
  | nil => simp [msgCells]
  | cons m l ih =>
    cases k with
    | zero => simp [msgCells]
    | succ k =>
      have e : (k + 1) * 4 = k * 4 + 4 := by omega
      rw [e]
      simp only [msgCells, List.flatMap_cons, List.drop_succ_cons, Msg.cells] at ih ⊢
      simp [ih]
theorem news_take {w : World} {b : Nat} {cs : Array Value} {T : TypeId} {f : Nat × Nat} (h : w.heap[b]? = some (.cells cs T f)) (n : Nat) : ∀ (j : Nat) (u : Value), (cs.toList.take n)[j]? = some u → w.cell? ((⟨b, 0, none⟩ : Addr).add j) = some u := by
  intro j u hu
  rw [List.getElem?_take] at hu
  split at hu
  · exact news_at h j u hu
  · cases hu

theorem cut_dest {W0 W W4 : World} {lw : Nat} {vn vt vw va v3 : Value} {pl : List Loc} {L : LawS} {k n : Nat} (h : LawIn W0 W lw vn vt vw va pl L) (hm : Mod [] W W4) (ho : W4.ownsRow 0 3 1 v3 n ((L.dest.take k).map nat ++ (L.dest.drop (k + 1)).map nat))
    (hl : ∀ b, v3.ownBlock = some b → W.heap.size ≤ b) : LawIn W0 (W4.setCell ⟨lw, 4, none⟩ v3) lw vn v3 vw va pl { L with dest := L.dest.eraseIdx k } := by
  have hlw := lt_of_block h.law.cells
  have hc4 := hm.get h.law.cells (by simp)
  have hset : Mod [lw] W4 (W4.setCell ⟨lw, 4, none⟩ v3) := Mod.setCell (Mod.refl _ _) (by simp) _
  have e : (L.dest.take k).map nat ++ (L.dest.drop (k + 1)).map nat = (L.dest.eraseIdx k).map nat := by rw [erase_split, List.map_append]
  have en : n = (L.dest.eraseIdx k).length := by have := ho.1; rw [e] at this; simpa using this.symm
  rw [e, en] at ho
  have hz := h.old.size
  have hd : Mod [lw] W (W4.setCell ⟨lw, 4, none⟩ v3) := (hm.mono (by simp)).trans hset
  refine ⟨h.law.rows (wait' := L.wait) (all' := L.all) (S := [lw]) hd (fun k hk => .inl (by simpa using hk)) (get_setCell_self hc4 4 v3) (row_mod ho hset (fun b hb => by have := hl b hb; simp; omega)) ?_ ?_ h.law.wa, h.old.trans' hd (fun x hx => .inr (by rw [List.mem_singleton.1 hx]; exact h.lw)), h.lw, h.n, fun b hb => Nat.le_trans hz (hl b hb), h.w, h.a, h.foot⟩
  · exact row_mod h.law.wait hd (fun b hb => by simpa using h.law.set.2.2.1 b hb)
  · exact row_mod h.law.all hd (fun b hb => by simpa using h.law.set.2.2.2.1 b hb)

theorem cut_wait {W0 W W4 : World} {lw : Nat} {vn vt vw va v3 : Value} {pl : List Loc} {L : LawS} {k n : Nat} (h : LawIn W0 W lw vn vt vw va pl L) (hm : Mod [] W W4) (ho : W4.ownsRow 0 39 4 v3 n (msgCells (L.wait.take k) ++ msgCells (L.wait.drop (k + 1))))
    (hl : ∀ b, v3.ownBlock = some b → W.heap.size ≤ b) : LawIn W0 (W4.setCell ⟨lw, 5, none⟩ v3) lw vn vt v3 va pl { L with wait := L.wait.eraseIdx k } := by
  have hlw := lt_of_block h.law.cells
  have hc4 := hm.get h.law.cells (by simp)
  have hset : Mod [lw] W4 (W4.setCell ⟨lw, 5, none⟩ v3) := Mod.setCell (Mod.refl _ _) (by simp) _
  have e : msgCells (L.wait.take k) ++ msgCells (L.wait.drop (k + 1)) = msgCells (L.wait.eraseIdx k) := by rw [erase_split, msgCells_append]
  have en : n = (L.wait.eraseIdx k).length := by have := ho.1; rw [e, msgCells_length] at this; omega
  rw [e, en] at ho
  have hz := h.old.size
  have hd : Mod [lw] W (W4.setCell ⟨lw, 5, none⟩ v3) := (hm.mono (by simp)).trans hset
  refine ⟨h.law.rows (ds' := L.dest) (all' := L.all) (S := [lw]) hd (fun k hk => .inl (by simpa using hk)) (get_setCell_self hc4 5 v3) ?_ (row_mod ho hset (fun b hb => by have := hl b hb; simp; omega)) ?_ (fun k hk h1 => ?_), h.old.trans' hd (fun x hx => .inr (by rw [List.mem_singleton.1 hx]; exact h.lw)), h.lw, h.n, h.t, fun b hb => Nat.le_trans hz (hl b hb), h.a, h.foot⟩
  · exact row_mod h.law.dest hd (fun b hb => by simpa using h.law.set.2.1 b hb)
  · exact row_mod h.law.all hd (fun b hb => by simpa using h.law.set.2.2.2.1 b hb)
  · have := hl k hk
    obtain ⟨c, hc⟩ := row_block h.law.all h1
    have := lt_of_block hc
    omega
end Go.Proofs.Ytnpmjpdndhedgaa
