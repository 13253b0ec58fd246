/-
  The statements' world of nodes (seneschallaw15's type world): what its block holds (LawAt), and 'all', walked. No statement of a claim stands here; each contract names what it asks.
-/
import Derived.Test.YtcgfjalglnlofaaCast2
import Derived.Test.YtcgfjalglnlofaaReg
set_option linter.unusedSimpArgs false
namespace Go.Proofs.Ytcgfjalglnlofaa
open Go Go.RowKit

theorem infoInt : (Try.prog.info? 3).map (fun i => (i.zero, i.size, i.bytes)) = some (some (.int .i64 0), 1, 8) := by kernel_rfl
theorem infoMsg : (Try.prog.info? 36).map (fun i => (i.zero, i.size, i.bytes)) = some (some (.agg #[.int .i64 0, .int .i64 0, .string ⟨#[]⟩]), 3, 32) := by kernel_rfl
theorem infoPtr : (Try.prog.info? 39).map (fun i => (i.zero, i.size, i.bytes)) = some (some (.pointer none), 1, 8) := by kernel_rfl

/-- A number as a value. -/
abbrev nat (k : Nat) : Value := .int .i64 (k : Int)

/-- Nodes, of which the first 'bad' are corrupt; what waits; how many echoes and readies were sent. -/
structure LawS where
  n : Nat
  t : Nat
  bad : Nat
  nodes : List NodeS
  to : List Nat
  wait : List Msg
  sent : List Nat

def waitCells (l : List Msg) : List Value := l.flatMap Msg.cells
theorem waitCells_length (l : List Msg) : (waitCells l).length = l.length * 3 := by
  induction l with
  | nil => rfl
  | cons m l ih => simp only [waitCells, List.flatMap_cons, List.length_append, List.length_cons] at ih ⊢; rw [ih]; simp [Msg.cells]; omega
theorem waitCells_append (l m : List Msg) : waitCells (l ++ m) = waitCells l ++ waitCells m := by simp [waitCells]

abbrev Trip := Nat × Nat × Nat
def tripBlocks (bl : List Trip) : List Nat := bl.flatMap fun p => [p.1, p.2.1, p.2.2]

structure LawAt (W : World) (lw sb : Nat) (vn vt vw : Value) (bl : List Trip) (L : LawS) : Prop where
  cells : W.heap[lw]? = some (.cells #[nat L.n, nat L.t, nat L.bad, vn, vt, vw, .slice (some ⟨sb, 0, none⟩) L.sent.length L.sent.length] 33 (0, 0))
  nodes : W.ownsRow 0 39 1 vn bl.length (bl.map fun p => .pointer (some ⟨p.1, 0, none⟩))
  to : W.ownsRow 0 3 1 vt L.to.length (L.to.map nat)
  wait : W.ownsRow 0 36 3 vw L.wait.length (waitCells L.wait)
  sent : W.heap[sb]? = some (.cells (L.sent.map nat).toArray 3 (0, 0))
  ts : vt.ownBlock ≠ some sb
  len : bl.length = L.nodes.length
  node : ∀ (i : Nat) (p : Trip) (s : NodeS), bl[i]? = some p → L.nodes[i]? = some s → NodeAt W p.1 p.2.1 p.2.2 s
  nodup : (tripBlocks bl).Nodup

theorem trip_mem {bl : List Trip} {i : Nat} {p : Trip} (h : bl[i]? = some p) : p.1 ∈ tripBlocks bl ∧ p.2.1 ∈ tripBlocks bl ∧ p.2.2 ∈ tripBlocks bl := by
  have hm := List.mem_of_getElem? h
  simp only [tripBlocks, List.mem_flatMap]
  exact ⟨⟨p, hm, by simp⟩, ⟨p, hm, by simp⟩, ⟨p, hm, by simp⟩⟩

/-- What is not of the law's own blocks may change. -/
theorem LawAt.mod {W W' : World} {lw sb : Nat} {vn vt vw : Value} {bl : List Trip} {L : LawS} {S : List Nat} (h : LawAt W lw sb vn vt vw bl L) (m : Mod S W W')
    (h1 : lw ∉ S) (h2 : sb ∉ S) (h3 : ∀ k, vn.ownBlock = some k → k ∉ S) (h4 : ∀ k, vt.ownBlock = some k → k ∉ S) (h5 : ∀ k, vw.ownBlock = some k → k ∉ S) (h6 : ∀ k ∈ tripBlocks bl, k ∉ S) : LawAt W' lw sb vn vt vw bl L :=
  ⟨m.get h.cells h1, row_mod h.nodes m h3, row_mod h.to m h4, row_mod h.wait m h5, m.get h.sent h2, h.ts, h.len, fun i p s hp hs =>
    (h.node i p s hp hs).mod m (h6 _ (trip_mem hp).1) (h6 _ (trip_mem hp).2.1) (h6 _ (trip_mem hp).2.2), h.nodup⟩

theorem LawAt.mod0 {W W' : World} {lw sb : Nat} {vn vt vw : Value} {bl : List Trip} {L : LawS} (h : LawAt W lw sb vn vt vw bl L) (m : Mod [] W W') : LawAt W' lw sb vn vt vw bl L :=
  h.mod m (by simp) (by simp) (by simp) (by simp) (by simp) (by simp)

/-- A block of a node is no row of another type. -/
theorem LawAt.trip_ne {W : World} {lw sb : Nat} {vn vt vw : Value} {bl : List Trip} {L : LawS} (h : LawAt W lw sb vn vt vw bl L) {k b : Nat} (hk : k ∈ tripBlocks bl) {c : Array Value} {T : TypeId} (hb : W.heap[b]? = some (.cells c T (0, 0))) (hT : T ≠ 66) : k ≠ b := by
  simp only [tripBlocks, List.mem_flatMap] at hk
  obtain ⟨p, hp, hk⟩ := hk
  obtain ⟨i, hi⟩ := List.mem_iff_getElem?.1 hp
  have hlt : i < L.nodes.length := by rw [← h.len]; exact (List.getElem?_eq_some_iff.1 hi).1
  have hn := h.node i p _ hi (List.getElem?_eq_getElem hlt)
  simp only [List.mem_cons, List.not_mem_nil, or_false] at hk
  rcases hk with rfl | rfl | rfl
  · exact (ne_ty hb hn.cells hT).symm
  · exact (ne_map hb hn.e).symm
  · exact (ne_map hb hn.r).symm

/-- The cells of the law's block change, no other. -/
theorem LawAt.set {W : World} {lw sb : Nat} {vn vt vw : Value} {bl : List Trip} {L : LawS} (h : LawAt W lw sb vn vt vw bl L) :
    (∀ k, vn.ownBlock = some k → k ≠ lw) ∧ (∀ k, vt.ownBlock = some k → k ≠ lw) ∧ (∀ k, vw.ownBlock = some k → k ≠ lw) ∧ sb ≠ lw ∧ ∀ k ∈ tripBlocks bl, k ≠ lw := by
  refine ⟨fun k hk => ?_, fun k hk => ?_, fun k hk => ?_, ne_ty h.sent h.cells (by decide), fun k hk => h.trip_ne hk h.cells (by decide)⟩
  · obtain ⟨c, hc⟩ := row_block h.nodes hk; exact ne_ty hc h.cells (by decide)
  · obtain ⟨c, hc⟩ := row_block h.to hk; exact ne_ty hc h.cells (by decide)
  · obtain ⟨c, hc⟩ := row_block h.wait hk; exact ne_ty hc h.cells (by decide)

theorem own_not {v : Value} {b : Nat} (h : ∀ k, v.ownBlock = some k → k ≠ b) : b ∉ v.ownBlock.toList := by
  cases hv : v.ownBlock with
  | none => simp
  | some k => simpa using (h k hv).symm

theorem news_at {w : World} {b : Nat} {cs : Array Value} {T : TypeId} {f : Nat × Nat} (h : w.heap[b]? = some (.cells cs T f)) : ∀ (j : Nat) (u : Value), cs.toList[j]? = some u → w.cell? ((⟨b, 0, none⟩ : Addr).add j) = some u := by
  intro j u hu
  have : (⟨b, 0, none⟩ : Addr).add j = ⟨b, j, none⟩ := by rw [Addr.add_lit]; simp
  rw [this, cell_at h]
  simpa using hu

/-- One more was sent. -/
theorem LawAt.bump {W : World} {lw sb : Nat} {vn vt vw : Value} {bl : List Trip} {L : LawS} {s0 : List Nat} {i x : Nat} (h : LawAt W lw sb vn vt vw bl { L with sent := s0 }) (hi : s0[i]? = some x) (hL : L.sent = s0.modify i (· + 1)) :
    LawAt (W.setCell ⟨sb, i, none⟩ (nat (x + 1))) lw sb vn vt vw bl L := by
  have hm : Mod [sb] W (W.setCell ⟨sb, i, none⟩ (nat (x + 1))) := (Mod.refl _ _).setCell (by simp) _
  have hlen : L.sent.length = s0.length := by rw [hL]; simp
  have hsb := h.sent
  dsimp only at hsb
  have hne : ∀ {k : Nat} {c : Array Value} {T : TypeId}, W.heap[k]? = some (.cells c T (0, 0)) → T ≠ 3 → k ∉ [sb] := fun hk hT => by simpa using ne_ty hk hsb hT
  refine ⟨?_, row_mod h.nodes hm (fun k hk => ?_), row_mod h.to hm (fun k hk => ?_), row_mod h.wait hm (fun k hk => ?_), ?_, h.ts, h.len, fun i p s hp hs => ?_, h.nodup⟩
  · rw [hlen]; exact hm.get h.cells (hne h.cells (by decide))
  · obtain ⟨c, hc⟩ := row_block h.nodes hk; exact hne hc (by decide)
  · simp; rintro rfl; exact h.ts hk
  · obtain ⟨c, hc⟩ := row_block h.wait hk; exact hne hc (by decide)
  · have := get_setCell_self hsb i (nat (x + 1))
    rw [this, hL]
    congr 2
    have hlt := (List.getElem?_eq_some_iff.1 hi).1
    apply Array.ext'
    simp only [Array.toList_setIfInBounds]
    have hx : s0[i] = x := (List.getElem?_eq_some_iff.1 hi).2
    apply List.ext_getElem?
    intro j
    by_cases hj : i = j
    · subst hj
      simp [hlt, List.getElem?_modify, hi, hx]
    · simp [hj, List.getElem?_modify]
  · have e : ∀ k ∈ tripBlocks bl, k ∉ [sb] := fun k hk => by simpa using h.trip_ne hk hsb (by decide)
    have := trip_mem hp
    exact (h.node i p s hp hs).mod hm (e _ this.1) (e _ this.2.1) (e _ this.2.2)

/-- Both rows are new, and nothing else. -/
theorem LawAt.two {W W' : World} {lw sb : Nat} {vn vt vw vt' vw' : Value} {bl : List Trip} {L : LawS} {S : List Nat} {to' : List Nat} {wait' : List Msg} (h : LawAt W lw sb vn vt vw bl L) (m : Mod S W W')
    (hS : ∀ k ∈ S, k = lw ∨ vt.ownBlock = some k ∨ vw.ownBlock = some k)
    (hc : W'.heap[lw]? = some (.cells #[nat L.n, nat L.t, nat L.bad, vn, vt', vw', .slice (some ⟨sb, 0, none⟩) L.sent.length L.sent.length] 33 (0, 0)))
    (ht : W'.ownsRow 0 3 1 vt' to'.length (to'.map nat)) (hw : W'.ownsRow 0 36 3 vw' wait'.length (waitCells wait')) (hts : vt'.ownBlock ≠ some sb) :
    LawAt W' lw sb vn vt' vw' bl { L with to := to', wait := wait' } := by
  obtain ⟨e1, e2, e3, e4, e5⟩ := h.set
  have hsb : sb ∉ S := fun hk => by
    rcases hS _ hk with h1 | h1 | h1
    · exact e4 h1
    · exact h.ts h1
    · obtain ⟨c, hc⟩ := row_block h.wait h1; exact ne_ty hc h.sent (by decide) rfl
  refine ⟨hc, row_mod h.nodes m (fun k hk hm => ?_), ht, hw, m.get h.sent hsb, hts, h.len, fun i p s hp hs => ?_, h.nodup⟩
  · obtain ⟨c0, hc0⟩ := row_block h.nodes hk
    rcases hS _ hm with h1 | h1 | h1
    · exact e1 k hk h1
    · obtain ⟨c, hc⟩ := row_block h.to h1; exact ne_ty hc hc0 (by decide) rfl
    · obtain ⟨c, hc⟩ := row_block h.wait h1; exact ne_ty hc hc0 (by decide) rfl
  · have hn : ∀ k ∈ tripBlocks bl, k ∉ S := fun k hk hm => by
      rcases hS _ hm with h1 | h1 | h1
      · exact e5 k hk h1
      · obtain ⟨c, hc⟩ := row_block h.to h1; exact h.trip_ne hk hc (by decide) rfl
      · obtain ⟨c, hc⟩ := row_block h.wait h1; exact h.trip_ne hk hc (by decide) rfl
    have := trip_mem hp
    exact (h.node i p s hp hs).mod m (hn _ this.1) (hn _ this.2.1) (hn _ this.2.2)

/-- A message goes to all others. -/
def allTo (L : LawS) : List Nat := (List.range (L.n - L.bad)).map (L.bad + 1 + ·)
def allS (L : LawS) (m : Msg) : LawS :=
  { L with sent := if 1 < m.kind then L.sent.modify (2 * m.from_ + m.kind - 2).toNat (· + 1) else L.sent, to := L.to ++ allTo L, wait := L.wait ++ List.replicate (L.n - L.bad) m }
def allL (L : LawS) (l : List Msg) : LawS := l.foldl allS L
end Go.Proofs.Ytcgfjalglnlofaa
