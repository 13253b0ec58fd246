/-
  The statements' world of nodes (seneschallaw16's type world): what its block holds (LawAt). No statement of a claim stands here; each lemma names what it asks.
-/
import Derived.Test.YtnpmjpdndhedgaaGB
set_option linter.unusedSimpArgs false
namespace Go.Proofs.Ytnpmjpdndhedgaa
open Go Go.RowKit Go.ChangeMaps

theorem infoInt : (Try.prog.info? 3).map (fun i => (i.zero, i.size, i.bytes)) = some (some (.int .i64 0), 1, 8) := by kernel_rfl
theorem infoMsg : (Try.prog.info? 39).map (fun i => (i.zero, i.size, i.bytes)) = some (some (.agg #[.int .i64 0, .int .i64 0, .int .i64 0, .string ⟨#[]⟩]), 4, 40) := by kernel_rfl
theorem infoPtr : (Try.prog.info? 36).map (fun i => (i.zero, i.size, i.bytes)) = some (some (.pointer none), 1, 8) := by kernel_rfl

/-- A number as a value. -/
abbrev nat (k : Nat) : Value := .int .i64 (k : Int)

/-- Nodes that are not corrupt; what waits, for whom; what was sent. -/
structure LawS where
  n : Nat
  t : Nat
  good : Nat
  nodes : List NodeS
  dest : List Nat
  wait : List Msg
  all : List Msg

def footsB (pl : List Loc) : List Nat := pl.flatMap Loc.foot

structure LawAt (W : World) (lw : Nat) (vn vt vw va : Value) (pl : List Loc) (L : LawS) : Prop where
  cells : W.heap[lw]? = some (.cells #[nat L.n, nat L.t, nat L.good, vn, vt, vw, va] 34 (0, 0))
  nodes : W.ownsRow 0 36 1 vn pl.length (pl.map fun p => .pointer (some ⟨p.x, 0, none⟩))
  dest : W.ownsRow 0 3 1 vt L.dest.length (L.dest.map nat)
  wait : W.ownsRow 0 39 4 vw L.wait.length (msgCells L.wait)
  all : W.ownsRow 0 39 4 va L.all.length (msgCells L.all)
  wa : ∀ k, vw.ownBlock = some k → va.ownBlock ≠ some k
  len : pl.length = L.nodes.length
  node : ∀ (i : Nat) (p : Loc) (s : NodeS), pl[i]? = some p → L.nodes[i]? = some s → NodeAt W p s
  apart : ∀ (i j : Nat) (a b : Loc), i ≠ j → pl[i]? = some a → pl[j]? = some b → ∀ x ∈ a.foot, x ∉ b.foot

theorem foot_mem {pl : List Loc} {i : Nat} {p : Loc} (h : pl[i]? = some p) {k : Nat} (hk : k ∈ p.foot) : k ∈ footsB pl := by
  simp only [footsB, List.mem_flatMap]
  exact ⟨p, List.mem_of_getElem? h, hk⟩

/-- What is not of the law's own blocks may change. -/
theorem LawAt.mod {W W' : World} {lw : Nat} {vn vt vw va : Value} {pl : List Loc} {L : LawS} {S : List Nat} (h : LawAt W lw vn vt vw va pl L) (m : Mod S W W')
    (h1 : lw ∉ S) (h3 : ∀ k, vn.ownBlock = some k → k ∉ S) (h4 : ∀ k, vt.ownBlock = some k → k ∉ S) (h5 : ∀ k, vw.ownBlock = some k → k ∉ S) (h5' : ∀ k, va.ownBlock = some k → k ∉ S) (h6 : ∀ k ∈ footsB pl, k ∉ S) : LawAt W' lw vn vt vw va pl L :=
  ⟨m.get h.cells h1, row_mod h.nodes m h3, row_mod h.dest m h4, row_mod h.wait m h5, row_mod h.all m h5', h.wa, h.len, fun i p s hp hs => (h.node i p s hp hs).mod m (fun b hb => h6 b (foot_mem hp hb)), h.apart⟩
theorem LawAt.mod0 {W W' : World} {lw : Nat} {vn vt vw va : Value} {pl : List Loc} {L : LawS} (h : LawAt W lw vn vt vw va pl L) (m : Mod [] W W') : LawAt W' lw vn vt vw va pl L :=
  h.mod m (by simp) (by simp) (by simp) (by simp) (by simp) (by simp)

/-- A block of a node is no row of another type. -/
theorem LawAt.foot_ne {W : World} {lw : Nat} {vn vt vw va : Value} {pl : List Loc} {L : LawS} (h : LawAt W lw vn vt vw va pl L) {k b : Nat} (hk : k ∈ footsB pl) {c : Array Value} {T : TypeId} {f : Nat × Nat} (hb : W.heap[b]? = some (.cells c T f)) (hT : T ≠ 78) : k ≠ b := by
  simp only [footsB, List.mem_flatMap] at hk
  obtain ⟨p, hp, hk⟩ := hk
  obtain ⟨i, hi⟩ := List.mem_iff_getElem?.1 hp
  have hlt : i < L.nodes.length := by rw [← h.len]; exact (List.getElem?_eq_some_iff.1 hi).1
  have hn := h.node i p _ hi (List.getElem?_eq_getElem hlt)
  rintro rfl
  exact hn.ne hb hT hk
theorem LawAt.foot_lt {W : World} {lw : Nat} {vn vt vw va : Value} {pl : List Loc} {L : LawS} (h : LawAt W lw vn vt vw va pl L) {k : Nat} (hk : k ∈ footsB pl) : k < W.heap.size := by
  simp only [footsB, List.mem_flatMap] at hk
  obtain ⟨p, hp, hk⟩ := hk
  obtain ⟨i, hi⟩ := List.mem_iff_getElem?.1 hp
  have hlt : i < L.nodes.length := by rw [← h.len]; exact (List.getElem?_eq_some_iff.1 hi).1
  exact (h.node i p _ hi (List.getElem?_eq_getElem hlt)).lt k hk

/-- The cells of the law's block change, no other. -/
theorem LawAt.set {W : World} {lw : Nat} {vn vt vw va : Value} {pl : List Loc} {L : LawS} (h : LawAt W lw vn vt vw va pl L) :
    (∀ k, vn.ownBlock = some k → k ≠ lw) ∧ (∀ k, vt.ownBlock = some k → k ≠ lw) ∧ (∀ k, vw.ownBlock = some k → k ≠ lw) ∧ (∀ k, va.ownBlock = some k → k ≠ lw) ∧ ∀ k ∈ footsB pl, k ≠ lw := by
  refine ⟨fun k hk => ?_, fun k hk => ?_, fun k hk => ?_, fun k hk => ?_, fun k hk => h.foot_ne hk h.cells (by decide)⟩
  · obtain ⟨c, hc⟩ := row_block h.nodes hk; exact ne_ty hc h.cells (by decide)
  · obtain ⟨c, hc⟩ := row_block h.dest hk; exact ne_ty hc h.cells (by decide)
  · obtain ⟨c, hc⟩ := row_block h.wait hk; exact ne_ty hc h.cells (by decide)
  · obtain ⟨c, hc⟩ := row_block h.all hk; exact ne_ty hc h.cells (by decide)

theorem own_not {v : Value} {b : Nat} (h : ∀ k, v.ownBlock = some k → k ≠ b) : b ∉ v.ownBlock.toList := by
  cases hv : v.ownBlock with
  | none => simp
  | some k => simpa using (h k hv).symm

/-- The three rows are new, and nothing else. -/
theorem LawAt.rows {W W' : World} {lw : Nat} {vn vt vw va vt' vw' va' : Value} {pl : List Loc} {L : LawS} {S : List Nat} {ds' : List Nat} {wait' all' : List Msg} (h : LawAt W lw vn vt vw va pl L) (m : Mod S W W')
    (hS : ∀ k ∈ S, k = lw ∨ vt.ownBlock = some k ∨ vw.ownBlock = some k ∨ va.ownBlock = some k)
    (hc : W'.heap[lw]? = some (.cells #[nat L.n, nat L.t, nat L.good, vn, vt', vw', va'] 34 (0, 0)))
    (ht : W'.ownsRow 0 3 1 vt' ds'.length (ds'.map nat)) (hw : W'.ownsRow 0 39 4 vw' wait'.length (msgCells wait')) (ha : W'.ownsRow 0 39 4 va' all'.length (msgCells all'))
    (hwa : ∀ k, vw'.ownBlock = some k → va'.ownBlock ≠ some k) :
    LawAt W' lw vn vt' vw' va' pl { L with dest := ds', wait := wait', all := all' } := by
  obtain ⟨e1, e2, e3, e4, e5⟩ := h.set
  refine ⟨hc, row_mod h.nodes m (fun k hk hm => ?_), ht, hw, ha, hwa, h.len, fun i p s hp hs => ?_, h.apart⟩
  · obtain ⟨c0, hc0⟩ := row_block h.nodes hk
    rcases hS _ hm with h1 | h1 | h1 | h1
    · exact e1 k hk h1
    · obtain ⟨c, hc⟩ := row_block h.dest h1; exact ne_ty hc hc0 (by decide) rfl
    · obtain ⟨c, hc⟩ := row_block h.wait h1; exact ne_ty hc hc0 (by decide) rfl
    · obtain ⟨c, hc⟩ := row_block h.all h1; exact ne_ty hc hc0 (by decide) rfl
  · refine (h.node i p s hp hs).mod m (fun k hk hm => ?_)
    have hk := foot_mem hp hk
    rcases hS _ hm with h1 | h1 | h1 | h1
    · exact e5 k hk h1
    · obtain ⟨c, hc⟩ := row_block h.dest h1; exact h.foot_ne hk hc (by decide) rfl
    · obtain ⟨c, hc⟩ := row_block h.wait h1; exact h.foot_ne hk hc (by decide) rfl
    · obtain ⟨c, hc⟩ := row_block h.all h1; exact h.foot_ne hk hc (by decide) rfl

/-- A message goes to all that are not corrupt. -/
def send1 (L : LawS) (m : Msg) : LawS := { L with all := L.all ++ [m], dest := L.dest ++ (List.range L.good).map (1 + ·), wait := L.wait ++ List.replicate L.good m }
def sendS (L : LawS) (l : List Msg) : LawS := l.foldl send1 L

def SendPost (W : World) (lw : Nat) (vn vt vw va : Value) (pl : List Loc) (L : LawS) (e : Ending) (W' : World) : Prop :=
  e = .returned (.tuple #[]) ∧ ∃ vt' vw' va', LawAt W' lw vn vt' vw' va' pl L ∧ Mod (lw :: (vt.ownBlock.toList ++ vw.ownBlock.toList ++ va.ownBlock.toList)) W W' ∧
    (∀ k, vt'.ownBlock = some k → vt.ownBlock = some k ∨ W.heap.size ≤ k) ∧ (∀ k, vw'.ownBlock = some k → vw.ownBlock = some k ∨ W.heap.size ≤ k) ∧ (∀ k, va'.ownBlock = some k → va.ownBlock = some k ∨ W.heap.size ≤ k)

/-- The messages that are sent lie apart from the law's rows. -/
structure Apart (W : World) (v vw va : Value) (out : List Msg) : Prop where
  row : W.ownsRow 0 39 4 v out.length (msgCells out)
  w : ∀ k, v.ownBlock = some k → vw.ownBlock ≠ some k
  a : ∀ k, v.ownBlock = some k → va.ownBlock ≠ some k
end Go.Proofs.Ytnpmjpdndhedgaa
