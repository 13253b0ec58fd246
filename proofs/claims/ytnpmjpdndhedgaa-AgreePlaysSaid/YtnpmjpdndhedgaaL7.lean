/-
  The statements' moves: what they do, and keep. No statement of a claim stands here; each lemma names what it asks.
-/
import Derived.Test.YtnpmjpdndhedgaaL6
set_option linter.unusedSimpArgs false
namespace Go.Proofs.Ytnpmjpdndhedgaa
open Go Go.RowKit Go.ChangeMaps

structure MoveS where
  do_ : Int
  at_ : Int
  from_ : Int
  to_ : Int
  kind : Int
  round : Int
  val : ByteArray
def MoveS.cells (m : MoveS) : List Value := [.int .i64 m.do_, .int .i64 m.at_, .int .i64 m.from_, .int .i64 m.to_, .int .i64 m.kind, .int .i64 m.round, .string m.val]
instance : Inhabited MoveS := ⟨⟨0, 0, 0, 0, 0, 0, ByteArray.empty⟩⟩

/-- Moves as a slice lays them. -/
structure MovesAt (W : World) (a : Option Addr) (l : List MoveS) : Prop where
  cell : ∀ (i : Nat) (m : MoveS), l[i]? = some m → ∃ b o, a = some ⟨b, o, none⟩ ∧ b < W.heap.size ∧ ∀ (j : Nat) (u : Value), m.cells[j]? = some u → W.cell? ⟨b, o + i * 7 + j, none⟩ = some u

/-- What a corrupt node sends. -/
def foul (L : LawS) (m : MoveS) : Msg := ⟨m.kind, (L.good : Int) + 1 + among m.from_ ((L.n : Int) - L.good), m.round, m.val.extract 0 (min m.val.size 50)⟩
def moveS (slow : Bool) (L : LawS) (m : MoveS) : LawS :=
  if among m.do_ 10 = 7 ∧ slow = true then stepS L (among m.to_ L.good).toNat timeoutS
  else if 7 < among m.do_ 10 ∧ L.good < L.n then stepS L (among m.to_ L.good).toNat (fun s => takeS s (foul L m))
  else handA L m.at_
def playN (slow : Bool) : List MoveS → LawS → Bool × LawS
  | [], L => (true, L)
  | m :: ms, L => if agreeS (moveS slow L m) then playN slow ms (moveS slow L m) else (false, moveS slow L m)

theorem winS_ok {s : NodeS} (h : NOk s) (r : Int) (h0 : 0 ≤ r) (h1 : r ≤ 63) : NOk (winS s r).1 := by
  unfold winS; split
  · exact wonS_ok h _ _ h0 h1
  · exact h
theorem timeoutS_ok {s : NodeS} (h : NOk s) : NOk (timeoutS s).1 := by
  unfold timeoutS
  split
  · exact h
  · rename_i hr
    have h0 := h.r0
    have h1 := h.r1
    refine hereS_ok (winS_ok (s := { s with round := s.round + 1 }) ⟨h.n0, h.n1, h.t0, h.t1, h.me0, h.me1, by dsimp only; omega, by dsimp only; omega, h.lr0, h.lr1, h.vok, h.frm⟩ _ (by omega) (by omega))
theorem timeoutS_few (s : NodeS) : (timeoutS s).2.length ≤ 3 := by
  unfold timeoutS
  split
  · simp
  · rw [List.length_append]
    have h1 : (winS { s with round := s.round + 1 } (s.round + 1)).2.length ≤ 1 := by
      unfold winS; split
      · exact wonS_len _ _ _
      · simp
    have := (hereS_same (winS { s with round := s.round + 1 } (s.round + 1)).1).2
    omega

theorem handA_ok {L : LawS} (h : LOk L) (at_ : Int) : LOk (handA L at_) := by
  unfold handA; split
  · exact h
  · exact handS_ok h _
theorem handA_fits {L : LawS} {b : Nat} (h : Fits L b) (hg : L.good ≤ 16) (at_ : Int) : Fits (handA L at_) (b + 1) := by
  unfold handA; split
  · exact h.le (by omega)
  · exact handS_fits h hg _
theorem handA_same (L : LawS) (at_ : Int) : (handA L at_).n = L.n ∧ (handA L at_).t = L.t ∧ (handA L at_).good = L.good := by
  unfold handA; split
  · exact ⟨rfl, rfl, rfl⟩
  · exact handS_same L _
theorem moveS_ok {L : LawS} (h : LOk L) (slow : Bool) (m : MoveS) : LOk (moveS slow L m) := by
  unfold moveS; split
  · exact stepS_ok h _ _ (fun s hs => timeoutS_ok hs)
  · split
    · exact stepS_ok h _ _ (fun s hs => takeS_ok hs _)
    · exact handA_ok h _
theorem moveS_fits {L : LawS} {b : Nat} (h : Fits L b) (hg : L.good ≤ 16) (slow : Bool) (m : MoveS) : Fits (moveS slow L m) (b + 1) := by
  unfold moveS; split
  · exact stepS_fits h hg _ _ timeoutS_few
  · split
    · exact stepS_fits h hg _ _ (fun s => takeS_few s _)
    · exact handA_fits h hg _
theorem moveS_same (slow : Bool) (L : LawS) (m : MoveS) : (moveS slow L m).n = L.n ∧ (moveS slow L m).t = L.t ∧ (moveS slow L m).good = L.good := by
  unfold moveS; split
  · exact stepS_same _ _ _
  · split
    · exact stepS_same _ _ _
    · exact handA_same _ _
theorem playN_keep (slow : Bool) (P : LawS → Prop) (hP : ∀ L m, P L → P (moveS slow L m)) (l : List MoveS) (L : LawS) (h : P L) : P (playN slow l L).2 := by
  induction l generalizing L with
  | nil => exact h
  | cons m l ih =>
    unfold playN
    split
    · exact ih _ (hP _ _ h)
    · exact hP _ _ h
theorem playN_fits (slow : Bool) (l : List MoveS) {L : LawS} {b : Nat} (hL : LOk L) (h : Fits L b) : Fits (playN slow l L).2 (b + l.length) := by
  induction l generalizing L b with
  | nil => exact h
  | cons m l ih =>
    unfold playN
    have h1 := moveS_fits h hL.g2 slow m
    split
    · have := ih (moveS_ok hL slow m) h1
      simp only [List.length_cons]
      exact this.le (by omega)
    · simp only [List.length_cons]
      exact h1.le (by omega)
theorem playN_ok (slow : Bool) (l : List MoveS) {L : LawS} (hL : LOk L) : LOk (playN slow l L).2 := playN_keep slow LOk (fun _ m h => moveS_ok h slow m) l L hL
end Go.Proofs.Ytnpmjpdndhedgaa
