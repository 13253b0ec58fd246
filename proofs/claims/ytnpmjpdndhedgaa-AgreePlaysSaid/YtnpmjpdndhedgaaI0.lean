/-
  The plain side of agreement: what a node does is a run of small steps. No program is in sight here; no statement of a claim stands here.
-/
import Derived.Test.YtnpmjpdndhedgaaG0
set_option linter.unusedSimpArgs false
namespace Go.Proofs.Ytnpmjpdndhedgaa
open Go

/-- What a node may say. -/
def Allowed (s : NodeS) (k : Int) (v : ByteArray) : Prop :=
  (k = 1 ∧ leaderS s s.round = s.me ∧ v = (if 0 ≤ s.lr then s.lv else s.input)) ∨
  (k = 2 ∧ ∃ p, look (s.hd (1, s.round)) (leaderS s s.round) = some p ∧ v = (if 0 ≤ s.lr ∧ s.lv ≠ p then ⟨#[]⟩ else p)) ∨
  (k = 3 ∧ v ≠ ⟨#[]⟩ ∧ s.n - s.t ≤ (cnt (s.hd (2, s.round)) v : Int) ∧ s.round ≤ s.lr)

inductive Run : NodeS → NodeS → List Msg → Prop where
  | refl (s : NodeS) : Run s s []
  | lock (s : NodeS) (r : Int) (v : ByteArray) (s' : NodeS) (out : List Msg) (hv : v ≠ ⟨#[]⟩) (hr : 0 ≤ r) (hq : s.n - s.t ≤ (cnt (s.hd (2, r)) v : Int)) (hl : s.lr < r) (h : Run { s with lv := v, lr := r } s' out) : Run s s' out
  | say (s : NodeS) (k : Int) (v : ByteArray) (s' : NodeS) (out : List Msg) (h0 : 0 ≤ s.round) (ha : Allowed s k v) (hs : s.sent (k, s.round) = false) (h : Run { s with sent := upd s.sent (k, s.round) true } s' out) : Run s s' (⟨k, s.me, s.round, v⟩ :: out)
  | decide (s : NodeS) (r : Int) (v : ByteArray) (s' : NodeS) (out : List Msg) (hq : s.n - s.t ≤ (cnt (s.hd (3, r)) v : Int)) (hd : s.done = false) (h : Run { s with choice := v, done := true } s' out) : Run s s' out

theorem Run.trans {s s1 s2 : NodeS} {o1 o2 : List Msg} (h : Run s s1 o1) (k : Run s1 s2 o2) : Run s s2 (o1 ++ o2) := by
  induction h with
  | refl s => exact k
  | lock s r v s' out hv hr hq hl _ ih => exact .lock s r v _ _ hv hr hq hl (ih k)
  | say s q v s' out h0 ha hs _ ih => exact .say s q v _ _ h0 ha hs (ih k)
  | decide s r v s' out hq hd _ ih => exact .decide s r v _ _ hq hd (ih k)

theorem run_say (s : NodeS) (k : Int) (v : ByteArray) (h0 : 0 ≤ s.round) (ha : Allowed s k v) : Run s (sayS s k v).1 (sayS s k v).2 := by
  unfold sayS
  split
  · exact .refl s
  · rename_i h
    exact .say s k v _ _ h0 ha (by simpa using h) (.refl _)
theorem run_prop (s : NodeS) (h0 : 0 ≤ s.round) : Run s (propS s).1 (propS s).2 := by
  unfold propS
  split
  · rename_i h
    exact run_say s 1 _ h0 (.inl ⟨rfl, h, rfl⟩)
  · exact .refl s
theorem run_vote (s : NodeS) (h0 : 0 ≤ s.round) : Run s (voteS s).1 (voteS s).2 := by
  unfold voteS
  split
  · rename_i p h
    exact run_say s 2 _ h0 (.inr (.inl ⟨rfl, p, h, rfl⟩))
  · exact .refl s
theorem sayS_round (s : NodeS) (k : Int) (v : ByteArray) : (sayS s k v).1.round = s.round := by unfold sayS; split <;> rfl
theorem propS_round (s : NodeS) : (propS s).1.round = s.round := by
  unfold propS; split
  · exact sayS_round _ _ _
  · rfl
theorem run_here (s : NodeS) (h0 : 0 ≤ s.round) : Run s (hereS s).1 (hereS s).2 := (run_prop s h0).trans (run_vote _ (by rw [propS_round]; exact h0))
theorem run_won (s : NodeS) (r : Int) (v : ByteArray) (hr : 0 ≤ r) : Run s (wonS s r v).1 (wonS s r v).2 := by
  unfold wonS
  split
  · exact .refl s
  · rename_i h
    simp only [not_or] at h
    have hq : s.n - s.t ≤ (cnt (s.hd (2, r)) v : Int) := by omega
    have hlock : Run s (lockS s r v) [] := by
      unfold lockS
      split
      · rename_i hl; exact .lock s r v _ _ h.1 hr hq hl (.refl _)
      · exact .refl s
    split
    · exact hlock
    · rename_i hrr
      have hrr : s.round = r := by simpa using hrr
      have e := hlock.trans (run_say (lockS s r v) 3 v (by unfold lockS; split <;> first | omega | (dsimp only; omega)) (.inr (.inr ⟨rfl, h.1, ?_, ?_⟩)))
      · exact e
      · subst hrr; unfold lockS; split <;> exact hq
      · unfold lockS; split <;> first | omega | (dsimp only; omega)
theorem wonS_round (s : NodeS) (r : Int) (v : ByteArray) : (wonS s r v).1.round = s.round := by
  have e : (lockS s r v).round = s.round := by unfold lockS; split <;> rfl
  unfold wonS
  split
  · rfl
  · split
    · exact e
    · rw [sayS_round, e]
theorem run_win (s : NodeS) (r : Int) (hr : 0 ≤ r) : Run s (winS s r).1 (winS s r).2 := by
  unfold winS
  split
  · exact run_won s r _ hr
  · exact .refl s
theorem winS_round (s : NodeS) (r : Int) : (winS s r).1.round = s.round := by
  unfold winS
  split
  · exact wonS_round _ _ _
  · rfl
theorem run_act (s : NodeS) (m : Msg) (k : Nat) (hr : 0 ≤ m.round) (hk : m.kind = 3 → k = cnt (s.hd (3, m.round)) m.val) : Run s (actS s m k).1 (actS s m k).2 := by
  unfold actS
  split
  · exact run_won s _ _ hr
  · split
    · rename_i h
      exact .decide s m.round m.val _ _ (by rw [← hk h.1]; exact h.2.1) h.2.2 (.refl _)
    · exact .refl s
theorem actS_round (s : NodeS) (m : Msg) (k : Nat) : (actS s m k).1.round = s.round := by
  unfold actS
  split
  · exact wonS_round _ _ _
  · split <;> rfl

theorem may_spec {s : NodeS} {m : Msg} (h : mayS s m = true) : 1 ≤ m.from_ ∧ m.from_ ≤ s.n ∧ 0 ≤ m.round ∧ m.round ≤ 63 := by
  unfold mayS at h
  simp only [Bool.and_eq_true, decide_eq_true_eq] at h
  omega

/-- What taking a message is. -/
theorem take_run (s : NodeS) (m : Msg) : ((takeS s m).1 = s ∧ (takeS s m).2 = []) ∨
    (0 ≤ s.round ∧ mayS s m = true ∧ look (s.hd m.seat) m.from_ = none ∧ Run (addS s m) (takeS s m).1 (takeS s m).2) := by
  unfold takeS
  split
  · exact .inl ⟨rfl, rfl⟩
  · rename_i h
    simp only [not_or, Bool.not_eq_false, Int.not_lt] at h
    split
    · exact .inl ⟨rfl, rfl⟩
    · rename_i hl
      have hl : look (s.hd m.seat) m.from_ = none := by simpa using hl
      refine .inr ⟨h.1, h.2, hl, ?_⟩
      have hadd : addN (s.hd m.seat) m.from_ m.val = cnt ((addS s m).hd m.seat) m.val := by
        simp only [addS, upd_same]
        unfold addN addL
        rw [hl]
        rfl
      refine (run_act (addS s m) m _ (may_spec h.2).2.2.1 (fun hk => ?_)).trans (run_here _ (by rw [actS_round]; exact h.1))
      rw [hadd]
      unfold Msg.seat
      rw [hk]
theorem timeout_run (s : NodeS) : ((timeoutS s).1 = s ∧ (timeoutS s).2 = []) ∨ (0 ≤ s.round ∧ Run { s with round := s.round + 1 } (timeoutS s).1 (timeoutS s).2) := by
  unfold timeoutS
  split
  · exact .inl ⟨rfl, rfl⟩
  · rename_i h
    simp only [not_or, Int.not_lt] at h
    refine .inr ⟨h.1, (run_win { s with round := s.round + 1 } (s.round + 1) (by omega)).trans (run_here _ ?_)⟩
    rw [winS_round]
    dsimp only
    omega

/-- What a run leaves as it was. -/
theorem Run.same {s s' : NodeS} {out : List Msg} (h : Run s s' out) : s'.n = s.n ∧ s'.t = s.t ∧ s'.me = s.me ∧ s'.input = s.input ∧ s'.round = s.round ∧ s'.hd = s.hd := by
  induction h with
  | refl s => exact ⟨rfl, rfl, rfl, rfl, rfl, rfl⟩
  | lock s r v s' out hv hr hq hl _ ih => exact ih
  | say s q v s' out h0 ha hs _ ih => exact ih
  | decide s r v s' out hq hd _ ih => exact ih
end Go.Proofs.Ytnpmjpdndhedgaa
