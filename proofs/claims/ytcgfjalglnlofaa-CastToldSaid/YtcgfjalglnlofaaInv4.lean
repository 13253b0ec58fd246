/-
  The plain side of reliable broadcast: the invariant stays when a node takes a message. No program is in sight here; no statement of a claim stands here.
-/
import Derived.Test.YtcgfjalglnlofaaInv3
set_option linter.unusedSimpArgs false
namespace Go.Proofs.Ytcgfjalglnlofaa
open Go

/-- What a node that took a message keeps. -/
structure Later (s s' : NodeS) : Prop where
  ei : s.ei = true → s'.ei = true ∧ s'.ev = s.ev
  ri : s.ri = true → s'.ri = true ∧ s'.rv = s.rv
  heard : s.heard = true → s'.heard = true
  E : ∀ e ∈ s.E, e ∈ s'.E
  R : ∀ e ∈ s.R, e ∈ s'.R
  cE : ∀ v, cnt s.E v ≤ cnt s'.E v
  cR : ∀ v, cnt s.R v ≤ cnt s'.R v
theorem Later.refl (s : NodeS) : Later s s := ⟨fun h => ⟨h, rfl⟩, fun h => ⟨h, rfl⟩, id, fun _ h => h, fun _ h => h, fun _ => Nat.le_refl _, fun _ => Nat.le_refl _⟩

theorem cnt_addL (l : Votes) (k : Int) (v u : ByteArray) : cnt l u ≤ cnt (addL l k v) u := by
  unfold addL
  split
  · exact Nat.le_refl _
  · simp [cnt, List.countP_append]
theorem addN_cnt {l : Votes} {k : Int} {v : ByteArray} (h : 0 < addN l k v) : cnt (addL l k v) v = addN l k v := by
  unfold addN addL at *
  split
  · rename_i hk; rw [if_pos hk] at h; cases h
  · rfl

theorem Step.later {s s' : NodeS} {m : Msg} {out : List Msg} (T : Step s m s' out) : Later s s' := by
  refine ⟨T.ev, T.rv, T.heard, fun e he => ?_, fun e he => ?_, fun v => ?_, fun v => ?_⟩
  · rcases T.E with h | ⟨_, _, h⟩ <;> rw [h]
    · exact he
    · exact addL_sub _ _ he
  · rcases T.R with h | ⟨_, _, h⟩ <;> rw [h]
    · exact he
    · exact addL_sub _ _ he
  · rcases T.E with h | ⟨_, _, h⟩ <;> rw [h]
    · exact Nat.le_refl _
    · exact cnt_addL _ _ _ _
  · rcases T.R with h | ⟨_, _, h⟩ <;> rw [h]
    · exact Nat.le_refl _
    · exact cnt_addL _ _ _ _

theorem mayBe_of {s : NodeS} {m : Msg} (h1 : 1 ≤ m.from_) (h2 : m.from_ ≤ s.n) (h3 : m.val.size ≤ 4096) : mayBe s m = true := by simp [mayBe, h1, h2, h3]
theorem of_mayBe {s : NodeS} {m : Msg} (h : mayBe s m = true) : 1 ≤ m.from_ ∧ m.from_ ≤ s.n ∧ m.val.size ≤ 4096 := by
  simp only [mayBe, Bool.and_eq_true, decide_eq_true_eq] at h; exact ⟨h.1.1, h.1.2, h.2⟩

/-- A node is as it should be when it took a message: all but what was sent. -/
theorem nodeOk_step {L : LawS} {d i : Nat} {s s' : NodeS} {m : Msg} {out : List Msg} (h : NodeOk L d i s) (T : Step s m s' out) (sent : List Nat)
    (hE : sent[2 * (i + 1)]? = some (if s'.ei = true then 1 else 0)) (hR : sent[2 * (i + 1) + 1]? = some (if s'.ri = true then 1 else 0)) (nodes : List NodeS) (to : List Nat) (wait : List Msg) :
    NodeOk { L with nodes := nodes, to := to, wait := wait, sent := sent } d i s' := by
  obtain ⟨a1, a2, a3, a4⟩ := T.same
  have hn := h.n
  have ht := h.t
  refine ⟨by rw [a1, h.n], by rw [a2, h.t], by rw [a3, h.me], by rw [a4, h.dealer], ?_, ?_, ?_, ?_, fun v hv => ?_, fun v hv => ?_, fun v hv => ?_, fun hh => ?_, fun hs => ?_, hE, hR⟩
  · rcases T.E with e | ⟨_, _, e⟩ <;> rw [e]
    · exact h.E
    · exact addL_ok h.E _ _
  · rcases T.R with e | ⟨_, _, e⟩ <;> rw [e]
    · exact h.R
    · exact addL_ok h.R _ _
  · rcases T.E with e | ⟨_, hb, e⟩ <;> rw [e]
    · exact h.kE
    · have := of_mayBe hb
      exact addL_keys h.kE _ _ ⟨this.1, by rw [h.n] at this; exact this.2.1⟩
  · rcases T.R with e | ⟨_, hb, e⟩ <;> rw [e]
    · exact h.kR
    · have := of_mayBe hb
      exact addL_keys h.kR _ _ ⟨this.1, by rw [h.n] at this; exact this.2.1⟩
  · dsimp only at hv
    rcases T.E with e | ⟨k, hb, e⟩
    · rw [e] at hv; exact (T.rv (h.thrE v hv)).1
    · rw [e] at hv
      rcases addL_cnt s.E m.from_ m.val v with c | ⟨rfl, c⟩
      · rw [c] at hv; exact (T.rv (h.thrE v hv)).1
      · rw [c] at hv; exact T.thrE hb k (by omega)
  · dsimp only at hv
    rcases T.R with e | ⟨k, hb, e⟩
    · rw [e] at hv; exact (T.rv (h.thrR v hv)).1
    · rw [e] at hv
      rcases addL_cnt s.R m.from_ m.val v with c | ⟨rfl, c⟩
      · rw [c] at hv; exact (T.rv (h.thrR v hv)).1
      · rw [c] at hv; exact T.thrR hb k (by omega)
  · dsimp only at hv
    rcases T.R with e | ⟨k, hb, e⟩
    · rw [e] at hv; exact (T.sv (h.thrS v hv)).1
    · rw [e] at hv
      rcases addL_cnt s.R m.from_ m.val v with c | ⟨rfl, c⟩
      · rw [c] at hv; exact (T.sv (h.thrS v hv)).1
      · rw [c] at hv; exact T.thrS hb k (by omega)
  · rcases T.heard2 hh with h1 | h1
    · exact (T.ev (h.heard h1)).1
    · exact h1
  · dsimp only
    rcases T.newS hs with h1 | ⟨h1, h2, h3⟩
    · rw [(T.sv h1).2]
      exact Nat.lt_of_lt_of_le (h.si h1) (T.later.cR _)
    · rw [h2, h3, addN_cnt (by omega)]; omega
end Go.Proofs.Ytcgfjalglnlofaa
