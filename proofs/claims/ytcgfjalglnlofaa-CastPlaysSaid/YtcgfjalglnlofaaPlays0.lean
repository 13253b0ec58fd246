/-
  CastPlays, walked: both nodes side by side. No statement of a claim stands here; each contract names what it asks.
-/
import Derived.Test.YtcgfjalglnlofaaRef6
import Derived.Test.YtcgfjalglnlofaaCast3
import Derived.Test.YtcgfjalglnlofaaCastC
set_option linter.unusedSimpArgs false
namespace Go.Proofs.Ytcgfjalglnlofaa
open Go Go.RowKit

/-- Messages as a slice lays them. -/
structure ListAt (W : World) (a : Option Addr) (l : List Msg) : Prop where
  cell : ∀ (i : Nat) (m : Msg), l[i]? = some m → ∃ b o, a = some ⟨b, o, none⟩ ∧ b < W.heap.size ∧ ∀ (j : Nat) (u : Value), m.cells[j]? = some u → W.cell? ⟨b, o + i * 3 + j, none⟩ = some u

/-- What both nodes keep, behind j messages at most. -/
structure PInv (j : Nat) (s : NodeS) : Prop where
  n0 : 0 < s.n
  n1 : s.n ≤ 16
  t0 : 0 ≤ s.t
  t1 : s.t ≤ 5
  E : VOk s.E
  R : VOk s.R
  kE : KOk s.n s.E
  kR : KOk s.n s.R
  lE : s.E.length ≤ j
  lR : s.R.length ≤ j

theorem takeS_parts (s : NodeS) (m : Msg) : (takeS s m).1.n = s.n ∧ (takeS s m).1.t = s.t ∧ ((takeS s m).1.E = s.E ∨ mayBe s m = true ∧ (takeS s m).1.E = addL s.E m.from_ m.val) ∧ ((takeS s m).1.R = s.R ∨ mayBe s m = true ∧ (takeS s m).1.R = addL s.R m.from_ m.val) := by
  unfold takeS
  by_cases hb : mayBe s m = true
  · rw [if_pos hb]
    by_cases k1 : m.kind = 1
    · rw [if_pos k1]
      split
      · unfold sendE
        split <;> exact ⟨rfl, rfl, .inl rfl, .inl rfl⟩
      · exact ⟨rfl, rfl, .inl rfl, .inl rfl⟩
    · rw [if_neg k1]
      by_cases k2 : m.kind = 2
      · rw [if_pos k2]
        split
        · unfold sendR
          split <;> exact ⟨rfl, rfl, .inr ⟨hb, rfl⟩, .inl rfl⟩
        · exact ⟨rfl, rfl, .inr ⟨hb, rfl⟩, .inl rfl⟩
      · rw [if_neg k2]
        by_cases k3 : m.kind = 3
        · rw [if_pos k3]
          unfold sendR settle
          repeat' split
          all_goals exact ⟨rfl, rfl, .inl rfl, .inr ⟨hb, rfl⟩⟩
        · rw [if_neg k3]; exact ⟨rfl, rfl, .inl rfl, .inl rfl⟩
  · rw [if_neg hb]; exact ⟨rfl, rfl, .inl rfl, .inl rfl⟩

theorem PInv.take {j : Nat} {s : NodeS} (h : PInv j s) (m : Msg) : PInv (j + 1) (takeS s m).1 := by
  obtain ⟨e1, e2, hE, hR⟩ := takeS_parts s m
  have hb : mayBe s m = true → 1 ≤ m.from_ ∧ m.from_ ≤ s.n := fun hb => by
    simp only [mayBe, Bool.and_eq_true, decide_eq_true_eq] at hb
    exact hb.1
  refine ⟨by rw [e1]; exact h.n0, by rw [e1]; exact h.n1, by rw [e2]; exact h.t0, by rw [e2]; exact h.t1, ?_, ?_, ?_, ?_, ?_, ?_⟩
  · rcases hE with e | ⟨_, e⟩ <;> rw [e]
    · exact h.E
    · exact addL_ok h.E _ _
  · rcases hR with e | ⟨_, e⟩ <;> rw [e]
    · exact h.R
    · exact addL_ok h.R _ _
  · rw [e1]
    rcases hE with e | ⟨hm, e⟩ <;> rw [e]
    · exact h.kE
    · exact h.kE.add (hb hm).1 (hb hm).2
  · rw [e1]
    rcases hR with e | ⟨hm, e⟩ <;> rw [e]
    · exact h.kR
    · exact h.kR.add (hb hm).1 (hb hm).2
  · have := h.lE
    rcases hE with e | ⟨_, e⟩ <;> rw [e]
    · omega
    · have := addL_len s.E m.from_ m.val; omega
  · have := h.lR
    rcases hR with e | ⟨_, e⟩ <;> rw [e]
    · omega
    · have := addL_len s.R m.from_ m.val; omega

theorem PInv.start {j : Nat} {s : NodeS} (h : PInv j s) (v : ByteArray) : PInv (j + 1) (startS s v).1 := by
  have hs : PInv (j + 1) s := ⟨h.n0, h.n1, h.t0, h.t1, h.E, h.R, h.kE, h.kR, by have := h.lE; omega, by have := h.lR; omega⟩
  unfold startS
  repeat' split
  · exact hs
  · exact hs
  · exact hs
  · exact ⟨hs.n0, hs.n1, hs.t0, hs.t1, hs.E, hs.R, hs.kE, hs.kR, hs.lE, hs.lR⟩

theorem PInv.new {n t me dealer : Int} (h : goodNode n t me dealer = true) : PInv 0 (newNode n t me dealer) := by
  simp only [goodNode, within, Bool.and_eq_true, decide_eq_true_eq] at h
  obtain ⟨⟨⟨⟨⟨h1, h2⟩, h3⟩, h4⟩, h5, h6⟩, h7, h8⟩ := h
  exact ⟨by simp only [newNode]; omega, h4, h1, h2, VOk.nil, VOk.nil, fun e he => (by cases he), fun e he => (by cases he), Nat.le_refl _, Nat.le_refl _⟩

/-- Both nodes lie in blocks that are new since W. -/
structure Both (W W' : World) (x be br y : Nat) (s : NodeS) : Prop where
  node : NodeAt W' x be br s
  ref : RefAt W' y s
  mod : Mod [] W W'
  nx : W.heap.size ≤ x
  ne : W.heap.size ≤ be
  nr : W.heap.size ≤ br
  ny : W.heap.size ≤ y

theorem Both.mod0 {W W' W'' : World} {x be br y : Nat} {s : NodeS} (h : Both W W' x be br y s) (m : Mod [] W' W'') : Both W W'' x be br y s :=
  ⟨h.node.mod m (by simp) (by simp) (by simp), h.ref.mod m (by simp), h.mod.trans m, h.nx, h.ne, h.nr, h.ny⟩
theorem Both.yn {W W' : World} {x be br y : Nat} {s : NodeS} (h : Both W W' x be br y s) : y ∉ [x, be, br] := by
  simp only [List.mem_cons, List.not_mem_nil, or_false, not_or]
  exact ⟨ne_ty h.ref h.node.cells (by decide), ne_map h.ref h.node.e, ne_map h.ref h.node.r⟩
/-- The one, then the other. -/
theorem Both.step {W W1 W2 W3 : World} {x be br y : Nat} {s s' : NodeS} (h : Both W W1 x be br y s) (n2 : NodeAt W2 x be br s') (m2 : Mod [x, be, br] W1 W2) (r3 : RefAt W3 y s') (m3 : Mod [y] W2 W3) : Both W W3 x be br y s' := by
  have hy := h.yn
  simp only [List.mem_cons, List.not_mem_nil, or_false, not_or] at hy
  refine ⟨n2.mod m3 (by simp; exact fun e => hy.1 e.symm) (by simp; exact fun e => hy.2.1 e.symm) (by simp; exact fun e => hy.2.2 e.symm), r3, ?_, h.nx, h.ne, h.nr, h.ny⟩
  have a := h.nx
  have b := h.ne
  have c := h.nr
  have d := h.ny
  refine (h.mod.trans' m2 (fun k hk => .inr ?_)).trans' m3 (fun k hk => .inr ?_)
  · simp only [List.mem_cons, List.not_mem_nil, or_false] at hk
    rcases hk with rfl | rfl | rfl <;> assumption
  · simp only [List.mem_cons, List.not_mem_nil, or_false] at hk
    subst hk; exact d

theorem MsgsAt.form {B : Nat} {w : World} {v : Value} {out : List Msg} (h : MsgsAt B w v out) : ∃ a c, v = .slice a out.length c ∧ out.length ≤ 1 ∧ (0 < out.length → ∃ b m, a = some ⟨b, 0, none⟩ ∧ out = [m] ∧ w.heap[b]? = some (.cells m.cells.toArray 36 (0, 0))) := by
  rcases h with ⟨rfl, rfl⟩ | ⟨m, b, rfl, rfl, _, h⟩
  · exact ⟨none, 0, rfl, by simp, fun h => by simp at h⟩
  · exact ⟨_, 1, rfl, by simp, fun _ => ⟨b, m, rfl, rfl, h⟩⟩
theorem RMsgsAt.form {B : Nat} {w : World} {v : Value} {out : List Msg} (h : RMsgsAt B w v out) : ∃ a c, v = .slice a out.length c ∧ out.length ≤ 1 ∧ (0 < out.length → ∃ b m, a = some ⟨b, 0, none⟩ ∧ out = [m] ∧ w.heap[b]? = some (.cells m.cells.toArray 50 (0, 0))) := by
  rcases h with ⟨rfl, rfl⟩ | ⟨m, b, rfl, rfl, _, h⟩
  · exact ⟨none, 0, rfl, by simp, fun h => by simp at h⟩
  · exact ⟨_, 1, rfl, by simp, fun _ => ⟨b, m, rfl, rfl, h⟩⟩
theorem MsgsAt.mod {B : Nat} {w w' : World} {v : Value} {out : List Msg} {y : Nat} (h : MsgsAt B w v out) (m : Mod [y] w w') (hy : y < B) : MsgsAt B w' v out := by
  rcases h with h | ⟨m', b, h1, h2, h3, h4⟩
  · exact .inl h
  · exact .inr ⟨m', b, h1, h2, h3, m.get h4 (by simp; omega)⟩
end Go.Proofs.Ytcgfjalglnlofaa
