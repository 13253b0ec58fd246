/-
  The plain side of reliable broadcast: what holds of all nodes together, and that it stays (Inv). No program is in sight here; no statement of a claim stands here.
-/
import Derived.Test.YtcgfjalglnlofaaInv2
import Derived.Test.YtcgfjalglnlofaaCast7
set_option linter.unusedSimpArgs false
namespace Go.Proofs.Ytcgfjalglnlofaa
open Go

/-- A message is on its way. -/
def Flight (L : LawS) (P : Option (Nat × Msg)) (j : Nat) (x : Msg) : Prop := (∃ k : Nat, L.to[k]? = some j ∧ L.wait[k]? = some x) ∨ P = some (j, x)

structure NodeOk (L : LawS) (d i : Nat) (s : NodeS) : Prop where
  n : s.n = (L.n : Int)
  t : s.t = (L.t : Int)
  me : s.me = (i : Int) + 1
  dealer : s.dealer = (d : Int)
  E : VOk s.E
  R : VOk s.R
  kE : KeysOk L.n s.E
  kR : KeysOk L.n s.R
  thrE : ∀ v, L.n + L.t < 2 * cnt s.E v → s.ri = true
  thrR : ∀ v, L.t < cnt s.R v → s.ri = true
  thrS : ∀ v, 2 * L.t < cnt s.R v → s.si = true
  heard : s.heard = true → s.ei = true
  si : s.si = true → 2 * L.t < cnt s.R s.sv
  sE : L.sent[2 * (i + 1)]? = some (if s.ei = true then 1 else 0)
  sR : L.sent[2 * (i + 1) + 1]? = some (if s.ri = true then 1 else 0)

/-- What one that is not corrupt sent. -/
def MsgOk (L : LawS) (d : Nat) (v0 : Option ByteArray) (m : Msg) : Prop :=
  ∃ (h : Nat) (sh : NodeS), L.bad ≤ h ∧ L.nodes[h]? = some sh ∧ m.from_ = (h : Int) + 1 ∧ m.val.size ≤ 4096 ∧
    (m.kind = 1 ∧ m.from_ = (d : Int) ∧ v0 = some m.val ∨ m.kind = 2 ∧ sh.ei = true ∧ sh.ev = m.val ∨ m.kind = 3 ∧ sh.ri = true ∧ sh.rv = m.val)

def pend (s : NodeS) : Nat := (if s.ei = true then 0 else 1) + (if s.ri = true then 0 else 1)
def pot (L : LawS) : Nat := L.wait.length + (L.n - L.bad) * (L.nodes.map pend).sum

structure Inv (d : Nat) (v0 : Option ByteArray) (P : Option (Nat × Msg)) (L : LawS) : Prop where
  n : L.n = 3 * L.t + 1
  t : L.t ≤ 2
  bad : L.bad ≤ L.t
  len : L.nodes.length = L.n
  tl : L.to.length = L.wait.length
  tos : ∀ k ∈ L.to, L.bad + 1 ≤ k ∧ k ≤ L.n
  dv : ∀ v, v0 = some v → L.bad < d ∧ d ≤ L.n
  node : ∀ (i : Nat) (s : NodeS), L.nodes[i]? = some s → NodeOk L d i s
  msg : ∀ m ∈ L.wait, MsgOk L d v0 m
  vE : ∀ (i : Nat) (s : NodeS), L.nodes[i]? = some s → ∀ e ∈ s.E, ∀ (h : Nat) (sh : NodeS), L.bad ≤ h → L.nodes[h]? = some sh → e.1 = (h : Int) + 1 → sh.ei = true ∧ sh.ev = e.2.1
  vR : ∀ (i : Nat) (s : NodeS), L.nodes[i]? = some s → ∀ e ∈ s.R, ∀ (h : Nat) (sh : NodeS), L.bad ≤ h → L.nodes[h]? = some sh → e.1 = (h : Int) + 1 → sh.ri = true ∧ sh.rv = e.2.1
  ev : ∀ v, v0 = some v → ∀ (i : Nat) (s : NodeS), L.nodes[i]? = some s → s.ei = true → s.ev = v
  wit : ∀ (i : Nat) (s : NodeS), L.nodes[i]? = some s → s.ri = true → ∃ (h : Nat) (sh : NodeS), L.bad ≤ h ∧ L.nodes[h]? = some sh ∧ L.n + L.t < 2 * cnt sh.E s.rv
  f1 : ∀ v, v0 = some v → ∀ (i : Nat) (s : NodeS), L.bad ≤ i → L.nodes[i]? = some s → s.heard = true ∨ Flight L P (i + 1) ⟨1, (d : Int), v⟩
  f2 : ∀ (h : Nat) (sh : NodeS), L.bad ≤ h → L.nodes[h]? = some sh → sh.ei = true → ∀ (i : Nat) (s : NodeS), L.bad ≤ i → L.nodes[i]? = some s → (∃ e ∈ s.E, e.1 = (h : Int) + 1) ∨ Flight L P (i + 1) ⟨2, (h : Int) + 1, sh.ev⟩
  f3 : ∀ (h : Nat) (sh : NodeS), L.bad ≤ h → L.nodes[h]? = some sh → sh.ri = true → ∀ (i : Nat) (s : NodeS), L.bad ≤ i → L.nodes[i]? = some s → (∃ e ∈ s.R, e.1 = (h : Int) + 1) ∨ Flight L P (i + 1) ⟨3, (h : Int) + 1, sh.rv⟩
  mu : pot L + (if P.isSome = true then 1 else 0) ≤ 1000

/-- A message is taken off those that wait. -/
theorem Inv.cut {d : Nat} {v0 : Option ByteArray} {L : LawS} (I : Inv d v0 none L) {k j : Nat} {m : Msg} (hk : L.to[k]? = some j) (hm : L.wait[k]? = some m) : Inv d v0 (some (j, m)) (cutS L k) := by
  have hkl : k < L.wait.length := (List.getElem?_eq_some_iff.1 hm).1
  have hfl : ∀ {i : Nat} {x : Msg}, Flight L none i x → Flight (cutS L k) (some (j, m)) i x := by
    rintro i x (⟨q, h1, h2⟩ | h)
    · rcases Nat.lt_trichotomy q k with h | h | h
      · exact .inl ⟨q, by simp only [cutS]; rw [List.getElem?_eraseIdx_of_lt h]; exact h1, by simp only [cutS]; rw [List.getElem?_eraseIdx_of_lt h]; exact h2⟩
      · subst h
        rw [hk] at h1; rw [hm] at h2
        cases h1; cases h2
        exact .inr rfl
      · refine .inl ⟨q - 1, ?_, ?_⟩ <;> simp only [cutS] <;> rw [List.getElem?_eraseIdx_of_ge (by omega), Nat.sub_add_cancel (by omega)]
        · exact h1
        · exact h2
    · cases h
  refine ⟨I.n, I.t, I.bad, I.len, ?_, fun x hx => I.tos x (List.mem_of_mem_eraseIdx hx), I.dv, fun i s hs => ?_, fun x hx => I.msg x (List.mem_of_mem_eraseIdx hx), I.vE, I.vR, I.ev, I.wit,
    fun v hv i s hi hs => (I.f1 v hv i s hi hs).imp id hfl, fun h sh hh hs he i s hi hs' => (I.f2 h sh hh hs he i s hi hs').imp id hfl, fun h sh hh hs he i s hi hs' => (I.f3 h sh hh hs he i s hi hs').imp id hfl, ?_⟩
  · simp only [cutS]
    rw [List.length_eraseIdx_of_lt (by rw [I.tl]; exact hkl), List.length_eraseIdx_of_lt hkl, I.tl]
  · have := I.node i s hs
    exact ⟨this.n, this.t, this.me, this.dealer, this.E, this.R, this.kE, this.kR, this.thrE, this.thrR, this.thrS, this.heard, this.si, this.sE, this.sR⟩
  · have := I.mu
    simp only [pot, cutS, Option.isSome_none, Option.isSome_some, Bool.false_eq_true, if_false, if_true] at this ⊢
    rw [List.length_eraseIdx_of_lt hkl]
    omega

theorem sum_set {α : Type} (f : α → Nat) : ∀ (l : List α) (i : Nat) (a b : α), l[i]? = some a → ((l.set i b).map f).sum + f a = (l.map f).sum + f b
  | [], i, a, b, h => by simp at h
  | x :: l, 0, a, b, h => by
    simp only [List.getElem?_cons_zero, Option.some.injEq] at h
    subst h
    simp; omega
  | x :: l, i + 1, a, b, h => by
    simp only [List.getElem?_cons_succ] at h
    have := sum_set f l i a b h
    simp only [List.set_cons_succ, List.map_cons, List.sum_cons]
    omega
end Go.Proofs.Ytcgfjalglnlofaa
