/-
  The plain side of agreement: in the first round all decide its leader's input: plays, the end; what is decided was an input. No statement of a claim stands here.
-/
import Derived.Test.YtnpmjpdndhedgaaI5
set_option linter.unusedSimpArgs false
namespace Go.Proofs.Ytnpmjpdndhedgaa
open Go

structure E2 (want : ByteArray) (L : LawS) : Prop where
  e : EInv want L.good L
  ok : LOk L

theorem E2.of {want : ByteArray} {L L' : LawS} (h : EInv want L.good L') (ok : LOk L') (hg : L'.good = L.good) : E2 want L' := ⟨by rw [hg]; exact h, ok⟩

theorem E2.hand {want : ByteArray} {L : LawS} (h : E2 want L) (hw : want ≠ ⟨#[]⟩) (hw2 : want.size ≤ 4096) (k : Nat) : E2 want (handS L k) :=
  .of (L := L) (h.e.hand hw hw2 h.ok.dest k) (handS_ok h.ok k) (handS_same L k).2.2
theorem E2.move {want : ByteArray} {L : LawS} (h : E2 want L) (hw : want ≠ ⟨#[]⟩) (hw2 : want.size ≤ 4096) (m : MoveS) : E2 want (moveS false L m) := by
  refine .of (L := L) ?_ (moveS_ok h.ok false m) (moveS_same false L m).2.2
  unfold moveS
  rw [if_neg (by simp)]
  split
  · rename_i hg
    cases hs : L.nodes[(among m.to_ L.good).toNat]? with
    | none =>
      have : stepS L (among m.to_ L.good).toNat (fun s => takeS s (foul L m)) = L := by unfold stepS; rw [hs]
      rw [this]; exact h.e
    | some s => exact h.e.take hs _ (fun hf => absurd hf (foul_far L m hg.2))
  · unfold handA
    split
    · exact h.e
    · exact h.e.hand hw hw2 h.ok.dest _
theorem E2.play {want : ByteArray} {L : LawS} (h : E2 want L) (hw : want ≠ ⟨#[]⟩) (hw2 : want.size ≤ 4096) (l : List MoveS) : E2 want (playN false l L).2 := playN_keep false (E2 want) (fun _ m h => h.move hw hw2 m) l L h

theorem nodup_of {α β γ : Type} {f : α → β} {q : α → γ} {l : List α} (h : (l.map f).Nodup) (hq : ∀ a ∈ l, ∀ b ∈ l, q a = q b → f a = f b) : (l.map q).Nodup := by
  induction l with
  | nil => simp
  | cons x l ih =>
    simp only [List.map_cons, List.nodup_cons, List.mem_map, not_exists, not_and] at h ⊢
    exact ⟨fun y hy e => h.1 y hy (hq y (by simp [hy]) x (by simp) e), ih h.2 (fun a ha b hb => hq a (by simp [ha]) b (by simp [hb]))⟩

theorem EInv.few {want : ByteArray} {k : Nat} {L : LawS} (h : EInv want k L) : L.all.length ≤ 3 * L.good := by
  have key : ∀ m ∈ L.all, 1 ≤ m.from_ ∧ m.from_ ≤ (L.good : Int) ∧ (m.kind = 1 ∨ m.kind = 2 ∨ m.kind = 3) ∧ m.round = 0 := fun m hm => by
    obtain ⟨j, x, hx, hf, _⟩ := h.w.inv.sent m hm
    have hj := (List.getElem?_eq_some_iff.1 hx).1
    have hlen := h.w.inv.len
    exact ⟨by omega, by omega, (h.val m hm).1, h.r0 m hm⟩
  have hnd : (L.all.map fun m => (m.kind - 1) * (L.good : Int) + m.from_).Nodup := nodup_of h.w.inv.uniq (fun a ha b hb e => by
    obtain ⟨a1, a2, a3, a4⟩ := key a ha
    obtain ⟨b1, b2, b3, b4⟩ := key b hb
    rw [a4, b4]
    rcases a3 with a3 | a3 | a3 <;> rcases b3 with b3 | b3 | b3 <;> rw [a3, b3] at e ⊢ <;> simp only [Prod.mk.injEq, and_true] <;> first | (refine ⟨trivial, ?_⟩; omega) | (exfalso; simp at e; omega) | omega)
  have := len_le (3 * L.good) _ hnd (fun x hx => by
    obtain ⟨m, hm, rfl⟩ := List.mem_map.1 hx
    obtain ⟨a1, a2, a3, a4⟩ := key m hm
    rcases a3 with a3 | a3 | a3 <;> rw [a3] <;> constructor <;> (try simp) <;> omega)
  simpa using this

def mu (L : LawS) : Nat := L.wait.length + (3 * L.good - L.all.length) * L.good
theorem mu_hand {want : ByteArray} {L : LawS} (h : E2 want L) (hw : want ≠ ⟨#[]⟩) (hw2 : want.size ≤ 4096) (hn : L.wait ≠ []) : mu (handS L 0) < mu L := by
  have hl : 0 < L.wait.length := List.length_pos_iff.2 hn
  have hdl := h.e.dl
  obtain ⟨m, hm⟩ : ∃ m, L.wait[0]? = some m := ⟨_, List.getElem?_eq_getElem hl⟩
  obtain ⟨d, hd⟩ : ∃ d, L.dest[0]? = some d := ⟨_, List.getElem?_eq_getElem (by omega)⟩
  have hd1 := h.ok.dest d (List.mem_of_getElem? hd)
  have hlen := h.ok.len
  obtain ⟨s, hs⟩ : ∃ s, L.nodes[d - 1]? = some s := ⟨_, List.getElem?_eq_getElem (by omega)⟩
  have e2 : handS L 0 = sendS { cutS L 0 with nodes := L.nodes.set (d - 1) (takeS s m).1 } (takeS s m).2 := by
    unfold handS
    rw [hd, hm]
    exact stepS_some (L := cutS L 0) hs _
  have hfew := (h.hand hw hw2 0).e.few
  rw [e2] at hfew ⊢
  obtain ⟨g1, g2, g3, g4, g5, g6, g7⟩ := sendS_same { cutS L 0 with nodes := L.nodes.set (d - 1) (takeS s m).1 } (takeS s m).2
  unfold mu
  rw [g3, g7] at hfew
  rw [g3, g6, g7]
  simp only [cutS, List.length_append] at hfew ⊢
  have el : (L.wait.eraseIdx 0).length + 1 = L.wait.length := by rw [List.length_eraseIdx_of_lt hl]; omega
  have e3 : (3 * L.good - L.all.length) * L.good = (3 * L.good - (L.all.length + (takeS s m).2.length)) * L.good + (takeS s m).2.length * L.good := by
    rw [← Nat.add_mul]
    congr 1
    omega
  rw [e3]
  omega
theorem finish_empty {want : ByteArray} (hw : want ≠ ⟨#[]⟩) (hw2 : want.size ≤ 4096) : ∀ (k : Nat) (L : LawS), E2 want L → mu L ≤ k → (finishN k L).wait = [] ∧ E2 want (finishN k L) := by
  intro k
  induction k with
  | zero =>
    intro L h hm
    unfold mu at hm
    exact ⟨List.eq_nil_of_length_eq_zero (by show L.wait.length = 0; omega), h⟩
  | succ k ih =>
    intro L h hm
    unfold finishN
    split
    · rename_i hn; exact ⟨hn, h⟩
    · rename_i hn
      have := mu_hand h hw hw2 hn
      exact ih _ (h.hand hw hw2 0) (by omega)
theorem mu_le {want : ByteArray} {L : LawS} (h : E2 want L) : mu L ≤ 768 := by
  have h1 := h.e.wl
  have h2 := h.e.few
  have h3 := h.ok.g2
  unfold mu
  have e : L.all.length * L.good + (3 * L.good - L.all.length) * L.good = 3 * L.good * L.good := by rw [← Nat.add_mul]; congr 1; omega
  have : 3 * L.good * L.good ≤ 3 * 16 * 16 := Nat.mul_le_mul (Nat.mul_le_mul (Nat.le_refl _) h3) h3
  omega

/-- At the end all have decided. -/
theorem EInv.ends {want : ByteArray} {L : LawS} (h : EInv want L.good L) (hw : want ≠ ⟨#[]⟩) (he : L.wait = []) : ∀ (j : Nat) (s : NodeS), L.nodes[j]? = some s → s.done = true ∧ s.choice = want := by
  have hlen := h.w.inv.len
  have hg := h.w.inv.nums
  have hgn := hg.gn
  have htg := hg.tg
  have htwo := hg.two
  have hnode : ∀ (j : Nat) (s : NodeS), L.nodes[j]? = some s → s.round = 0 ∧ Cl s ∧ Snd s L.all := fun j s hs => by
    obtain ⟨a1, a2, a3, a4⟩ := h.node j s hs
    have hj := (List.getElem?_eq_some_iff.1 hs).1
    exact ⟨(a1 (by omega)).1, (a1 (by omega)).2, a3⟩
  have hcnt : ∀ m ∈ L.all, ∀ (j : Nat) (s : NodeS), L.nodes[j]? = some s → ∃ e ∈ s.hd m.seat, e.1 = m.from_ := fun m hm j s hs => by
    have hj := (List.getElem?_eq_some_iff.1 hs).1
    rcases h.fl m hm j (by omega) with ⟨x, hx, e⟩ | ⟨q, _, h2⟩
    · rw [hs] at hx; cases hx; exact e
    · rw [he] at h2; simp at h2
  have hval : ∀ (j : Nat) (s : NodeS), L.nodes[j]? = some s → ∀ (k : Int) (e : Int × ByteArray × Nat), e ∈ s.hd (k, 0) → e.1 ≤ (L.good : Int) → e.2.1 = want := fun j s hs k e hm hf => (h.val _ (h.w.inv.hd j s hs (k, 0) e hm hf)).2
  have hsaid : ∀ (k : Int), (∀ (i : Nat) (s : NodeS), L.nodes[i]? = some s → s.sent (k, 0) = true) → ∀ (j : Nat) (s : NodeS), L.nodes[j]? = some s → L.good ≤ cnt (s.hd (k, 0)) want := fun k hk j s hs => by
    refine all_said want (fun i hi => ?_)
    obtain ⟨x, hx⟩ : ∃ x, L.nodes[i]? = some x := ⟨_, List.getElem?_eq_getElem (by omega)⟩
    obtain ⟨v, hv⟩ := (hnode i x hx).2.2 (k, 0) (hk i x hx)
    have hme := (h.w.inv.nt i x hx).2.2
    obtain ⟨e, he1, he2⟩ := hcnt _ hv j s hs
    have he2 : e.1 = x.me := he2
    refine ⟨e, he1, by rw [he2, hme], hval j s hs k e he1 (by rw [he2, hme]; omega)⟩
  have hq : ∀ (j : Nat) (s : NodeS), L.nodes[j]? = some s → s.n - s.t ≤ (L.good : Int) := fun j s hs => by
    have hnt := h.w.inv.nt j s hs
    rw [hnt.1, hnt.2.1]
    have := hg.up
    omega
  have hvote : ∀ (i : Nat) (s : NodeS), L.nodes[i]? = some s → s.sent (2, 0) = true := fun i s hs => by
    refine (hnode i s hs).2.1.v ?_
    obtain ⟨x, hx⟩ : ∃ x, L.nodes[0]? = some x := ⟨_, List.getElem?_eq_getElem (by omega)⟩
    have hme := (h.w.inv.nt 0 x hx).2.2
    obtain ⟨v, hv⟩ := (hnode 0 x hx).2.2 (1, 0) ((hnode 0 x hx).2.1.p (by rw [hme]; rfl))
    obtain ⟨e, he1, he2⟩ := hcnt _ hv i s hs
    exact look_isSome.2 ⟨e, he1, he2.trans (by show x.me = 1; rw [hme]; rfl)⟩
  have hcom : ∀ (i : Nat) (s : NodeS), L.nodes[i]? = some s → s.sent (3, 0) = true := fun i s hs => (hnode i s hs).2.1.c want hw (by have := hsaid 2 hvote i s hs; have := hq i s hs; omega)
  intro j s hs
  have hd := (hnode j s hs).2.1.d want (by have := hsaid 3 hcom j s hs; have := hq j s hs; omega)
  refine ⟨hd, ?_⟩
  obtain ⟨r, hm⟩ := h.w.inv.don j s hs hd
  exact h.val.one (by omega) hm
end Go.Proofs.Ytnpmjpdndhedgaa
