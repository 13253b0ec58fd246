/-
  The plain side of agreement: in the first round all decide its leader's input (EInv). No statement of a claim stands here.
-/
import Derived.Test.YtnpmjpdndhedgaaI4
set_option linter.unusedSimpArgs false
namespace Go.Proofs.Ytnpmjpdndhedgaa
open Go

/-- Each message was counted by each, or waits for it. -/
def Fl (L : LawS) : Prop := ∀ m ∈ L.all, ∀ j < L.good, (∃ s, L.nodes[j]? = some s ∧ ∃ e ∈ s.hd m.seat, e.1 = m.from_) ∨ ∃ q : Nat, L.dest[q]? = some (j + 1) ∧ L.wait[q]? = some m

theorem fl_send1 {L : LawS} (h : Fl L) (hd : L.dest.length = L.wait.length) (m : Msg) : Fl (send1 L m) := by
  intro x hx j hj
  simp only [send1, List.mem_append, List.mem_singleton] at hx
  rcases hx with hx | rfl
  · rcases h x hx j hj with h1 | ⟨q, h1, h2⟩
    · exact .inl h1
    · refine .inr ⟨q, ?_, ?_⟩
      · simp only [send1]; rw [List.getElem?_append_left (List.getElem?_eq_some_iff.1 h1).1]; exact h1
      · simp only [send1]; rw [List.getElem?_append_left (List.getElem?_eq_some_iff.1 h2).1]; exact h2
  · refine .inr ⟨L.wait.length + j, ?_, ?_⟩
    · simp only [send1]
      rw [List.getElem?_append_right (by omega), hd, Nat.add_sub_cancel_left, List.getElem?_map, List.getElem?_range (show j < L.good from hj)]
      simp; omega
    · simp only [send1]
      rw [List.getElem?_append_right (by omega), Nat.add_sub_cancel_left, List.getElem?_replicate, if_pos (show j < L.good from hj)]
theorem fl_send {L : LawS} (h : Fl L) (hd : L.dest.length = L.wait.length) (l : List Msg) : Fl (sendS L l) := by
  induction l generalizing L with
  | nil => exact h
  | cons m l ih => exact ih (fl_send1 h hd m) (by simp [send1, hd])

/-- In the round 0: the first k nodes have begun. -/
structure EInv (want : ByteArray) (k : Nat) (L : LawS) : Prop where
  w : WInv L
  val : Vals (· = want) L.all
  node : ∀ (j : Nat) (s : NodeS), L.nodes[j]? = some s → (j < k → s.round = 0 ∧ Cl s) ∧ (k ≤ j → s.round = -1 ∧ s.hd = fun _ => []) ∧ Snd s L.all ∧ (j = 0 → s.input = want)
  fl : Fl L
  wl : L.wait.length ≤ L.all.length * L.good
  dl : L.dest.length = L.wait.length
  r0 : ∀ m ∈ L.all, m.round = 0

theorem lead0 {L : LawS} {want : ByteArray} {k : Nat} (h : EInv want k L) {j : Nat} {s : NodeS} (hs : L.nodes[j]? = some s) : leaderS s 0 = 1 := by
  have := (h.w.inv.nt j s hs).1
  unfold leaderS
  simp

/-- A node has taken a step: what it says is sent. -/
theorem EInv.step {want : ByteArray} {k k' : Nat} {L : LawS} (h : EInv want k L) {i : Nat} {s : NodeS} (hs : L.nodes[i]? = some s) (f : NodeS → NodeS × List Msg) (hw : WInv (stepS L i f))
    (hV : Vals (· = want) (L.all ++ (f s).2)) (hN : (i < k' → (f s).1.round = 0 ∧ Cl (f s).1) ∧ (k' ≤ i → (f s).1.round = -1 ∧ (f s).1.hd = fun _ => []) ∧ Snd (f s).1 (L.all ++ (f s).2) ∧ (i = 0 → (f s).1.input = want))
    (hk : ∀ j, j ≠ i → (j < k ↔ j < k')) (hkeep : ∀ q, ∀ e ∈ s.hd q, e ∈ (f s).1.hd q) (hr : ∀ m ∈ (f s).2, m.round = 0) : EInv want k' (stepS L i f) := by
  have e : stepS L i f = sendS { L with nodes := L.nodes.set i (f s).1 } (f s).2 := stepS_some hs f
  rw [e] at hw ⊢
  obtain ⟨h1, h2, h3, h4, h5, h6, h7⟩ := sendS_same { L with nodes := L.nodes.set i (f s).1 } (f s).2
  have hil := (List.getElem?_eq_some_iff.1 hs).1
  refine ⟨hw, by rw [h7]; exact hV, fun j x hx => ?_, fl_send (L := { L with nodes := L.nodes.set i (f s).1 }) ?_ h.dl _, ?_, ?_, fun m hm => ?_⟩
  · rw [h4] at hx
    dsimp only at hx
    rw [h7]
    rcases get_set hs hx with ⟨rfl, rfl⟩ | ⟨hj, hx⟩
    · exact hN
    · obtain ⟨a1, a2, a3, a4⟩ := h.node j x hx
      refine ⟨fun hjk => a1 ((hk j hj).2 hjk), fun hjk => a2 ?_, a3.mono (fun m hm => List.mem_append_left _ hm), a4⟩
      have := hk j hj
      omega
  · intro m hm j hj
    rcases h.fl m hm j hj with ⟨x, hx, e, he, h8⟩ | h8
    · left
      by_cases hji : i = j
      · subst hji
        rw [hs] at hx
        cases hx
        exact ⟨_, List.getElem?_set_self hil, e, hkeep _ e he, h8⟩
      · exact ⟨x, by dsimp only; rw [List.getElem?_set_ne hji]; exact hx, e, he, h8⟩
    · exact .inr h8
  · rw [h6, h7, h3, List.length_append, Nat.add_mul]
    have := h.wl
    dsimp only
    omega
  · rw [h5, h6]
    have := h.dl
    dsimp only
    omega
  · rw [h7] at hm
    rcases List.mem_append.1 hm with h8 | h8
    · exact h.r0 m h8
    · exact hr m h8

theorem run_round {s s' : NodeS} {out : List Msg} (R : Run s s' out) : ∀ m ∈ out, m.round = s.round := by
  induction R with
  | refl s => intro m hm; cases hm
  | lock s r v s' out hv hr hc hlr _ ih => exact ih
  | say s k v s' out h0 ha hs _ ih =>
    intro m hm
    rcases List.mem_cons.1 hm with rfl | hm
    · rfl
    · exact ih m hm
  | decide s r v s' out hc hd _ ih => exact ih

theorem want_ne {want : ByteArray} : ∀ a p : ByteArray, a = want → p = want → a ≠ p → (⟨#[]⟩ : ByteArray) = want := fun _ _ h1 h2 h3 => absurd (h1.trans h2.symm) h3

theorem EInv.begin {want : ByteArray} {k : Nat} {L : LawS} (h : EInv want k L) (hkg : k < L.good) : EInv want (k + 1) (stepS L k (fun s => hereS (at0 s))) := by
  have hlen := h.w.inv.len
  obtain ⟨s, hs⟩ : ∃ s, L.nodes[k]? = some s := ⟨_, List.getElem?_eq_getElem (by omega)⟩
  obtain ⟨a1, a2, a3, a4⟩ := h.node k s hs
  obtain ⟨hr, hh⟩ := a2 (Nat.le_refl _)
  have hnt := h.w.inv.nt k s hs
  have hnum := h.w.inv.nums
  have hg := hnum.gn
  have htg := hnum.tg
  have hle : leaderS (at0 s) (at0 s).round = 1 := by have := lead0 h hs; unfold leaderS at this ⊢; exact this
  have R := run_here (at0 s) (Int.le_refl 0)
  have hI := h.w.inv.next (r := 0) hs (by omega)
  refine h.step (k' := k + 1) hs _ (h.w.step _ _ (fun x hx => h.w.inv.start hx (by rw [hs] at hx; cases hx; omega))) ?_ ⟨fun _ => ⟨?_, ?_⟩, fun hk => by omega, Snd.run R a3, fun h0 => ?_⟩ (fun j hj => by omega) (fun q e he => ?_) (fun m hm => ?_)
  · refine Vals.run hI (set_at hs) R want_ne (show leaderS (at0 s) (at0 s).round ≤ (L.good : Int) by rw [hle]; omega) (fun hm => ?_) h.val
    replace hm : leaderS (at0 s) (at0 s).round = (at0 s).me := hm
    rw [hle] at hm
    have : (at0 s).me = s.me := rfl
    rw [this, hnt.2.2] at hm
    exact a4 (by omega)
  · exact R.same.2.2.2.2.1
  · refine cl_here rfl (show leaderS s 0 = 1 from lead0 h hs) (fun v _ hc => ?_) (fun v hc => ?_)
    · have e : (at0 s).hd (2, 0) = [] := by show s.hd (2, 0) = []; rw [hh]
      rw [e] at hc
      have e2 : (at0 s).n - (at0 s).t = s.n - s.t := rfl
      rw [e2, hnt.1, hnt.2.1] at hc
      simp [cnt] at hc
      omega
    · have e : (at0 s).hd (3, 0) = [] := by show s.hd (3, 0) = []; rw [hh]
      rw [e] at hc
      have e2 : (at0 s).n - (at0 s).t = s.n - s.t := rfl
      rw [e2, hnt.1, hnt.2.1] at hc
      simp [cnt] at hc
      omega
  · rw [R.same.2.2.2.1]; exact a4 h0
  · rw [hh] at he; cases he
  · have := run_round R m hm; rw [this]; rfl

/-- A message may be taken. -/
theorem EInv.may {want : ByteArray} {k : Nat} {L : LawS} (h : EInv want k L) (hw : want ≠ ⟨#[]⟩) (hw2 : want.size ≤ 4096) {m : Msg} (hm : m ∈ L.all) {i : Nat} {s : NodeS} (hs : L.nodes[i]? = some s) : mayS s m = true := by
  obtain ⟨hk, hv⟩ := h.val m hm
  obtain ⟨j, x, hx, hf, _⟩ := h.w.inv.sent m hm
  have hj := (List.getElem?_eq_some_iff.1 hx).1
  have hlen := h.w.inv.len
  have hg := h.w.inv.nums.gn
  have hnt := h.w.inv.nt i s hs
  have hr := h.r0 m hm
  have hl := h.w.inv.ldr m hm
  unfold mayS
  rw [hv, hr]
  have hld : leaderS s 0 = 1 := lead0 h hs
  rw [hld]
  have f1 : 1 ≤ m.from_ := by omega
  have f2 : m.from_ ≤ s.n := by rw [hnt.1]; omega
  have e2 : decide (want ≠ ⟨#[]⟩) = true := decide_eq_true hw
  rw [decide_eq_true f1, decide_eq_true f2, decide_eq_true hw2, e2]
  rcases hk with hk | hk | hk
  · have := hl hk
    rw [hr] at this
    simp at this
    rw [hk, this]
    rfl
  · rw [hk]; rfl
  · rw [hk]; rfl

theorem EInv.take {want : ByteArray} {L : LawS} (h : EInv want L.good L) {i : Nat} {s : NodeS} (hs : L.nodes[i]? = some s) (m : Msg) (hm : m.from_ ≤ (L.good : Int) → m ∈ L.all) : EInv want L.good (stepS L i (fun s => takeS s m)) := by
  have hlen := h.w.inv.len
  have hil := (List.getElem?_eq_some_iff.1 hs).1
  obtain ⟨a1, a2, a3, a4⟩ := h.node i s hs
  obtain ⟨hr, hc⟩ := a1 (by omega)
  have hnt := h.w.inv.nt i s hs
  have hl0 := lead0 h hs
  have htg := h.w.inv.nums.tg
  have hsame := take_same s m
  refine h.step (k' := L.good) hs _ (h.w.step _ _ (fun x hx => h.w.inv.take hx m hm)) ?_ ⟨fun _ => ⟨by rw [hsame.2.2.2.2]; exact hr, cl_take m hr hl0 hc⟩, fun hk => by omega, Snd.take a3 m, fun h0 => by rw [hsame.2.2.2.1]; exact a4 h0⟩ (fun j hj => Iff.rfl) (fun q e he => take_keep s m q e he) (fun x hx => ?_)
  · rcases take_run s m with ⟨_, h2⟩ | ⟨_, hmay, _, R⟩
    · rw [h2, List.append_nil]; exact h.val
    · have hle : leaderS (addS s m) (addS s m).round = 1 := by
        have e : (addS s m).round = 0 := hr
        rw [e]; exact hl0
      refine Vals.run (h.w.inv.count hs hmay hm) (set_at hs) R want_ne (by rw [hle]; omega) (fun hme => ?_) h.val
      rw [hle] at hme
      have : (addS s m).me = s.me := rfl
      rw [this, hnt.2.2] at hme
      exact a4 (by omega)
  · rcases take_run s m with ⟨_, h2⟩ | ⟨_, hmay, _, R⟩
    · rw [h2] at hx; cases hx
    · have := run_round R x hx
      rw [this]; exact hr

theorem erase_get {α : Type} (l : List α) (k q : Nat) (hq : q ≠ k) : ∃ q', (l.eraseIdx k)[q']? = l[q]? ∧ q' = if q < k then q else q - 1 := by
  rcases Nat.lt_or_gt_of_ne hq with h | h
  · exact ⟨q, by rw [List.getElem?_eraseIdx_of_lt h], by rw [if_pos h]⟩
  · exact ⟨q - 1, by rw [List.getElem?_eraseIdx_of_ge (by omega), Nat.sub_add_cancel (by omega)], by rw [if_neg (by omega)]⟩

/-- What was cut off the row is handed on. -/
theorem EInv.hand {want : ByteArray} {L : LawS} (h : EInv want L.good L) (hw : want ≠ ⟨#[]⟩) (hw2 : want.size ≤ 4096) (hdest : ∀ d ∈ L.dest, 1 ≤ d ∧ d ≤ L.good) (k : Nat) : EInv want L.good (handS L k) := by
  cases hd : L.dest[k]? with
  | none =>
    have : handS L k = L := by unfold handS; rw [hd]
    rw [this]; exact h
  | some d =>
    have hkl : k < L.wait.length := by have := (List.getElem?_eq_some_iff.1 hd).1; rw [h.dl] at this; exact this
    obtain ⟨m, hm⟩ : ∃ m, L.wait[k]? = some m := ⟨_, List.getElem?_eq_getElem hkl⟩
    have hd1 := hdest d (List.mem_of_getElem? hd)
    have hlen := h.w.inv.len
    obtain ⟨s, hs⟩ : ∃ s, L.nodes[d - 1]? = some s := ⟨_, List.getElem?_eq_getElem (by omega)⟩
    have hma : m ∈ L.all := h.w.wait m (List.mem_of_getElem? hm)
    obtain ⟨a1, a2, a3, a4⟩ := h.node (d - 1) s hs
    obtain ⟨hr, hc⟩ := a1 (by omega)
    have hhas := take_has (m := m) (by omega) (h.may hw hw2 hma hs)
    have hI := h.take hs m (fun _ => hma)
    have hwi := h.w.hand k
    have e1 : stepS L (d - 1) (fun s => takeS s m) = sendS { L with nodes := L.nodes.set (d - 1) (takeS s m).1 } (takeS s m).2 := stepS_some hs _
    have e2 : handS L k = sendS { cutS L k with nodes := L.nodes.set (d - 1) (takeS s m).1 } (takeS s m).2 := by
      unfold handS
      rw [hd, hm]
      exact stepS_some (L := cutS L k) hs _
    obtain ⟨g1, g2, g3, g4, g5, g6, g7⟩ := sendS_same { cutS L k with nodes := L.nodes.set (d - 1) (takeS s m).1 } (takeS s m).2
    obtain ⟨b1, b2, b3, b4, b5, b6, b7⟩ := sendS_same { L with nodes := L.nodes.set (d - 1) (takeS s m).1 } (takeS s m).2
    rw [e1] at hI
    rw [e2] at hwi ⊢
    have el1 : (L.dest.eraseIdx k).length + 1 = L.dest.length := by rw [List.length_eraseIdx_of_lt (List.getElem?_eq_some_iff.1 hd).1]; have := (List.getElem?_eq_some_iff.1 hd).1; omega
    have el2 : (L.wait.eraseIdx k).length + 1 = L.wait.length := by rw [List.length_eraseIdx_of_lt hkl]; omega
    have hdl := h.dl
    have hil : d - 1 < L.nodes.length := by omega
    refine ⟨hwi, by rw [g7]; have := hI.val; rw [b7] at this; exact this, fun j x hx => ?_, fl_send (L := { cutS L k with nodes := L.nodes.set (d - 1) (takeS s m).1 }) ?_ ?_ _, ?_, ?_, fun x hx => ?_⟩
    · rw [g4] at hx
      have := hI.node j x (by rw [b4]; exact hx)
      rw [b7] at this
      rw [g7]
      exact this
    · intro x hx j hj
      rcases h.fl x hx j hj with ⟨y, hy, e, he, h8⟩ | ⟨q, h8, h9⟩
      · left
        by_cases hji : d - 1 = j
        · subst hji
          rw [hs] at hy
          cases hy
          exact ⟨_, List.getElem?_set_self hil, e, take_keep _ _ _ e he, h8⟩
        · exact ⟨y, by dsimp only; rw [List.getElem?_set_ne hji]; exact hy, e, he, h8⟩
      · by_cases hq : q = k
        · subst hq
          rw [hd] at h8
          rw [hm] at h9
          cases h8
          cases h9
          obtain ⟨e, he, hf⟩ := hhas
          exact .inl ⟨_, by dsimp only; exact List.getElem?_set_self hil, e, he, hf⟩
        · obtain ⟨q1, h10, e1⟩ := erase_get L.dest k q hq
          obtain ⟨q2, h11, e2⟩ := erase_get L.wait k q hq
          have : q2 = q1 := by rw [e1, e2]
          subst this
          exact .inr ⟨q2, by simp only [cutS]; rw [h10]; exact h8, by simp only [cutS]; rw [h11]; exact h9⟩
    · simp only [cutS]; omega
    · rw [g6, g7, g3, List.length_append, Nat.add_mul]
      have := h.wl
      simp only [cutS]
      omega
    · rw [g5, g6]
      simp only [cutS]
      omega
    · rw [g7] at hx
      have := hI.r0 x (by rw [b7]; exact hx)
      exact this
end Go.Proofs.Ytnpmjpdndhedgaa
