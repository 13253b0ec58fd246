/-
  The plain side of reliable broadcast: the invariant stays when a node takes a message, all nodes together (Inv.give). No program is in sight here; no statement of a claim stands here.
-/
import Derived.Test.YtcgfjalglnlofaaInv4
set_option linter.unusedSimpArgs false
namespace Go.Proofs.Ytcgfjalglnlofaa
open Go

/-- What is sent behind a step: nothing, or one message to all. -/
theorem allL_out {L : LawS} {out : List Msg} (h : out = [] ∨ ∃ m, out = [m] ∧ 1 < m.kind) :
    (allL L out).nodes = L.nodes ∧ (allL L out).n = L.n ∧ (allL L out).t = L.t ∧ (allL L out).bad = L.bad ∧
      (out = [] ∧ allL L out = L ∨ ∃ m, out = [m] ∧ (allL L out).to = L.to ++ allTo L ∧ (allL L out).wait = L.wait ++ List.replicate (L.n - L.bad) m ∧ (allL L out).sent = L.sent.modify (2 * m.from_ + m.kind - 2).toNat (· + 1)) := by
  rcases h with rfl | ⟨m, rfl, hk⟩
  · exact ⟨rfl, rfl, rfl, rfl, .inl ⟨rfl, rfl⟩⟩
  · refine ⟨rfl, rfl, rfl, rfl, .inr ⟨m, rfl, rfl, rfl, ?_⟩⟩
    simp [allL, allS, hk]

/-- All that are not corrupt have it on its way. -/
theorem all_flight {to : List Nat} {wait : List Msg} {L : LawS} (htl : to.length = wait.length) {m : Msg} {j : Nat} (h1 : L.bad + 1 ≤ j) (h2 : j ≤ L.n) :
    ∃ k : Nat, (to ++ allTo L)[k]? = some j ∧ (wait ++ List.replicate (L.n - L.bad) m)[k]? = some m := by
  refine ⟨wait.length + (j - (L.bad + 1)), ?_, ?_⟩
  · rw [List.getElem?_append_right (by omega), htl, Nat.add_sub_cancel_left, allTo, List.getElem?_map, List.getElem?_range (by omega)]
    simp; omega
  · rw [List.getElem?_append_right (by omega), Nat.add_sub_cancel_left, List.getElem?_replicate, if_pos (by omega)]

theorem sent_modify (l : List Nat) (a b : Nat) : (l.modify a (· + 1))[b]? = if a = b then l[b]?.map (· + 1) else l[b]? := by
  rw [List.getElem?_modify]
  split
  · rename_i h; simp [h]
  · rename_i h; simp [h]

/-- A message that may come: of a corrupt node; or what one that is not corrupt sent. -/
def Legit (L : LawS) (d : Nat) (v0 : Option ByteArray) (m : Msg) : Prop := (1 ≤ m.from_ ∧ m.from_ ≤ (L.bad : Int)) ∨ MsgOk L d v0 m

theorem Inv.give {d : Nat} {v0 : Option ByteArray} {P : Option (Nat × Msg)} {L : LawS} (I : Inv d v0 P L) {i : Nat} {s : NodeS} {m : Msg} (hs : L.nodes[i]? = some s) (hi : L.bad ≤ i) (hm : Legit L d v0 m) (hP : P = none ∨ P = some (i + 1, m)) :
    Inv d v0 none (giveS L (i + 1) m) ∧ pot (giveS L (i + 1) m) ≤ pot L := by
  have hok := I.node i s hs
  have T := step s m (by rw [hok.t]; omega)
  have hin : i < L.n := by rw [← I.len]; exact (List.getElem?_eq_some_iff.1 hs).1
  have hbn : L.bad < L.n := by have := I.n; have := I.bad; omega
  have eg : giveS L (i + 1) m = allL { L with nodes := L.nodes.set i (takeS s m).1 } (takeS s m).2 := by simp [giveS, hs]
  rw [eg]
  generalize (takeS s m).1 = s' at T ⊢
  generalize (takeS s m).2 = out at T ⊢
  clear eg
  have hout : out = [] ∨ ∃ m', out = [m'] ∧ 1 < m'.kind := by
    rcases T.out with ⟨h, _⟩ | ⟨h, _⟩ | ⟨h, _⟩
    · exact .inl h
    · exact .inr ⟨_, h, (by decide : (1 : Int) < 2)⟩
    · exact .inr ⟨_, h, (by decide : (1 : Int) < 3)⟩
  obtain ⟨hnodes, hn, ht, hb, hall⟩ := allL_out (L := { L with nodes := L.nodes.set i s' }) hout
  generalize allL { L with nodes := L.nodes.set i s' } out = L2 at *
  dsimp only at hnodes hn ht hb hall
  have hmay : MsgOk L d v0 m → mayBe s m = true := fun ⟨h, sh, h1, h2, h3, h4, _⟩ => by
    have := (List.getElem?_eq_some_iff.1 h2).1
    have := I.len
    exact mayBe_of (by omega) (by rw [hok.n]; omega) h4
  -- the nodes, before and after
  have hat : ∀ {j : Nat} {u : NodeS}, L2.nodes[j]? = some u → (j = i ∧ u = s') ∨ (j ≠ i ∧ L.nodes[j]? = some u) := fun {j u} hu => by
    rw [hnodes] at hu
    by_cases hj : i = j
    · subst hj
      rw [List.getElem?_set_self (by rw [I.len]; exact hin)] at hu
      cases hu
      exact .inl ⟨rfl, rfl⟩
    · rw [List.getElem?_set_ne hj] at hu
      exact .inr ⟨Ne.symm hj, hu⟩
  have hto : ∀ {j : Nat} {u : NodeS}, L.nodes[j]? = some u → ∃ u', L2.nodes[j]? = some u' ∧ Later u u' := fun {j u} hu => by
    by_cases hj : i = j
    · subst hj
      rw [hs] at hu; cases hu
      exact ⟨s', by rw [hnodes, List.getElem?_set_self (by rw [I.len]; exact hin)], T.later⟩
    · exact ⟨u, by rw [hnodes, List.getElem?_set_ne hj]; exact hu, Later.refl u⟩
  have hfrom : ∀ {j : Nat} {u : NodeS}, L2.nodes[j]? = some u → ∃ u0, L.nodes[j]? = some u0 ∧ Later u0 u := fun {j u} hu => by
    rcases hat hu with ⟨rfl, rfl⟩ | ⟨_, h⟩
    · exact ⟨s, hs, T.later⟩
    · exact ⟨u, h, Later.refl u⟩
  -- of a message of one that is not corrupt, its sender is known
  have hgood : ∀ {h : Nat} {sh : NodeS}, L.bad ≤ h → L.nodes[h]? = some sh → m.from_ = (h : Int) + 1 →
      (m.kind = 1 ∧ m.from_ = (d : Int) ∧ v0 = some m.val ∨ m.kind = 2 ∧ sh.ei = true ∧ sh.ev = m.val ∨ m.kind = 3 ∧ sh.ri = true ∧ sh.rv = m.val) := fun {h sh} h1 h2 h3 => by
    rcases hm with h4 | ⟨h', sh', _, g2, g3, _, g5⟩
    · omega
    · have : h' = h := by omega
      subst this
      rw [h2] at g2; cases g2
      exact g5
  -- votes of the node that took, of senders as they were
  have vE1 : ∀ e ∈ s'.E, ∀ (h : Nat) (sh : NodeS), L.bad ≤ h → L.nodes[h]? = some sh → e.1 = (h : Int) + 1 → sh.ei = true ∧ sh.ev = e.2.1 := fun e he h sh h1 h2 h3 => by
    rcases T.E with h4 | ⟨k, hb', h4⟩ <;> rw [h4] at he
    · exact I.vE i s hs e he h sh h1 h2 h3
    · rcases addL_mem he with h5 | ⟨h5, h6⟩
      · exact I.vE i s hs e h5 h sh h1 h2 h3
      · rcases hgood h1 h2 (by rw [← h5]; exact h3) with g | ⟨_, g1, g2⟩ | g
        · omega
        · exact ⟨g1, by rw [h6]; exact g2⟩
        · omega
  have vR1 : ∀ e ∈ s'.R, ∀ (h : Nat) (sh : NodeS), L.bad ≤ h → L.nodes[h]? = some sh → e.1 = (h : Int) + 1 → sh.ri = true ∧ sh.rv = e.2.1 := fun e he h sh h1 h2 h3 => by
    rcases T.R with h4 | ⟨k, hb', h4⟩ <;> rw [h4] at he
    · exact I.vR i s hs e he h sh h1 h2 h3
    · rcases addL_mem he with h5 | ⟨h5, h6⟩
      · exact I.vR i s hs e h5 h sh h1 h2 h3
      · rcases hgood h1 h2 (by rw [← h5]; exact h3) with g | g | ⟨_, g1, g2⟩
        · omega
        · omega
        · exact ⟨g1, by rw [h6]; exact g2⟩
  -- what is on its way
  have hstay : ∀ {j : Nat} {x : Msg}, (∃ k : Nat, L.to[k]? = some j ∧ L.wait[k]? = some x) → Flight L2 none j x := fun {j x} ⟨k, h1, h2⟩ => by
    rcases hall with ⟨_, h⟩ | ⟨m', _, h3, h4, _⟩
    · exact .inl ⟨k, by rw [h]; exact h1, by rw [h]; exact h2⟩
    · refine .inl ⟨k, by rw [h3, List.getElem?_append_left (List.getElem?_eq_some_iff.1 h1).1]; exact h1, by rw [h4, List.getElem?_append_left (List.getElem?_eq_some_iff.1 h2).1]; exact h2⟩
  have hfl : ∀ {j : Nat} {x : Msg}, Flight L P j x → Flight L2 none j x ∨ (j = i + 1 ∧ x = m) := fun {j x} h => by
    rcases h with h | h
    · exact .inl (hstay h)
    · rcases hP with hP | hP
      · rw [hP] at h; cases h
      · rw [hP] at h; cases h; exact .inr ⟨rfl, rfl⟩
  have hnew : ∀ {m' : Msg}, out = [m'] → ∀ {j : Nat}, L.bad ≤ j → j < L.n → Flight L2 none (j + 1) m' := fun {m'} ho {j} h1 h2 => by
    rcases hall with ⟨h, _⟩ | ⟨m'', h, h3, h4, _⟩
    · rw [ho] at h; cases h
    · rw [ho] at h; cases h
      obtain ⟨k, g1, g2⟩ := all_flight (L := { L with nodes := L.nodes.set i s' }) (m := m') I.tl (j := j + 1) (by dsimp only; omega) (by dsimp only; omega)
      exact .inl ⟨k, by rw [h3]; exact g1, by rw [h4]; exact g2⟩
  have hlt : ∀ {j : Nat} {u : NodeS}, L2.nodes[j]? = some u → j < L.n := fun {j u} h => by
    have := (List.getElem?_eq_some_iff.1 h).1
    rw [hnodes, List.length_set, I.len] at this
    exact this
  have hsum := sum_set pend L.nodes i s s' hs
  -- the counts of what was sent
  have hme := hok.me
  have hsent : ∀ (j : Nat) (u : NodeS), L2.nodes[j]? = some u → L2.sent[2 * (j + 1)]? = some (if u.ei = true then 1 else 0) ∧ L2.sent[2 * (j + 1) + 1]? = some (if u.ri = true then 1 else 0) := by
    intro j u hu
    rcases T.out with ⟨ho, g1, g2⟩ | ⟨ho, g1, g2, g3, _⟩ | ⟨ho, g1, g2, g3, _⟩
    · have e : L2.sent = L.sent := by
        rcases hall with ⟨_, h⟩ | ⟨m', h, _⟩
        · rw [h]
        · rw [ho] at h; cases h
      rw [e]
      rcases hat hu with ⟨rfl, rfl⟩ | ⟨_, h⟩
      · rw [g1, g2]; exact ⟨hok.sE, hok.sR⟩
      · exact ⟨(I.node j u h).sE, (I.node j u h).sR⟩
    · have e : L2.sent = L.sent.modify (2 * (i + 1)) (· + 1) := by
        rcases hall with ⟨h, _⟩ | ⟨m', h, _, _, h5⟩
        · rw [ho] at h; cases h
        · rw [ho] at h; cases h
          rw [h5]; congr 1; dsimp only; omega
      rw [e, sent_modify, sent_modify]
      rcases hat hu with ⟨rfl, rfl⟩ | ⟨hne, h⟩
      · rw [if_pos rfl, if_neg (show ¬ (2 * (j + 1) = 2 * (j + 1) + 1) by omega), hok.sE, hok.sR, g1, g2, g3]; exact ⟨rfl, rfl⟩
      · rw [if_neg (show ¬ (2 * (i + 1) = 2 * (j + 1)) by omega), if_neg (show ¬ (2 * (i + 1) = 2 * (j + 1) + 1) by omega)]; exact ⟨(I.node j u h).sE, (I.node j u h).sR⟩
    · have e : L2.sent = L.sent.modify (2 * (i + 1) + 1) (· + 1) := by
        rcases hall with ⟨h, _⟩ | ⟨m', h, _, _, h5⟩
        · rw [ho] at h; cases h
        · rw [ho] at h; cases h
          rw [h5]; congr 1; dsimp only; omega
      rw [e, sent_modify, sent_modify]
      rcases hat hu with ⟨rfl, rfl⟩ | ⟨hne, h⟩
      · rw [if_neg (show ¬ (2 * (j + 1) + 1 = 2 * (j + 1)) by omega), if_pos rfl, hok.sE, hok.sR, g1, g2, g3]; exact ⟨rfl, rfl⟩
      · rw [if_neg (show ¬ (2 * (i + 1) + 1 = 2 * (j + 1)) by omega), if_neg (show ¬ (2 * (i + 1) + 1 = 2 * (j + 1) + 1) by omega)]; exact ⟨(I.node j u h).sE, (I.node j u h).sR⟩
  have hmu : pot L2 ≤ pot L := by
    simp only [pot]
    rw [hn, hb, hnodes]
    rcases T.out with ⟨ho, g1, g2⟩ | ⟨ho, g1, g2, g3, _⟩ | ⟨ho, g1, g2, g3, _⟩
    · have e : L2.wait = L.wait := by
        rcases hall with ⟨_, h⟩ | ⟨m', h, _⟩
        · rw [h]
        · rw [ho] at h; cases h
      have e2 : pend s' = pend s := by simp only [pend, g1, g2]
      rw [e]
      have : ((L.nodes.set i s').map pend).sum = (L.nodes.map pend).sum := by omega
      rw [this]; exact Nat.le_refl _
    all_goals
      have e : L2.wait.length = L.wait.length + (L.n - L.bad) := by
        rcases hall with ⟨h, _⟩ | ⟨m', h, _, h4, _⟩
        · rw [ho] at h; cases h
        · rw [h4]; simp
      have e2 : pend s' + 1 = pend s := by simp only [pend, g1, g2, g3]; simp; try omega
      have e3 : (L.nodes.map pend).sum = ((L.nodes.set i s').map pend).sum + 1 := by omega
      rw [e, e3, Nat.mul_add]
      omega
  refine ⟨⟨by rw [hn, ht]; exact I.n, by rw [ht]; exact I.t, by rw [hb, ht]; exact I.bad, by rw [hnodes, hn, List.length_set]; exact I.len, ?_, ?_, fun v hv => by rw [hb, hn]; exact I.dv v hv, ?_, ?_, ?_, ?_, ?_, ?_, ?_, ?_, ?_, ?_⟩, hmu⟩
  · rcases hall with ⟨_, h⟩ | ⟨m', _, h3, h4, _⟩
    · rw [h]; exact I.tl
    · rw [h3, h4]; simp [allTo, I.tl]
  · intro k hk
    rw [hb, hn]
    rcases hall with ⟨_, h⟩ | ⟨m', _, h3, h4, _⟩
    · rw [h] at hk; exact I.tos k hk
    · rw [h3, List.mem_append] at hk
      rcases hk with hk | hk
      · exact I.tos k hk
      · simp only [allTo, List.mem_map, List.mem_range] at hk
        obtain ⟨x, hx, rfl⟩ := hk
        omega
  · intro j u hu
    have hse := hsent j u hu
    rcases hat hu with ⟨rfl, rfl⟩ | ⟨_, h⟩
    · have := nodeOk_step hok T L2.sent hse.1 hse.2 L2.nodes L2.to L2.wait
      exact ⟨by rw [hn]; exact this.n, by rw [ht]; exact this.t, this.me, this.dealer, this.E, this.R, by rw [hn]; exact this.kE, by rw [hn]; exact this.kR, by rw [hn, ht]; exact this.thrE, by rw [ht]; exact this.thrR, by rw [ht]; exact this.thrS, this.heard, by rw [ht]; exact this.si, hse.1, hse.2⟩
    · have := I.node j u h
      exact ⟨by rw [hn]; exact this.n, by rw [ht]; exact this.t, this.me, this.dealer, this.E, this.R, by rw [hn]; exact this.kE, by rw [hn]; exact this.kR, by rw [hn, ht]; exact this.thrE, by rw [ht]; exact this.thrR, by rw [ht]; exact this.thrS, this.heard, by rw [ht]; exact this.si, hse.1, hse.2⟩
  · intro x hx
    have hold : x ∈ L.wait → MsgOk L2 d v0 x := fun h => by
      obtain ⟨h, sh, g1, g2, g3, g4, g5⟩ := I.msg x h
      obtain ⟨u, hu, hlat⟩ := hto g2
      refine ⟨h, u, by rw [hb]; exact g1, hu, g3, g4, ?_⟩
      rcases g5 with g5 | ⟨k, e1, e2⟩ | ⟨k, e1, e2⟩
      · exact .inl g5
      · exact .inr (.inl ⟨k, (hlat.ei e1).1, by rw [(hlat.ei e1).2]; exact e2⟩)
      · exact .inr (.inr ⟨k, (hlat.ri e1).1, by rw [(hlat.ri e1).2]; exact e2⟩)
    rcases hall with ⟨_, h⟩ | ⟨m', ho', h3, h4, _⟩
    · rw [h] at hx; exact hold hx
    · rw [h4, List.mem_append] at hx
      rcases hx with hx | hx
      · exact hold hx
      · have hx' := (List.mem_replicate.1 hx).2
        subst hx'
        have hs2 : L2.nodes[i]? = some s' := by rw [hnodes, List.getElem?_set_self (by rw [I.len]; exact hin)]
        rcases T.out with ⟨ho, _⟩ | ⟨ho, g1, g2, g3, g4, g5, g6, g7⟩ | ⟨ho, g1, g2, g3, g4, g5, g6⟩
        · rw [ho] at ho'; cases ho'
        · rw [ho] at ho'; cases ho'
          exact ⟨i, s', by rw [hb]; exact hi, hs2, hme, by rw [g7]; exact (of_mayBe g5).2.2, .inr (.inl ⟨rfl, g2, rfl⟩)⟩
        · rw [ho] at ho'; cases ho'
          exact ⟨i, s', by rw [hb]; exact hi, hs2, hme, by rw [g5]; exact (of_mayBe g4).2.2, .inr (.inr ⟨rfl, g2, rfl⟩)⟩
  · intro j u hu e he h sh h1 h2 h3
    rw [hb] at h1
    obtain ⟨u0, hu0, hl0⟩ := hfrom h2
    have key : u0.ei = true ∧ u0.ev = e.2.1 := by
      rcases hat hu with ⟨rfl, rfl⟩ | ⟨_, g⟩
      · exact vE1 e he h u0 h1 hu0 h3
      · exact I.vE j u g e he h u0 h1 hu0 h3
    exact ⟨(hl0.ei key.1).1, by rw [(hl0.ei key.1).2]; exact key.2⟩
  · intro j u hu e he h sh h1 h2 h3
    rw [hb] at h1
    obtain ⟨u0, hu0, hl0⟩ := hfrom h2
    have key : u0.ri = true ∧ u0.rv = e.2.1 := by
      rcases hat hu with ⟨rfl, rfl⟩ | ⟨_, g⟩
      · exact vR1 e he h u0 h1 hu0 h3
      · exact I.vR j u g e he h u0 h1 hu0 h3
    exact ⟨(hl0.ri key.1).1, by rw [(hl0.ri key.1).2]; exact key.2⟩
  · intro v hv j u hu he
    rcases hat hu with ⟨rfl, rfl⟩ | ⟨_, g⟩
    · by_cases hse : s.ei = true
      · rw [(T.ev hse).2]; exact I.ev v hv j s hs hse
      · rcases T.out with ⟨ho, g1, _⟩ | ⟨ho, g1, g2, g3, g4, g5, g6, g7⟩ | ⟨ho, g1, g2, g3, _⟩
        · rw [g1] at he; exact absurd he hse
        · have hd := I.dv v hv
          rw [hok.dealer] at g6
          rcases hm with h4 | ⟨h', sh', g2', g3', g4', _, g5'⟩
          · omega
          · rcases g5' with ⟨_, _, e⟩ | ⟨k, _⟩ | ⟨k, _⟩
            · rw [g7]; rw [hv] at e; exact (Option.some.inj e).symm
            · omega
            · omega
        · rw [g3] at he; exact absurd he hse
    · exact I.ev v hv j u g he
  · intro j u hu hr
    have hmov : ∀ {h : Nat} {sh : NodeS} {v : ByteArray}, L.bad ≤ h → L.nodes[h]? = some sh → L.n + L.t < 2 * cnt sh.E v → ∃ (h : Nat) (sh : NodeS), L2.bad ≤ h ∧ L2.nodes[h]? = some sh ∧ L2.n + L2.t < 2 * cnt sh.E v := fun {h sh v} g1 g2 g3 => by
      obtain ⟨u', hu', hlat⟩ := hto g2
      refine ⟨h, u', by rw [hb]; exact g1, hu', ?_⟩
      have := hlat.cE v
      rw [hn, ht]; omega
    rcases hat hu with ⟨rfl, rfl⟩ | ⟨_, g⟩
    · by_cases hse : s.ri = true
      · obtain ⟨h, sh, g1, g2, g3⟩ := I.wit j s hs hse
        rw [(T.rv hse).2]
        exact hmov g1 g2 g3
      · rcases T.out with ⟨ho, _, g1⟩ | ⟨ho, g1, g2, g3, _⟩ | ⟨ho, g1, g2, g3, g4, g5, g6⟩
        · rw [g1] at hr; exact absurd hr hse
        · rw [g3] at hr; exact absurd hr hse
        · rw [g5]
          have hon := hok.n
          have hot := hok.t
          rcases g6 with ⟨k, hq⟩ | ⟨k, hq⟩
          · refine ⟨j, u, by rw [hb]; exact hi, hu, ?_⟩
            rw [T.E2 g4 k, addN_cnt (by omega), hn, ht]
            omega
          · have hR2 := T.R2 g4 k
            have hkR := of_mayBe g4
            have hc : L.bad < cnt u.R m.val := by rw [hR2, addN_cnt (by omega)]; have := I.bad; omega
            have hVR : VOk u.R := by rw [hR2]; exact addL_ok hok.R _ _
            have hKR : KeysOk L.n u.R := by rw [hR2]; exact addL_keys hok.kR _ _ ⟨hkR.1, by rw [hok.n] at hkR; exact hkR.2.1⟩
            obtain ⟨h, h1, h2, e, he, he1, he2⟩ := one_good hVR hKR m.val hc
            have hsh : L.nodes[h]? = some (L.nodes[h]'(by rw [I.len]; exact h2)) := List.getElem?_eq_getElem _
            have := vR1 e he h _ h1 hsh he1
            obtain ⟨h', sh', w1, w2, w3⟩ := I.wit h _ hsh this.1
            rw [this.2, he2] at w3
            exact hmov w1 w2 w3
    · obtain ⟨h, sh, g1, g2, g3⟩ := I.wit j u g hr
      exact hmov g1 g2 g3
  · intro v hv j u hj hu
    rw [hb] at hj
    obtain ⟨u0, hu0, hl0⟩ := hfrom hu
    rcases I.f1 v hv j u0 hj hu0 with h | h
    · exact .inl (hl0.heard h)
    · rcases hfl h with h | ⟨h1, h2⟩
      · exact .inr h
      · have hji : j = i := by omega
        subst hji
        left
        rcases hat hu with ⟨_, rfl⟩ | ⟨hne, _⟩
        · have hd := I.dv v hv
          subst h2
          rcases hm with h4 | h4
          · dsimp only at h4; omega
          · exact T.heard1 (hmay h4) rfl hok.dealer.symm
        · exact absurd rfl hne
  · intro h sh h1 h2 he j u hj hu
    rw [hb] at h1 hj
    obtain ⟨u0, hu0, hl0⟩ := hfrom hu
    obtain ⟨sh0, hsh0, hls⟩ := hfrom h2
    by_cases hold : sh0.ei = true
    · rw [(hls.ei hold).2]
      rcases I.f2 h sh0 h1 hsh0 hold j u0 hj hu0 with ⟨e, g1, g2⟩ | g
      · exact .inl ⟨e, hl0.E e g1, g2⟩
      · rcases hfl g with g | ⟨g1, g2⟩
        · exact .inr g
        · have hji : j = i := by omega
          subst hji
          left
          rcases hat hu with ⟨_, rfl⟩ | ⟨hne, _⟩
          · subst g2
            have hmy : mayBe s ⟨2, (h : Int) + 1, sh0.ev⟩ = true := by
              rcases hm with h4 | h4
              · dsimp only at h4; omega
              · exact hmay h4
            rw [T.E2 hmy rfl]
            exact addL_has _ _ _
          · exact absurd rfl hne
    · right
      rcases hat h2 with ⟨rfl, rfl⟩ | ⟨_, g⟩
      · rw [hs] at hsh0; cases hsh0
        rcases T.out with ⟨ho, g1, _⟩ | ⟨ho, g1, g2, g3, g4, g5, g6, g7⟩ | ⟨ho, g1, g2, g3, _⟩
        · rw [g1] at he; exact absurd he hold
        · have := hnew ho hj (hlt hu)
          rw [hme] at this
          exact this
        · rw [g3] at he; exact absurd he hold
      · rw [hsh0] at g; cases g; exact absurd he hold
  · intro h sh h1 h2 he j u hj hu
    rw [hb] at h1 hj
    obtain ⟨u0, hu0, hl0⟩ := hfrom hu
    obtain ⟨sh0, hsh0, hls⟩ := hfrom h2
    by_cases hold : sh0.ri = true
    · rw [(hls.ri hold).2]
      rcases I.f3 h sh0 h1 hsh0 hold j u0 hj hu0 with ⟨e, g1, g2⟩ | g
      · exact .inl ⟨e, hl0.R e g1, g2⟩
      · rcases hfl g with g | ⟨g1, g2⟩
        · exact .inr g
        · have hji : j = i := by omega
          subst hji
          left
          rcases hat hu with ⟨_, rfl⟩ | ⟨hne, _⟩
          · subst g2
            have hmy : mayBe s ⟨3, (h : Int) + 1, sh0.rv⟩ = true := by
              rcases hm with h4 | h4
              · dsimp only at h4; omega
              · exact hmay h4
            rw [T.R2 hmy rfl]
            exact addL_has _ _ _
          · exact absurd rfl hne
    · right
      rcases hat h2 with ⟨rfl, rfl⟩ | ⟨_, g⟩
      · rw [hs] at hsh0; cases hsh0
        rcases T.out with ⟨ho, _, g1⟩ | ⟨ho, g1, g2, g3, _⟩ | ⟨ho, g1, g2, g3, g4, g5, g6⟩
        · rw [g1] at he; exact absurd he hold
        · rw [g3] at he; exact absurd he hold
        · have := hnew ho hj (hlt hu)
          rw [hme] at this
          exact this
      · rw [hsh0] at g; cases g; exact absurd he hold
  · have := I.mu
    simp only [Option.isSome_none, Bool.false_eq_true, if_false, Nat.add_zero]
    omega
end Go.Proofs.Ytcgfjalglnlofaa
