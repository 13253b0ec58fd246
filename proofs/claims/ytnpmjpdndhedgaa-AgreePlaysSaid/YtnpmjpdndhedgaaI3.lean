/-
  The plain side of agreement: a call of a node keeps what holds of all (Inv); the values that go round; what a node has done (Cl). No program is in sight here; no statement of a claim stands here.
-/
import Derived.Test.YtnpmjpdndhedgaaI2
set_option linter.unusedSimpArgs false
namespace Go.Proofs.Ytnpmjpdndhedgaa
open Go

theorem set_self {N : List NodeS} {i : Nat} {s : NodeS} (h : N[i]? = some s) : N.set i s = N := by
  apply List.ext_getElem?
  intro j
  by_cases hj : i = j
  · subst hj; rw [List.getElem?_set_self (List.getElem?_eq_some_iff.1 h).1, h]
  · rw [List.getElem?_set_ne hj]
theorem set_at {N : List NodeS} {i : Nat} {s s1 : NodeS} (h : N[i]? = some s) : (N.set i s1)[i]? = some s1 := List.getElem?_set_self (List.getElem?_eq_some_iff.1 h).1

theorem Inv.take {n t g : Nat} {N : List NodeS} {H : List Msg} (I : Inv n t g N H) {i : Nat} {s : NodeS} (hi : N[i]? = some s) (m : Msg) (hH : m.from_ ≤ (g : Int) → m ∈ H) : Inv n t g (N.set i (takeS s m).1) (H ++ (takeS s m).2) := by
  rcases take_run s m with ⟨h1, h2⟩ | ⟨_, hm, _, R⟩
  · rw [h1, h2, set_self hi, List.append_nil]; exact I
  · have := (I.count hi hm hH).run (set_at hi) R
    rwa [List.set_set] at this
theorem Inv.timeout {n t g : Nat} {N : List NodeS} {H : List Msg} (I : Inv n t g N H) {i : Nat} {s : NodeS} (hi : N[i]? = some s) : Inv n t g (N.set i (timeoutS s).1) (H ++ (timeoutS s).2) := by
  rcases timeout_run s with ⟨h1, h2⟩ | ⟨_, R⟩
  · rw [h1, h2, set_self hi, List.append_nil]; exact I
  · have := (I.next (r := s.round + 1) hi (by omega)).run (set_at hi) R
    rwa [List.set_set] at this
theorem Inv.start {n t g : Nat} {N : List NodeS} {H : List Msg} (I : Inv n t g N H) {i : Nat} {s : NodeS} (hi : N[i]? = some s) (hr : s.round ≤ 0) : Inv n t g (N.set i (hereS { s with round := 0 }).1) (H ++ (hereS { s with round := 0 }).2) := by
  have := (I.next (r := 0) hi hr).run (set_at hi) (run_here { s with round := 0 } (Int.le_refl 0))
  rwa [List.set_set] at this

/-- Kinds, and values, of what goes round. -/
def Vals (P : ByteArray → Prop) (H : List Msg) : Prop := ∀ m ∈ H, (m.kind = 1 ∨ m.kind = 2 ∨ m.kind = 3) ∧ P m.val
theorem Vals.one {P : ByteArray → Prop} {H : List Msg} (h : Vals P H) {g q : Nat} (hq : 0 < q) {k r : Int} {v : ByteArray} (hm : Many g q H k r v) : P v := by
  obtain ⟨x, hx⟩ := hm.one hq
  exact (h _ hx).2
theorem Vals.run {P : ByteArray → Prop} {n t g : Nat} {N : List NodeS} {H : List Msg} (I : Inv n t g N H) {i : Nat} {s s' : NodeS} {out : List Msg} (hi : N[i]? = some s) (R : Run s s' out)
    (hE : ∀ a p, P a → P p → a ≠ p → P ⟨#[]⟩) (hl : leaderS s s.round ≤ (g : Int)) (hp : leaderS s s.round = s.me → P s.input) (hV : Vals P H) : Vals P (H ++ out) := by
  have hq : 0 < g - t := by have := I.nums.tg; omega
  induction R generalizing N H with
  | refl s => rw [List.append_nil]; exact hV
  | lock s r v s' out hv hr hc hlr _ ih => exact ih (I.lock hi hv hc hlr) (set_at hi) hl hp hV
  | say s k v s' out h0 ha hs _ ih =>
    have hnew : Vals P (H ++ [⟨k, s.me, s.round, v⟩]) := by
      intro m hm
      simp only [List.mem_append, List.mem_singleton] at hm
      rcases hm with hm | rfl
      · exact hV m hm
      · rcases ha with ⟨rfl, h1, h2⟩ | ⟨rfl, p, h1, h2⟩ | ⟨rfl, h1, h2, h3⟩
        · refine ⟨.inl rfl, ?_⟩
          dsimp only
          rw [h2]
          split
          · rename_i hlr
            exact hV.one hq (I.lck i s hi hlr).2
          · exact hp h1
        · refine ⟨.inr (.inl rfl), ?_⟩
          dsimp only
          obtain ⟨b, hb⟩ := look_some_mem h1
          have hPp : P p := (hV _ (I.hd i s hi _ _ hb hl)).2
          rw [h2]
          split
          · rename_i hlr
            exact hE _ _ (hV.one hq (I.lck i s hi hlr.1).2) hPp hlr.2
          · exact hPp
        · exact ⟨.inr (.inr rfl), hV.one hq (I.many (k := (2, s.round)) hi h2)⟩
    have := ih (I.say hi h0 ha hs) (set_at hi) hl hp hnew
    rwa [List.append_assoc] at this
  | decide s r v s' out hc hd _ ih => exact ih (I.decide hi hc) (set_at hi) hl hp hV

/-- What is marked as sent was sent. -/
def Snd (s : NodeS) (H : List Msg) : Prop := ∀ k : Seat, s.sent k = true → ∃ v, (⟨k.1, s.me, k.2, v⟩ : Msg) ∈ H
theorem Snd.mono {s : NodeS} {H H' : List Msg} (h : Snd s H) (hs : ∀ m ∈ H, m ∈ H') : Snd s H' := fun k hk => by
  obtain ⟨v, hv⟩ := h k hk
  exact ⟨v, hs _ hv⟩
theorem Snd.run {s s' : NodeS} {out : List Msg} (R : Run s s' out) {H : List Msg} (h : Snd s H) : Snd s' (H ++ out) := by
  induction R generalizing H with
  | refl s => rw [List.append_nil]; exact h
  | lock s r v s' out hv hr hc hlr _ ih => exact ih h
  | say s k v s' out h0 ha hs _ ih =>
    have := ih (H := H ++ [⟨k, s.me, s.round, v⟩]) (fun q hq => by
      dsimp only [upd] at hq
      split at hq
      · rename_i e; subst e; exact ⟨v, by simp⟩
      · obtain ⟨u, hu⟩ := h q hq
        exact ⟨u, List.mem_append_left _ hu⟩)
    rwa [List.append_assoc] at this
  | decide s r v s' out hc hd _ ih => exact ih h
theorem Snd.take {s : NodeS} {H : List Msg} (h : Snd s H) (m : Msg) : Snd (takeS s m).1 (H ++ (takeS s m).2) := by
  rcases take_run s m with ⟨h1, h2⟩ | ⟨_, _, _, R⟩
  · rw [h1, h2, List.append_nil]; exact h
  · exact Snd.run R h

/-- A run forgets nothing. -/
theorem Run.keep {s s' : NodeS} {out : List Msg} (R : Run s s' out) : (∀ k, s.sent k = true → s'.sent k = true) ∧ (s.done = true → s'.done = true) := by
  induction R with
  | refl s => exact ⟨fun _ h => h, fun h => h⟩
  | lock s r v s' out hv hr hc hlr _ ih => exact ih
  | say s k v s' out h0 ha hs _ ih =>
    refine ⟨fun q hq => ih.1 q ?_, ih.2⟩
    dsimp only [upd]
    split
    · rfl
    · exact hq
  | decide s r v s' out hc hd _ ih => exact ⟨ih.1, fun _ => ih.2 rfl⟩

/-- In the round 0: what was counted was answered. -/
structure Cl (s : NodeS) : Prop where
  p : s.me = 1 → s.sent (1, 0) = true
  v : (look (s.hd (1, 0)) 1).isSome = true → s.sent (2, 0) = true
  c : ∀ v, v ≠ ⟨#[]⟩ → s.n - s.t ≤ (cnt (s.hd (2, 0)) v : Int) → s.sent (3, 0) = true
  d : ∀ v, s.n - s.t ≤ (cnt (s.hd (3, 0)) v : Int) → s.done = true

theorem sayS_sent (s : NodeS) (k : Int) (v : ByteArray) : (sayS s k v).1.sent (k, s.round) = true := by
  unfold sayS
  split
  · assumption
  · exact upd_same _ _ _
/-- What the round says is done. -/
theorem here_done (s : NodeS) (h0 : s.round = 0) (hl : leaderS s 0 = 1) : (s.me = 1 → (hereS s).1.sent (1, 0) = true) ∧ ((look (s.hd (1, 0)) 1).isSome = true → (hereS s).1.sent (2, 0) = true) := by
  have hp := propS_round s
  have R1 := run_prop s (by omega)
  have R2 := run_vote (propS s).1 (by rw [hp]; omega)
  have hsm := R1.same
  refine ⟨fun hm => R2.keep.1 _ ?_, fun hv => ?_⟩
  · have : (propS s).1 = (sayS s 1 (if 0 ≤ s.lr then s.lv else s.input)).1 := by
      unfold propS
      rw [h0, hl, if_pos hm.symm]
    rw [this]
    have := sayS_sent s 1 (if 0 ≤ s.lr then s.lv else s.input)
    rwa [h0] at this
  · show (voteS (propS s).1).1.sent (2, 0) = true
    have hr0 : (propS s).1.round = 0 := by rw [hp, h0]
    have hl1 : leaderS (propS s).1 0 = 1 := by unfold leaderS at hl ⊢; rw [hsm.1]; exact hl
    unfold voteS
    rw [hr0, hl1, hsm.2.2.2.2.2]
    cases hk : look (s.hd (1, 0)) 1 with
    | none => rw [hk] at hv; cases hv
    | some v =>
      dsimp only
      have := sayS_sent (propS s).1 2 (if 0 ≤ (propS s).1.lr ∧ (propS s).1.lv ≠ v then ⟨#[]⟩ else v)
      rwa [hr0] at this

theorem cnt_add_ne {l : Votes} {k : Int} {v u : ByteArray} (h : u ≠ v) : cnt (addL l k v) u = cnt l u := by
  unfold addL
  split
  · rfl
  · simp [cnt, List.countP_append, Ne.symm h]

theorem cl_here {s : NodeS} (h0 : s.round = 0) (hl : leaderS s 0 = 1) (hc : ∀ v, v ≠ ⟨#[]⟩ → s.n - s.t ≤ (cnt (s.hd (2, 0)) v : Int) → s.sent (3, 0) = true) (hd : ∀ v, s.n - s.t ≤ (cnt (s.hd (3, 0)) v : Int) → s.done = true) : Cl (hereS s).1 := by
  have hh := here_done s h0 hl
  have R := run_here s (by omega)
  obtain ⟨e1, e2, e3, e4, e5, e6⟩ := R.same
  refine ⟨fun h => hh.1 (by rw [← e3]; exact h), fun h => hh.2 (by rw [← e6]; exact h), fun v hv h => R.keep.1 _ (hc v hv (by rw [← e1, ← e2, ← e6]; exact h)), fun v h => R.keep.2 (hd v (by rw [← e1, ← e2, ← e6]; exact h))⟩

theorem cl_take {s : NodeS} (m : Msg) (h0 : s.round = 0) (hl : leaderS s 0 = 1) (c : Cl s) : Cl (takeS s m).1 := by
  unfold takeS
  split
  · exact c
  · rename_i hm
    split
    · exact c
    · rename_i hk
      have hk : look (s.hd m.seat) m.from_ = none := by simpa using hk
      obtain ⟨k, hkk⟩ : ∃ k, k = addN (s.hd m.seat) m.from_ m.val := ⟨_, rfl⟩
      have hadd : k = cnt ((addS s m).hd m.seat) m.val := by
        rw [hkk]
        simp only [addS, upd_same]
        unfold addN addL
        rw [hk]
        rfl
      rw [← hkk]
      have hmay : mayS s m = true := by
        cases h : mayS s m with
        | true => rfl
        | false => exact absurd (.inr h) hm
      have hr := (may_spec hmay).2.2.1
      have R := run_act (addS s m) m k hr (fun h3 => by rw [hadd]; unfold Msg.seat; rw [h3])
      obtain ⟨e1, e2, e3, e4, e5, e6⟩ := R.same
      have hold : ∀ q : Seat, q ≠ m.seat → (addS s m).hd q = s.hd q := fun q hq => upd_ne _ _ hq
      refine cl_here (by rw [e5]; exact h0) (by unfold leaderS at hl ⊢; rw [e1]; exact hl) (fun v hv h => ?_) (fun v h => ?_)
      · rw [e1, e2, e6] at h
        by_cases hs : ((2, 0) : Seat) = m.seat
        · have hk2 : m.kind = 2 := (congrArg Prod.fst hs).symm
          have hr2 : m.round = 0 := (congrArg Prod.snd hs).symm
          by_cases hvv : v = m.val
          · subst hvv
            unfold actS
            rw [if_pos hk2]
            unfold wonS
            rw [hr2]
            have hn : ¬ (m.val = ⟨#[]⟩ ∨ (cnt ((addS s m).hd (2, 0)) m.val : Int) < (addS s m).n - (addS s m).t) := by
              simp only [not_or]
              exact ⟨hv, by omega⟩
            have hlr : (lockS (addS s m) 0 m.val).round = 0 := by unfold lockS; split <;> exact h0
            rw [if_neg hn, if_neg (by simpa using (show (addS s m).round = 0 from h0))]
            have := sayS_sent (lockS (addS s m) 0 m.val) 3 m.val
            rwa [hlr] at this
          · rw [show ((addS s m).hd (2, 0)) = addL (s.hd m.seat) m.from_ m.val by rw [hs]; exact upd_same _ _ _, cnt_add_ne hvv, ← hs] at h
            exact R.keep.1 _ (c.c v hv h)
        · rw [hold _ hs] at h
          exact R.keep.1 _ (c.c v hv h)
      · rw [e1, e2, e6] at h
        by_cases hs : ((3, 0) : Seat) = m.seat
        · have hk2 : m.kind = 3 := (congrArg Prod.fst hs).symm
          by_cases hvv : v = m.val
          · subst hvv
            have hkn : (addS s m).n - (addS s m).t ≤ (k : Int) := by rw [hadd, ← hs]; exact h
            unfold actS
            rw [if_neg (by omega)]
            split
            · rfl
            · rename_i hno
              simp only [not_and] at hno
              have := hno hk2 hkn
              simpa using this
          · rw [show ((addS s m).hd (3, 0)) = addL (s.hd m.seat) m.from_ m.val by rw [hs]; exact upd_same _ _ _, cnt_add_ne hvv, ← hs] at h
            exact R.keep.2 (c.d v h)
        · rw [hold _ hs] at h
          exact R.keep.2 (c.d v h)

/-- All of them said it. -/
theorem sub_len : ∀ (A B : List Int), A.Nodup → (∀ x ∈ A, x ∈ B) → A.length ≤ B.length
  | [], _, _, _ => by simp
  | a :: A, B, hd, h => by
    simp only [List.nodup_cons] at hd
    have hm := h a (by simp)
    have := sub_len A (B.erase a) hd.2 (fun x hx => (List.mem_erase_of_ne (by rintro rfl; exact hd.1 hx)).2 (h x (by simp [hx])))
    rw [List.length_erase_of_mem hm] at this
    have : 0 < B.length := List.length_pos_of_mem hm
    simp only [List.length_cons]
    omega
theorem range_nodup : ∀ k, ((List.range k).map fun i => ((i : Nat) : Int) + 1).Nodup
  | 0 => by simp
  | k + 1 => by
    rw [List.range_succ, List.map_append, List.nodup_append]
    refine ⟨range_nodup k, by simp, fun x hx y hy => ?_⟩
    simp only [List.mem_map, List.mem_range] at hx
    obtain ⟨i, hi, rfl⟩ := hx
    simp only [List.map_cons, List.map_nil, List.mem_singleton] at hy
    omega
theorem all_said {g : Nat} {l : Votes} (v : ByteArray) (hm : ∀ i : Nat, i < g → ∃ e ∈ l, e.1 = (i : Int) + 1 ∧ e.2.1 = v) : g ≤ cnt l v := by
  have := sub_len ((List.range g).map fun i => ((i : Nat) : Int) + 1) (who l v) (range_nodup _) ?_
  · rw [who_len] at this; simpa using this
  · intro x hx
    simp only [List.mem_map, List.mem_range] at hx
    obtain ⟨i, hi, rfl⟩ := hx
    exact who_mem.2 (hm i hi)

/-- What a node takes that may be, it has counted. -/
theorem take_has {s : NodeS} {m : Msg} (h0 : 0 ≤ s.round) (hm : mayS s m = true) : ∃ e ∈ (takeS s m).1.hd m.seat, e.1 = m.from_ := by
  cases hk : look (s.hd m.seat) m.from_ with
  | some v =>
    have : (takeS s m).1 = s := by
      unfold takeS
      rw [if_neg (by simp only [not_or, hm]; exact ⟨by omega, by simp⟩), hk]
      rfl
    rw [this]
    obtain ⟨b, hb⟩ := look_some_mem hk
    exact ⟨_, hb, rfl⟩
  | none =>
    rcases take_run s m with ⟨h1, h2⟩ | ⟨_, _, _, R⟩
    · exfalso
      have e : (takeS s m).1.hd = (addS s m).hd := by
        unfold takeS
        rw [if_neg (by simp only [not_or, hm]; exact ⟨by omega, by simp⟩), hk]
        simp only [Option.isSome_none, Bool.false_eq_true, if_false]
        have R1 := run_act (addS s m) m (addN (s.hd m.seat) m.from_ m.val) (may_spec hm).2.2.1 (fun h3 => by
          have : addN (s.hd m.seat) m.from_ m.val = cnt ((addS s m).hd m.seat) m.val := by
            simp only [addS, upd_same]
            unfold addN addL
            rw [hk]
            rfl
          rw [this]; unfold Msg.seat; rw [h3])
        have R2 := run_here _ (show 0 ≤ (actS (addS s m) m (addN (s.hd m.seat) m.from_ m.val)).1.round by rw [actS_round]; exact h0)
        rw [R2.same.2.2.2.2.2, R1.same.2.2.2.2.2]
      rw [h1] at e
      have h3 : s.hd m.seat = addL (s.hd m.seat) m.from_ m.val := by
        have := congrFun e m.seat
        simpa [addS, upd_same] using this
      have h4 := congrArg List.length h3
      unfold addL at h4
      rw [hk] at h4
      simp at h4
    · rw [R.same.2.2.2.2.2]
      simp only [addS, upd_same]
      unfold addL
      rw [hk]
      exact ⟨(m.from_, m.val, (s.hd m.seat).length), by simp, rfl⟩
/-- What it has counted stays. -/
theorem take_keep (s : NodeS) (m : Msg) (k : Seat) (e : Int × ByteArray × Nat) (h : e ∈ s.hd k) : e ∈ (takeS s m).1.hd k := by
  rcases take_run s m with ⟨h1, h2⟩ | ⟨_, _, _, R⟩
  · rw [h1]; exact h
  · rw [R.same.2.2.2.2.2]
    simp only [addS, upd]
    split
    · rename_i e; subst e; exact addL_sub _ _ h
    · exact h
theorem take_same (s : NodeS) (m : Msg) : (takeS s m).1.n = s.n ∧ (takeS s m).1.t = s.t ∧ (takeS s m).1.me = s.me ∧ (takeS s m).1.input = s.input ∧ (takeS s m).1.round = s.round := by
  rcases take_run s m with ⟨h1, h2⟩ | ⟨_, _, _, R⟩
  · rw [h1]; exact ⟨rfl, rfl, rfl, rfl, rfl⟩
  · obtain ⟨e1, e2, e3, e4, e5, e6⟩ := R.same
    exact ⟨e1, e2, e3, e4, e5⟩
end Go.Proofs.Ytnpmjpdndhedgaa
