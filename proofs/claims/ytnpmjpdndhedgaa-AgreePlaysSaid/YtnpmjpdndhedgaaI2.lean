/-
  The plain side of agreement: what holds of all nodes and of all that they sent, and that it stays (Inv); that two values never are decided. No program is in sight here; no statement of a claim stands here.
-/
import Derived.Test.YtnpmjpdndhedgaaI1
set_option linter.unusedSimpArgs false
namespace Go.Proofs.Ytnpmjpdndhedgaa
open Go

structure Nums (n t g : Nat) : Prop where
  gn : g ≤ n
  tg : t < g
  two : g < 2 * (g - t)
  up : n ≤ g + t

structure Inv (n t g : Nat) (N : List NodeS) (H : List Msg) : Prop where
  nums : Nums n t g
  len : N.length = g
  nt : ∀ (j : Nat) (s : NodeS), N[j]? = some s → s.n = (n : Int) ∧ s.t = (t : Int) ∧ s.me = (j : Int) + 1
  vok : ∀ (j : Nat) (s : NodeS), N[j]? = some s → ∀ k, VOk (s.hd k)
  frm : ∀ (j : Nat) (s : NodeS), N[j]? = some s → ∀ k, ∀ e ∈ s.hd k, 1 ≤ e.1 ∧ e.1 ≤ (n : Int)
  hd : ∀ (j : Nat) (s : NodeS), N[j]? = some s → ∀ k, ∀ e ∈ s.hd k, e.1 ≤ (g : Int) → (⟨k.1, e.1, k.2, e.2.1⟩ : Msg) ∈ H
  sent : ∀ m ∈ H, ∃ (j : Nat) (s : NodeS), N[j]? = some s ∧ m.from_ = (j : Int) + 1 ∧ s.sent (m.kind, m.round) = true
  rnd : ∀ (j : Nat) (s : NodeS), N[j]? = some s → ∀ k, s.sent k = true → k.2 ≤ s.round
  rnd0 : ∀ m ∈ H, 0 ≤ m.round
  uniq : (H.map fun m => (m.kind, m.from_, m.round)).Nodup
  com : ∀ m ∈ H, m.kind = 3 → m.val ≠ ⟨#[]⟩ ∧ Many g (g - t) H 2 m.round m.val
  comL : ∀ m ∈ H, m.kind = 3 → ∀ (j : Nat) (s : NodeS), N[j]? = some s → m.from_ = (j : Int) + 1 → m.round ≤ s.lr
  lck : ∀ (j : Nat) (s : NodeS), N[j]? = some s → 0 ≤ s.lr → s.lv ≠ ⟨#[]⟩ ∧ Many g (g - t) H 2 s.lr s.lv
  hist : ∀ (A : List Msg) (m : Msg) (B : List Msg), H = A ++ m :: B → m.kind = 2 → m.val ≠ ⟨#[]⟩ → ∀ c ∈ H, c.kind = 3 → c.from_ = m.from_ → c.round < m.round → c.val = m.val ∨ ∃ lr, c.round < lr ∧ Many g (g - t) A 2 lr m.val
  don : ∀ (j : Nat) (s : NodeS), N[j]? = some s → s.done = true → ∃ r, Many g (g - t) H 3 r s.choice
  ldr : ∀ m ∈ H, m.kind = 1 → m.from_ = m.round % n + 1

theorem get_set {N : List NodeS} {i j : Nat} {s s1 x : NodeS} (hi : N[i]? = some s) (h : (N.set i s1)[j]? = some x) : (j = i ∧ x = s1) ∨ (j ≠ i ∧ N[j]? = some x) := by
  by_cases hj : i = j
  · subst hj
    rw [List.getElem?_set_self (List.getElem?_eq_some_iff.1 hi).1] at h
    exact .inl ⟨rfl, (Option.some.inj h).symm⟩
  · rw [List.getElem?_set_ne hj] at h
    exact .inr ⟨Ne.symm hj, h⟩

/-- One node is another. -/
theorem Inv.swap {n t g : Nat} {N : List NodeS} {H : List Msg} (I : Inv n t g N H) {i : Nat} {s : NodeS} (hi : N[i]? = some s) (s1 : NodeS) (hnt : s1.n = s.n ∧ s1.t = s.t ∧ s1.me = s.me)
    (hvok : ∀ k, VOk (s1.hd k)) (hfrm : ∀ k, ∀ e ∈ s1.hd k, 1 ≤ e.1 ∧ e.1 ≤ (n : Int)) (hhd : ∀ k, ∀ e ∈ s1.hd k, e.1 ≤ (g : Int) → (⟨k.1, e.1, k.2, e.2.1⟩ : Msg) ∈ H)
    (hsent : ∀ k, s.sent k = true → s1.sent k = true) (hrnd : ∀ k, s1.sent k = true → k.2 ≤ s1.round) (hlr : s.lr ≤ s1.lr)
    (hlck : 0 ≤ s1.lr → s1.lv ≠ ⟨#[]⟩ ∧ Many g (g - t) H 2 s1.lr s1.lv) (hdon : s1.done = true → ∃ r, Many g (g - t) H 3 r s1.choice) : Inv n t g (N.set i s1) H := by
  refine ⟨I.nums, by simpa using I.len, fun j x hx => ?_, fun j x hx => ?_, fun j x hx => ?_, fun j x hx => ?_, fun m hm => ?_, fun j x hx => ?_, I.rnd0, I.uniq, I.com, fun m hm hk j x hx => ?_, fun j x hx => ?_, I.hist, fun j x hx => ?_, I.ldr⟩
  · rcases get_set hi hx with ⟨rfl, rfl⟩ | ⟨_, h⟩
    · have := I.nt _ _ hi; rw [hnt.1, hnt.2.1, hnt.2.2]; exact this
    · exact I.nt j x h
  · rcases get_set hi hx with ⟨rfl, rfl⟩ | ⟨_, h⟩
    · exact hvok
    · exact I.vok j x h
  · rcases get_set hi hx with ⟨rfl, rfl⟩ | ⟨_, h⟩
    · exact hfrm
    · exact I.frm j x h
  · rcases get_set hi hx with ⟨rfl, rfl⟩ | ⟨_, h⟩
    · exact hhd
    · exact I.hd j x h
  · obtain ⟨j, x, hx, h1, h2⟩ := I.sent m hm
    by_cases hj : i = j
    · subst hj
      rw [hi] at hx
      cases hx
      exact ⟨i, s1, List.getElem?_set_self (List.getElem?_eq_some_iff.1 hi).1, h1, hsent _ h2⟩
    · exact ⟨j, x, by rw [List.getElem?_set_ne hj]; exact hx, h1, h2⟩
  · rcases get_set hi hx with ⟨rfl, rfl⟩ | ⟨_, h⟩
    · exact hrnd
    · exact I.rnd j x h
  · rcases get_set hi hx with ⟨rfl, rfl⟩ | ⟨_, h⟩
    · intro hf; have := I.comL m hm hk _ _ hi hf; omega
    · exact I.comL m hm hk j x h
  · rcases get_set hi hx with ⟨rfl, rfl⟩ | ⟨_, h⟩
    · exact hlck
    · exact I.lck j x h
  · rcases get_set hi hx with ⟨rfl, rfl⟩ | ⟨_, h⟩
    · exact hdon
    · exact I.don j x h

/-- One message more. -/
theorem Inv.append {n t g : Nat} {N : List NodeS} {H : List Msg} (I : Inv n t g N H) (m : Msg) (hs : ∃ (j : Nat) (s : NodeS), N[j]? = some s ∧ m.from_ = (j : Int) + 1 ∧ s.sent (m.kind, m.round) = true) (h0 : 0 ≤ m.round)
    (hu : ∀ x ∈ H, ¬ (x.kind = m.kind ∧ x.from_ = m.from_ ∧ x.round = m.round)) (hc : m.kind = 3 → m.val ≠ ⟨#[]⟩ ∧ Many g (g - t) H 2 m.round m.val)
    (hcl : m.kind = 3 → ∀ (j : Nat) (s : NodeS), N[j]? = some s → m.from_ = (j : Int) + 1 → m.round ≤ s.lr)
    (hv : m.kind = 2 → m.val ≠ ⟨#[]⟩ → ∀ c ∈ H, c.kind = 3 → c.from_ = m.from_ → c.round < m.round → c.val = m.val ∨ ∃ lr, c.round < lr ∧ Many g (g - t) H 2 lr m.val)
    (hn : m.kind = 3 → ∀ x ∈ H, x.kind = 2 → x.from_ = m.from_ → x.round ≤ m.round) (hl : m.kind = 1 → m.from_ = m.round % n + 1) : Inv n t g N (H ++ [m]) := by
  have hsub : ∀ x ∈ H, x ∈ H ++ [m] := fun x hx => List.mem_append_left _ hx
  have hcase : ∀ x ∈ H ++ [m], x ∈ H ∨ x = m := fun x hx => by simpa using hx
  refine ⟨I.nums, I.len, I.nt, I.vok, I.frm, fun j s hj k e he hg => hsub _ (I.hd j s hj k e he hg), fun x hx => ?_, I.rnd, fun x hx => ?_, ?_, fun x hx hk => ?_, fun x hx hk => ?_, fun j s hj h => ⟨(I.lck j s hj h).1, (I.lck j s hj h).2.mono hsub⟩, fun A x B e hk hne c hcm ck cf cr => ?_, fun j s hj h => ?_, fun x hx hk => ?_⟩
  · rcases hcase x hx with h | rfl
    · exact I.sent x h
    · exact hs
  · rcases hcase x hx with h | rfl
    · exact I.rnd0 x h
    · exact h0
  · rw [List.map_append, List.nodup_append]
    refine ⟨I.uniq, by simp, fun a ha b hb => ?_⟩
    simp only [List.map_cons, List.map_nil, List.mem_singleton] at hb
    subst hb
    obtain ⟨x, hx, rfl⟩ := List.mem_map.1 ha
    intro e
    simp only [Prod.mk.injEq] at e
    exact hu x hx ⟨e.1, e.2.1, e.2.2⟩
  · rcases hcase x hx with h | rfl
    · exact ⟨(I.com x h hk).1, (I.com x h hk).2.mono hsub⟩
    · exact ⟨(hc hk).1, (hc hk).2.mono hsub⟩
  · rcases hcase x hx with h | rfl
    · exact I.comL x h hk
    · exact hcl hk
  · rcases List.eq_nil_or_concat B with rfl | ⟨B', b, rfl⟩
    · have e' : H ++ [m] = A ++ [x] := e
      obtain ⟨rfl, h2⟩ := List.append_inj' e' rfl
      simp only [List.cons.injEq, and_true] at h2
      subst h2
      rcases hcase c hcm with h | rfl
      · exact hv hk hne c h ck cf cr
      · omega
    · have e' : H ++ [m] = (A ++ x :: B') ++ [b] := by rw [e]; simp
      obtain ⟨rfl, h2⟩ := List.append_inj' e' rfl
      simp only [List.cons.injEq, and_true] at h2
      subst h2
      rcases hcase c hcm with h | rfl
      · exact I.hist A x B' rfl hk hne c h ck cf cr
      · have := hn ck x (by simp) hk cf.symm
        omega
  · obtain ⟨r, h⟩ := I.don j s hj h
    exact ⟨r, h.mono hsub⟩
  · rcases hcase x hx with h | rfl
    · exact I.ldr x h hk
    · exact hl hk

theorem Inv.many {n t g : Nat} {N : List NodeS} {H : List Msg} (I : Inv n t g N H) {i : Nat} {s : NodeS} (hi : N[i]? = some s) {k : Seat} {v : ByteArray} (hq : s.n - s.t ≤ (cnt (s.hd k) v : Int)) : Many g (g - t) H k.1 k.2 v := by
  have h1 := I.nt i s hi
  have h2 := I.nums
  have := h2.gn
  have := h2.tg
  exact many_of_cnt (n := n) (c := n - t) (I.vok i s hi k) (I.frm i s hi k) (I.hd i s hi k) h2.gn (by rw [h1.1, h1.2.1] at hq; omega) (by omega)

/-- Two of many in one round are one. -/
theorem Inv.same {n t g : Nat} {N : List NodeS} {H : List Msg} (I : Inv n t g N H) {k r : Int} {v v' : ByteArray} (h : Many g (g - t) H k r v) (h' : Many g (g - t) H k r v') : v = v' := by
  obtain ⟨x, h1, h2⟩ := h.meet I.nums.two h'
  have := nodup_key I.uniq h1 h2 rfl
  cases this
  rfl

theorem Inv.lock {n t g : Nat} {N : List NodeS} {H : List Msg} (I : Inv n t g N H) {i : Nat} {s : NodeS} (hi : N[i]? = some s) {r : Int} {v : ByteArray} (hv : v ≠ ⟨#[]⟩) (hq : s.n - s.t ≤ (cnt (s.hd (2, r)) v : Int)) (hl : s.lr < r) : Inv n t g (N.set i { s with lv := v, lr := r }) H :=
  I.swap hi _ ⟨rfl, rfl, rfl⟩ (I.vok i s hi) (I.frm i s hi) (I.hd i s hi) (fun _ h => h) (I.rnd i s hi) (Int.le_of_lt hl) (fun _ => ⟨hv, I.many hi hq⟩) (I.don i s hi)
theorem Inv.decide {n t g : Nat} {N : List NodeS} {H : List Msg} (I : Inv n t g N H) {i : Nat} {s : NodeS} (hi : N[i]? = some s) {r : Int} {v : ByteArray} (hq : s.n - s.t ≤ (cnt (s.hd (3, r)) v : Int)) : Inv n t g (N.set i { s with choice := v, done := true }) H :=
  I.swap hi _ ⟨rfl, rfl, rfl⟩ (I.vok i s hi) (I.frm i s hi) (I.hd i s hi) (fun _ h => h) (I.rnd i s hi) (Int.le_refl _) (I.lck i s hi) (fun _ => ⟨r, I.many hi hq⟩)
theorem Inv.next {n t g : Nat} {N : List NodeS} {H : List Msg} (I : Inv n t g N H) {i : Nat} {s : NodeS} (hi : N[i]? = some s) {r : Int} (hr : s.round ≤ r) : Inv n t g (N.set i { s with round := r }) H :=
  I.swap hi _ ⟨rfl, rfl, rfl⟩ (I.vok i s hi) (I.frm i s hi) (I.hd i s hi) (fun _ h => h) (fun k hk => Int.le_trans (I.rnd i s hi k hk) hr) (Int.le_refl _) (I.lck i s hi) (I.don i s hi)
theorem Inv.count {n t g : Nat} {N : List NodeS} {H : List Msg} (I : Inv n t g N H) {i : Nat} {s : NodeS} (hi : N[i]? = some s) {m : Msg} (hm : mayS s m = true) (hH : m.from_ ≤ (g : Int) → m ∈ H) : Inv n t g (N.set i (addS s m)) H := by
  have hmay := may_spec hm
  have hnt := I.nt i s hi
  refine I.swap hi (addS s m) ⟨rfl, rfl, rfl⟩ (fun k => ?_) (fun k e he => ?_) (fun k e he hg => ?_) (fun _ h => h) (I.rnd i s hi) (Int.le_refl _) (I.lck i s hi) (I.don i s hi)
  · simp only [addS, upd]
    split
    · exact addL_ok (I.vok i s hi _) _ _
    · exact I.vok i s hi k
  · simp only [addS, upd] at he
    split at he
    · rcases addL_mem he with h | ⟨h1, h2⟩
      · exact I.frm i s hi _ e h
      · rw [h1, ← hnt.1]; omega
    · exact I.frm i s hi k e he
  · simp only [addS, upd] at he
    split at he
    · rename_i hk
      subst hk
      rcases addL_mem he with h | ⟨h1, h2⟩
      · exact I.hd i s hi _ e h hg
      · rw [h1, h2]
        rw [h1] at hg
        exact hH hg
    · exact I.hd i s hi k e he hg

theorem Inv.say {n t g : Nat} {N : List NodeS} {H : List Msg} (I : Inv n t g N H) {i : Nat} {s : NodeS} (hi : N[i]? = some s) {k : Int} {v : ByteArray} (h0 : 0 ≤ s.round) (ha : Allowed s k v) (hs : s.sent (k, s.round) = false) :
    Inv n t g (N.set i { s with sent := upd s.sent (k, s.round) true }) (H ++ [⟨k, s.me, s.round, v⟩]) := by
  have hil := (List.getElem?_eq_some_iff.1 hi).1
  have hnt := I.nt i s hi
  have I1 : Inv n t g (N.set i { s with sent := upd s.sent (k, s.round) true }) H := by
    refine I.swap hi _ ⟨rfl, rfl, rfl⟩ (I.vok i s hi) (I.frm i s hi) (I.hd i s hi) (fun q h => ?_) (fun q hq => ?_) (Int.le_refl _) (I.lck i s hi) (I.don i s hi)
    · simp only [upd]; split
      · rfl
      · exact h
    · simp only [upd] at hq
      split at hq
      · rename_i e; rw [e]; exact Int.le_refl _
      · exact I.rnd i s hi q hq
  refine I1.append _ ⟨i, _, List.getElem?_set_self hil, hnt.2.2, upd_same _ _ _⟩ h0 (fun x hx ⟨e1, e2, e3⟩ => ?_) (fun hk => ?_) (fun hk j x hx hf => ?_) (fun hk hne c hc ck cf cr => ?_) (fun hk x hx xk xf => ?_) (fun hk => ?_)
  · obtain ⟨j, y, hy, f1, f2⟩ := I.sent x hx
    have hj : j = i := by dsimp only at e2; rw [e2, hnt.2.2] at f1; omega
    subst hj
    rw [hi] at hy
    cases hy
    dsimp only at e1 e3
    rw [e1, e3, hs] at f2
    cases f2
  · dsimp only at hk ⊢
    rcases ha with ⟨h, _⟩ | ⟨h, _⟩ | ⟨_, h1, h2, h3⟩
    · omega
    · omega
    · exact ⟨h1, I.many hi h2⟩
  · dsimp only at hk hf ⊢
    rcases ha with ⟨h, _⟩ | ⟨h, _⟩ | ⟨_, h1, h2, h3⟩
    · omega
    · omega
    · have hj : j = i := by rw [hnt.2.2] at hf; omega
      subst hj
      rw [List.getElem?_set_self hil] at hx
      cases hx
      exact h3
  · dsimp only at hk hne cf cr ⊢
    rcases ha with ⟨h, _⟩ | ⟨_, p, h1, h2⟩ | ⟨h, _⟩
    · omega
    · have hcl := I.comL c hc ck i s hi (by rw [cf, hnt.2.2])
      have hc0 := I.rnd0 c hc
      have hlr : 0 ≤ s.lr := by omega
      have hlk := I.lck i s hi hlr
      have hvv : s.lv = v := by
        by_cases hp : s.lv = p
        · rw [if_neg (by simp [hp])] at h2
          rw [h2, hp]
        · rw [if_pos ⟨hlr, hp⟩] at h2
          exact absurd h2 hne
      rw [hvv] at hlk
      by_cases he : c.round = s.lr
      · left
        have := (I.com c hc ck).2
        rw [he] at this
        exact I.same this hlk.2
      · exact .inr ⟨s.lr, by omega, hlk.2⟩
    · omega
  · dsimp only at hk xf ⊢
    obtain ⟨j, y, hy, f1, f2⟩ := I.sent x hx
    have hj : j = i := by rw [xf, hnt.2.2] at f1; omega
    subst hj
    rw [hi] at hy
    cases hy
    exact I.rnd _ _ hi _ f2
  · dsimp only at hk ⊢
    rcases ha with ⟨_, h1, _⟩ | ⟨h, _⟩ | ⟨h, _⟩
    · rw [← h1, leaderS, hnt.1]
    · omega
    · omega

theorem Inv.run {n t g : Nat} {N : List NodeS} {H : List Msg} (I : Inv n t g N H) {i : Nat} {s s' : NodeS} {out : List Msg} (hi : N[i]? = some s) (R : Run s s' out) : Inv n t g (N.set i s') (H ++ out) := by
  have hself : ∀ {N : List NodeS} {i : Nat} {s : NodeS}, N[i]? = some s → N.set i s = N := fun {N i s} h => by
    apply List.ext_getElem?
    intro j
    by_cases hj : i = j
    · subst hj; rw [List.getElem?_set_self (List.getElem?_eq_some_iff.1 h).1, h]
    · rw [List.getElem?_set_ne hj]
  have hat : ∀ {N : List NodeS} {i : Nat} {s s1 : NodeS}, N[i]? = some s → (N.set i s1)[i]? = some s1 := fun {N i s s1} h => List.getElem?_set_self (List.getElem?_eq_some_iff.1 h).1
  induction R generalizing N H with
  | refl s => rw [hself hi, List.append_nil]; exact I
  | lock s r v s' out hv hr hq hl _ ih =>
    have := ih (I.lock hi hv hq hl) (hat hi)
    rwa [List.set_set] at this
  | say s k v s' out h0 ha hs _ ih =>
    have := ih (I.say hi h0 ha hs) (hat hi)
    rw [List.set_set, List.append_assoc] at this
    exact this
  | decide s r v s' out hq hd _ ih =>
    have := ih (I.decide hi hq) (hat hi)
    rwa [List.set_set] at this

/-- Where many committed a value, no later round has many votes of another. -/
theorem Inv.later {n t g : Nat} {N : List NodeS} {H : List Msg} (I : Inv n t g N H) {r : Int} {v : ByteArray} (hc : Many g (g - t) H 3 r v) :
    ∀ (len : Nat) (A B : List Msg), A.length = len → H = A ++ B → ∀ (r' : Int) (v' : ByteArray), r < r' → v' ≠ ⟨#[]⟩ → Many g (g - t) A 2 r' v' → v' = v := by
  intro len
  induction len using Nat.strongRecOn with
  | ind len ih =>
    intro A B hl hH r' v' hr hne hm
    obtain ⟨x, hx1, hx2⟩ := hc.meet I.nums.two hm
    obtain ⟨A1, A2, rfl⟩ := List.append_of_mem hx2
    have h := I.hist A1 ⟨2, x, r', v'⟩ (A2 ++ B) (by rw [hH]; simp) rfl hne ⟨3, x, r, v⟩ hx1 rfl rfl hr
    rcases h with h | ⟨lr, h1, h2⟩
    · exact h.symm
    · exact ih A1.length (by rw [← hl]; simp) A1 (⟨2, x, r', v'⟩ :: A2 ++ B) rfl (by rw [hH, List.append_assoc]) lr v' h1 hne h2

/-- What is decided is one. -/
theorem Inv.one {n t g : Nat} {N : List NodeS} {H : List Msg} (I : Inv n t g N H) {r r' : Int} {v v' : ByteArray} (h : Many g (g - t) H 3 r v) (h' : Many g (g - t) H 3 r' v') : v = v' := by
  have hq : 0 < g - t := by have := I.nums.tg; omega
  have key : ∀ {r r' : Int} {v v' : ByteArray}, Many g (g - t) H 3 r v → Many g (g - t) H 3 r' v' → r < r' → v' = v := fun {r r' v v'} h h' hr => by
    obtain ⟨x, hx⟩ := h'.one hq
    have hcom := I.com _ hx rfl
    exact I.later h H.length H [] rfl (by simp) r' v' hr hcom.1 hcom.2
  rcases Int.lt_trichotomy r r' with hr | hr | hr
  · exact (key h h' hr).symm
  · subst hr; exact I.same h h'
  · exact key h' h hr

theorem Inv.agree {n t g : Nat} {N : List NodeS} {H : List Msg} (I : Inv n t g N H) {i j : Nat} {s s' : NodeS} (hi : N[i]? = some s) (hj : N[j]? = some s') (hd : s.done = true) (hd' : s'.done = true) : s.choice = s'.choice := by
  obtain ⟨r, h⟩ := I.don i s hi hd
  obtain ⟨r', h'⟩ := I.don j s' hj hd'
  exact I.one h h'
end Go.Proofs.Ytnpmjpdndhedgaa
