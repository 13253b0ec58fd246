/-
  The plain side of agreement: the start; what is decided without corrupt ones was an input. No statement of a claim stands here.
-/
import Derived.Test.YtnpmjpdndhedgaaI6
set_option linter.unusedSimpArgs false
namespace Go.Proofs.Ytnpmjpdndhedgaa
open Go

theorem newL_einv (t bad : Nat) (ins : List ByteArray) (hb : bad ≤ t) : EInv (inpS ins 1) 0 (newL t bad ins (3 * t + 1 - bad)) := by
  have h0 : ∀ m ∈ (newL t bad ins (3 * t + 1 - bad)).all, False := fun m hm => by cases hm
  refine ⟨newL_win t bad ins hb, fun m hm => (h0 m hm).elim, fun j s hs => ?_, fun m hm => (h0 m hm).elim, Nat.zero_le _, rfl, fun m hm => (h0 m hm).elim⟩
  obtain ⟨_, rfl⟩ := newL_nodes hs
  exact ⟨fun h => by omega, fun _ => ⟨rfl, rfl⟩, (fun k hk => by cases hk), fun h => by subst h; rfl⟩
theorem begun_einv (t bad : Nat) (ins : List ByteArray) (hb : bad ≤ t) : ∀ k, k ≤ 3 * t + 1 - bad → EInv (inpS ins 1) k (begunL k (newL t bad ins (3 * t + 1 - bad))) := by
  intro k
  induction k with
  | zero => intro _; exact newL_einv t bad ins hb
  | succ k ih =>
    intro hk
    have h := ih (by omega)
    exact h.begin (by rw [(begunL_same _ _).2.2]; simp only [newL]; omega)
theorem madeL_e2 (t bad : Nat) (ins : List ByteArray) (ht : t ≤ 2) (hb : bad ≤ t) : E2 (inpS ins 1) (madeL t bad ins) := by
  refine ⟨?_, madeL_ok t bad ins ht hb⟩
  rw [(madeL_same t bad ins).2.2]
  exact begun_einv t bad ins hb _ (Nat.le_refl _)

/-- All decide the first leader's input. -/
theorem ends_all (t bad : Nat) (ins : List ByteArray) (ht : t ≤ 2) (hb : bad ≤ t) (l : List MoveS) : (playN false l (madeL t bad ins)).1 = true ∧ (finishN 4000 (playN false l (madeL t bad ins)).2).wait = [] ∧
    ∀ s ∈ (finishN 4000 (playN false l (madeL t bad ins)).2).nodes, s.done = true ∧ s.choice = inpS ins 1 := by
  have hin := inpS_ok ins 1
  have h1 := (madeL_e2 t bad ins ht hb).play hin.1 (by omega) l
  have h2 := finish_empty hin.1 (by omega) 4000 _ h1 (by have := mu_le h1; omega)
  refine ⟨((madeL_win t bad ins hb).play false l).1, h2.1, fun s hs => ?_⟩
  obtain ⟨j, hj⟩ := List.mem_iff_getElem?.1 hs
  exact h2.2.e.ends hin.1 h2.1 j s hj

/-- Values are of P all along. -/
structure TInv (P : ByteArray → Prop) (L : LawS) : Prop where
  w : WInv L
  val : Vals P L.all
  inp : ∀ s ∈ L.nodes, P s.input
  all : L.good = L.n

theorem TInv.lead {P : ByteArray → Prop} {L : LawS} (h : TInv P L) {i : Nat} {s : NodeS} (hs : L.nodes[i]? = some s) (r : Int) : leaderS s r ≤ (L.good : Int) := by
  have h1 := (h.w.inv.nt i s hs).1
  have h2 := h.w.inv.nums
  have := h2.gn
  have := h2.tg
  unfold leaderS
  rw [h1, h.all]
  have := Int.emod_lt_of_pos r (show (0 : Int) < (L.n : Int) by omega)
  omega
theorem TInv.step {P : ByteArray → Prop} {L : LawS} (h : TInv P L) (i : Nat) (f : NodeS → NodeS × List Msg) (hw : WInv (stepS L i f)) (hf : ∀ s, L.nodes[i]? = some s → Vals P (L.all ++ (f s).2) ∧ (f s).1.input = s.input) : TInv P (stepS L i f) := by
  cases hs : L.nodes[i]? with
  | none =>
    have : stepS L i f = L := by unfold stepS; rw [hs]
    rw [this]; exact h
  | some s =>
    have e : stepS L i f = sendS { L with nodes := L.nodes.set i (f s).1 } (f s).2 := stepS_some hs f
    rw [e] at hw ⊢
    obtain ⟨h1, h2, h3, h4, h5, h6, h7⟩ := sendS_same { L with nodes := L.nodes.set i (f s).1 } (f s).2
    refine ⟨hw, by rw [h7]; exact (hf s hs).1, fun x hx => ?_, by rw [h1, h3]; exact h.all⟩
    rw [h4] at hx
    rcases List.mem_or_eq_of_mem_set hx with hx | rfl
    · exact h.inp x hx
    · rw [(hf s hs).2]; exact h.inp s (List.mem_of_getElem? hs)
theorem TInv.cut {P : ByteArray → Prop} {L : LawS} (h : TInv P L) (k : Nat) : TInv P (cutS L k) := ⟨h.w.cut k, h.val, h.inp, h.all⟩
theorem TInv.take {P : ByteArray → Prop} (hP : P ⟨#[]⟩) {L : LawS} (h : TInv P L) (i : Nat) (m : Msg) (hm : m ∈ L.all) : TInv P (stepS L i (fun s => takeS s m)) := by
  refine h.step i _ (h.w.step _ _ (fun s hs => h.w.inv.take hs m (fun _ => hm))) (fun s hs => ⟨?_, (take_same s m).2.2.2.1⟩)
  rcases take_run s m with ⟨_, h2⟩ | ⟨_, hmay, _, R⟩
  · rw [h2, List.append_nil]; exact h.val
  · exact Vals.run (h.w.inv.count hs hmay (fun _ => hm)) (set_at hs) R (fun _ _ _ _ _ => hP) (h.lead hs s.round) (fun _ => h.inp s (List.mem_of_getElem? hs)) h.val
theorem TInv.hand {P : ByteArray → Prop} (hP : P ⟨#[]⟩) {L : LawS} (h : TInv P L) (k : Nat) : TInv P (handS L k) := by
  unfold handS
  split
  · rename_i d m hd hm
    exact (h.cut k).take hP _ m (h.w.wait m (List.mem_of_getElem? hm))
  · exact h
theorem TInv.move {P : ByteArray → Prop} (hP : P ⟨#[]⟩) {L : LawS} (h : TInv P L) (slow : Bool) (m : MoveS) : TInv P (moveS slow L m) := by
  unfold moveS
  split
  · refine h.step _ _ (h.w.step _ _ (fun s hs => h.w.inv.timeout hs)) (fun s hs => ?_)
    rcases timeout_run s with ⟨h1, h2⟩ | ⟨_, R⟩
    · rw [h1, h2, List.append_nil]; exact ⟨h.val, rfl⟩
    · exact ⟨Vals.run (h.w.inv.next (r := s.round + 1) hs (by omega)) (set_at hs) R (fun _ _ _ _ _ => hP) (h.lead hs (s.round + 1)) (fun _ => h.inp s (List.mem_of_getElem? hs)) h.val, R.same.2.2.2.1⟩
  · split
    · rename_i hg
      have := h.all
      omega
    · unfold handA
      split
      · exact h
      · exact h.hand hP _
theorem TInv.play {P : ByteArray → Prop} (hP : P ⟨#[]⟩) {L : LawS} (h : TInv P L) (slow : Bool) (l : List MoveS) : TInv P (playN slow l L).2 := playN_keep slow (TInv P) (fun _ m h => h.move hP slow m) l L h
theorem TInv.finish {P : ByteArray → Prop} (hP : P ⟨#[]⟩) {L : LawS} (h : TInv P L) (k : Nat) : TInv P (finishN k L) := by
  induction k generalizing L with
  | zero => exact h
  | succ k ih =>
    unfold finishN; split
    · exact h
    · exact ih (h.hand hP 0)
theorem TInv.begun {P : ByteArray → Prop} (hP : P ⟨#[]⟩) {L : LawS} (h : TInv P L) (hr : ∀ s ∈ L.nodes, s.round ≤ 0) (k : Nat) : TInv P (begunL k L) := by
  induction k with
  | zero => exact h
  | succ k ih =>
    have hr2 : ∀ s, (begunL k L).nodes[k]? = some s → s.round ≤ 0 := fun s hs => by
      rw [begunL_at _ _ _ (Nat.le_refl _)] at hs
      exact hr s (List.mem_of_getElem? hs)
    refine ih.step _ _ (ih.w.step _ _ (fun s hs => ih.w.inv.start hs (hr2 s hs))) (fun s hs => ?_)
    have R := run_here (at0 s) (Int.le_refl 0)
    exact ⟨Vals.run (ih.w.inv.next (r := 0) hs (hr2 s hs)) (set_at hs) R (fun _ _ _ _ _ => hP) (ih.lead hs 0) (fun _ => ih.inp s (List.mem_of_getElem? hs)) ih.val, R.same.2.2.2.1⟩
theorem TInv.told {P : ByteArray → Prop} {L : LawS} (h : TInv P L) : ∀ s ∈ L.nodes, s.done = true → s.choice ≠ ⟨#[]⟩ ∧ P s.choice := fun s hs hd => by
  obtain ⟨j, hj⟩ := List.mem_iff_getElem?.1 hs
  obtain ⟨r, hm⟩ := h.w.inv.don j s hj hd
  have hq : 0 < L.good - L.t := by have := h.w.inv.nums.tg; omega
  obtain ⟨x, hx⟩ := hm.one hq
  exact ⟨(h.w.inv.com _ hx rfl).1, h.val.one hq hm⟩

/-- Was it an input? -/
def wasF (v x : ByteArray) : Bool := decide (v = x.extract 0 (min x.size 50)) || (decide (v = ⟨#[101]⟩) && decide (x.extract 0 (min x.size 50) = ⟨#[]⟩))
def wasS (ins : List ByteArray) (v : ByteArray) : Bool := (decide (ins.length = 0) && decide (v = ⟨#[105]⟩)) || ins.any (wasF v)
theorem was_inp (ins : List ByteArray) (k : Nat) : wasS ins (inpS ins k) = true := by
  unfold wasS
  cases hz : ins.length with
  | zero =>
    have e : inpS ins k = ⟨#[105]⟩ := by
      have : inp0 ins k = ⟨#[105]⟩ := by unfold inp0; rw [if_neg (by omega)]
      unfold inpS
      rw [this]
      rfl
    rw [e]
    rfl
  | succ n =>
    have hlt : k % ins.length < ins.length := Nat.mod_lt _ (by omega)
    obtain ⟨x, hx⟩ : ∃ x, ins[k % ins.length]? = some x := ⟨_, List.getElem?_eq_getElem hlt⟩
    have e0 : inp0 ins k = x := by unfold inp0; rw [if_pos (by omega), List.getD, hx]; rfl
    have : ins.any (wasF (inpS ins k)) = true := by
      rw [List.any_eq_true]
      refine ⟨x, List.mem_of_getElem? hx, ?_⟩
      unfold wasF inpS
      rw [e0]
      unfold inp1
      by_cases hxe : x = ⟨#[]⟩
      · subst hxe
        rfl
      · rw [if_neg hxe]
        simp
    rw [this]
    simp
theorem told_all (t : Nat) (ins : List ByteArray) (l : List MoveS) : ∀ s ∈ (finishN 4000 (playN true l (madeL t 0 ins)).2).nodes, s.done = true → wasS ins s.choice = true := by
  have hP : (fun v => v = ⟨#[]⟩ ∨ wasS ins v = true) ⟨#[]⟩ := .inl rfl
  have h0 : TInv (fun v => v = ⟨#[]⟩ ∨ wasS ins v = true) (newL t 0 ins (3 * t + 1 - 0)) := by
    refine ⟨newL_win t 0 ins (Nat.zero_le _), (fun m hm => by cases hm), fun s hs => ?_, by simp [newL]⟩
    obtain ⟨i, hi⟩ := List.mem_iff_getElem?.1 hs
    obtain ⟨_, rfl⟩ := newL_nodes hi
    exact .inr (was_inp ins _)
  have h1 := (((h0.begun hP newL_round (3 * t + 1 - 0)).play hP true l).finish hP 4000).told
  intro s hs hd
  have := h1 s hs hd
  exact this.2.resolve_left this.1
end Go.Proofs.Ytnpmjpdndhedgaa
