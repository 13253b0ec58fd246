/-
  The plain side of agreement: what holds of the statements' world all along. No statement of a claim stands here.
-/
import Derived.Test.YtnpmjpdndhedgaaLA
import Derived.Test.YtnpmjpdndhedgaaI3
set_option linter.unusedSimpArgs false
namespace Go.Proofs.Ytnpmjpdndhedgaa
open Go

/-- All that waits was sent. -/
structure WInv (L : LawS) : Prop where
  inv : Inv L.n L.t L.good L.nodes L.all
  wait : ∀ m ∈ L.wait, m ∈ L.all

theorem sendS_mem (L : LawS) (l : List Msg) (m : Msg) (h : m ∈ (sendS L l).wait) : m ∈ L.wait ∨ m ∈ l := by
  induction l generalizing L with
  | nil => exact .inl h
  | cons x l ih =>
    rcases ih (send1 L x) h with h1 | h1
    · simp only [send1, List.mem_append, List.mem_replicate] at h1
      rcases h1 with h1 | ⟨_, rfl⟩
      · exact .inl h1
      · exact .inr (by simp)
    · exact .inr (List.mem_cons_of_mem _ h1)

theorem WInv.step {L : LawS} (h : WInv L) (i : Nat) (f : NodeS → NodeS × List Msg) (hf : ∀ s, L.nodes[i]? = some s → Inv L.n L.t L.good (L.nodes.set i (f s).1) (L.all ++ (f s).2)) : WInv (stepS L i f) := by
  unfold stepS
  split
  · rename_i s hs
    obtain ⟨h1, h2, h3, h4, -, -, h7⟩ := sendS_same { L with nodes := L.nodes.set i (f s).1 } (f s).2
    refine ⟨?_, fun m hm => ?_⟩
    · rw [h1, h2, h3, h4, h7]; exact hf s hs
    · rw [h7]
      rcases sendS_mem _ _ m hm with h8 | h8
      · exact List.mem_append_left _ (h.wait m h8)
      · exact List.mem_append_right _ h8
  · exact h
theorem WInv.cut {L : LawS} (h : WInv L) (k : Nat) : WInv (cutS L k) := ⟨h.inv, fun m hm => h.wait m (List.mem_of_mem_eraseIdx hm)⟩
theorem WInv.hand {L : LawS} (h : WInv L) (k : Nat) : WInv (handS L k) := by
  unfold handS
  split
  · rename_i d m hd hm
    exact (h.cut k).step _ _ (fun s hs => (h.cut k).inv.take hs m (fun _ => h.wait m (List.mem_of_getElem? hm)))
  · exact h
theorem WInv.handA {L : LawS} (h : WInv L) (a : Int) : WInv (handA L a) := by
  unfold Go.Proofs.Ytnpmjpdndhedgaa.handA; split
  · exact h
  · exact h.hand _
theorem foul_far (L : LawS) (m : MoveS) (hg : L.good < L.n) : ¬ (foul L m).from_ ≤ (L.good : Int) := by
  have : 0 ≤ among m.from_ ((L.n : Int) - L.good) := Int.emod_nonneg _ (by omega)
  simp only [foul]
  omega
theorem WInv.move {L : LawS} (h : WInv L) (slow : Bool) (m : MoveS) : WInv (moveS slow L m) := by
  unfold moveS; split
  · exact h.step _ _ (fun s hs => h.inv.timeout hs)
  · split
    · rename_i hg
      exact h.step _ _ (fun s hs => h.inv.take hs _ (fun hf => absurd hf (foul_far L m hg.2)))
    · exact h.handA _
theorem WInv.finish {L : LawS} (h : WInv L) (k : Nat) : WInv (finishN k L) := by
  induction k generalizing L with
  | zero => exact h
  | succ k ih =>
    unfold finishN; split
    · exact h
    · exact ih (h.hand 0)
theorem WInv.begun {L : LawS} (h : WInv L) (hr : ∀ s ∈ L.nodes, s.round ≤ 0) (k : Nat) : WInv (begunL k L) := by
  induction k with
  | zero => exact h
  | succ k ih =>
    refine ih.step _ _ (fun s hs => ?_)
    refine ih.inv.start hs (hr s ?_)
    rw [begunL_at _ _ _ (Nat.le_refl _)] at hs
    exact List.mem_of_getElem? hs

theorem agreeStep_all (v : ByteArray) (l : List NodeS) (h : ∀ s ∈ l, s.done = true → s.choice = v) : agreeStep v true l = true := by
  induction l with
  | nil => rfl
  | cons s l ih =>
    unfold agreeStep
    have ih := ih (fun x hx => h x (List.mem_cons_of_mem _ hx))
    cases hd : s.done with
    | false => simpa using ih
    | true =>
      rw [h s (by simp) hd]
      simpa using ih
theorem agreeStep_any (v : ByteArray) (l : List NodeS) (h : ∀ s ∈ l, ∀ s' ∈ l, s.done = true → s'.done = true → s.choice = s'.choice) : agreeStep v false l = true := by
  induction l with
  | nil => rfl
  | cons s l ih =>
    unfold agreeStep
    cases hd : s.done with
    | false => simpa using ih (fun x hx y hy => h x (List.mem_cons_of_mem _ hx) y (List.mem_cons_of_mem _ hy))
    | true =>
      have := agreeStep_all s.choice l (fun x hx hxd => h x (List.mem_cons_of_mem _ hx) s (by simp) hxd hd)
      simpa using this
theorem WInv.agree {L : LawS} (h : WInv L) : agreeS L = true := by
  refine agreeStep_any _ _ (fun s hs s' hs' hd hd' => ?_)
  obtain ⟨i, hi⟩ := List.mem_iff_getElem?.1 hs
  obtain ⟨j, hj⟩ := List.mem_iff_getElem?.1 hs'
  exact h.inv.agree hi hj hd hd'
theorem WInv.play {L : LawS} (h : WInv L) (slow : Bool) (l : List MoveS) : (playN slow l L).1 = true ∧ WInv (playN slow l L).2 := by
  induction l generalizing L with
  | nil => exact ⟨rfl, h⟩
  | cons m l ih =>
    unfold playN
    rw [(h.move slow m).agree]
    exact ih (h.move slow m)

theorem newL_nodes {t bad : Nat} {ins : List ByteArray} {j i : Nat} {s : NodeS} (h : (newL t bad ins j).nodes[i]? = some s) : i < j ∧ s = makeS (3 * (t : Int) + 1) (t : Int) ((i : Int) + 1) (inpS ins (i + 1)) := by
  simp only [newL] at h
  have hi : i < j := by have := (List.getElem?_eq_some_iff.1 h).1; simpa using this
  rw [List.getElem?_map, List.getElem?_range hi] at h
  exact ⟨hi, by simpa using h.symm⟩
theorem newL_win (t bad : Nat) (ins : List ByteArray) (hb : bad ≤ t) : WInv (newL t bad ins (3 * t + 1 - bad)) := by
  have h0 : ∀ m ∈ (newL t bad ins (3 * t + 1 - bad)).all, False := fun m hm => by cases hm
  refine ⟨⟨⟨by simp only [newL]; omega, by simp only [newL]; omega, by simp only [newL]; omega, by simp only [newL]; omega⟩, by simp [newL], fun j s hs => ?_, fun j s hs k => ?_, fun j s hs k e he => ?_, fun j s hs k e he => ?_, fun m hm => (h0 m hm).elim, fun j s hs k hk => ?_, fun m hm => (h0 m hm).elim, by simp [newL], fun m hm => (h0 m hm).elim, fun m hm => (h0 m hm).elim, fun j s hs hl => ?_, fun A m B h => ?_, fun j s hs hd => ?_, fun m hm => (h0 m hm).elim⟩, fun m hm => by cases hm⟩
  all_goals first
    | (simp [newL] at h; done)
    | obtain ⟨_, rfl⟩ := newL_nodes hs
  · exact ⟨by simp [makeS, newL], by simp [makeS, newL], rfl⟩
  · exact VOk.nil
  · cases he
  · cases he
  · cases hk
  · simp [makeS] at hl
  · cases hd
theorem newL_round {t bad : Nat} {ins : List ByteArray} {j : Nat} : ∀ s ∈ (newL t bad ins j).nodes, s.round ≤ 0 := fun s hs => by
  obtain ⟨i, hi⟩ := List.mem_iff_getElem?.1 hs
  obtain ⟨_, rfl⟩ := newL_nodes hi
  simp [makeS]
/-- The law's world as 'made' makes it. -/
def madeL (t bad : Nat) (ins : List ByteArray) : LawS := begunL (3 * t + 1 - bad) (newL t bad ins (3 * t + 1 - bad))
theorem madeL_win (t bad : Nat) (ins : List ByteArray) (hb : bad ≤ t) : WInv (madeL t bad ins) := (newL_win t bad ins hb).begun newL_round _
theorem madeL_ok (t bad : Nat) (ins : List ByteArray) (ht : t ≤ 2) (hb : bad ≤ t) : LOk (madeL t bad ins) := begunL_ok (newL_ok t bad ins ht hb) _
theorem madeL_fits (t bad : Nat) (ins : List ByteArray) (ht : t ≤ 2) (hb : bad ≤ t) : Fits (madeL t bad ins) (3 * t + 1) := (begunL_fits (newL_ok t bad ins ht hb) ⟨Nat.zero_le _, Nat.zero_le _⟩ _).le (by omega)
theorem madeL_same (t bad : Nat) (ins : List ByteArray) : (madeL t bad ins).n = 3 * t + 1 ∧ (madeL t bad ins).t = t ∧ (madeL t bad ins).good = 3 * t + 1 - bad := begunL_same _ _
end Go.Proofs.Ytnpmjpdndhedgaa
