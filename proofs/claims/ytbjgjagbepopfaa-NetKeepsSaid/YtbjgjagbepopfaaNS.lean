/-
  NetKeeps in plain words. No statement of a claim stands here; each lemma names what it asks.
-/
import Derived.Test.YtbjgjagbepopfaaNQ
set_option linter.unusedSimpArgs false
namespace Go.Proofs.Ytbjgjagbepopfaa
open Go Go.RowKit Go.ChangeMaps

/-- What holds of the net: nobody is down, and all goes to one of four. -/
structure Keep (s : NetS) (n : Nat) : Prop where
  ok : s.Ok
  parties : s.parties = 4
  downs : s.downs = []
  lost : s.lost = 0
  to4 : ∀ e ∈ s.way, 1 ≤ Msg.to e.2.1 ∧ Msg.to e.2.1 ≤ 4
  sum : s.sent = n

theorem Keep.made (s : NetS) (ho : s.Ok) (h1 : s.parties = 4) (h4 : s.downs = []) (h5 : s.way = []) (h6 : s.lost = 0) (h7 : s.sent = 0) : Keep s 0 :=
  ⟨ho, h1, h4, h6, by rw [h5]; simp, h7⟩

theorem Keep.send {s : NetS} {n : Nat} (h : Keep s n) {m : Msg} (ht : 1 ≤ m.to ∧ m.to ≤ 4) :
    ((s.send m).2.2 = 0 ∧ Keep (s.send m).1 (n + 1)) ∨ ((s.send m).2.2 ≠ 0 ∧ (s.send m).1 = s) := by
  have hd : ∀ k, s.down k = false := fun k => by unfold NetS.down; rw [h.downs]; rfl
  have ho := NetS.send_ok h.ok m
  unfold NetS.send at ho ⊢
  by_cases hp : (s.party m.frm && s.party m.to) = true
  · rw [if_pos hp] at ho ⊢
    by_cases hk : m.kind < 0
    · rw [if_pos hk]; exact .inr ⟨by simp, rfl⟩
    · rw [if_neg hk] at ho ⊢
      by_cases hl : 4096 < m.body.size
      · rw [if_pos hl]; exact .inr ⟨by simp, rfl⟩
      · rw [if_neg hl] at ho ⊢
        rw [hd, hd, if_neg (by simp), if_neg (by simp)] at ho ⊢
        unfold NetS.put at ho ⊢
        by_cases hr : (s.way.length : Int) = s.room
        · rw [if_pos hr]; exact .inr ⟨by simp, rfl⟩
        · rw [if_neg hr] at ho ⊢
          refine .inl ⟨rfl, ho, h.parties, h.downs, h.lost, ?_, ?_⟩
          · intro e he
            rcases List.mem_append.1 he with he | he
            · exact h.to4 e he
            · rw [List.mem_singleton.1 he]; exact ht
          · show s.sent + 1 = _; rw [h.sum]; omega
  · rw [if_neg hp]; exact .inr ⟨by simp, rfl⟩

theorem Keep.take {s : NetS} {n : Nat} (h : Keep s n) (k : Int) : Keep (s.take k).1 n := by
  have ho := NetS.take_ok h.ok k
  unfold NetS.take at ho ⊢
  split at ho
  · exact h
  · exact ⟨ho, h.parties, h.downs, h.lost, fun e he => h.to4 e (List.filter_sublist.subset he), h.sum⟩

theorem Keep.cut {s : NetS} {n : Nat} (h : Keep s n) (k : Seat) (on : Bool) : Keep (s.cutting k on).1 n := by
  have ho := NetS.cutting_ok h.ok k on
  unfold NetS.cutting at ho ⊢
  by_cases hp : (s.party k.1 && s.party k.2) = true
  · rw [if_pos hp] at ho ⊢
    cases on with
    | true => exact ⟨ho, h.parties, h.downs, h.lost, h.to4, h.sum⟩
    | false => exact ⟨ho, h.parties, h.downs, h.lost, h.to4, h.sum⟩
  · rw [if_neg hp]; exact h

def waits (s : NetS) (k : Int) : Int := (s.waiting k).length
theorem four_wait : ∀ (l : Way), (∀ e ∈ l, 1 ≤ Msg.to e.2.1 ∧ Msg.to e.2.1 ≤ 4) →
    (l.filter (fun e => decide (Msg.to e.2.1 = 1))).length + (l.filter (fun e => decide (Msg.to e.2.1 = 2))).length + (l.filter (fun e => decide (Msg.to e.2.1 = 3))).length + (l.filter (fun e => decide (Msg.to e.2.1 = 4))).length = l.length := by
  intro l
  induction l with
  | nil => intro _; rfl
  | cons e l ih =>
    intro h
    have h1 := h e (.head _)
    have h2 := ih (fun e he => h e (.tail _ he))
    have : Msg.to e.2.1 = 1 ∨ Msg.to e.2.1 = 2 ∨ Msg.to e.2.1 = 3 ∨ Msg.to e.2.1 = 4 := by omega
    simp only [List.filter_cons, List.length_cons]
    rcases this with h3 | h3 | h3 | h3 <;> simp [h3] <;> omega

theorem Keep.waits {s : NetS} {n : Nat} (h : Keep s n) : waits s 1 + waits s 2 + waits s 3 + waits s 4 = s.way.length := by
  have := four_wait s.way h.to4
  unfold Go.Proofs.Ytbjgjagbepopfaa.waits NetS.waiting
  simp only [List.length_map]
  omega

/-- So much waits for the parties below k. -/
def below (s : NetS) (k : Nat) : Int := if k = 1 then 0 else if k = 2 then waits s 1 else if k = 3 then waits s 1 + waits s 2 else if k = 4 then waits s 1 + waits s 2 + waits s 3 else waits s 1 + waits s 2 + waits s 3 + waits s 4
theorem below_step (s : NetS) (k : Nat) (h : 1 ≤ k ∧ k ≤ 4) : below s (k + 1) = below s k + waits s k := by
  have : k = 1 ∨ k = 2 ∨ k = 3 ∨ k = 4 := by omega
  rcases this with rfl | rfl | rfl | rfl <;> simp [below]
theorem below_in (s : NetS) (k : Nat) (h : 1 ≤ k ∧ k ≤ 5) : 0 ≤ below s k ∧ below s k ≤ below s 5 := by
  have e1 : 0 ≤ waits s 1 := Int.natCast_nonneg _
  have e2 : 0 ≤ waits s 2 := Int.natCast_nonneg _
  have e3 : 0 ≤ waits s 3 := Int.natCast_nonneg _
  have e4 : 0 ≤ waits s 4 := Int.natCast_nonneg _
  have : k = 1 ∨ k = 2 ∨ k = 3 ∨ k = 4 ∨ k = 5 := by omega
  rcases this with rfl | rfl | rfl | rfl | rfl <;> simp [below] <;> omega
theorem Keep.below5 {s : NetS} {n : Nat} (h : Keep s n) : s.sent = s.taken + below s 5 := by
  have h1 := h.ok.sum
  have h2 := h.waits
  have h3 := h.lost
  simp [below]
  omega
end Go.Proofs.Ytbjgjagbepopfaa
