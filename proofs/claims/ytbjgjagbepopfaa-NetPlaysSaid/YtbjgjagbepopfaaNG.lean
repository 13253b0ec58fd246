/-
  A net, in plain words: what Down does to it. No statement of a claim stands here.
-/
import Derived.Test.YtbjgjagbepopfaaNF
import Derived.Test.YtbjgjagbepopfaaN9
set_option linter.unusedSimpArgs false
namespace Go.Proofs.Ytbjgjagbepopfaa
open Go Go.RowKit Go.ChangeMaps

section
variable {α β : Type} [DecidableEq α]

/-- A map's list with an element at a key, and the map's clock. -/
def putL (l : List (α × β × Nat)) (k : α) (v : β) (c : Nat) : List (α × β × Nat) :=
  match look l k with
  | some _ => putOld l k v
  | none => l ++ [(k, v, c)]
def putC (l : List (α × β × Nat)) (k : α) (c : Nat) : Nat :=
  match look l k with
  | some _ => c
  | none => c + 1

theorem keys_old (l : List (α × β × Nat)) (k : α) (v : β) : (putOld l k v).map (·.1) = l.map (·.1) := by
  unfold putOld
  rw [List.map_map]
  refine List.map_congr_left fun e _ => ?_
  simp only [Function.comp]
  split
  · rename_i h; exact h.symm
  · rfl

theorem look_old (l : List (α × β × Nat)) (k k' : α) (v : β) : look (putOld l k v) k' = if k' = k then (look l k).map (fun _ => v) else look l k' := by
  induction l with
  | nil => simp [putOld, look_nil]
  | cons e l ih =>
    have : putOld (e :: l) k v = (if e.1 = k then (k, v, e.2.2) else e) :: putOld l k v := rfl
    rw [this, look_cons, look_cons, look_cons]
    by_cases h1 : e.1 = k <;> by_cases h2 : k' = k <;> simp_all
    rw [if_neg (fun hh => h2 hh.symm), if_neg (fun hh => h2 hh.symm)]

theorem look_putL (l : List (α × β × Nat)) (k k' : α) (v : β) (c : Nat) : look (putL l k v c) k' = if k' = k then some v else look l k' := by
  unfold putL
  cases h : look l k with
  | some x => dsimp only; rw [look_old, h]; try rfl
  | none =>
    dsimp only
    rw [look_append]
    by_cases hk : k' = k
    · subst hk; rw [h]; try simp
    · rw [if_neg hk]
      cases look l k' with
      | some _ => rfl
      | none => dsimp only; rw [if_neg (fun e => hk e.symm)]

theorem nodup_putL {l : List (α × β × Nat)} (hn : (l.map (·.1)).Nodup) (k : α) (v : β) (c : Nat) : ((putL l k v c).map (·.1)).Nodup := by
  unfold putL
  cases h : look l k with
  | some x => dsimp only; rw [keys_old]; exact hn
  | none =>
    dsimp only
    simp only [List.map_append, List.map_cons, List.map_nil]
    rw [List.nodup_append]
    refine ⟨hn, by simp, ?_⟩
    intro a ha b hb
    obtain ⟨e, he, rfl⟩ := List.mem_map.1 ha
    simp at hb
    subst hb
    exact look_none.1 h e he

theorem wpList_put_any {P : Program} {f : α → Value} {g : β → Value} {kt : TypeId} {ops : Array Oper} {rest : List Oper} {o : Oper} {a : Act} {w : World} {Q : Exit → Act → World → Prop} (K : KeyT P kt α f) (hg : o.guard = none) (m x v : Operand) (t et : TypeId) (hop : o.op = Op.mapUpdate t m x v) (ht : P.underlying t = some (.map kt et)) (b c : Nat) (l : List (α × β × Nat)) (k : α) (y : β)
    (hm : a.eval m = .map (some b)) (hx : a.eval x = f k) (hv : a.eval v = g y) (hb : w.heap[b]? = some (mapObj f g l c)) (hn : (l.map (·.1)).Nodup)
    (h : ∀ w', w'.heap[b]? = some (mapObj f g (putL l k y c) (putC l k c)) → Mod [b] w w' → w'.heap.size = w.heap.size → wpList P ops Q rest (a.put o.dst undef) w') :
    wpList P ops Q (o :: rest) a w := by
  cases hk : look l k with
  | some y0 =>
    refine wpList_put_old K hg m x v t et hop ht b c l k y hm hx hv hb hn hk ?_
    rw [show putL l k y c = putOld l k y from by unfold putL; rw [hk], show putC l k c = c from by unfold putC; rw [hk]] at h
    exact h
  | none =>
    refine wpList_put_new K hg m x v t et hop ht b c l k y hm hx hv hb hk ?_
    rw [show putL l k y c = l ++ [(k, y, c)] from by unfold putL; rw [hk], show putC l k c = c + 1 from by unfold putC; rw [hk]] at h
    exact h
end

theorem uniq_key {α γ : Type} {l : List (α × γ)} (hn : (l.map (·.1)).Nodup) {e e' : α × γ} (h : e ∈ l) (h' : e' ∈ l) (hk : e.1 = e'.1) : e = e' := by
  induction l with
  | nil => cases h
  | cons x l ih =>
    simp only [List.map_cons, List.nodup_cons] at hn
    rcases List.mem_cons.1 h with h1 | h1 <;> rcases List.mem_cons.1 h' with h2 | h2
    · rw [h1, h2]
    · subst h1; exact absurd (List.mem_map.2 ⟨e', h2, hk.symm⟩) hn.1
    · subst h2; exact absurd (List.mem_map.2 ⟨e, h1, hk⟩) hn.1
    · exact ih hn.2 h1 h2
theorem split_len {γ : Type} (l : List γ) (p : γ → Bool) : (l.filter p).length + (l.filter (fun e => !p e)).length = l.length := by
  induction l with
  | nil => rfl
  | cons x l ih => cases h : p x <;> simp [List.filter_cons, h] <;> omega

namespace NetS
/-- A party is down, or up. -/
def marking (s : NetS) (k : Int) (on : Bool) : NetS := { s with downs := putL s.downs k on s.cd, cd := putC s.downs k s.cd }
/-- Behind the loss of the first n of what waits. -/
def losing (s : NetS) (L : List Int) (n : Nat) : NetS := { s with way := s.way.filter (fun e => decide (e.1 ∉ L.take n)), lost := s.lost + n }
/-- Down. -/
def downing (s : NetS) (k : Int) (on : Bool) : NetS × Int :=
  if s.party k then
    if on then ((s.marking k true).losing (s.waiting k) (s.waiting k).length, 0) else (s.marking k false, 0)
  else (s, 2)

theorem marking_ok {s : NetS} (h : s.Ok) (k : Int) (on : Bool) : (s.marking k on).Ok :=
  ⟨h.parties, h.room, h.rising, h.upto, h.born, h.lt, h.fits, h.cuts, nodup_putL h.downs k on s.cd, h.last, h.taken, h.lost, h.sum⟩

theorem losing_way (s : NetS) (k : Int) (hn : (s.way.map (·.1)).Nodup) : s.way.filter (fun e => decide (e.1 ∉ (s.waiting k).take (s.waiting k).length)) = s.way.filter (fun e => decide (e.2.1.to ≠ k)) := by
  rw [List.take_length]
  refine List.filter_congr fun e he => ?_
  rw [decide_eq_decide]
  refine not_congr ⟨fun h => ?_, fun h => ?_⟩
  · unfold waiting at h
    obtain ⟨e', h1, h3⟩ := List.mem_map.1 h
    obtain ⟨h1, h2⟩ := List.mem_filter.1 h1
    rw [← uniq_key hn h1 he h3]
    simpa using h2
  · unfold waiting
    exact List.mem_map.2 ⟨e, List.mem_filter.2 ⟨he, by simpa using h⟩, rfl⟩

theorem losing_step (s : NetS) (L : List Int) (n : Nat) (k : Int) (hk : L[n]? = some k) : (s.losing L n).way.filter (fun e => decide (e.1 ≠ k)) = (s.losing L (n + 1)).way := by
  unfold losing
  dsimp only
  rw [List.filter_filter]
  refine List.filter_congr fun e _ => ?_
  rw [List.take_add_one, hk]
  simp only [Option.toList_some, List.mem_append, List.mem_singleton, not_or, Bool.decide_and]
  rw [Bool.and_comm]
theorem losing_zero (s : NetS) (L : List Int) : s.losing L 0 = s := by
  unfold losing
  have : s.way.filter (fun e => decide (e.1 ∉ L.take 0)) = s.way := List.filter_eq_self.2 (fun e _ => by simp)
  rw [this]
  simp
theorem downing_ok {s : NetS} (h : s.Ok) (k : Int) (on : Bool) : (s.downing k on).1.Ok := by
  unfold downing
  split
  · split
    · have h1 := marking_ok h k true
      have hsub : ((s.marking k true).losing (s.waiting k) (s.waiting k).length).way.Sublist s.way := List.filter_sublist
      have hlen : ((s.marking k true).losing (s.waiting k) (s.waiting k).length).way.length + (s.waiting k).length = s.way.length := by
        have e1 : ((s.marking k true).losing (s.waiting k) (s.waiting k).length).way = s.way.filter (fun e => decide (e.2.1.to ≠ k)) := losing_way s k h.nodup
        have e2 := split_len s.way (fun e => decide (e.2.1.to = k))
        rw [e1]
        unfold waiting
        rw [List.length_map]
        simp only [ne_eq, decide_not]
        omega
      refine ⟨h.parties, h.room, h.rising.sublist (hsub.map _), fun e he => h.upto e (hsub.subset he), h.born.sublist (hsub.map _), fun e he => h.lt e (hsub.subset he), ?_, h.cuts, h1.downs, h.last, h.taken, ?_, ?_⟩
      · have := h.fits; show ((((s.marking k true).losing (s.waiting k) (s.waiting k).length).way.length : Nat) : Int) ≤ s.room; omega
      · have := h.lost; show 0 ≤ s.lost + ((s.waiting k).length : Nat); omega
      · have := h.sum; show s.sent = s.taken + (s.lost + ((s.waiting k).length : Nat)) + ((((s.marking k true).losing (s.waiting k) (s.waiting k).length).way.length : Nat) : Int); omega
    · exact marking_ok h k false
  · exact h
end NetS
end Go.Proofs.Ytbjgjagbepopfaa
