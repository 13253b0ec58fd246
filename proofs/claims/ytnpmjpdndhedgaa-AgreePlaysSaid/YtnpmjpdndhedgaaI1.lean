/-
  The plain side of agreement: counting senders (quorums). No program is in sight here; no statement of a claim stands here.
-/
import Derived.Test.YtnpmjpdndhedgaaI0
set_option linter.unusedSimpArgs false
namespace Go.Proofs.Ytnpmjpdndhedgaa
open Go

theorem filter_ne_len (l : List Int) (x : Int) (h : l.Nodup) : l.length ≤ (l.filter (· != x)).length + (if x ∈ l then 1 else 0) := by
  induction l with
  | nil => simp
  | cons a l ih =>
    simp only [List.nodup_cons] at h
    have := ih h.2
    by_cases hax : a = x
    · subst hax
      have hn : (if a ∈ l then 1 else 0) = 0 := if_neg h.1
      rw [hn] at this
      simp only [List.filter_cons, bne_self_eq_false, Bool.false_eq_true, if_false, List.mem_cons, true_or, if_true, List.length_cons]
      omega
    · have e : (a != x) = true := by simpa using hax
      have e2 : (x ∈ a :: l) = (x ∈ l) := by simp [Ne.symm hax]
      simp only [List.filter_cons, e, if_true, e2, List.length_cons]
      omega

theorem len_le : ∀ (n : Nat) (l : List Int), l.Nodup → (∀ x ∈ l, 1 ≤ x ∧ x ≤ n) → l.length ≤ n
  | 0, l, _, h => by
    cases l with
    | nil => simp
    | cons a l => have := h a (by simp); omega
  | n + 1, l, hd, h => by
    have h1 := filter_ne_len l ((n + 1 : Nat) : Int) hd
    have h2 := len_le n (l.filter (· != ((n + 1 : Nat) : Int))) (hd.sublist List.filter_sublist) (fun x hx => by
      simp only [List.mem_filter, bne_iff_ne] at hx
      have := h x hx.1
      omega)
    split at h1 <;> omega

/-- Two lists with nobody in common. -/
theorem len_two : ∀ (k : Nat) (A B : List Int), A.Nodup → B.Nodup → (∀ x ∈ A, 1 ≤ x ∧ x ≤ k) → (∀ x ∈ B, 1 ≤ x ∧ x ≤ k) → (∀ x : Int, x ∈ A → x ∉ B) → A.length + B.length ≤ k
  | 0, A, B, hA, hB, h1, h2, _ => by
    have := len_le 0 A hA h1
    have := len_le 0 B hB h2
    omega
  | k + 1, A, B, hA, hB, h1, h2, h3 => by
    have a1 := filter_ne_len A ((k + 1 : Nat) : Int) hA
    have a2 := filter_ne_len B ((k + 1 : Nat) : Int) hB
    have ih := len_two k (A.filter (· != ((k + 1 : Nat) : Int))) (B.filter (· != ((k + 1 : Nat) : Int))) (hA.sublist List.filter_sublist) (hB.sublist List.filter_sublist)
      (fun x hx => by simp only [List.mem_filter, bne_iff_ne] at hx; have := h1 x hx.1; omega)
      (fun x hx => by simp only [List.mem_filter, bne_iff_ne] at hx; have := h2 x hx.1; omega)
      (fun x ha hb => by simp only [List.mem_filter] at ha hb; exact h3 x ha.1 hb.1)
    by_cases hin : ((k + 1 : Nat) : Int) ∈ A
    · have hnot := h3 _ hin
      rw [if_pos hin] at a1
      rw [if_neg hnot] at a2
      omega
    · rw [if_neg hin] at a1
      split at a2 <;> omega
theorem meet (g : Nat) (A B : List Int) (hA : A.Nodup) (hB : B.Nodup) (h1 : ∀ x ∈ A, 1 ≤ x ∧ x ≤ g) (h2 : ∀ x ∈ B, 1 ≤ x ∧ x ≤ g) (hl : g < A.length + B.length) : ∃ x, x ∈ A ∧ x ∈ B := by
  refine Classical.byContradiction fun hn => ?_
  have := len_two g A B hA hB h1 h2 (fun x ha hb => hn ⟨x, ha, hb⟩)
  omega

theorem filter_parts {α : Type} (l : List α) (p : α → Bool) : l.length = (l.filter p).length + (l.filter fun x => !p x).length := by
  induction l with
  | nil => rfl
  | cons a l ih =>
    cases h : p a <;> simp [h, ih] <;> omega

/-- Who said a value. -/
def who (l : Votes) (v : ByteArray) : List Int := (l.filter fun e => decide (e.2.1 = v)).map (·.1)
theorem who_len (l : Votes) (v : ByteArray) : (who l v).length = cnt l v := by simp [who, cnt, List.countP_eq_length_filter]
theorem who_mem {l : Votes} {v : ByteArray} {k : Int} : k ∈ who l v ↔ ∃ e ∈ l, e.1 = k ∧ e.2.1 = v := by
  simp only [who, List.mem_map, List.mem_filter, decide_eq_true_eq]
  exact ⟨fun ⟨e, ⟨h1, h2⟩, h3⟩ => ⟨e, h1, h3, h2⟩, fun ⟨e, h1, h3, h2⟩ => ⟨e, ⟨h1, h2⟩, h3⟩⟩
theorem who_nodup {l : Votes} (h : VOk l) (v : ByteArray) : (who l v).Nodup := h.keys.sublist (List.Sublist.map _ List.filter_sublist)

/-- At least q of those that are not corrupt said a value. -/
def Many (g q : Nat) (H : List Msg) (k r : Int) (v : ByteArray) : Prop := ∃ S : List Int, S.Nodup ∧ (∀ x ∈ S, (1 ≤ x ∧ x ≤ (g : Int)) ∧ (⟨k, x, r, v⟩ : Msg) ∈ H) ∧ q ≤ S.length
theorem Many.mono {g q : Nat} {H H' : List Msg} {k r : Int} {v : ByteArray} (h : Many g q H k r v) (hs : ∀ m ∈ H, m ∈ H') : Many g q H' k r v := by
  obtain ⟨S, h1, h2, h3⟩ := h
  exact ⟨S, h1, fun x hx => ⟨(h2 x hx).1, hs _ (h2 x hx).2⟩, h3⟩
theorem Many.meet {g q : Nat} {H H' : List Msg} {k r k' r' : Int} {v v' : ByteArray} (hg : g < 2 * q) (h : Many g q H k r v) (h' : Many g q H' k' r' v') : ∃ x, (⟨k, x, r, v⟩ : Msg) ∈ H ∧ (⟨k', x, r', v'⟩ : Msg) ∈ H' := by
  obtain ⟨S, h1, h2, h3⟩ := h
  obtain ⟨S', h1', h2', h3'⟩ := h'
  obtain ⟨x, hx, hx'⟩ := Go.Proofs.Ytnpmjpdndhedgaa.meet g S S' h1 h1' (fun x hx => (h2 x hx).1) (fun x hx => (h2' x hx).1) (by omega)
  exact ⟨x, (h2 x hx).2, (h2' x hx').2⟩
theorem Many.one {g q : Nat} {H : List Msg} {k r : Int} {v : ByteArray} (hq : 0 < q) (h : Many g q H k r v) : ∃ x, (⟨k, x, r, v⟩ : Msg) ∈ H := by
  obtain ⟨S, h1, h2, h3⟩ := h
  cases S with
  | nil => simp at h3; omega
  | cons x S => exact ⟨x, (h2 x (by simp)).2⟩
theorem many_of_cnt {n g q c : Nat} {l : Votes} {H : List Msg} {k r : Int} {v : ByteArray} (h : VOk l) (hf : ∀ e ∈ l, 1 ≤ e.1 ∧ e.1 ≤ (n : Int)) (hH : ∀ e ∈ l, e.1 ≤ (g : Int) → (⟨k, e.1, r, e.2.1⟩ : Msg) ∈ H) (hg : g ≤ n) (hc : c ≤ cnt l v) (hq : q + (n - g) ≤ c) : Many g q H k r v := by
  refine ⟨(who l v).filter fun x => decide (x ≤ (g : Int)), (who_nodup h v).sublist List.filter_sublist, fun x hx => ?_, ?_⟩
  · simp only [List.mem_filter, decide_eq_true_eq] at hx
    obtain ⟨e, he, rfl, rfl⟩ := who_mem.1 hx.1
    exact ⟨⟨(hf e he).1, hx.2⟩, hH e he hx.2⟩
  · have h3 := filter_parts (who l v) (fun x => decide (x ≤ (g : Int)))
    have h4 : ((who l v).filter fun x => !decide (x ≤ (g : Int))).length ≤ n - g := by
      have h5 := len_le (n - g) (((who l v).filter fun x => !decide (x ≤ (g : Int))).map fun x => x - g) ?_ ?_
      · simpa using h5
      · have hnd := (who_nodup h v).sublist (List.filter_sublist (p := fun x => !decide (x ≤ (g : Int))))
        exact List.Pairwise.map _ (fun a b hab => by omega) hnd
      · intro x hx
        simp only [List.mem_map, List.mem_filter, Bool.not_eq_true', decide_eq_false_iff_not] at hx
        obtain ⟨y, ⟨hy, hyg⟩, rfl⟩ := hx
        obtain ⟨e, he, rfl, _⟩ := who_mem.1 hy
        have := hf e he
        omega
    rw [who_len] at h3
    omega

theorem nodup_key {α β : Type} {f : α → β} {l : List α} (h : (l.map f).Nodup) {a b : α} (ha : a ∈ l) (hb : b ∈ l) (e : f a = f b) : a = b := by
  induction l with
  | nil => cases ha
  | cons x l ih =>
    simp only [List.map_cons, List.nodup_cons, List.mem_map, not_exists, not_and] at h
    cases ha with
    | head =>
      cases hb with
      | head => rfl
      | tail _ hb => exact absurd e.symm (h.1 _ hb)
    | tail _ ha =>
      cases hb with
      | head => exact absurd e (h.1 _ ha)
      | tail _ hb => exact ih h.2 ha hb

theorem addL_mem {l : Votes} {k : Int} {v : ByteArray} {e : Int × ByteArray × Nat} (h : e ∈ addL l k v) : e ∈ l ∨ (e.1 = k ∧ e.2.1 = v) := by
  unfold addL at h
  split at h
  · exact .inl h
  · simp only [List.mem_append, List.mem_singleton] at h
    rcases h with h | rfl
    · exact .inl h
    · exact .inr ⟨rfl, rfl⟩
theorem addL_sub {l : Votes} (k : Int) (v : ByteArray) {e : Int × ByteArray × Nat} (h : e ∈ l) : e ∈ addL l k v := by
  unfold addL
  split
  · exact h
  · simp [h]
theorem look_isSome {l : Votes} {k : Int} : (look l k).isSome = true ↔ ∃ e ∈ l, e.1 = k := by
  cases h : look l k with
  | none => simp only [Option.isSome_none, Bool.false_eq_true, false_iff, not_exists, not_and]; exact fun e he => look_none.1 h e he
  | some x =>
    simp only [Option.isSome_some, true_iff]
    exact Classical.byContradiction fun hn => by
      have : look l k = none := look_none.2 (fun e he hk => hn ⟨e, he, hk⟩)
      rw [h] at this; cases this
end Go.Proofs.Ytnpmjpdndhedgaa
