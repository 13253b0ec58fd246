/-
  The plain side of reliable broadcast: counting senders (quorums). No program is in sight here; no statement of a claim stands here.
-/
import Derived.Test.YtcgfjalglnlofaaInv1
set_option linter.unusedSimpArgs false
namespace Go.Proofs.Ytcgfjalglnlofaa
open Go

theorem filter_ne_len (l : List Int) (x : Int) (h : l.Nodup) : l.length ≤ (l.filter (· != x)).length + (if x ∈ l then 1 else 0) := by
  induction l with
  | nil => simp
  | cons a l ih =>
    simp only [List.nodup_cons] at h
    have := ih h.2
    by_cases hax : a = x
    · subst hax
      have hn : (if a ∈ l then 1 else 0) = 0 := if_neg h.1
      rw [hn] at this
      simp only [List.filter_cons, bne_self_eq_false, Bool.false_eq_true, if_false, List.mem_cons, true_or, if_true, List.length_cons]
      omega
    · have e : (a != x) = true := by simpa using hax
      have e2 : (x ∈ a :: l) = (x ∈ l) := by simp [Ne.symm hax]
      simp only [List.filter_cons, e, if_true, e2, List.length_cons]
      omega

theorem len_le : ∀ (n : Nat) (l : List Int), l.Nodup → (∀ x ∈ l, 1 ≤ x ∧ x ≤ n) → l.length ≤ n
  | 0, l, _, h => by
    cases l with
    | nil => simp
    | cons a l => have := h a (by simp); omega
  | n + 1, l, hd, h => by
    have h1 := filter_ne_len l ((n + 1 : Nat) : Int) hd
    have h2 := len_le n (l.filter (· != ((n + 1 : Nat) : Int))) (hd.sublist List.filter_sublist) (fun x hx => by
      simp only [List.mem_filter, bne_iff_ne] at hx
      have := h x hx.1
      omega)
    split at h1 <;> omega

/-- Two lists with few in common. -/
theorem len_two (b : Nat) : ∀ (k : Nat) (A B : List Int), A.Nodup → B.Nodup → (∀ x ∈ A, 1 ≤ x ∧ x ≤ b + k) → (∀ x ∈ B, 1 ≤ x ∧ x ≤ b + k) → (∀ x : Int, (b : Int) < x → x ∈ A → x ∉ B) → A.length + B.length ≤ b + k + b
  | 0, A, B, hA, hB, h1, h2, _ => by
    have := len_le b A hA (fun x hx => by have := h1 x hx; omega)
    have := len_le b B hB (fun x hx => by have := h2 x hx; omega)
    omega
  | k + 1, A, B, hA, hB, h1, h2, h3 => by
    have a1 := filter_ne_len A ((b + (k + 1) : Nat) : Int) hA
    have a2 := filter_ne_len B ((b + (k + 1) : Nat) : Int) hB
    have ih := len_two b k (A.filter (· != ((b + (k + 1) : Nat) : Int))) (B.filter (· != ((b + (k + 1) : Nat) : Int))) (hA.sublist List.filter_sublist) (hB.sublist List.filter_sublist)
      (fun x hx => by simp only [List.mem_filter, bne_iff_ne] at hx; have := h1 x hx.1; omega)
      (fun x hx => by simp only [List.mem_filter, bne_iff_ne] at hx; have := h2 x hx.1; omega)
      (fun x hx ha hb => by simp only [List.mem_filter] at ha hb; exact h3 x hx ha.1 hb.1)
    by_cases hin : ((b + (k + 1) : Nat) : Int) ∈ A
    · have hnot := h3 _ (by omega) hin
      rw [if_pos hin] at a1
      rw [if_neg hnot] at a2
      omega
    · rw [if_neg hin] at a1
      split at a2 <;> omega

theorem sub_len : ∀ (A B : List Int), A.Nodup → (∀ x ∈ A, x ∈ B) → A.length ≤ B.length
  | [], _, _, _ => by simp
  | a :: A, B, hd, h => by
    simp only [List.nodup_cons] at hd
    have hm := h a (by simp)
    have := sub_len A (B.erase a) hd.2 (fun x hx => (List.mem_erase_of_ne (by rintro rfl; exact hd.1 hx)).2 (h x (by simp [hx])))
    rw [List.length_erase_of_mem hm] at this
    have : 0 < B.length := List.length_pos_of_mem hm
    simp only [List.length_cons]
    omega

theorem filter_parts {α : Type} (l : List α) (p : α → Bool) : l.length = (l.filter p).length + (l.filter fun x => !p x).length := by
  induction l with
  | nil => rfl
  | cons a l ih =>
    cases h : p a <;> simp [h, ih] <;> omega

theorem range_nodup (b : Nat) : ∀ k, ((List.range k).map fun i => ((b + i : Nat) : Int) + 1).Nodup
  | 0 => by simp
  | k + 1 => by
    rw [List.range_succ, List.map_append, List.nodup_append]
    refine ⟨range_nodup b k, by simp, fun x hx y hy => ?_⟩
    simp only [List.mem_map, List.mem_range] at hx
    obtain ⟨i, hi, rfl⟩ := hx
    simp only [List.map_cons, List.map_nil, List.mem_singleton] at hy
    omega

/-- Who said a value. -/
def who (l : Votes) (v : ByteArray) : List Int := (l.filter fun e => decide (e.2.1 = v)).map (·.1)
theorem who_len (l : Votes) (v : ByteArray) : (who l v).length = cnt l v := by simp [who, cnt, List.countP_eq_length_filter]
theorem who_mem {l : Votes} {v : ByteArray} {k : Int} : k ∈ who l v ↔ ∃ e ∈ l, e.1 = k ∧ e.2.1 = v := by
  simp only [who, List.mem_map, List.mem_filter, decide_eq_true_eq]
  exact ⟨fun ⟨e, ⟨h1, h2⟩, h3⟩ => ⟨e, h1, h3, h2⟩, fun ⟨e, h1, h3, h2⟩ => ⟨e, ⟨h1, h2⟩, h3⟩⟩
theorem who_nodup {l : Votes} (h : VOk l) (v : ByteArray) : (who l v).Nodup := h.keys.sublist (List.Sublist.map _ List.filter_sublist)

/-- Senders are 1 to n. -/
def KeysOk (n : Nat) (l : Votes) : Prop := ∀ e ∈ l, 1 ≤ e.1 ∧ e.1 ≤ n
theorem who_keys {n : Nat} {l : Votes} (h : KeysOk n l) (v : ByteArray) : ∀ x ∈ who l v, 1 ≤ x ∧ x ≤ n := fun x hx => by
  obtain ⟨e, he, rfl, _⟩ := who_mem.1 hx
  exact h e he

theorem votes_len {n : Nat} {l : Votes} (h : VOk l) (hk : KeysOk n l) : l.length ≤ n := by
  have := len_le n (l.map (·.1)) h.keys (fun x hx => by obtain ⟨e, he, rfl⟩ := List.mem_map.1 hx; exact hk e he)
  simpa using this

/-- More than the corrupt ones said it: one that is not corrupt did. -/
theorem one_good {n b : Nat} {l : Votes} (h : VOk l) (hk : KeysOk n l) (v : ByteArray) (hc : b < cnt l v) : ∃ i : Nat, b ≤ i ∧ i < n ∧ ∃ e ∈ l, e.1 = (i : Int) + 1 ∧ e.2.1 = v := by
  have hx : ¬ ∀ x ∈ who l v, x ≤ b := fun ha => by
    have := len_le b (who l v) (who_nodup h v) (fun x hx => ⟨(who_keys hk v x hx).1, ha x hx⟩)
    rw [who_len] at this
    omega
  simp only [Classical.not_forall] at hx
  obtain ⟨x, hx, hb⟩ := hx
  have h1 := who_keys hk v x hx
  obtain ⟨e, he, he1, he2⟩ := who_mem.1 hx
  exact ⟨(x - 1).toNat, by omega, by omega, e, he, by omega, he2⟩

/-- Two that are many: one that is not corrupt is of both. -/
theorem two_good {n b : Nat} (hbn : b ≤ n) {l l' : Votes} (h : VOk l) (hk : KeysOk n l) (h' : VOk l') (hk' : KeysOk n l') (v v' : ByteArray) (hc : n + b < cnt l v + cnt l' v') :
    ∃ i : Nat, b ≤ i ∧ i < n ∧ (∃ e ∈ l, e.1 = (i : Int) + 1 ∧ e.2.1 = v) ∧ ∃ e ∈ l', e.1 = (i : Int) + 1 ∧ e.2.1 = v' := by
  have hx : ¬ ∀ x : Int, (b : Int) < x → x ∈ who l v → x ∉ who l' v' := fun ha => by
    have := len_two b (n - b) (who l v) (who l' v') (who_nodup h v) (who_nodup h' v') (fun x hx => by have := who_keys hk v x hx; omega) (fun x hx => by have := who_keys hk' v' x hx; omega) ha
    rw [who_len, who_len] at this
    omega
  simp only [Classical.not_forall, Classical.not_not] at hx
  obtain ⟨x, hb, hx, hx'⟩ := hx
  have h1 := who_keys hk v x hx
  obtain ⟨e, he, he1, he2⟩ := who_mem.1 hx
  obtain ⟨f, hf, hf1, hf2⟩ := who_mem.1 hx'
  exact ⟨(x - 1).toNat, by omega, by omega, ⟨e, he, by omega, he2⟩, f, hf, by omega, hf2⟩

/-- What those that are not corrupt said in one place, they said in another. -/
theorem good_moved {n b : Nat} {l l' : Votes} (h : VOk l) (hk : KeysOk n l) (v : ByteArray) (hm : ∀ i : Nat, b ≤ i → i < n → (∃ e ∈ l, e.1 = (i : Int) + 1 ∧ e.2.1 = v) → ∃ e ∈ l', e.1 = (i : Int) + 1 ∧ e.2.1 = v) : cnt l v ≤ cnt l' v + b := by
  have h1 : ((who l v).filter fun x => decide (x ≤ (b : Int))).length ≤ b := len_le b _ ((who_nodup h v).sublist List.filter_sublist) (fun x hx => by
    simp only [List.mem_filter, decide_eq_true_eq] at hx
    exact ⟨(who_keys hk v x hx.1).1, hx.2⟩)
  have h2 : ((who l v).filter fun x => !decide (x ≤ (b : Int))).length ≤ (who l' v).length := sub_len _ _ ((who_nodup h v).sublist List.filter_sublist) (fun x hx => by
    simp only [List.mem_filter, Bool.not_eq_true', decide_eq_false_iff_not] at hx
    have h3 := who_keys hk v x hx.1
    obtain ⟨e, he, he1, he2⟩ := who_mem.1 hx.1
    obtain ⟨f, hf, hf1, hf2⟩ := hm (x - 1).toNat (by omega) (by omega) ⟨e, he, by omega, he2⟩
    exact who_mem.2 ⟨f, hf, by omega, hf2⟩)
  have h3 := filter_parts (who l v) (fun x => decide (x ≤ (b : Int)))
  rw [who_len] at h2
  rw [who_len] at h3
  omega

/-- All that are not corrupt said it. -/
theorem all_good {n b : Nat} {l : Votes} (v : ByteArray) (hm : ∀ i : Nat, b ≤ i → i < n → ∃ e ∈ l, e.1 = (i : Int) + 1 ∧ e.2.1 = v) : n - b ≤ cnt l v := by
  have := sub_len ((List.range (n - b)).map fun i => ((b + i : Nat) : Int) + 1) (who l v) ?_ ?_
  · rw [who_len] at this; simpa using this
  · exact range_nodup b _
  · intro x hx
    simp only [List.mem_map, List.mem_range] at hx
    obtain ⟨i, hi, rfl⟩ := hx
    exact who_mem.2 (hm (b + i) (by omega) (by omega))

/-! ### one vote more -/
theorem look_isSome {l : Votes} {k : Int} : (look l k).isSome = true ↔ ∃ e ∈ l, e.1 = k := by
  cases h : look l k with
  | none => simp only [Option.isSome_none, Bool.false_eq_true, false_iff, not_exists, not_and]; exact fun e he => look_none.1 h e he
  | some x =>
    simp only [Option.isSome_some, true_iff]
    exact Classical.byContradiction fun hn => by
      have : look l k = none := look_none.2 (fun e he hk => hn ⟨e, he, hk⟩)
      rw [h] at this; cases this

theorem addL_mem {l : Votes} {k : Int} {v : ByteArray} {e : Int × ByteArray × Nat} (h : e ∈ addL l k v) : e ∈ l ∨ (e.1 = k ∧ e.2.1 = v) := by
  unfold addL at h
  split at h
  · exact .inl h
  · simp only [List.mem_append, List.mem_singleton] at h
    rcases h with h | rfl
    · exact .inl h
    · exact .inr ⟨rfl, rfl⟩
theorem addL_sub {l : Votes} (k : Int) (v : ByteArray) {e : Int × ByteArray × Nat} (h : e ∈ l) : e ∈ addL l k v := by
  unfold addL
  split
  · exact h
  · simp [h]
theorem addL_has (l : Votes) (k : Int) (v : ByteArray) : ∃ e ∈ addL l k v, e.1 = k := by
  unfold addL
  split
  · rename_i h; exact look_isSome.1 h
  · exact ⟨(k, v, l.length), by simp, rfl⟩
theorem addL_cnt (l : Votes) (k : Int) (v u : ByteArray) : cnt (addL l k v) u = cnt l u ∨ (u = v ∧ cnt (addL l k v) u = addN l k v) := by
  unfold addL addN
  split
  · exact .inl rfl
  · by_cases hu : v = u
    · exact .inr ⟨hu.symm, by rw [hu]⟩
    · left
      simp [cnt, List.countP_append, hu]
theorem addL_keys {n : Nat} {l : Votes} (h : KeysOk n l) (k : Int) (v : ByteArray) (hk : 1 ≤ k ∧ k ≤ n) : KeysOk n (addL l k v) := fun e he => by
  rcases addL_mem he with h1 | ⟨h1, _⟩
  · exact h e h1
  · rw [h1]; exact hk
end Go.Proofs.Ytcgfjalglnlofaa
