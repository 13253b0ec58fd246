/-
  The plain side of reliable broadcast: the invariant at the start. No program is in sight here; no statement of a claim stands here.
-/
import Derived.Test.YtcgfjalglnlofaaInv6
import Derived.Test.YtcgfjalglnlofaaCastB
set_option linter.unusedSimpArgs false
namespace Go.Proofs.Ytcgfjalglnlofaa
open Go

/-- The nodes as they are made, but that one may have begun. -/
def FreshAt (t : Nat) (d i : Nat) (s : NodeS) : Prop := ∃ b, s = { newNode (3 * (t : Int) + 1) (t : Int) ((i : Int) + 1) (d : Int) with began := b }

theorem nodeOk_fresh {L : LawS} {d i : Nat} {s : NodeS} (hn : L.n = 3 * L.t + 1) (h : FreshAt L.t d i s) (hi : i < L.n) (hs : L.sent = List.replicate (2 * (3 * L.t + 1) + 2) 0) : NodeOk L d i s := by
  obtain ⟨b, rfl⟩ := h
  refine ⟨by simp [newNode, hn], rfl, rfl, rfl, VOk.nil, VOk.nil, fun e he => (by cases he), fun e he => (by cases he), fun v hv => (by simp [newNode, cnt] at hv), fun v hv => (by simp [newNode, cnt] at hv), fun v hv => (by simp [newNode, cnt] at hv), fun h => (by cases h), fun h => (by cases h), ?_, ?_⟩
  · rw [hs, List.getElem?_replicate, if_pos (by omega)]; rfl
  · rw [hs, List.getElem?_replicate, if_pos (by omega)]; rfl

theorem pend_fresh {t d : Nat} : ∀ (l : List NodeS) (i : Nat), (∀ (j : Nat) (s : NodeS), l[j]? = some s → FreshAt t d (i + j) s) → (l.map pend).sum = 2 * l.length
  | [], _, _ => rfl
  | s :: l, i, h => by
    obtain ⟨b, rfl⟩ := h 0 s rfl
    have := pend_fresh l (i + 1) (fun j s hs => by have := h (j + 1) s hs; rwa [show i + (j + 1) = i + 1 + j by omega] at this)
    simp only [List.map_cons, List.sum_cons, this, List.length_cons]
    simp [pend, newNode]; omega

theorem mul_le {a b : Nat} (ha : a ≤ 7) (hb : b ≤ 14) : a * b ≤ 98 := Nat.le_trans (Nat.mul_le_mul ha hb) (by decide)

/-- Nothing was sent yet. -/
theorem inv_start {L : LawS} {d : Nat} (hn : L.n = 3 * L.t + 1) (ht : L.t ≤ 2) (hb : L.bad ≤ L.t) (hlen : L.nodes.length = L.n) (hto : L.to = []) (hw : L.wait = []) (hs : L.sent = List.replicate (2 * (3 * L.t + 1) + 2) 0)
    (hf : ∀ (i : Nat) (s : NodeS), L.nodes[i]? = some s → FreshAt L.t d i s) : Inv d none none L := by
  have hin : ∀ {i : Nat} {s : NodeS}, L.nodes[i]? = some s → i < L.n := fun h => by rw [← hlen]; exact (List.getElem?_eq_some_iff.1 h).1
  refine ⟨hn, ht, hb, hlen, by rw [hto, hw]; rfl, fun k hk => (by rw [hto] at hk; cases hk), fun v hv => (by cases hv), fun i s h => nodeOk_fresh hn (hf i s h) (hin h) hs, fun m hm => (by rw [hw] at hm; cases hm),
    fun i s h e he => ?_, fun i s h e he => ?_, fun v hv => (by cases hv), fun i s h hr => ?_, fun v hv => (by cases hv), fun h sh _ h2 he => ?_, fun h sh _ h2 he => ?_, ?_⟩
  · obtain ⟨b, rfl⟩ := hf i s h; cases he
  · obtain ⟨b, rfl⟩ := hf i s h; cases he
  · obtain ⟨b, rfl⟩ := hf i s h; cases hr
  · obtain ⟨b, rfl⟩ := hf h sh h2; cases he
  · obtain ⟨b, rfl⟩ := hf h sh h2; cases he
  · have := pend_fresh L.nodes 0 (fun j s hs => by rw [Nat.zero_add]; exact hf j s hs)
    have := mul_le (a := L.n - L.bad) (b := 2 * L.nodes.length) (by omega) (by omega)
    simp only [pot, hw, List.length_nil, Option.isSome_none, Bool.false_eq_true, if_false]
    have e := pend_fresh L.nodes 0 (fun j s hs => by rw [Nat.zero_add]; exact hf j s hs)
    rw [e]; omega

/-- The dealer, that is not corrupt, began. -/
theorem inv_began {L : LawS} {d : Nat} (v : ByteArray) (hv : v.size ≤ 4096) (hn : L.n = 3 * L.t + 1) (ht : L.t ≤ 2) (hb : L.bad ≤ L.t) (hlen : L.nodes.length = L.n) (hto : L.to = []) (hw : L.wait = []) (hs : L.sent = List.replicate (2 * (3 * L.t + 1) + 2) 0)
    (hf : ∀ (i : Nat) (s : NodeS), L.nodes[i]? = some s → FreshAt L.t d i s) (hd : L.bad < d) (hd' : d ≤ L.n) : Inv d (some v) none (allL L [⟨1, (d : Int), v⟩]) := by
  have I := inv_start hn ht hb hlen hto hw hs hf
  have e : allL L [⟨1, (d : Int), v⟩] = { L with to := allTo L, wait := List.replicate (L.n - L.bad) ⟨1, (d : Int), v⟩ } := by simp [allL, allS, hto, hw]
  rw [e]
  have hdl : L.nodes[d - 1]? = some (L.nodes[d - 1]'(by rw [hlen]; omega)) := List.getElem?_eq_getElem _
  refine ⟨hn, ht, hb, hlen, by simp [allTo], fun k hk => ?_, fun u hu => ⟨hd, hd'⟩, fun i s h => ?_, fun m hm => ?_, I.vE, I.vR, fun u hu i s h he => ?_, I.wit, fun u hu i s hi h => .inr (.inl ?_), fun h sh _ h2 he => ?_, fun h sh _ h2 he => ?_, ?_⟩
  · simp only [allTo, List.mem_map, List.mem_range] at hk
    obtain ⟨x, hx, rfl⟩ := hk
    dsimp only; omega
  · have := I.node i s h
    exact ⟨this.n, this.t, this.me, this.dealer, this.E, this.R, this.kE, this.kR, this.thrE, this.thrR, this.thrS, this.heard, this.si, this.sE, this.sR⟩
  · have := (List.mem_replicate.1 hm).2
    subst this
    exact ⟨d - 1, _, by dsimp only; omega, hdl, by dsimp only; omega, hv, .inl ⟨rfl, rfl, rfl⟩⟩
  · obtain ⟨b, rfl⟩ := hf i s h; cases he
  · cases hu
    have hin : i < L.n := by rw [← hlen]; exact (List.getElem?_eq_some_iff.1 h).1
    have := all_flight (to := []) (wait := []) (L := L) rfl (m := ⟨1, (d : Int), v⟩) (j := i + 1) (by dsimp only at hi; omega) (by omega)
    simpa using this
  · obtain ⟨b, rfl⟩ := hf h sh h2; cases he
  · obtain ⟨b, rfl⟩ := hf h sh h2; cases he
  · have e := pend_fresh L.nodes 0 (fun j s hs => by rw [Nat.zero_add]; exact hf j s hs)
    have := mul_le (a := L.n - L.bad) (b := 2 * L.nodes.length) (by omega) (by omega)
    simp only [pot, List.length_replicate, Option.isSome_none, Bool.false_eq_true, if_false]
    rw [e]; omega

theorem made_at {t bad d i : Nat} {s : NodeS} (h : (madeS t bad (d : Int) (3 * t + 1)).nodes[i]? = some s) : FreshAt t d i s := by
  have hi : i < 3 * t + 1 := by have := (List.getElem?_eq_some_iff.1 h).1; simpa [madeS] using this
  simp only [madeS] at h
  rw [List.getElem?_map, List.getElem?_range hi] at h
  simp only [Option.map_some, Option.some.injEq] at h
  subst h
  exact ⟨false, rfl⟩

theorem inv_made {t bad d : Nat} (ht : t ≤ 2) (hb : bad ≤ t) : Inv d none none (madeS t bad (d : Int) (3 * t + 1)) :=
  inv_start rfl ht hb (by simp [madeS]) rfl rfl rfl (fun i s h => made_at h)
end Go.Proofs.Ytcgfjalglnlofaa
