/-
  The statements' world, walked further: all of a start. No statement of a claim stands here; each contract names what it asks.
-/
import Derived.Test.YtcgfjalglnlofaaStart
set_option linter.unusedSimpArgs false
namespace Go.Proofs.Ytcgfjalglnlofaa
open Go Go.RowKit

theorem began_at {t bad d i k : Nat} {s s0 : NodeS} (hs0 : (madeS t bad (d : Int) (3 * t + 1)).nodes[k]? = some s0) (h : ((madeS t bad (d : Int) (3 * t + 1)).nodes.set k { s0 with began := true })[i]? = some s) : FreshAt t d i s := by
  by_cases hik : k = i
  · subst hik
    rw [List.getElem?_set_self (List.getElem?_eq_some_iff.1 hs0).1] at h
    cases h
    obtain ⟨b, rfl⟩ := made_at hs0
    exact ⟨true, rfl⟩
  · rw [List.getElem?_set_ne hik] at h
    exact made_at h

/-- The dealer (node k and 1) has begun. -/
def begunS (t bad : Nat) (d : Int) (k : Nat) (s0 : NodeS) : LawS := { madeS t bad d (3 * t + 1) with nodes := (madeS t bad d (3 * t + 1)).nodes.set k { s0 with began := true } }

theorem inv_begun {t bad d k : Nat} {s0 : NodeS} (ht : t ≤ 2) (hb : bad ≤ t) (hs0 : (madeS t bad (d : Int) (3 * t + 1)).nodes[k]? = some s0) (hd : bad < d) (hd' : d ≤ 3 * t + 1) (v : ByteArray) (hv : v.size ≤ 4096) :
    Inv d (some v) none (allL (begunS t bad (d : Int) k s0) [⟨1, (d : Int), v⟩]) :=
  inv_began v hv rfl ht hb (by simp [begunS, madeS]) rfl rfl rfl (fun i s h => began_at hs0 h) hd hd'

/-- A block that came later may change. -/
theorem LawAt.modNew {W0 W W' : World} {lw sb : Nat} {vn vt vw : Value} {bl : List Trip} {L0 L : LawS} {b : Nat} (h0 : LawAt W0 lw sb vn vt vw bl L0) (h : LawAt W lw sb vn vt vw bl L) (m : Mod [b] W W') (hb : W0.heap.size ≤ b) : LawAt W' lw sb vn vt vw bl L := by
  have hlt : ∀ {k : Nat}, k < W0.heap.size → k ∉ [b] := fun hk => by simp; omega
  have hrow : ∀ {v : Value} {e : TypeId} {size n : Nat} {xs : List Value}, W0.ownsRow 0 e size v n xs → ∀ k, v.ownBlock = some k → k ∉ [b] := fun hr k hk => by
    obtain ⟨c, hc⟩ := row_block hr hk
    exact hlt (lt_of_block hc)
  exact h.mod m (hlt (lt_of_block h0.cells)) (hlt (lt_of_block h0.sent)) (hrow h0.nodes) (hrow h0.to) (hrow h0.wait) (fun k hk => hlt (h0.trip_lt hk))

def BegunPost (W : World) (lw sb : Nat) (vn : Value) (bl : List Trip) (L : LawS) (W' : World) : Prop :=
  ∃ vt vw, LawAt W' lw sb vn vt vw bl L ∧ Mod [] W W' ∧ ∀ k ∈ lw :: sb :: (vt.ownBlock.toList ++ vw.ownBlock.toList ++ tripBlocks bl), W.heap.size ≤ k

theorem all_begun (W W8 : World) (lw sb mb : Nat) (vn : Value) (bl : List Trip) (t bad d k : Nat) (s0 : NodeS) (m : Msg) (hL : LawAt W8 lw sb vn (.slice none 0 0) (.slice none 0 0) bl (begunS t bad (d : Int) k s0)) (hB : W8.heap[mb]? = some (.cells m.cells.toArray 36 (0, 0)))
    (hk : m.kind ≤ 1) (ht : t ≤ 2) (hb : bad ≤ t) (hW : Mod [] W W8) (hnew : ∀ k ∈ lw :: sb :: tripBlocks bl, W.heap.size ≤ k) :
    Calls Try.prog 17 #[.pointer (some ⟨lw, 0, none⟩), .slice (some ⟨mb, 0, none⟩) 1 1] W8 fun e W' => e = .returned (.tuple #[]) ∧ BegunPost W lw sb vn bl (allL (begunS t bad (d : Int) k s0) [m]) W' := by
  refine (all_one_low W8 lw sb mb vn _ _ bl _ m hL hB (by intro h; cases h) hk ?_ ?_ ?_ ?_).mono ?_
  · show 3 * t + 1 ≤ 100; omega
  · show bad ≤ 3 * t + 1; omega
  · exact Nat.zero_le _
  · exact Nat.zero_le _
  rintro e W' ⟨rfl, vt, vw, h1, h2, h3, h4⟩
  have hsz := hW.size
  refine ⟨rfl, vt, vw, h1, hW.trans' h2 (fun x hx => .inr ?_), fun x hx => ?_⟩
  · simp only [Value.ownBlock, Option.toList_none, List.append_nil, List.mem_cons, List.not_mem_nil, or_false] at hx
    rcases hx with rfl | rfl
    · exact hnew _ (by simp)
    · exact hnew _ (by simp)
  · simp only [List.mem_cons, List.mem_append, Option.mem_toList] at hx
    rcases hx with rfl | rfl | (hx | hx) | hx
    · exact hnew _ (by simp)
    · exact hnew _ (by simp)
    · rcases h3 x hx with h | h
      · cases h
      · omega
    · rcases h4 x hx with h | h
      · cases h
      · omega
    · exact hnew _ (by simp [hx])

theorem start_begun (W : World) (lw sb : Nat) (vn : Value) (bl : List Trip) (t bad d k : Nat) (p : Trip) (v : ByteArray) (hk : k + 1 = d) (hd : d ≤ 3 * t + 1) (hv : v.size ≤ 4096) (hp : bl[k]? = some p)
    (h : LawAt W lw sb vn (.slice none 0 0) (.slice none 0 0) bl (madeS t bad (d : Int) (3 * t + 1))) :
    Calls Try.prog 16 #[.pointer (some ⟨p.1, 0, none⟩), .string v] W fun e W' => e = .returned (.tuple #[.agg #[.int .i64 1, .int .i64 (d : Int), .string v], .int .i64 0]) ∧
      LawAt W' lw sb vn (.slice none 0 0) (.slice none 0 0) bl (begunS t bad (d : Int) k (newNode (3 * (t : Int) + 1) (t : Int) (d : Int) (d : Int))) ∧ Mod [p.1] W W' := by
  have hs : (madeS t bad (d : Int) (3 * t + 1)).nodes[k]? = some (newNode (3 * (t : Int) + 1) (t : Int) (d : Int) (d : Int)) := by
    simp only [madeS, List.getElem?_map, List.getElem?_range (show k < 3 * t + 1 by omega), Option.map_some]
    rw [← hk]; rfl
  have hst : startS (newNode (3 * (t : Int) + 1) (t : Int) (d : Int) (d : Int)) v = ({ newNode (3 * (t : Int) + 1) (t : Int) (d : Int) (d : Int) with began := true }, ⟨1, (d : Int), v⟩, 0) := by
    unfold startS
    rw [if_neg (by simp [newNode]), if_neg (by omega), if_neg (by simp [newNode])]
    rfl
  have := start_law W lw sb vn _ _ bl _ h k p _ v hp hs (by simp only [newNode]; omega) (by omega)
  rw [hst] at this
  exact this

theorem start_same (W : World) (lw sb : Nat) (vn vt vw : Value) (bl : List Trip) (t bad d k : Nat) (p : Trip) (v : ByteArray) (hk : k + 1 = d) (hd : d ≤ 3 * t + 1) (hv : v.size ≤ 4096) (hp : bl[k]? = some p)
    (h : LawAt W lw sb vn vt vw bl (begunS t bad (d : Int) k (newNode (3 * (t : Int) + 1) (t : Int) (d : Int) (d : Int)))) :
    Calls Try.prog 16 #[.pointer (some ⟨p.1, 0, none⟩), .string v] W fun e W' => e = .returned (.tuple #[.agg #[.int .i64 0, .int .i64 0, .string ByteArray.empty], .int .i64 6]) ∧
      LawAt W' lw sb vn vt vw bl (begunS t bad (d : Int) k (newNode (3 * (t : Int) + 1) (t : Int) (d : Int) (d : Int))) ∧ Mod [p.1] W W' := by
  have hl : k < (madeS t bad (d : Int) (3 * t + 1)).nodes.length := by simp [madeS]; omega
  have hs : (begunS t bad (d : Int) k (newNode (3 * (t : Int) + 1) (t : Int) (d : Int) (d : Int))).nodes[k]? = some { newNode (3 * (t : Int) + 1) (t : Int) (d : Int) (d : Int) with began := true } := List.getElem?_set_self hl
  have hst : startS { newNode (3 * (t : Int) + 1) (t : Int) (d : Int) (d : Int) with began := true } v = ({ newNode (3 * (t : Int) + 1) (t : Int) (d : Int) (d : Int) with began := true }, ⟨0, 0, ByteArray.empty⟩, 6) := by
    unfold startS
    rw [if_neg (by simp [newNode]), if_neg (by omega), if_pos rfl]
  have := start_law W lw sb vn _ _ bl _ h k p _ v hp hs (by simp only [newNode]; omega) (by omega)
  rw [hst] at this
  refine this.mono ?_
  rintro e W' ⟨rfl, h1, h2⟩
  refine ⟨rfl, ?_, h2⟩
  have e : ({ begunS t bad (d : Int) k (newNode (3 * (t : Int) + 1) (t : Int) (d : Int) (d : Int)) with nodes := (begunS t bad (d : Int) k (newNode (3 * (t : Int) + 1) (t : Int) (d : Int) (d : Int))).nodes.set k { newNode (3 * (t : Int) + 1) (t : Int) (d : Int) (d : Int) with began := true } } : LawS) =
      begunS t bad (d : Int) k (newNode (3 * (t : Int) + 1) (t : Int) (d : Int) (d : Int)) := by
    simp only [begunS, List.set_set]
  rw [e] at h1
  exact h1
end Go.Proofs.Ytcgfjalglnlofaa
