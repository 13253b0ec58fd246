/-
  The statements' world, walked further: Start by one of its nodes. No statement of a claim stands here; each contract names what it asks.
-/
import Derived.Test.YtcgfjalglnlofaaTotal0
set_option linter.unusedSimpArgs false
namespace Go.Proofs.Ytcgfjalglnlofaa
open Go Go.RowKit

/-- One node has changed. -/
theorem LawAt.nodeSet {W W' : World} {lw sb : Nat} {vn vt vw : Value} {bl : List Trip} {L : LawS} (h : LawAt W lw sb vn vt vw bl L) {i : Nat} {p : Trip} {s s' : NodeS} (hp : bl[i]? = some p) (hs : L.nodes[i]? = some s)
    (hn' : NodeAt W' p.1 p.2.1 p.2.2 s') (hmod : Mod [p.1, p.2.1, p.2.2] W W') : LawAt W' lw sb vn vt vw bl { L with nodes := L.nodes.set i s' } := by
  have hn := h.node i p s hp hs
  have hne : ∀ {b : Nat} {c : Array Value} {T : TypeId}, W.heap[b]? = some (.cells c T (0, 0)) → T ≠ 66 → b ∉ [p.1, p.2.1, p.2.2] := fun hb hT => by
    simp only [List.mem_cons, List.not_mem_nil, or_false, not_or]
    exact ⟨ne_ty hb hn.cells hT, ne_map hb hn.e, ne_map hb hn.r⟩
  refine ⟨hmod.get h.cells (hne h.cells (by decide)), row_mod h.nodes hmod (fun k hk => ?_), row_mod h.to hmod (fun k hk => ?_), row_mod h.wait hmod (fun k hk => ?_), hmod.get h.sent (hne h.sent (by decide)), h.ts, by simp [h.len], ?_, h.nodup⟩
  · obtain ⟨c, hc⟩ := row_block h.nodes hk; exact hne hc (by decide)
  · obtain ⟨c, hc⟩ := row_block h.to hk; exact hne hc (by decide)
  · obtain ⟨c, hc⟩ := row_block h.wait hk; exact hne hc (by decide)
  · intro j q u hq hu
    dsimp only at hu
    by_cases hj : i = j
    · subst hj
      rw [hp] at hq
      cases hq
      rw [List.getElem?_set_self (by rw [← h.len]; exact (List.getElem?_eq_some_iff.1 hp).1)] at hu
      cases hu
      exact hn'
    · rw [List.getElem?_set_ne hj] at hu
      have hnq := h.node j q u hq hu
      have hnd := h.nodup
      have hdis : ∀ x ∈ [q.1, q.2.1, q.2.2], x ∉ [p.1, p.2.1, p.2.2] := by
        intro x hx hx'
        have hpq := trip_pairwise bl hnd
        rw [List.pairwise_iff_getElem] at hpq
        have hi := List.getElem?_eq_some_iff.1 hp
        have hj' := List.getElem?_eq_some_iff.1 hq
        obtain ⟨hi1, hi2⟩ := hi
        obtain ⟨hj1, hj2⟩ := hj'
        rcases Nat.lt_or_ge i j with h1 | h1
        · have := hpq i j hi1 hj1 h1
          rw [hi2, hj2] at this
          exact this x hx' hx
        · have := hpq j i hj1 hi1 (by omega)
          rw [hi2, hj2] at this
          exact this x hx hx'
      exact hnq.mod hmod (hdis _ (by simp)) (hdis _ (by simp)) (hdis _ (by simp))

theorem start_law (W : World) (lw sb : Nat) (vn vt vw : Value) (bl : List Trip) (L : LawS) (h : LawAt W lw sb vn vt vw bl L) (i : Nat) (p : Trip) (s : NodeS) (v : ByteArray) (hp : bl[i]? = some p) (hs : L.nodes[i]? = some s) (hn : 0 < s.n) (hv : v.size ≤ 9223372036854775807) :
    Calls Try.prog 16 #[.pointer (some ⟨p.1, 0, none⟩), .string v] W fun e W' => e = .returned (.tuple #[.agg (startS s v).2.1.cells.toArray, .int .i64 (startS s v).2.2]) ∧
      LawAt W' lw sb vn vt vw bl { L with nodes := L.nodes.set i (startS s v).1 } ∧ Mod [p.1] W W' := by
  refine (start_any W p.1 p.2.1 p.2.2 s v (h.node i p s hp hs) hn hv).mono ?_
  rintro e W' ⟨rfl, hn', hm⟩
  exact ⟨rfl, h.nodeSet hp hs hn' (hm.mono (by simp)), hm⟩
end Go.Proofs.Ytcgfjalglnlofaa
