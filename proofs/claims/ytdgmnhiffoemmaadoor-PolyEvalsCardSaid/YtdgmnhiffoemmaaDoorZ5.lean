/-
  Plain: noughts laid behind a row of one's own (append of a made slice, as the translator writes it); then a number's digits of 32 bits, as the reference has them. No statement of a claim stands here; each lemma names what it asks.
-/
import Derived.Test.YtdgmnhiffoemmaaDoorZ4
set_option linter.unusedSimpArgs false
namespace Go.Proofs.YtdgmnhiffoemmaaDoor
open Go Go.RowKit Go.ChangeMaps

theorem append_noughts {P : Program} (w : World) (t tx ty e : TypeId) (i : TypeInfo) (z zc : Value) (k : IntKind) (ht : P.underlying t = some (.slice e)) (htx : P.underlying tx = some (.int k)) (hi : P.info? e = some i) (hz : i.zero = some z) (hs : i.size = 1) (hby : i.bytes = 8)
    (hzc : z.cells = #[zc]) (h1 : zc.oneCell' = true) (g n cap m : Nat) (xs : List Value) (hown : w.ownsRow 0 e 1 (.slice (some ⟨g, 0, none⟩) n cap) n xs) (hm : m ≤ 100) (hn : n ≤ 5000) (hm0 : 0 < m) :
    ∃ v' w', (Builtin.append_ #[t, tx] ty #[.slice (some ⟨g, 0, none⟩) n cap, .int .i64 (m : Int)]).run P w = .ok v' w' ∧ w'.ownsRow 0 e 1 v' (n + m) (xs ++ List.replicate m zc) ∧ Mod [g] w w' ∧ (∀ b, v'.ownBlock = some b → b = g ∨ b = w.heap.size) := by
  have hlen : (xs ++ List.replicate m zc).length = (n + m) * 1 := by rw [List.length_append, hown.1, List.length_replicate]; omega
  have hzr : Builtin.zeroCells z.cells m = (List.replicate m zc).toArray := by
    rw [hzc]
    apply Array.ext
    · simp [Builtin.zeroCells]
    · intro j h2 h3
      simp [Builtin.zeroCells, Nat.mod_one]
  have hw : IntKind.i64.wrap (m : Int) = (m : Int) := IntWalk.i64_in _ (by omega)
  have hm1 : ¬ ((m : Int) < 0) := by omega
  have hm2 : ¬ (281474976710656 < (m : Int) * 8) := by omega
  rcases hown.2 with ⟨h0, _⟩ | ⟨g', cap', cur, h0, hbg, hg, hnc, hcm, hcs, htake⟩
  · cases h0
  · cases h0
    by_cases hroom : n + m ≤ cap
    · have hst := run_storeCells_at P g (n * 1) e (List.replicate m zc) 0 cur w hg (by simp; omega) (fun u hu => by rw [(List.mem_replicate.1 hu).2]; exact h1)
      simp only [Nat.add_zero, Nat.mul_one, List.length_replicate] at hst htake hcs
      have hr : (Builtin.append_ #[t, tx] ty #[.slice (some ⟨g, 0, none⟩) n cap, .int .i64 (m : Int)]).run P w = .ok (.slice (some ⟨g, 0, none⟩) (n + m) cap) (w.setRow g (cur.toList.take n ++ List.replicate m zc ++ cur.toList.drop (n + m)).toArray) := by
        have hm3 : ¬ m = 0 := by omega
        simp [Builtin.append_, run_underlying ht, run_underlying htx, sizeOf, typeInfo, zeroValue, hi, hs, hby, hz, hw, hm1, hm2, hm3, hroom, hzr, Addr.add_lit, asInt, asIntOf]
        simp [hst]
      refine ⟨_, _, hr, ⟨hlen, .inr ⟨g, cap, _, rfl, Nat.zero_le _, setRow_heap w g cur _ e _ hg, hroom, hcm, ?_, ?_⟩⟩, ⟨rfl, rfl, rfl, by simp, fun b _ hb => setRow_other w g b _ (by simpa using hb)⟩, fun b hb => .inl (by cases hb; rfl)⟩
      · simp only [List.size_toArray, List.length_append, List.length_take, List.length_drop, Array.length_toList, List.length_replicate]
        omega
      · rw [htake, ← hlen]
        exact List.take_left
    · have holds : ∀ j u, xs[j]? = some u → w.drew.cell? ((⟨g, 0, none⟩ : Addr).add j) = some u := fun j u hu => by
        have := hown.cells (g := g) rfl j u hu
        simpa using this
      have hf := run_firstCells_some (P := P) w.drew 1 n ⟨g, 0, none⟩ n cap xs (by rw [hown.1]) holds
      have hfit := growslice_fits (need := n + m) (old := cap) (bytes := 8) (by omega) (by omega)
      have h48 : ¬ (281474976710656 < Builtin.nextslicecap (n + m) cap * 8) := by omega
      have h63 : ¬ (9223372036854775807 < ((n : Int) + (m : Int))) := by omega
      have hge := grownCap_ge w (n + m) cap e
      have hcm2 : grownCap w (n + m) cap e ≤ maxLen := grownCap_le_maxLen w (n + m) cap e (by unfold maxLen; omega)
      have hr : (Builtin.append_ #[t, tx] ty #[.slice (some ⟨g, 0, none⟩) n cap, .int .i64 (m : Int)]).run P w = .ok (.slice (some ⟨w.heap.size, 0, none⟩) (n + m) (grownCap w (n + m) cap e))
          (w.drew.alloc (.cells (xs.toArray ++ (List.replicate m zc).toArray ++ Builtin.zeroCells z.cells (grownCap w (n + m) cap e - (n + m))) e)) := by
        have hm3 : ¬ m = 0 := by omega
        simp [Builtin.append_, run_underlying ht, run_underlying htx, sizeOf, typeInfo, zeroValue, hi, hs, hby, hz, hw, hm1, hm2, hm3, hroom, hzr, asInt, asIntOf, h48, h63, Question.forced, hf, newRow, grownCap]
      refine ⟨_, _, hr, ⟨hlen, .inr ⟨w.heap.size, _, _, rfl, Nat.zero_le _, heap_alloc_new w.drew _, hge, hcm2, ?_, ?_⟩⟩, ((Mod.refl _ _).drew).alloc _, fun b hb => .inr (by cases hb; rfl)⟩
      · simp only [Array.size_append, List.size_toArray, size_zeroCells, hzc, hown.1, List.length_replicate]
        simp
        omega
      · simp only [Array.toList_append, List.append_assoc]
        rw [← List.append_assoc, ← hlen]
        exact List.take_left
end Go.Proofs.YtdgmnhiffoemmaaDoor
