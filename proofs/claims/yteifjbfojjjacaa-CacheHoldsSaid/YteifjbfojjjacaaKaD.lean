/-
  slices.Delete of one ticket, walked. No statement of a claim stands here; each contract names what it asks.
-/
import Derived.Test.YteifjbfojjjacaaKa8
import Derived.Test.YteifjbfojjjacaaSl
import Derived.Laws.OwnMore
set_option linter.unusedSimpArgs false
namespace Go.Proofs.Yteifjbfojjjacaa
open Go Go.RowKit Go.ChangeMaps

theorem tkCells_len (l : Tks) : (tkCells l).length = l.length * 7 := by
  induction l with
  | nil => rfl
  | cons p l ih => simp only [tkCells, List.flatMap_cons, List.length_append, List.length_cons, TkS.cells, List.length_nil] at ih ⊢; omega
theorem tkCells_take (l : Tks) (k : Nat) : (tkCells l).take (k * 7) = tkCells (l.take k) := by
  induction l generalizing k with
  | nil => simp [tkCells]
  | cons m l ih =>
    cases k with
    | zero => simp [tkCells]
    | succ k =>
      have e : (k + 1) * 7 = k * 7 + 7 := by omega
      rw [e]
      simp only [tkCells, List.flatMap_cons, List.take_succ_cons, TkS.cells] at ih ⊢
      simp [ih]
theorem tkCells_drop (l : Tks) (k : Nat) : (tkCells l).drop (k * 7) = tkCells (l.drop k) := by
  induction l generalizing k with
  | nil => simp [tkCells]
  | cons m l ih =>
    cases k with
    | zero => simp [tkCells]
    | succ k =>
      have e : (k + 1) * 7 = k * 7 + 7 := by omega
      rw [e]
      simp only [tkCells, List.flatMap_cons, List.drop_succ_cons, TkS.cells] at ih ⊢
      simp [ih]

theorem zTk (w : World) : (zeroValue 50).run Try.prog w = .ok (.agg #[.string ⟨#[]⟩, .string ⟨#[]⟩, .slice none 0 0, .int .i64 0, .int .i64 0, .int .i64 0, .int .i64 0]) w := by kernel_rfl
def zTkCells : List Value := [.string ⟨#[]⟩, .string ⟨#[]⟩, .slice none 0 0, .int .i64 0, .int .i64 0, .int .i64 0, .int .i64 0]

theorem zeroTk1 : (Builtin.zeroCells (Value.agg #[.string ⟨#[]⟩, .string ⟨#[]⟩, .slice none 0 0, .int .i64 0, .int .i64 0, .int .i64 0, .int .i64 0]).cells 1).toList = zTkCells := by kernel_rfl

/-- clear of one ticket, the last of a row that has become shorter. -/
theorem clear_tk (w : World) (ty : TypeId) (g n cap c : Nat) (l : Tks) (hn : n = l.length + 1) (hr : w.ownsRow 0 50 7 (.slice (some ⟨g, 0, none⟩) l.length cap) l.length (tkCells l)) (hc : n ≤ cap) :
    ∃ w', (Builtin.clear_ #[46] ty #[.slice (some ⟨g, l.length * 7, none⟩) 1 c]).run Try.prog w = .ok (.tuple #[]) w' ∧ w'.ownsRow 0 50 7 (.slice (some ⟨g, 0, none⟩) l.length cap) l.length (tkCells l) ∧ Mod [g] w w' := by
  rcases hr.2 with ⟨h, _⟩ | ⟨g', cap', cur, h, hb, hg, hnc, hcm, hcs, htake⟩
  · simp at h
  · simp only [Value.slice.injEq, Option.some.injEq, Addr.mk.injEq, and_true, true_and] at h
    obtain ⟨rfl, rfl⟩ := h
    have hst := run_storeCells_at Try.prog g (l.length * 7) 50 zTkCells 0 cur w hg (by simp only [zTkCells, List.length_cons, List.length_nil]; omega) (by
      intro v hv
      simp only [zTkCells, List.mem_cons, List.not_mem_nil, or_false] at hv
      rcases hv with rfl | rfl | rfl | rfl | rfl | rfl | rfl <;> rfl)
    obtain ⟨cs, hcs2⟩ : ∃ cs, cs = (List.take (l.length * 7 + 0) cur.toList ++ zTkCells ++ List.drop (l.length * 7 + 0 + zTkCells.length) cur.toList).toArray := ⟨_, rfl⟩
    rw [← hcs2] at hst
    have hsz : cs.size = cap * 7 := by
      rw [hcs2]
      simp only [zTkCells, List.length_cons, List.length_nil, List.size_toArray, List.length_append, List.length_take, List.length_drop, Array.length_toList]
      omega
    have htk : cs.toList.take (l.length * 7) = tkCells l := by
      rw [hcs2, List.toList_toArray, List.append_assoc, List.take_append_of_le_length (by simp; omega), List.take_take, Nat.min_eq_left (by omega)]
      exact htake
    refine ⟨w.setRow g cs, ?_, ⟨hr.1, .inr ⟨g, cap, cs, rfl, hb, setRow_heap w g cur cs 50 _ hg, hnc, hcm, hsz, htk⟩⟩, ⟨rfl, rfl, rfl, by simp [World.setRow], fun k _ hk => setRow_other w g k cs (by simpa using hk)⟩⟩
    have hz := zeroTk1
    have hu := fun w => run_underlying Try.underlying46 w
    simp [Builtin.clear_, hu, zTk, hz, hst]


theorem erase_two (l : Tks) (k : Nat) : l.eraseIdx k = l.take k ++ l.drop (k + 1) := List.eraseIdx_eq_take_drop_succ l k

set_option maxHeartbeats 800000 in
theorem delete_any (w : World) (g cap : Nat) (l : Tks) (i : Nat) (hr : w.ownsRow 0 50 7 (.slice (some ⟨g, 0, none⟩) l.length cap) l.length (tkCells l)) (hi : i < l.length) (hlen : l.length ≤ 1000) (hkv : ∀ p ∈ l, ∃ a n c, p.1 = .slice a n c) :
    Calls Try.prog 37 #[.slice (some ⟨g, 0, none⟩) l.length cap, .int .i64 (i : Int), .int .i64 ((i : Int) + 1)] w fun e w' => e = .returned (.slice (some ⟨g, 0, none⟩) (l.length - 1) cap) ∧ w'.ownsRow 0 50 7 (.slice (some ⟨g, 0, none⟩) (l.length - 1) cap) (l.length - 1) (tkCells (l.eraseIdx i)) ∧ Mod [g] w w' := by
  rcases hr.2 with ⟨h, _⟩ | ⟨g', cap', cur, h, hb, hg, hnc, hcm, hcs, htake⟩
  · simp at h
  · simp only [Value.slice.injEq, Option.some.injEq, Addr.mk.injEq, and_true, true_and] at h
    obtain ⟨rfl, rfl⟩ := h
    obtain ⟨it, z, hit, hz, hsz, hby, hzs⟩ := elemTk.info
    obtain ⟨ad1, hs1⟩ := slice_three (P := Try.prog) elemTk.under hit g l.length cap i (i + 1) l.length (by omega) (by omega) hnc
    have hs2 := slice_to (P := Try.prog) elemTk.under hit g l.length cap i (by omega)
    obtain ⟨ad, c', hs3, hcell⟩ := slice_from (P := Try.prog) elemTk.under hit g l.length cap (i + 1) (by omega) hnc cur (by rw [hsz]; exact hcs)
    have hcells := hcell w hg
    rw [hsz, htake, tkCells_drop] at hcells
    have hrow : w.ownsRow 0 50 7 (.slice (some ⟨g, 0, none⟩) i cap) i (tkCells (l.take i)) := by
      refine ⟨by rw [tkCells_len]; simp; omega, .inr ⟨g, cap, cur, rfl, hb, hg, by omega, hcm, hcs, ?_⟩⟩
      rw [← tkCells_take, ← htake, List.take_take, Nat.min_eq_left (by omega)]
    have h1c : ∀ u ∈ tkCells (l.drop (i + 1)), u.oneCell' = true := fun u hu => by
      simp only [tkCells, List.mem_flatMap] at hu
      obtain ⟨p, hp, hu3⟩ := hu
      obtain ⟨a, n, c, hpk⟩ := hkv p (List.mem_of_mem_drop hp)
      simp only [TkS.cells, hpk, List.mem_cons, List.not_mem_nil, or_false] at hu3
      rcases hu3 with rfl | rfl | rfl | rfl | rfl | rfl | rfl <;> rfl
    have happ : ∀ W : World, Mod [] w W → ∃ v' w', (Builtin.append_ #[46, 46] 46 #[.slice (some ⟨g, 0, none⟩) i cap, .slice (some ad) (l.length - (i + 1)) c']).run Try.prog W = .ok v' w' ∧
        (v' = .slice (some ⟨g, 0, none⟩) (l.length - 1) cap ∧ w'.ownsRow 0 50 7 (.slice (some ⟨g, 0, none⟩) (l.length - 1) cap) (l.length - 1) (tkCells (l.eraseIdx i)) ∧ Mod [g] w w') := fun W hW => by
      obtain ⟨w', h1, h2, h3⟩ := run_append_fits (P := Try.prog) W 0 46 46 50 it 7 elemTk.under hit hsz g i cap _ (row_mod hrow hW (by simp)) ad (l.length - (i + 1)) c' (tkCells (l.drop (i + 1))) (by rw [tkCells_len]; simp) (fun j u hu => by
        have := hcells j u hu
        exact (World.cell?_of_block (a := ad.add j) (hW.block _ (World.block_lt_of_cell? w _ this) (by simp))).trans this) h1c (by omega)
      have e1 : i + (l.length - (i + 1)) = l.length - 1 := by omega
      rw [e1] at h1 h2
      refine ⟨_, w', h1, rfl, ?_, (hW.mono (by simp)).grown h3 (fun k hk => by cases hk; simp)⟩
      rw [erase_two, tkCells_append]; exact h2
    rw [show ((i + 1 : Nat) : Int) = (i : Int) + 1 from rfl] at hs1 hs3
    have hs4 := slice_mid (P := Try.prog) elemTk.under hit g (l.length - 1) cap (l.length - 1) l.length (by omega) hnc (by omega)
    rw [hsz, show l.length - (l.length - 1) = 1 by omega] at hs4
    have hne : ((i : Int) == (i : Int) + 1) = false := by rw [beq_eq_false_iff_ne]; omega
    have HAP := hid happ
    clear hcell hcells hrow h1c happ htake hcs hcm hz hsz hby hzs hit
    go_enter Try.func37, Try.ntmps37
    go_wp2_with fail
    refine wp_region_N (fun w' => Mod [] w w') (fun i => i != 6) (by kernel_rfl) ?_
    have hS : (fun w' : World => Mod [] w w') w.drew := (Mod.refl _ _).drew
    refine regA 0 20 (v := ?_) rfl rfl (by kernel_rfl) (by kernel_rfl) (by kernel_rfl) (fun _ _ _ h => h) (by rfl) (fun w => ?_) ?_; rotate_left; (go_simp; first | done | with_reducible rfl); (try simp only [Act.put, List.setIfInBounds_toArray, List.set_cons_zero, List.set_cons_succ])
    refine regA 1 21 (v := ?_) rfl rfl (by kernel_rfl) (by kernel_rfl) (by kernel_rfl) (fun _ _ _ h => h) (by rfl) (fun w => ?_) ?_; rotate_left; (go_simp; first | done | with_reducible rfl); (try simp only [Act.put, List.setIfInBounds_toArray, List.set_cons_zero, List.set_cons_succ])
    refine regA 2 22 (v := ?_) rfl rfl (by kernel_rfl) (by kernel_rfl) (by kernel_rfl) (fun _ _ _ h => h) (by rfl) (fun w => ?_) ?_; rotate_left; (go_simp; first | done | with_reducible rfl); (try simp only [Act.put, List.setIfInBounds_toArray, List.set_cons_zero, List.set_cons_succ])
    refine regA 3 23 (v := ?_) rfl rfl (by kernel_rfl) (by kernel_rfl) (by kernel_rfl) (fun _ _ _ h => h) (by rfl) (fun w => ?_) ?_; rotate_left; (go_simp; first | done | with_reducible rfl); (try simp only [Act.put, List.setIfInBounds_toArray, List.set_cons_zero, List.set_cons_succ])
    refine regA 4 24 (v := ?_) rfl rfl (by kernel_rfl) (by kernel_rfl) (by kernel_rfl) (fun _ _ _ h => h) (by rfl) (fun w => ?_) ?_; rotate_left; (go_simp; first | done | with_reducible rfl); (try simp only [Act.put, List.setIfInBounds_toArray, List.set_cons_zero, List.set_cons_succ])
    refine regA 5 25 (v := ?_) rfl rfl (by kernel_rfl) (by kernel_rfl) (by kernel_rfl) (fun _ _ _ h => h) (by rfl) (fun w => ?_) ?_; rotate_left; (go_simp; first | done | with_reducible rfl); (try simp only [Act.put, List.setIfInBounds_toArray, List.set_cons_zero, List.set_cons_succ])
    refine regOnly 6 (by kernel_rfl) rfl (by rfl) (fun K hK => ?_)
    refine wp_app_run 26 _ _ 46 rfl rfl (.slice (some ⟨g, 0, none⟩) i cap) _ rfl rfl _ (HAP.out w.drew (Mod.refl _ _).drew) ?_
    rintro v7 w7 ⟨rfl, hrow7, hm7⟩
    refine hK.out _ _ (fun h _ => absurd h (by decide)) ?_
    clear hK hS
    (try simp only [Act.put, List.setIfInBounds_toArray, List.set_cons_zero, List.set_cons_succ])
    refine regOnly 7 (by kernel_rfl) rfl (by rfl) (fun K hK => ?_)
    go_wp2_with fail
    refine hK.out _ _ (fun _ h => h) ?_
    clear hK
    (try simp only [Act.put, List.setIfInBounds_toArray, List.set_cons_zero, List.set_cons_succ])
    refine regDone (by kernel_rfl) ?_ _
    have hel : (l.eraseIdx i).length = l.length - 1 := List.length_eraseIdx_of_lt hi
    obtain ⟨w8, hcl, hrow8, hm8⟩ := clear_tk w7 0 g l.length cap (cap - (l.length - 1)) (l.eraseIdx i) (by omega) (by rw [hel]; exact hrow7) hnc
    rw [hel] at hcl hrow8
    have H8 := hid (And.intro hrow8 (hm7.trans hm8))
    clear hrow7 hrow8 hm7 hm8 hr hg hel HAP
    go_wp2_with fail
    go_ret
    exact ⟨rfl, H8.out.1, H8.out.2⟩
end Go.Proofs.Yteifjbfojjjacaa
