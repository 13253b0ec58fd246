/-
  The reference's node of a broadcast, walked: count, ready. No statement of a claim stands here; each contract names what it asks.
-/
import Derived.Test.YtcgfjalglnlofaaRef0
set_option linter.unusedSimpArgs false
namespace Go.Proofs.Ytcgfjalglnlofaa
open Go Go.RowKit

set_option maxHeartbeats 400000 in
theorem count_any (w : World) (y : Nat) (n : Int) (l : Votes) (v : ByteArray) (hk : KOk n l) (hnd : (l.map (·.1)).Nodup) (hn : 0 < n) (hn' : n ≤ 16) (hlen : l.length ≤ 1000) (h0 : w.cell? ⟨y, 0, none⟩ = some (.int .i64 n)) :
    Calls Try.prog 31 #[.pointer (some ⟨y, 0, none⟩), .agg (flags l).toArray, .agg (texts l).toArray, .string v] w fun e w' => e = .returned (.int .i64 (cnt l v)) ∧ Mod [] w w' := by
  have HK := hid hk
  have HND := hid hnd
  clear hk hnd
  go_enter Try.func31, Try.ntmps31
  go_wp2_with fail
  refine wp_abs (fun W => W.cell? ⟨y, 0, none⟩ = some (.int .i64 n) ∧ W.heap[w.heap.size]? = some (.cells (flags l).toArray 57 (0, 0)) ∧ W.heap[w.heap.size + 1]? = some (.cells (texts l).toArray 56 (0, 0)) ∧ Mod [] w W)
    ⟨(Mod.alloc (Mod.alloc (Mod.refl [] w) _) _).cell h0 (by simp), get_alloc (get_new w _) _, by have := get_new (w.alloc (Obj.cells (flags l).toArray 57)) (Obj.cells (texts l).toArray 56); simpa only [World.size_alloc] using this, Mod.alloc (Mod.alloc (Mod.refl [] w) _) _⟩ ?_
  rintro W ⟨c0, hF, hT, hM⟩
  clear h0
  have HF := hid hF
  have HT := hid hT
  have HM := hid hM
  clear hF hT hM
  obtain ⟨nn, rfl⟩ : ∃ m : Nat, n = (m : Int) := ⟨n.toNat, by omega⟩
  go_loopg [9, 10] (nn + 1) (fun gk r i W' => ∃ j : Nat, i = .int .i64 (j : Int) ∧ 1 ≤ j ∧ j ≤ nn + 1 ∧ gk + j = nn + 2 ∧ r = .int .i64 (cntTo l v j : Int) ∧ W' = W)
  case atStart => exact ⟨1, rfl, Nat.le_refl _, by omega, by omega, by rw [show ((1 : Nat) : Int) = 1 from rfl, cntTo_one HK.out]; rfl, rfl⟩
  case round =>
    obtain ⟨j, rfl, hj1, hj2, hj, rfl, rfl⟩ := hrel
    by_cases hjn : j ≤ nn
    · have d0 : decide ((j : Int) ≤ (nn : Int)) = true := by rw [decide_eq_true_eq]; omega
      have d1 : decide (j ≤ nn) = true := by rw [decide_eq_true_eq]; omega
      have b1 : wr.cell? ⟨w.heap.size, j, none⟩ = some (.bool (look l (j : Int)).isSome) := by rw [cell_at HF.out]; simpa using flag_at l j (by omega)
      have b2 : wr.cell? ⟨w.heap.size + 1, j, none⟩ = some (.string ((look l (j : Int)).getD ByteArray.empty)) := by rw [cell_at HT.out]; simpa using text_at l j (by omega)
      have j0 : (0 : Int) ≤ (j : Int) := Int.natCast_nonneg _
      have j17 : (j : Int) < 17 := by omega
      have hst := cntTo_step HND.out v (j : Int)
      have hle := cntTo_le l v (j : Int)
      have w1 : IntKind.i64.wrap ((cntTo l v (j : Int) : Int) + 1) = (cntTo l v (j : Int) : Int) + 1 := IntWalk.i64_in _ (by omega)
      have HST := hid hst
      clear hst
      cases hl : look l (j : Int) with
      | none =>
        rw [hl] at b1 b2
        simp only [Option.isSome_none, Option.getD_none] at b1 b2
        have HL := hid hl
        clear hl
        go_wp2_with fail
        go_roundg (gk - 1)
        case measure => omega
        case rel => exact ⟨j + 1, by go_num, by omega, by omega, by omega, by have := HST.out; rw [HL.out] at this; simp only [reduceCtorEq, if_false, Nat.add_zero] at this; rw [← this]; rfl, rfl⟩
      | some u =>
        rw [hl] at b1 b2
        simp only [Option.isSome_some, Option.getD_some] at b1 b2
        have HL := hid hl
        clear hl
        by_cases huv : u = v
        · have hq := chars_eq u v
          rw [decide_eq_true huv] at hq
          have HU := hid huv
          clear huv
          go_wp2_with fail
          go_roundg (gk - 1)
          case measure => omega
          case rel => exact ⟨j + 1, by go_num, by omega, by omega, by omega, by have := HST.out; rw [HL.out, HU.out] at this; simp only [if_true] at this; rw [show ((j + 1 : Nat) : Int) = (j : Int) + 1 from rfl, this]; rfl, rfl⟩
        · have hq := chars_eq u v
          rw [decide_eq_false huv] at hq
          have HU := hid huv
          clear huv
          go_wp2_with fail
          go_roundg (gk - 1)
          case measure => omega
          case rel => exact ⟨j + 1, by go_num, by omega, by omega, by omega, by have := HST.out; rw [HL.out, if_neg (by simpa using HU.out)] at this; rw [show ((j + 1 : Nat) : Int) = (j : Int) + 1 from rfl, this]; rfl, rfl⟩
    · have d0 : decide ((j : Int) ≤ (nn : Int)) = false := by rw [decide_eq_false_iff_not]; omega
      have d1 : decide (j ≤ nn) = false := by rw [decide_eq_false_iff_not]; omega
      have hall := cntTo_all HK.out v
      rw [show ((nn : Int) + 1) = (j : Int) by omega] at hall
      go_wp2_with fail
      go_ret
      exact ⟨by first | rfl | (rw [hall]; rfl), HM.out⟩
end Go.Proofs.Ytcgfjalglnlofaa
