/-
  SameBytes, same: of one ticket twice, whatever its key's slices. No statement of a claim stands here; each contract names what it asks.
-/
import Derived.Test.YteifjbfojjjacaaKaH
import Derived.Laws.BytesArg
set_option linter.unusedSimpArgs false
namespace Go.Proofs.Yteifjbfojjjacaa
open Go Go.RowKit Go.ChangeMaps

theorem conv_key (w : World) (kv : Value) (k : List Nat) (h : KeyIn w kv k) : (convert 48 9 kv).run Try.prog w = .ok (.string (strOfNums (k.map fun (n : Nat) => (n : Int)))) w := by
  rcases h with ⟨rfl, rfl⟩ | ⟨ad, c, rfl, hc⟩
  · exact run_convert_bytes_nil (P := Try.prog) w 48 5 rfl rfl 0 0 9 rfl
  · have hl := run_loadCells_list (P := Try.prog) w ad ((k.map fun (n : Nat) => (n : Int)).map (Value.int .u8)) (fun j v hj => hc j v (by simpa [keyCells] using hj))
    simp only [List.length_map] at hl
    rw [run_convert_bytes_string w 48 9 5 _ k.length c rfl rfl rfl, run_bytesToString w _ k.length c _ hl, foldl_push_bytes]
    simp [strOfNums, ByteArray.empty, ByteArray.emptyWithCapacity]
    rfl

theorem sameB_any (w : World) (kv ku : Value) (k : List Nat) (h1 : KeyIn w kv k) (h2 : KeyIn w ku k) :
    Calls Try.prog 39 #[kv, ku] w fun e w' => e = .returned (.bool true) ∧ w' = w := by
  have c1 := conv_key w kv k h1
  have c2 := conv_key w ku k h2
  generalize strOfNums (k.map fun (n : Nat) => (n : Int)) = S at *
  clear h1 h2
  go_enter Try.func39, Try.ntmps39
  go_wp2_with fail
  go_ret
  exact ⟨rfl, rfl⟩

set_option maxHeartbeats 800000 in
theorem same_any (w : World) (t : TkS) (kv ku : Value) (h1 : KeyIn w kv t.key) (h2 : KeyIn w ku t.key) :
    Calls Try.prog 21 #[.agg (t.cells kv).toArray, .agg (t.cells ku).toArray] w fun e w' => e = .returned (.bool true) ∧ Mod [] w w' := by
  obtain ⟨client, service, key, from_, until_, renew, flags⟩ := t
  simp only [TkS.cells] at *
  obtain ⟨W0, hW0⟩ : ∃ W, W = (w.alloc (.cells #[.string client, .string service, kv, .int .i64 from_, .int .i64 until_, .int .i64 renew, .int .i64 flags] 50)).alloc (.cells #[.string client, .string service, ku, .int .i64 from_, .int .i64 until_, .int .i64 renew, .int .i64 flags] 50) := ⟨_, rfl⟩
  have hm0 : Mod [] w W0 := by rw [hW0]; exact Mod.alloc (Mod.alloc (Mod.refl _ _) _) _
  have hA : W0.heap[w.heap.size]? = some (.cells #[.string client, .string service, kv, .int .i64 from_, .int .i64 until_, .int .i64 renew, .int .i64 flags] 50 (0, 0)) := by rw [hW0]; exact get_alloc (get_new w _) _
  have hB : W0.heap[w.heap.size + 1]? = some (.cells #[.string client, .string service, ku, .int .i64 from_, .int .i64 until_, .int .i64 renew, .int .i64 flags] 50 (0, 0)) := by
    have := get_new (w.alloc (.cells #[.string client, .string service, kv, .int .i64 from_, .int .i64 until_, .int .i64 renew, .int .i64 flags] 50)) (.cells #[.string client, .string service, ku, .int .i64 from_, .int .i64 until_, .int .i64 renew, .int .i64 flags] 50)
    rw [World.size_alloc] at this
    rw [hW0]; exact this
  have HS := hid (sameB_any W0 kv ku key (h1.mod hm0) (h2.mod hm0))
  have HM := hid hm0
  have HW := hid hW0
  have a0 := cell_at hA 0
  have a1 := cell_at hA 1
  have a2 := cell_at hA 2
  have a3 := cell_at hA 3
  have a4 := cell_at hA 4
  have a5 := cell_at hA 5
  have a6 := cell_at hA 6
  have b0 := cell_at hB 0
  have b1 := cell_at hB 1
  have b2 := cell_at hB 2
  have b3 := cell_at hB 3
  have b4 := cell_at hB 4
  have b5 := cell_at hB 5
  have b6 := cell_at hB 6
  simp only [List.getElem?_toArray, List.getElem?_cons_zero, List.getElem?_cons_succ] at a0 a1 a2 a3 a4 a5 a6 b0 b1 b2 b3 b4 b5 b6
  clear hA hB hm0 hW0 h1 h2
  go_enter Try.func21, Try.ntmps21
  rw [HW.out] at a0 a1 a2 a3 a4 a5 a6 b0 b1 b2 b3 b4 b5 b6 HS HM
  go_wp2_with (first | (go_at_call 39; refine HS.out.mono ?_; rintro e w' ⟨rfl, rfl⟩))
  go_ret
  exact ⟨rfl, HM.out⟩
end Go.Proofs.Yteifjbfojjjacaa
