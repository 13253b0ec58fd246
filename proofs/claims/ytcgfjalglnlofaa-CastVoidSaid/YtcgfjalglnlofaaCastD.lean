/-
  Nodes that no call made, walked; and CastVoid. No statement of a claim stands here; each contract names what it asks.
-/
import Derived.Test.YtcgfjalglnlofaaCastC
namespace Go.Proofs.Ytcgfjalglnlofaa
open Go Go.RowKit

theorem value_nil (w : World) : Calls Try.prog 18 #[.pointer none] w fun e w' => e = .returned (.tuple #[.string ByteArray.empty, .bool false]) ∧ Mod [] w w' := by
  go_enter Try.func18, Try.ntmps18
  go_wp2_with (first | (go_at_call 27; refine (is_nil _).mono ?_; rintro e w' ⟨rfl, rfl⟩))
  go_ret2
  exact ⟨rfl, (by repeat' (first | exact Mod.refl _ _ | assumption | refine Mod.drewN ?_ _ | refine Mod.drew ?_ | refine Mod.alloc ?_ _ | refine Mod.setCell ?_ (by simp) _ | refine Mod.setBlock ?_ (by simp) _))⟩
theorem readied_nil (w : World) : Calls Try.prog 25 #[.pointer none] w fun e w' => e = .returned (.tuple #[.string ByteArray.empty, .bool false]) ∧ Mod [] w w' := by
  go_enter Try.func25, Try.ntmps25
  go_wp2_with (first | (go_at_call 27; refine (is_nil _).mono ?_; rintro e w' ⟨rfl, rfl⟩))
  go_ret2
  exact ⟨rfl, (by repeat' (first | exact Mod.refl _ _ | assumption | refine Mod.drewN ?_ _ | refine Mod.drew ?_ | refine Mod.alloc ?_ _ | refine Mod.setCell ?_ (by simp) _ | refine Mod.setBlock ?_ (by simp) _))⟩
theorem echoed_zero (w : World) (b : Nat) (h : w.cell? ⟨b, 0, none⟩ = some (.int .i64 0)) : Calls Try.prog 24 #[.pointer (some ⟨b, 0, none⟩)] w fun e w' => e = .returned (.tuple #[.string ByteArray.empty, .bool false]) ∧ Mod [] w w' := by
  go_enter Try.func24, Try.ntmps24
  go_wp2_with (first | (go_at_call 27; refine (is_zero b 0 _ (by omega) ?_).mono ?_; go_simp; rintro e w' ⟨rfl, rfl⟩))
  go_ret2
  exact ⟨rfl, (by repeat' (first | exact Mod.refl _ _ | assumption | refine Mod.drewN ?_ _ | refine Mod.drew ?_ | refine Mod.alloc ?_ _ | refine Mod.setCell ?_ (by simp) _ | refine Mod.setBlock ?_ (by simp) _))⟩
theorem start_nil (w : World) (v : ByteArray) : Calls Try.prog 16 #[.pointer none, .string v] w fun e w' => e = .returned (.tuple #[.agg #[.int .i64 0, .int .i64 0, .string ByteArray.empty], .int .i64 1]) ∧ Mod [] w w' := by
  go_enter Try.func16, Try.ntmps16
  go_wp2_with (first | (go_at_call 27; refine (is_nil _).mono ?_; rintro e w' ⟨rfl, rfl⟩))
  refine bodyPost_ret (v := .tuple #[.agg #[.int .i64 0, .int .i64 0, .string ByteArray.empty], .int .i64 1]) (by simp [results, Try.results16, go_sem]; rfl) rfl ?_
  exact ⟨rfl, (by repeat' (first | exact Mod.refl _ _ | assumption | refine Mod.drewN ?_ _ | refine Mod.drew ?_ | refine Mod.alloc ?_ _ | refine Mod.setCell ?_ (by simp) _ | refine Mod.setBlock ?_ (by simp) _))⟩
theorem start_zero (w : World) (v : ByteArray) (b : Nat) (h : w.cell? ⟨b, 0, none⟩ = some (.int .i64 0)) : Calls Try.prog 16 #[.pointer (some ⟨b, 0, none⟩), .string v] w fun e w' => e = .returned (.tuple #[.agg #[.int .i64 0, .int .i64 0, .string ByteArray.empty], .int .i64 1]) ∧ Mod [] w w' := by
  have hlt := World.block_lt_of_cell? w _ h
  have h' : ∀ o, (w.alloc o).cell? ⟨b, 0, none⟩ = some (.int .i64 0) := fun o => Mod.cell (Mod.alloc (Mod.refl [] w) o) h (by simp)
  go_enter Try.func16, Try.ntmps16
  go_wp2_with (first | (go_at_call 27; refine (is_zero b 0 _ (by omega) ?_).mono ?_; go_simp; rintro e w' ⟨rfl, rfl⟩))
  refine bodyPost_ret (v := .tuple #[.agg #[.int .i64 0, .int .i64 0, .string ByteArray.empty], .int .i64 1]) (by simp [results, Try.results16, go_sem]; rfl) rfl ?_
  exact ⟨rfl, (by repeat' (first | exact Mod.refl _ _ | assumption | refine Mod.drewN ?_ _ | refine Mod.drew ?_ | refine Mod.alloc ?_ _ | refine Mod.setCell ?_ (by simp) _ | refine Mod.setBlock ?_ (by simp) _))⟩
set_option maxRecDepth 8000 in
theorem take_nil (w : World) (m : Msg) : Calls Try.prog 22 #[.pointer none, .agg m.cells.toArray] w fun e w' => e = .returned (.slice none 0 0) ∧ Mod [] w w' := by
  obtain ⟨kind, from_, val⟩ := m
  simp only [Msg.cells]
  go_enter Try.func22, Try.ntmps22
  go_wp2_with fail
  go_quiet ((go_at_call 27; exact Calls.quiet_of_same (is_nil _)))
  go_wp2
  go_ret
  exact ⟨rfl, (by repeat' (first | exact Mod.refl _ _ | assumption | refine Mod.drewN ?_ _ | refine Mod.drew ?_ | refine Mod.alloc ?_ _ | refine Mod.setCell ?_ (by simp) _ | refine Mod.setBlock ?_ (by simp) _))⟩
set_option maxRecDepth 8000 in
theorem take_zero (w : World) (m : Msg) (b : Nat) (h : w.cell? ⟨b, 0, none⟩ = some (.int .i64 0)) : Calls Try.prog 22 #[.pointer (some ⟨b, 0, none⟩), .agg m.cells.toArray] w fun e w' => e = .returned (.slice none 0 0) ∧ Mod [] w w' := by
  obtain ⟨kind, from_, val⟩ := m
  have h' : ∀ o, (w.alloc o).cell? ⟨b, 0, none⟩ = some (.int .i64 0) := fun o => Mod.cell (Mod.alloc (Mod.refl [] w) o) h (by simp)
  simp only [Msg.cells]
  go_enter Try.func22, Try.ntmps22
  go_wp2_with fail
  go_quiet ((go_at_call 27; exact Calls.quiet_of_same (is_zero b 0 _ (by omega) (by go_simp))))
  go_wp2
  go_ret
  exact ⟨rfl, (by repeat' (first | exact Mod.refl _ _ | assumption | refine Mod.drewN ?_ _ | refine Mod.drew ?_ | refine Mod.alloc ?_ _ | refine Mod.setCell ?_ (by simp) _ | refine Mod.setBlock ?_ (by simp) _))⟩

set_option maxHeartbeats 1000000 in
theorem void_any (W : World) (m : Msg) : Calls Try.prog 8 #[.agg m.cells.toArray] W fun e W' => e = .returned (.bool true) ∧ Mod [] W W' := by
  obtain ⟨kind, from_, val⟩ := m
  simp only [Msg.cells]
  go_enter Try.func8, Try.ntmps8
  go_wp2_with (first
    | (go_at_call 9; refine (works_any _).mono ?_; rintro e w1 ⟨rfl, hm1⟩; have z1 : (w1.alloc (.cells #[.int .i64 0, .int .i64 0, .int .i64 0, .int .i64 0, .map none, .map none, .bool false, .bool false, .string ⟨#[]⟩, .bool false, .string ⟨#[]⟩, .bool false, .string ⟨#[]⟩, .bool false] 66)).cell? ⟨w1.heap.size, 0, none⟩ = some (.int .i64 0) := (cell_at (get_new w1 (.cells #[.int .i64 0, .int .i64 0, .int .i64 0, .int .i64 0, .map none, .map none, .bool false, .bool false, .string ⟨#[]⟩, .bool false, .string ⟨#[]⟩, .bool false, .string ⟨#[]⟩, .bool false] 66)) 0).trans rfl; have HM1 := hid hm1; clear hm1)
    | (go_at_call 16; have q := z2'; clear q; refine (start_zero (w2.alloc (.cells #[.int .i64 0, .int .i64 0, .string ⟨#[]⟩] 36)) ⟨#[]⟩ w1.heap.size z2').mono ?_; rintro e w3 ⟨rfl, hm3⟩; have z3 : w3.cell? ⟨w1.heap.size, 0, none⟩ = some (.int .i64 0) := hm3.cell z2' (by simp); have z3' : (w3.alloc (.cells #[.int .i64 0, .int .i64 0, .string ⟨#[]⟩] 36)).cell? ⟨w1.heap.size, 0, none⟩ = some (.int .i64 0) := Mod.cell (Mod.alloc (Mod.refl [] w3) _) z3 (by simp); have HM3 := hid hm3; clear hm3)
    | (go_at_call 16; refine (start_nil (w1.alloc (.cells #[.int .i64 0, .int .i64 0, .int .i64 0, .int .i64 0, .map none, .map none, .bool false, .bool false, .string ⟨#[]⟩, .bool false, .string ⟨#[]⟩, .bool false, .string ⟨#[]⟩, .bool false] 66)) ⟨#[]⟩).mono ?_; rintro e w2 ⟨rfl, hm2⟩; have z2 : w2.cell? ⟨w1.heap.size, 0, none⟩ = some (.int .i64 0) := hm2.cell z1 (by simp); have z2' : (w2.alloc (.cells #[.int .i64 0, .int .i64 0, .string ⟨#[]⟩] 36)).cell? ⟨w1.heap.size, 0, none⟩ = some (.int .i64 0) := Mod.cell (Mod.alloc (Mod.refl [] w2) _) z2 (by simp); have HM2 := hid hm2; clear hm2)
    | (go_at_call 18; refine (value_nil (w3.alloc (.cells #[.int .i64 0, .int .i64 0, .string ⟨#[]⟩] 36))).mono ?_; rintro e w4 ⟨rfl, hm4⟩; have z4 : w4.cell? ⟨w1.heap.size, 0, none⟩ = some (.int .i64 0) := hm4.cell z3' (by simp); have HM4 := hid hm4; clear hm4)
    | (go_at_call 24; refine (echoed_zero w4 _ z4).mono ?_; rintro e w5 ⟨rfl, hm5⟩; have z5 : w5.cell? ⟨w1.heap.size, 0, none⟩ = some (.int .i64 0) := hm5.cell z4 (by simp); have HM5 := hid hm5; clear hm5)
    | (go_at_call 25; refine (readied_nil w5).mono ?_; rintro e w6 ⟨rfl, hm6⟩; have z6 : w6.cell? ⟨w1.heap.size, 0, none⟩ = some (.int .i64 0) := hm6.cell z5 (by simp); have HM6 := hid hm6; clear hm6))
  have hM : Mod [] (W.alloc (.cells #[.int .i64 kind, .int .i64 from_, .string val] 36)) w6 := ((((((HM1.out.alloc _).trans HM2.out).alloc _).trans HM3.out).alloc _).trans HM4.out |>.trans HM5.out |>.trans HM6.out)
  have hb := hM.get (get_new W _) (by simp)
  have m0 : w6.cell? ⟨W.heap.size, 0, none⟩ = some (.int .i64 kind) := (cell_at hb 0).trans rfl
  have m1 : w6.cell? ⟨W.heap.size, 1, none⟩ = some (.int .i64 from_) := (cell_at hb 1).trans rfl
  have m2 : w6.cell? ⟨W.heap.size, 2, none⟩ = some (.string val) := (cell_at hb 2).trans rfl
  have HM := hid hM
  clear z1 z2 z2' z3 z3' z4 z5 hM hb HM1 HM2 HM3 HM4 HM5 HM6
  go_region_held3 (fun w' => w'.cell? ⟨W.heap.size, 0, none⟩ = some (.int .i64 kind) ∧ w'.cell? ⟨W.heap.size, 1, none⟩ = some (.int .i64 from_) ∧ w'.cell? ⟨W.heap.size, 2, none⟩ = some (.string val) ∧ w'.cell? ⟨w1.heap.size, 0, none⟩ = some (.int .i64 0))
    (first
      | exact ⟨m0, m1, m2, z6⟩
      | exact ⟨hm7.cell m0 (by simp), hm7.cell m1 (by simp), hm7.cell m2 (by simp), hm7.cell z6 (by simp)⟩
      | exact ⟨hm8.cell (hm7.cell m0 (by simp)) (by simp), hm8.cell (hm7.cell m1 (by simp)) (by simp), hm8.cell (hm7.cell m2 (by simp)) (by simp), hm8.cell (hm7.cell z6 (by simp)) (by simp)⟩)
    (first
      | (go_at_call 22; have q := hm7; clear q; refine (take_zero w7 ⟨kind, from_, val⟩ w1.heap.size (hm7.cell z6 (by simp))).mono ?_; rintro e w8 ⟨rfl, hm8⟩)
      | (go_at_call 22; refine (take_nil w6.drew ⟨kind, from_, val⟩).mono ?_; rintro e w7 ⟨rfl, hm7⟩))
  all_goals
    go_wp2_with fail
    go_ret
    exact ⟨rfl, ((Mod.alloc (Mod.refl [] W) _).trans HM.out).trans (((Mod.refl [] w6).drew.trans hm7).trans hm8)⟩
end Go.Proofs.Ytcgfjalglnlofaa
