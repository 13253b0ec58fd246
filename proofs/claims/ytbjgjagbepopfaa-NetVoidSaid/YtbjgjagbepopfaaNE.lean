/-
  A net, walked: a net that no call made. No statement of a claim stands here; each contract names what it asks.
-/
import Derived.Test.YtbjgjagbepopfaaNB
set_option linter.unusedSimpArgs false
namespace Go.Proofs.Ytbjgjagbepopfaa
open Go Go.RowKit Go.ChangeMaps

abbrev zeroV : Value := .agg #[.int .i64 0, .int .i64 0, .int .i64 0, .string ⟨#[]⟩]


theorem send_nil (w : World) (m : Msg) : Calls Try.prog 13 #[.pointer none, m.v] w fun e w' => e = .returned (.tuple #[.int .i64 0, .int .i64 1]) ∧ Mod [] w w' := by
  unfold Msg.v
  go_enter Try.func13, Try.ntmps13
  go_wp2_with (first | (go_at_call 34; refine (among_nil _ _).mono ?_; rintro e w' ⟨rfl, rfl⟩))
  go_ret2
  exact ⟨rfl, by first | exact Mod.refl _ _ | exact ((Mod.refl _ _).alloc _) | exact (((Mod.refl _ _).alloc _).alloc _)⟩
theorem send_zero (w : World) (b : Nat) (m : Msg) (hz : w.cell? ⟨b, 6, none⟩ = some (.map none)) : Calls Try.prog 13 #[.pointer (some ⟨b, 0, none⟩), m.v] w fun e w' => e = .returned (.tuple #[.int .i64 0, .int .i64 1]) ∧ Mod [] w w' := by
  have hc : ((w.alloc (msgObj m)).alloc (.cells #[.int .i64 m.frm, .int .i64 m.to] 3)).cell? ⟨b, 6, none⟩ = some (.map none) := (((Mod.refl [] w).alloc _).alloc _).cell hz (by simp)
  clear hz
  unfold Msg.v
  go_enter Try.func13, Try.ntmps13
  go_wp2_with (first | (go_at_call 34; refine (among_zero _ _ _ hc).mono ?_; rintro e w' ⟨rfl, rfl⟩))
  go_ret2
  exact ⟨rfl, by first | exact Mod.refl _ _ | exact ((Mod.refl _ _).alloc _) | exact (((Mod.refl _ _).alloc _).alloc _)⟩
theorem take_nil (w : World) (k : Int) : Calls Try.prog 15 #[.pointer none, .int .i64 k] w fun e w' => e = .returned (.tuple #[zeroV, .int .i64 1]) ∧ Mod [] w w' := by
  go_enter Try.func15, Try.ntmps15
  go_wp2_with (first | (go_at_call 37; refine (is_nil _).mono ?_; rintro e w' ⟨rfl, rfl⟩))
  refine bodyPost_ret (v := .tuple #[.agg #[.int .i64 0, .int .i64 0, .int .i64 0, .string ⟨#[]⟩], .int .i64 1]) (by simp [results, Try.results15, go_sem]) rfl ⟨rfl, by first | exact Mod.refl _ _ | exact ((Mod.refl _ _).alloc _) | exact (((Mod.refl _ _).alloc _).alloc _)⟩
theorem lookm_nil (w : World) (k : Int) : Calls Try.prog 25 #[.pointer none, .int .i64 k] w fun e w' => e = .returned (.tuple #[zeroV, .int .i64 1]) ∧ Mod [] w w' := by
  go_enter Try.func25, Try.ntmps25
  go_wp2_with (first | (go_at_call 37; refine (is_nil _).mono ?_; rintro e w' ⟨rfl, rfl⟩))
  refine bodyPost_ret (v := .tuple #[.agg #[.int .i64 0, .int .i64 0, .int .i64 0, .string ⟨#[]⟩], .int .i64 1]) (by simp [results, Try.results25, go_sem]) rfl ⟨rfl, by first | exact Mod.refl _ _ | exact ((Mod.refl _ _).alloc _) | exact (((Mod.refl _ _).alloc _).alloc _)⟩
theorem copy_zero (w : World) (b : Nat) (k : Int) (hc : w.cell? ⟨b, 6, none⟩ = some (.map none)) : Calls Try.prog 17 #[.pointer (some ⟨b, 0, none⟩), .int .i64 k] w fun e w' => e = .returned (.tuple #[.int .i64 0, .int .i64 1]) ∧ Mod [] w w' := by
  go_enter Try.func17, Try.ntmps17
  go_wp2_with (first | (go_at_call 37; refine (is_zero _ _ hc).mono ?_; rintro e w' ⟨rfl, rfl⟩))
  go_ret2
  exact ⟨rfl, by first | exact Mod.refl _ _ | exact ((Mod.refl _ _).alloc _) | exact (((Mod.refl _ _).alloc _).alloc _)⟩
theorem oldest_nil (w : World) (k : Int) : Calls Try.prog 14 #[.pointer none, .int .i64 k] w fun e w' => e = .returned (.tuple #[.int .i64 0, .int .i64 1]) ∧ Mod [] w w' := by
  go_enter Try.func14, Try.ntmps14
  go_wp2_with (first | (go_at_call 34; refine (among_nil _ _).mono ?_; rintro e w' ⟨rfl, rfl⟩))
  go_ret2
  exact ⟨rfl, by first | exact Mod.refl _ _ | exact ((Mod.refl _ _).alloc _) | exact (((Mod.refl _ _).alloc _).alloc _)⟩
theorem count_zero (w : World) (b : Nat) (hc : w.cell? ⟨b, 6, none⟩ = some (.map none)) : Calls Try.prog 20 #[.pointer (some ⟨b, 0, none⟩)] w fun e w' => e = .returned (.tuple #[.int .i64 0, .int .i64 0, .int .i64 0]) ∧ Mod [] w w' := by
  go_enter Try.func20, Try.ntmps20
  go_wp2_with (first | (go_at_call 37; refine (is_zero _ _ hc).mono ?_; rintro e w' ⟨rfl, rfl⟩))
  go_ret3
  exact ⟨rfl, by first | exact Mod.refl _ _ | exact ((Mod.refl _ _).alloc _) | exact (((Mod.refl _ _).alloc _).alloc _)⟩
theorem cut_nil (w : World) (k j : Int) (on : Bool) : Calls Try.prog 19 #[.pointer none, .int .i64 k, .int .i64 j, .bool on] w fun e w' => e = .returned (.int .i64 1) ∧ Mod [] w w' := by
  go_enter Try.func19, Try.ntmps19
  go_wp2_with (first | (go_at_call 34; refine (among_nil _ _).mono ?_; rintro e w' ⟨rfl, rfl⟩))
  go_ret
  exact ⟨rfl, by first | exact Mod.refl _ _ | exact ((Mod.refl _ _).alloc _) | exact (((Mod.refl _ _).alloc _).alloc _)⟩
theorem down_zero (w : World) (b : Nat) (k : Int) (on : Bool) (hz : w.cell? ⟨b, 6, none⟩ = some (.map none)) : Calls Try.prog 21 #[.pointer (some ⟨b, 0, none⟩), .int .i64 k, .bool on] w fun e w' => e = .returned (.int .i64 1) ∧ Mod [] w w' := by
  have hc : (w.alloc (.cells #[.int .i64 k] 3)).cell? ⟨b, 6, none⟩ = some (.map none) := ((Mod.refl [] w).alloc _).cell hz (by simp)
  clear hz
  go_enter Try.func21, Try.ntmps21
  go_wp2_with (first | (go_at_call 34; refine (among_zero _ _ _ hc).mono ?_; rintro e w' ⟨rfl, rfl⟩))
  go_ret
  exact ⟨rfl, by first | exact Mod.refl _ _ | exact ((Mod.refl _ _).alloc _) | exact (((Mod.refl _ _).alloc _).alloc _)⟩
theorem waiting_nil (w : World) (k : Int) : Calls Try.prog 16 #[.pointer none, .int .i64 k] w fun e w' => e = .returned (.slice none 0 0) ∧ Mod [] w w' := by
  go_enter Try.func16, Try.ntmps16
  go_wp2_with (first | (go_at_call 37; refine (is_nil _).mono ?_; rintro e w' ⟨rfl, rfl⟩))
  go_ret
  exact ⟨rfl, by first | exact Mod.refl _ _ | exact ((Mod.refl _ _).alloc _) | exact (((Mod.refl _ _).alloc _).alloc _)⟩
theorem waiting_zero (w : World) (b : Nat) (k : Int) (hc : w.cell? ⟨b, 6, none⟩ = some (.map none)) : Calls Try.prog 16 #[.pointer (some ⟨b, 0, none⟩), .int .i64 k] w fun e w' => e = .returned (.slice none 0 0) ∧ Mod [] w w' := by
  go_enter Try.func16, Try.ntmps16
  go_wp2_with (first | (go_at_call 37; refine (is_zero _ _ hc).mono ?_; rintro e w' ⟨rfl, rfl⟩))
  go_ret
  exact ⟨rfl, by first | exact Mod.refl _ _ | exact ((Mod.refl _ _).alloc _) | exact (((Mod.refl _ _).alloc _).alloc _)⟩
end Go.Proofs.Ytbjgjagbepopfaa
