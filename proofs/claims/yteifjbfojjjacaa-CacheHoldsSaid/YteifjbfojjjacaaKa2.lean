/-
  A replay cache, walked: is, Make, Has, Len, See. No statement of a claim stands here; each contract names what it asks.
-/
import Derived.Test.YteifjbfojjjacaaKa1
set_option linter.unusedSimpArgs false
namespace Go.Proofs.Yteifjbfojjjacaa
open Go Go.RowKit Go.ChangeMaps

theorem map_is (b : Nat) (w : World) : (binOp .neq 65 (.map (some b)) (.map none)).run Try.prog w = Result.ok (.bool true) w := by
  first
    | rfl
    | kernel_rfl
theorem map_not (w : World) : (binOp .neq 65 (.map none) (.map none)).run Try.prog w = Result.ok (.bool false) w := by
  first
    | rfl
    | kernel_rfl
theorem ris_some (w : World) (x b : Nat) (hc : w.cell? ⟨x, 2, none⟩ = some (.map (some b))) :
    Calls Try.prog 33 #[.pointer (some ⟨x, 0, none⟩)] w fun e w' => e = .returned (.bool true) ∧ w' = w := by
  have hq := map_is b
  go_enter Try.func33, Try.ntmps33
  go_wp2
  go_ret
  exact ⟨rfl, rfl⟩
theorem ris_zero (w : World) (x : Nat) (hc : w.cell? ⟨x, 2, none⟩ = some (.map none)) :
    Calls Try.prog 33 #[.pointer (some ⟨x, 0, none⟩)] w fun e w' => e = .returned (.bool false) ∧ w' = w := by
  have hq := map_not
  go_enter Try.func33, Try.ntmps33
  go_wp2
  go_ret
  exact ⟨rfl, rfl⟩
theorem ris_nil (w : World) : Calls Try.prog 33 #[.pointer none] w fun e w' => e = .returned (.bool false) ∧ w' = w := by
  go_enter Try.func33, Try.ntmps33
  go_wp2
  go_ret
  exact ⟨rfl, rfl⟩

theorem times1 (w : World) (n : Int) : Calls Try.prog 30 #[.slice (some ⟨w.heap.size, 0, none⟩) 1 1] (w.alloc (.cells #[.int .i64 n] 3)) fun e w' => e = .returned (.bool (timeOk n)) ∧ w' = w.alloc (.cells #[.int .i64 n] 3) := by
  have := times_any (w.alloc (.cells #[.int .i64 n] 3)) w.heap.size 1 [n] (fun i m hi => by
    have hg := get_new w (.cells #[.int .i64 n] 3)
    rw [cell_at hg]
    match i, hi with
    | 0, hi => cases hi; rfl
    | i + 1, hi => simp at hi) (by simp)
  simpa using this
theorem times2 (w : World) (n m : Int) : Calls Try.prog 30 #[.slice (some ⟨w.heap.size, 0, none⟩) 2 2] (w.alloc (.cells #[.int .i64 n, .int .i64 m] 3)) fun e w' => e = .returned (.bool (timeOk n && timeOk m)) ∧ w' = w.alloc (.cells #[.int .i64 n, .int .i64 m] 3) := by
  have := times_any (w.alloc (.cells #[.int .i64 n, .int .i64 m] 3)) w.heap.size 2 [n, m] (fun i k hi => by
    have hg := get_new w (.cells #[.int .i64 n, .int .i64 m] 3)
    rw [cell_at hg]
    match i, hi with
    | 0, hi => cases hi; rfl
    | 1, hi => cases hi; rfl
    | i + 2, hi => simp at hi) (by simp)
  simpa using this

theorem makeRep_yes (room window : Int) (w : World) (h1 : roomOk room = true) (h2 : timeOk window = true) :
    Calls Try.prog 9 #[.int .i64 room, .int .i64 window] w fun e w' => ∃ x b, e = .returned (.tuple #[.pointer (some ⟨x, 0, none⟩), .int .i64 0]) ∧ RepAt w' x b (newRep room window) ∧ Mod [] w w' ∧ w.heap.size ≤ x ∧ w.heap.size ≤ b := by
  have hmm := @run_makeMap Try.prog
  have H1 := hid h1
  have H2 := hid h2
  clear h1 h2
  go_enter Try.func9, Try.ntmps9
  go_wp2_with (first
    | (go_at_call 29; refine (right_any _ _).mono ?_; rw [H1.out]; rintro e w' ⟨rfl, rfl⟩)
    | (go_at_call 30; refine (times1 w window).mono ?_; rw [H2.out]; rintro e w' ⟨rfl, rfl⟩))
  go_ret2
  refine ⟨w.heap.size + 1 + 1, w.heap.size + 1, rfl, ⟨?_, ?_⟩, (by repeat' (first | exact Mod.refl _ _ | assumption | refine Mod.drewN ?_ _ | refine Mod.drew ?_ | refine Mod.alloc ?_ _ | refine Mod.setCell ?_ (by simp) _ | refine Mod.setBlock ?_ (by simp) _)), by omega, by omega⟩
  · have := get_new ((w.alloc (.cells #[.int .i64 window] 3)).alloc (.map #[] 0)) (.cells #[.int .i64 room, .int .i64 window, .map (some (w.heap.size + 1))] 67)
    simp only [World.size_alloc] at this
    exact this
  · have := get_alloc (get_new (w.alloc (.cells #[.int .i64 window] 3)) (.map #[] 0)) (.cells #[.int .i64 room, .int .i64 window, .map (some (w.heap.size + 1))] 67)
    simp only [World.size_alloc] at this
    exact this

theorem makeRep_no (room window : Int) (w : World) (h : (roomOk room && timeOk window) = false) :
    Calls Try.prog 9 #[.int .i64 room, .int .i64 window] w fun e w' => e = .returned (.tuple #[.pointer none, .int .i64 2]) ∧ Mod [] w w' := by
  have hmm := @run_makeMap Try.prog
  cases h1 : roomOk room with
  | false =>
    have H1 := hid h1
    clear h h1
    go_enter Try.func9, Try.ntmps9
    go_wp2_with (first
      | (go_at_call 29; refine (right_any _ _).mono ?_; rw [H1.out]; rintro e w' ⟨rfl, rfl⟩))
    go_ret2
    exact ⟨rfl, Mod.refl _ _⟩
  | true =>
    have H1 := hid h1
    have H2 := hid (show timeOk window = false by simpa [h1] using h)
    clear h h1
    go_enter Try.func9, Try.ntmps9
    go_wp2_with (first
      | (go_at_call 29; refine (right_any _ _).mono ?_; rw [H1.out]; rintro e w' ⟨rfl, rfl⟩)
      | (go_at_call 30; refine (times1 w window).mono ?_; rw [H2.out]; rintro e w' ⟨rfl, rfl⟩))
    go_ret2
    exact ⟨rfl, (by repeat' (first | exact Mod.refl _ _ | assumption | refine Mod.drewN ?_ _ | refine Mod.drew ?_ | refine Mod.alloc ?_ _ | refine Mod.setCell ?_ (by simp) _ | refine Mod.setBlock ?_ (by simp) _))⟩

theorem rlen_any (w : World) (x b : Nat) (s : RepS) (h : RepAt w x b s) :
    Calls Try.prog 14 #[.pointer (some ⟨x, 0, none⟩)] w fun e w' => e = .returned (.int .i64 (s.l.length : Int)) ∧ w' = w := by
  have c2 : w.cell? ⟨x, 2, none⟩ = some (.map (some b)) := cell_at h.cells 2
  have hl := run_len_map (P := Try.prog) (ty := 3) Try.underlying65 h.map
  clear h
  go_enter Try.func14, Try.ntmps14
  go_wp2_with (first | (go_at_call 33; refine (ris_some _ _ b c2).mono ?_; rintro e w' ⟨rfl, rfl⟩))
  go_ret
  exact ⟨rfl, rfl⟩

theorem rhas_any (w : World) (x b : Nat) (s : RepS) (id : ByteArray) (h : RepAt w x b s) :
    Calls Try.prog 15 #[.pointer (some ⟨x, 0, none⟩), .string id] w fun e w' => e = .returned (.bool (look s.l id).isSome) ∧ w' = w := by
  have c2 : w.cell? ⟨x, 2, none⟩ = some (.map (some b)) := cell_at h.cells 2
  cases hk : look s.l id with
  | none =>
    have hl := run_look_no kStr Try.underlying65 (zInt w) h.map id hk
    clear h hk
    go_enter Try.func15, Try.ntmps15
    go_wp2_with (first | (go_at_call 33; refine (ris_some _ _ b c2).mono ?_; rintro e w' ⟨rfl, rfl⟩))
    go_ret
    exact ⟨rfl, rfl⟩
  | some v =>
    have hl := run_look_ok kStr Try.underlying65 h.map id hk
    clear h hk
    go_enter Try.func15, Try.ntmps15
    go_wp2_with (first | (go_at_call 33; refine (ris_some _ _ b c2).mono ?_; rintro e w' ⟨rfl, rfl⟩))
    go_ret
    exact ⟨rfl, rfl⟩

theorem rlen_nil (w : World) : Calls Try.prog 14 #[.pointer none] w fun e w' => e = .returned (.int .i64 0) ∧ Mod [] w w' := by
  go_enter Try.func14, Try.ntmps14
  go_wp2_with (first | (go_at_call 33; refine (ris_nil _).mono ?_; rintro e w' ⟨rfl, rfl⟩))
  go_ret; exact ⟨rfl, Mod.refl _ _⟩
theorem rlen_zero (w : World) (x : Nat) (hc : w.cell? ⟨x, 2, none⟩ = some (.map none)) : Calls Try.prog 14 #[.pointer (some ⟨x, 0, none⟩)] w fun e w' => e = .returned (.int .i64 0) ∧ Mod [] w w' := by
  go_enter Try.func14, Try.ntmps14
  go_wp2_with (first | (go_at_call 33; refine (ris_zero _ _ hc).mono ?_; rintro e w' ⟨rfl, rfl⟩))
  go_ret; exact ⟨rfl, Mod.refl _ _⟩
theorem rhas_nil (w : World) (id : ByteArray) : Calls Try.prog 15 #[.pointer none, .string id] w fun e w' => e = .returned (.bool false) ∧ Mod [] w w' := by
  go_enter Try.func15, Try.ntmps15
  go_wp2_with (first | (go_at_call 33; refine (ris_nil _).mono ?_; rintro e w' ⟨rfl, rfl⟩))
  go_ret; exact ⟨rfl, Mod.refl _ _⟩
theorem rhas_zero (w : World) (x : Nat) (id : ByteArray) (hc : w.cell? ⟨x, 2, none⟩ = some (.map none)) : Calls Try.prog 15 #[.pointer (some ⟨x, 0, none⟩), .string id] w fun e w' => e = .returned (.bool false) ∧ Mod [] w w' := by
  go_enter Try.func15, Try.ntmps15
  go_wp2_with (first | (go_at_call 33; refine (ris_zero _ _ hc).mono ?_; rintro e w' ⟨rfl, rfl⟩))
  go_ret; exact ⟨rfl, Mod.refl _ _⟩
theorem see_nil (w : World) (id : ByteArray) (t now : Int) : Calls Try.prog 12 #[.pointer none, .string id, .int .i64 t, .int .i64 now] w fun e w' => e = .returned (.tuple #[.int .i64 0, .int .i64 1]) ∧ Mod [] w w' := by
  go_enter Try.func12, Try.ntmps12
  go_wp2_with (first | (go_at_call 33; refine (ris_nil _).mono ?_; rintro e w' ⟨rfl, rfl⟩))
  go_ret2
  exact ⟨rfl, Mod.refl _ _⟩
theorem see_zero (w : World) (x : Nat) (id : ByteArray) (t now : Int) (hc : w.cell? ⟨x, 2, none⟩ = some (.map none)) : Calls Try.prog 12 #[.pointer (some ⟨x, 0, none⟩), .string id, .int .i64 t, .int .i64 now] w fun e w' => e = .returned (.tuple #[.int .i64 0, .int .i64 1]) ∧ Mod [] w w' := by
  go_enter Try.func12, Try.ntmps12
  go_wp2_with (first | (go_at_call 33; refine (ris_zero _ _ hc).mono ?_; rintro e w' ⟨rfl, rfl⟩))
  go_ret2
  exact ⟨rfl, Mod.refl _ _⟩
end Go.Proofs.Yteifjbfojjjacaa
