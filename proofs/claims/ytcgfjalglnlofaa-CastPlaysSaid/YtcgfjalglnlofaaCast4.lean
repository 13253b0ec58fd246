/-
  A broadcast's node, walked further: Make, Start, Value, Echoed, Readied. No statement of a claim stands here; each contract names what it asks.
-/
import Derived.Test.YtcgfjalglnlofaaCast2
set_option linter.unusedSimpArgs false
namespace Go.Proofs.Ytcgfjalglnlofaa
open Go Go.RowKit

theorem within_any (c : Nat) (k n : Int) (w : World) (hc : w.cell? ⟨c, 0, none⟩ = some (.int .i64 n)) :
    Calls Try.prog 28 #[.int .i64 k, .pointer (some ⟨c, 0, none⟩)] w fun e w' => e = .returned (.bool (decide (1 ≤ k) && decide (k ≤ n))) ∧ w = w' := by
  by_cases h1 : 1 ≤ k
  · have d1 : decide (1 ≤ k) = true := by simpa using h1
    go_enter Try.func28, Try.ntmps28
    go_wp2
    go_ret
    exact ⟨by simp [h1], rfl⟩
  · have d1 : decide (1 ≤ k) = false := by simpa using h1
    go_enter Try.func28, Try.ntmps28
    go_wp2
    go_ret
    exact ⟨by simp [h1], rfl⟩

def within (n k : Int) : Bool := decide (1 ≤ k) && decide (k ≤ n)
def goodNode (n t me dealer : Int) : Bool := decide (0 ≤ t) && decide (t ≤ 5) && decide (3 * t + 1 ≤ n) && decide (n ≤ 16) && within n me && within n dealer

def newNode (n t me dealer : Int) : NodeS := ⟨n, t, me, dealer, [], [], false, false, ByteArray.empty, false, ByteArray.empty, false, ByteArray.empty, false⟩

theorem make_yes (n t me dealer : Int) (w : World) (h : goodNode n t me dealer = true) :
    Calls Try.prog 19 #[.int .i64 n, .int .i64 t, .int .i64 me, .int .i64 dealer] w fun e w' => ∃ x be br, e = .returned (.tuple #[.pointer (some ⟨x, 0, none⟩), .int .i64 0]) ∧
      NodeAt w' x be br (newNode n t me dealer) ∧ Mod [] w w' ∧ w.heap.size ≤ x ∧ w.heap.size ≤ be ∧ w.heap.size ≤ br := by
  simp only [goodNode, within, Bool.and_eq_true, decide_eq_true_eq] at h
  obtain ⟨⟨⟨⟨⟨h1, h2⟩, h3⟩, h4⟩, h5, h6⟩, h7, h8⟩ := h
  have d1 : decide (t < 0) = false := by simp; omega
  have d2 : decide (5 < t) = false := by simp; omega
  have d3 : decide (n < 3 * t + 1) = false := by simp; omega
  have d4 : decide (16 < n) = false := by simp; omega
  have d5 : (decide (1 ≤ me) && decide (me ≤ n)) = true := by simp; omega
  have d6 : (decide (1 ≤ dealer) && decide (dealer ≤ n)) = true := by simp; omega
  have hmm := @run_makeMap Try.prog
  go_enter Try.func19, Try.ntmps19
  go_wp2_with (first
    | (go_at_call 28; refine (within_any _ _ n _ ?_).mono ?_; go_simp; rintro e w' ⟨rfl, rfl⟩))
  go_ret2
  refine ⟨w.heap.size + 1 + 1 + 1, w.heap.size + 1, w.heap.size + 1 + 1, rfl, ⟨?_, ?_, ?_, by omega, by omega, by omega⟩, (by repeat' (first | exact Mod.refl _ _ | assumption | refine Mod.drewN ?_ _ | refine Mod.drew ?_ | refine Mod.alloc ?_ _ | refine Mod.setCell ?_ (by simp) _ | refine Mod.setBlock ?_ (by simp) _)), by omega, by omega, by omega⟩
  · have := get_new (((w.alloc (Obj.cells #[Value.int IntKind.i64 n] 3)).alloc (Obj.map #[] 0)).alloc (Obj.map #[] 0)) (.cells (nodeCells (newNode n t me dealer) (w.heap.size + 1) (w.heap.size + 1 + 1)) 66)
    simp only [World.size_alloc] at this
    exact this
  · have := get_alloc (get_alloc (get_new (w.alloc (Obj.cells #[Value.int IntKind.i64 n] 3)) (Obj.map #[] 0)) (Obj.map #[] 0)) (.cells (nodeCells (newNode n t me dealer) (w.heap.size + 1) (w.heap.size + 1 + 1)) 66)
    simp only [World.size_alloc] at this
    exact this
  · have := get_alloc (get_new ((w.alloc (Obj.cells #[Value.int IntKind.i64 n] 3)).alloc (Obj.map #[] 0)) (Obj.map #[] 0)) (.cells (nodeCells (newNode n t me dealer) (w.heap.size + 1) (w.heap.size + 1 + 1)) 66)
    simp only [World.size_alloc] at this
    exact this


theorem make_no (n t me dealer : Int) (w : World) (h : goodNode n t me dealer = false) :
    Calls Try.prog 19 #[.int .i64 n, .int .i64 t, .int .i64 me, .int .i64 dealer] w fun e w' => e = .returned (.tuple #[.pointer none, .int .i64 2]) ∧ Mod [] w w' := by
  have hmm := @run_makeMap Try.prog
  by_cases h1 : t < 0
  · have d1 : decide (t < 0) = true := by simpa using h1
    clear h
    go_enter Try.func19, Try.ntmps19; go_wp2_with (first | (go_at_call 28; refine (within_any _ _ n _ ?_).mono ?_; go_simp; rintro e w' ⟨rfl, rfl⟩)); go_ret2; exact ⟨rfl, (by repeat' (first | exact Mod.refl _ _ | assumption | refine Mod.drewN ?_ _ | refine Mod.drew ?_ | refine Mod.alloc ?_ _ | refine Mod.setCell ?_ (by simp) _ | refine Mod.setBlock ?_ (by simp) _))⟩
  have d1 : decide (t < 0) = false := by simpa using h1
  by_cases h2 : 5 < t
  · have d2 : decide (5 < t) = true := by simpa using h2
    clear h
    go_enter Try.func19, Try.ntmps19; go_wp2_with (first | (go_at_call 28; refine (within_any _ _ n _ ?_).mono ?_; go_simp; rintro e w' ⟨rfl, rfl⟩)); go_ret2; exact ⟨rfl, (by repeat' (first | exact Mod.refl _ _ | assumption | refine Mod.drewN ?_ _ | refine Mod.drew ?_ | refine Mod.alloc ?_ _ | refine Mod.setCell ?_ (by simp) _ | refine Mod.setBlock ?_ (by simp) _))⟩
  have d2 : decide (5 < t) = false := by simpa using h2
  by_cases h3 : n < 3 * t + 1
  · have d3 : decide (n < 3 * t + 1) = true := by simpa using h3
    clear h
    go_enter Try.func19, Try.ntmps19; go_wp2_with (first | (go_at_call 28; refine (within_any _ _ n _ ?_).mono ?_; go_simp; rintro e w' ⟨rfl, rfl⟩)); go_ret2; exact ⟨rfl, (by repeat' (first | exact Mod.refl _ _ | assumption | refine Mod.drewN ?_ _ | refine Mod.drew ?_ | refine Mod.alloc ?_ _ | refine Mod.setCell ?_ (by simp) _ | refine Mod.setBlock ?_ (by simp) _))⟩
  have d3 : decide (n < 3 * t + 1) = false := by simpa using h3
  by_cases h4 : 16 < n
  · have d4 : decide (16 < n) = true := by simpa using h4
    clear h
    go_enter Try.func19, Try.ntmps19; go_wp2_with (first | (go_at_call 28; refine (within_any _ _ n _ ?_).mono ?_; go_simp; rintro e w' ⟨rfl, rfl⟩)); go_ret2; exact ⟨rfl, (by repeat' (first | exact Mod.refl _ _ | assumption | refine Mod.drewN ?_ _ | refine Mod.drew ?_ | refine Mod.alloc ?_ _ | refine Mod.setCell ?_ (by simp) _ | refine Mod.setBlock ?_ (by simp) _))⟩
  have d4 : decide (16 < n) = false := by simpa using h4
  cases h5 : within n me with
  | false =>
    have d5 : (decide (1 ≤ me) && decide (me ≤ n)) = false := h5
    clear h h5
    go_enter Try.func19, Try.ntmps19; go_wp2_with (first | (go_at_call 28; refine (within_any _ _ n _ ?_).mono ?_; go_simp; rintro e w' ⟨rfl, rfl⟩)); go_ret2; exact ⟨rfl, (by repeat' (first | exact Mod.refl _ _ | assumption | refine Mod.drewN ?_ _ | refine Mod.drew ?_ | refine Mod.alloc ?_ _ | refine Mod.setCell ?_ (by simp) _ | refine Mod.setBlock ?_ (by simp) _))⟩
  | true =>
    have d5 : (decide (1 ≤ me) && decide (me ≤ n)) = true := h5
    have d6 : (decide (1 ≤ dealer) && decide (dealer ≤ n)) = false := by
      cases h6 : within n dealer with
      | false => exact h6
      | true =>
        simp only [goodNode, h5, h6, Bool.and_true, Bool.and_eq_false_iff, decide_eq_false_iff_not] at h
        omega
    clear h h5
    go_enter Try.func19, Try.ntmps19; go_wp2_with (first | (go_at_call 28; refine (within_any _ _ n _ ?_).mono ?_; go_simp; rintro e w' ⟨rfl, rfl⟩)); go_ret2; exact ⟨rfl, (by repeat' (first | exact Mod.refl _ _ | assumption | refine Mod.drewN ?_ _ | refine Mod.drew ?_ | refine Mod.alloc ?_ _ | refine Mod.setCell ?_ (by simp) _ | refine Mod.setBlock ?_ (by simp) _))⟩

theorem value_any (w : World) (x be br : Nat) (s : NodeS) (h : NodeAt w x be br s) (hn : 0 < s.n) :
    Calls Try.prog 18 #[.pointer (some ⟨x, 0, none⟩)] w fun e w' => e = .returned (.tuple #[.string s.sv, .bool s.si]) ∧ Mod [] w w' := by
  obtain ⟨c0, c1, c2, c3, c4, c5, c6, c7, c8, c9, c10, c11, c12, c13, hf, hx⟩ := h.all
  clear h
  go_enter Try.func18, Try.ntmps18
  go_wp2_with (first | (go_at_call 27; refine (is_some _ _ _ hn c0).mono ?_; rintro e w' ⟨rfl, rfl⟩))
  go_quiet (fail)
  go_wp2
  go_ret2
  exact ⟨rfl, (by repeat' (first | exact Mod.refl _ _ | assumption | refine Mod.drewN ?_ _ | refine Mod.drew ?_ | refine Mod.alloc ?_ _ | refine Mod.setCell ?_ (by simp) _ | refine Mod.setBlock ?_ (by simp) _))⟩
theorem echoed_any (w : World) (x be br : Nat) (s : NodeS) (h : NodeAt w x be br s) (hn : 0 < s.n) :
    Calls Try.prog 24 #[.pointer (some ⟨x, 0, none⟩)] w fun e w' => e = .returned (.tuple #[.string s.ev, .bool s.ei]) ∧ Mod [] w w' := by
  obtain ⟨c0, c1, c2, c3, c4, c5, c6, c7, c8, c9, c10, c11, c12, c13, hf, hx⟩ := h.all
  clear h
  go_enter Try.func24, Try.ntmps24
  go_wp2_with (first | (go_at_call 27; refine (is_some _ _ _ hn c0).mono ?_; rintro e w' ⟨rfl, rfl⟩))
  go_quiet (fail)
  go_wp2
  go_ret2
  exact ⟨rfl, (by repeat' (first | exact Mod.refl _ _ | assumption | refine Mod.drewN ?_ _ | refine Mod.drew ?_ | refine Mod.alloc ?_ _ | refine Mod.setCell ?_ (by simp) _ | refine Mod.setBlock ?_ (by simp) _))⟩
theorem readied_any (w : World) (x be br : Nat) (s : NodeS) (h : NodeAt w x be br s) (hn : 0 < s.n) :
    Calls Try.prog 25 #[.pointer (some ⟨x, 0, none⟩)] w fun e w' => e = .returned (.tuple #[.string s.rv, .bool s.ri]) ∧ Mod [] w w' := by
  obtain ⟨c0, c1, c2, c3, c4, c5, c6, c7, c8, c9, c10, c11, c12, c13, hf, hx⟩ := h.all
  clear h
  go_enter Try.func25, Try.ntmps25
  go_wp2_with (first | (go_at_call 27; refine (is_some _ _ _ hn c0).mono ?_; rintro e w' ⟨rfl, rfl⟩))
  go_quiet (fail)
  go_wp2
  go_ret2
  exact ⟨rfl, (by repeat' (first | exact Mod.refl _ _ | assumption | refine Mod.drewN ?_ _ | refine Mod.drew ?_ | refine Mod.alloc ?_ _ | refine Mod.setCell ?_ (by simp) _ | refine Mod.setBlock ?_ (by simp) _))⟩

/-- Start (15.1). -/
def startS (s : NodeS) (v : ByteArray) : NodeS × Msg × Int :=
  if s.me ≠ s.dealer then (s, ⟨0, 0, ByteArray.empty⟩, 150)
  else if 4096 < v.size then (s, ⟨0, 0, ByteArray.empty⟩, 3)
  else if s.began then (s, ⟨0, 0, ByteArray.empty⟩, 6)
  else ({ s with began := true }, ⟨1, s.me, v⟩, 0)

def StartPost (w : World) (x be br : Nat) (s : NodeS) (v : ByteArray) (e : Ending) (w' : World) : Prop :=
  e = .returned (.tuple #[.agg (startS s v).2.1.cells.toArray, .int .i64 (startS s v).2.2]) ∧ NodeAt w' x be br (startS s v).1 ∧ Mod [x] w w'


theorem start_post {w W : World} {x be br : Nat} {s s' : NodeS} {v : ByteArray} {m : Msg} {k : Int} (hs : startS s v = (s', m, k)) (h : NodeAt W x be br s') (hm : Mod [x] w W) :
    StartPost w x be br s v (.returned (.tuple #[.agg #[.int .i64 m.kind, .int .i64 m.from_, .string m.val], .int .i64 k])) W := ⟨by rw [hs]; rfl, by rw [hs]; exact h, hm⟩

set_option maxHeartbeats 1000000 in
theorem start_any (w : World) (x be br : Nat) (s : NodeS) (v : ByteArray) (h : NodeAt w x be br s) (hn : 0 < s.n) (hv : v.size ≤ 9223372036854775807) :
    Calls Try.prog 16 #[.pointer (some ⟨x, 0, none⟩), .string v] w (StartPost w x be br s v) := by
  obtain ⟨n, t, me, dealer, E, R, began, heard, ev, ei, rv, ri, sv, si⟩ := s
  obtain ⟨c0, c1, c2, c3, c4, c5, c6, c7, c8, c9, c10, c11, c12, c13, hf, hx⟩ := h.all
  dsimp only at hn c0 c2 c3 c6
  have HN := hid h
  clear h c1 c4 c5 c7 c8 c9 c10 c11 c12 c13
  have hidle : ∀ W, Mod [w.heap.size] w W → NodeAt W x be br ⟨n, t, me, dealer, E, R, began, heard, ev, ei, rv, ri, sv, si⟩ ∧ Mod [x] w W := fun W hm =>
    ⟨HN.out.mod hm (by simp; omega) (by have := lt_of_block HN.out.e; simp; omega) (by have := lt_of_block HN.out.r; simp; omega), hm.mono (by simp)⟩
  have HI := hid hidle
  clear hidle
  by_cases h1 : me = dealer
  · have d1 : (me != dealer) = false := by simpa using h1
    by_cases h2 : 4096 < v.size
    · have d2 : decide ((4096 : Int) < (v.size : Int)) = true := by simp; omega
      have HS := hid (show startS ⟨n, t, me, dealer, E, R, began, heard, ev, ei, rv, ri, sv, si⟩ v = (⟨n, t, me, dealer, E, R, began, heard, ev, ei, rv, ri, sv, si⟩, ⟨0, 0, ByteArray.empty⟩, 3) by simp [startS, h1, h2])
      clear h1
      go_enter Try.func16, Try.ntmps16; go_wp2_with (first | (go_at_call 27; refine (is_some _ _ _ hn ?_).mono ?_; go_simp; rintro e w' ⟨rfl, rfl⟩)); go_quiet (fail); go_wp2
      refine bodyPost_ret (v := .tuple #[.agg #[.int .i64 0, .int .i64 0, .string ByteArray.empty], .int .i64 3]) (by simp [results, Try.results16, go_sem]; rfl) rfl (start_post HS.out (HI.out _ ?_).1 (HI.out _ ?_).2) <;> exact (by repeat' (first | exact Mod.refl _ _ | assumption | refine Mod.drewN ?_ _ | refine Mod.drew ?_ | refine Mod.alloc ?_ _ | refine Mod.setCell ?_ (by simp) _ | refine Mod.setBlock ?_ (by simp) _))
    · have d2 : decide ((4096 : Int) < (v.size : Int)) = false := by simp; omega
      cases began with
      | true =>
        have HS := hid (show startS ⟨n, t, me, dealer, E, R, true, heard, ev, ei, rv, ri, sv, si⟩ v = (⟨n, t, me, dealer, E, R, true, heard, ev, ei, rv, ri, sv, si⟩, ⟨0, 0, ByteArray.empty⟩, 6) by simp [startS, h1, h2])
        clear h1
        go_enter Try.func16, Try.ntmps16; go_wp2_with (first | (go_at_call 27; refine (is_some _ _ _ hn ?_).mono ?_; go_simp; rintro e w' ⟨rfl, rfl⟩)); go_quiet (fail); go_wp2
        refine bodyPost_ret (v := .tuple #[.agg #[.int .i64 0, .int .i64 0, .string ByteArray.empty], .int .i64 6]) (by simp [results, Try.results16, go_sem]; rfl) rfl (start_post HS.out (HI.out _ ?_).1 (HI.out _ ?_).2) <;> exact (by repeat' (first | exact Mod.refl _ _ | assumption | refine Mod.drewN ?_ _ | refine Mod.drew ?_ | refine Mod.alloc ?_ _ | refine Mod.setCell ?_ (by simp) _ | refine Mod.setBlock ?_ (by simp) _))
      | false =>
        have HS := hid (show startS ⟨n, t, me, dealer, E, R, false, heard, ev, ei, rv, ri, sv, si⟩ v = (⟨n, t, me, dealer, E, R, true, heard, ev, ei, rv, ri, sv, si⟩, ⟨1, me, v⟩, 0) by simp [startS, h1, h2])
        clear h1
        go_enter Try.func16, Try.ntmps16; go_wp2_with (first | (go_at_call 27; refine (is_some _ _ _ hn ?_).mono ?_; go_simp; rintro e w' ⟨rfl, rfl⟩)); go_quiet (fail); go_wp2
        refine bodyPost_ret (v := .tuple #[.agg #[.int .i64 1, .int .i64 me, .string v], .int .i64 0]) (by simp [results, Try.results16, go_sem]) rfl (start_post HS.out ?_ ?_)
        · have l1 := lt_of_block HN.out.e
          have l2 := lt_of_block HN.out.r
          refine NodeAt.mod (S := [w.heap.size]) ((((HN.out.alloc (.cells #[.int .i64 0, .int .i64 0, .string ⟨#[]⟩] 36)).drewN nq).set 6 (.bool true) _ rfl rfl rfl)) ?_ (by simp; omega) (by simp; omega) (by simp; omega)
          exact (by repeat' (first | exact Mod.refl _ _ | assumption | refine Mod.drewN ?_ _ | refine Mod.drew ?_ | refine Mod.alloc ?_ _ | refine Mod.setCell ?_ (by simp) _ | refine Mod.setBlock ?_ (by simp) _))
        · exact (by repeat' (first | exact Mod.refl _ _ | assumption | refine Mod.drewN ?_ _ | refine Mod.drew ?_ | refine Mod.alloc ?_ _ | refine Mod.setCell ?_ (by simp) _ | refine Mod.setBlock ?_ (by simp) _))
  · have d1 : (me != dealer) = true := by simpa using h1
    have HS := hid (show startS ⟨n, t, me, dealer, E, R, began, heard, ev, ei, rv, ri, sv, si⟩ v = (⟨n, t, me, dealer, E, R, began, heard, ev, ei, rv, ri, sv, si⟩, ⟨0, 0, ByteArray.empty⟩, 150) by simp [startS, h1])
    clear h1
    go_enter Try.func16, Try.ntmps16; go_wp2_with (first | (go_at_call 27; refine (is_some _ _ _ hn ?_).mono ?_; go_simp; rintro e w' ⟨rfl, rfl⟩)); go_quiet (fail); go_wp2
    refine bodyPost_ret (v := .tuple #[.agg #[.int .i64 0, .int .i64 0, .string ByteArray.empty], .int .i64 150]) (by simp [results, Try.results16, go_sem]; rfl) rfl (start_post HS.out (HI.out _ ?_).1 (HI.out _ ?_).2) <;> exact (by repeat' (first | exact Mod.refl _ _ | assumption | refine Mod.drewN ?_ _ | refine Mod.drew ?_ | refine Mod.alloc ?_ _ | refine Mod.setCell ?_ (by simp) _ | refine Mod.setBlock ?_ (by simp) _))
end Go.Proofs.Ytcgfjalglnlofaa
