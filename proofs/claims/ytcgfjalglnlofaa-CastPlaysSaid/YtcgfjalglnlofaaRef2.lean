/-
  The reference's node of a broadcast, walked: ready, Start, Make. No statement of a claim stands here; each contract names what it asks.
-/
import Derived.Test.YtcgfjalglnlofaaRef1
import Derived.Test.YtcgfjalglnlofaaCast4
set_option linter.unusedSimpArgs false
namespace Go.Proofs.Ytcgfjalglnlofaa
open Go Go.RowKit

theorem RefAt.all {w : World} {y : Nat} {s : NodeS} (h : RefAt w y s) : w.cell? ⟨y, 0, none⟩ = some (.int .i64 s.n) ∧ w.cell? ⟨y, 1, none⟩ = some (.int .i64 s.t) ∧ w.cell? ⟨y, 2, none⟩ = some (.int .i64 s.me) ∧ w.cell? ⟨y, 3, none⟩ = some (.int .i64 s.dealer) ∧
    w.cell? ⟨y, 72, none⟩ = some (.string s.ev) ∧ w.cell? ⟨y, 73, none⟩ = some (.string s.rv) ∧ w.cell? ⟨y, 74, none⟩ = some (.string s.sv) ∧ w.cell? ⟨y, 75, none⟩ = some (.bool s.ei) ∧ w.cell? ⟨y, 76, none⟩ = some (.bool s.ri) ∧ w.cell? ⟨y, 77, none⟩ = some (.bool s.si) ∧
    w.cell? ⟨y, 78, none⟩ = some (.bool s.began) ∧ w.cell? ⟨y, 79, none⟩ = some (.bool s.heard) ∧ (∀ i, w.frozen? ⟨y, i, none⟩ = false) ∧ y < w.heap.size :=
  ⟨(cell_at h 0).trans rfl, (cell_at h 1).trans rfl, (cell_at h 2).trans rfl, (cell_at h 3).trans rfl, (cell_at h 72).trans rfl, (cell_at h 73).trans rfl, (cell_at h 74).trans rfl, (cell_at h 75).trans rfl, (cell_at h 76).trans rfl, (cell_at h 77).trans rfl,
    (cell_at h 78).trans rfl, (cell_at h 79).trans rfl, fun i => free_at h i, lt_of_block h⟩

def refHead (s : NodeS) : List Value := [.int .i64 s.n, .int .i64 s.t, .int .i64 s.me, .int .i64 s.dealer] ++ (texts s.E ++ (texts s.R ++ (flags s.E ++ flags s.R)))
def refTail (s : NodeS) : List Value := [.string s.ev, .string s.rv, .string s.sv, .bool s.ei, .bool s.ri, .bool s.si, .bool s.began, .bool s.heard]
theorem refCells_two (s : NodeS) : refCells s = refHead s ++ refTail s := by simp [refCells, refHead, refTail]
theorem refHead_len (s : NodeS) : (refHead s).length = 72 := by simp [refHead, texts_len, flags_len]

theorem RefAt.put {w : World} {y : Nat} {s s' : NodeS} (h : RefAt w y s) (k o : Nat) (u : Value) (ho : o = 72 + k) (hu : (refTail s).set k u = refTail s') (hh : refHead s = refHead s') : RefAt (w.setCell ⟨y, o, none⟩ u) y s' := by
  have := get_setCell_self h o u
  rw [List.setIfInBounds_toArray, refCells_two, List.set_append_right _ _ (by rw [refHead_len]; omega), refHead_len, ho, Nat.add_sub_cancel_left, hu, hh, ← refCells_two] at this
  subst ho
  exact this

/-- What is handed back by the reference: nothing, or one message in a new block. -/
def RMsgsAt (B : Nat) (w : World) (v : Value) (out : List Msg) : Prop :=
  (out = [] ∧ v = .slice none 0 0) ∨ ∃ m b, out = [m] ∧ v = .slice (some ⟨b, 0, none⟩) 1 1 ∧ B ≤ b ∧ w.heap[b]? = some (.cells m.cells.toArray 50 (0, 0))

def RPost (w : World) (y : Nat) (r : NodeS × List Msg) (e : Ending) (w' : World) : Prop :=
  ∃ v, e = .returned v ∧ RefAt w' y r.1 ∧ RMsgsAt w.heap.size w' v r.2 ∧ Mod [y] w w'

theorem ready_any (w : World) (y : Nat) (s : NodeS) (v : ByteArray) (h : RefAt w y s) :
    Calls Try.prog 32 #[.pointer (some ⟨y, 0, none⟩), .string v] w (RPost w y (sendR s v)) := by
  obtain ⟨n, t, me, dealer, E, R, began, heard, ev, ei, rv, ri, sv, si⟩ := s
  obtain ⟨c0, c1, c2, c3, c72, c73, c74, c75, c76, c77, c78, c79, hf, hy⟩ := h.all
  dsimp only at c2 c73 c76
  have H := hid h
  clear h c0 c1 c3 c72 c74 c75 c77 c78 c79
  cases ri with
  | true =>
    go_enter Try.func32, Try.ntmps32
    go_wp2
    go_ret
    exact ⟨_, rfl, H.out, .inl ⟨rfl, rfl⟩, Mod.refl _ _⟩
  | false =>
    go_enter Try.func32, Try.ntmps32
    go_wp2
    go_ret
    have h2 : RefAt ((w.setCell ⟨y, 76, none⟩ (.bool true)).setCell ⟨y, 73, none⟩ (.string v)) y ⟨n, t, me, dealer, E, R, began, heard, ev, ei, v, true, sv, si⟩ :=
      RefAt.put (s := ⟨n, t, me, dealer, E, R, began, heard, ev, ei, rv, true, sv, si⟩) (RefAt.put H.out 4 76 _ rfl rfl rfl) 1 73 _ rfl rfl rfl
    refine ⟨_, rfl, ?_, .inr ⟨⟨3, me, v⟩, _, rfl, rfl, Nat.le_refl _, ?_⟩, (by repeat' (first | exact Mod.refl _ _ | assumption | refine Mod.drewN ?_ _ | refine Mod.drew ?_ | refine Mod.alloc ?_ _ | refine Mod.setCell ?_ (by simp) _ | refine Mod.setBlock ?_ (by simp) _))⟩
    · exact get_alloc h2 _
    · have := get_new ((w.setCell ⟨y, 76, none⟩ (.bool true)).setCell ⟨y, 73, none⟩ (.string v)) (Obj.cells (⟨3, me, v⟩ : Msg).cells.toArray 50)
      simp only [World.size_setCell] at this
      exact this

def zeroRef : Array Value := (refCells (newNode 0 0 0 0)).toArray
theorem zeroRef_run (w : World) : (zeroValue 59).run Try.prog w = .ok (.agg zeroRef) w := by kernel_rfl
theorem zeroRef_size : zeroRef.size = 80 := by simp [zeroRef, refCells_len]
theorem zeroRef_ne : (zeroRef = #[]) = False := by simp [← Array.size_eq_zero_iff, zeroRef_size]

theorem refMake_yes (n t me dealer : Int) (w : World) (h : goodNode n t me dealer = true) :
    Calls Try.prog 20 #[.int .i64 n, .int .i64 t, .int .i64 me, .int .i64 dealer] w fun e w' => ∃ y, e = .returned (.tuple #[.pointer (some ⟨y, 0, none⟩), .int .i64 0]) ∧
      RefAt w' y (newNode n t me dealer) ∧ Mod [] w w' ∧ w.heap.size ≤ y := by
  simp only [goodNode, within, Bool.and_eq_true, decide_eq_true_eq] at h
  obtain ⟨⟨⟨⟨⟨h1, h2⟩, h3⟩, h4⟩, h5, h6⟩, h7, h8⟩ := h
  have d1 : decide (t < 0) = false := by simp; omega
  have d2 : decide (5 < t) = false := by simp; omega
  have d3 : decide (n < 3 * t + 1) = false := by simp; omega
  have d4 : decide (16 < n) = false := by simp; omega
  have d5 : decide (me < 1) = false := by simp; omega
  have d6 : decide (n < me) = false := by simp; omega
  have d7 : decide (dealer < 1) = false := by simp; omega
  have d8 : decide (n < dealer) = false := by simp; omega
  have z1 := zeroRef_run
  have z2 := zeroRef_size
  have z3 := zeroRef_ne
  go_enter Try.func20, Try.ntmps20
  go_wp2_with fail
  go_ret2
  refine ⟨w.heap.size, rfl, ?_, (by repeat' (first | exact Mod.refl _ _ | assumption | refine Mod.drewN ?_ _ | refine Mod.drew ?_ | refine Mod.alloc ?_ _ | refine Mod.setCell ?_ (by simp) _ | refine Mod.setBlock ?_ (by simp) _)), Nat.le_refl _⟩
  exact get_new w _


theorem refMake_no (n t me dealer : Int) (w : World) (h : goodNode n t me dealer = false) :
    Calls Try.prog 20 #[.int .i64 n, .int .i64 t, .int .i64 me, .int .i64 dealer] w fun e w' => e = .returned (.tuple #[.pointer none, .int .i64 2]) ∧ Mod [] w w' := by
  by_cases h1 : t < 0
  · have d1 : decide (t < 0) = true := by simpa using h1
    clear h
    go_enter Try.func20, Try.ntmps20; go_wp2_with fail; go_ret2; exact ⟨rfl, (by repeat' (first | exact Mod.refl _ _ | assumption | refine Mod.drewN ?_ _ | refine Mod.drew ?_ | refine Mod.alloc ?_ _ | refine Mod.setCell ?_ (by simp) _ | refine Mod.setBlock ?_ (by simp) _))⟩
  have d1 : decide (t < 0) = false := by simpa using h1
  by_cases h2 : 5 < t
  · have d2 : decide (5 < t) = true := by simpa using h2
    clear h
    go_enter Try.func20, Try.ntmps20; go_wp2_with fail; go_ret2; exact ⟨rfl, (by repeat' (first | exact Mod.refl _ _ | assumption | refine Mod.drewN ?_ _ | refine Mod.drew ?_ | refine Mod.alloc ?_ _ | refine Mod.setCell ?_ (by simp) _ | refine Mod.setBlock ?_ (by simp) _))⟩
  have d2 : decide (5 < t) = false := by simpa using h2
  by_cases h3 : n < 3 * t + 1
  · have d3 : decide (n < 3 * t + 1) = true := by simpa using h3
    clear h
    go_enter Try.func20, Try.ntmps20; go_wp2_with fail; go_ret2; exact ⟨rfl, (by repeat' (first | exact Mod.refl _ _ | assumption | refine Mod.drewN ?_ _ | refine Mod.drew ?_ | refine Mod.alloc ?_ _ | refine Mod.setCell ?_ (by simp) _ | refine Mod.setBlock ?_ (by simp) _))⟩
  have d3 : decide (n < 3 * t + 1) = false := by simpa using h3
  by_cases h4 : 16 < n
  · have d4 : decide (16 < n) = true := by simpa using h4
    clear h
    go_enter Try.func20, Try.ntmps20; go_wp2_with fail; go_ret2; exact ⟨rfl, (by repeat' (first | exact Mod.refl _ _ | assumption | refine Mod.drewN ?_ _ | refine Mod.drew ?_ | refine Mod.alloc ?_ _ | refine Mod.setCell ?_ (by simp) _ | refine Mod.setBlock ?_ (by simp) _))⟩
  have d4 : decide (16 < n) = false := by simpa using h4
  by_cases h5 : me < 1
  · have d5 : decide (me < 1) = true := by simpa using h5
    clear h
    go_enter Try.func20, Try.ntmps20; go_wp2_with fail; go_ret2; exact ⟨rfl, (by repeat' (first | exact Mod.refl _ _ | assumption | refine Mod.drewN ?_ _ | refine Mod.drew ?_ | refine Mod.alloc ?_ _ | refine Mod.setCell ?_ (by simp) _ | refine Mod.setBlock ?_ (by simp) _))⟩
  have d5 : decide (me < 1) = false := by simpa using h5
  by_cases h6 : n < me
  · have d6 : decide (n < me) = true := by simpa using h6
    clear h
    go_enter Try.func20, Try.ntmps20; go_wp2_with fail; go_ret2; exact ⟨rfl, (by repeat' (first | exact Mod.refl _ _ | assumption | refine Mod.drewN ?_ _ | refine Mod.drew ?_ | refine Mod.alloc ?_ _ | refine Mod.setCell ?_ (by simp) _ | refine Mod.setBlock ?_ (by simp) _))⟩
  have d6 : decide (n < me) = false := by simpa using h6
  by_cases h7 : dealer < 1
  · have d7 : decide (dealer < 1) = true := by simpa using h7
    clear h
    go_enter Try.func20, Try.ntmps20; go_wp2_with fail; go_ret2; exact ⟨rfl, (by repeat' (first | exact Mod.refl _ _ | assumption | refine Mod.drewN ?_ _ | refine Mod.drew ?_ | refine Mod.alloc ?_ _ | refine Mod.setCell ?_ (by simp) _ | refine Mod.setBlock ?_ (by simp) _))⟩
  have d7 : decide (dealer < 1) = false := by simpa using h7
  by_cases h8 : n < dealer
  · have d8 : decide (n < dealer) = true := by simpa using h8
    clear h
    go_enter Try.func20, Try.ntmps20; go_wp2_with fail; go_ret2; exact ⟨rfl, (by repeat' (first | exact Mod.refl _ _ | assumption | refine Mod.drewN ?_ _ | refine Mod.drew ?_ | refine Mod.alloc ?_ _ | refine Mod.setCell ?_ (by simp) _ | refine Mod.setBlock ?_ (by simp) _))⟩
  · have : goodNode n t me dealer = true := by
      simp only [goodNode, within, Bool.and_eq_true, decide_eq_true_eq]
      omega
    rw [this] at h
    cases h

def RStartPost (w : World) (y : Nat) (s : NodeS) (v : ByteArray) (e : Ending) (w' : World) : Prop :=
  e = .returned (.tuple #[.agg (startS s v).2.1.cells.toArray, .int .i64 (startS s v).2.2]) ∧ RefAt w' y (startS s v).1 ∧ Mod [y] w w'


theorem rstart_post {w W : World} {y : Nat} {s s' : NodeS} {v : ByteArray} {m : Msg} {k : Int} (hs : startS s v = (s', m, k)) (h : RefAt W y s') (hm : Mod [y] w W) :
    RStartPost w y s v (.returned (.tuple #[.agg #[.int .i64 m.kind, .int .i64 m.from_, .string m.val], .int .i64 k])) W := ⟨by rw [hs]; rfl, by rw [hs]; exact h, hm⟩

set_option maxHeartbeats 1000000 in
theorem refStart_any (w : World) (y : Nat) (s : NodeS) (v : ByteArray) (h : RefAt w y s) (hn : 0 < s.n) (hv : v.size ≤ 9223372036854775807) :
    Calls Try.prog 21 #[.pointer (some ⟨y, 0, none⟩), .string v] w (RStartPost w y s v) := by
  obtain ⟨n, t, me, dealer, E, R, began, heard, ev, ei, rv, ri, sv, si⟩ := s
  obtain ⟨c0, c1, c2, c3, c72, c73, c74, c75, c76, c77, c78, c79, hf, hy⟩ := h.all
  dsimp only at hn c2 c3 c78
  have HN := hid h
  clear h c0 c1 c72 c73 c74 c75 c76 c77 c79
  have hidle : ∀ W, Mod [w.heap.size] w W → RefAt W y ⟨n, t, me, dealer, E, R, began, heard, ev, ei, rv, ri, sv, si⟩ ∧ Mod [y] w W := fun W hm =>
    ⟨HN.out.mod hm (by simp; omega), hm.mono (by simp)⟩
  have HI := hid hidle
  clear hidle
  by_cases h1 : me = dealer
  · have d1 : (me != dealer) = false := by simpa using h1
    by_cases h2 : 4096 < v.size
    · have d2 : decide ((4096 : Int) < (v.size : Int)) = true := by simp; omega
      have HS := hid (show startS ⟨n, t, me, dealer, E, R, began, heard, ev, ei, rv, ri, sv, si⟩ v = (⟨n, t, me, dealer, E, R, began, heard, ev, ei, rv, ri, sv, si⟩, ⟨0, 0, ByteArray.empty⟩, 3) by simp [startS, h1, h2])
      clear h1
      go_enter Try.func21, Try.ntmps21; go_wp2_with fail; go_quiet (fail); go_wp2
      refine bodyPost_ret (v := .tuple #[.agg #[.int .i64 0, .int .i64 0, .string ByteArray.empty], .int .i64 3]) (by simp [results, Try.results21, go_sem]; rfl) rfl (rstart_post HS.out (HI.out _ ?_).1 (HI.out _ ?_).2) <;> exact (by repeat' (first | exact Mod.refl _ _ | assumption | refine Mod.drewN ?_ _ | refine Mod.drew ?_ | refine Mod.alloc ?_ _ | refine Mod.setCell ?_ (by simp) _ | refine Mod.setBlock ?_ (by simp) _))
    · have d2 : decide ((4096 : Int) < (v.size : Int)) = false := by simp; omega
      cases began with
      | true =>
        have HS := hid (show startS ⟨n, t, me, dealer, E, R, true, heard, ev, ei, rv, ri, sv, si⟩ v = (⟨n, t, me, dealer, E, R, true, heard, ev, ei, rv, ri, sv, si⟩, ⟨0, 0, ByteArray.empty⟩, 6) by simp [startS, h1, h2])
        clear h1
        go_enter Try.func21, Try.ntmps21; go_wp2_with fail; go_quiet (fail); go_wp2
        refine bodyPost_ret (v := .tuple #[.agg #[.int .i64 0, .int .i64 0, .string ByteArray.empty], .int .i64 6]) (by simp [results, Try.results21, go_sem]; rfl) rfl (rstart_post HS.out (HI.out _ ?_).1 (HI.out _ ?_).2) <;> exact (by repeat' (first | exact Mod.refl _ _ | assumption | refine Mod.drewN ?_ _ | refine Mod.drew ?_ | refine Mod.alloc ?_ _ | refine Mod.setCell ?_ (by simp) _ | refine Mod.setBlock ?_ (by simp) _))
      | false =>
        have hB : ∀ W, Mod [w.heap.size] w W → RefAt (W.setCell ⟨y, 78, none⟩ (.bool true)) y ⟨n, t, me, dealer, E, R, true, heard, ev, ei, rv, ri, sv, si⟩ := fun W hm => RefAt.put (HI.out W hm).1 6 78 _ rfl rfl rfl
        have HB := hid hB
        clear hB
        have HS := hid (show startS ⟨n, t, me, dealer, E, R, false, heard, ev, ei, rv, ri, sv, si⟩ v = (⟨n, t, me, dealer, E, R, true, heard, ev, ei, rv, ri, sv, si⟩, ⟨1, me, v⟩, 0) by simp [startS, h1, h2])
        clear h1
        go_enter Try.func21, Try.ntmps21; go_wp2_with fail; go_quiet (fail); go_wp2
        refine bodyPost_ret (v := .tuple #[.agg #[.int .i64 1, .int .i64 me, .string v], .int .i64 0]) (by simp [results, Try.results21, go_sem]) rfl (rstart_post HS.out ?_ ?_)
        · refine RefAt.mod (S := [w.heap.size]) (HB.out ((w.alloc (.cells #[.int .i64 0, .int .i64 0, .string ⟨#[]⟩] 50)).drewN nq) (Mod.drewN (Mod.alloc (Mod.refl _ w) _) nq)) ?_ (by simp; omega)
          refine Mod.setCell (Mod.setCell (Mod.setCell ?_ (by simp) _) (by simp) _) (by simp) _
          with_reducible exact Mod.refl _ _
        · exact (by repeat' (first | exact Mod.refl _ _ | assumption | refine Mod.drewN ?_ _ | refine Mod.drew ?_ | refine Mod.alloc ?_ _ | refine Mod.setCell ?_ (by simp) _ | refine Mod.setBlock ?_ (by simp) _))
  · have d1 : (me != dealer) = true := by simpa using h1
    have HS := hid (show startS ⟨n, t, me, dealer, E, R, began, heard, ev, ei, rv, ri, sv, si⟩ v = (⟨n, t, me, dealer, E, R, began, heard, ev, ei, rv, ri, sv, si⟩, ⟨0, 0, ByteArray.empty⟩, 150) by simp [startS, h1])
    clear h1
    go_enter Try.func21, Try.ntmps21; go_wp2_with fail; go_quiet (fail); go_wp2
    refine bodyPost_ret (v := .tuple #[.agg #[.int .i64 0, .int .i64 0, .string ByteArray.empty], .int .i64 150]) (by simp [results, Try.results21, go_sem]; rfl) rfl (rstart_post HS.out (HI.out _ ?_).1 (HI.out _ ?_).2) <;> exact (by repeat' (first | exact Mod.refl _ _ | assumption | refine Mod.drewN ?_ _ | refine Mod.drew ?_ | refine Mod.alloc ?_ _ | refine Mod.setCell ?_ (by simp) _ | refine Mod.setBlock ?_ (by simp) _))
end Go.Proofs.Ytcgfjalglnlofaa
