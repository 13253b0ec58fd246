/-
  Both nodes of an agreement, walked: Make. No statement of a claim stands here; each contract names what it asks.
-/
import Derived.Test.YtnpmjpdndhedgaaQ3
set_option linter.unusedSimpArgs false
namespace Go.Proofs.Ytnpmjpdndhedgaa
open Go Go.RowKit Go.ChangeMaps

/-- What 'Make' asks of the numbers. -/
structure GoodN (n t me : Int) (input : ByteArray) : Prop where
  t0 : 0 ≤ t
  t5 : t ≤ 5
  n0 : 3 * t + 1 ≤ n
  n16 : n ≤ 16
  me0 : 1 ≤ me
  me1 : me ≤ n
  i0 : input ≠ ⟨#[]⟩

def zeroRef : Array Value := (refList ⟨0, 0, 0, ⟨#[]⟩, 0, fun _ => [], ⟨#[]⟩, 0, fun _ => false, ⟨#[]⟩, false⟩ (.slice none 0 0)).toArray
theorem zeroRef_run (w : World) : (zeroValue 64).run Try.prog w = .ok (.agg zeroRef) w := by kernel_rfl
theorem refList_len (s : NodeS) (vL : Value) : (refList s vL).length = 202 := by simp [refList, refHead, arr_len]
theorem zeroRef_size : zeroRef.size = 202 := by simp [zeroRef, refList_len]
theorem zeroRef_ne : (zeroRef = #[]) = False := by simp [← Array.size_eq_zero_iff, zeroRef_size]

set_option maxRecDepth 20000 in
theorem refMake_yes (n t me : Int) (input : ByteArray) (w : World) (h : GoodN n t me input) (hi2 : input.size ≤ 4096) :
    Calls Try.prog 16 #[.int .i64 n, .int .i64 t, .int .i64 me, .string input] w fun e w' => ∃ b, e = .returned (.tuple #[.pointer (some ⟨b, 0, none⟩), .int .i64 0]) ∧
      RefAt w' b (.slice none 0 0) (makeS n t me input) [] ∧ Mod [] w w' ∧ w.heap.size ≤ b := by
  obtain ⟨h1, h2, h3, h4, h5, h6, hi⟩ := h
  have d1 : decide (t < 0) = false := by simp; omega
  have d2 : decide (5 < t) = false := by simp; omega
  have d3 : decide (n < 3 * t + 1) = false := by simp; omega
  have d4 : decide (16 < n) = false := by simp; omega
  have d5 : decide (me < 1) = false := by simp; omega
  have d6 : decide (n < me) = false := by simp; omega
  have d7 : decide ((4096 : Int) < (input.size : Int)) = false := by simp; omega
  have d8 : decide (4096 < input.size) = false := by simp; omega
  obtain ⟨e1, e2⟩ := emp_false hi
  have q1 : IntKind.i64.wrap (3 * t) = 3 * t := IntWalk.i64_in _ (by omega)
  have q2 : IntKind.i64.wrap (3 * t + 1) = 3 * t + 1 := IntWalk.i64_in _ (by omega)
  have z1 := zeroRef_run
  have z2 := zeroRef_size
  have z3 := zeroRef_ne
  clear hi hi2 h1 h2 h3 h4 h5 h6
  go_enter Try.func16, Try.ntmps16
  go_wp2_with fail
  go_ret2
  refine ⟨w.heap.size, rfl, ⟨?_, ⟨rfl, .inl ⟨rfl, rfl⟩⟩⟩, (by repeat' (first | exact Mod.refl _ _ | assumption | refine Mod.drewN ?_ _ | refine Mod.drew ?_ | refine Mod.alloc ?_ _ | refine Mod.setCell ?_ (by simp) _ | refine Mod.setBlock ?_ (by simp) _)), Nat.le_refl _⟩
  exact get_new w _

/-- What 'Make' says where it makes none. -/
def badE (n t me : Int) (input : ByteArray) : Int := if t < 0 ∨ 5 < t ∨ n < 3 * t + 1 ∨ 16 < n ∨ me < 1 ∨ n < me ∨ input = ⟨#[]⟩ then 2 else 3

theorem make_no (n t me : Int) (input : ByteArray) (w : World) (h : ¬ (GoodN n t me input ∧ input.size ≤ 4096)) :
    Calls Try.prog 15 #[.int .i64 n, .int .i64 t, .int .i64 me, .string input] w fun e w' => e = .returned (.tuple #[.pointer none, .int .i64 (badE n t me input)]) ∧ Mod [] w w' := by
  by_cases h1 : t < 0
  · have d1 : decide (t < 0) = true := by simpa using h1
    (first | (have hb : badE n t me input = 2 := by unfold badE; rw [if_pos (by omega)]) | (have hb : badE n t me input = 2 := by unfold badE; rw [if_pos (by simp [h7])])); have HB := hid hb; clear hb h; (try clear h7); go_enter Try.func15, Try.ntmps15; go_wp2_with fail; go_ret2; exact ⟨by rw [HB.out]; rfl, Mod.refl _ _⟩
  have d1 : decide (t < 0) = false := by simpa using h1
  by_cases h2 : 5 < t
  · have d2 : decide (5 < t) = true := by simpa using h2
    (first | (have hb : badE n t me input = 2 := by unfold badE; rw [if_pos (by omega)]) | (have hb : badE n t me input = 2 := by unfold badE; rw [if_pos (by simp [h7])])); have HB := hid hb; clear hb h; (try clear h7); go_enter Try.func15, Try.ntmps15; go_wp2_with fail; go_ret2; exact ⟨by rw [HB.out]; rfl, Mod.refl _ _⟩
  have d2 : decide (5 < t) = false := by simpa using h2
  have q1 : IntKind.i64.wrap (3 * t) = 3 * t := IntWalk.i64_in _ (by omega)
  have q2 : IntKind.i64.wrap (3 * t + 1) = 3 * t + 1 := IntWalk.i64_in _ (by omega)
  by_cases h3 : n < 3 * t + 1
  · have d3 : decide (n < 3 * t + 1) = true := by simpa using h3
    (first | (have hb : badE n t me input = 2 := by unfold badE; rw [if_pos (by omega)]) | (have hb : badE n t me input = 2 := by unfold badE; rw [if_pos (by simp [h7])])); have HB := hid hb; clear hb h; (try clear h7); go_enter Try.func15, Try.ntmps15; go_wp2_with fail; go_ret2; exact ⟨by rw [HB.out]; rfl, Mod.refl _ _⟩
  have d3 : decide (n < 3 * t + 1) = false := by simpa using h3
  by_cases h4 : 16 < n
  · have d4 : decide (16 < n) = true := by simpa using h4
    (first | (have hb : badE n t me input = 2 := by unfold badE; rw [if_pos (by omega)]) | (have hb : badE n t me input = 2 := by unfold badE; rw [if_pos (by simp [h7])])); have HB := hid hb; clear hb h; (try clear h7); go_enter Try.func15, Try.ntmps15; go_wp2_with fail; go_ret2; exact ⟨by rw [HB.out]; rfl, Mod.refl _ _⟩
  have d4 : decide (16 < n) = false := by simpa using h4
  by_cases h5 : me < 1
  · have d5 : decide (me < 1) = true := by simpa using h5
    (first | (have hb : badE n t me input = 2 := by unfold badE; rw [if_pos (by omega)]) | (have hb : badE n t me input = 2 := by unfold badE; rw [if_pos (by simp [h7])])); have HB := hid hb; clear hb h; (try clear h7); go_enter Try.func15, Try.ntmps15; go_wp2_with fail; go_ret2; exact ⟨by rw [HB.out]; rfl, Mod.refl _ _⟩
  have d5 : decide (me < 1) = false := by simpa using h5
  by_cases h6 : n < me
  · have d6 : decide (n < me) = true := by simpa using h6
    (first | (have hb : badE n t me input = 2 := by unfold badE; rw [if_pos (by omega)]) | (have hb : badE n t me input = 2 := by unfold badE; rw [if_pos (by simp [h7])])); have HB := hid hb; clear hb h; (try clear h7); go_enter Try.func15, Try.ntmps15; go_wp2_with fail; go_ret2; exact ⟨by rw [HB.out]; rfl, Mod.refl _ _⟩
  have d6 : decide (n < me) = false := by simpa using h6
  by_cases h7 : input = ⟨#[]⟩
  · have d7 : input.toList.isEmpty = true := by rw [(emp_iff input).2 h7]; rfl
    have d8 : (input.toList == []) = true := by rw [(emp_iff input).2 h7]; rfl
    (first | (have hb : badE n t me input = 2 := by unfold badE; rw [if_pos (by omega)]) | (have hb : badE n t me input = 2 := by unfold badE; rw [if_pos (by simp [h7])])); have HB := hid hb; clear hb h; (try clear h7); go_enter Try.func15, Try.ntmps15; go_wp2_with fail; go_ret2; exact ⟨by rw [HB.out]; rfl, Mod.refl _ _⟩
  obtain ⟨d7, d8⟩ := emp_false h7
  have h8 : 4096 < input.size := Nat.lt_of_not_le fun hs => h ⟨⟨by omega, by omega, by omega, by omega, by omega, by omega, h7⟩, hs⟩
  have d9 : decide ((4096 : Int) < (input.size : Int)) = true := by simp; omega
  have d10 : decide (4096 < input.size) = true := by simp; omega
  have hb : badE n t me input = 3 := by unfold badE; rw [if_neg (by simp only [not_or]; exact ⟨h1, h2, h3, h4, h5, h6, h7⟩)]
  have HB := hid hb
  clear hb h h7 h8
  go_enter Try.func15, Try.ntmps15
  go_wp2_with fail
  go_ret2
  exact ⟨by rw [HB.out]; rfl, Mod.refl _ _⟩
theorem refMake_no (n t me : Int) (input : ByteArray) (w : World) (h : ¬ (GoodN n t me input ∧ input.size ≤ 4096)) :
    Calls Try.prog 16 #[.int .i64 n, .int .i64 t, .int .i64 me, .string input] w fun e w' => e = .returned (.tuple #[.pointer none, .int .i64 (badE n t me input)]) ∧ Mod [] w w' := by
  by_cases h1 : t < 0
  · have d1 : decide (t < 0) = true := by simpa using h1
    (first | (have hb : badE n t me input = 2 := by unfold badE; rw [if_pos (by omega)]) | (have hb : badE n t me input = 2 := by unfold badE; rw [if_pos (by simp [h7])])); have HB := hid hb; clear hb h; (try clear h7); go_enter Try.func16, Try.ntmps16; go_wp2_with fail; go_ret2; exact ⟨by rw [HB.out]; rfl, Mod.refl _ _⟩
  have d1 : decide (t < 0) = false := by simpa using h1
  by_cases h2 : 5 < t
  · have d2 : decide (5 < t) = true := by simpa using h2
    (first | (have hb : badE n t me input = 2 := by unfold badE; rw [if_pos (by omega)]) | (have hb : badE n t me input = 2 := by unfold badE; rw [if_pos (by simp [h7])])); have HB := hid hb; clear hb h; (try clear h7); go_enter Try.func16, Try.ntmps16; go_wp2_with fail; go_ret2; exact ⟨by rw [HB.out]; rfl, Mod.refl _ _⟩
  have d2 : decide (5 < t) = false := by simpa using h2
  have q1 : IntKind.i64.wrap (3 * t) = 3 * t := IntWalk.i64_in _ (by omega)
  have q2 : IntKind.i64.wrap (3 * t + 1) = 3 * t + 1 := IntWalk.i64_in _ (by omega)
  by_cases h3 : n < 3 * t + 1
  · have d3 : decide (n < 3 * t + 1) = true := by simpa using h3
    (first | (have hb : badE n t me input = 2 := by unfold badE; rw [if_pos (by omega)]) | (have hb : badE n t me input = 2 := by unfold badE; rw [if_pos (by simp [h7])])); have HB := hid hb; clear hb h; (try clear h7); go_enter Try.func16, Try.ntmps16; go_wp2_with fail; go_ret2; exact ⟨by rw [HB.out]; rfl, Mod.refl _ _⟩
  have d3 : decide (n < 3 * t + 1) = false := by simpa using h3
  by_cases h4 : 16 < n
  · have d4 : decide (16 < n) = true := by simpa using h4
    (first | (have hb : badE n t me input = 2 := by unfold badE; rw [if_pos (by omega)]) | (have hb : badE n t me input = 2 := by unfold badE; rw [if_pos (by simp [h7])])); have HB := hid hb; clear hb h; (try clear h7); go_enter Try.func16, Try.ntmps16; go_wp2_with fail; go_ret2; exact ⟨by rw [HB.out]; rfl, Mod.refl _ _⟩
  have d4 : decide (16 < n) = false := by simpa using h4
  by_cases h5 : me < 1
  · have d5 : decide (me < 1) = true := by simpa using h5
    (first | (have hb : badE n t me input = 2 := by unfold badE; rw [if_pos (by omega)]) | (have hb : badE n t me input = 2 := by unfold badE; rw [if_pos (by simp [h7])])); have HB := hid hb; clear hb h; (try clear h7); go_enter Try.func16, Try.ntmps16; go_wp2_with fail; go_ret2; exact ⟨by rw [HB.out]; rfl, Mod.refl _ _⟩
  have d5 : decide (me < 1) = false := by simpa using h5
  by_cases h6 : n < me
  · have d6 : decide (n < me) = true := by simpa using h6
    (first | (have hb : badE n t me input = 2 := by unfold badE; rw [if_pos (by omega)]) | (have hb : badE n t me input = 2 := by unfold badE; rw [if_pos (by simp [h7])])); have HB := hid hb; clear hb h; (try clear h7); go_enter Try.func16, Try.ntmps16; go_wp2_with fail; go_ret2; exact ⟨by rw [HB.out]; rfl, Mod.refl _ _⟩
  have d6 : decide (n < me) = false := by simpa using h6
  by_cases h7 : input = ⟨#[]⟩
  · have d7 : input.toList.isEmpty = true := by rw [(emp_iff input).2 h7]; rfl
    have d8 : (input.toList == []) = true := by rw [(emp_iff input).2 h7]; rfl
    (first | (have hb : badE n t me input = 2 := by unfold badE; rw [if_pos (by omega)]) | (have hb : badE n t me input = 2 := by unfold badE; rw [if_pos (by simp [h7])])); have HB := hid hb; clear hb h; (try clear h7); go_enter Try.func16, Try.ntmps16; go_wp2_with fail; go_ret2; exact ⟨by rw [HB.out]; rfl, Mod.refl _ _⟩
  obtain ⟨d7, d8⟩ := emp_false h7
  have h8 : 4096 < input.size := Nat.lt_of_not_le fun hs => h ⟨⟨by omega, by omega, by omega, by omega, by omega, by omega, h7⟩, hs⟩
  have d9 : decide ((4096 : Int) < (input.size : Int)) = true := by simp; omega
  have d10 : decide (4096 < input.size) = true := by simp; omega
  have hb : badE n t me input = 3 := by unfold badE; rw [if_neg (by simp only [not_or]; exact ⟨h1, h2, h3, h4, h5, h6, h7⟩)]
  have HB := hid hb
  clear hb h h7 h8
  go_enter Try.func16, Try.ntmps16
  go_wp2_with fail
  go_ret2
  exact ⟨by rw [HB.out]; rfl, Mod.refl _ _⟩
end Go.Proofs.Ytnpmjpdndhedgaa
