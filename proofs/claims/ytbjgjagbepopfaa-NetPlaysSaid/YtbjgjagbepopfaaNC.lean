/-
  A net, walked: Make. No statement of a claim stands here; each contract names what it asks.
-/
import Derived.Test.YtbjgjagbepopfaaNB
set_option linter.unusedSimpArgs false
namespace Go.Proofs.Ytbjgjagbepopfaa
open Go Go.RowKit Go.ChangeMaps


def newNet (parties room : Int) : NetS := ⟨parties, room, 0, 0, 0, 0, [], [], [], 0, 0, 0⟩
theorem newNet_ok {parties room : Int} (h1 : 1 ≤ parties) (h2 : parties ≤ 64) (h3 : 1 ≤ room) (h4 : room ≤ 4096) : (newNet parties room).Ok :=
  ⟨⟨h1, h2⟩, ⟨h3, h4⟩, by simp [newNet], by simp [newNet], by simp [newNet], by simp [newNet], by simp [newNet]; omega, by simp [newNet], by simp [newNet], by simp [newNet], by simp [newNet], by simp [newNet], by simp [newNet]⟩

set_option maxRecDepth 20000 in
theorem make_yes (parties room : Int) (w : World) (h1 : 1 ≤ parties) (h2 : parties ≤ 64) (h3 : 1 ≤ room) (h4 : room ≤ 4096) :
    Calls Try.prog 10 #[.int .i64 parties, .int .i64 room] w fun e w' => ∃ p : Loc, e = .returned (.tuple #[.pointer (some ⟨p.x, 0, none⟩), .int .i64 0]) ∧
      NetAt w' p (newNet parties room) ∧ Mod [] w w' ∧ ∀ k ∈ p.foot, w.heap.size ≤ k := by
  have d1 : decide (parties < 1) = false := by simp; omega
  have d2 : decide (64 < parties) = false := by simp; omega
  have d3 : decide (room < 1) = false := by simp; omega
  have d4 : decide (4096 < room) = false := by simp; omega
  have hmm := @run_makeMap Try.prog
  clear h1 h2 h3 h4
  go_enter Try.func10, Try.ntmps10
  go_wp2_with fail
  go_ret2
  have hm : Mod [] w ((((w.alloc (.map #[] 0)).alloc (.map #[] 0)).alloc (.map #[] 0)).alloc (.cells #[.int .i64 parties, .int .i64 room, .int .i64 0, .int .i64 0, .int .i64 0, .int .i64 0, .map (some w.heap.size), .map (some (w.heap.size + 1)), .map (some (w.heap.size + 1 + 1))] 68)) := by first | exact Mod.refl _ _ | exact ((Mod.refl _ _).alloc _) | exact (((Mod.refl _ _).alloc _).alloc _) | exact ((((Mod.refl _ _).alloc _).alloc _).alloc _) | exact (((((Mod.refl _ _).alloc _).alloc _).alloc _).alloc _)
  refine ⟨⟨w.heap.size + 1 + 1 + 1, w.heap.size, w.heap.size + 1, w.heap.size + 1 + 1⟩, rfl, ⟨?_, ?_, ?_, ?_, by simp, by simp; omega, by simp⟩, hm, by simp [Loc.foot]; omega⟩
  · have := get_new (((w.alloc (.map #[] 0)).alloc (.map #[] 0)).alloc (.map #[] 0)) (.cells #[.int .i64 parties, .int .i64 room, .int .i64 0, .int .i64 0, .int .i64 0, .int .i64 0, .map (some w.heap.size), .map (some (w.heap.size + 1)), .map (some (w.heap.size + 1 + 1))] 68)
    simp only [World.size_alloc] at this
    exact this
  · exact get_alloc (get_alloc (get_alloc (get_new w (.map #[] 0)) (.map #[] 0)) (.map #[] 0)) _
  · have := get_alloc (get_alloc (get_new (w.alloc (.map #[] 0)) (.map #[] 0)) (.map #[] 0)) (.cells #[.int .i64 parties, .int .i64 room, .int .i64 0, .int .i64 0, .int .i64 0, .int .i64 0, .map (some w.heap.size), .map (some (w.heap.size + 1)), .map (some (w.heap.size + 1 + 1))] 68)
    simp only [World.size_alloc] at this
    exact this
  · have := get_alloc (get_new ((w.alloc (.map #[] 0)).alloc (.map #[] 0)) (.map #[] 0)) (.cells #[.int .i64 parties, .int .i64 room, .int .i64 0, .int .i64 0, .int .i64 0, .int .i64 0, .map (some w.heap.size), .map (some (w.heap.size + 1)), .map (some (w.heap.size + 1 + 1))] 68)
    simp only [World.size_alloc] at this
    exact this

theorem make_no (parties room : Int) (w : World) (h : ¬ (1 ≤ parties ∧ parties ≤ 64 ∧ 1 ≤ room ∧ room ≤ 4096)) :
    Calls Try.prog 10 #[.int .i64 parties, .int .i64 room] w fun e w' => e = .returned (.tuple #[.pointer none, .int .i64 2]) ∧ w' = w := by
  have hd : (decide (parties < 1) || decide (64 < parties) || decide (room < 1) || decide (4096 < room)) = true := by
    simp only [Bool.or_eq_true, decide_eq_true_eq]; omega
  clear h
  revert hd
  generalize hb1 : decide (parties < 1) = b1
  generalize hb2 : decide (64 < parties) = b2
  generalize hb3 : decide (room < 1) = b3
  generalize hb4 : decide (4096 < room) = b4
  intro hd
  cases b1 <;> cases b2 <;> cases b3 <;> cases b4 <;> first
    | (exact absurd hd (by decide))
    | (clear hd
       go_enter Try.func10, Try.ntmps10
       go_wp2_with fail
       go_ret2
       exact ⟨rfl, rfl⟩)
end Go.Proofs.Ytbjgjagbepopfaa
