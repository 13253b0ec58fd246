/-
  The chapter's example, walked. No statement of a claim stands here; each contract names what it asks.
-/
import Derived.Test.YteifjbfojjjacaaKa3
import Derived.Test.YteifjbfojjjacaaKa9
set_option linter.unusedSimpArgs false
namespace Go.Proofs.Yteifjbfojjjacaa
open Go Go.RowKit Go.ChangeMaps

structure RepNow (w : World) (x b : Nat) (s : RepS) : Prop where
  at_ : RepAt w x b s
  ok : ROk s

theorem see_now (w : World) (x b : Nat) (s : RepS) (id : ByteArray) (time now : Int) (h : RepNow w x b s) :
    Calls Try.prog 12 #[.pointer (some ⟨x, 0, none⟩), .string id, .int .i64 time, .int .i64 now] w fun e w' => e = .returned (.tuple #[.int .i64 (seeS s id time now).2.1, .int .i64 (seeS s id time now).2.2]) ∧ RepNow w' x b (seeS s id time now).1 ∧ Mod [b] w w' := by
  refine (see_any w x b s id time now h.at_ h.ok).mono ?_
  rintro e w' ⟨h1, h2, h3⟩
  exact ⟨h1, ⟨h2, seeS_ok h.ok id time now⟩, h3⟩

theorem works1 : seeS (newRep 2 5) ⟨#[97]⟩ 1 1 = (⟨2, 5, [(⟨#[97]⟩, 1, 0)], 1⟩, 0, 0) := by rfl
theorem works2 : seeS ⟨2, 5, [(⟨#[97]⟩, 1, 0)], 1⟩ ⟨#[97]⟩ 1 6 = (⟨2, 5, [(⟨#[97]⟩, 1, 0)], 1⟩, 34, 0) := by rfl
theorem works3 : seeS ⟨2, 5, [(⟨#[97]⟩, 1, 0)], 1⟩ ⟨#[97]⟩ 1 7 = (⟨2, 5, [(⟨#[97]⟩, 1, 1)], 2⟩, 0, 0) := by rfl

set_option maxRecDepth 20000 in
set_option maxHeartbeats 1600000 in
theorem works_any (W : World) : Calls Try.prog 11 #[] W fun e W' => e = .returned (.bool true) ∧ Mod [] W W' := by
  have f1 := works1
  have f2 := works2
  have f3 := works3
  have HF := hid (And.intro f1 (And.intro f2 f3))
  clear f1 f2 f3
  go_enter Try.func11, Try.ntmps11
  go_wp2_with (first
    | (go_at_call 9; refine (makeRep_yes 2 5 _ rfl rfl).mono ?_; rintro e w1 ⟨x, b, rfl, hr, hm, hx, hb⟩; have hnow : RepNow w1 x b (newRep 2 5) := ⟨hr, newRep_ok rfl rfl⟩; have HM := hid hm; have HX := hid hx; have HBB := hid hb; clear hr hm hx hb)
    | (go_at_call 12; refine (see_now _ x b _ _ _ _ (by assumption)).mono ?_; (first | rw [HF.out.1] | rw [HF.out.2.1] | rw [HF.out.2.2]); rintro e w5 ⟨rfl, h5, m5⟩; clear hnow; have hnow := h5; have HM' := hid (HM.out.trans' m5 (fun y hy => .inr (by rw [List.mem_singleton.1 hy]; exact HBB.out))); clear m5 h5 HM; have HM := HM'; clear HM')
    | (go_at_call 18; refine (makeHeld_yes 2 w5 rfl).mono ?_; rintro e w6 ⟨rfl, hh, hm6⟩; have HH := hid (show HeldAt w6 w5.heap.size (.slice none 0 0) 2 [] from ⟨hh, ⟨rfl, .inl ⟨rfl, rfl⟩⟩, by simp⟩); have HL := hid (And.intro (lt_of_block hnow.at_.cells) (lt_of_block hnow.at_.map)); have HREP := hid (hnow.at_.mod hm6 (by simp) (by simp)); have HW5 := hid (show W.heap.size ≤ w5.heap.size from HM.out.size); have HM6 := hid (HM.out.trans hm6); clear hh hm6 hnow)
    | (go_at_call 19; refine (put_new w6 w5.heap.size (.slice none 0 0) 2 [] (⟨⟨#[99]⟩, ⟨#[115]⟩, [], 1, 5, 0, 0⟩ : TkS) (.slice none 0 0) HH.out (by decide) (by simp) (.inl ⟨rfl, rfl⟩) (by simp) rfl rfl rfl (by decide)).mono ?_; rintro e w7 ⟨rfl, kv', v', hh7, hm7, hv7⟩; have HH7 := hid hh7; have HREP7 := hid (HREP.out.mod hm7 (by have := HL.out.1; simp [Value.ownBlock]; omega) (by have := HL.out.2; simp [Value.ownBlock]; omega)); have HM7 := hid (HM6.out.trans' hm7 (fun y hy => .inr (by simp [Value.ownBlock] at hy; rw [hy]; exact HW5.out))); clear hh7 hm7 hv7)
    | (go_at_call 20; have q := HREP.out; clear q HREP; have hfd := find_hit w7 w5.heap.size v' 2 [(kv', (⟨⟨#[99]⟩, ⟨#[115]⟩, [], 1, 5, 0, 0⟩ : TkS))] ⟨#[99]⟩ ⟨#[115]⟩ 5 HH7.out (by decide) (by simp) rfl 0 kv' (⟨⟨#[99]⟩, ⟨#[115]⟩, [], 1, 5, 0, 0⟩ : TkS) (by simp [atS, TkS.is]) rfl (by decide) (by decide) (by simp); simp only [TkS.cells] at hfd; refine hfd.mono ?_; clear hfd; rintro e w8 ⟨kv8, rfl, hk8⟩; obtain ⟨a8, c8, rfl⟩ := row_slice hk8.1; dsimp only [List.length_nil]; have HK8 := hid hk8.2.1; clear hk8)
    | (go_at_call 20; have q := HK8.out; have hfd := find_late (w8.alloc (.cells #[.string ⟨#[99]⟩, .string ⟨#[115]⟩, .slice a8 0 c8, .int .i64 1, .int .i64 5, .int .i64 0, .int .i64 0] 50)) w5.heap.size v' 2 [(kv', (⟨⟨#[99]⟩, ⟨#[115]⟩, [], 1, 5, 0, 0⟩ : TkS))] ⟨#[99]⟩ ⟨#[115]⟩ 6 (HH7.out.mod0 (q.alloc _)) (by decide) (by simp) rfl 0 kv' (⟨⟨#[99]⟩, ⟨#[115]⟩, [], 1, 5, 0, 0⟩ : TkS) (by simp [atS, TkS.is]) rfl (.inr (by decide)); simp only [TkS.cells, noTk] at hfd; refine hfd.mono ?_; clear hfd q; rintro e w9 ⟨rfl, hm9⟩; have hb9 := get_alloc (hm9.get (get_new w8 (.cells #[.string ⟨#[99]⟩, .string ⟨#[115]⟩, .slice a8 0 c8, .int .i64 1, .int .i64 5, .int .i64 0, .int .i64 0] 50)) (by simp)) (.cells #[.string ⟨#[]⟩, .string ⟨#[]⟩, .slice none 0 0, .int .i64 0, .int .i64 0, .int .i64 0, .int .i64 0] 50); have u4 : (w9.alloc (.cells #[.string ⟨#[]⟩, .string ⟨#[]⟩, .slice none 0 0, .int .i64 0, .int .i64 0, .int .i64 0, .int .i64 0] 50)).cell? ⟨w8.heap.size, 4, none⟩ = some (.int .i64 5) := cell_at hb9 4; have HM9 := hid (((HK8.out.alloc (.cells #[.string ⟨#[99]⟩, .string ⟨#[115]⟩, .slice a8 0 c8, .int .i64 1, .int .i64 5, .int .i64 0, .int .i64 0] 50)).trans hm9).alloc (.cells #[.string ⟨#[]⟩, .string ⟨#[]⟩, .slice none 0 0, .int .i64 0, .int .i64 0, .int .i64 0, .int .i64 0] 50)); clear hm9 hb9)
    | (go_at_call 14; refine (rlen_any _ x b _ (HREP7.out.mod HM9.out (by simp) (by simp))).mono ?_; rintro e w10 ⟨rfl, rfl⟩))
  go_ret
  exact ⟨rfl, HM7.out.trans HM9.out⟩
end Go.Proofs.Yteifjbfojjjacaa
