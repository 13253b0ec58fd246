/-
  The chapter's example, walked: it answers true. No statement of a claim stands here; each contract names what it asks.
-/
import Derived.Test.YtbjgjagbepopfaaNC
set_option linter.unusedSimpArgs false
namespace Go.Proofs.Ytbjgjagbepopfaa
open Go Go.RowKit Go.ChangeMaps

def mx : Msg := ⟨1, 2, 0, ⟨#[120]⟩⟩
def my : Msg := ⟨1, 2, 0, ⟨#[121]⟩⟩
def w1S : NetS := ⟨3, 9, 1, 1, 0, 0, [(1, mx, 0)], [], [], 1, 0, 0⟩
def w2S : NetS := ⟨3, 9, 2, 2, 0, 0, [(1, mx, 0), (2, my, 1)], [], [], 2, 0, 0⟩
def w3S : NetS := ⟨3, 9, 2, 2, 1, 0, [(2, my, 1)], [], [], 2, 0, 0⟩
theorem w_send1 : (newNet 3 9).send mx = (w1S, 1, 0) := by rfl
theorem w_send2 : w1S.send my = (w2S, 2, 0) := by rfl
theorem w_old1 : w2S.oldest 2 = (1, 0) := by rfl
theorem w_take1 : w2S.take 1 = (w3S, mx, 0) := by rfl
theorem w_old2 : w3S.oldest 2 = (2, 0) := by rfl
theorem w_take2 : w3S.take 1 = (w3S, Msg.zero, 300) := by rfl
theorem w_ok0 : (newNet 3 9).Ok := newNet_ok (by omega) (by omega) (by omega) (by omega)
theorem w_ok1 : w1S.Ok := by have := NetS.send_ok w_ok0 mx; rw [w_send1] at this; exact this
theorem w_ok2 : w2S.Ok := by have := NetS.send_ok w_ok1 my; rw [w_send2] at this; exact this
theorem w_ok3 : w3S.Ok := by have := NetS.take_ok w_ok2 1; rw [w_take1] at this; exact this

theorem ws1 (w : World) (p : Loc) (h : NetAt w p (newNet 3 9)) : Calls Try.prog 13 #[.pointer (some ⟨p.x, 0, none⟩), .agg #[.int .i64 1, .int .i64 2, .int .i64 0, .string ⟨#[120]⟩]] w fun e w' => e = .returned (.tuple #[.int .i64 1, .int .i64 0]) ∧ NetAt w' p w1S ∧ Mod p.foot w w' := by
  have := send_any w p (newNet 3 9) mx h w_ok0 (by simp [newNet])
  unfold NumPost at this
  rw [w_send1] at this
  exact this
theorem ws2 (w : World) (p : Loc) (h : NetAt w p w1S) : Calls Try.prog 13 #[.pointer (some ⟨p.x, 0, none⟩), .agg #[.int .i64 1, .int .i64 2, .int .i64 0, .string ⟨#[121]⟩]] w fun e w' => e = .returned (.tuple #[.int .i64 2, .int .i64 0]) ∧ NetAt w' p w2S ∧ Mod p.foot w w' := by
  have := send_any w p w1S my h w_ok1 (by simp [w1S])
  unfold NumPost at this
  rw [w_send2] at this
  exact this
theorem wo1 (w : World) (p : Loc) (h : NetAt w p w2S) : Calls Try.prog 14 #[.pointer (some ⟨p.x, 0, none⟩), .int .i64 2] w fun e w' => e = .returned (.tuple #[.int .i64 1, .int .i64 0]) ∧ Mod [] w w' := by
  have := oldest_any w p w2S 2 h w_ok2 (by simp [w2S])
  rw [w_old1] at this
  exact this
theorem wt1 (w : World) (p : Loc) (h : NetAt w p w2S) : Calls Try.prog 15 #[.pointer (some ⟨p.x, 0, none⟩), .int .i64 1] w fun e w' => e = .returned (.tuple #[.agg #[.int .i64 1, .int .i64 2, .int .i64 0, .string ⟨#[120]⟩], .int .i64 0]) ∧ NetAt w' p w3S ∧ Mod p.foot w w' := by
  have := take_any w p w2S 1 h w_ok2 (by simp [w2S])
  unfold MsgPost at this
  rw [w_take1] at this
  exact this
theorem wo2 (w : World) (p : Loc) (h : NetAt w p w3S) : Calls Try.prog 14 #[.pointer (some ⟨p.x, 0, none⟩), .int .i64 2] w fun e w' => e = .returned (.tuple #[.int .i64 2, .int .i64 0]) ∧ Mod [] w w' := by
  have := oldest_any w p w3S 2 h w_ok3 (by simp [w3S])
  rw [w_old2] at this
  exact this
theorem wt2 (w : World) (p : Loc) (h : NetAt w p w3S) : Calls Try.prog 15 #[.pointer (some ⟨p.x, 0, none⟩), .int .i64 1] w fun e w' => e = .returned (.tuple #[.agg #[.int .i64 0, .int .i64 0, .int .i64 0, .string ⟨#[]⟩], .int .i64 300]) ∧ NetAt w' p w3S ∧ Mod p.foot w w' := by
  have := take_any w p w3S 1 h w_ok3 (by simp [w3S])
  unfold MsgPost at this
  rw [w_take2] at this
  exact this

set_option maxRecDepth 20000 in
set_option maxHeartbeats 4000000 in
theorem works_any (w : World) : Calls Try.prog 9 #[] w fun e w' => e = .returned (.bool true) ∧ Mod [] w w' := by
  go_enter Try.func9, Try.ntmps9
  go_upto_region 8 with (first
    | (go_at_call 10; refine (make_yes 3 9 w (by omega) (by omega) (by omega) (by omega)).mono ?_; rintro e w1 ⟨p, rfl, hn1, hm1, hf1⟩; have HF := hid hf1; have H1 := hid (And.intro hn1 hm1); clear hn1 hm1 hf1)
    | (go_at_call 13; refine (ws1 w1 p H1.out.1).mono ?_; rintro e w2 ⟨rfl, hn2, hm2⟩; have H2 := hid (And.intro hn2 (H1.out.2.trans' hm2 (fun x hx => .inr (HF.out x hx)))); clear hn2 hm2 H1)
    | (go_at_call 13; refine (ws2 w2 p H2.out.1).mono ?_; rintro e w3 ⟨rfl, hn2, hm2⟩; have H3 := hid (And.intro hn2 (H2.out.2.trans' hm2 (fun x hx => .inr (HF.out x hx)))); clear hn2 hm2 H2)
    | (go_at_call 14; refine (wo1 w3 p H3.out.1).mono ?_; rintro e w4 ⟨rfl, hm2⟩; have H4 := hid (And.intro (H3.out.1.mod0 hm2) (H3.out.2.trans hm2)); clear hm2 H3)
    | (go_at_call 15; refine (wt1 w4 p H4.out.1).mono ?_; rintro e w5 ⟨rfl, hn2, hm2⟩; have H5 := hid (And.intro hn2 (H4.out.2.trans' hm2 (fun x hx => .inr (HF.out x hx)))); clear hn2 hm2 H4))
  have hn6 := H5.out.1.mod0 ((Mod.refl _ _).alloc (.cells #[.int .i64 1, .int .i64 2, .int .i64 0, .string ⟨#[120]⟩] 29 (0, 0)))
  have hm6 := H5.out.2.alloc (.cells #[.int .i64 1, .int .i64 2, .int .i64 0, .string ⟨#[120]⟩] 29 (0, 0))
  have hg6 := get_new w5 (.cells #[.int .i64 1, .int .i64 2, .int .i64 0, .string ⟨#[120]⟩] 29 (0, 0))
  generalize (w5.alloc (.cells #[.int .i64 1, .int .i64 2, .int .i64 0, .string ⟨#[120]⟩] 29 (0, 0))) = w6 at *
  generalize w5.heap.size = g at *
  have H6 := hid (And.intro hn6 (And.intro hm6 hg6))
  clear hn6 hm6 hg6 H5
  go_upto_region 10 with (first
    | (go_at_call 14; refine (wo2 w6 p H6.out.1).mono ?_; rintro e w7 ⟨rfl, hm2⟩; have H7 := hid (And.intro (H6.out.1.mod0 hm2) (And.intro (H6.out.2.1.trans hm2) (hm2.get H6.out.2.2 (by simp)))); clear hm2 H6)
    | (go_at_call 15; refine (wt2 w7 p H7.out.1).mono ?_; rintro e w8 ⟨rfl, hn2, hm2⟩; have H8 := hid (And.intro (H7.out.2.1.trans' hm2 (fun x hx => .inr (HF.out x hx))) (hm2.get H7.out.2.2 (H7.out.1.ne H7.out.2.2 (by decide)))); clear hn2 hm2 H7))
  have hm9 := H8.out.1.alloc (.cells #[.int .i64 0, .int .i64 0, .int .i64 0, .string ⟨#[]⟩] 29 (0, 0))
  have hg9 := get_alloc H8.out.2 (.cells #[.int .i64 0, .int .i64 0, .int .i64 0, .string ⟨#[]⟩] 29 (0, 0))
  generalize (w8.alloc (.cells #[.int .i64 0, .int .i64 0, .int .i64 0, .string ⟨#[]⟩] 29 (0, 0))) = w9 at *
  have c3 : w9.cell? ⟨g, 3, none⟩ = some (.string ⟨#[120]⟩) := cell_at hg9 3
  have HM := hid hm9
  clear hm9 hg9 H8
  go_wp2_with fail
  go_ret
  exact ⟨rfl, HM.out⟩
end Go.Proofs.Ytbjgjagbepopfaa
