/-
  A net, walked: Copy, Count. No statement of a claim stands here; each contract names what it asks.
-/
import Derived.Test.YtbjgjagbepopfaaN6
set_option linter.unusedSimpArgs false
namespace Go.Proofs.Ytbjgjagbepopfaa
open Go Go.RowKit Go.ChangeMaps


set_option maxRecDepth 20000 in
set_option maxHeartbeats 2000000 in
theorem copy_any (w : World) (p : Loc) (s : NetS) (k : Int) (h : NetAt w p s) (ho : s.Ok) (hb : s.sent ≤ 1000000) :
    Calls Try.prog 17 #[.pointer (some ⟨p.x, 0, none⟩), .int .i64 k] w (NumPost w p (s.copy k)) := by
  have c6 := h.all.2.2.2.2.2.2.1
  have H := hid h
  have HO := hid ho
  clear h ho
  cases hf : s.free k with
  | none =>
    have HF := hid hf
    clear hf
    go_enter Try.func17, Try.ntmps17
    go_wp2_with (first | (go_at_call 37; refine (is_net _ _ p.bw c6).mono ?_; rintro e w' ⟨rfl, hw'⟩; subst hw') | (go_at_call 36; refine (free_any _ p s k H.out).mono ?_; rintro e w1 ⟨rfl, hm1⟩; rw [HF.out]; simp only [freeV, Msg.v, Msg.zero, Option.getD_none, Option.isSome_none, Option.getD_some, Option.isSome_some]; have HM1 := hid hm1; clear hm1))
    have hk : s.copy k = (s, 0, 300) := by unfold NetS.copy; rw [HF.out]
    go_ret2
    exact ⟨by rw [hk]; rfl, by rw [hk]; exact (H.out.mod0 HM1.out).mod0 ((Mod.refl _ _).alloc _), (HM1.out.alloc _).mono (by simp)⟩
  | some m =>
    have HF := hid hf
    clear hf
    go_enter Try.func17, Try.ntmps17
    go_upto_region 6 with (first | (go_at_call 37; refine (is_net _ _ p.bw c6).mono ?_; rintro e w' ⟨rfl, hw'⟩; subst hw') | (go_at_call 36; refine (free_any _ p s k H.out).mono ?_; rintro e w1 ⟨rfl, hm1⟩; rw [HF.out]; simp only [freeV, Msg.v, Msg.zero, Option.getD_none, Option.isSome_none, Option.getD_some, Option.isSome_some]; have HM1 := hid hm1; clear hm1))
    have hn2 := (H.out.mod0 HM1.out).mod0 ((Mod.refl _ _).alloc (.cells #[.int .i64 m.frm, .int .i64 m.to, .int .i64 m.kind, .string m.body] 29 (0, 0)))
    have hm2 := (HM1.out.alloc (.cells #[.int .i64 m.frm, .int .i64 m.to, .int .i64 m.kind, .string m.body] 29 (0, 0)))
    have hg2 := get_new w1 (.cells #[.int .i64 m.frm, .int .i64 m.to, .int .i64 m.kind, .string m.body] 29 (0, 0))
    clear c6
    generalize w1.alloc (.cells #[.int .i64 m.frm, .int .i64 m.to, .int .i64 m.kind, .string m.body] 29 (0, 0)) = W2 at *
    generalize w1.heap.size = g at *
    have g0 := cell_at hg2 0
    have g1 := cell_at hg2 1
    have g2 := cell_at hg2 2
    have g3 := cell_at hg2 3
    have hput := put_any W2 p s m hn2 HO.out hb
    have HP := hid hput
    have HM2 := hid hm2
    clear hn2 hm2 hg2 hput
    go_wp2_with (first
      | (go_at_call 35; refine HP.out.mono ?_; rintro e w3 ⟨rfl, hn3, hm3⟩; have H3 := hid (And.intro hn3 hm3); clear hn3 hm3))
    have hk : s.copy k = s.put m := by unfold NetS.copy; rw [HF.out]
    go_ret2
    exact ⟨by rw [hk]; rfl, by rw [hk]; exact H3.out.1, (HM2.out.mono (by simp)).trans H3.out.2⟩

set_option maxRecDepth 20000 in
theorem count_any (w : World) (p : Loc) (s : NetS) (h : NetAt w p s) :
    Calls Try.prog 20 #[.pointer (some ⟨p.x, 0, none⟩)] w fun e w' => e = .returned (.tuple #[.int .i64 s.sent, .int .i64 s.taken, .int .i64 s.lost]) ∧ Mod [] w w' := by
  obtain ⟨-, -, -, c3, c4, c5, c6, -, -, -⟩ := h.all
  clear h
  go_enter Try.func20, Try.ntmps20
  go_wp2_with (first | (go_at_call 37; refine (is_net _ _ p.bw c6).mono ?_; rintro e w' ⟨rfl, hw'⟩; subst hw'))
  go_quiet (fail)
  go_wp2_with fail
  go_ret3
  exact ⟨rfl, (Mod.refl _ _).drewN _⟩
end Go.Proofs.Ytbjgjagbepopfaa
