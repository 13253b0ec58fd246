/-
  A net, walked: Look. No statement of a claim stands here; each contract names what it asks.
-/
import Derived.Test.YtbjgjagbepopfaaN6
set_option linter.unusedSimpArgs false
namespace Go.Proofs.Ytbjgjagbepopfaa
open Go Go.RowKit Go.ChangeMaps

/-- Look. -/
def NetS.look1 (s : NetS) (k : Int) : NetS × Msg × Int :=
  match s.free k with
  | none => (s, Msg.zero, 300)
  | some m => (s, m, 0)


set_option maxRecDepth 20000 in
set_option maxHeartbeats 2000000 in
theorem look_any (w : World) (p : Loc) (s : NetS) (k : Int) (h : NetAt w p s) :
    Calls Try.prog 25 #[.pointer (some ⟨p.x, 0, none⟩), .int .i64 k] w (MsgPost w p (s.look1 k)) := by
  have hma : Mod [] w (w.alloc zeroObj) := Mod.alloc (Mod.refl _ _) _
  have c6 := (h.mod0 hma).all.2.2.2.2.2.2.1
  have hz := get_new w zeroObj
  have H := hid h
  have HA := hid hma
  have HZ := hid hz
  clear h hma hz
  cases hf : s.free k with
  | none =>
    have HF := hid hf
    clear hf
    go_enter Try.func25, Try.ntmps25
    go_upto_if 19 with (first | (go_at_call 37; refine (is_net _ _ p.bw c6).mono ?_; rintro e w' ⟨rfl, rfl⟩) | (go_at_call 36; refine (free_any _ p s k (H.out.mod0 HA.out)).mono ?_; rintro e w1 ⟨rfl, hm1⟩; rw [HF.out]; simp only [freeV, Msg.v, Msg.zero, Option.getD_none, Option.isSome_none, Option.getD_some, Option.isSome_some]; have HM1 := hid hm1; clear hm1))
    have hm2 := (HA.out.trans HM1.out).alloc (.cells #[.int .i64 0, .int .i64 0, .int .i64 0, .string ⟨#[]⟩] 29 (0, 0))
    have hg2 := get_new w1 (.cells #[.int .i64 0, .int .i64 0, .int .i64 0, .string ⟨#[]⟩] 29 (0, 0))
    have hz2 := get_alloc (HM1.out.get HZ.out (by simp)) (.cells #[.int .i64 0, .int .i64 0, .int .i64 0, .string ⟨#[]⟩] 29 (0, 0))
    have hn2 := H.out.mod0 hm2
    have hle : w.heap.size < w1.heap.size := by have := HM1.out.size; simp at this; omega
    clear c6
    generalize w1.alloc (.cells #[.int .i64 0, .int .i64 0, .int .i64 0, .string ⟨#[]⟩] 29 (0, 0)) = W2 at *
    generalize w1.heap.size = g at *
    have z0 := cell_at hz2 0
    have z1 := cell_at hz2 1
    have z2 := cell_at hz2 2
    have z3 := cell_at hz2 3
    have f0 := free_at hz2 0
    have f1 := free_at hz2 1
    have f2 := free_at hz2 2
    have f3 := free_at hz2 3
    have HW := hid (And.intro hn2 (And.intro hm2 (And.intro hg2 hz2)))
    clear hn2 hm2 hg2 hz2
    go_wp2_with fail
    have hq := set4 HW.out.2.2.2 (.int .i64 0) (.int .i64 0) (.int .i64 0) (.string ⟨#[]⟩)
    have hm := mod4 HW.out.2.1 (.inr (Nat.le_refl _)) (.int .i64 0) (.int .i64 0) (.int .i64 0) (.string ⟨#[]⟩)
    generalize ((((W2.setCell ⟨w.heap.size, 0, none⟩ (.int .i64 0)).setCell ⟨w.heap.size, 1, none⟩ (.int .i64 0)).setCell ⟨w.heap.size, 2, none⟩ (.int .i64 0)).setCell ⟨w.heap.size, 3, none⟩ (.string ⟨#[]⟩)) = W4 at *
    have q0 := cell_at hq 0
    have q1 := cell_at hq 1
    have q2 := cell_at hq 2
    have q3 := cell_at hq 3
    have hk : s.look1 k = (s, Msg.zero, 300) := by unfold NetS.look1; rw [HF.out]
    refine bodyPost_ret (v := .tuple #[.agg #[.int .i64 0, .int .i64 0, .int .i64 0, .string ⟨#[]⟩], .int .i64 300]) (by simp [results, Try.results25, go_sem, q0, q1, q2, q3]) rfl ⟨by rw [hk]; rfl, by rw [hk]; exact H.out.mod0 hm, hm.mono (by simp)⟩
  | some m =>
    have HF := hid hf
    clear hf
    go_enter Try.func25, Try.ntmps25
    go_upto_if 19 with (first | (go_at_call 37; refine (is_net _ _ p.bw c6).mono ?_; rintro e w' ⟨rfl, rfl⟩) | (go_at_call 36; refine (free_any _ p s k (H.out.mod0 HA.out)).mono ?_; rintro e w1 ⟨rfl, hm1⟩; rw [HF.out]; simp only [freeV, Msg.v, Msg.zero, Option.getD_none, Option.isSome_none, Option.getD_some, Option.isSome_some]; have HM1 := hid hm1; clear hm1))
    have hm2 := (HA.out.trans HM1.out).alloc (.cells #[.int .i64 m.frm, .int .i64 m.to, .int .i64 m.kind, .string m.body] 29 (0, 0))
    have hg2 := get_new w1 (.cells #[.int .i64 m.frm, .int .i64 m.to, .int .i64 m.kind, .string m.body] 29 (0, 0))
    have hz2 := get_alloc (HM1.out.get HZ.out (by simp)) (.cells #[.int .i64 m.frm, .int .i64 m.to, .int .i64 m.kind, .string m.body] 29 (0, 0))
    have hn2 := H.out.mod0 hm2
    have hle : w.heap.size < w1.heap.size := by have := HM1.out.size; simp at this; omega
    clear c6
    generalize w1.alloc (.cells #[.int .i64 m.frm, .int .i64 m.to, .int .i64 m.kind, .string m.body] 29 (0, 0)) = W2 at *
    generalize w1.heap.size = g at *
    have z0 := cell_at hz2 0
    have z1 := cell_at hz2 1
    have z2 := cell_at hz2 2
    have z3 := cell_at hz2 3
    have f0 := free_at hz2 0
    have f1 := free_at hz2 1
    have f2 := free_at hz2 2
    have f3 := free_at hz2 3
    have HW := hid (And.intro hn2 (And.intro hm2 (And.intro hg2 hz2)))
    have g0 := cell_at hg2 0
    have g1 := cell_at hg2 1
    have g2 := cell_at hg2 2
    have g3 := cell_at hg2 3
    have hzn := hn2.ne hz2 (by decide)
    clear hn2 hm2 hg2 hz2
    go_wp2_with fail
    have hq := set4 HW.out.2.2.2 (.int .i64 m.frm) (.int .i64 m.to) (.int .i64 m.kind) (.string m.body)
    have hm := mod4 HW.out.2.1 (.inr (Nat.le_refl _)) (.int .i64 m.frm) (.int .i64 m.to) (.int .i64 m.kind) (.string m.body)
    have hmn := mod4 (Mod.refl [w.heap.size] W2) (b := w.heap.size) (.inl (by simp)) (.int .i64 m.frm) (.int .i64 m.to) (.int .i64 m.kind) (.string m.body)
    have hn6 := HW.out.1.mod hmn (fun b hb he => hzn (by rw [← List.mem_singleton.1 he]; exact hb))
    generalize ((((W2.setCell ⟨w.heap.size, 0, none⟩ (.int .i64 m.frm)).setCell ⟨w.heap.size, 1, none⟩ (.int .i64 m.to)).setCell ⟨w.heap.size, 2, none⟩ (.int .i64 m.kind)).setCell ⟨w.heap.size, 3, none⟩ (.string m.body)) = W6 at *
    have q0 := cell_at hq 0
    have q1 := cell_at hq 1
    have q2 := cell_at hq 2
    have q3 := cell_at hq 3
    have hk : s.look1 k = (s, m, 0) := by unfold NetS.look1; rw [HF.out]
    refine bodyPost_ret (v := .tuple #[.agg #[.int .i64 m.frm, .int .i64 m.to, .int .i64 m.kind, .string m.body], .int .i64 0]) (by simp [results, Try.results25, go_sem, q0, q1, q2, q3]) rfl ⟨by rw [hk]; rfl, by rw [hk]; exact hn6, hm.mono (by simp)⟩
end Go.Proofs.Ytbjgjagbepopfaa
