/-
  A net, walked: Take, Copy, Look, Count. No statement of a claim stands here; each contract names what it asks.
-/
import Derived.Test.YtbjgjagbepopfaaN5
set_option linter.unusedSimpArgs false
namespace Go.Proofs.Ytbjgjagbepopfaa
open Go Go.RowKit Go.ChangeMaps

/-- What a call that hands back a message and an errno leaves. -/
def MsgPost (w : World) (p : Loc) (r : NetS × Msg × Int) (e : Ending) (w' : World) : Prop :=
  e = .returned (.tuple #[r.2.1.v, .int .i64 r.2.2]) ∧ NetAt w' p r.1 ∧ Mod p.foot w w'

abbrev msgObj (m : Msg) : Obj := .cells #[.int .i64 m.frm, .int .i64 m.to, .int .i64 m.kind, .string m.body] 29 (0, 0)
abbrev zeroObj : Obj := .cells #[.int .i64 0, .int .i64 0, .int .i64 0, .string ⟨#[]⟩] 29 (0, 0)


set_option maxRecDepth 20000 in
set_option maxHeartbeats 2000000 in
theorem take_any (w : World) (p : Loc) (s : NetS) (k : Int) (h : NetAt w p s) (ho : s.Ok) (hb : s.sent ≤ 1000000) :
    Calls Try.prog 15 #[.pointer (some ⟨p.x, 0, none⟩), .int .i64 k] w (MsgPost w p (s.take k)) := by
  have hma : Mod [] w (w.alloc zeroObj) := Mod.alloc (Mod.refl _ _) _
  have c6 := (h.mod0 hma).all.2.2.2.2.2.2.1
  have hz := get_new w zeroObj
  have H := hid h
  have HO := hid ho
  have HA := hid hma
  have HZ := hid hz
  clear h ho hma hz
  cases hf : s.free k with
  | none =>
    have HF := hid hf
    clear hf
    go_enter Try.func15, Try.ntmps15
    go_upto_if 19 with (first | (go_at_call 37; refine (is_net _ _ p.bw c6).mono ?_; rintro e w' ⟨rfl, rfl⟩) | (go_at_call 36; refine (free_any _ p s k (H.out.mod0 HA.out)).mono ?_; rintro e w1 ⟨rfl, hm1⟩; rw [HF.out]; simp only [freeV, Msg.v, Msg.zero, Option.getD_none, Option.isSome_none, Option.getD_some, Option.isSome_some]; have HM1 := hid hm1; clear hm1))
    have hm2 := (HA.out.trans HM1.out).alloc (.cells #[.int .i64 0, .int .i64 0, .int .i64 0, .string ⟨#[]⟩] 29 (0, 0))
    have hg2 := get_new w1 (.cells #[.int .i64 0, .int .i64 0, .int .i64 0, .string ⟨#[]⟩] 29 (0, 0))
    have hz2 := get_alloc (HM1.out.get HZ.out (by simp)) (.cells #[.int .i64 0, .int .i64 0, .int .i64 0, .string ⟨#[]⟩] 29 (0, 0))
    have hn2 := H.out.mod0 hm2
    have hle : w.heap.size < w1.heap.size := by have := HM1.out.size; simp at this; omega
    clear c6
    generalize w1.alloc (.cells #[.int .i64 0, .int .i64 0, .int .i64 0, .string ⟨#[]⟩] 29 (0, 0)) = W2 at *
    generalize w1.heap.size = g at *
    have z0 := cell_at hz2 0
    have z1 := cell_at hz2 1
    have z2 := cell_at hz2 2
    have z3 := cell_at hz2 3
    have f0 := free_at hz2 0
    have f1 := free_at hz2 1
    have f2 := free_at hz2 2
    have f3 := free_at hz2 3
    have HW := hid (And.intro hn2 (And.intro hm2 (And.intro hg2 hz2)))
    clear hn2 hm2 hg2 hz2
    go_wp2_with fail
    have hq := set4 HW.out.2.2.2 (.int .i64 0) (.int .i64 0) (.int .i64 0) (.string ⟨#[]⟩)
    have hm := mod4 HW.out.2.1 (.inr (Nat.le_refl _)) (.int .i64 0) (.int .i64 0) (.int .i64 0) (.string ⟨#[]⟩)
    generalize ((((W2.setCell ⟨w.heap.size, 0, none⟩ (.int .i64 0)).setCell ⟨w.heap.size, 1, none⟩ (.int .i64 0)).setCell ⟨w.heap.size, 2, none⟩ (.int .i64 0)).setCell ⟨w.heap.size, 3, none⟩ (.string ⟨#[]⟩)) = W4 at *
    have q0 := cell_at hq 0
    have q1 := cell_at hq 1
    have q2 := cell_at hq 2
    have q3 := cell_at hq 3
    have hk : s.take k = (s, Msg.zero, 300) := by unfold NetS.take; rw [HF.out]
    refine bodyPost_ret (v := .tuple #[.agg #[.int .i64 0, .int .i64 0, .int .i64 0, .string ⟨#[]⟩], .int .i64 300]) (by simp [results, Try.results15, go_sem, q0, q1, q2, q3]) rfl ⟨by rw [hk]; rfl, by rw [hk]; exact H.out.mod0 hm, hm.mono (by simp)⟩
  | some m =>
    have HF := hid hf
    clear hf
    go_enter Try.func15, Try.ntmps15
    go_upto_if 19 with (first | (go_at_call 37; refine (is_net _ _ p.bw c6).mono ?_; rintro e w' ⟨rfl, rfl⟩) | (go_at_call 36; refine (free_any _ p s k (H.out.mod0 HA.out)).mono ?_; rintro e w1 ⟨rfl, hm1⟩; rw [HF.out]; simp only [freeV, Msg.v, Msg.zero, Option.getD_none, Option.isSome_none, Option.getD_some, Option.isSome_some]; have HM1 := hid hm1; clear hm1))
    have hm2 := (HA.out.trans HM1.out).alloc (.cells #[.int .i64 m.frm, .int .i64 m.to, .int .i64 m.kind, .string m.body] 29 (0, 0))
    have hg2 := get_new w1 (.cells #[.int .i64 m.frm, .int .i64 m.to, .int .i64 m.kind, .string m.body] 29 (0, 0))
    have hz2 := get_alloc (HM1.out.get HZ.out (by simp)) (.cells #[.int .i64 m.frm, .int .i64 m.to, .int .i64 m.kind, .string m.body] 29 (0, 0))
    have hn2 := H.out.mod0 hm2
    have hle : w.heap.size < w1.heap.size := by have := HM1.out.size; simp at this; omega
    clear c6
    generalize w1.alloc (.cells #[.int .i64 m.frm, .int .i64 m.to, .int .i64 m.kind, .string m.body] 29 (0, 0)) = W2 at *
    generalize w1.heap.size = g at *
    have z0 := cell_at hz2 0
    have z1 := cell_at hz2 1
    have z2 := cell_at hz2 2
    have z3 := cell_at hz2 3
    have f0 := free_at hz2 0
    have f1 := free_at hz2 1
    have f2 := free_at hz2 2
    have f3 := free_at hz2 3
    have HW := hid (And.intro hn2 (And.intro hm2 (And.intro hg2 hz2)))
    obtain ⟨d0, d1, d2, d3, d4, d5, d6, d7, d8, df⟩ := hn2.all
    have d4f := df 4
    have hw2 := hn2.way
    have g0 := cell_at hg2 0
    have g1 := cell_at hg2 1
    have g2 := cell_at hg2 2
    have g3 := cell_at hg2 3
    clear hn2 hm2 hg2 hz2 d0 d1 d2 d3 d5 d7 d8 df
    have hnd := HO.out.nodup
    have HND := hid hnd
    clear hnd
    go_upto_region 7 with (first
      | (at_delete; refine wpList_drop_at kInt rfl _ _ _ _ _ rfl Try.underlying64 p.bw s.cw s.way k rfl rfl hw2 HND.out ?_; intro w3 hb3 hm3 hs3))
    have hn3 : NetAt w3 p { s with way := s.way.filter (fun e => decide (e.1 ≠ k)) } := by
      have h2 := HW.out.1
      exact ⟨hm3.get h2.cells (by simpa using h2.xne.1), hb3, hm3.get h2.cuts (by simpa using h2.wc.symm), hm3.get h2.downs (by simpa using h2.wd.symm), h2.wc, h2.wd, h2.cd⟩
    have hgn := HW.out.1.ne HW.out.2.2.1 (by decide)
    have hzn := HW.out.1.ne HW.out.2.2.2 (by decide)
    have hg3 := hm3.get HW.out.2.2.1 (fun hh => hgn (by rw [List.mem_singleton.1 hh]; simp [Loc.foot]))
    have hz3 := hm3.get HW.out.2.2.2 (fun hh => hzn (by rw [List.mem_singleton.1 hh]; simp [Loc.foot]))
    have hm4 : Mod p.foot w w3 := (HW.out.2.1.mono (by simp)).trans (hm3.mono (fun x hx => .inl (by rw [List.mem_singleton.1 hx]; simp [Loc.foot])))
    clear z0 z1 z2 z3 f0 f1 f2 f3 g0 g1 g2 g3 d4 d6 d4f hw2 hb3 hm3 hs3 HW HND
    have d4 := hn3.all.2.2.2.2.1
    have d4f := hn3.all.2.2.2.2.2.2.2.2.2 4
    have ht := HO.out.taken
    have hs := HO.out.sum
    have hl := HO.out.lost
    have HW := hid (And.intro hn3 (And.intro hm4 (And.intro hg3 hz3)))
    clear hn3 hm4 hg3 hz3
    dsimp only at d4
    have t1 : s.taken ≤ 1000000 := by omega
    clear hs hl hb
    go_upto_region 8 with fail
    have hn5 := HW.out.1.set 4 (.int .i64 (s.taken + 1)) (s.gone k) rfl ⟨rfl, rfl⟩ ⟨rfl, rfl⟩ ⟨rfl, rfl⟩
    have hm5 := HW.out.2.1.setCell (p := ⟨p.x, 4, none⟩) (.inl (by simp [Loc.foot])) (.int .i64 (s.taken + 1))
    have hg5 := get_setCell HW.out.2.2.1 (p := ⟨p.x, 4, none⟩) (fun e => hgn (by rw [e]; simp [Loc.foot])) (.int .i64 (s.taken + 1))
    have hz5 := get_setCell HW.out.2.2.2 (p := ⟨p.x, 4, none⟩) (fun e => hzn (by rw [e]; simp [Loc.foot])) (.int .i64 (s.taken + 1))
    clear HW d4 d4f
    generalize (w3.setCell ⟨p.x, 4, none⟩ (.int .i64 (s.taken + 1))) = W5 at *
    have g0 := cell_at hg5 0
    have g1 := cell_at hg5 1
    have g2 := cell_at hg5 2
    have g3 := cell_at hg5 3
    have z0 := cell_at hz5 0
    have z1 := cell_at hz5 1
    have z2 := cell_at hz5 2
    have z3 := cell_at hz5 3
    have f0 := free_at hz5 0
    have f1 := free_at hz5 1
    have f2 := free_at hz5 2
    have f3 := free_at hz5 3
    have HW := hid (And.intro hn5 (And.intro hm5 (And.intro hg5 hz5)))
    clear hn5 hm5 hg5 hz5
    go_wp2_with fail
    have hq := set4 HW.out.2.2.2 (.int .i64 m.frm) (.int .i64 m.to) (.int .i64 m.kind) (.string m.body)
    have hm := mod4 HW.out.2.1 (.inr (Nat.le_refl _)) (.int .i64 m.frm) (.int .i64 m.to) (.int .i64 m.kind) (.string m.body)
    have hmn := mod4 (Mod.refl [w.heap.size] W5) (b := w.heap.size) (.inl (by simp)) (.int .i64 m.frm) (.int .i64 m.to) (.int .i64 m.kind) (.string m.body)
    have hn6 := HW.out.1.mod hmn (fun b hb he => hzn (by rw [← List.mem_singleton.1 he]; exact hb))
    generalize ((((W5.setCell ⟨w.heap.size, 0, none⟩ (.int .i64 m.frm)).setCell ⟨w.heap.size, 1, none⟩ (.int .i64 m.to)).setCell ⟨w.heap.size, 2, none⟩ (.int .i64 m.kind)).setCell ⟨w.heap.size, 3, none⟩ (.string m.body)) = W6 at *
    have q0 := cell_at hq 0
    have q1 := cell_at hq 1
    have q2 := cell_at hq 2
    have q3 := cell_at hq 3
    have hk : s.take k = (s.gone k, m, 0) := by unfold NetS.take; rw [HF.out]
    refine bodyPost_ret (v := .tuple #[.agg #[.int .i64 m.frm, .int .i64 m.to, .int .i64 m.kind, .string m.body], .int .i64 0]) (by simp [results, Try.results15, go_sem, q0, q1, q2, q3]) rfl ⟨by rw [hk]; rfl, by rw [hk]; exact hn6, hm⟩
end Go.Proofs.Ytbjgjagbepopfaa
