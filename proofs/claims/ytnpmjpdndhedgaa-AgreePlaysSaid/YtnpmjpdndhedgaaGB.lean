/-
  An agreement's node, walked: Make, Begin, Decided, Round, Lock. No statement of a claim stands here; each contract names what it asks.
-/
import Derived.Test.YtnpmjpdndhedgaaGA
set_option linter.unusedSimpArgs false
namespace Go.Proofs.Ytnpmjpdndhedgaa
open Go Go.RowKit Go.ChangeMaps

/-- A node in round 0. -/
def at0 (s : NodeS) : NodeS := { s with round := 0 }
theorem at0_ok {s : NodeS} (h : NOk s) : NOk (at0 s) := ⟨h.n0, h.n1, h.t0, h.t1, h.me0, h.me1, by simp [at0], by simp [at0], h.lr0, h.lr1, h.vok, h.frm⟩

set_option maxHeartbeats 800000 in
theorem begin_new (w : World) (p : Loc) (s : NodeS) (h : NodeAt w p s) (ho : NOk s) (hr : s.round = -1) :
    Calls Try.prog 17 #[.pointer (some ⟨p.x, 0, none⟩)] w (fun e w' => ∃ (p' : Loc) (v : Value), e = .returned (.tuple #[v, .int .i64 0]) ∧ NodeAt w' p' (hereS (at0 s)).1 ∧ MsgsAt w.heap.size w' v (hereS (at0 s)).2 ∧ Mod p.foot w w' ∧ Next w p p') := by
  obtain ⟨c0, c1, c2, c3, c4, c5, c6, c7, c8, -, -, hfz⟩ := h.all
  rw [hr] at c4
  have his := is_some p.x s.n w ho.n0 c0
  have hset : NodeAt (w.setCell ⟨p.x, 4, none⟩ (.int .i64 0)) p (at0 s) := h.set 4 (.int .i64 0) (at0 s) rfl rfl rfl
  have hmod : Mod p.foot w (w.setCell ⟨p.x, 4, none⟩ (.int .i64 0)) := (Mod.refl _ _).setCell (by simp [Loc.foot]) _
  have hhere := here_any _ p (at0 s) hset (at0_ok ho) (by simp [at0])
  have HIS := hid his
  have HHERE := hid hhere
  have HM := hid hmod
  clear h ho his hset hmod hhere
  go_enter Try.func17, Try.ntmps17
  go_wp2_with (first
    | (go_at_call 28; refine HIS.out.mono ?_; rintro e W ⟨rfl, rfl⟩)
    | (go_at_call 29; refine HHERE.out.mono ?_; rintro e w2 ⟨p3, v2, rfl, hn2, hm2, hmod2, hnx2⟩; have HA := hid (And.intro hn2 (And.intro hm2 (And.intro hmod2 hnx2))); clear hn2 hm2 hmod2 hnx2))
  go_ret2
  refine ⟨p3, _, rfl, HA.out.1, HA.out.2.1.lower HM.out.size, HM.out.trans HA.out.2.2.1, (Next.refl _ _).trans HA.out.2.2.2 HM.out.size⟩

theorem round_any (w : World) (p : Loc) (s : NodeS) (h : NodeAt w p s) (ho : NOk s) :
    Calls Try.prog 25 #[.pointer (some ⟨p.x, 0, none⟩)] w (fun e w' => e = .returned (.int .i64 s.round) ∧ w' = w) := by
  obtain ⟨c0, c1, c2, c3, c4, c5, c6, c7, c8, -, -, hfz⟩ := h.all
  have his := is_some p.x s.n w ho.n0 c0
  have HIS := hid his
  clear h ho his
  go_enter Try.func25, Try.ntmps25
  go_wp2_with (first
    | (go_at_call 28; refine HIS.out.mono ?_; rintro e W ⟨rfl, rfl⟩))
  go_ret
  exact ⟨rfl, rfl⟩

theorem decided_any (w : World) (p : Loc) (s : NodeS) (h : NodeAt w p s) (ho : NOk s) :
    Calls Try.prog 14 #[.pointer (some ⟨p.x, 0, none⟩)] w (fun e w' => e = .returned (.tuple #[.string s.choice, .bool s.done]) ∧ Mod [] w w') := by
  obtain ⟨c0, c1, c2, c3, c4, c5, c6, c7, c8, c9, c10, hfz⟩ := h.all
  have his := is_some p.x s.n w ho.n0 c0
  have HIS := hid his
  clear h ho his
  go_enter Try.func14, Try.ntmps14
  go_wp2_with (first
    | (go_at_call 28; refine HIS.out.mono ?_; rintro e W ⟨rfl, rfl⟩))
  go_quiet (fail)
  go_wp2_with fail
  go_ret2
  exact ⟨rfl, (Mod.refl _ _).drewN _⟩
end Go.Proofs.Ytnpmjpdndhedgaa
