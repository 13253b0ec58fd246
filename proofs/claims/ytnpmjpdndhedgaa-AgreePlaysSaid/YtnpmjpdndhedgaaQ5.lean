/-
  Both nodes of an agreement, walked: Begin, Lock; the statement's sameAll. No statement of a claim stands here; each contract names what it asks.
-/
import Derived.Test.YtnpmjpdndhedgaaQ4
import Derived.OwnWalk
set_option linter.unusedSimpArgs false
namespace Go.Proofs.Ytnpmjpdndhedgaa
open Go Go.RowKit Go.ChangeMaps

theorem begin_old (w : World) (p : Loc) (s : NodeS) (h : NodeAt w p s) (ho : NOk s) (hr : 0 ≤ s.round) :
    Calls Try.prog 17 #[.pointer (some ⟨p.x, 0, none⟩)] w (fun e w' => e = .returned (.tuple #[.slice none 0 0, .int .i64 6]) ∧ w' = w) := by
  obtain ⟨c0, c1, c2, c3, c4, c5, c6, c7, c8, -, -, hfz⟩ := h.all
  have his := is_some p.x s.n w ho.n0 c0
  have d1 : decide (0 ≤ s.round) = true := decide_eq_true hr
  have HIS := hid his
  clear h ho his
  go_enter Try.func17, Try.ntmps17
  go_wp2_with (first
    | (go_at_call 28; refine HIS.out.mono ?_; rintro e W ⟨rfl, rfl⟩))
  go_ret2
  exact ⟨rfl, rfl⟩

theorem lock_any (w : World) (p : Loc) (s : NodeS) (h : NodeAt w p s) (ho : NOk s) :
    Calls Try.prog 24 #[.pointer (some ⟨p.x, 0, none⟩)] w (fun e w' => e = .returned (.tuple #[.string (if 0 ≤ s.lr then s.lv else ⟨#[]⟩), .int .i64 (if 0 ≤ s.lr then s.lr else 0), .bool (decide (0 ≤ s.lr))]) ∧ Mod [] w w') := by
  obtain ⟨c0, c1, c2, c3, c4, c5, c6, c7, c8, -, -, hfz⟩ := h.all
  have his := is_some p.x s.n w ho.n0 c0
  have HIS := hid his
  clear h ho his
  by_cases hl : 0 ≤ s.lr
  · have d1 : decide (s.lr < 0) = false := decide_eq_false (by omega)
    rw [if_pos hl, if_pos hl, decide_eq_true hl]
    clear hl
    go_enter Try.func24, Try.ntmps24
    go_wp2_with (first
      | (go_at_call 28; refine HIS.out.mono ?_; rintro e W ⟨rfl, rfl⟩))
    go_quiet (fail)
    go_wp2_with fail
    go_ret3
    exact ⟨rfl, (Mod.refl _ _).drewN _⟩
  · have d1 : decide (s.lr < 0) = true := decide_eq_true (by omega)
    rw [if_neg hl, if_neg hl, decide_eq_false hl]
    clear hl
    go_enter Try.func24, Try.ntmps24
    go_wp2_with (first
      | (go_at_call 28; refine HIS.out.mono ?_; rintro e W ⟨rfl, rfl⟩))
    go_ret3
    exact ⟨rfl, Mod.refl _ _⟩

theorem refBegin_old (w : World) (b : Nat) (vL : Value) (s : NodeS) (L : List Msg) (h : RefAt w b vL s L) (hr : 0 ≤ s.round) :
    Calls Try.prog 18 #[.pointer (some ⟨b, 0, none⟩)] w (fun e w' => e = .returned (.tuple #[.slice none 0 0, .int .i64 6]) ∧ w' = w) := by
  obtain ⟨-, -, -, -, -, c5, -, -, -, -, -⟩ := h.all
  have d1 : decide (0 ≤ s.round) = true := decide_eq_true hr
  clear h
  go_enter Try.func18, Try.ntmps18
  go_wp2_with fail
  go_ret2
  exact ⟨rfl, rfl⟩

theorem refBegin_new (w : World) (b : Nat) (vL : Value) (s : NodeS) (L : List Msg) (h : RefAt w b vL s L) (ho : NOk s) (he : LE s L) (hl : L.length ≤ 1000) (hr : s.round = -1) :
    Calls Try.prog 18 #[.pointer (some ⟨b, 0, none⟩)] w (fun e w' => ∃ v, e = .returned (.tuple #[v, .int .i64 0]) ∧ RefAt w' b vL (hereS (at0 s)).1 L ∧ RMsgs w.heap.size w' v (hereS (at0 s)).2 ∧ Mod [b] w w') := by
  obtain ⟨-, -, -, -, -, c5, -, -, -, -, hf⟩ := h.all
  rw [hr] at c5
  have hset : RefAt (w.setCell ⟨b, 5, none⟩ (.int .i64 0)) b vL (at0 s) L := h.set 5 _ _ rfl
  have hmod : Mod [b] w (w.setCell ⟨b, 5, none⟩ (.int .i64 0)) := (Mod.refl _ _).setCell (by simp) _
  have hround := round_ref _ b vL (at0 s) L hset (at0_ok ho) (he.same rfl rfl) hl 0 rfl (by omega)
  have HR := hid hround
  have HM := hid hmod
  clear h ho he hset hmod hround
  go_enter Try.func18, Try.ntmps18
  go_wp2_with (first
    | (go_at_call 30; refine HR.out.mono ?_; rintro e W ⟨v, rfl, h1, h2, h3⟩; have H1 := hid (And.intro h1 (And.intro h2 h3)); clear h1 h2 h3))
  go_ret2
  exact ⟨v, rfl, H1.out.1, H1.out.2.1.lower HM.out.size, HM.out.trans H1.out.2.2⟩

set_option maxRecDepth 20000 in
set_option maxHeartbeats 1000000 in
theorem sameAll_any (w : World) (B B' : Nat) (v u : Value) (out : List Msg) (h : MsgsAt B w v out) (g : RMsgs B' w u out) (hl : out.length ≤ 1000) :
    Calls Try.prog 19 #[v, u] w fun e w' => e = .returned (.bool true) ∧ Mod [] w w' := by
  obtain ⟨a1, k1, rfl⟩ := row_slice h.row
  obtain ⟨a2, k2, rfl⟩ := row_slice g.row
  have H := hid (And.intro h.row g.row)
  clear h g
  go_enter Try.func19, Try.ntmps19
  go_wp2_with fail
  go_loopg [5] out.length (fun gk i W' => ∃ (j : Nat), i = nat j ∧ gk + j = out.length ∧ Mod [] w W')
  case atStart => exact ⟨0, rfl, by omega, Mod.refl _ _⟩
  case round =>
    obtain ⟨j, rfl, hj, hM⟩ := hrel
    have HM := hid hM
    by_cases hjn : j < out.length
    · obtain ⟨m, hm⟩ : ∃ m, out[j]? = some m := ⟨_, List.getElem?_eq_getElem hjn⟩
      have r1 := row_mod H.out.1 hM (by simp)
      have r2 := row_mod H.out.2 hM (by simp)
      obtain ⟨g1, c1', e1, -⟩ := row_pos r1 (by omega)
      cases e1
      obtain ⟨g2, c2', e2, -⟩ := row_pos r2 (by omega)
      cases e2
      have x : wr.cell? ⟨g1, j * 4, none⟩ = some (.int .i64 m.kind) ∧ wr.cell? ⟨g1, j * 4 + 1, none⟩ = some (.int .i64 m.from_) ∧ wr.cell? ⟨g1, j * 4 + 2, none⟩ = some (.int .i64 m.round) ∧ wr.cell? ⟨g1, j * 4 + 3, none⟩ = some (.string m.val) := by
        have hq : ∀ (q : Nat) (u : Value), m.cells[q]? = some u → wr.cell? ⟨g1, j * 4 + q, none⟩ = some u := fun q u hu => by
          have := r1.cells (g := g1) rfl (j * 4 + q) u (msgCells_at hm hu)
          rwa [Addr.add_lit, Nat.zero_add] at this
        exact ⟨hq 0 _ rfl, hq 1 _ rfl, hq 2 _ rfl, hq 3 _ rfl⟩
      obtain ⟨x0, x1, x2, x3⟩ := x
      obtain ⟨y0, y1, y2, y3⟩ := ref_msg r2 hm
      have j0 : (0 : Int) ≤ (j : Int) := Int.natCast_nonneg _
      have j1 : (j : Int) < (out.length : Int) := by omega
      clear r1 r2 hm hM
      go_wp2_with fail
      go_quiet (fail)
      go_wp2_with fail
      go_roundg (gk - 1)
      case measure => omega
      case rel => exact ⟨j + 1, by go_num, by omega, HM.out.drewN _⟩
    · have j1 : ¬ (j : Int) < (out.length : Int) := by omega
      clear hM
      go_wp2_with fail
      go_ret
      exact ⟨rfl, HM.out⟩
end Go.Proofs.Ytnpmjpdndhedgaa
