/-
  CastOnce, walked. No statement of a claim stands here; each contract names what it asks.
-/
import Derived.Test.YtcgfjalglnlofaaTotal0
set_option linter.unusedSimpArgs false
namespace Go.Proofs.Ytcgfjalglnlofaa
open Go Go.RowKit

set_option maxRecDepth 20000 in
set_option maxHeartbeats 1000000 in
theorem once_any (W : World) (t : Int) (a : Option Addr) (c : Nat) (moves : List MoveS) (hm : MovesAt W a moves) (hlen : moves.length ≤ maxLen) :
    Calls Try.prog 4 #[.int .i64 t, .slice a moves.length c] W fun e W' => e = .returned (.bool true) ∧ Mod [] W W' := by
  have hr : 0 ≤ among t 2 ∧ among t 2 < 2 := ⟨Int.emod_nonneg _ (by omega), Int.emod_lt_of_pos _ (by omega)⟩
  obtain ⟨tn, htn⟩ : ∃ tn : Nat, (tn : Int) = 1 + among t 2 := ⟨(1 + among t 2).toNat, by omega⟩
  have e1 : IntKind.i64.wrap (1 + among t 2) = (tn : Int) := by rw [htn]; exact IntWalk.i64_in _ (by omega)
  have ht2 : tn ≤ 2 := by omega
  have HMV := hid hm
  have HLEN := hid hlen
  clear htn hm hlen
  go_enter Try.func4, Try.ntmps4
  go_wp2_with (first
    | (go_at_call 9; refine (works_any _).mono ?_; rintro e w1 ⟨rfl, hm1⟩)
    | (go_at_call 10; refine (among_any _ _ _ (by omega) (by omega)).mono ?_; rintro e w' ⟨rfl, rfl⟩)
    | (go_at_call 11; refine (made_any w1 tn tn 1 ht2 (Nat.le_refl _) (by omega) (by omega)).mono ?_; rintro e w2 ⟨lw, sb, vn, bl, rfl, hL2, hm2, hnew⟩; have H2 := hid (And.intro hL2 (And.intro (hm1.trans hm2) (fun k hk => Nat.le_trans hm1.size (hnew k hk)))); have HN := hid hnew; clear hL2 hm2 hnew)
    | (go_at_call 12; refine (play_good (inv_closed 1 none) w2 lw sb vn _ _ bl _ a c moves H2.out.1 (inv_made (d := 1) ht2 (Nat.le_refl _)) (HMV.out.mod H2.out.2.1) HLEN.out W.heap.size (fun h => HMV.out.lt h) (fun k hk => H2.out.2.2 k (by simpa [Value.ownBlock] using hk)) H2.out.2.1.size).mono ?_; rintro e w3 ⟨rfl, h3⟩; have H3 := hid h3; clear h3)
    | (go_at_call 13; obtain ⟨L3, vt3, vw3, hL3, g3, hn3, hb3, hr3⟩ := H3.out; refine (finish_good (inv_closed 1 none) w3 lw sb vn vt3 vw3 bl L3 hL3 g3 (by have := g3.mu; simp at this; omega)).mono ?_; rintro e w4 ⟨rfl, L4, vt4, vw4, hL4, g4, hn4, hb4, hw4, hr4⟩; have hbn4 := (inv_closed 1 none).b _ g4; have hn14 := (inv_closed 1 none).n1 _ g4; have l2 : w4.cell? ⟨lw, 2, none⟩ = some (nat L4.bad) := (cell_at hL4.cells 2).trans rfl; have e2 : IntKind.i64.wrap ((L4.bad : Int) + 1) = (L4.bad : Int) + 1 := IntWalk.i64_in _ (by omega); have H4 := hid (And.intro hL4 (And.intro g4 (hr3.step hr4))); clear hL3 g3 hn3 hb3 hr3 hL4 g4 hn4 hb4 hw4 hr4))
  go_loopg [6] (L4.n - L4.bad) (fun gk k W' => ∃ (i : Nat), k = .int .i64 ((i : Int) + 1) ∧ gk + i = L4.n ∧ L4.bad ≤ i ∧ W' = w4)
  case atStart => exact ⟨L4.bad, rfl, by omega, Nat.le_refl _, rfl⟩
  case round =>
    obtain ⟨i, rfl, hi, hbi, rfl⟩ := hrel
    have l0 : wr.cell? ⟨lw, 0, none⟩ = some (nat L4.n) := (cell_at H4.out.1.cells 0).trans rfl
    have l6 : wr.cell? ⟨lw, 6, none⟩ = some (.slice (some ⟨sb, 0, none⟩) L4.sent.length L4.sent.length) := (cell_at H4.out.1.cells 6).trans rfl
    by_cases hin : i < L4.n
    · have hs : L4.nodes[i]? = some (L4.nodes[i]'(by rw [H4.out.2.1.len]; exact hin)) := List.getElem?_eq_getElem _
      have N := H4.out.2.1.node i _ hs
      obtain ⟨x, hx, hx1⟩ : ∃ x : Nat, L4.sent[2 * (i + 1)]? = some x ∧ x ≤ 1 := ⟨_, N.sE, by split <;> omega⟩
      obtain ⟨y, hy, hy1⟩ : ∃ y : Nat, L4.sent[2 * (i + 1) + 1]? = some y ∧ y ≤ 1 := ⟨_, N.sR, by split <;> omega⟩
      obtain ⟨p, hp⟩ : ∃ p, p = 2 * (i + 1) := ⟨_, rfl⟩
      obtain ⟨q, hq⟩ : ∃ q, q = 2 * (i + 1) + 1 := ⟨_, rfl⟩
      rw [← hp] at hx
      rw [← hq] at hy
      have hpl := (List.getElem?_eq_some_iff.1 hx).1
      have hql := (List.getElem?_eq_some_iff.1 hy).1
      have c1 : wr.cell? ⟨sb, p, none⟩ = some (nat x) := by rw [cell_at H4.out.1.sent]; simp [hx]
      have c2 : wr.cell? ⟨sb, q, none⟩ = some (nat y) := by rw [cell_at H4.out.1.sent]; simp [hy]
      have f1 : IntKind.i64.wrap (2 * ((i : Int) + 1)) = (p : Int) := by rw [show 2 * ((i : Int) + 1) = (p : Int) by omega]; exact IntWalk.i64_in _ (by omega)
      have f2 : IntKind.i64.wrap ((p : Int) + 1) = (q : Int) := by rw [show (p : Int) + 1 = (q : Int) by omega]; exact IntWalk.i64_in _ (by omega)
      have p0 : (0 : Int) ≤ (p : Int) := Int.natCast_nonneg _
      have p1 : (p : Int) < (L4.sent.length : Int) := by omega
      have q0 : (0 : Int) ≤ (q : Int) := Int.natCast_nonneg _
      have q1 : (q : Int) < (L4.sent.length : Int) := by omega
      have d1 : decide (1 < x) = false := by rw [decide_eq_false_iff_not]; omega
      have d2 : decide (1 < y) = false := by rw [decide_eq_false_iff_not]; omega
      have d3 : decide ((1 : Int) < (x : Int)) = false := by rw [decide_eq_false_iff_not]; omega
      have d4 : decide ((1 : Int) < (y : Int)) = false := by rw [decide_eq_false_iff_not]; omega
      clear hs N hx hy hp hq hpl hql hx1 hy1
      go_wp2_with fail
      go_roundg (gk - 1)
      case measure => omega
      case rel => exact ⟨i + 1, by go_num, by omega, by omega, rfl⟩
    · go_wp2_with fail
      go_ret
      exact ⟨rfl, reach_mod H4.out.2.2 H2.out.2.1 (fun k hk => H2.out.2.2 k hk)⟩
end Go.Proofs.Ytcgfjalglnlofaa
