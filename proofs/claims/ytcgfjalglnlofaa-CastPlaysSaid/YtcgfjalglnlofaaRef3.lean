/-
  The reference's node of a broadcast, walked: Take of what may not be, of another kind, of a start. No statement of a claim stands here; each contract names what it asks.
-/
import Derived.Test.YtcgfjalglnlofaaRef2
import Derived.Test.YtcgfjalglnlofaaReg
set_option linter.unusedSimpArgs false
namespace Go.Proofs.Ytcgfjalglnlofaa
open Go Go.RowKit

/-- The world in which a message was looked at: its box lies at B. -/
structure RSeen (w W : World) (y B : Nat) (s : NodeS) (m : Msg) : Prop where
  node : RefAt W y s
  box : W.heap[B]? = some (.cells m.cells.toArray 50 (0, 0))
  mod : Mod [y] w W
  new : w.heap.size ≤ B
  ly : y < w.heap.size

theorem RSeen.of {w : World} {y : Nat} {s : NodeS} {m : Msg} (h : RefAt w y s) : RSeen w (w.alloc (.cells m.cells.toArray 50)) y w.heap.size s m :=
  ⟨get_alloc h _, get_new w _, Mod.alloc (Mod.refl _ _) _, Nat.le_refl _, lt_of_block h⟩
theorem RSeen.mod0 {w W W' : World} {y B : Nat} {s : NodeS} {m : Msg} (h : RSeen w W y B s m) (hm : Mod [] W W') : RSeen w W' y B s m :=
  ⟨h.node.mod hm (by simp), hm.get h.box (by simp), h.mod.trans' hm (by simp), h.new, h.ly⟩
theorem RSeen.put {w W : World} {y B : Nat} {s s' : NodeS} {m : Msg} (h : RSeen w W y B s m) (k o : Nat) (u : Value) (ho : o = 72 + k) (hu : (refTail s).set k u = refTail s') (hh : refHead s = refHead s') : RSeen w (W.setCell ⟨y, o, none⟩ u) y B s' m :=
  ⟨h.node.put k o u ho hu hh, get_setCell h.box (by have := h.new; have := h.ly; simp; omega) u, h.mod.setCell (by simp) u, h.new, h.ly⟩
theorem RSeen.idle {w W W' : World} {y B : Nat} {s s1 : NodeS} {m : Msg} (h : RSeen w W y B s1 m) (ht : takeS s m = (s1, [])) (hm : Mod [] W W') : RPost w y (takeS s m) (.returned (.slice none 0 0)) W' :=
  ⟨_, rfl, by rw [ht]; exact h.node.mod hm (by simp), .inl ⟨by rw [ht], rfl⟩, h.mod.trans' hm (by simp)⟩
theorem RSeen.sent {w W W' : World} {y B : Nat} {s s1 : NodeS} {m : Msg} {r : NodeS × List Msg} (h : RSeen w W y B s1 m) (ht : takeS s m = r) {e : Ending} (hp : RPost W y r e W') : RPost w y (takeS s m) e W' := by
  obtain ⟨v, rfl, h1, h2, h3⟩ := hp
  rw [ht]
  refine ⟨v, rfl, h1, ?_, h.mod.trans h3⟩
  rcases h2 with h2 | ⟨m', b, e1, e2, e3, e4⟩
  · exact .inl h2
  · exact .inr ⟨m', b, e1, e2, Nat.le_trans h.mod.size e3, e4⟩

theorem RSeen.said {w W : World} {y B : Nat} {s s1 : NodeS} {m m' : Msg} (h : RSeen w W y B s1 m) (ht : takeS s m = (s1, [m'])) :
    RPost w y (takeS s m) (.returned (.slice (some ⟨W.heap.size, 0, none⟩) 1 1)) (W.alloc (.cells m'.cells.toArray 50)).drew :=
  ⟨_, rfl, by rw [ht]; exact get_alloc h.node _, .inr ⟨m', _, by rw [ht], rfl, h.mod.size, get_new W _⟩, (Mod.alloc h.mod _).drew⟩


set_option maxRecDepth 20000 in
theorem rtake_bad (w : World) (y : Nat) (s : NodeS) (m : Msg) (h : RefAt w y s) (hb : mayBe s m = false) :
    Calls Try.prog 23 #[.pointer (some ⟨y, 0, none⟩), .agg m.cells.toArray] w (RPost w y (takeS s m)) := by
  obtain ⟨c0, -, -, -, -, -, -, -, -, -, -, -, hf, hy⟩ := h.all
  have hbox := RSeen.of (m := m) h
  have ht : takeS s m = (s, []) := by simp [takeS, hb]
  have HP := hid (And.intro hbox ht)
  obtain ⟨kind, from_, val⟩ := m
  simp only [Msg.cells, mayBe] at *
  clear hbox ht h
  by_cases h1 : from_ < 1
  · have d1 : decide (from_ < 1) = true := by simpa using h1
    go_enter Try.func23, Try.ntmps23; go_wp2_with fail; go_quiet (fail); go_wp2_with fail
    go_ret
    exact HP.out.1.idle HP.out.2 (by repeat' (first | exact Mod.refl _ _ | assumption | refine Mod.drewN ?_ _ | refine Mod.drew ?_ | refine Mod.alloc ?_ _ | refine Mod.setCell ?_ (by simp) _ | refine Mod.setBlock ?_ (by simp) _))
  · have d1 : decide (from_ < 1) = false := by simpa using h1
    by_cases h2 : s.n < from_
    · have d2 : decide (s.n < from_) = true := by simpa using h2
      go_enter Try.func23, Try.ntmps23; go_wp2_with fail; go_quiet (fail); go_wp2_with fail
      go_ret
      exact HP.out.1.idle HP.out.2 (by repeat' (first | exact Mod.refl _ _ | assumption | refine Mod.drewN ?_ _ | refine Mod.drew ?_ | refine Mod.alloc ?_ _ | refine Mod.setCell ?_ (by simp) _ | refine Mod.setBlock ?_ (by simp) _))
    · have d2 : decide (s.n < from_) = false := by simpa using h2
      have h3 : 4096 < val.size := by simp at hb; omega
      have d3 : decide ((4096 : Int) < (val.size : Int)) = true := by simp; omega
      go_enter Try.func23, Try.ntmps23; go_wp2_with fail; go_quiet (fail); go_wp2_with fail
      go_ret
      exact HP.out.1.idle HP.out.2 (by repeat' (first | exact Mod.refl _ _ | assumption | refine Mod.drewN ?_ _ | refine Mod.drew ?_ | refine Mod.alloc ?_ _ | refine Mod.setCell ?_ (by simp) _ | refine Mod.setBlock ?_ (by simp) _))

set_option maxRecDepth 20000 in
theorem rtake_other (w : World) (y : Nat) (s : NodeS) (m : Msg) (h : RefAt w y s) (hb : mayBe s m = true) (k1 : m.kind ≠ 1) (k2 : m.kind ≠ 2) (k3 : m.kind ≠ 3) :
    Calls Try.prog 23 #[.pointer (some ⟨y, 0, none⟩), .agg m.cells.toArray] w (RPost w y (takeS s m)) := by
  obtain ⟨c0, -, -, -, -, -, -, -, -, -, -, -, hf, hy⟩ := h.all
  have hbox := RSeen.of (m := m) h
  have ht : takeS s m = (s, []) := by simp [takeS, k1, k2, k3]
  have HP := hid (And.intro hbox ht)
  obtain ⟨kind, from_, val⟩ := m
  simp only [Msg.cells, mayBe, Bool.and_eq_true, decide_eq_true_eq] at *
  have d1 : decide (from_ < 1) = false := by simp; omega
  have d2 : decide (s.n < from_) = false := by simp; omega
  have d3 : decide ((4096 : Int) < (val.size : Int)) = false := by simp; omega
  have e1 : (kind == 1) = false := by simpa using k1
  have e2 : (kind == 2) = false := by simpa using k2
  have e3 : (kind == 3) = false := by simpa using k3
  clear hbox ht h hb k1 k2 k3
  go_enter Try.func23, Try.ntmps23; go_wp2_with fail; go_quiet (fail); go_wp2_with fail
  go_ret
  exact HP.out.1.idle HP.out.2 (by repeat' (first | exact Mod.refl _ _ | assumption | refine Mod.drewN ?_ _ | refine Mod.drew ?_ | refine Mod.alloc ?_ _ | refine Mod.setCell ?_ (by simp) _ | refine Mod.setBlock ?_ (by simp) _))

set_option maxRecDepth 20000 in
set_option maxHeartbeats 800000 in
theorem rtake_start (w : World) (y : Nat) (s : NodeS) (m : Msg) (h : RefAt w y s) (hb : mayBe s m = true) (k1 : m.kind = 1) :
    Calls Try.prog 23 #[.pointer (some ⟨y, 0, none⟩), .agg m.cells.toArray] w (RPost w y (takeS s m)) := by
  have hbox := RSeen.of (m := m) h
  have ht : takeS s m = if m.from_ = s.dealer ∧ s.heard = false then sendE { s with heard := true } m.val else (s, []) := by simp [takeS, hb, k1]
  obtain ⟨n, t, me, dealer, E, R, began, heard, ev, ei, rv, ri, sv, si⟩ := s
  obtain ⟨kind, from_, val⟩ := m
  obtain ⟨c0, c1, c2, c3, c72, c73, c74, c75, c76, c77, c78, c79, hf, hy⟩ := h.all
  dsimp only at c0 c2 c3 c72 c75 c79 k1 ht
  subst k1
  simp only [Msg.cells, mayBe, Bool.and_eq_true, decide_eq_true_eq] at hb hbox ⊢
  have d1 : decide (from_ < 1) = false := by simp; omega
  have d2 : decide (n < from_) = false := by simp; omega
  have d3 : decide ((4096 : Int) < (val.size : Int)) = false := by simp; omega
  have HB := hid hbox
  clear h hb hbox c1 c73 c74 c76 c77 c78
  by_cases hd : from_ = dealer
  · have e1 : (from_ != dealer) = false := by simpa using hd
    cases heard with
    | true =>
      have HT := hid (ht.trans (if_neg (by simp)))
      clear ht hd
      go_enter Try.func23, Try.ntmps23; go_wp2_with fail; go_quiet (fail); go_wp2_with fail
      go_quiet (fail)
      go_wp2_with fail
      go_ret
      exact HB.out.idle HT.out (by repeat' (first | exact Mod.refl _ _ | assumption | refine Mod.drewN ?_ _ | refine Mod.drew ?_ | refine Mod.alloc ?_ _ | refine Mod.setCell ?_ (by simp) _ | refine Mod.setBlock ?_ (by simp) _))
    | false =>
      have HT := hid (ht.trans (if_pos ⟨hd, rfl⟩))
      clear ht hd
      cases ei with
      | true =>
        go_enter Try.func23, Try.ntmps23; go_wp2_with fail; go_quiet (fail); go_wp2_with fail
        go_quiet (fail)
        go_wp2_with fail
        go_ret
        exact (RSeen.put (s' := ⟨n, t, me, dealer, E, R, began, true, ev, true, rv, ri, sv, si⟩) (HB.out.mod0 (Mod.drewN (Mod.refl _ _) _)) 7 79 (.bool true) rfl rfl rfl).idle HT.out (by with_reducible exact Mod.refl _ _)
      | false =>
        go_enter Try.func23, Try.ntmps23; go_wp2_with fail; go_quiet (fail); go_wp2_with fail
        go_quiet (fail)
        go_wp2_with fail
        refine wp_abs (fun W => RSeen w W y w.heap.size ⟨n, t, me, dealer, E, R, began, true, ev, false, rv, ri, sv, si⟩ ⟨1, from_, val⟩) ((HB.out.mod0 (Mod.drewN (Mod.refl _ _) _)).put 7 79 (.bool true) rfl rfl rfl) ?_
        intro W hS
        clear c0 c2 c3 c72 c75 c79 hf hy HB
        obtain ⟨c0, c1, c2, c3, c72, c73, c74, c75, c76, c77, c78, c79, hf, hy⟩ := hS.node.all
        dsimp only at c2 c72 c75
        have b2 : W.cell? ⟨w.heap.size, 2, none⟩ = some (.string val) := by rw [cell_at hS.box]; rfl
        have HS := hid hS
        clear hS c0 c1 c3 c73 c74 c76 c77 c78 c79
        refine wp_region_N (fun w' => w'.cell? ⟨w.heap.size, 2, none⟩ = some (.string val)) (fun _ => true) (by kernel_rfl) ?_
        have hS : (fun w' : World => w'.cell? ⟨w.heap.size, 2, none⟩ = some (.string val)) W.drew := b2
        refine regA 0 48 (v := ?_) rfl rfl (by kernel_rfl) (by kernel_rfl) (by kernel_rfl) (fun _ _ _ h => h) (by rfl) (fun w => ?_) ?_; rotate_left; (go_simp; first | done | with_reducible rfl); (try simp only [Act.put, List.setIfInBounds_toArray, List.set_cons_zero, List.set_cons_succ])
        refine regA 1 49 (v := ?_) rfl rfl (by kernel_rfl) (by kernel_rfl) (by kernel_rfl) (fun _ _ _ h => h) (by rfl) (fun w => ?_) ?_; rotate_left; (go_simp; first | done | with_reducible rfl); (try simp only [Act.put, List.setIfInBounds_toArray, List.set_cons_zero, List.set_cons_succ])
        refine regA 2 50 (v := ?_) rfl rfl (by kernel_rfl) (by kernel_rfl) (by kernel_rfl) (fun _ _ _ h => h) (by rfl) (fun w => ?_) ?_; rotate_left; (go_simp; first | done | with_reducible rfl); (try simp only [Act.put, List.setIfInBounds_toArray, List.set_cons_zero, List.set_cons_succ])
        refine regS 3 51 (v := ?_) hS rfl rfl (by kernel_rfl) (by kernel_rfl) (by kernel_rfl) (by kernel_rfl) (fun _ _ _ h => h) (by rfl) (fun w hSw => ?_) ?_; rotate_left; (go_simp; first | done | with_reducible rfl); (try simp only [Act.put, List.setIfInBounds_toArray, List.set_cons_zero, List.set_cons_succ])
        refine regA 4 52 (v := ?_) rfl rfl (by kernel_rfl) (by kernel_rfl) (by kernel_rfl) (fun _ _ _ h => h) (by rfl) (fun w => ?_) ?_; rotate_left; (go_simp; first | done | with_reducible rfl); (try simp only [Act.put, List.setIfInBounds_toArray, List.set_cons_zero, List.set_cons_succ])
        refine regA 5 53 (v := ?_) rfl rfl (by kernel_rfl) (by kernel_rfl) (by kernel_rfl) (fun _ _ _ h => h) (by rfl) (fun w => ?_) ?_; rotate_left; (go_simp; first | done | with_reducible rfl); (try simp only [Act.put, List.setIfInBounds_toArray, List.set_cons_zero, List.set_cons_succ])
        refine regOnly 6 (by kernel_rfl) rfl (by rfl) (fun K hK => ?_)
        go_wp2_with fail
        have hR1 := RSeen.put (s' := ⟨n, t, me, dealer, E, R, began, true, ev, true, rv, ri, sv, si⟩) HS.out 3 75 (.bool true) rfl rfl rfl
        replace hR1 := hR1.mod0 (Mod.refl [] _).drew
        generalize (W.setCell ⟨y, 75, none⟩ (.bool true)).drew = W1 at *
        have b2' : W1.cell? ⟨w.heap.size, 2, none⟩ = some (.string val) := by rw [cell_at hR1.box]; rfl
        refine hK.out _ _ (fun _ _ => b2') ?_
        clear hK hS
        obtain ⟨c0, c1, c2', c3, c72', c73, c74, c75', c76, c77, c78, c79, hf', hy'⟩ := hR1.node.all
        dsimp only at c72'
        clear c0 c1 c3 c73 c74 c75' c76 c77 c78 c79
        (try simp only [Act.put, List.setIfInBounds_toArray, List.set_cons_zero, List.set_cons_succ])
        refine regA 7 54 (v := ?_) rfl rfl (by kernel_rfl) (by kernel_rfl) (by kernel_rfl) (fun _ _ _ h => h) (by rfl) (fun w => ?_) ?_; rotate_left; (go_simp; first | done | with_reducible rfl); (try simp only [Act.put, List.setIfInBounds_toArray, List.set_cons_zero, List.set_cons_succ])
        refine regA 8 55 (v := ?_) rfl rfl (by kernel_rfl) (by kernel_rfl) (by kernel_rfl) (fun _ _ _ h => h) (by rfl) (fun w => ?_) ?_; rotate_left; (go_simp; first | done | with_reducible rfl); (try simp only [Act.put, List.setIfInBounds_toArray, List.set_cons_zero, List.set_cons_succ])
        refine regOnly 9 (by kernel_rfl) rfl (by rfl) (fun K hK => ?_)
        go_wp2_with fail
        have hR2 := RSeen.put (s' := ⟨n, t, me, dealer, E, R, began, true, val, true, rv, ri, sv, si⟩) hR1 0 72 (.string val) rfl rfl rfl
        generalize W1.setCell ⟨y, 72, none⟩ (.string val) = W2 at *
        have b2'' : W2.cell? ⟨w.heap.size, 2, none⟩ = some (.string val) := by rw [cell_at hR2.box]; rfl
        refine hK.out _ _ (fun _ _ => b2'') ?_
        clear hK
        (try simp only [Act.put, List.setIfInBounds_toArray, List.set_cons_zero, List.set_cons_succ])
        refine regDone (by kernel_rfl) ?_ _
        obtain ⟨c0, c1, c2'', c3, c72, c73, c74, c75', c76, c77, c78, c79, hf'', hy''⟩ := hR2.node.all
        dsimp only at c2''
        clear c0 c1 c3 c72 c73 c74 c75' c76 c77 c78 c79
        have HR2 := hid hR2
        clear hR2 hR1
        go_wp2_with fail
        refine wp_region_N (fun w' => w'.cell? ⟨y, 2, none⟩ = some (.int .i64 me) ∧ w'.cell? ⟨w.heap.size, 2, none⟩ = some (.string val)) (fun _ => true) (by kernel_rfl) ?_
        have hS : (fun w' : World => w'.cell? ⟨y, 2, none⟩ = some (.int .i64 me) ∧ w'.cell? ⟨w.heap.size, 2, none⟩ = some (.string val)) W2.drew := ⟨c2'', b2''⟩
        refine regA 0 56 (v := ?_) rfl rfl (by kernel_rfl) (by kernel_rfl) (by kernel_rfl) (fun _ _ _ h => h) (by rfl) (fun w => ?_) ?_; rotate_left; (go_simp; first | done | with_reducible rfl); (try simp only [Act.put, List.setIfInBounds_toArray, List.set_cons_zero, List.set_cons_succ])
        refine regA 1 57 (v := ?_) rfl rfl (by kernel_rfl) (by kernel_rfl) (by kernel_rfl) (fun _ _ _ h => h) (by rfl) (fun w => ?_) ?_; rotate_left; (go_simp; first | done | with_reducible rfl); (try simp only [Act.put, List.setIfInBounds_toArray, List.set_cons_zero, List.set_cons_succ])
        refine regA 2 58 (v := ?_) rfl rfl (by kernel_rfl) (by kernel_rfl) (by kernel_rfl) (fun _ _ _ h => h) (by rfl) (fun w => ?_) ?_; rotate_left; (go_simp; first | done | with_reducible rfl); (try simp only [Act.put, List.setIfInBounds_toArray, List.set_cons_zero, List.set_cons_succ])
        refine regS 3 59 (v := ?_) hS rfl rfl (by kernel_rfl) (by kernel_rfl) (by kernel_rfl) (by kernel_rfl) (fun _ _ _ h => h) (by rfl) (fun w hSw => ?_) ?_; rotate_left; (go_simp; first | done | with_reducible rfl); (try simp only [Act.put, List.setIfInBounds_toArray, List.set_cons_zero, List.set_cons_succ])
        refine regA 4 60 (v := ?_) rfl rfl (by kernel_rfl) (by kernel_rfl) (by kernel_rfl) (fun _ _ _ h => h) (by rfl) (fun w => ?_) ?_; rotate_left; (go_simp; first | done | with_reducible rfl); (try simp only [Act.put, List.setIfInBounds_toArray, List.set_cons_zero, List.set_cons_succ])
        refine regS 5 61 (v := ?_) hS rfl rfl (by kernel_rfl) (by kernel_rfl) (by kernel_rfl) (by kernel_rfl) (fun _ _ _ h => h) (by rfl) (fun w hSw => ?_) ?_; rotate_left; (go_simp; first | done | with_reducible rfl); (try simp only [Act.put, List.setIfInBounds_toArray, List.set_cons_zero, List.set_cons_succ])
        refine regA 6 62 (v := ?_) rfl rfl (by kernel_rfl) (by kernel_rfl) (by kernel_rfl) (fun _ _ _ h => h) (by rfl) (fun w => ?_) ?_; rotate_left; (go_simp; first | done | with_reducible rfl); (try simp only [Act.put, List.setIfInBounds_toArray, List.set_cons_zero, List.set_cons_succ])
        refine regOnly 7 (by kernel_rfl) rfl (by rfl) (fun K hK => ?_)
        go_wp2_with fail
        have hm2 : Mod [] W2 (W2.drew.alloc (.cells #[.int .i64 2, .int .i64 me, .string val] 50)) := Mod.alloc (Mod.refl _ _).drew _
        refine hK.out _ _ (fun _ _ => ⟨hm2.cell c2'' (by simp), hm2.cell b2'' (by simp)⟩) ?_
        clear hK hS
        (try simp only [Act.put, List.setIfInBounds_toArray, List.set_cons_zero, List.set_cons_succ])
        refine regOnly 8 (by kernel_rfl) rfl (by rfl) (fun K hK => ?_)
        go_wp2_with fail
        refine hK.out _ _ (fun _ h => h) ?_
        clear hK
        (try simp only [Act.put, List.setIfInBounds_toArray, List.set_cons_zero, List.set_cons_succ])
        refine regDone (by kernel_rfl) ?_ _
        go_wp2_with fail
        go_ret
        exact HR2.out.said HT.out
  · have e1 : (from_ != dealer) = true := by simpa using hd
    have HT := hid (ht.trans (if_neg (by simp [hd])))
    clear ht hd
    go_enter Try.func23, Try.ntmps23; go_wp2_with fail; go_quiet (fail); go_wp2_with fail
    go_quiet (fail)
    go_wp2_with fail
    go_ret
    exact HB.out.idle HT.out (by repeat' (first | exact Mod.refl _ _ | assumption | refine Mod.drewN ?_ _ | refine Mod.drew ?_ | refine Mod.alloc ?_ _ | refine Mod.setCell ?_ (by simp) _ | refine Mod.setBlock ?_ (by simp) _))
end Go.Proofs.Ytcgfjalglnlofaa
