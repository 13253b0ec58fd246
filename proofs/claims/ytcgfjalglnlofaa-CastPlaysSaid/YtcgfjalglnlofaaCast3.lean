/-
  A broadcast's node, walked further: Take at a start, at an echo, at a ready. No statement of a claim stands here; each contract names what it asks.
-/
import Derived.Test.YtcgfjalglnlofaaCast2
set_option linter.unusedSimpArgs false
namespace Go.Proofs.Ytcgfjalglnlofaa
open Go Go.RowKit

/-- A start that is taken. -/
theorem take_start (w : World) (x be br : Nat) (s : NodeS) (m : Msg) (h : NodeAt w x be br s) (hn : 0 < s.n) (hb : mayBe s m = true) (k1 : m.kind = 1) (hd : m.from_ = s.dealer) (hh : s.heard = false) :
    Calls Try.prog 22 #[.pointer (some ⟨x, 0, none⟩), .agg m.cells.toArray] w (TakePost w x be br s m) := by
  have ht : takeS s m = sendE { s with heard := true } m.val := by simp [takeS, hb, k1, hd, hh]
  have hbox := fun n => Seen.of (m := m) h n
  obtain ⟨n, t, me, dealer, E, R, began, heard, ev, ei, rv, ri, sv, si⟩ := s
  obtain ⟨kind, from_, val⟩ := m
  dsimp only at hn k1 hd hh
  subst k1 hd hh
  obtain ⟨c0, c1, c2, c3, c4, c5, c6, c7, c8, c9, c10, c11, c12, c13, hf, hx⟩ := h.all
  simp only [Msg.cells, mayBe, Bool.and_eq_true, decide_eq_true_eq] at hb hbox ⊢
  have d1 : decide (from_ < 1) = false := by simp; omega
  have d2 : decide (n < from_) = false := by simp; omega
  have d3 : decide ((4096 : Int) < (val.size : Int)) = false := by simp; omega
  have e1 : (from_ != from_) = false := by simp
  have HT := hid ht
  have HB := hid hbox
  clear h hb ht hbox
  go_enter Try.func22, Try.ntmps22; go_wp2_with fail; go_quiet ((go_at_call 27; exact Calls.quiet_of_same (is_some _ _ _ hn (by go_simp)))); go_wp2_with fail
  refine wp_abs (fun W => Seen w W x be br w.heap.size _ _) (HB.out _) ?_
  clear c0 c1 c2 c3 c4 c5 c6 c7 c8 c9 c10 c11 c12 c13 hf hx HB
  intro W hS
  obtain ⟨c0, c1, c2, c3, c4, c5, c6, c7, c8, c9, c10, c11, c12, c13, hf, hx⟩ := hS.node.all
  dsimp only at c0 c1 c2 c3 c4 c5 c6 c7 c8 c9 c10 c11 c12 c13
  have b1 : W.cell? ⟨w.heap.size, 1, none⟩ = some (.int .i64 from_) := by rw [cell_at hS.box]; rfl
  have b2 : W.cell? ⟨w.heap.size, 2, none⟩ = some (.string val) := by rw [cell_at hS.box]; rfl
  have HS := hid hS
  clear hS
  go_quiet (fail)
  go_wp2_with fail
  refine wp_abs (fun W' => Seen w W' x be br w.heap.size ⟨n, t, me, from_, E, R, began, true, ev, ei, rv, ri, sv, si⟩ ⟨1, from_, val⟩) ((HS.out.drewN _).put 7 _ _ rfl rfl rfl) ?_
  clear c0 c1 c2 c3 c4 c5 c6 c7 c8 c9 c10 c11 c12 c13 hf hx b1 b2 HS
  intro W1 hS
  obtain ⟨c0, c1, c2, c3, c4, c5, c6, c7, c8, c9, c10, c11, c12, c13, hf, hx⟩ := hS.node.all
  dsimp only at c2 c8 c9
  have b2 : W1.cell? ⟨w.heap.size, 2, none⟩ = some (.string val) := by rw [cell_at hS.box]; rfl
  have hne : w.heap.size ∉ [x] := by have := hS.lx; simp; omega
  have HS := hid hS
  clear hS c0 c1 c3 c4 c5 c6 c7 c10 c11 c12 c13
  cases ei with
  | true =>
    go_quiet ((go_at_call 29; exact Calls.quiet_of_same (send_not _ _ _ _ _ _ (by go_simp))))
    go_wp2
    go_ret
    exact HS.out.idle (by rw [HT.out]; rfl) _
  | false =>
    go_region_held3 (fun w' => w'.cell? ⟨w.heap.size, 2, none⟩ = some (.string val)) (first | exact b2 | exact hmod.cell b2 hne)
      (first | (go_at_call 29; refine (send_mod x 8 2 me val ev W1.drew c8 c9 c2 hf (by omega)).mono ?_; rintro e w' ⟨rfl, hw, hmod⟩))
    go_wp2
    go_ret
    rw [hw.out]
    exact HS.out.drew.sent (.inl ⟨rfl, rfl, rfl⟩) (by rw [HT.out]; rfl) 0

theorem addN_le (l : Votes) (k : Int) (v : ByteArray) : addN l k v ≤ l.length + 1 := by
  unfold addN
  split
  · omega
  · have := cnt_le (l ++ [(k, v, l.length)]) v
    simpa using this


set_option maxHeartbeats 800000 in
/-- An echo. -/
theorem take_echo (w : World) (x be br : Nat) (s : NodeS) (m : Msg) (h : NodeAt w x be br s) (hn : 0 < s.n) (hn' : s.n ≤ 16) (ht0 : 0 ≤ s.t) (ht1 : s.t ≤ 5) (hE : VOk s.E) (hl : s.E.length ≤ 1000) (hb : mayBe s m = true) (k1 : m.kind = 2) :
    Calls Try.prog 22 #[.pointer (some ⟨x, 0, none⟩), .agg m.cells.toArray] w (TakePost w x be br s m) := by
  have ht : takeS s m = if 2 * (addN s.E m.from_ m.val : Int) > s.n + s.t then sendR { s with E := addL s.E m.from_ m.val } m.val else ({ s with E := addL s.E m.from_ m.val }, []) := by simp [takeS, hb, k1]
  have hbox := fun n => Seen.of (m := m) h n
  have hadd := fun W (hW : NodeAt W x be br s) => add_any be s.E m.from_ m.val W hE hl hW.e
  have hN := addN_le s.E m.from_ m.val
  obtain ⟨n, t, me, dealer, E, R, began, heard, ev, ei, rv, ri, sv, si⟩ := s
  obtain ⟨kind, from_, val⟩ := m
  dsimp only at hn hn' ht0 ht1 k1 hl ht hbox hadd hN
  subst k1
  obtain ⟨c0, c1, c2, c3, c4, c5, c6, c7, c8, c9, c10, c11, c12, c13, hf, hx⟩ := h.all
  simp only [Msg.cells, mayBe, Bool.and_eq_true, decide_eq_true_eq] at hb hbox ⊢
  have d1 : decide (from_ < 1) = false := by simp; omega
  have d2 : decide (n < from_) = false := by simp; omega
  have d3 : decide ((4096 : Int) < (val.size : Int)) = false := by simp; omega
  have HT := hid ht
  have HB := hid hbox
  have HA := hid hadd
  clear h hb ht hbox hadd hE
  go_enter Try.func22, Try.ntmps22; go_wp2_with fail; go_quiet ((go_at_call 27; exact Calls.quiet_of_same (is_some _ _ _ hn (by go_simp)))); go_wp2_with fail
  refine wp_abs (fun W => Seen w W x be br w.heap.size _ _) (HB.out _) ?_
  clear c0 c1 c2 c3 c4 c5 c6 c7 c8 c9 c10 c11 c12 c13 hf hx HB
  intro W hS
  obtain ⟨c0, c1, c2, c3, c4, c5, c6, c7, c8, c9, c10, c11, c12, c13, hf, hx⟩ := hS.node.all; dsimp only at c0 c1 c2 c3 c4 c5 c6 c7 c8 c9 c10 c11 c12 c13; have b1 : W.cell? ⟨w.heap.size, 1, none⟩ = some (.int .i64 from_) := (by rw [cell_at hS.box]; rfl); have b2 : W.cell? ⟨w.heap.size, 2, none⟩ = some (.string val) := (by rw [cell_at hS.box]; rfl)
  have hnx : w.heap.size ∉ [x] := (by have := hS.lx; simp; omega); have hnbe : w.heap.size ∉ [be] := (by have := hS.le; simp; omega); have hnbr : w.heap.size ∉ [br] := (by have := hS.lr; simp; omega); have hxe : x ∉ [be] := (by have := hS.node.xe; simp; omega); have hxr : x ∉ [br] := (by have := hS.node.xr; simp; omega)
  have HS := hid hS
  clear hS
  have s1 : IntKind.i64.wrap (2 * (addN E from_ val : Int)) = 2 * (addN E from_ val : Int) := IntWalk.i64_in _ (by omega)
  have s2 : IntKind.i64.wrap (n + t) = n + t := IntWalk.i64_in _ (by omega)
  go_region_held3 (fun w' => w'.cell? ⟨x, 0, none⟩ = some (.int .i64 n) ∧ w'.cell? ⟨x, 1, none⟩ = some (.int .i64 t) ∧ w'.cell? ⟨x, 4, none⟩ = some (.map (some be)) ∧ w'.cell? ⟨w.heap.size, 1, none⟩ = some (.int .i64 from_) ∧ w'.cell? ⟨w.heap.size, 2, none⟩ = some (.string val))
    (first | exact ⟨c0, c1, c4, b1, b2⟩ | exact ⟨hmod.cell c0 hxe, hmod.cell c1 hxe, hmod.cell c4 hxe, hmod.cell b1 hnbe, hmod.cell b2 hnbe⟩)
    (first | (go_at_call 30; refine (HA.out W.drew HS.out.node.drew).mono ?_; rintro e w' ⟨rfl, hL, hmod⟩))
  have hS := HS.out.drew.addE hL hmod
  dsimp only at hS
  have HS' := hid hS
  clear s1 s2 HS hS hL c0 c1 c2 c3 c4 c5 c6 c7 c8 c9 c10 c11 c12 c13 hf hx b1 b2 hnx hnbe hnbr hxe hxr hmod HA W nq
  by_cases hq : n + t < 2 * (addN E from_ val : Int)
  · have HT' := hid (HT.out.trans (if_pos hq))
    clear HT
    go_wp2_with fail
    obtain ⟨W, rfl⟩ : ∃ W : World, W = w' := ⟨_, rfl⟩
    have hS := HS'.out
    obtain ⟨c0, c1, c2, c3, c4, c5, c6, c7, c8, c9, c10, c11, c12, c13, hf, hx⟩ := hS.node.all; dsimp only at c0 c1 c2 c3 c4 c5 c6 c7 c8 c9 c10 c11 c12 c13; have b1 : W.cell? ⟨w.heap.size, 1, none⟩ = some (.int .i64 from_) := (by rw [cell_at hS.box]; rfl); have b2 : W.cell? ⟨w.heap.size, 2, none⟩ = some (.string val) := (by rw [cell_at hS.box]; rfl)
    have hnx : w.heap.size ∉ [x] := (by have := hS.lx; simp; omega); have hnbe : w.heap.size ∉ [be] := (by have := hS.le; simp; omega); have hnbr : w.heap.size ∉ [br] := (by have := hS.lr; simp; omega); have hxe : x ∉ [be] := (by have := hS.node.xe; simp; omega); have hxr : x ∉ [br] := (by have := hS.node.xr; simp; omega)
    clear hS c0 c1 c3 c4 c5 c6 c7 c8 c9 c12 c13 b1 hnbe hnbr hxe hxr
    cases ri with
    | true =>
      go_quiet ((go_at_call 29; exact Calls.quiet_of_same (send_not _ _ _ _ _ _ (by go_simp))))
      go_wp2
      go_ret
      exact HS'.out.idle (by rw [HT'.out]; rfl) _
    | false =>
      go_region_held3 (fun w' => w'.cell? ⟨w.heap.size, 2, none⟩ = some (.string val)) (first | exact b2 | exact hmod.cell b2 hnx) (first | (go_at_call 29; refine (send_mod x 10 3 me val rv W.drew c10 c11 c2 hf (by omega)).mono ?_; rintro e w' ⟨rfl, hw, hmod⟩))
      go_wp2
      go_ret
      rw [hw.out]
      exact HS'.out.drew.sent (.inr ⟨rfl, rfl, rfl⟩) (by rw [HT'.out]; rfl) 0
  · have HT' := hid (HT.out.trans (if_neg hq))
    clear HT
    go_wp2_with fail
    go_ret
    exact HS'.out.idle HT'.out 0

set_option maxHeartbeats 800000 in
/-- A ready. -/
theorem take_ready (w : World) (x be br : Nat) (s : NodeS) (m : Msg) (h : NodeAt w x be br s) (hn : 0 < s.n) (hn' : s.n ≤ 16) (ht0 : 0 ≤ s.t) (ht1 : s.t ≤ 5) (hE : VOk s.R) (hl : s.R.length ≤ 1000) (hb : mayBe s m = true) (k1 : m.kind = 3) :
    Calls Try.prog 22 #[.pointer (some ⟨x, 0, none⟩), .agg m.cells.toArray] w (TakePost w x be br s m) := by
  have ht : takeS s m = if (addN s.R m.from_ m.val : Int) > 2 * s.t then sendR (settle { s with R := addL s.R m.from_ m.val } m.val) m.val
      else if (addN s.R m.from_ m.val : Int) > s.t then sendR { s with R := addL s.R m.from_ m.val } m.val else ({ s with R := addL s.R m.from_ m.val }, []) := by simp [takeS, hb, k1]
  have hbox := fun n => Seen.of (m := m) h n
  have hadd := fun W (hW : NodeAt W x be br s) => add_any br s.R m.from_ m.val W hE hl hW.r
  have hN := addN_le s.R m.from_ m.val
  obtain ⟨n, t, me, dealer, E, R, began, heard, ev, ei, rv, ri, sv, si⟩ := s
  obtain ⟨kind, from_, val⟩ := m
  dsimp only at hn hn' ht0 ht1 k1 hl ht hbox hadd hN
  subst k1
  obtain ⟨c0, c1, c2, c3, c4, c5, c6, c7, c8, c9, c10, c11, c12, c13, hf, hx⟩ := h.all
  simp only [Msg.cells, mayBe, Bool.and_eq_true, decide_eq_true_eq] at hb hbox ⊢
  have d1 : decide (from_ < 1) = false := by simp; omega
  have d2 : decide (n < from_) = false := by simp; omega
  have d3 : decide ((4096 : Int) < (val.size : Int)) = false := by simp; omega
  have HT := hid ht
  have HB := hid hbox
  have HA := hid hadd
  clear h hb ht hbox hadd hE
  go_enter Try.func22, Try.ntmps22; go_wp2_with fail; go_quiet ((go_at_call 27; exact Calls.quiet_of_same (is_some _ _ _ hn (by go_simp)))); go_wp2_with fail
  refine wp_abs (fun W => Seen w W x be br w.heap.size _ _) (HB.out _) ?_
  clear c0 c1 c2 c3 c4 c5 c6 c7 c8 c9 c10 c11 c12 c13 hf hx HB
  intro W hS
  obtain ⟨c0, c1, c2, c3, c4, c5, c6, c7, c8, c9, c10, c11, c12, c13, hf, hx⟩ := hS.node.all; dsimp only at c0 c1 c2 c3 c4 c5 c6 c7 c8 c9 c10 c11 c12 c13; have b1 : W.cell? ⟨w.heap.size, 1, none⟩ = some (.int .i64 from_) := (by rw [cell_at hS.box]; rfl); have b2 : W.cell? ⟨w.heap.size, 2, none⟩ = some (.string val) := (by rw [cell_at hS.box]; rfl)
  have hnx : w.heap.size ∉ [x] := (by have := hS.lx; simp; omega); have hnbe : w.heap.size ∉ [be] := (by have := hS.le; simp; omega); have hnbr : w.heap.size ∉ [br] := (by have := hS.lr; simp; omega); have hxe : x ∉ [be] := (by have := hS.node.xe; simp; omega); have hxr : x ∉ [br] := (by have := hS.node.xr; simp; omega)
  have HS := hid hS
  clear hS
  go_region_held3 (fun w' => w'.cell? ⟨x, 5, none⟩ = some (.map (some br)) ∧ w'.cell? ⟨w.heap.size, 1, none⟩ = some (.int .i64 from_) ∧ w'.cell? ⟨w.heap.size, 2, none⟩ = some (.string val))
    (first | exact ⟨c5, b1, b2⟩ | exact ⟨hmod.cell c5 hxr, hmod.cell b1 hnbr, hmod.cell b2 hnbr⟩)
    (first | (go_at_call 30; refine (HA.out W.drew HS.out.node.drew).mono ?_; rintro e w' ⟨rfl, hL, hmod⟩))
  have hS := HS.out.drew.addR hL hmod
  dsimp only at hS
  have HS' := hid hS
  clear HS hS hL c0 c1 c2 c3 c4 c5 c6 c7 c8 c9 c10 c11 c12 c13 hf hx b1 b2 hnx hnbe hnbr hxe hxr hmod HA W nq
  by_cases hq : 2 * t < (addN R from_ val : Int)
  · have HT' := hid (HT.out.trans (if_pos hq))
    clear HT
    obtain ⟨W, rfl⟩ : ∃ W : World, W = w' := ⟨_, rfl⟩
    have hS := HS'.out
    obtain ⟨c0, c1, c2, c3, c4, c5, c6, c7, c8, c9, c10, c11, c12, c13, hf, hx⟩ := hS.node.all; dsimp only at c0 c1 c2 c3 c4 c5 c6 c7 c8 c9 c10 c11 c12 c13; have b1 : W.cell? ⟨w.heap.size, 1, none⟩ = some (.int .i64 from_) := (by rw [cell_at hS.box]; rfl); have b2 : W.cell? ⟨w.heap.size, 2, none⟩ = some (.string val) := (by rw [cell_at hS.box]; rfl)
    have hnx : w.heap.size ∉ [x] := (by have := hS.lx; simp; omega); have hnbe : w.heap.size ∉ [be] := (by have := hS.le; simp; omega); have hnbr : w.heap.size ∉ [br] := (by have := hS.lr; simp; omega); have hxe : x ∉ [be] := (by have := hS.node.xe; simp; omega); have hxr : x ∉ [br] := (by have := hS.node.xr; simp; omega)
    clear hS c0 c3 c4 c5 c6 c7 c8 c9 b1 hnbe hnbr hxe hxr
    cases si with
    | true =>
      go_wp2_with fail
      cases ri with
      | true =>
        go_quiet ((go_at_call 29; exact Calls.quiet_of_same (send_not _ _ _ _ _ _ (by go_simp))))
        go_wp2
        go_ret
        exact HS'.out.idle (by rw [HT'.out]; rfl) _
      | false =>
        go_region_held3 (fun w' => w'.cell? ⟨w.heap.size, 2, none⟩ = some (.string val)) (first | exact b2 | exact hmod.cell b2 hnx) (first | (go_at_call 29; refine (send_mod x 10 3 me val rv W.drew c10 c11 c2 hf (by omega)).mono ?_; rintro e w' ⟨rfl, hw, hmod⟩))
        go_wp2
        go_ret
        rw [hw.out]
        exact HS'.out.drew.sent (.inr ⟨rfl, rfl, rfl⟩) (by rw [HT'.out]; rfl) 0
    | false =>
      go_wp2_with fail
      refine wp_abs (fun W' => Seen w W' x be br w.heap.size ⟨n, t, me, dealer, E, addL R from_ val, began, heard, ev, ei, rv, ri, val, true⟩ ⟨3, from_, val⟩) ((HS'.out.put 12 (.string val) ⟨n, t, me, dealer, E, addL R from_ val, began, heard, ev, ei, rv, ri, val, false⟩ rfl rfl rfl).put 13 _ _ rfl rfl rfl) ?_
      clear c1 c2 c10 c11 c12 c13 hf hx b2 hnx HS'
      intro W hS
      obtain ⟨c0, c1, c2, c3, c4, c5, c6, c7, c8, c9, c10, c11, c12, c13, hf, hx⟩ := hS.node.all; dsimp only at c0 c1 c2 c3 c4 c5 c6 c7 c8 c9 c10 c11 c12 c13; have b1 : W.cell? ⟨w.heap.size, 1, none⟩ = some (.int .i64 from_) := (by rw [cell_at hS.box]; rfl); have b2 : W.cell? ⟨w.heap.size, 2, none⟩ = some (.string val) := (by rw [cell_at hS.box]; rfl)
      have hnx : w.heap.size ∉ [x] := (by have := hS.lx; simp; omega); have hnbe : w.heap.size ∉ [be] := (by have := hS.le; simp; omega); have hnbr : w.heap.size ∉ [br] := (by have := hS.lr; simp; omega); have hxe : x ∉ [be] := (by have := hS.node.xe; simp; omega); have hxr : x ∉ [br] := (by have := hS.node.xr; simp; omega)
      have HS' := hid hS
      clear hS c0 c1 c3 c4 c5 c6 c7 c8 c9 c12 c13 b1 hnbe hnbr hxe hxr
      cases ri with
      | true =>
        go_quiet ((go_at_call 29; exact Calls.quiet_of_same (send_not _ _ _ _ _ _ (by go_simp))))
        go_wp2
        go_ret
        exact HS'.out.idle (by rw [HT'.out]; rfl) _
      | false =>
        go_region_held3 (fun w' => w'.cell? ⟨w.heap.size, 2, none⟩ = some (.string val)) (first | exact b2 | exact hmod.cell b2 hnx) (first | (go_at_call 29; refine (send_mod x 10 3 me val rv W.drew c10 c11 c2 hf (by omega)).mono ?_; rintro e w' ⟨rfl, hw, hmod⟩))
        go_wp2
        go_ret
        rw [hw.out]
        exact HS'.out.drew.sent (.inr ⟨rfl, rfl, rfl⟩) (by rw [HT'.out]; rfl) 0
  · by_cases hq2 : t < (addN R from_ val : Int)
    · have HT' := hid ((HT.out.trans (if_neg hq)).trans (if_pos hq2))
      clear HT
      obtain ⟨W, rfl⟩ : ∃ W : World, W = w' := ⟨_, rfl⟩
      have hS := HS'.out
      obtain ⟨c0, c1, c2, c3, c4, c5, c6, c7, c8, c9, c10, c11, c12, c13, hf, hx⟩ := hS.node.all; dsimp only at c0 c1 c2 c3 c4 c5 c6 c7 c8 c9 c10 c11 c12 c13; have b1 : W.cell? ⟨w.heap.size, 1, none⟩ = some (.int .i64 from_) := (by rw [cell_at hS.box]; rfl); have b2 : W.cell? ⟨w.heap.size, 2, none⟩ = some (.string val) := (by rw [cell_at hS.box]; rfl)
      have hnx : w.heap.size ∉ [x] := (by have := hS.lx; simp; omega); have hnbe : w.heap.size ∉ [be] := (by have := hS.le; simp; omega); have hnbr : w.heap.size ∉ [br] := (by have := hS.lr; simp; omega); have hxe : x ∉ [be] := (by have := hS.node.xe; simp; omega); have hxr : x ∉ [br] := (by have := hS.node.xr; simp; omega)
      clear hS c0 c3 c4 c5 c6 c7 c8 c9 c12 c13 b1 hnbe hnbr hxe hxr
      go_wp2_with fail
      cases ri with
      | true =>
        go_quiet ((go_at_call 29; exact Calls.quiet_of_same (send_not _ _ _ _ _ _ (by go_simp))))
        go_wp2
        go_ret
        exact HS'.out.idle (by rw [HT'.out]; rfl) _
      | false =>
        go_region_held3 (fun w' => w'.cell? ⟨w.heap.size, 2, none⟩ = some (.string val)) (first | exact b2 | exact hmod.cell b2 hnx) (first | (go_at_call 29; refine (send_mod x 10 3 me val rv W.drew c10 c11 c2 hf (by omega)).mono ?_; rintro e w' ⟨rfl, hw, hmod⟩))
        go_wp2
        go_ret
        rw [hw.out]
        exact HS'.out.drew.sent (.inr ⟨rfl, rfl, rfl⟩) (by rw [HT'.out]; rfl) 0
    · have HT' := hid ((HT.out.trans (if_neg hq)).trans (if_neg hq2))
      clear HT
      obtain ⟨W, rfl⟩ : ∃ W : World, W = w' := ⟨_, rfl⟩
      have c1 := HS'.out.node.all.2.1
      dsimp only at c1
      go_wp2_with fail
      go_ret
      exact HS'.out.idle HT'.out 0

/-- Take, whatever the message. -/
theorem take_any (w : World) (x be br : Nat) (s : NodeS) (m : Msg) (h : NodeAt w x be br s) (hn : 0 < s.n) (hn' : s.n ≤ 16) (ht0 : 0 ≤ s.t) (ht1 : s.t ≤ 5) (hE : VOk s.E) (hR : VOk s.R) (hl : s.E.length ≤ 1000) (hl' : s.R.length ≤ 1000) :
    Calls Try.prog 22 #[.pointer (some ⟨x, 0, none⟩), .agg m.cells.toArray] w (TakePost w x be br s m) := by
  cases hb : mayBe s m with
  | false => exact take_bad w x be br s m h hn hb
  | true =>
    by_cases k1 : m.kind = 1
    · by_cases hd : m.from_ = s.dealer ∧ s.heard = false
      · exact take_start w x be br s m h hn hb k1 hd.1 hd.2
      · exact take_start_no w x be br s m h hn hb k1 hd
    · by_cases k2 : m.kind = 2
      · exact take_echo w x be br s m h hn hn' ht0 ht1 hE hl hb k2
      · by_cases k3 : m.kind = 3
        · exact take_ready w x be br s m h hn hn' ht0 ht1 hR hl' hb k3
        · exact take_other w x be br s m h hn hb k1 k2 k3
end Go.Proofs.Ytcgfjalglnlofaa
