/-
  'all' of the statements' world, walked: a message waits for all that are not corrupt. No statement of a claim stands here; each contract names what it asks.
-/
import Derived.Test.YtcgfjalglnlofaaCast5
import Derived.StillTailTactics
set_option linter.unusedSimpArgs false
namespace Go.Proofs.Ytcgfjalglnlofaa
open Go Go.RowKit


def AllPost (W : World) (lw sb : Nat) (vn vt vw : Value) (bl : List Trip) (L : LawS) (e : Ending) (W' : World) : Prop :=
  e = .returned (.tuple #[]) ∧ ∃ vt' vw', LawAt W' lw sb vn vt' vw' bl L ∧ Mod (lw :: sb :: (vt.ownBlock.toList ++ vw.ownBlock.toList)) W W' ∧
    (∀ k, vt'.ownBlock = some k → vt.ownBlock = some k ∨ W.heap.size ≤ k) ∧ (∀ k, vw'.ownBlock = some k → vw.ownBlock = some k ∨ W.heap.size ≤ k)

/-- Nothing is sent. -/
theorem all_none (W : World) (lw sb : Nat) (vn vt vw : Value) (bl : List Trip) (L : LawS) (h : LawAt W lw sb vn vt vw bl L) :
    Calls Try.prog 17 #[.pointer (some ⟨lw, 0, none⟩), .slice none 0 0] W (AllPost W lw sb vn vt vw bl (allL L [])) := by
  have hpost : AllPost W lw sb vn vt vw bl (allL L []) (.returned (.tuple #[])) W := ⟨rfl, vt, vw, h, Mod.refl _ _, fun _ h => .inl h, fun _ h => .inl h⟩
  have HP := hid hpost
  clear hpost h
  go_enter Try.func17, Try.ntmps17
  go_wp2_with fail
  go_loopg [4] 0 (fun gk i wr => i = .int .i64 0 ∧ wr = W)
  case atStart => exact ⟨rfl, rfl⟩
  case round =>
    obtain ⟨rfl, rfl⟩ := hrel
    go_wp2_with fail
    go_end0
    exact HP.out

/-- While the message is laid for one after another: j of them have it. -/
def AllRel (W0 : World) (lw sb mb : Nat) (vn vt0 vw0 : Value) (bl : List Trip) (L : LawS) (m : Msg) (gk : Nat) (i : Value) (W : World) : Prop :=
  ∃ (j : Nat) (vt vw : Value), gk + j = L.n - L.bad ∧ j ≤ L.n - L.bad ∧ i = nat (L.bad + 1 + j) ∧
    LawAt W lw sb vn vt vw bl { L with to := L.to ++ (List.range j).map (L.bad + 1 + ·), wait := L.wait ++ List.replicate j m } ∧
    W.heap[mb]? = some (.cells m.cells.toArray 36 (0, 0)) ∧ vw.ownBlock ≠ some mb ∧ mb < W0.heap.size ∧ W0.heap.size ≤ W.heap.size ∧
    Mod (lw :: sb :: (vt0.ownBlock.toList ++ vw0.ownBlock.toList)) W0 W ∧
    (∀ k, vt.ownBlock = some k → vt0.ownBlock = some k ∨ W0.heap.size ≤ k) ∧ (∀ k, vw.ownBlock = some k → vw0.ownBlock = some k ∨ W0.heap.size ≤ k)

/-- What the loads of 'w.to, w.wait = append(..), append(..)' read. -/
def AllS (lw mb : Nat) (vt vw : Value) (m : Msg) (w' : World) : Prop :=
  w'.cell? ⟨lw, 4, none⟩ = some vt ∧ w'.cell? ⟨lw, 5, none⟩ = some vw ∧ w'.cell? ⟨mb, 0, none⟩ = some (.int .i64 m.kind) ∧ w'.cell? ⟨mb, 1, none⟩ = some (.int .i64 m.from_) ∧ w'.cell? ⟨mb, 2, none⟩ = some (.string m.val)

/-- How the law's rows lie to each other. -/
structure Rows2 (W : World) (lw mb : Nat) (vt vw : Value) : Prop where
  l : lw ∉ vt.ownBlock.toList ++ vw.ownBlock.toList
  m : mb ∉ vt.ownBlock.toList ++ vw.ownBlock.toList
  tw : ∀ k, vt.ownBlock = some k → vw.ownBlock ≠ some k
  tlt : ∀ k, vt.ownBlock = some k → k < W.heap.size
  wlt : ∀ k, vw.ownBlock = some k → k < W.heap.size

theorem rows2_of {W : World} {lw sb mb : Nat} {vn vt vw : Value} {bl : List Trip} {L : LawS} {c : Array Value} (h : LawAt W lw sb vn vt vw bl L) (hm : W.heap[mb]? = some (.cells c 36 (0, 0))) (hv : vw.ownBlock ≠ some mb) : Rows2 W lw mb vt vw := by
  obtain ⟨e1, e2, e3, e4, e5⟩ := h.set
  refine ⟨?_, ?_, fun k hk hk' => ?_, fun k hk => ?_, fun k hk => ?_⟩
  · simp only [List.mem_append, not_or]
    exact ⟨own_not e2, own_not e3⟩
  · simp only [List.mem_append, not_or]
    refine ⟨own_not fun k hk => ?_, own_not fun k hk => fun e => hv (by rw [hk, e])⟩
    obtain ⟨c, hc⟩ := row_block h.to hk
    exact ne_ty hc hm (by decide)
  · obtain ⟨c, hc⟩ := row_block h.to hk
    obtain ⟨c', hc'⟩ := row_block h.wait hk'
    exact ne_ty hc hc' (by decide) rfl
  · obtain ⟨c, hc⟩ := row_block h.to hk; exact lt_of_block hc
  · obtain ⟨c, hc⟩ := row_block h.wait hk; exact lt_of_block hc

theorem allS_of {W : World} {lw sb mb : Nat} {vn vt vw : Value} {bl : List Trip} {L : LawS} {m : Msg} (h : LawAt W lw sb vn vt vw bl L) (hm : W.heap[mb]? = some (.cells m.cells.toArray 36 (0, 0))) (hr : Rows2 W lw mb vt vw) :
    ∀ (S : List Nat) (W' : World), Mod S W W' → (∀ k ∈ S, k ∈ vt.ownBlock.toList ++ vw.ownBlock.toList) → AllS lw mb vt vw m W' := by
  intro S W' hmod hs
  have c1 := hmod.get h.cells (fun h' => hr.l (hs _ h'))
  have c2 := hmod.get hm (fun h' => hr.m (hs _ h'))
  exact ⟨(cell_at c1 4).trans rfl, (cell_at c1 5).trans rfl, (cell_at c2 0).trans rfl, (cell_at c2 1).trans rfl, (cell_at c2 2).trans rfl⟩

theorem all_end_low {W : World} {lw sb : Nat} {vn vt vw : Value} {bl : List Trip} {L : LawS} {m : Msg} (h : LawAt W lw sb vn vt vw bl { L with to := L.to ++ (List.range (L.n - L.bad)).map (L.bad + 1 + ·), wait := L.wait ++ List.replicate (L.n - L.bad) m })
    (hk : m.kind ≤ 1) : LawAt W lw sb vn vt vw bl (allL L [m]) := by
  have hd : ¬ 1 < m.kind := by omega
  simpa [allL, allS, allTo, hd] using h
theorem all_end_high {W : World} {lw sb : Nat} {vn vt vw : Value} {bl : List Trip} {L : LawS} {m : Msg} {s0 : List Nat} (h : LawAt W lw sb vn vt vw bl { L with to := L.to ++ (List.range (L.n - L.bad)).map (L.bad + 1 + ·), wait := L.wait ++ List.replicate (L.n - L.bad) m })
    (hk : 1 < m.kind) (hs : L.sent = s0.modify (2 * m.from_ + m.kind - 2).toNat (· + 1)) : LawAt W lw sb vn vt vw bl (allL { L with sent := s0 } [m]) := by
  simpa [allL, allS, allTo, hk, ← hs] using h

/-- One more has the message. -/
theorem all_step {W0 wr W4 : World} {lw sb mb : Nat} {vn vt0 vw0 vt1 vw1 vt2 vw2 : Value} {bl : List Trip} {L : LawS} {m : Msg} {j gk : Nat} (hgk : gk + (j + 1) = L.n - L.bad)
    (h : LawAt wr lw sb vn vt1 vw1 bl { L with to := L.to ++ (List.range j).map (L.bad + 1 + ·), wait := L.wait ++ List.replicate j m })
    (hm : wr.heap[mb]? = some (.cells m.cells.toArray 36 (0, 0))) (hmlt : mb < W0.heap.size) (hsz : W0.heap.size ≤ wr.heap.size) (hmod : Mod (lw :: sb :: (vt0.ownBlock.toList ++ vw0.ownBlock.toList)) W0 wr)
    (ht1 : ∀ k, vt1.ownBlock = some k → vt0.ownBlock = some k ∨ W0.heap.size ≤ k) (hw1 : ∀ k, vw1.ownBlock = some k → vw0.ownBlock = some k ∨ W0.heap.size ≤ k) (hv1 : vw1.ownBlock ≠ some mb)
    (hm4 : Mod (vt1.ownBlock.toList ++ vw1.ownBlock.toList) wr W4)
    (ho : W4.ownsRow 0 3 1 vt2 (L.to.length + j + 1) ((L.to ++ (List.range j).map (L.bad + 1 + ·)).map nat ++ [nat (L.bad + 1 + j)]))
    (hw : W4.ownsRow 0 36 3 vw2 (L.wait.length + j + 1) (waitCells (L.wait ++ List.replicate j m) ++ m.cells))
    (hl2 : ∀ k, vt2.ownBlock = some k → vt1.ownBlock = some k ∨ wr.heap.size ≤ k) (hl4 : ∀ k, vw2.ownBlock = some k → vw1.ownBlock = some k ∨ wr.heap.size ≤ k) :
    AllRel W0 lw sb mb vn vt0 vw0 bl L m gk (nat (L.bad + 1 + (j + 1))) ((W4.setCell ⟨lw, 4, none⟩ vt2).setCell ⟨lw, 5, none⟩ vw2) := by
  have hr := rows2_of h hm hv1
  have hmB : Mod (lw :: (vt1.ownBlock.toList ++ vw1.ownBlock.toList)) wr ((W4.setCell ⟨lw, 4, none⟩ vt2).setCell ⟨lw, 5, none⟩ vw2) :=
    Mod.setCell (Mod.setCell (hm4.mono (fun x hx => .inl (List.mem_cons_of_mem _ hx))) (by simp) _) (by simp) _
  have hc4 := hm4.get h.cells hr.l
  have hlt := h.set
  have hlw2 : ∀ k, vt2.ownBlock = some k → k ≠ lw := fun k hk => by
    rcases hl2 k hk with h1 | h1
    · exact hlt.2.1 k h1
    · have := lt_of_block h.cells; omega
  have hlw4 : ∀ k, vw2.ownBlock = some k → k ≠ lw := fun k hk => by
    rcases hl4 k hk with h1 | h1
    · exact hlt.2.2.1 k h1
    · have := lt_of_block h.cells; omega
  have hset : Mod [lw] W4 ((W4.setCell ⟨lw, 4, none⟩ vt2).setCell ⟨lw, 5, none⟩ vw2) := Mod.setCell (Mod.setCell (Mod.refl _ _) (by simp) _) (by simp) _
  have ho' := row_mod ho hset (fun k hk => by simpa using hlw2 k hk)
  have hw' := row_mod hw hset (fun k hk => by simpa using hlw4 k hk)
  have hcc := get_setCell_self (get_setCell_self hc4 4 vt2) 5 vw2
  refine ⟨j + 1, vt2, vw2, hgk, by omega, rfl, ?_, ?_, ?_, hmlt, Nat.le_trans hsz hmB.size, ?_, ?_, ?_⟩
  · have := h.two (to' := L.to ++ (List.range (j + 1)).map (L.bad + 1 + ·)) (wait' := L.wait ++ List.replicate (j + 1) m) hmB (fun k hk => ?_) hcc ?_ ?_ ?_
    · exact this
    · simp only [List.mem_cons, List.mem_append, Option.mem_toList] at hk
      rcases hk with h1 | h1 | h1
      · exact .inl h1
      · exact .inr (.inl h1)
      · exact .inr (.inr h1)
    · have e : (L.to ++ (List.range (j + 1)).map (L.bad + 1 + ·)).length = L.to.length + j + 1 := by simp; omega
      rw [e, List.range_succ]
      simp only [List.map_append, List.map_cons, List.map_nil, ← List.append_assoc] at ho' ⊢
      exact ho'
    · have e : (L.wait ++ List.replicate (j + 1) m).length = L.wait.length + j + 1 := by simp; omega
      rw [e, List.replicate_succ', ← List.append_assoc, waitCells_append]
      simpa [waitCells] using hw'
    · intro e
      rcases hl2 sb e with h1 | h1
      · exact h.ts h1
      · have := lt_of_block h.sent; omega
  · refine hmB.get hm ?_
    simp only [List.mem_cons, not_or]
    exact ⟨(ne_ty hm h.cells (by decide)), hr.m⟩
  · intro e
    rcases hl4 mb e with h1 | h1
    · exact hv1 h1
    · have := lt_of_block hm; omega
  · refine hmod.trans' hmB (fun x hx => ?_)
    simp only [List.mem_cons, List.mem_append, Option.mem_toList] at hx
    rcases hx with rfl | h1 | h1
    · exact .inl (by simp)
    · rcases ht1 x h1 with h2 | h2
      · exact .inl (by simp [h2])
      · exact .inr h2
    · rcases hw1 x h1 with h2 | h2
      · exact .inl (by simp [h2])
      · exact .inr h2
  · intro k hk
    rcases hl2 k hk with h1 | h1
    · exact ht1 k h1
    · exact .inr (by omega)
  · intro k hk
    rcases hl4 k hk with h1 | h1
    · exact hw1 k h1
    · exact .inr (by omega)

set_option maxHeartbeats 1000000 in
/-- A message is sent: the counting of what was sent aside. -/
theorem all_one_low (W : World) (lw sb mb : Nat) (vn vt vw : Value) (bl : List Trip) (L : LawS) (m : Msg) (h : LawAt W lw sb vn vt vw bl L) (hm : W.heap[mb]? = some (.cells m.cells.toArray 36 (0, 0))) (hv : vw.ownBlock ≠ some mb)
    (hk : m.kind ≤ 1) (hn : L.n ≤ 100) (hb : L.bad ≤ L.n) (ht : L.to.length ≤ 100000) (hw : L.wait.length ≤ 100000) :
    Calls Try.prog 17 #[.pointer (some ⟨lw, 0, none⟩), .slice (some ⟨mb, 0, none⟩) 1 1] W (AllPost W lw sb vn vt vw bl (allL L [m])) := by
  obtain ⟨i3, hi3, hz3, hs3, hy3⟩ := info_parts infoInt
  obtain ⟨im, him, hzm, hsm, hym⟩ := info_parts infoMsg
  have hmlt := lt_of_block hm
  have d1 : decide ((1 : Int) < m.kind) = false := by simp; omega
  have HL := hid h
  have l0 : W.cell? ⟨lw, 0, none⟩ = some (nat L.n) := by rw [cell_at h.cells]; rfl
  have l2 : W.cell? ⟨lw, 2, none⟩ = some (nat L.bad) := by rw [cell_at h.cells]; rfl
  have m0 : W.cell? ⟨mb, 0, none⟩ = some (.int .i64 m.kind) := by rw [cell_at hm]; rfl
  have HM := hid hm
  have HV := hid hv
  clear h hm hv
  go_enter Try.func17, Try.ntmps17
  go_wp2_with fail
  go_loopg [4, 5] 1 (fun gk i i2 wr => (gk = 1 ∧ i = .int .i64 0 ∧ W = wr) ∨ (gk = 0 ∧ i = .int .i64 1 ∧ AllPost W lw sb vn vt vw bl (allL L [m]) (.returned (.tuple #[])) wr))
  case atStart => exact .inl ⟨rfl, rfl, rfl⟩
  case round =>
    rcases hrel with ⟨rfl, rfl, rfl⟩ | ⟨rfl, rfl, hp⟩
    · go_wp2_with fail
      clear l2 m0
      go_loopg [5] (L.n - L.bad) (fun gk i W' => AllRel W lw sb mb vn vt vw bl L m gk i W')
      case atStart => exact ⟨0, vt, vw, by omega, by omega, by go_num, by simpa using HL.out, HM.out, HV.out, hmlt, Nat.le_refl _, Mod.refl _ _, fun _ h => .inl h, fun _ h => .inl h⟩
      case round =>
        obtain ⟨j, vt1, vw1, hgk, hj, rfl, hLA, hM1, hv1, _, hsz, hmod, ht1, hw1⟩ := hrel
        have l0 : wr.cell? ⟨lw, 0, none⟩ = some (nat L.n) := by rw [cell_at hLA.cells]; rfl
        have l4 : wr.cell? ⟨lw, 4, none⟩ = some vt1 := by rw [cell_at hLA.cells]; rfl
        have l5 : wr.cell? ⟨lw, 5, none⟩ = some vw1 := by rw [cell_at hLA.cells]; rfl
        have HLA := hid hLA
        have HM1 := hid hM1
        have HV1 := hid hv1
        have HMO := hid hmod
        have HT1 := hid ht1
        have HW1 := hid hw1
        clear hLA hM1 hv1 hmod ht1 hw1
        by_cases hjn : j < L.n - L.bad
        · go_wp2_with fail
          refine wp_region_N (AllS lw mb vt1 vw1 m) (fun j => !(j == 21 || j == 24)) (by kernel_rfl) ?_
          have HR := hid (rows2_of HLA.out HM1.out HV1.out)
          have HS := hid (allS_of HLA.out HM1.out HR.out)
          have hS := HS.out [] _ ((Mod.refl _ wr).drew) (by simp)
          refine regA 0 52 (v := ?_) rfl rfl (by kernel_rfl) (by kernel_rfl) (by kernel_rfl) (fun _ _ _ h => h) (by rfl) (fun w => ?_) ?_; rotate_left; (go_simp; first | done | with_reducible rfl); (try simp only [Act.put, List.setIfInBounds_toArray, List.set_cons_zero, List.set_cons_succ])
          refine regA 1 53 (v := ?_) rfl rfl (by kernel_rfl) (by kernel_rfl) (by kernel_rfl) (fun _ _ _ h => h) (by rfl) (fun w => ?_) ?_; rotate_left; (go_simp; first | done | with_reducible rfl); (try simp only [Act.put, List.setIfInBounds_toArray, List.set_cons_zero, List.set_cons_succ])
          refine regA 2 54 (v := ?_) rfl rfl (by kernel_rfl) (by kernel_rfl) (by kernel_rfl) (fun _ _ _ h => h) (by rfl) (fun w => ?_) ?_; rotate_left; (go_simp; first | done | with_reducible rfl); (try simp only [Act.put, List.setIfInBounds_toArray, List.set_cons_zero, List.set_cons_succ])
          refine regA 3 55 (v := ?_) rfl rfl (by kernel_rfl) (by kernel_rfl) (by kernel_rfl) (fun _ _ _ h => h) (by rfl) (fun w => ?_) ?_; rotate_left; (go_simp; first | done | with_reducible rfl); (try simp only [Act.put, List.setIfInBounds_toArray, List.set_cons_zero, List.set_cons_succ])
          refine regA 4 56 (v := ?_) rfl rfl (by kernel_rfl) (by kernel_rfl) (by kernel_rfl) (fun _ _ _ h => h) (by rfl) (fun w => ?_) ?_; rotate_left; (go_simp; first | done | with_reducible rfl); (try simp only [Act.put, List.setIfInBounds_toArray, List.set_cons_zero, List.set_cons_succ])
          refine regS 5 57 (v := ?_) hS rfl rfl (by kernel_rfl) (by kernel_rfl) (by kernel_rfl) (by kernel_rfl) (fun _ _ _ h => h) (by rfl) (fun w hSw => ?_) ?_; rotate_left; (simp only [AllS] at hSw; go_simp; first | done | with_reducible rfl); (try simp only [Act.put, List.setIfInBounds_toArray, List.set_cons_zero, List.set_cons_succ])
          refine regA 6 58 (v := ?_) rfl rfl (by kernel_rfl) (by kernel_rfl) (by kernel_rfl) (fun _ _ _ h => h) (by rfl) (fun w => ?_) ?_; rotate_left; (go_simp; first | done | with_reducible rfl); (try simp only [Act.put, List.setIfInBounds_toArray, List.set_cons_zero, List.set_cons_succ])
          refine regA 9 61 (v := ?_) rfl rfl (by kernel_rfl) (by kernel_rfl) (by kernel_rfl) (fun _ _ _ h => h) (by rfl) (fun w => ?_) ?_; rotate_left; (go_simp; first | done | with_reducible rfl); (try simp only [Act.put, List.setIfInBounds_toArray, List.set_cons_zero, List.set_cons_succ])
          refine regA 10 62 (v := ?_) rfl rfl (by kernel_rfl) (by kernel_rfl) (by kernel_rfl) (fun _ _ _ h => h) (by rfl) (fun w => ?_) ?_; rotate_left; (go_simp; first | done | with_reducible rfl); (try simp only [Act.put, List.setIfInBounds_toArray, List.set_cons_zero, List.set_cons_succ])
          refine regA 11 63 (v := ?_) rfl rfl (by kernel_rfl) (by kernel_rfl) (by kernel_rfl) (fun _ _ _ h => h) (by rfl) (fun w => ?_) ?_; rotate_left; (go_simp; first | done | with_reducible rfl); (try simp only [Act.put, List.setIfInBounds_toArray, List.set_cons_zero, List.set_cons_succ])
          refine regS 12 64 (v := ?_) hS rfl rfl (by kernel_rfl) (by kernel_rfl) (by kernel_rfl) (by kernel_rfl) (fun _ _ _ h => h) (by rfl) (fun w hSw => ?_) ?_; rotate_left; (simp only [AllS] at hSw; go_simp; first | done | with_reducible rfl); (try simp only [Act.put, List.setIfInBounds_toArray, List.set_cons_zero, List.set_cons_succ])
          refine regA 13 65 (v := ?_) rfl rfl (by kernel_rfl) (by kernel_rfl) (by kernel_rfl) (fun _ _ _ h => h) (by rfl) (fun w => ?_) ?_; rotate_left; (go_simp; first | done | with_reducible rfl); (try simp only [Act.put, List.setIfInBounds_toArray, List.set_cons_zero, List.set_cons_succ])
          refine regA 14 66 (v := ?_) rfl rfl (by kernel_rfl) (by kernel_rfl) (by kernel_rfl) (fun _ _ _ h => h) (by rfl) (fun w => ?_) ?_; rotate_left; (go_simp; first | done | with_reducible rfl); (try simp only [Act.put, List.setIfInBounds_toArray, List.set_cons_zero, List.set_cons_succ])
          refine regA 15 67 (v := ?_) rfl rfl (by kernel_rfl) (by kernel_rfl) (by kernel_rfl) (fun _ _ _ h => h) (by rfl) (fun w => ?_) ?_; rotate_left; (go_simp; first | done | with_reducible rfl); (try simp only [Act.put, List.setIfInBounds_toArray, List.set_cons_zero, List.set_cons_succ])
          refine regS 16 68 (v := ?_) hS rfl rfl (by kernel_rfl) (by kernel_rfl) (by kernel_rfl) (by kernel_rfl) (fun _ _ _ h => h) (by rfl) (fun w hSw => ?_) ?_; rotate_left; (simp only [AllS] at hSw; go_simp; first | done | with_reducible rfl); (try simp only [Act.put, List.setIfInBounds_toArray, List.set_cons_zero, List.set_cons_succ])
          clear hS l0 l4 l5
          have HR1 := hid HLA.out.to
          have HR2 := hid HLA.out.wait
          simp only [List.length_append, List.length_map, List.length_range, List.length_replicate] at HR1 HR2
          refine regTwo 7 17 (by kernel_rfl) rfl rfl rfl rfl (fun K hK => ?_) (fun K hK => ?_)
          · go_simp
            refine hK.out _ _ (fun _ _ => HS.out [] _ (by repeat' (first | exact Mod.refl _ _ | assumption | refine Mod.drewN ?_ _ | refine Mod.drew ?_ | refine Mod.alloc ?_ _ | refine Mod.setCell ?_ (by simp) _ | refine Mod.setBlock ?_ (by simp) _)) (by simp)) ?_
            clear hK
            (try simp only [Act.put, List.setIfInBounds_toArray, List.set_cons_zero, List.set_cons_succ])
            refine regAbs (fun W' => Mod [] wr W' ∧ W'.heap[wr.heap.size]? = some (.cells #[nat (L.bad + 1 + j)] 3 (0, 0))) ⟨(by repeat' (first | exact Mod.refl _ _ | assumption | refine Mod.drewN ?_ _ | refine Mod.drew ?_ | refine Mod.alloc ?_ _ | refine Mod.setCell ?_ (by simp) _ | refine Mod.setBlock ?_ (by simp) _)), get_new wr.drew _⟩ ?_
            rintro W1 ⟨hm1, hb7⟩
            have hz1 := hm1.size
            refine regTwo 8 17 (by kernel_rfl) rfl rfl rfl rfl (fun K hK => ?_) (fun K hK => ?_)
            · refine wp_app 60 _ _ 30 rfl rfl 3 i3 _ 1 8 Try.underlying30 hi3 hz3 hs3 hy3 rfl (by omega) vt1 _ _ rfl (row_mod HR1.out hm1 (by simp)) ⟨wr.heap.size, 0, none⟩ 1 1 [nat (L.bad + 1 + j)] rfl rfl (news_at hb7) (by simp [Value.oneCell']) (by unfold maxLen; omega) (by omega) ?_
              intro vt2 W2 ho2 hq2 hl3 _
              have hm2 : Mod vt1.ownBlock.toList wr W2 := (hm1.mono (by simp)).trans hq2
              refine hK.out _ _ (fun _ _ => HS.out _ _ hm2 (fun _ h => List.mem_append_left _ h)) ?_
              clear hK
              (try simp only [Act.put, List.setIfInBounds_toArray, List.set_cons_zero, List.set_cons_succ])
              refine regOnly 17 (by kernel_rfl) rfl rfl (fun K hK => ?_)
              go_simp
              refine hK.out _ _ (fun _ _ => HS.out vt1.ownBlock.toList _ (by repeat' (first | exact Mod.refl _ _ | assumption | refine Mod.drewN ?_ _ | refine Mod.drew ?_ | refine Mod.alloc ?_ _ | refine Mod.setCell ?_ (by simp) _ | refine Mod.setBlock ?_ (by simp) _)) (fun _ h => List.mem_append_left _ h)) ?_
              clear hK
              (try simp only [Act.put, List.setIfInBounds_toArray, List.set_cons_zero, List.set_cons_succ])
              refine regAbs (fun W' => Mod vt1.ownBlock.toList wr W' ∧ W'.heap[W2.heap.size]? = some (.cells m.cells.toArray 36 (0, 0)) ∧ W'.ownsRow 0 3 1 vt2 (L.to.length + j + 1) ((L.to ++ (List.range j).map (L.bad + 1 + ·)).map nat ++ [nat (L.bad + 1 + j)])) ⟨(by repeat' (first | exact Mod.refl _ _ | assumption | refine Mod.drewN ?_ _ | refine Mod.drew ?_ | refine Mod.alloc ?_ _ | refine Mod.setCell ?_ (by simp) _ | refine Mod.setBlock ?_ (by simp) _)), get_new W2 _, ho2.alloc _⟩ ?_
              rintro W3 ⟨hm3, hb17, ho3⟩
              refine regOnly 18 (by kernel_rfl) rfl rfl (fun K hK => ?_)
              refine wp_app 70 _ _ 31 rfl rfl 36 im _ 3 32 Try.underlying31 him hzm hsm hym rfl (by omega) vw1 _ _ rfl (row_mod HR2.out hm3 (fun k hk hk' => HR.out.tw k (by simpa using hk') hk)) ⟨W2.heap.size, 0, none⟩ 1 1 m.cells rfl rfl (news_at hb17) (by simp [Value.oneCell', Msg.cells]) (by unfold maxLen; omega) (by omega) ?_
              intro vw2 W4 hw4 hq4 hl5 _
              have hm4 : Mod (vt1.ownBlock.toList ++ vw1.ownBlock.toList) wr W4 := (hm3.mono (fun _ h => .inl (List.mem_append_left _ h))).trans (hq4.mono (fun _ h => .inl (List.mem_append_right _ h)))
              have hl2 : ∀ k, vt2.ownBlock = some k → vt1.ownBlock = some k ∨ wr.heap.size ≤ k := fun k hk => (hl3 k hk).imp id (fun h => by omega)
              have hl4 : ∀ k, vw2.ownBlock = some k → vw1.ownBlock = some k ∨ wr.heap.size ≤ k := fun k hk => (hl5 k hk).imp id (fun h => by have := hm3.size; omega)
              have ho4 := row_mod ho3 hq4 (fun k hk hk' => by rcases hl2 k hk with h1 | h1; exact HR.out.tw k h1 (by simpa using hk'); have := HR.out.wlt k (by simpa using hk'); omega)
              refine hK.out _ _ (fun _ _ => HS.out _ _ hm4 (fun _ h => h)) ?_
              clear hK
              (try simp only [Act.put, List.setIfInBounds_toArray, List.set_cons_zero, List.set_cons_succ])
              have hc4 : W4.heap[lw]? = _ := hm4.get HLA.out.cells HR.out.l
              have x4 : W4.cell? ⟨lw, 4, none⟩ = some vt1 := (cell_at hc4 4).trans rfl
              have x5 : W4.cell? ⟨lw, 5, none⟩ = some vw1 := (cell_at hc4 5).trans rfl
              have xf : ∀ i, W4.frozen? ⟨lw, i, none⟩ = false := free_at hc4
              obtain ⟨g2, cap2, rfl, _, _⟩ := ho4.form (by omega)
              obtain ⟨g4, cap4, rfl, _, _⟩ := hw4.form (by omega)
              clear hc4
              refine regA 19 71 (v := ?_) rfl rfl (by kernel_rfl) (by kernel_rfl) (by kernel_rfl) (fun _ _ _ h => h) (by rfl) (fun w => ?_) ?_; rotate_left; (go_simp; first | done | with_reducible rfl); (try simp only [Act.put, List.setIfInBounds_toArray, List.set_cons_zero, List.set_cons_succ])
              refine regA 20 72 (v := ?_) rfl rfl (by kernel_rfl) (by kernel_rfl) (by kernel_rfl) (fun _ _ _ h => h) (by rfl) (fun w => ?_) ?_; rotate_left; (go_simp; first | done | with_reducible rfl); (try simp only [Act.put, List.setIfInBounds_toArray, List.set_cons_zero, List.set_cons_succ])
              refine regOnly 21 (by kernel_rfl) rfl rfl (fun K hK => ?_)
              go_simp
              refine hK.out _ _ (fun h => by simp at h) ?_
              clear hK
              (try simp only [Act.put, List.setIfInBounds_toArray, List.set_cons_zero, List.set_cons_succ])
              refine regA 22 73 (v := ?_) rfl rfl (by kernel_rfl) (by kernel_rfl) (by kernel_rfl) (fun _ _ _ h => h) (by rfl) (fun w => ?_) ?_; rotate_left; (go_simp; first | done | with_reducible rfl); (try simp only [Act.put, List.setIfInBounds_toArray, List.set_cons_zero, List.set_cons_succ])
              refine regA 23 74 (v := ?_) rfl rfl (by kernel_rfl) (by kernel_rfl) (by kernel_rfl) (fun _ _ _ h => h) (by rfl) (fun w => ?_) ?_; rotate_left; (go_simp; first | done | with_reducible rfl); (try simp only [Act.put, List.setIfInBounds_toArray, List.set_cons_zero, List.set_cons_succ])
              refine regOnly 24 (by kernel_rfl) rfl rfl (fun K hK => ?_)
              go_simp
              refine hK.out _ _ (fun h => by simp at h) ?_
              clear hK
              (try simp only [Act.put, List.setIfInBounds_toArray, List.set_cons_zero, List.set_cons_succ])
              refine regDone (by kernel_rfl) ?_ _
              go_wp2_with fail
              go_roundg (gk - 1)
              case measure => omega
              case rel =>
                have hfin := all_step (gk := gk - 1) (by omega) HLA.out HM1.out hmlt hsz HMO.out HT1.out HW1.out HV1.out hm4 ho4 hw4 hl2 hl4
                exact hfin
            · go_simp
              refine hK.out _ _ (fun _ _ => HS.out [] _ (by repeat' (first | exact Mod.refl _ _ | assumption | refine Mod.drewN ?_ _ | refine Mod.drew ?_ | refine Mod.alloc ?_ _ | refine Mod.setCell ?_ (by simp) _ | refine Mod.setBlock ?_ (by simp) _)) (by simp)) ?_
              clear hK
              (try simp only [Act.put, List.setIfInBounds_toArray, List.set_cons_zero, List.set_cons_succ])
              refine regAbs (fun W' => Mod [] wr W' ∧ W'.heap[wr.heap.size]? = some (.cells #[nat (L.bad + 1 + j)] 3 (0, 0)) ∧ W'.heap[W1.heap.size]? = some (.cells m.cells.toArray 36 (0, 0))) ⟨(by repeat' (first | exact Mod.refl _ _ | assumption | refine Mod.drewN ?_ _ | refine Mod.drew ?_ | refine Mod.alloc ?_ _ | refine Mod.setCell ?_ (by simp) _ | refine Mod.setBlock ?_ (by simp) _)), get_alloc hb7 _, get_new W1 _⟩ ?_
              rintro W2 ⟨hm2, hb7, hb17⟩
              clear hm1
              refine regOnly 8 (by kernel_rfl) rfl rfl (fun K hK => ?_)
              refine wp_app 60 _ _ 30 rfl rfl 3 i3 _ 1 8 Try.underlying30 hi3 hz3 hs3 hy3 rfl (by omega) vt1 _ _ rfl (row_mod HR1.out hm2 (by simp)) ⟨wr.heap.size, 0, none⟩ 1 1 [nat (L.bad + 1 + j)] rfl rfl (news_at hb7) (by simp [Value.oneCell']) (by unfold maxLen; omega) (by omega) ?_
              intro vt2 W3 ho3 hq3 hl3 _
              have hm3 : Mod vt1.ownBlock.toList wr W3 := (hm2.mono (by simp)).trans hq3
              refine hK.out _ _ (fun _ _ => HS.out _ _ hm3 (fun _ h => List.mem_append_left _ h)) ?_
              clear hK
              (try simp only [Act.put, List.setIfInBounds_toArray, List.set_cons_zero, List.set_cons_succ])
              have hb17' := hq3.get hb17 (fun h => by have := HR.out.tlt _ (by simpa using h); omega)
              refine regOnly 18 (by kernel_rfl) rfl rfl (fun K hK => ?_)
              refine wp_app 70 _ _ 31 rfl rfl 36 im _ 3 32 Try.underlying31 him hzm hsm hym rfl (by omega) vw1 _ _ rfl (row_mod HR2.out hm3 (fun k hk hk' => HR.out.tw k (by simpa using hk') hk)) ⟨W1.heap.size, 0, none⟩ 1 1 m.cells rfl rfl (news_at hb17') (by simp [Value.oneCell', Msg.cells]) (by unfold maxLen; omega) (by omega) ?_
              intro vw2 W4 hw4 hq4 hl5 _
              have hm4 : Mod (vt1.ownBlock.toList ++ vw1.ownBlock.toList) wr W4 := (hm3.mono (fun _ h => .inl (List.mem_append_left _ h))).trans (hq4.mono (fun _ h => .inl (List.mem_append_right _ h)))
              have hl2 : ∀ k, vt2.ownBlock = some k → vt1.ownBlock = some k ∨ wr.heap.size ≤ k := fun k hk => (hl3 k hk).imp id (fun h => by have := hm2.size; omega)
              have hl4 : ∀ k, vw2.ownBlock = some k → vw1.ownBlock = some k ∨ wr.heap.size ≤ k := fun k hk => (hl5 k hk).imp id (fun h => by have := hm3.size; omega)
              have ho4 := row_mod ho3 hq4 (fun k hk hk' => by rcases hl2 k hk with h1 | h1; exact HR.out.tw k h1 (by simpa using hk'); have := HR.out.wlt k (by simpa using hk'); omega)
              refine hK.out _ _ (fun _ _ => HS.out _ _ hm4 (fun _ h => h)) ?_
              clear hK
              (try simp only [Act.put, List.setIfInBounds_toArray, List.set_cons_zero, List.set_cons_succ])
              have hc4 : W4.heap[lw]? = _ := hm4.get HLA.out.cells HR.out.l
              have x4 : W4.cell? ⟨lw, 4, none⟩ = some vt1 := (cell_at hc4 4).trans rfl
              have x5 : W4.cell? ⟨lw, 5, none⟩ = some vw1 := (cell_at hc4 5).trans rfl
              have xf : ∀ i, W4.frozen? ⟨lw, i, none⟩ = false := free_at hc4
              obtain ⟨g2, cap2, rfl, _, _⟩ := ho4.form (by omega)
              obtain ⟨g4, cap4, rfl, _, _⟩ := hw4.form (by omega)
              clear hc4
              refine regA 19 71 (v := ?_) rfl rfl (by kernel_rfl) (by kernel_rfl) (by kernel_rfl) (fun _ _ _ h => h) (by rfl) (fun w => ?_) ?_; rotate_left; (go_simp; first | done | with_reducible rfl); (try simp only [Act.put, List.setIfInBounds_toArray, List.set_cons_zero, List.set_cons_succ])
              refine regA 20 72 (v := ?_) rfl rfl (by kernel_rfl) (by kernel_rfl) (by kernel_rfl) (fun _ _ _ h => h) (by rfl) (fun w => ?_) ?_; rotate_left; (go_simp; first | done | with_reducible rfl); (try simp only [Act.put, List.setIfInBounds_toArray, List.set_cons_zero, List.set_cons_succ])
              refine regOnly 21 (by kernel_rfl) rfl rfl (fun K hK => ?_)
              go_simp
              refine hK.out _ _ (fun h => by simp at h) ?_
              clear hK
              (try simp only [Act.put, List.setIfInBounds_toArray, List.set_cons_zero, List.set_cons_succ])
              refine regA 22 73 (v := ?_) rfl rfl (by kernel_rfl) (by kernel_rfl) (by kernel_rfl) (fun _ _ _ h => h) (by rfl) (fun w => ?_) ?_; rotate_left; (go_simp; first | done | with_reducible rfl); (try simp only [Act.put, List.setIfInBounds_toArray, List.set_cons_zero, List.set_cons_succ])
              refine regA 23 74 (v := ?_) rfl rfl (by kernel_rfl) (by kernel_rfl) (by kernel_rfl) (fun _ _ _ h => h) (by rfl) (fun w => ?_) ?_; rotate_left; (go_simp; first | done | with_reducible rfl); (try simp only [Act.put, List.setIfInBounds_toArray, List.set_cons_zero, List.set_cons_succ])
              refine regOnly 24 (by kernel_rfl) rfl rfl (fun K hK => ?_)
              go_simp
              refine hK.out _ _ (fun h => by simp at h) ?_
              clear hK
              (try simp only [Act.put, List.setIfInBounds_toArray, List.set_cons_zero, List.set_cons_succ])
              refine regDone (by kernel_rfl) ?_ _
              go_wp2_with fail
              go_roundg (gk - 1)
              case measure => omega
              case rel =>
                have hfin := all_step (gk := gk - 1) (by omega) HLA.out HM1.out hmlt hsz HMO.out HT1.out HW1.out HV1.out hm4 ho4 hw4 hl2 hl4
                exact hfin
          · go_simp
            refine hK.out _ _ (fun _ _ => HS.out [] _ (by repeat' (first | exact Mod.refl _ _ | assumption | refine Mod.drewN ?_ _ | refine Mod.drew ?_ | refine Mod.alloc ?_ _ | refine Mod.setCell ?_ (by simp) _ | refine Mod.setBlock ?_ (by simp) _)) (by simp)) ?_
            clear hK
            (try simp only [Act.put, List.setIfInBounds_toArray, List.set_cons_zero, List.set_cons_succ])
            refine regAbs (fun W' => Mod [] wr W' ∧ W'.heap[wr.heap.size]? = some (.cells m.cells.toArray 36 (0, 0))) ⟨(by repeat' (first | exact Mod.refl _ _ | assumption | refine Mod.drewN ?_ _ | refine Mod.drew ?_ | refine Mod.alloc ?_ _ | refine Mod.setCell ?_ (by simp) _ | refine Mod.setBlock ?_ (by simp) _)), get_new wr.drew _⟩ ?_
            rintro W1 ⟨hm1, hb17⟩
            have hz1 := hm1.size
            refine regOnly 7 (by kernel_rfl) rfl rfl (fun K hK => ?_)
            go_simp
            refine hK.out _ _ (fun _ _ => HS.out [] _ (by repeat' (first | exact Mod.refl _ _ | assumption | refine Mod.drewN ?_ _ | refine Mod.drew ?_ | refine Mod.alloc ?_ _ | refine Mod.setCell ?_ (by simp) _ | refine Mod.setBlock ?_ (by simp) _)) (by simp)) ?_
            clear hK
            (try simp only [Act.put, List.setIfInBounds_toArray, List.set_cons_zero, List.set_cons_succ])
            refine regAbs (fun W' => Mod [] wr W' ∧ W'.heap[W1.heap.size]? = some (.cells #[nat (L.bad + 1 + j)] 3 (0, 0)) ∧ W'.heap[wr.heap.size]? = some (.cells m.cells.toArray 36 (0, 0))) ⟨(by repeat' (first | exact Mod.refl _ _ | assumption | refine Mod.drewN ?_ _ | refine Mod.drew ?_ | refine Mod.alloc ?_ _ | refine Mod.setCell ?_ (by simp) _ | refine Mod.setBlock ?_ (by simp) _)), get_new W1 _, get_alloc hb17 _⟩ ?_
            rintro W2 ⟨hm2, hb7, hb17⟩
            clear hm1
            refine regOnly 8 (by kernel_rfl) rfl rfl (fun K hK => ?_)
            refine wp_app 60 _ _ 30 rfl rfl 3 i3 _ 1 8 Try.underlying30 hi3 hz3 hs3 hy3 rfl (by omega) vt1 _ _ rfl (row_mod HR1.out hm2 (by simp)) ⟨W1.heap.size, 0, none⟩ 1 1 [nat (L.bad + 1 + j)] rfl rfl (news_at hb7) (by simp [Value.oneCell']) (by unfold maxLen; omega) (by omega) ?_
            intro vt2 W3 ho3 hq3 hl3 _
            have hm3 : Mod vt1.ownBlock.toList wr W3 := (hm2.mono (by simp)).trans hq3
            refine hK.out _ _ (fun _ _ => HS.out _ _ hm3 (fun _ h => List.mem_append_left _ h)) ?_
            clear hK
            (try simp only [Act.put, List.setIfInBounds_toArray, List.set_cons_zero, List.set_cons_succ])
            have hb17' := hq3.get hb17 (fun h => by have := HR.out.tlt _ (by simpa using h); omega)
            refine regOnly 18 (by kernel_rfl) rfl rfl (fun K hK => ?_)
            refine wp_app 70 _ _ 31 rfl rfl 36 im _ 3 32 Try.underlying31 him hzm hsm hym rfl (by omega) vw1 _ _ rfl (row_mod HR2.out hm3 (fun k hk hk' => HR.out.tw k (by simpa using hk') hk)) ⟨wr.heap.size, 0, none⟩ 1 1 m.cells rfl rfl (news_at hb17') (by simp [Value.oneCell', Msg.cells]) (by unfold maxLen; omega) (by omega) ?_
            intro vw2 W4 hw4 hq4 hl5 _
            have hm4 : Mod (vt1.ownBlock.toList ++ vw1.ownBlock.toList) wr W4 := (hm3.mono (fun _ h => .inl (List.mem_append_left _ h))).trans (hq4.mono (fun _ h => .inl (List.mem_append_right _ h)))
            have hl2 : ∀ k, vt2.ownBlock = some k → vt1.ownBlock = some k ∨ wr.heap.size ≤ k := fun k hk => (hl3 k hk).imp id (fun h => by have := hm2.size; omega)
            have hl4 : ∀ k, vw2.ownBlock = some k → vw1.ownBlock = some k ∨ wr.heap.size ≤ k := fun k hk => (hl5 k hk).imp id (fun h => by have := hm3.size; omega)
            have ho4 := row_mod ho3 hq4 (fun k hk hk' => by rcases hl2 k hk with h1 | h1; exact HR.out.tw k h1 (by simpa using hk'); have := HR.out.wlt k (by simpa using hk'); omega)
            refine hK.out _ _ (fun _ _ => HS.out _ _ hm4 (fun _ h => h)) ?_
            clear hK
            (try simp only [Act.put, List.setIfInBounds_toArray, List.set_cons_zero, List.set_cons_succ])
            have hc4 : W4.heap[lw]? = _ := hm4.get HLA.out.cells HR.out.l
            have x4 : W4.cell? ⟨lw, 4, none⟩ = some vt1 := (cell_at hc4 4).trans rfl
            have x5 : W4.cell? ⟨lw, 5, none⟩ = some vw1 := (cell_at hc4 5).trans rfl
            have xf : ∀ i, W4.frozen? ⟨lw, i, none⟩ = false := free_at hc4
            obtain ⟨g2, cap2, rfl, _, _⟩ := ho4.form (by omega)
            obtain ⟨g4, cap4, rfl, _, _⟩ := hw4.form (by omega)
            clear hc4
            refine regA 19 71 (v := ?_) rfl rfl (by kernel_rfl) (by kernel_rfl) (by kernel_rfl) (fun _ _ _ h => h) (by rfl) (fun w => ?_) ?_; rotate_left; (go_simp; first | done | with_reducible rfl); (try simp only [Act.put, List.setIfInBounds_toArray, List.set_cons_zero, List.set_cons_succ])
            refine regA 20 72 (v := ?_) rfl rfl (by kernel_rfl) (by kernel_rfl) (by kernel_rfl) (fun _ _ _ h => h) (by rfl) (fun w => ?_) ?_; rotate_left; (go_simp; first | done | with_reducible rfl); (try simp only [Act.put, List.setIfInBounds_toArray, List.set_cons_zero, List.set_cons_succ])
            refine regOnly 21 (by kernel_rfl) rfl rfl (fun K hK => ?_)
            go_simp
            refine hK.out _ _ (fun h => by simp at h) ?_
            clear hK
            (try simp only [Act.put, List.setIfInBounds_toArray, List.set_cons_zero, List.set_cons_succ])
            refine regA 22 73 (v := ?_) rfl rfl (by kernel_rfl) (by kernel_rfl) (by kernel_rfl) (fun _ _ _ h => h) (by rfl) (fun w => ?_) ?_; rotate_left; (go_simp; first | done | with_reducible rfl); (try simp only [Act.put, List.setIfInBounds_toArray, List.set_cons_zero, List.set_cons_succ])
            refine regA 23 74 (v := ?_) rfl rfl (by kernel_rfl) (by kernel_rfl) (by kernel_rfl) (fun _ _ _ h => h) (by rfl) (fun w => ?_) ?_; rotate_left; (go_simp; first | done | with_reducible rfl); (try simp only [Act.put, List.setIfInBounds_toArray, List.set_cons_zero, List.set_cons_succ])
            refine regOnly 24 (by kernel_rfl) rfl rfl (fun K hK => ?_)
            go_simp
            refine hK.out _ _ (fun h => by simp at h) ?_
            clear hK
            (try simp only [Act.put, List.setIfInBounds_toArray, List.set_cons_zero, List.set_cons_succ])
            refine regDone (by kernel_rfl) ?_ _
            go_wp2_with fail
            go_roundg (gk - 1)
            case measure => omega
            case rel =>
              have hfin := all_step (gk := gk - 1) (by omega) HLA.out HM1.out hmlt hsz HMO.out HT1.out HW1.out HV1.out hm4 ho4 hw4 hl2 hl4
              exact hfin
        · go_wp2_with fail
          go_roundg 0
          case measure => omega
          case rel =>
            refine .inr ⟨rfl, rfl, rfl, vt1, vw1, ?_, HMO.out, HT1.out, HW1.out⟩
            have : j = L.n - L.bad := by omega
            subst this
            exact all_end_low HLA.out hk
    · have HP := hid hp
      clear hp
      go_wp2_with fail
      go_end0
      exact HP.out
set_option maxHeartbeats 1000000 in
/-- An echo or a ready is sent: it is counted first. (L: what is so behind the counting.) -/
theorem all_one_high (W : World) (lw sb mb : Nat) (vn vt vw : Value) (bl : List Trip) (L : LawS) (m : Msg) (s0 : List Nat) (x : Nat) (h : LawAt W lw sb vn vt vw bl { L with sent := s0 }) (hm : W.heap[mb]? = some (.cells m.cells.toArray 36 (0, 0))) (hv : vw.ownBlock ≠ some mb)
    (hk : 1 < m.kind) (hk3 : m.kind ≤ 3) (hf : 1 ≤ m.from_) (hf' : m.from_ ≤ 100) (hs : L.sent = s0.modify (2 * m.from_ + m.kind - 2).toNat (· + 1)) (hx : s0[(2 * m.from_ + m.kind - 2).toNat]? = some x) (hx' : x ≤ 100000)
    (hn : L.n ≤ 100) (hb : L.bad ≤ L.n) (ht : L.to.length ≤ 100000) (hw : L.wait.length ≤ 100000) :
    Calls Try.prog 17 #[.pointer (some ⟨lw, 0, none⟩), .slice (some ⟨mb, 0, none⟩) 1 1] W (AllPost W lw sb vn vt vw bl (allL { L with sent := s0 } [m])) := by
  obtain ⟨i3, hi3, hz3, hs3, hy3⟩ := info_parts infoInt
  obtain ⟨im, him, hzm, hsm, hym⟩ := info_parts infoMsg
  have hmlt := lt_of_block hm
  have d1 : decide ((1 : Int) < m.kind) = true := by simp; omega
  have HL := hid h
  obtain ⟨i, hi⟩ : ∃ i : Nat, (i : Int) = 2 * m.from_ + m.kind - 2 := ⟨(2 * m.from_ + m.kind - 2).toNat, by omega⟩
  have hin : (2 * m.from_ + m.kind - 2).toNat = i := by omega
  have HIN := hid hin
  rw [hin] at hx
  have hlt := (List.getElem?_eq_some_iff.1 hx).1
  have l0 : W.cell? ⟨lw, 0, none⟩ = some (nat L.n) := by rw [cell_at h.cells]; rfl
  have l2 : W.cell? ⟨lw, 2, none⟩ = some (nat L.bad) := by rw [cell_at h.cells]; rfl
  have l6 : W.cell? ⟨lw, 6, none⟩ = some (.slice (some ⟨sb, 0, none⟩) s0.length s0.length) := by rw [cell_at h.cells]; rfl
  have s1 : W.cell? ⟨sb, i, none⟩ = some (nat x) := by
    have hsb := h.sent
    dsimp only at hsb
    rw [cell_at hsb]; simp [hx]
  have sf : ∀ i, W.frozen? ⟨sb, i, none⟩ = false := free_at h.sent
  have hne1 := h.set.2.2.2.1
  have hne2 := hne1.symm
  have m0 : W.cell? ⟨mb, 0, none⟩ = some (.int .i64 m.kind) := by rw [cell_at hm]; rfl
  have m1 : W.cell? ⟨mb, 1, none⟩ = some (.int .i64 m.from_) := by rw [cell_at hm]; rfl
  have HM := hid hm
  have HV := hid hv
  have HSS := hid hs
  have HX := hid hx
  have e3 : IntKind.i64.wrap (2 * m.from_ + m.kind - 2) = (i : Int) := (IntWalk.i64_in _ (by omega)).trans hi.symm
  have HE3 := hid e3
  clear h hm hv hs hx hi hin e3
  go_enter Try.func17, Try.ntmps17
  go_wp2_with fail
  go_loopg [4, 5] 1 (fun gk i i2 wr => (gk = 1 ∧ i = .int .i64 0 ∧ W = wr) ∨ (gk = 0 ∧ i = .int .i64 1 ∧ AllPost W lw sb vn vt vw bl (allL { L with sent := s0 } [m]) (.returned (.tuple #[])) wr))
  case atStart => exact .inl ⟨rfl, rfl, rfl⟩
  case round =>
    rcases hrel with ⟨rfl, rfl, rfl⟩ | ⟨rfl, rfl, hp⟩
    · go_wp2_with fail
      have e1 : IntKind.i64.wrap (2 * m.from_) = 2 * m.from_ := IntWalk.i64_in _ (by omega)
      have e2 : IntKind.i64.wrap (2 * m.from_ + m.kind) = 2 * m.from_ + m.kind := IntWalk.i64_in _ (by omega)
      have e3 := HE3.out
      have e4 : IntKind.i64.wrap ((x : Int) + 1) = (x : Int) + 1 := IntWalk.i64_in _ (by omega)
      go_still_tail 21, (by kernel_rfl)
      change wpList _ _ _ _ _ W.drew
      clear e1 e2 e3 e4
      go_wp2_with fail
      refine wp_abs (fun W' => LawAt W' lw sb vn vt vw bl L ∧ W'.heap[mb]? = some (.cells m.cells.toArray 36 (0, 0)) ∧ Mod (lw :: sb :: (vt.ownBlock.toList ++ vw.ownBlock.toList)) W W') ?_ ?_
      · have hb := (HL.out.mod0 (Mod.refl [] W).drew).bump HX.out (by rw [HSS.out, HIN.out])
        have hsm := ne_ty HM.out HL.out.sent (by decide)
        exact ⟨hb, get_setCell (w := W.drew) HM.out hsm _, Mod.setCell (Mod.refl _ _).drew (by simp) _⟩
      · clear l0 l2 l6 s1 sf m0 m1
        rintro W1 ⟨hL1, hM1, hmod1⟩
        have HM := hid hM1
        have HL' := hid HL
        have HL := hid hL1
        have hsz0 := hmod1.size
        have hend : ∀ (vt' vw' : Value) (W' : World), LawAt W' lw sb vn vt' vw' bl { L with to := L.to ++ (List.range (L.n - L.bad)).map (L.bad + 1 + ·), wait := L.wait ++ List.replicate (L.n - L.bad) m } → LawAt W' lw sb vn vt' vw' bl (allL { L with sent := s0 } [m]) := fun _ _ _ h => all_end_high h hk HSS.out
        have HEND := hid hend
        clear hL1 hM1 hend
        go_loopg [5] (L.n - L.bad) (fun gk i W' => AllRel W lw sb mb vn vt vw bl L m gk i W')
        case atStart => exact ⟨0, vt, vw, by omega, by omega, by go_num, by simpa using HL.out, HM.out, HV.out, hmlt, hsz0, hmod1, fun _ h => .inl h, fun _ h => .inl h⟩
        case round =>
          obtain ⟨j, vt1, vw1, hgk, hj, rfl, hLA, hM1, hv1, _, hsz, hmod, ht1, hw1⟩ := hrel
          have l0 : wr.cell? ⟨lw, 0, none⟩ = some (nat L.n) := by rw [cell_at hLA.cells]; rfl
          have l4 : wr.cell? ⟨lw, 4, none⟩ = some vt1 := by rw [cell_at hLA.cells]; rfl
          have l5 : wr.cell? ⟨lw, 5, none⟩ = some vw1 := by rw [cell_at hLA.cells]; rfl
          have HLA := hid hLA
          have HM1 := hid hM1
          have HV1 := hid hv1
          have HMO := hid hmod
          have HT1 := hid ht1
          have HW1 := hid hw1
          clear hLA hM1 hv1 hmod ht1 hw1
          by_cases hjn : j < L.n - L.bad
          · go_wp2_with fail
            refine wp_region_N (AllS lw mb vt1 vw1 m) (fun j => !(j == 21 || j == 24)) (by kernel_rfl) ?_
            have HR := hid (rows2_of HLA.out HM1.out HV1.out)
            have HS := hid (allS_of HLA.out HM1.out HR.out)
            have hS := HS.out [] _ ((Mod.refl _ wr).drew) (by simp)
            refine regA 0 52 (v := ?_) rfl rfl (by kernel_rfl) (by kernel_rfl) (by kernel_rfl) (fun _ _ _ h => h) (by rfl) (fun w => ?_) ?_; rotate_left; (go_simp; first | done | with_reducible rfl); (try simp only [Act.put, List.setIfInBounds_toArray, List.set_cons_zero, List.set_cons_succ])
            refine regA 1 53 (v := ?_) rfl rfl (by kernel_rfl) (by kernel_rfl) (by kernel_rfl) (fun _ _ _ h => h) (by rfl) (fun w => ?_) ?_; rotate_left; (go_simp; first | done | with_reducible rfl); (try simp only [Act.put, List.setIfInBounds_toArray, List.set_cons_zero, List.set_cons_succ])
            refine regA 2 54 (v := ?_) rfl rfl (by kernel_rfl) (by kernel_rfl) (by kernel_rfl) (fun _ _ _ h => h) (by rfl) (fun w => ?_) ?_; rotate_left; (go_simp; first | done | with_reducible rfl); (try simp only [Act.put, List.setIfInBounds_toArray, List.set_cons_zero, List.set_cons_succ])
            refine regA 3 55 (v := ?_) rfl rfl (by kernel_rfl) (by kernel_rfl) (by kernel_rfl) (fun _ _ _ h => h) (by rfl) (fun w => ?_) ?_; rotate_left; (go_simp; first | done | with_reducible rfl); (try simp only [Act.put, List.setIfInBounds_toArray, List.set_cons_zero, List.set_cons_succ])
            refine regA 4 56 (v := ?_) rfl rfl (by kernel_rfl) (by kernel_rfl) (by kernel_rfl) (fun _ _ _ h => h) (by rfl) (fun w => ?_) ?_; rotate_left; (go_simp; first | done | with_reducible rfl); (try simp only [Act.put, List.setIfInBounds_toArray, List.set_cons_zero, List.set_cons_succ])
            refine regS 5 57 (v := ?_) hS rfl rfl (by kernel_rfl) (by kernel_rfl) (by kernel_rfl) (by kernel_rfl) (fun _ _ _ h => h) (by rfl) (fun w hSw => ?_) ?_; rotate_left; (simp only [AllS] at hSw; go_simp; first | done | with_reducible rfl); (try simp only [Act.put, List.setIfInBounds_toArray, List.set_cons_zero, List.set_cons_succ])
            refine regA 6 58 (v := ?_) rfl rfl (by kernel_rfl) (by kernel_rfl) (by kernel_rfl) (fun _ _ _ h => h) (by rfl) (fun w => ?_) ?_; rotate_left; (go_simp; first | done | with_reducible rfl); (try simp only [Act.put, List.setIfInBounds_toArray, List.set_cons_zero, List.set_cons_succ])
            refine regA 9 61 (v := ?_) rfl rfl (by kernel_rfl) (by kernel_rfl) (by kernel_rfl) (fun _ _ _ h => h) (by rfl) (fun w => ?_) ?_; rotate_left; (go_simp; first | done | with_reducible rfl); (try simp only [Act.put, List.setIfInBounds_toArray, List.set_cons_zero, List.set_cons_succ])
            refine regA 10 62 (v := ?_) rfl rfl (by kernel_rfl) (by kernel_rfl) (by kernel_rfl) (fun _ _ _ h => h) (by rfl) (fun w => ?_) ?_; rotate_left; (go_simp; first | done | with_reducible rfl); (try simp only [Act.put, List.setIfInBounds_toArray, List.set_cons_zero, List.set_cons_succ])
            refine regA 11 63 (v := ?_) rfl rfl (by kernel_rfl) (by kernel_rfl) (by kernel_rfl) (fun _ _ _ h => h) (by rfl) (fun w => ?_) ?_; rotate_left; (go_simp; first | done | with_reducible rfl); (try simp only [Act.put, List.setIfInBounds_toArray, List.set_cons_zero, List.set_cons_succ])
            refine regS 12 64 (v := ?_) hS rfl rfl (by kernel_rfl) (by kernel_rfl) (by kernel_rfl) (by kernel_rfl) (fun _ _ _ h => h) (by rfl) (fun w hSw => ?_) ?_; rotate_left; (simp only [AllS] at hSw; go_simp; first | done | with_reducible rfl); (try simp only [Act.put, List.setIfInBounds_toArray, List.set_cons_zero, List.set_cons_succ])
            refine regA 13 65 (v := ?_) rfl rfl (by kernel_rfl) (by kernel_rfl) (by kernel_rfl) (fun _ _ _ h => h) (by rfl) (fun w => ?_) ?_; rotate_left; (go_simp; first | done | with_reducible rfl); (try simp only [Act.put, List.setIfInBounds_toArray, List.set_cons_zero, List.set_cons_succ])
            refine regA 14 66 (v := ?_) rfl rfl (by kernel_rfl) (by kernel_rfl) (by kernel_rfl) (fun _ _ _ h => h) (by rfl) (fun w => ?_) ?_; rotate_left; (go_simp; first | done | with_reducible rfl); (try simp only [Act.put, List.setIfInBounds_toArray, List.set_cons_zero, List.set_cons_succ])
            refine regA 15 67 (v := ?_) rfl rfl (by kernel_rfl) (by kernel_rfl) (by kernel_rfl) (fun _ _ _ h => h) (by rfl) (fun w => ?_) ?_; rotate_left; (go_simp; first | done | with_reducible rfl); (try simp only [Act.put, List.setIfInBounds_toArray, List.set_cons_zero, List.set_cons_succ])
            refine regS 16 68 (v := ?_) hS rfl rfl (by kernel_rfl) (by kernel_rfl) (by kernel_rfl) (by kernel_rfl) (fun _ _ _ h => h) (by rfl) (fun w hSw => ?_) ?_; rotate_left; (simp only [AllS] at hSw; go_simp; first | done | with_reducible rfl); (try simp only [Act.put, List.setIfInBounds_toArray, List.set_cons_zero, List.set_cons_succ])
            clear hS l0 l4 l5
            have HR1 := hid HLA.out.to
            have HR2 := hid HLA.out.wait
            simp only [List.length_append, List.length_map, List.length_range, List.length_replicate] at HR1 HR2
            refine regTwo 7 17 (by kernel_rfl) rfl rfl rfl rfl (fun K hK => ?_) (fun K hK => ?_)
            · go_simp
              refine hK.out _ _ (fun _ _ => HS.out [] _ (by repeat' (first | exact Mod.refl _ _ | assumption | refine Mod.drewN ?_ _ | refine Mod.drew ?_ | refine Mod.alloc ?_ _ | refine Mod.setCell ?_ (by simp) _ | refine Mod.setBlock ?_ (by simp) _)) (by simp)) ?_
              clear hK
              (try simp only [Act.put, List.setIfInBounds_toArray, List.set_cons_zero, List.set_cons_succ])
              refine regAbs (fun W' => Mod [] wr W' ∧ W'.heap[wr.heap.size]? = some (.cells #[nat (L.bad + 1 + j)] 3 (0, 0))) ⟨(by repeat' (first | exact Mod.refl _ _ | assumption | refine Mod.drewN ?_ _ | refine Mod.drew ?_ | refine Mod.alloc ?_ _ | refine Mod.setCell ?_ (by simp) _ | refine Mod.setBlock ?_ (by simp) _)), get_new wr.drew _⟩ ?_
              rintro W1 ⟨hm1, hb7⟩
              have hz1 := hm1.size
              refine regTwo 8 17 (by kernel_rfl) rfl rfl rfl rfl (fun K hK => ?_) (fun K hK => ?_)
              · refine wp_app 60 _ _ 30 rfl rfl 3 i3 _ 1 8 Try.underlying30 hi3 hz3 hs3 hy3 rfl (by omega) vt1 _ _ rfl (row_mod HR1.out hm1 (by simp)) ⟨wr.heap.size, 0, none⟩ 1 1 [nat (L.bad + 1 + j)] rfl rfl (news_at hb7) (by simp [Value.oneCell']) (by unfold maxLen; omega) (by omega) ?_
                intro vt2 W2 ho2 hq2 hl3 _
                have hm2 : Mod vt1.ownBlock.toList wr W2 := (hm1.mono (by simp)).trans hq2
                refine hK.out _ _ (fun _ _ => HS.out _ _ hm2 (fun _ h => List.mem_append_left _ h)) ?_
                clear hK
                (try simp only [Act.put, List.setIfInBounds_toArray, List.set_cons_zero, List.set_cons_succ])
                refine regOnly 17 (by kernel_rfl) rfl rfl (fun K hK => ?_)
                go_simp
                refine hK.out _ _ (fun _ _ => HS.out vt1.ownBlock.toList _ (by repeat' (first | exact Mod.refl _ _ | assumption | refine Mod.drewN ?_ _ | refine Mod.drew ?_ | refine Mod.alloc ?_ _ | refine Mod.setCell ?_ (by simp) _ | refine Mod.setBlock ?_ (by simp) _)) (fun _ h => List.mem_append_left _ h)) ?_
                clear hK
                (try simp only [Act.put, List.setIfInBounds_toArray, List.set_cons_zero, List.set_cons_succ])
                refine regAbs (fun W' => Mod vt1.ownBlock.toList wr W' ∧ W'.heap[W2.heap.size]? = some (.cells m.cells.toArray 36 (0, 0)) ∧ W'.ownsRow 0 3 1 vt2 (L.to.length + j + 1) ((L.to ++ (List.range j).map (L.bad + 1 + ·)).map nat ++ [nat (L.bad + 1 + j)])) ⟨(by repeat' (first | exact Mod.refl _ _ | assumption | refine Mod.drewN ?_ _ | refine Mod.drew ?_ | refine Mod.alloc ?_ _ | refine Mod.setCell ?_ (by simp) _ | refine Mod.setBlock ?_ (by simp) _)), get_new W2 _, ho2.alloc _⟩ ?_
                rintro W3 ⟨hm3, hb17, ho3⟩
                refine regOnly 18 (by kernel_rfl) rfl rfl (fun K hK => ?_)
                refine wp_app 70 _ _ 31 rfl rfl 36 im _ 3 32 Try.underlying31 him hzm hsm hym rfl (by omega) vw1 _ _ rfl (row_mod HR2.out hm3 (fun k hk hk' => HR.out.tw k (by simpa using hk') hk)) ⟨W2.heap.size, 0, none⟩ 1 1 m.cells rfl rfl (news_at hb17) (by simp [Value.oneCell', Msg.cells]) (by unfold maxLen; omega) (by omega) ?_
                intro vw2 W4 hw4 hq4 hl5 _
                have hm4 : Mod (vt1.ownBlock.toList ++ vw1.ownBlock.toList) wr W4 := (hm3.mono (fun _ h => .inl (List.mem_append_left _ h))).trans (hq4.mono (fun _ h => .inl (List.mem_append_right _ h)))
                have hl2 : ∀ k, vt2.ownBlock = some k → vt1.ownBlock = some k ∨ wr.heap.size ≤ k := fun k hk => (hl3 k hk).imp id (fun h => by omega)
                have hl4 : ∀ k, vw2.ownBlock = some k → vw1.ownBlock = some k ∨ wr.heap.size ≤ k := fun k hk => (hl5 k hk).imp id (fun h => by have := hm3.size; omega)
                have ho4 := row_mod ho3 hq4 (fun k hk hk' => by rcases hl2 k hk with h1 | h1; exact HR.out.tw k h1 (by simpa using hk'); have := HR.out.wlt k (by simpa using hk'); omega)
                refine hK.out _ _ (fun _ _ => HS.out _ _ hm4 (fun _ h => h)) ?_
                clear hK
                (try simp only [Act.put, List.setIfInBounds_toArray, List.set_cons_zero, List.set_cons_succ])
                have hc4 : W4.heap[lw]? = _ := hm4.get HLA.out.cells HR.out.l
                have x4 : W4.cell? ⟨lw, 4, none⟩ = some vt1 := (cell_at hc4 4).trans rfl
                have x5 : W4.cell? ⟨lw, 5, none⟩ = some vw1 := (cell_at hc4 5).trans rfl
                have xf : ∀ i, W4.frozen? ⟨lw, i, none⟩ = false := free_at hc4
                obtain ⟨g2, cap2, rfl, _, _⟩ := ho4.form (by omega)
                obtain ⟨g4, cap4, rfl, _, _⟩ := hw4.form (by omega)
                clear hc4
                refine regA 19 71 (v := ?_) rfl rfl (by kernel_rfl) (by kernel_rfl) (by kernel_rfl) (fun _ _ _ h => h) (by rfl) (fun w => ?_) ?_; rotate_left; (go_simp; first | done | with_reducible rfl); (try simp only [Act.put, List.setIfInBounds_toArray, List.set_cons_zero, List.set_cons_succ])
                refine regA 20 72 (v := ?_) rfl rfl (by kernel_rfl) (by kernel_rfl) (by kernel_rfl) (fun _ _ _ h => h) (by rfl) (fun w => ?_) ?_; rotate_left; (go_simp; first | done | with_reducible rfl); (try simp only [Act.put, List.setIfInBounds_toArray, List.set_cons_zero, List.set_cons_succ])
                refine regOnly 21 (by kernel_rfl) rfl rfl (fun K hK => ?_)
                go_simp
                refine hK.out _ _ (fun h => by simp at h) ?_
                clear hK
                (try simp only [Act.put, List.setIfInBounds_toArray, List.set_cons_zero, List.set_cons_succ])
                refine regA 22 73 (v := ?_) rfl rfl (by kernel_rfl) (by kernel_rfl) (by kernel_rfl) (fun _ _ _ h => h) (by rfl) (fun w => ?_) ?_; rotate_left; (go_simp; first | done | with_reducible rfl); (try simp only [Act.put, List.setIfInBounds_toArray, List.set_cons_zero, List.set_cons_succ])
                refine regA 23 74 (v := ?_) rfl rfl (by kernel_rfl) (by kernel_rfl) (by kernel_rfl) (fun _ _ _ h => h) (by rfl) (fun w => ?_) ?_; rotate_left; (go_simp; first | done | with_reducible rfl); (try simp only [Act.put, List.setIfInBounds_toArray, List.set_cons_zero, List.set_cons_succ])
                refine regOnly 24 (by kernel_rfl) rfl rfl (fun K hK => ?_)
                go_simp
                refine hK.out _ _ (fun h => by simp at h) ?_
                clear hK
                (try simp only [Act.put, List.setIfInBounds_toArray, List.set_cons_zero, List.set_cons_succ])
                refine regDone (by kernel_rfl) ?_ _
                go_wp2_with fail
                go_roundg (gk - 1)
                case measure => omega
                case rel =>
                  have hfin := all_step (gk := gk - 1) (by omega) HLA.out HM1.out hmlt hsz HMO.out HT1.out HW1.out HV1.out hm4 ho4 hw4 hl2 hl4
                  exact hfin
              · go_simp
                refine hK.out _ _ (fun _ _ => HS.out [] _ (by repeat' (first | exact Mod.refl _ _ | assumption | refine Mod.drewN ?_ _ | refine Mod.drew ?_ | refine Mod.alloc ?_ _ | refine Mod.setCell ?_ (by simp) _ | refine Mod.setBlock ?_ (by simp) _)) (by simp)) ?_
                clear hK
                (try simp only [Act.put, List.setIfInBounds_toArray, List.set_cons_zero, List.set_cons_succ])
                refine regAbs (fun W' => Mod [] wr W' ∧ W'.heap[wr.heap.size]? = some (.cells #[nat (L.bad + 1 + j)] 3 (0, 0)) ∧ W'.heap[W1.heap.size]? = some (.cells m.cells.toArray 36 (0, 0))) ⟨(by repeat' (first | exact Mod.refl _ _ | assumption | refine Mod.drewN ?_ _ | refine Mod.drew ?_ | refine Mod.alloc ?_ _ | refine Mod.setCell ?_ (by simp) _ | refine Mod.setBlock ?_ (by simp) _)), get_alloc hb7 _, get_new W1 _⟩ ?_
                rintro W2 ⟨hm2, hb7, hb17⟩
                clear hm1
                refine regOnly 8 (by kernel_rfl) rfl rfl (fun K hK => ?_)
                refine wp_app 60 _ _ 30 rfl rfl 3 i3 _ 1 8 Try.underlying30 hi3 hz3 hs3 hy3 rfl (by omega) vt1 _ _ rfl (row_mod HR1.out hm2 (by simp)) ⟨wr.heap.size, 0, none⟩ 1 1 [nat (L.bad + 1 + j)] rfl rfl (news_at hb7) (by simp [Value.oneCell']) (by unfold maxLen; omega) (by omega) ?_
                intro vt2 W3 ho3 hq3 hl3 _
                have hm3 : Mod vt1.ownBlock.toList wr W3 := (hm2.mono (by simp)).trans hq3
                refine hK.out _ _ (fun _ _ => HS.out _ _ hm3 (fun _ h => List.mem_append_left _ h)) ?_
                clear hK
                (try simp only [Act.put, List.setIfInBounds_toArray, List.set_cons_zero, List.set_cons_succ])
                have hb17' := hq3.get hb17 (fun h => by have := HR.out.tlt _ (by simpa using h); omega)
                refine regOnly 18 (by kernel_rfl) rfl rfl (fun K hK => ?_)
                refine wp_app 70 _ _ 31 rfl rfl 36 im _ 3 32 Try.underlying31 him hzm hsm hym rfl (by omega) vw1 _ _ rfl (row_mod HR2.out hm3 (fun k hk hk' => HR.out.tw k (by simpa using hk') hk)) ⟨W1.heap.size, 0, none⟩ 1 1 m.cells rfl rfl (news_at hb17') (by simp [Value.oneCell', Msg.cells]) (by unfold maxLen; omega) (by omega) ?_
                intro vw2 W4 hw4 hq4 hl5 _
                have hm4 : Mod (vt1.ownBlock.toList ++ vw1.ownBlock.toList) wr W4 := (hm3.mono (fun _ h => .inl (List.mem_append_left _ h))).trans (hq4.mono (fun _ h => .inl (List.mem_append_right _ h)))
                have hl2 : ∀ k, vt2.ownBlock = some k → vt1.ownBlock = some k ∨ wr.heap.size ≤ k := fun k hk => (hl3 k hk).imp id (fun h => by have := hm2.size; omega)
                have hl4 : ∀ k, vw2.ownBlock = some k → vw1.ownBlock = some k ∨ wr.heap.size ≤ k := fun k hk => (hl5 k hk).imp id (fun h => by have := hm3.size; omega)
                have ho4 := row_mod ho3 hq4 (fun k hk hk' => by rcases hl2 k hk with h1 | h1; exact HR.out.tw k h1 (by simpa using hk'); have := HR.out.wlt k (by simpa using hk'); omega)
                refine hK.out _ _ (fun _ _ => HS.out _ _ hm4 (fun _ h => h)) ?_
                clear hK
                (try simp only [Act.put, List.setIfInBounds_toArray, List.set_cons_zero, List.set_cons_succ])
                have hc4 : W4.heap[lw]? = _ := hm4.get HLA.out.cells HR.out.l
                have x4 : W4.cell? ⟨lw, 4, none⟩ = some vt1 := (cell_at hc4 4).trans rfl
                have x5 : W4.cell? ⟨lw, 5, none⟩ = some vw1 := (cell_at hc4 5).trans rfl
                have xf : ∀ i, W4.frozen? ⟨lw, i, none⟩ = false := free_at hc4
                obtain ⟨g2, cap2, rfl, _, _⟩ := ho4.form (by omega)
                obtain ⟨g4, cap4, rfl, _, _⟩ := hw4.form (by omega)
                clear hc4
                refine regA 19 71 (v := ?_) rfl rfl (by kernel_rfl) (by kernel_rfl) (by kernel_rfl) (fun _ _ _ h => h) (by rfl) (fun w => ?_) ?_; rotate_left; (go_simp; first | done | with_reducible rfl); (try simp only [Act.put, List.setIfInBounds_toArray, List.set_cons_zero, List.set_cons_succ])
                refine regA 20 72 (v := ?_) rfl rfl (by kernel_rfl) (by kernel_rfl) (by kernel_rfl) (fun _ _ _ h => h) (by rfl) (fun w => ?_) ?_; rotate_left; (go_simp; first | done | with_reducible rfl); (try simp only [Act.put, List.setIfInBounds_toArray, List.set_cons_zero, List.set_cons_succ])
                refine regOnly 21 (by kernel_rfl) rfl rfl (fun K hK => ?_)
                go_simp
                refine hK.out _ _ (fun h => by simp at h) ?_
                clear hK
                (try simp only [Act.put, List.setIfInBounds_toArray, List.set_cons_zero, List.set_cons_succ])
                refine regA 22 73 (v := ?_) rfl rfl (by kernel_rfl) (by kernel_rfl) (by kernel_rfl) (fun _ _ _ h => h) (by rfl) (fun w => ?_) ?_; rotate_left; (go_simp; first | done | with_reducible rfl); (try simp only [Act.put, List.setIfInBounds_toArray, List.set_cons_zero, List.set_cons_succ])
                refine regA 23 74 (v := ?_) rfl rfl (by kernel_rfl) (by kernel_rfl) (by kernel_rfl) (fun _ _ _ h => h) (by rfl) (fun w => ?_) ?_; rotate_left; (go_simp; first | done | with_reducible rfl); (try simp only [Act.put, List.setIfInBounds_toArray, List.set_cons_zero, List.set_cons_succ])
                refine regOnly 24 (by kernel_rfl) rfl rfl (fun K hK => ?_)
                go_simp
                refine hK.out _ _ (fun h => by simp at h) ?_
                clear hK
                (try simp only [Act.put, List.setIfInBounds_toArray, List.set_cons_zero, List.set_cons_succ])
                refine regDone (by kernel_rfl) ?_ _
                go_wp2_with fail
                go_roundg (gk - 1)
                case measure => omega
                case rel =>
                  have hfin := all_step (gk := gk - 1) (by omega) HLA.out HM1.out hmlt hsz HMO.out HT1.out HW1.out HV1.out hm4 ho4 hw4 hl2 hl4
                  exact hfin
            · go_simp
              refine hK.out _ _ (fun _ _ => HS.out [] _ (by repeat' (first | exact Mod.refl _ _ | assumption | refine Mod.drewN ?_ _ | refine Mod.drew ?_ | refine Mod.alloc ?_ _ | refine Mod.setCell ?_ (by simp) _ | refine Mod.setBlock ?_ (by simp) _)) (by simp)) ?_
              clear hK
              (try simp only [Act.put, List.setIfInBounds_toArray, List.set_cons_zero, List.set_cons_succ])
              refine regAbs (fun W' => Mod [] wr W' ∧ W'.heap[wr.heap.size]? = some (.cells m.cells.toArray 36 (0, 0))) ⟨(by repeat' (first | exact Mod.refl _ _ | assumption | refine Mod.drewN ?_ _ | refine Mod.drew ?_ | refine Mod.alloc ?_ _ | refine Mod.setCell ?_ (by simp) _ | refine Mod.setBlock ?_ (by simp) _)), get_new wr.drew _⟩ ?_
              rintro W1 ⟨hm1, hb17⟩
              have hz1 := hm1.size
              refine regOnly 7 (by kernel_rfl) rfl rfl (fun K hK => ?_)
              go_simp
              refine hK.out _ _ (fun _ _ => HS.out [] _ (by repeat' (first | exact Mod.refl _ _ | assumption | refine Mod.drewN ?_ _ | refine Mod.drew ?_ | refine Mod.alloc ?_ _ | refine Mod.setCell ?_ (by simp) _ | refine Mod.setBlock ?_ (by simp) _)) (by simp)) ?_
              clear hK
              (try simp only [Act.put, List.setIfInBounds_toArray, List.set_cons_zero, List.set_cons_succ])
              refine regAbs (fun W' => Mod [] wr W' ∧ W'.heap[W1.heap.size]? = some (.cells #[nat (L.bad + 1 + j)] 3 (0, 0)) ∧ W'.heap[wr.heap.size]? = some (.cells m.cells.toArray 36 (0, 0))) ⟨(by repeat' (first | exact Mod.refl _ _ | assumption | refine Mod.drewN ?_ _ | refine Mod.drew ?_ | refine Mod.alloc ?_ _ | refine Mod.setCell ?_ (by simp) _ | refine Mod.setBlock ?_ (by simp) _)), get_new W1 _, get_alloc hb17 _⟩ ?_
              rintro W2 ⟨hm2, hb7, hb17⟩
              clear hm1
              refine regOnly 8 (by kernel_rfl) rfl rfl (fun K hK => ?_)
              refine wp_app 60 _ _ 30 rfl rfl 3 i3 _ 1 8 Try.underlying30 hi3 hz3 hs3 hy3 rfl (by omega) vt1 _ _ rfl (row_mod HR1.out hm2 (by simp)) ⟨W1.heap.size, 0, none⟩ 1 1 [nat (L.bad + 1 + j)] rfl rfl (news_at hb7) (by simp [Value.oneCell']) (by unfold maxLen; omega) (by omega) ?_
              intro vt2 W3 ho3 hq3 hl3 _
              have hm3 : Mod vt1.ownBlock.toList wr W3 := (hm2.mono (by simp)).trans hq3
              refine hK.out _ _ (fun _ _ => HS.out _ _ hm3 (fun _ h => List.mem_append_left _ h)) ?_
              clear hK
              (try simp only [Act.put, List.setIfInBounds_toArray, List.set_cons_zero, List.set_cons_succ])
              have hb17' := hq3.get hb17 (fun h => by have := HR.out.tlt _ (by simpa using h); omega)
              refine regOnly 18 (by kernel_rfl) rfl rfl (fun K hK => ?_)
              refine wp_app 70 _ _ 31 rfl rfl 36 im _ 3 32 Try.underlying31 him hzm hsm hym rfl (by omega) vw1 _ _ rfl (row_mod HR2.out hm3 (fun k hk hk' => HR.out.tw k (by simpa using hk') hk)) ⟨wr.heap.size, 0, none⟩ 1 1 m.cells rfl rfl (news_at hb17') (by simp [Value.oneCell', Msg.cells]) (by unfold maxLen; omega) (by omega) ?_
              intro vw2 W4 hw4 hq4 hl5 _
              have hm4 : Mod (vt1.ownBlock.toList ++ vw1.ownBlock.toList) wr W4 := (hm3.mono (fun _ h => .inl (List.mem_append_left _ h))).trans (hq4.mono (fun _ h => .inl (List.mem_append_right _ h)))
              have hl2 : ∀ k, vt2.ownBlock = some k → vt1.ownBlock = some k ∨ wr.heap.size ≤ k := fun k hk => (hl3 k hk).imp id (fun h => by have := hm2.size; omega)
              have hl4 : ∀ k, vw2.ownBlock = some k → vw1.ownBlock = some k ∨ wr.heap.size ≤ k := fun k hk => (hl5 k hk).imp id (fun h => by have := hm3.size; omega)
              have ho4 := row_mod ho3 hq4 (fun k hk hk' => by rcases hl2 k hk with h1 | h1; exact HR.out.tw k h1 (by simpa using hk'); have := HR.out.wlt k (by simpa using hk'); omega)
              refine hK.out _ _ (fun _ _ => HS.out _ _ hm4 (fun _ h => h)) ?_
              clear hK
              (try simp only [Act.put, List.setIfInBounds_toArray, List.set_cons_zero, List.set_cons_succ])
              have hc4 : W4.heap[lw]? = _ := hm4.get HLA.out.cells HR.out.l
              have x4 : W4.cell? ⟨lw, 4, none⟩ = some vt1 := (cell_at hc4 4).trans rfl
              have x5 : W4.cell? ⟨lw, 5, none⟩ = some vw1 := (cell_at hc4 5).trans rfl
              have xf : ∀ i, W4.frozen? ⟨lw, i, none⟩ = false := free_at hc4
              obtain ⟨g2, cap2, rfl, _, _⟩ := ho4.form (by omega)
              obtain ⟨g4, cap4, rfl, _, _⟩ := hw4.form (by omega)
              clear hc4
              refine regA 19 71 (v := ?_) rfl rfl (by kernel_rfl) (by kernel_rfl) (by kernel_rfl) (fun _ _ _ h => h) (by rfl) (fun w => ?_) ?_; rotate_left; (go_simp; first | done | with_reducible rfl); (try simp only [Act.put, List.setIfInBounds_toArray, List.set_cons_zero, List.set_cons_succ])
              refine regA 20 72 (v := ?_) rfl rfl (by kernel_rfl) (by kernel_rfl) (by kernel_rfl) (fun _ _ _ h => h) (by rfl) (fun w => ?_) ?_; rotate_left; (go_simp; first | done | with_reducible rfl); (try simp only [Act.put, List.setIfInBounds_toArray, List.set_cons_zero, List.set_cons_succ])
              refine regOnly 21 (by kernel_rfl) rfl rfl (fun K hK => ?_)
              go_simp
              refine hK.out _ _ (fun h => by simp at h) ?_
              clear hK
              (try simp only [Act.put, List.setIfInBounds_toArray, List.set_cons_zero, List.set_cons_succ])
              refine regA 22 73 (v := ?_) rfl rfl (by kernel_rfl) (by kernel_rfl) (by kernel_rfl) (fun _ _ _ h => h) (by rfl) (fun w => ?_) ?_; rotate_left; (go_simp; first | done | with_reducible rfl); (try simp only [Act.put, List.setIfInBounds_toArray, List.set_cons_zero, List.set_cons_succ])
              refine regA 23 74 (v := ?_) rfl rfl (by kernel_rfl) (by kernel_rfl) (by kernel_rfl) (fun _ _ _ h => h) (by rfl) (fun w => ?_) ?_; rotate_left; (go_simp; first | done | with_reducible rfl); (try simp only [Act.put, List.setIfInBounds_toArray, List.set_cons_zero, List.set_cons_succ])
              refine regOnly 24 (by kernel_rfl) rfl rfl (fun K hK => ?_)
              go_simp
              refine hK.out _ _ (fun h => by simp at h) ?_
              clear hK
              (try simp only [Act.put, List.setIfInBounds_toArray, List.set_cons_zero, List.set_cons_succ])
              refine regDone (by kernel_rfl) ?_ _
              go_wp2_with fail
              go_roundg (gk - 1)
              case measure => omega
              case rel =>
                have hfin := all_step (gk := gk - 1) (by omega) HLA.out HM1.out hmlt hsz HMO.out HT1.out HW1.out HV1.out hm4 ho4 hw4 hl2 hl4
                exact hfin
          · go_wp2_with fail
            go_roundg 0
            case measure => omega
            case rel =>
              refine .inr ⟨rfl, rfl, rfl, vt1, vw1, ?_, HMO.out, HT1.out, HW1.out⟩
              have : j = L.n - L.bad := by omega
              subst this
              exact HEND.out _ _ _ HLA.out
    · have HP := hid hp
      clear hp
      go_wp2_with fail
      go_end0
      exact HP.out
end Go.Proofs.Ytcgfjalglnlofaa
