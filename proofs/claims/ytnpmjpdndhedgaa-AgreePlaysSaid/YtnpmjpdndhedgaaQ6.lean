/-
  The reference's node of an agreement, walked: Take. No statement of a claim stands here; each contract names what it asks.
-/
import Derived.Test.YtnpmjpdndhedgaaQ5
set_option linter.unusedSimpArgs false
namespace Go.Proofs.Ytnpmjpdndhedgaa
open Go Go.RowKit Go.ChangeMaps

/-- What a call that may count a message leaves. -/
def RTPost (w : World) (b : Nat) (vL : Value) (L : List Msg) (r : NodeS × List Msg) (e : Ending) (w' : World) : Prop :=
  ∃ vL' L' v, e = .returned v ∧ RefAt w' b vL' r.1 L' ∧ LE r.1 L' ∧ RMsgs w.heap.size w' v r.2 ∧ Mod (b :: vL.ownBlock.toList) w w' ∧ (∀ k, vL'.ownBlock = some k → vL.ownBlock = some k ∨ w.heap.size ≤ k) ∧ L'.length ≤ L.length + 1

theorem may_all {s : NodeS} {m : Msg} (h : mayS s m = true) : 1 ≤ m.from_ ∧ m.from_ ≤ s.n ∧ 0 ≤ m.round ∧ m.round < 64 ∧ m.val.size ≤ 4096 ∧ (m.kind = 2 ∨ ((m.kind = 1 ∧ m.from_ = leaderS s m.round ∨ m.kind = 3) ∧ m.val ≠ ⟨#[]⟩)) := by
  unfold mayS at h
  simp only [Bool.and_eq_true, Bool.or_eq_true, decide_eq_true_eq] at h
  obtain ⟨⟨⟨⟨⟨h1, h2⟩, h3⟩, h4⟩, h5⟩, h6⟩ := h
  exact ⟨h1, h2, h3, h4, h5, h6⟩
theorem may_of {s : NodeS} {m : Msg} (h1 : 1 ≤ m.from_) (h2 : m.from_ ≤ s.n) (h3 : 0 ≤ m.round) (h4 : m.round < 64) (h5 : m.val.size ≤ 4096) (h6 : m.kind = 2 ∨ ((m.kind = 1 ∧ m.from_ = leaderS s m.round ∨ m.kind = 3) ∧ m.val ≠ ⟨#[]⟩)) : mayS s m = true := by
  unfold mayS
  simp only [Bool.and_eq_true, Bool.or_eq_true, decide_eq_true_eq]
  exact ⟨⟨⟨⟨⟨h1, h2⟩, h3⟩, h4⟩, h5⟩, h6⟩
theorem take_no {s : NodeS} {m : Msg} (h : ¬ (0 ≤ s.round ∧ mayS s m = true)) : takeS s m = (s, []) := by
  unfold takeS
  rw [if_pos]
  by_cases hr : s.round < 0
  · exact .inl hr
  · exact .inr (by
      cases hh : mayS s m with
      | false => rfl
      | true => exact absurd ⟨by omega, hh⟩ h)

theorem hasL_cons (x : Msg) (L : List Msg) (m : Msg) : hasL (x :: L) m = ((decide (x.kind = m.kind) && decide (x.from_ = m.from_)) && decide (x.round = m.round) || hasL L m) := rfl

/-- What the loads next to the count read. -/
def CountSat (b B : Nat) (vL : Value) (m : Msg) (w' : World) : Prop :=
  w'.cell? ⟨b, 4, none⟩ = some vL ∧ w'.cell? ⟨B, 0, none⟩ = some (.int .i64 m.kind) ∧ w'.cell? ⟨B, 1, none⟩ = some (.int .i64 m.from_) ∧ w'.cell? ⟨B, 2, none⟩ = some (.int .i64 m.round) ∧ w'.cell? ⟨B, 3, none⟩ = some (.string m.val)
theorem CountSat.mod {b B : Nat} {vL : Value} {m : Msg} {w w' : World} {S : List Nat} (h : CountSat b B vL m w) (hm : Mod S w w') (h1 : b ∉ S) (h2 : B ∉ S) : CountSat b B vL m w' :=
  ⟨hm.cell h.1 h1, hm.cell h.2.1 h2, hm.cell h.2.2.1 h2, hm.cell h.2.2.2.1 h2, hm.cell h.2.2.2.2 h2⟩

theorem set_done1 (s : NodeS) (vL : Value) : (refList s vL).set 201 (.bool true) = refList { s with done := true } vL := by
  have e : ∀ (o : Nat) (u : Value) (t : List Value), (refHead s vL ++ (arr s 2 ++ (arr s 3 ++ (arr s 1 ++ t)))).set (200 + o) u = refHead s vL ++ (arr s 2 ++ (arr s 3 ++ (arr s 1 ++ t.set o u))) := fun o u t => by
    rw [List.set_append_right _ _ (by simp [refHead]; omega), show 200 + o - (refHead s vL).length = 192 + o by simp [refHead]; omega, List.set_append_right _ _ (by rw [arr_len]; omega), arr_len, List.set_append_right _ _ (by rw [arr_len]; omega), arr_len, List.set_append_right _ _ (by rw [arr_len]; omega), arr_len, show 192 + o - 64 - 64 - 64 = o by omega]
  unfold refList
  rw [e 1]
  rfl
theorem set_choice (s : NodeS) (vL : Value) (v : ByteArray) : (refList s vL).set 200 (.string v) = refList { s with choice := v } vL := by
  have e : ∀ (o : Nat) (u : Value) (t : List Value), (refHead s vL ++ (arr s 2 ++ (arr s 3 ++ (arr s 1 ++ t)))).set (200 + o) u = refHead s vL ++ (arr s 2 ++ (arr s 3 ++ (arr s 1 ++ t.set o u))) := fun o u t => by
    rw [List.set_append_right _ _ (by simp [refHead]; omega), show 200 + o - (refHead s vL).length = 192 + o by simp [refHead]; omega, List.set_append_right _ _ (by rw [arr_len]; omega), arr_len, List.set_append_right _ _ (by rw [arr_len]; omega), arr_len, List.set_append_right _ _ (by rw [arr_len]; omega), arr_len, show 192 + o - 64 - 64 - 64 = o by omega]
  unfold refList
  rw [e 0]
  rfl

/-- One message more is counted. -/
theorem ref_count {W W2 W4 : World} {b : Nat} {vL v' : Value} {s : NodeS} {L : List Msg} {m : Msg} (h : RefAt W b vL s L) (h2 : Mod [] W W2) (ho : W4.ownsRow 0 59 4 v' (L.length + 1) (msgCells L ++ m.cells))
    (hm : Mod vL.ownBlock.toList W2 W4) (hk : ∀ k, v'.ownBlock = some k → vL.ownBlock = some k ∨ k = W2.heap.size) :
    RefAt (W4.setCell ⟨b, 4, none⟩ v') b v' (addS s m) (L ++ [m]) ∧ Mod (b :: vL.ownBlock.toList) W (W4.setCell ⟨b, 4, none⟩ v') ∧ (∀ k, v'.ownBlock = some k → vL.ownBlock = some k ∨ W.heap.size ≤ k) := by
  have hz := h2.size
  have hb := lt_of_block h.cells
  have hbv : b ∉ vL.ownBlock.toList := own_not h.rowNe
  have hvb : ∀ k, v'.ownBlock = some k → k ≠ b := fun k hk' => by
    rcases hk k hk' with h1 | h1
    · exact h.rowNe k h1
    · omega
  have hset : Mod [b] W4 (W4.setCell ⟨b, 4, none⟩ v') := Mod.setCell (Mod.refl _ _) (by simp) _
  refine ⟨⟨?_, ?_⟩, ?_, fun k hk' => ?_⟩
  · have := get_setCell_self (hm.get (h2.get h.cells (by simp)) hbv) 4 v'
    rw [List.setIfInBounds_toArray] at this
    exact this
  · have := row_mod ho hset (fun k hk' => by simpa using hvb k hk')
    rw [msgCells_append, List.length_append]
    simpa [msgCells] using this
  · exact ((h2.mono (by simp)).trans (hm.mono (fun x hx => .inl (List.mem_cons_of_mem _ hx)))).trans (hset.mono (by simp))
  · rcases hk k hk' with h1 | h1
    · exact .inl h1
    · exact .inr (by omega)

set_option maxRecDepth 20000 in
set_option maxHeartbeats 4000000 in
theorem refTake_bad (w : World) (b : Nat) (vL : Value) (s : NodeS) (L : List Msg) (m : Msg) (h : RefAt w b vL s L) (ho : NOk s) (he : LE s L) (hb : ¬ (0 ≤ s.round ∧ mayS s m = true)) :
    Calls Try.prog 23 #[.pointer (some ⟨b, 0, none⟩), .agg m.cells.toArray] w (RTPost w b vL L (takeS s m)) := by
  obtain ⟨kind, from_, round, val⟩ := m
  have HBAD := hid hb
  clear hb
  have hold := h.old
  have hnew := get_new w (.cells #[.int .i64 kind, .int .i64 from_, .int .i64 round, .string val] 59)
  have hma : Mod [] w (w.alloc (.cells #[.int .i64 kind, .int .i64 from_, .int .i64 round, .string val] 59)) := Mod.alloc (Mod.refl _ _) _
  have hn0 := ho.n0
  have hn1 := ho.n1
  have HOLD := hid hold
  have H := hid (And.intro (h.mod0 hma) (And.intro hnew hma))
  have HE := hid (And.intro ho he)
  clear h hnew hma hold ho he
  simp only [Msg.cells]
  go_enter Try.func23, Try.ntmps23
  go_wp2_with fail
  generalize (w.alloc (.cells #[.int .i64 kind, .int .i64 from_, .int .i64 round, .string val] 59)) = W1 at *
  obtain ⟨c0, -, -, -, c4, c5, -, -, -, -, hf⟩ := H.out.1.all
  have b0 : W1.cell? ⟨w.heap.size, 0, none⟩ = some (.int .i64 kind) := cell_at H.out.2.1 0
  have b1 : W1.cell? ⟨w.heap.size, 1, none⟩ = some (.int .i64 from_) := cell_at H.out.2.1 1
  have b2 : W1.cell? ⟨w.heap.size, 2, none⟩ = some (.int .i64 round) := cell_at H.out.2.1 2
  have b3 : W1.cell? ⟨w.heap.size, 3, none⟩ = some (.string val) := cell_at H.out.2.1 3
  by_cases h0 : s.round < 0
  · have hno := HBAD.out
    have d0 := decide_eq_true h0
    clear h0
    have ht := take_no hno; have HT := hid ht; clear ht hno; go_quiet (fail); go_wp2_with fail; go_ret; exact ⟨vL, L, _, rfl, by rw [HT.out]; exact H.out.1.mod0 ((Mod.refl _ _).drewN _), by rw [HT.out]; exact HE.out.2, by rw [HT.out]; exact RMsgs.nil _ _, (H.out.2.2.mono (by simp)).drewN _, fun _ h => .inl h, by omega⟩
  have d0 := decide_eq_false h0
  by_cases h1 : kind < 1
  · have hno := HBAD.out
    have d1 := decide_eq_true h1
    clear h0 h1
    have ht := take_no hno; have HT := hid ht; clear ht hno; go_quiet (fail); go_wp2_with fail; go_ret; exact ⟨vL, L, _, rfl, by rw [HT.out]; exact H.out.1.mod0 ((Mod.refl _ _).drewN _), by rw [HT.out]; exact HE.out.2, by rw [HT.out]; exact RMsgs.nil _ _, (H.out.2.2.mono (by simp)).drewN _, fun _ h => .inl h, by omega⟩
  have d1 := decide_eq_false h1
  by_cases h2 : 3 < kind
  · have hno := HBAD.out
    have d2 := decide_eq_true h2
    clear h0 h1 h2
    have ht := take_no hno; have HT := hid ht; clear ht hno; go_quiet (fail); go_wp2_with fail; go_ret; exact ⟨vL, L, _, rfl, by rw [HT.out]; exact H.out.1.mod0 ((Mod.refl _ _).drewN _), by rw [HT.out]; exact HE.out.2, by rw [HT.out]; exact RMsgs.nil _ _, (H.out.2.2.mono (by simp)).drewN _, fun _ h => .inl h, by omega⟩
  have d2 := decide_eq_false h2
  by_cases h3 : from_ < 1
  · have hno := HBAD.out
    have d3 := decide_eq_true h3
    clear h0 h1 h2 h3
    have ht := take_no hno; have HT := hid ht; clear ht hno; go_quiet (fail); go_wp2_with fail; go_ret; exact ⟨vL, L, _, rfl, by rw [HT.out]; exact H.out.1.mod0 ((Mod.refl _ _).drewN _), by rw [HT.out]; exact HE.out.2, by rw [HT.out]; exact RMsgs.nil _ _, (H.out.2.2.mono (by simp)).drewN _, fun _ h => .inl h, by omega⟩
  have d3 := decide_eq_false h3
  by_cases h4 : s.n < from_
  · have hno := HBAD.out
    have d4 := decide_eq_true h4
    clear h0 h1 h2 h3 h4
    have ht := take_no hno; have HT := hid ht; clear ht hno; go_quiet (fail); go_wp2_with fail; go_ret; exact ⟨vL, L, _, rfl, by rw [HT.out]; exact H.out.1.mod0 ((Mod.refl _ _).drewN _), by rw [HT.out]; exact HE.out.2, by rw [HT.out]; exact RMsgs.nil _ _, (H.out.2.2.mono (by simp)).drewN _, fun _ h => .inl h, by omega⟩
  have d4 := decide_eq_false h4
  by_cases h5 : round < 0
  · have hno := HBAD.out
    have d5 := decide_eq_true h5
    clear h0 h1 h2 h3 h4 h5
    have ht := take_no hno; have HT := hid ht; clear ht hno; go_quiet (fail); go_wp2_with fail; go_ret; exact ⟨vL, L, _, rfl, by rw [HT.out]; exact H.out.1.mod0 ((Mod.refl _ _).drewN _), by rw [HT.out]; exact HE.out.2, by rw [HT.out]; exact RMsgs.nil _ _, (H.out.2.2.mono (by simp)).drewN _, fun _ h => .inl h, by omega⟩
  have d5 := decide_eq_false h5
  by_cases h6 : 64 ≤ round
  · have hno := HBAD.out
    have d6 := decide_eq_true h6
    clear h0 h1 h2 h3 h4 h5 h6
    have ht := take_no hno; have HT := hid ht; clear ht hno; go_quiet (fail); go_wp2_with fail; go_ret; exact ⟨vL, L, _, rfl, by rw [HT.out]; exact H.out.1.mod0 ((Mod.refl _ _).drewN _), by rw [HT.out]; exact HE.out.2, by rw [HT.out]; exact RMsgs.nil _ _, (H.out.2.2.mono (by simp)).drewN _, fun _ h => .inl h, by omega⟩
  have d6 := decide_eq_false h6
  by_cases h7 : 4096 < (val.size : Int)
  · have hno := HBAD.out
    have d7 := decide_eq_true h7
    clear h0 h1 h2 h3 h4 h5 h6 h7
    have ht := take_no hno; have HT := hid ht; clear ht hno; go_quiet (fail); go_wp2_with fail; go_ret; exact ⟨vL, L, _, rfl, by rw [HT.out]; exact H.out.1.mod0 ((Mod.refl _ _).drewN _), by rw [HT.out]; exact HE.out.2, by rw [HT.out]; exact RMsgs.nil _ _, (H.out.2.2.mono (by simp)).drewN _, fun _ h => .inl h, by omega⟩
  have d7 := decide_eq_false h7
  by_cases h8 : val = ⟨#[]⟩ ∧ kind ≠ 2
  · have hno : ¬ (0 ≤ s.round ∧ mayS s ⟨kind, from_, round, val⟩ = true) := fun h => by
      have := (may_all h.2).2.2.2.2.2
      dsimp only at this
      rcases this with h9 | h9
      · exact h8.2 h9
      · exact h9.2 h8.1
    rw [h8.1] at b3
    have d9 : (kind == 2) = false := by simpa using h8.2
    clear h0 h1 h2 h3 h4 h5 h6 h7 h8 d7
    have ht := take_no hno; have HT := hid ht; clear ht hno; go_quiet (fail); go_wp2_with fail; go_ret; exact ⟨vL, L, _, rfl, by rw [HT.out]; exact H.out.1.mod0 ((Mod.refl _ _).drewN _), by rw [HT.out]; exact HE.out.2, by rw [HT.out]; exact RMsgs.nil _ _, (H.out.2.2.mono (by simp)).drewN _, fun _ h => .inl h, by omega⟩
  have h7' : val.size ≤ 4096 := by omega
  have d8 : decide (4096 < val.size) = false := decide_eq_false (by omega)
  have HB := hid (And.intro (show 0 ≤ s.round by omega) (And.intro (show 1 ≤ from_ by omega) (And.intro (show from_ ≤ s.n by omega) (And.intro (show 0 ≤ round by omega) (And.intro (show round < 64 by omega) (And.intro h7' h8))))))
  have HK := hid (And.intro (show 1 ≤ kind by omega) (show kind ≤ 3 by omega))
  clear h0 h1 h2 h3 h4 h5 h6 h7 h7' h8
  go_cut [61] (fun vv wx => vv = .bool false ∧ Mod [] W1 wx)
  case first =>
    by_cases hv : val = ⟨#[]⟩
    · have hk : kind = 2 := Classical.byContradiction fun h => HB.out.2.2.2.2.2.2 ⟨hv, h⟩
      rw [hv] at b3
      rw [hk] at b0 d1 d2
      clear hv hk d7 d8
      go_quiet (fail)
      go_wp2_with fail
      go_meet
      exact ⟨rfl, (Mod.refl _ _).drewN _⟩
    · obtain ⟨e1, e2⟩ := emp_false hv
      clear hv
      go_quiet (fail)
      go_wp2_with fail
      go_meet
      exact ⟨rfl, (Mod.refl _ _).drewN _⟩
  case rest =>
  obtain ⟨rfl, hM2⟩ := hcut
  have H2 := hid (And.intro (H.out.1.mod0 hM2) (And.intro (hM2.get H.out.2.1 (by simp)) (H.out.2.2.trans hM2)))
  clear c0 c4 c5 hf b0 b1 b2 b3 d0 d1 d2 d3 d4 d5 d6 d7 d8 hM2 H
  go_upto_region 3 with fail
  obtain ⟨xb, hxb⟩ : ∃ xb, xb = decide (kind = 1 ∧ from_ ≠ leaderS s round) := ⟨_, rfl⟩
  have HX := hid hxb
  clear hxb
  go_cut [77] (fun vv wx => vv = .bool xb ∧ RefAt wx b vL s L ∧ wx.heap[w.heap.size]? = some (.cells #[.int .i64 kind, .int .i64 from_, .int .i64 round, .string val] 59 (0, 0)) ∧ Mod [] w wx)
  case first =>
    obtain ⟨c0, -, -, -, -, -, -, -, -, -, -⟩ := H2.out.1.all
    have b0 : wc.cell? ⟨w.heap.size, 0, none⟩ = some (.int .i64 kind) := cell_at H2.out.2.1 0
    have b1 : wc.cell? ⟨w.heap.size, 1, none⟩ = some (.int .i64 from_) := cell_at H2.out.2.1 1
    have b2 : wc.cell? ⟨w.heap.size, 2, none⟩ = some (.int .i64 round) := cell_at H2.out.2.1 2
    by_cases k1 : kind = 1
    · obtain ⟨q, hq⟩ : ∃ q, q = round % s.n := ⟨_, rfl⟩
      have hr0 := HB.out.2.2.2.1
      have e1 : Int.tmod round s.n = q := by rw [hq]; exact Int.tmod_eq_emod_of_nonneg hr0
      have e2 : 0 ≤ q ∧ q < s.n := by rw [hq]; exact ⟨Int.emod_nonneg _ (by omega), Int.emod_lt_of_pos _ (by omega)⟩
      have e3 : IntKind.i64.wrap q = q := IntWalk.i64_in _ (by omega)
      have e4 : IntKind.i64.wrap (q + 1) = q + 1 := IntWalk.i64_in _ (by omega)
      have ne1 : (s.n == 0) = false := by rw [beq_eq_false_iff_ne]; omega
      have ne2 : ¬ s.n = 0 := by omega
      have hlead : leaderS s round = q + 1 := by unfold leaderS; rw [hq]
      rw [k1] at b0
      by_cases hl1 : from_ = q + 1
      · have hb : xb = false := by rw [HX.out, hlead]; simp [hl1]
        have HXB := hid hb
        rw [hl1] at b1
        clear hq hlead hl1 hb k1 hr0
        go_quiet (fail)
        go_wp2_with fail
        go_meet
        exact ⟨by rw [HXB.out], H2.out.1.mod0 ((Mod.refl _ _).drewN _), H2.out.2.1, H2.out.2.2.drewN _⟩
      · have hb : xb = true := by rw [HX.out, hlead]; simp [hl1, k1]
        have HXB := hid hb
        have hl2 : (from_ == q + 1) = false := by simpa using hl1
        clear hq hlead hb k1 hr0
        go_quiet (fail)
        go_wp2_with fail
        go_meet
        exact ⟨by rw [HXB.out]; simp [bne, hl2], H2.out.1.mod0 ((Mod.refl _ _).drewN _), H2.out.2.1, H2.out.2.2.drewN _⟩
    · have hb : xb = false := by rw [HX.out]; simp [k1]
      have HXB := hid hb
      have k1' : (kind == 1) = false := by simpa using k1
      clear hb
      go_quiet (fail)
      go_wp2_with fail
      go_meet
      exact ⟨by rw [HXB.out], H2.out.1.mod0 ((Mod.refl _ _).drewN _), H2.out.2.1, H2.out.2.2.drewN _⟩
  case rest =>
  obtain ⟨rfl, hR3, hB3, hM3⟩ := hcut
  cases xb with
  | true =>
    have hno : ¬ (0 ≤ s.round ∧ mayS s ⟨kind, from_, round, val⟩ = true) := fun h => by
      have h9 := (may_all h.2).2.2.2.2.2
      have hx : kind = 1 ∧ from_ ≠ leaderS s round := by simpa using HX.out.symm
      dsimp only at h9
      rcases h9 with h9 | ⟨⟨_, h9⟩ | h9, _⟩
      · omega
      · exact hx.2 h9
      · omega
    have ht := take_no hno
    have HT := hid ht
    have H3 := hid (And.intro hR3 hM3)
    clear ht hno hR3 hB3 hM3
    go_wp2_with fail
    go_ret
    exact ⟨vL, L, _, rfl, by rw [HT.out]; exact H3.out.1, by rw [HT.out]; exact HE.out.2, by rw [HT.out]; exact RMsgs.nil _ _, H3.out.2.mono (by simp), fun _ h => .inl h, by omega⟩
  | false =>
    have hmay : mayS s ⟨kind, from_, round, val⟩ = true := by
      obtain ⟨g0, g1, g2, g3, g4, g5, g6⟩ := HB.out
      have hx : ¬ (kind = 1 ∧ from_ ≠ leaderS s round) := by simpa using HX.out.symm
      refine may_of g1 g2 g3 g4 g5 ?_
      dsimp only
      have hk := HK.out
      by_cases k2 : kind = 2
      · exact .inl k2
      · refine .inr ⟨?_, fun hv => g6 ⟨hv, k2⟩⟩
        by_cases k1 : kind = 1
        · exact .inl ⟨k1, Classical.byContradiction fun h => hx ⟨k1, h⟩⟩
        · exact .inr (by omega)
    exact absurd ⟨HB.out.1, hmay⟩ HBAD.out
end Go.Proofs.Ytnpmjpdndhedgaa
