/-
  An agreement's node, walked: may, Take. No statement of a claim stands here; each contract names what it asks.
-/
import Derived.Test.YtnpmjpdndhedgaaG6
set_option linter.unusedSimpArgs false
namespace Go.Proofs.Ytnpmjpdndhedgaa
open Go Go.RowKit Go.ChangeMaps

/-- What 'may' answers, by its kinds. -/
def mayO (s : NodeS) (m : Msg) : Bool := decide (1 ≤ m.from_) && decide (m.from_ ≤ s.n) && decide (0 ≤ m.round) && decide (m.round < 64) && decide (m.val.size ≤ 4096)


set_option maxHeartbeats 1600000 in
theorem may_any (w : World) (p : Loc) (s : NodeS) (m : Msg) (h : NodeAt w p s) (ho : NOk s) :
    Calls Try.prog 33 #[.pointer (some ⟨p.x, 0, none⟩), .agg m.cells.toArray] w (fun e w' => e = .returned (.bool (mayS s m)) ∧ Mod [] w w') := by
  obtain ⟨kind, from_, round, val⟩ := m
  have hnew := get_new w (.cells #[.int .i64 kind, .int .i64 from_, .int .i64 round, .string val] 39)
  have hma : Mod [] w (w.alloc (.cells #[.int .i64 kind, .int .i64 from_, .int .i64 round, .string val] 39)) := Mod.alloc (Mod.refl _ _) _
  have H := hid h
  have HN := hid (And.intro hnew hma)
  have HO := hid ho
  clear h hnew hma ho
  simp only [Msg.cells]
  go_enter Try.func33, Try.ntmps33
  go_wp2_with fail
  generalize (w.alloc (.cells #[.int .i64 kind, .int .i64 from_, .int .i64 round, .string val] 39)) = W1 at *
  have b0 : W1.cell? ⟨w.heap.size, 0, none⟩ = some (.int .i64 kind) := cell_at HN.out.1 0
  have b1 : W1.cell? ⟨w.heap.size, 1, none⟩ = some (.int .i64 from_) := cell_at HN.out.1 1
  have b2 : W1.cell? ⟨w.heap.size, 2, none⟩ = some (.int .i64 round) := cell_at HN.out.1 2
  have b3 : W1.cell? ⟨w.heap.size, 3, none⟩ = some (.string val) := cell_at HN.out.1 3
  have hW := H.out.mod0 HN.out.2
  obtain ⟨c0, c1, c2, c3, c4, c5, c6, c7, c8, -, -, hfz⟩ := hW.all
  have HW := hid hW
  clear hW
  by_cases h1 : from_ < 1
  · have hm : mayS s ⟨kind, from_, round, val⟩ = false := by simp [mayS]; omega
    have d1 := decide_eq_true h1
    clear h1
    have HM := hid hm; clear hm; go_quiet (fail); go_wp2_with fail; go_ret; refine ⟨?_, HN.out.2.drewN _⟩; rw [HM.out]; rfl
  have d1 := decide_eq_false h1
  by_cases h2 : s.n < from_
  · have hm : mayS s ⟨kind, from_, round, val⟩ = false := by simp [mayS]; omega
    have d2 := decide_eq_true h2
    clear h1 h2
    have HM := hid hm; clear hm; go_quiet (fail); go_wp2_with fail; go_ret; refine ⟨?_, HN.out.2.drewN _⟩; rw [HM.out]; rfl
  have d2 := decide_eq_false h2
  by_cases h3 : round < 0
  · have hm : mayS s ⟨kind, from_, round, val⟩ = false := by simp [mayS]; omega
    have d3 := decide_eq_true h3
    clear h1 h2 h3
    have HM := hid hm; clear hm; go_quiet (fail); go_wp2_with fail; go_ret; refine ⟨?_, HN.out.2.drewN _⟩; rw [HM.out]; rfl
  have d3 := decide_eq_false h3
  by_cases h4 : 64 ≤ round
  · have hm : mayS s ⟨kind, from_, round, val⟩ = false := by simp [mayS]; omega
    have d4 := decide_eq_true h4
    clear h1 h2 h3 h4
    have HM := hid hm; clear hm; go_quiet (fail); go_wp2_with fail; go_ret; refine ⟨?_, HN.out.2.drewN _⟩; rw [HM.out]; rfl
  have d4 := decide_eq_false h4
  by_cases h5 : 4096 < (val.size : Int)
  · have hm : mayS s ⟨kind, from_, round, val⟩ = false := by simp [mayS]; omega
    have d5 := decide_eq_true h5
    clear h1 h2 h3 h4 h5
    have HM := hid hm; clear hm; go_quiet (fail); go_wp2_with fail; go_ret; refine ⟨?_, HN.out.2.drewN _⟩; rw [HM.out]; rfl
  have d5 := decide_eq_false h5
  have hlr : (Int.tmod round s.n + 1) = leaderS s round := by
    unfold leaderS
    rw [Int.tmod_eq_emod_of_nonneg (by omega)]
  have hm : mayS s ⟨kind, from_, round, val⟩ = (decide (kind = 2) || ((decide (kind = 1) && decide (from_ = leaderS s round) || decide (kind = 3)) && decide (val ≠ ⟨#[]⟩))) := by
    unfold mayS
    simp only []
    rw [decide_eq_true (show 1 ≤ from_ by omega), decide_eq_true (show from_ ≤ s.n by omega), decide_eq_true (show 0 ≤ round by omega), decide_eq_true (show round < 64 by omega), decide_eq_true (show val.size ≤ 4096 by omega)]
    rfl
  have HM := hid hm
  clear hm h5
  have hr0 : 0 ≤ round := by omega
  have hr1 : round ≤ 63 := by omega
  clear h1 h2 h3 h4
  by_cases k2 : kind = 2
  · subst k2
    have hb : mayS s ⟨2, from_, round, val⟩ = true := by rw [HM.out]; rfl
    have HB := hid hb
    clear hb HM
    go_quiet (fail)
    go_wp2_with fail; go_ret; refine ⟨?_, HN.out.2.drewN _⟩; rw [HB.out]; rfl
  have e2 : (kind == 2) = false := by simpa using k2
  by_cases k3 : kind = 3
  · subst k3
    have hb : mayS s ⟨3, from_, round, val⟩ = !val.toList.isEmpty := by
      rw [HM.out]
      by_cases hv : val = ⟨#[]⟩
      · subst hv; simp
      · have : val.toList.isEmpty = false := by
          cases hh : val.toList.isEmpty with
          | true => exact absurd ((emp_iff val).1 (by simpa using hh)) hv
          | false => rfl
        simp [hv, this]
    have HB := hid hb
    clear hb HM e2 k2
    go_quiet (fail)
    go_wp2_with fail; go_ret; refine ⟨?_, HN.out.2.drewN _⟩; rw [HB.out]; rfl
  have e3 : (kind == 3) = false := by simpa using k3
  by_cases k1 : kind = 1
  · subst k1
    by_cases hl : from_ = round % s.n + 1
    · have hb : mayS s ⟨1, from_, round, val⟩ = !val.toList.isEmpty := by
        rw [HM.out]
        have : decide (from_ = leaderS s round) = true := decide_eq_true hl
        rw [this]
        by_cases hv : val = ⟨#[]⟩
        · subst hv; simp
        · have : val.toList.isEmpty = false := by
            cases hh : val.toList.isEmpty with
            | true => exact absurd ((emp_iff val).1 (by simpa using hh)) hv
            | false => rfl
          simp [hv, this]
      have e5 : (from_ == round % s.n + 1) = true := by simpa using hl
      have HB := hid hb
      clear hb HM e2 k2 e3 k3 hl
      go_quiet (fail)
      go_wp2_with fail
      obtain ⟨W2, hW2⟩ : ∃ W2, W2 = W1.drewN nq := ⟨_, rfl⟩; have f0 : W2.cell? ⟨p.x, 0, none⟩ = some (.int .i64 s.n) := by rw [hW2]; exact c0
      have f1 : W2.cell? ⟨w.heap.size, 1, none⟩ = some (.int .i64 from_) := by rw [hW2]; exact b1
      have f2 : W2.cell? ⟨w.heap.size, 2, none⟩ = some (.int .i64 round) := by rw [hW2]; exact b2
      have f3 : W2.cell? ⟨w.heap.size, 3, none⟩ = some (.string val) := by rw [hW2]; exact b3
      have HN2 := hid (show Mod [] w W2 by rw [hW2]; exact HN.out.2.drewN _); rw [← hW2]; clear hW2
      go_quiet ((go_at_call 36; exact Calls.quiet_of_same (leader_any _ _ _ _ (HO.out.n0) (HO.out.n1) hr0 hr1 (by go_simp))))
      go_wp2_with fail; go_ret; refine ⟨?_, HN2.out.drewN _⟩; rw [HB.out]; rfl
    · have hb : mayS s ⟨1, from_, round, val⟩ = false := by
        rw [HM.out]
        have : decide (from_ = leaderS s round) = false := decide_eq_false hl
        rw [this]
        rfl
      have e5 : (from_ == round % s.n + 1) = false := by simpa using hl
      have HB := hid hb
      clear hb HM e2 k2 e3 k3 hl
      go_quiet (fail)
      go_wp2_with fail
      obtain ⟨W2, hW2⟩ : ∃ W2, W2 = W1.drewN nq := ⟨_, rfl⟩; have f0 : W2.cell? ⟨p.x, 0, none⟩ = some (.int .i64 s.n) := by rw [hW2]; exact c0
      have f1 : W2.cell? ⟨w.heap.size, 1, none⟩ = some (.int .i64 from_) := by rw [hW2]; exact b1
      have f2 : W2.cell? ⟨w.heap.size, 2, none⟩ = some (.int .i64 round) := by rw [hW2]; exact b2
      have f3 : W2.cell? ⟨w.heap.size, 3, none⟩ = some (.string val) := by rw [hW2]; exact b3
      have HN2 := hid (show Mod [] w W2 by rw [hW2]; exact HN.out.2.drewN _); rw [← hW2]; clear hW2
      go_quiet ((go_at_call 36; exact Calls.quiet_of_same (leader_any _ _ _ _ (HO.out.n0) (HO.out.n1) hr0 hr1 (by go_simp))))
      go_wp2_with fail; go_ret; refine ⟨?_, HN2.out.drewN _⟩; rw [HB.out]; rfl
  have e1 : (kind == 1) = false := by simpa using k1
  have hb : mayS s ⟨kind, from_, round, val⟩ = false := by rw [HM.out]; simp [k1, k2, k3]
  have HB := hid hb
  clear hb HM k1 k2 k3
  go_quiet (fail)
  go_wp2_with fail; go_ret; refine ⟨?_, HN.out.2.drewN _⟩; rw [HB.out]; rfl
end Go.Proofs.Ytnpmjpdndhedgaa
