/-
  An agreement's node, walked: won. No statement of a claim stands here; each contract names what it asks.
-/
import Derived.Test.YtnpmjpdndhedgaaG5
import Derived.Test.YtnpmjpdndhedgaaRegG
set_option linter.unusedSimpArgs false
namespace Go.Proofs.Ytnpmjpdndhedgaa
open Go Go.RowKit Go.ChangeMaps

theorem lockS_hd (s : NodeS) (r : Int) (v : ByteArray) : (lockS s r v).hd = s.hd ∧ (lockS s r v).sent = s.sent ∧ (lockS s r v).round = s.round ∧ (lockS s r v).n = s.n ∧ (lockS s r v).t = s.t ∧ (lockS s r v).me = s.me ∧ (lockS s r v).input = s.input ∧ (lockS s r v).choice = s.choice ∧ (lockS s r v).done = s.done := by
  unfold lockS; split <;> simp
theorem wonS_len (s : NodeS) (r : Int) (v : ByteArray) : (wonS s r v).2.length ≤ 1 := by
  unfold wonS
  split
  · simp
  · split
    · simp
    · exact (sayS_same _ _ _).2


set_option maxHeartbeats 800000 in
theorem won_keep (w : World) (p : Loc) (s : NodeS) (r : Int) (v : ByteArray) (h : NodeAt w p s) (ho : NOk s) (_ : 0 ≤ r) (_ : r ≤ 63) :
    Calls Try.prog 31 #[.pointer (some ⟨p.x, 0, none⟩), .int .i64 r, .string v] w (KeepPost w p (wonS s r v)) := by
  obtain ⟨c0, c1, c2, c3, c4, c5, c6, c7, c8, -, -, hfz⟩ := h.all
  have H := hid h
  have HO := hid ho
  have hnt : IntKind.i64.wrap (s.n - s.t) = s.n - s.t := IntWalk.i64_in _ (by have := ho.n0; have := ho.n1; have := ho.t0; have := ho.t1; omega)
  have hmany := fun W' (hm : Mod [] w W') => many_any W' p.bh p.lh s.hd (2, r) v (h.heard.mod0 hm) (ho.vok _) (ho.few _)
  have HMANY := hid hmany
  clear h ho hmany
  by_cases hv : v = ⟨#[]⟩
  · subst hv
    have hw : wonS s r ⟨#[]⟩ = (s, []) := by simp [wonS]
    have HW := hid hw
    clear hw
    go_enter Try.func31, Try.ntmps31
    go_wp2_with fail
    go_quiet (fail)
    go_wp2_with fail
    go_ret
    exact ⟨p, _, rfl, by rw [HW.out]; exact H.out.mod0 ((Mod.refl _ _).drewN _), by rw [HW.out]; exact MsgsAt.nil _ _, (Mod.refl _ _).drewN _, Next.refl _ _, rfl⟩
  · have e1 : v.toList.isEmpty = false := by
      cases hh : v.toList with
      | nil => exact absurd ((emp_iff v).1 (by simp [hh])) hv
      | cons => rfl
    have e2 : (v.toList == []) = false := by
      rw [← e1]
      cases v.toList <;> rfl
    have hcnt : (cnt (s.hd (2, r)) v : Int) ≤ 16 := by have := cnt_le (s.hd (2, r)) v; have := HO.out.few (2, r); omega
    obtain ⟨cb, hcb⟩ : ∃ cb, decide ((cnt (s.hd (2, r)) v : Int) < s.n - s.t) = cb := ⟨_, rfl⟩
    obtain ⟨C, hC⟩ : ∃ C : Int, C = (cnt (s.hd (2, r)) v : Int) := ⟨_, rfl⟩
    have hw : wonS s r v = if (cnt (s.hd (2, r)) v : Int) < s.n - s.t then (s, []) else if s.round ≠ r then (lockS s r v, []) else sayS (lockS s r v) 3 v := by
      unfold wonS
      simp [hv]
    have HW := hid hw
    rw [← hC] at hcb HMANY HW hcnt
    have HV := hid hv
    clear hw hC hv
    go_enter Try.func31, Try.ntmps31
    go_wp2_with fail
    refine wp_region_N (fun w' => w'.cell? ⟨p.x, 0, none⟩ = some (.int .i64 s.n) ∧ w'.cell? ⟨p.x, 1, none⟩ = some (.int .i64 s.t) ∧ w'.cell? ⟨p.x, 5, none⟩ = some (.map (some p.bh))) (fun _ => true) (by kernel_rfl) ?_
    have hS : w.drew.cell? ⟨p.x, 0, none⟩ = some (.int .i64 s.n) ∧ w.drew.cell? ⟨p.x, 1, none⟩ = some (.int .i64 s.t) ∧ w.drew.cell? ⟨p.x, 5, none⟩ = some (.map (some p.bh)) := ⟨c0, c1, c5⟩
    refine regA 0 7 (v := ?_) rfl rfl (by kernel_rfl) (by kernel_rfl) (by kernel_rfl) (fun _ _ _ h => h) (by rfl) (fun w => ?_) ?_; rotate_left; (go_simp; first | done | with_reducible rfl); (try simp only [Act.put, List.setIfInBounds_toArray, List.set_cons_zero, List.set_cons_succ])
    refine regA 1 8 (v := ?_) rfl rfl (by kernel_rfl) (by kernel_rfl) (by kernel_rfl) (fun _ _ _ h => h) (by rfl) (fun w => ?_) ?_; rotate_left; (go_simp; first | done | with_reducible rfl); (try simp only [Act.put, List.setIfInBounds_toArray, List.set_cons_zero, List.set_cons_succ])
    refine regA 2 9 (v := ?_) rfl rfl (by kernel_rfl) (by kernel_rfl) (by kernel_rfl) (fun _ _ _ h => h) (by rfl) (fun w => ?_) ?_; rotate_left; (go_simp; first | done | with_reducible rfl); (try simp only [Act.put, List.setIfInBounds_toArray, List.set_cons_zero, List.set_cons_succ])
    refine regA 3 10 (v := ?_) rfl rfl (by kernel_rfl) (by kernel_rfl) (by kernel_rfl) (fun _ _ _ h => h) (by rfl) (fun w => ?_) ?_; rotate_left; (go_simp; first | done | with_reducible rfl); (try simp only [Act.put, List.setIfInBounds_toArray, List.set_cons_zero, List.set_cons_succ])
    refine regA 4 11 (v := ?_) rfl rfl (by kernel_rfl) (by kernel_rfl) (by kernel_rfl) (fun _ _ _ h => h) (by rfl) (fun w => ?_) ?_; rotate_left; (go_simp; first | done | with_reducible rfl); (try simp only [Act.put, List.setIfInBounds_toArray, List.set_cons_zero, List.set_cons_succ])
    refine regA 5 12 (v := ?_) rfl rfl (by kernel_rfl) (by kernel_rfl) (by kernel_rfl) (fun _ _ _ h => h) (by rfl) (fun w => ?_) ?_; rotate_left; (go_simp; first | done | with_reducible rfl); (try simp only [Act.put, List.setIfInBounds_toArray, List.set_cons_zero, List.set_cons_succ])
    refine regS 6 13 (v := ?_) hS rfl rfl (by kernel_rfl) (by kernel_rfl) (by kernel_rfl) (by kernel_rfl) (fun _ _ _ h => h) (by rfl) (fun w hSw => ?_) ?_; rotate_left; (go_simp; first | done | with_reducible rfl); (try simp only [Act.put, List.setIfInBounds_toArray, List.set_cons_zero, List.set_cons_succ])
    refine regA 7 14 (v := ?_) rfl rfl (by kernel_rfl) (by kernel_rfl) (by kernel_rfl) (fun _ _ _ h => h) (by rfl) (fun w => ?_) ?_; rotate_left; (go_simp; first | done | with_reducible rfl); (try simp only [Act.put, List.setIfInBounds_toArray, List.set_cons_zero, List.set_cons_succ])
    refine regA 8 15 (v := ?_) rfl rfl (by kernel_rfl) (by kernel_rfl) (by kernel_rfl) (fun _ _ _ h => h) (by rfl) (fun w => ?_) ?_; rotate_left; (go_simp; first | done | with_reducible rfl); (try simp only [Act.put, List.setIfInBounds_toArray, List.set_cons_zero, List.set_cons_succ])
    refine regA 9 16 (v := ?_) rfl rfl (by kernel_rfl) (by kernel_rfl) (by kernel_rfl) (fun _ _ _ h => h) (by rfl) (fun w => ?_) ?_; rotate_left; (go_simp; first | done | with_reducible rfl); (try simp only [Act.put, List.setIfInBounds_toArray, List.set_cons_zero, List.set_cons_succ])
    refine regA 11 18 (v := ?_) rfl rfl (by kernel_rfl) (by kernel_rfl) (by kernel_rfl) (fun _ _ _ h => h) (by rfl) (fun w => ?_) ?_; rotate_left; (go_simp; first | done | with_reducible rfl); (try simp only [Act.put, List.setIfInBounds_toArray, List.set_cons_zero, List.set_cons_succ])
    refine regA 12 19 (v := ?_) rfl rfl (by kernel_rfl) (by kernel_rfl) (by kernel_rfl) (fun _ _ _ h => h) (by rfl) (fun w => ?_) ?_; rotate_left; (go_simp; first | done | with_reducible rfl); (try simp only [Act.put, List.setIfInBounds_toArray, List.set_cons_zero, List.set_cons_succ])
    refine regA 13 20 (v := ?_) rfl rfl (by kernel_rfl) (by kernel_rfl) (by kernel_rfl) (fun _ _ _ h => h) (by rfl) (fun w => ?_) ?_; rotate_left; (go_simp; first | done | with_reducible rfl); (try simp only [Act.put, List.setIfInBounds_toArray, List.set_cons_zero, List.set_cons_succ])
    refine regS 14 21 (v := ?_) hS rfl rfl (by kernel_rfl) (by kernel_rfl) (by kernel_rfl) (by kernel_rfl) (fun _ _ _ h => h) (by rfl) (fun w hSw => ?_) ?_; rotate_left; (go_simp; first | done | with_reducible rfl); (try simp only [Act.put, List.setIfInBounds_toArray, List.set_cons_zero, List.set_cons_succ])
    refine regA 15 22 (v := ?_) rfl rfl (by kernel_rfl) (by kernel_rfl) (by kernel_rfl) (fun _ _ _ h => h) (by rfl) (fun w => ?_) ?_; rotate_left; (go_simp; first | done | with_reducible rfl); (try simp only [Act.put, List.setIfInBounds_toArray, List.set_cons_zero, List.set_cons_succ])
    refine regA 16 23 (v := ?_) rfl rfl (by kernel_rfl) (by kernel_rfl) (by kernel_rfl) (fun _ _ _ h => h) (by rfl) (fun w => ?_) ?_; rotate_left; (go_simp; first | done | with_reducible rfl); (try simp only [Act.put, List.setIfInBounds_toArray, List.set_cons_zero, List.set_cons_succ])
    refine regA 17 24 (v := ?_) rfl rfl (by kernel_rfl) (by kernel_rfl) (by kernel_rfl) (fun _ _ _ h => h) (by rfl) (fun w => ?_) ?_; rotate_left; (go_simp; first | done | with_reducible rfl); (try simp only [Act.put, List.setIfInBounds_toArray, List.set_cons_zero, List.set_cons_succ])
    refine regS 18 25 (v := ?_) hS rfl rfl (by kernel_rfl) (by kernel_rfl) (by kernel_rfl) (by kernel_rfl) (fun _ _ _ h => h) (by rfl) (fun w hSw => ?_) ?_; rotate_left; (go_simp; first | done | with_reducible rfl); (try simp only [Act.put, List.setIfInBounds_toArray, List.set_cons_zero, List.set_cons_succ])
    refine regA 19 26 (v := ?_) rfl rfl (by kernel_rfl) (by kernel_rfl) (by kernel_rfl) (fun _ _ _ h => h) (by rfl) (fun w => ?_) ?_; rotate_left; (go_simp; first | done | with_reducible rfl); (try simp only [Act.put, List.setIfInBounds_toArray, List.set_cons_zero, List.set_cons_succ])
    refine regOnlyG 10 (by kernel_rfl) rfl (by rfl) (fun K hK => ?_)
    go_wp2_with (first
      | (go_at_call 39; refine (HMANY.out _ (Mod.refl [] w).drew).mono ?_; rintro e W ⟨rfl, hm⟩; have HM := hid ((Mod.refl [] w).drew.trans hm); clear hm))
    refine hK.out _ _ (fun _ hS => ⟨HM.out.cell hS.1 (by simp), HM.out.cell hS.2.1 (by simp), HM.out.cell hS.2.2 (by simp)⟩) ?_
    clear hK
    (try simp only [Act.put, List.setIfInBounds_toArray, List.set_cons_zero, List.set_cons_succ])
    refine regA 20 27 (v := ?_) rfl rfl (by kernel_rfl) (by kernel_rfl) (by kernel_rfl) (fun _ _ _ h => h) (by rfl) (fun w => ?_) ?_; rotate_left; (go_simp; first | done | with_reducible rfl); (try simp only [Act.put, List.setIfInBounds_toArray, List.set_cons_zero, List.set_cons_succ])
    refine regA 21 28 (v := ?_) rfl rfl (by kernel_rfl) (by kernel_rfl) (by kernel_rfl) (fun _ _ _ h => h) (by rfl) (fun w => ?_) ?_; rotate_left; (go_simp; first | done | with_reducible rfl); (try simp only [Act.put, List.setIfInBounds_toArray, List.set_cons_zero, List.set_cons_succ])
    refine regDone (by kernel_rfl) ?_ _
    have HW0 := hid (H.out.mod0 HM.out)
    clear hS HMANY
    cases cb with
    | true =>
      have hlt : C < s.n - s.t := by simpa using hcb
      have hw : wonS s r v = (s, []) := by rw [HW.out, if_pos hlt]
      have HW2 := hid hw
      clear hw hlt HW
      go_wp2_with fail
      go_ret
      exact ⟨p, _, rfl, by rw [HW2.out]; exact HW0.out, by rw [HW2.out]; exact MsgsAt.nil _ _, HM.out.mono (by simp), Next.refl _ _, rfl⟩
    | false =>
      have hlt : ¬ C < s.n - s.t := by simpa using hcb
      have hw : wonS s r v = if s.round ≠ r then (lockS s r v, []) else sayS (lockS s r v) 3 v := by rw [HW.out, if_neg hlt]
      have HW2 := hid hw
      clear hw hlt HW
      obtain ⟨d0, d1, d2, d3, d4, d5, d6, d7, d8, -, -, hfz2⟩ := HW0.out.all
      obtain ⟨lb, hlb⟩ : ∃ lb, decide (s.lr < r) = lb := ⟨_, rfl⟩
      clear c0 c1 c2 c3 c4 c5 c6 c7 c8 hfz
      have hmod : Mod [p.x, p.bs] w W := HM.out.mono (by simp)
      have HMOD := hid hmod
      clear hmod hcb HM
      go_upto_if 35 with fail
      go_cut [0, 1, 2] (fun a b c wx => a = .pointer (some ⟨p.x, 0, none⟩) ∧ b = .int .i64 r ∧ c = .string v ∧ NodeAt wx p (lockS s r v) ∧ Mod [p.x, p.bs] w wx)
      case first =>
        cases lb with
        | false =>
          have hl : lockS s r v = s := by unfold lockS; rw [if_neg (by simpa using hlb)]
          have HL := hid hl
          clear hl hlb
          go_wp2_with fail
          go_meet
          exact ⟨rfl, rfl, rfl, by rw [HL.out]; exact HW0.out, HMOD.out⟩
        | true =>
          have hl : lockS s r v = { s with lv := v, lr := r } := by unfold lockS; rw [if_pos (by simpa using hlb)]
          have HL := hid hl
          clear hl hlb
          go_wp2_with fail
          go_meet
          refine ⟨rfl, rfl, rfl, ?_, ?_⟩
          · rw [HL.out]
            exact (HW0.out.set 6 (.string v) { s with lv := v } rfl rfl rfl).set 7 (.int .i64 r) { s with lv := v, lr := r } rfl rfl rfl
          · exact (HMOD.out.setCell (by simp) _).setCell (by simp) _
      case rest =>
        obtain ⟨rfl, rfl, rfl, hN, hmod⟩ := hcut
        clear hlb d0 d1 d2 d3 d4 d5 d6 d7 d8 hfz2 HW0 HMOD
        have k4 := hN.all.2.2.2.2.1
        rw [(lockS_hd s r v).2.2.1] at k4
        have hsay := say_keep wc p (lockS s r v) 3 v hN
        have HN := hid (And.intro hN hmod)
        have HSAY := hid hsay
        clear hN hmod hsay
        by_cases hrr : s.round = r
        · have hw : wonS s r v = sayS (lockS s r v) 3 v := by rw [HW2.out, if_neg (by simpa using hrr)]
          have HW3 := hid hw
          clear hw HW2
          go_wp2_with (first
            | (go_at_call 37; refine HSAY.out.mono ?_; rintro e w2 ⟨p2, v2, rfl, hn2, hm2, hmod2, hnx2, hlh2⟩; have HA := hid (And.intro hn2 (And.intro hm2 (And.intro hmod2 (And.intro hnx2 hlh2)))); clear hn2 hm2 hmod2 hnx2 hlh2))
          go_ret
          refine ⟨p2, _, rfl, by rw [HW3.out]; exact HA.out.1, by rw [HW3.out]; exact HA.out.2.1.lower HN.out.2.size, HN.out.2.trans HA.out.2.2.1, Next.trans (Next.refl w p) HA.out.2.2.2.1 HN.out.2.size, HA.out.2.2.2.2⟩
        · have hw : wonS s r v = (lockS s r v, []) := by rw [HW2.out, if_pos hrr]
          have HW3 := hid hw
          clear hw HW2
          go_wp2_with fail
          go_ret
          exact ⟨p, _, rfl, by rw [HW3.out]; exact HN.out.1, by rw [HW3.out]; exact MsgsAt.nil _ _, HN.out.2, Next.refl _ _, rfl⟩
theorem won_any (w : World) (p : Loc) (s : NodeS) (r : Int) (v : ByteArray) (h : NodeAt w p s) (ho : NOk s) (hr : 0 ≤ r) (hr2 : r ≤ 63) :
    Calls Try.prog 31 #[.pointer (some ⟨p.x, 0, none⟩), .int .i64 r, .string v] w (StepPost w p (wonS s r v)) :=
  (won_keep w p s r v h ho hr hr2).mono fun _ _ h => h.step
end Go.Proofs.Ytnpmjpdndhedgaa
