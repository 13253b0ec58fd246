/-
  An agreement's node, walked: here. No statement of a claim stands here; each contract names what it asks.
-/
import Derived.Test.YtnpmjpdndhedgaaG4
set_option linter.unusedSimpArgs false
namespace Go.Proofs.Ytnpmjpdndhedgaa
open Go Go.RowKit Go.ChangeMaps

theorem emp_iff (v : ByteArray) : v.toList = [] ↔ v = ⟨#[]⟩ := by
  rw [ByteArray.toList_eq]
  constructor
  · intro h
    cases v with
    | mk d => simp at h; rw [h]
  · rintro rfl; rfl

/-- What say leaves, said of any state. -/
theorem sayS_same (s : NodeS) (k : Int) (v : ByteArray) : (sayS s k v).1 = { s with sent := (sayS s k v).1.sent } ∧ (sayS s k v).2.length ≤ 1 := by
  unfold sayS; split <;> simp
theorem propS_same (s : NodeS) : (propS s).1 = { s with sent := (propS s).1.sent } ∧ (propS s).2.length ≤ 1 := by
  unfold propS; split
  · exact sayS_same _ _ _
  · simp
theorem voteS_same (s : NodeS) : (voteS s).1 = { s with sent := (voteS s).1.sent } ∧ (voteS s).2.length ≤ 1 := by
  unfold voteS; split
  · exact sayS_same _ _ _
  · simp
theorem hereS_same (s : NodeS) : (hereS s).1 = { s with sent := (hereS s).1.sent } ∧ (hereS s).2.length ≤ 2 := by
  have h1 := propS_same s
  have h2 := voteS_same (propS s).1
  unfold hereS
  refine ⟨?_, by simp; omega⟩
  dsimp only
  rw [h2.1]
  dsimp only
  rw [h1.1]

def voteO (s : NodeS) : Option ByteArray → NodeS × List Msg
  | some v => sayS s 2 (if 0 ≤ s.lr ∧ s.lv ≠ v then ⟨#[]⟩ else v)
  | none => (s, [])
theorem voteS_of (s : NodeS) {ov : Option ByteArray} (h : ov = look (s.hd (1, s.round)) (leaderS s s.round)) : voteS s = voteO s ov := by
  subst h; unfold voteS voteO; split <;> simp_all

def lkV (o : Option ByteArray) : Value := .tuple #[.string (o.getD ByteArray.empty), .bool o.isSome]
theorem inner_look (w : World) (bh : Nat) (lh : Heard) (hd : Seat → Votes) (k : Seat) (r : Int) (h : HdAt w bh lh hd) : (Instr.lookup 79 (.map (look lh k)) (.int .i64 r) true).run Try.prog w = .ok (lkV (look (hd k) r)) w := by
  rcases h.find k with ⟨h1, h2⟩ | ⟨b, h1, h2, -⟩
  · rw [h1, h2]
    exact run_look_nil kInt Try.underlying79 (zStr w) r true
  · rw [h1]
    cases hk : look (hd k) r with
    | none => exact run_look_no kInt Try.underlying79 (zStr w) h2 r hk
    | some v => exact run_look_ok kInt Try.underlying79 h2 r hk


set_option maxRecDepth 20000 in
set_option maxHeartbeats 4000000 in
theorem here_any (w : World) (p : Loc) (s : NodeS) (h : NodeAt w p s) (ho : NOk s) (hr : 0 ≤ s.round) :
    Calls Try.prog 29 #[.pointer (some ⟨p.x, 0, none⟩)] w (StepPost w p (hereS s)) := by
  have c := h.all
  obtain ⟨c0, c1, c2, c3, c4, c5, c6, c7, c8, -, -, -⟩ := c
  have H := hid h
  have HO := hid ho
  clear h ho
  obtain ⟨lb, hlb⟩ : ∃ lb, decide (0 ≤ s.lr) = lb := ⟨_, rfl⟩
  obtain ⟨pb, hpb⟩ : ∃ pb, (s.round % s.n + 1 == s.me) = pb := ⟨_, rfl⟩
  go_enter Try.func29, Try.ntmps29
  go_wp2_with fail
  go_quiet ((go_at_call 36; exact Calls.quiet_of_same (leader_any _ _ _ _ (HO.out.n0) (HO.out.n1) hr (HO.out.r1) (by go_simp))))
  have HPB := hid hpb
  clear hpb
  go_upto_if 24 with fail
  go_cut [3] (fun ov wx => ∃ p1, NodeAt wx p1 (propS s).1 ∧ MsgsAt w.heap.size wx ov (propS s).2 ∧ Mod p.foot w wx ∧ Next w p p1)
  case first =>
    cases pb with
    | false =>
      have hp : propS s = (s, []) := by
        have := HPB.out
        unfold propS leaderS
        rw [if_neg (by simpa using this)]
      have HP := hid hp
      clear HPB hp
      go_wp2_with fail
      go_meet
      exact ⟨p, by rw [HP.out]; exact H.out.mod0 (Mod.drewN (Mod.refl _ _) _), by rw [HP.out]; exact MsgsAt.nil _ _, (Mod.refl _ _).drewN _, Next.refl _ _⟩
    | true =>
      have hp : propS s = sayS s 1 (if 0 ≤ s.lr then s.lv else s.input) := by
        have := HPB.out
        unfold propS leaderS
        rw [if_pos (by simpa using this)]
      have HP := hid hp
      have hsay := fun v => say_any (w.drewN nq) p s 1 v (H.out.mod0 (Mod.drewN (Mod.refl _ _) _))
      have HSAY := hid hsay
      clear HPB hp hsay
      cases lb with
      | true =>
        have hl : 0 ≤ s.lr := by simpa using hlb
        rw [if_pos hl] at HP
        clear hl
        go_wp2_with (first
          | (go_at_call 37; refine (HSAY.out _).mono ?_; rintro e w1 ⟨p1, v1, rfl, hn1, hm1, hmod1, hnx1⟩; obtain ⟨a1, k1, rfl⟩ := row_slice hm1.row; have H1 := hid (And.intro hn1 (And.intro hm1 (And.intro hmod1 hnx1))); clear hn1 hm1 hmod1 hnx1))
        go_meet
        rw [HP.out]
        exact ⟨p1, H1.out.1, H1.out.2.1, ((Mod.refl _ _).drewN nq).trans H1.out.2.2.1, (Next.refl w p).trans H1.out.2.2.2 (Nat.le_refl _)⟩
      | false =>
        have hl : ¬ 0 ≤ s.lr := by simpa using hlb
        rw [if_neg hl] at HP
        clear hl
        go_wp2_with (first
          | (go_at_call 37; refine (HSAY.out _).mono ?_; rintro e w1 ⟨p1, v1, rfl, hn1, hm1, hmod1, hnx1⟩; obtain ⟨a1, k1, rfl⟩ := row_slice hm1.row; have H1 := hid (And.intro hn1 (And.intro hm1 (And.intro hmod1 hnx1))); clear hn1 hm1 hmod1 hnx1))
        go_meet
        rw [HP.out]
        exact ⟨p1, H1.out.1, H1.out.2.1, ((Mod.refl _ _).drewN nq).trans H1.out.2.2.1, (Next.refl w p).trans H1.out.2.2.2 (Nat.le_refl _)⟩
  case rest =>
    obtain ⟨p1, hn1, hm1, hmod1, hnx1⟩ := hcut
    clear c0 c1 c2 c3 c4 c5 c6 c7 c8 HPB
    obtain ⟨a1, k1, rfl⟩ := row_slice hm1.row
    have hsm := propS_same s
    have hhere : hereS s = ((voteS (propS s).1).1, (propS s).2 ++ (voteS (propS s).1).2) := rfl
    generalize propS s = ps at *
    obtain ⟨s1, out1⟩ := ps
    dsimp only at hn1 hm1 hsm hhere ⊢
    obtain ⟨hs1, hol⟩ := hsm
    generalize s1.sent = σ at hs1
    subst hs1
    have HH := hid hhere
    clear hhere
    have hc := hn1.all
    rw [hnx1.x] at hc
    obtain ⟨d0, d1, d2, d3, d4, d5, d6, d7, d8, -, -, -⟩ := hc
    dsimp only at d0 d1 d2 d3 d4 d5 d6 d7 d8
    have H1 := hid (And.intro hn1 (And.intro hm1 (And.intro hmod1 hnx1)))
    have HOL := hid hol
    clear hn1 hm1 hmod1 hnx1 hol
    obtain ⟨ov, hov⟩ : ∃ ov, ov = look (s.hd (1, s.round)) (s.round % s.n + 1) := ⟨_, rfl⟩
    have HOV := hid hov
    clear hov
    go_wp2_with fail
    refine wp_region_N (fun w' => w'.cell? ⟨p.x, 0, none⟩ = some (.int .i64 s.n) ∧ w'.cell? ⟨p.x, 4, none⟩ = some (.int .i64 s.round) ∧ w'.cell? ⟨p.x, 5, none⟩ = some (.map (some p1.bh)) ∧ HdAt w' p1.bh p1.lh s.hd) (fun _ => true) (by kernel_rfl) ?_
    have hS : wc.drew.cell? ⟨p.x, 0, none⟩ = some (.int .i64 s.n) ∧ wc.drew.cell? ⟨p.x, 4, none⟩ = some (.int .i64 s.round) ∧ wc.drew.cell? ⟨p.x, 5, none⟩ = some (.map (some p1.bh)) ∧ HdAt wc.drew p1.bh p1.lh s.hd := ⟨d0, d4, d5, H1.out.1.heard.mod0 (Mod.refl _ _).drew⟩
    refine regA 0 39 (v := ?_) rfl rfl (by kernel_rfl) (by kernel_rfl) (by kernel_rfl) (fun _ _ _ h => h) (by rfl) (fun w => ?_) ?_; rotate_left; (go_simp; first | done | with_reducible rfl); (try simp only [Act.put, List.setIfInBounds_toArray, List.set_cons_zero, List.set_cons_succ])
    refine regA 1 40 (v := ?_) rfl rfl (by kernel_rfl) (by kernel_rfl) (by kernel_rfl) (fun _ _ _ h => h) (by rfl) (fun w => ?_) ?_; rotate_left; (go_simp; first | done | with_reducible rfl); (try simp only [Act.put, List.setIfInBounds_toArray, List.set_cons_zero, List.set_cons_succ])
    refine regA 2 41 (v := ?_) rfl rfl (by kernel_rfl) (by kernel_rfl) (by kernel_rfl) (fun _ _ _ h => h) (by rfl) (fun w => ?_) ?_; rotate_left; (go_simp; first | done | with_reducible rfl); (try simp only [Act.put, List.setIfInBounds_toArray, List.set_cons_zero, List.set_cons_succ])
    refine regS 3 42 (v := ?_) hS rfl rfl (by kernel_rfl) (by kernel_rfl) (by kernel_rfl) (by kernel_rfl) (fun _ _ _ h => h) (by rfl) (fun w hSw => ?_) ?_; rotate_left; (go_simp; first | done | with_reducible rfl); (try simp only [Act.put, List.setIfInBounds_toArray, List.set_cons_zero, List.set_cons_succ])
    refine regA 4 43 (v := ?_) rfl rfl (by kernel_rfl) (by kernel_rfl) (by kernel_rfl) (fun _ _ _ h => h) (by rfl) (fun w => ?_) ?_; rotate_left; (go_simp; first | done | with_reducible rfl); (try simp only [Act.put, List.setIfInBounds_toArray, List.set_cons_zero, List.set_cons_succ])
    refine regA 5 44 (v := ?_) rfl rfl (by kernel_rfl) (by kernel_rfl) (by kernel_rfl) (fun _ _ _ h => h) (by rfl) (fun w => ?_) ?_; rotate_left; (go_simp; first | done | with_reducible rfl); (try simp only [Act.put, List.setIfInBounds_toArray, List.set_cons_zero, List.set_cons_succ])
    refine regA 6 45 (v := ?_) rfl rfl (by kernel_rfl) (by kernel_rfl) (by kernel_rfl) (fun _ _ _ h => h) (by rfl) (fun w => ?_) ?_; rotate_left; (go_simp; first | done | with_reducible rfl); (try simp only [Act.put, List.setIfInBounds_toArray, List.set_cons_zero, List.set_cons_succ])
    refine regS 7 46 (v := ?_) hS rfl rfl (by kernel_rfl) (by kernel_rfl) (by kernel_rfl) (by kernel_rfl) (fun _ _ _ h => h) (by rfl) (fun w hSw => ?_) ?_; rotate_left; (go_simp; first | done | with_reducible rfl); (try simp only [Act.put, List.setIfInBounds_toArray, List.set_cons_zero, List.set_cons_succ])
    refine regA 8 47 (v := ?_) rfl rfl (by kernel_rfl) (by kernel_rfl) (by kernel_rfl) (fun _ _ _ h => h) (by rfl) (fun w => ?_) ?_; rotate_left; (go_simp; first | done | with_reducible rfl); (try simp only [Act.put, List.setIfInBounds_toArray, List.set_cons_zero, List.set_cons_succ])
    refine regS 9 48 (v := .map (look p1.lh (1, s.round))) hS rfl rfl (by kernel_rfl) (by kernel_rfl) (by kernel_rfl) (by kernel_rfl) (fun _ _ _ h => h) (by rfl) (fun w hSw => look_op _ _ _ _ rfl _ (look_any w p1.bh p1.lh (1, s.round) hSw.2.2.2.map)) ?_
    (try simp only [Act.put, List.setIfInBounds_toArray, List.set_cons_zero, List.set_cons_succ])
    refine regA 10 49 (v := ?_) rfl rfl (by kernel_rfl) (by kernel_rfl) (by kernel_rfl) (fun _ _ _ h => h) (by rfl) (fun w => ?_) ?_; rotate_left; (go_simp; first | done | with_reducible rfl); (try simp only [Act.put, List.setIfInBounds_toArray, List.set_cons_zero, List.set_cons_succ])
    refine regA 11 50 (v := ?_) rfl rfl (by kernel_rfl) (by kernel_rfl) (by kernel_rfl) (fun _ _ _ h => h) (by rfl) (fun w => ?_) ?_; rotate_left; (go_simp; first | done | with_reducible rfl); (try simp only [Act.put, List.setIfInBounds_toArray, List.set_cons_zero, List.set_cons_succ])
    refine regA 12 51 (v := ?_) rfl rfl (by kernel_rfl) (by kernel_rfl) (by kernel_rfl) (fun _ _ _ h => h) (by rfl) (fun w => ?_) ?_; rotate_left; (go_simp; first | done | with_reducible rfl); (try simp only [Act.put, List.setIfInBounds_toArray, List.set_cons_zero, List.set_cons_succ])
    refine regA 13 52 (v := ?_) rfl rfl (by kernel_rfl) (by kernel_rfl) (by kernel_rfl) (fun _ _ _ h => h) (by rfl) (fun w => ?_) ?_; rotate_left; (go_simp; first | done | with_reducible rfl); (try simp only [Act.put, List.setIfInBounds_toArray, List.set_cons_zero, List.set_cons_succ])
    refine regS 14 53 (v := ?_) hS rfl rfl (by kernel_rfl) (by kernel_rfl) (by kernel_rfl) (by kernel_rfl) (fun _ _ _ h => h) (by rfl) (fun w hSw => ?_) ?_; rotate_left; (go_simp; first | done | with_reducible rfl); (try simp only [Act.put, List.setIfInBounds_toArray, List.set_cons_zero, List.set_cons_succ])
    refine regOnly 15 (by kernel_rfl) rfl (by rfl) (fun K hK => ?_)
    go_wp2_with (first
      | (go_at_call 36; refine (leader_any _ _ _ _ HO.out.n0 HO.out.n1 hr HO.out.r1 hS.1).mono ?_; rintro e w2 ⟨rfl, rfl⟩))
    refine hK.out _ _ (fun _ h => h) ?_
    clear hK
    (try simp only [Act.put, List.setIfInBounds_toArray, List.set_cons_zero, List.set_cons_succ])
    refine regS 16 55 (v := lkV ov) hS rfl rfl (by kernel_rfl) (by kernel_rfl) (by kernel_rfl) (by kernel_rfl) (fun _ _ _ h => h) (by rfl) (fun w hSw => look_op _ _ _ _ rfl _ (by rw [HOV.out]; exact inner_look w p1.bh p1.lh s.hd (1, s.round) (s.round % s.n + 1) hSw.2.2.2)) ?_
    (try simp only [Act.put, List.setIfInBounds_toArray, List.set_cons_zero, List.set_cons_succ])
    refine regA 17 38 (v := ?_) rfl rfl (by kernel_rfl) (by kernel_rfl) (by kernel_rfl) (fun _ _ _ h => h) (by rfl) (fun w => ?_) ?_; rotate_left; (go_simp; first | done | with_reducible rfl); (try simp only [Act.put, List.setIfInBounds_toArray, List.set_cons_zero, List.set_cons_succ])
    simp only [lkV]
    refine regA 18 56 (v := ?_) rfl rfl (by kernel_rfl) (by kernel_rfl) (by kernel_rfl) (fun _ _ _ h => h) (by rfl) (fun w => ?_) ?_; rotate_left; (go_simp; first | done | with_reducible rfl); (try simp only [Act.put, List.setIfInBounds_toArray, List.set_cons_zero, List.set_cons_succ])
    refine regA 19 57 (v := ?_) rfl rfl (by kernel_rfl) (by kernel_rfl) (by kernel_rfl) (fun _ _ _ h => h) (by rfl) (fun w => ?_) ?_; rotate_left; (go_simp; first | done | with_reducible rfl); (try simp only [Act.put, List.setIfInBounds_toArray, List.set_cons_zero, List.set_cons_succ])
    refine regOnly 20 (by kernel_rfl) rfl (by rfl) (fun K hK => ?_)
    go_wp2_with fail
    refine hK.out _ _ (fun _ h => h) ?_
    clear hK
    (try simp only [Act.put, List.setIfInBounds_toArray, List.set_cons_zero, List.set_cons_succ])
    refine regOnly 21 (by kernel_rfl) rfl (by rfl) (fun K hK => ?_)
    go_wp2_with fail
    refine hK.out _ _ (fun _ h => h) ?_
    clear hK hS
    (try simp only [Act.put, List.setIfInBounds_toArray, List.set_cons_zero, List.set_cons_succ])
    refine regDone (by kernel_rfl) ?_ _
    have hvote := voteS_of { s with sent := σ } HOV.out
    have HV := hid hvote
    clear hvote HOV d0 d1 d2 d3 d4 d5 d8
    cases ov with
    | none =>
      simp only [voteO] at HV
      simp only [Option.isSome_none, Option.getD_none]
      go_wp2_with fail
      go_ret
      refine ⟨p1, _, rfl, ?_, ?_, H1.out.2.2.1.drew, H1.out.2.2.2⟩
      · rw [HH.out, HV.out]; exact H1.out.1.mod0 (Mod.refl _ _).drew
      · rw [HH.out, HV.out, List.append_nil]; exact H1.out.2.1.mod (Mod.refl [] _).drew (by simp)
    | some v =>
      simp only [voteO] at HV
      simp only [Option.isSome_some, Option.getD_some]
      obtain ⟨bb, hbb⟩ : ∃ bb, bb = decide (0 ≤ s.lr ∧ s.lv ≠ v) := ⟨_, rfl⟩
      have HB := hid hbb
      clear hbb
      go_upto_region 10 with fail
      go_cut [68] (fun vv wx => vv = .bool bb ∧ wx = wc.drew)
      case first =>
        cases lb with
        | false =>
          have hl : ¬ 0 ≤ s.lr := by simpa using hlb
          have hb : bb = false := by rw [HB.out]; simp [hl]
          have HBB := hid hb
          clear hb HB HV hl hlb
          go_wp2_with fail
          go_meet
          rw [HBB.out]
          exact ⟨rfl, rfl⟩
        | true =>
          have hl : 0 ≤ s.lr := by simpa using hlb
          have hq := chars_eq s.lv v
          by_cases he : s.lv = v
          · rw [decide_eq_true he] at hq
            have hb : bb = false := by rw [HB.out]; simp [he]
            have HBB := hid hb
            clear hb HB HV hl he hlb
            go_wp2_with fail
            go_meet
            rw [HBB.out]
            exact ⟨rfl, rfl⟩
          · rw [decide_eq_false he] at hq
            have hb : bb = true := by rw [HB.out]; simp [he, hl]
            have HBB := hid hb
            clear hb HB HV hl he hlb
            go_wp2_with fail
            go_meet
            rw [HBB.out]
            exact ⟨rfl, rfl⟩
      case rest =>
      obtain ⟨rfl, rfl⟩ := hcut
      obtain ⟨v', hv'⟩ : ∃ v', v' = if 0 ≤ s.lr ∧ s.lv ≠ v then (⟨#[]⟩ : ByteArray) else v := ⟨_, rfl⟩
      have HV' := hid hv'
      clear hlb
      go_upto_if 68 with fail
      go_cut [6] (fun vv wx => vv = .string v' ∧ wx = wc.drew)
      case first =>
        cases bb with
        | false =>
          have hv2 : v' = v := by rw [HV'.out, if_neg (by have := HB.out; simpa using this.symm)]
          subst hv2
          clear HV hv' HV'
          go_wp2_with fail
          go_meet
          exact ⟨rfl, rfl⟩
        | true =>
          have hv2 : v' = ⟨#[]⟩ := by rw [HV'.out, if_pos (by have := HB.out; simpa using this.symm)]
          subst hv2
          clear HV hv' HV'
          go_wp2_with fail
          go_meet
          exact ⟨rfl, rfl⟩
      case rest =>
        obtain ⟨rfl, rfl⟩ := hcut
        rw [← hv'] at HV
        have hsay := say_any wc.drew p1 { s with sent := σ } 2 v' (H1.out.1.mod0 (Mod.refl _ _).drew)
        rw [H1.out.2.2.2.x, ← HV.out] at hsay
        have HSAY := hid hsay
        have hm0 : MsgsAt w.heap.size wc.drew (.slice a1 out1.length k1) out1 := H1.out.2.1.mod (S := []) (Mod.refl [] wc).drew (fun _ _ => by simp)
        have hl2 : out1.length + (voteS { s with sent := σ }).2.length ≤ 1000 := by have := (voteS_same { s with sent := σ }).2; have := HOL.out; omega
        have happ := fun w2 p2 v2 hn2 hm2 hmod2 hnx2 => step_app (w2 := w2) (p2 := p2) (v2 := v2) (s2 := (voteS { s with sent := σ }).1) (o2 := (voteS { s with sent := σ }).2) (H1.out.1.mod0 (Mod.refl [] wc).drew) hm0 H1.out.2.2.1.drew H1.out.2.2.2 hn2 hm2 hmod2 hnx2 hl2
        have HAPP := hid happ
        clear hsay hv' d6 d7 hm0 hl2 happ
        go_wp2_with (first
          | (go_at_call 37; refine HSAY.out.mono ?_; rintro e w2 ⟨p2, v2, rfl, hn2, hm2, hmod2, hnx2⟩; have HA := hid (HAPP.out _ _ _ hn2 hm2 hmod2 hnx2); clear hn2 hm2 hmod2 hnx2)
          | (at_builtin; refine wpList_app_run rfl _ _ 32 rfl (.slice a1 out1.length k1) v2 rfl rfl _ HA.out ?_; rintro v3 w3 h3; have H3 := hid h3; clear h3))
        go_ret
        refine ⟨p2, _, rfl, ?_, ?_, H3.out.2.2.1, H3.out.2.2.2⟩
        · rw [HH.out]; exact H3.out.1
        · rw [HH.out]; exact H3.out.2.1
end Go.Proofs.Ytnpmjpdndhedgaa
