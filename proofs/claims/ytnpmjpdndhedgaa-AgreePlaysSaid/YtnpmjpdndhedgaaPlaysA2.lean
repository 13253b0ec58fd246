/-
  AgreePlays, walked: one act. No statement of a claim stands here; each contract names what it asks.
-/
import Derived.Test.YtnpmjpdndhedgaaPlaysA1
import Derived.Deep.CutBlock
set_option linter.unusedSimpArgs false
namespace Go.Proofs.Ytnpmjpdndhedgaa
open Go Go.RowKit Go.ChangeMaps

theorem timeout_le {s : NodeS} {L : List Msg} (h : LE s L) : LE (timeoutS s).1 L := by
  rcases timeout_run s with ⟨h1, h2⟩ | ⟨_, R⟩
  · rw [h1]; exact h
  · exact (h.same (s' := { s with round := s.round + 1 }) rfl rfl).run R

/-- What the calls of a 'Timeout' leave. -/
theorem both_timeout {W0 W : World} {p : Loc} {b : Nat} {vL : Value} {s : NodeS} {L : List Msg} (h : Both W0 W p b vL s L) (hl : L.length ≤ 500) :
    ∀ (W1 : World) (p' : Loc) (v : Value), NodeAt W1 p' (timeoutS s).1 → MsgsAt W.heap.size W1 v (timeoutS s).2 → Mod p.foot W W1 → Next W p p' →
      Calls Try.prog 21 #[.pointer (some ⟨b, 0, none⟩)] W1 fun e W2 => ∃ u, e = .returned u ∧ (Both W0 W2 p' b vL (timeoutS s).1 L ∧ p'.x = p.x) ∧
        Calls Try.prog 19 #[v, u] W2 fun e w' => e = .returned (.bool true) ∧ Mod [] W2 w' := by
  intro W1 p' v hn hm hd hx
  obtain ⟨h1, h2, h3, h4⟩ := h.one hn hm hd hx
  refine (refTimeout_any W1 b vL s L h1 h.ok h.le (by omega)).mono ?_
  rintro e W2 ⟨u, rfl, hr, hu, hd2⟩
  obtain ⟨g1, g2, g3⟩ := h.two hn hm hd hx hr (timeout_le h.le) (timeoutS_ok h.ok) (timeout_lk h.lk) hu (hd2.mono (fun x hx => .inl (by simp at hx; simp [hx]))) (fun k hk => .inl hk)
  exact ⟨u, rfl, ⟨g1, hx.x⟩, sameAll_any W2 _ _ v u _ g2 g3 (by have := timeoutS_few s; omega)⟩
/-- .. of a 'Take'. -/
theorem both_take {W0 W : World} {p : Loc} {b : Nat} {vL : Value} {s : NodeS} {L : List Msg} (h : Both W0 W p b vL s L) (hl : L.length ≤ 500) (m : Msg) :
    ∀ (W1 : World) (p' : Loc) (v : Value), NodeAt W1 p' (takeS s m).1 → MsgsAt W.heap.size W1 v (takeS s m).2 → Mod p.foot W W1 → Next W p p' →
      Calls Try.prog 23 #[.pointer (some ⟨b, 0, none⟩), .agg #[.int .i64 m.kind, .int .i64 m.from_, .int .i64 m.round, .string m.val]] W1 fun e W2 => ∃ u vL' L', e = .returned u ∧ (Both W0 W2 p' b vL' (takeS s m).1 L' ∧ p'.x = p.x ∧ L'.length ≤ L.length + 1 ∧ Mod (b :: vL.ownBlock.toList) W1 W2) ∧
        Calls Try.prog 19 #[v, u] W2 fun e w' => e = .returned (.bool true) ∧ Mod [] W2 w' := by
  intro W1 p' v hn hm hd hx
  obtain ⟨h1, h2, h3, h4⟩ := h.one hn hm hd hx
  refine (refTake_any W1 b vL s L m h1 h.ok h.le (by omega)).mono ?_
  rintro e W2 ⟨vL', L', u, rfl, hr, hle, hu, hd2, hv, hl2⟩
  obtain ⟨g1, g2, g3⟩ := h.two hn hm hd hx hr hle (takeS_ok h.ok m) (take_lk m h.lk) hu hd2 hv
  exact ⟨u, vL', L', rfl, ⟨g1, hx.x, hl2, hd2⟩, sameAll_any W2 _ _ v u _ g2 g3 (by have := takeS_few s m; omega)⟩
/-- .. of a 'Begin'. -/
theorem both_begin {W0 W : World} {p : Loc} {b : Nat} {vL : Value} {s : NodeS} {L : List Msg} (h : Both W0 W p b vL s L) (hl : L.length ≤ 500) (hr : s.round = -1) :
    ∀ (W1 : World) (p' : Loc) (v : Value), NodeAt W1 p' (hereS (at0 s)).1 → MsgsAt W.heap.size W1 v (hereS (at0 s)).2 → Mod p.foot W W1 → Next W p p' →
      Calls Try.prog 18 #[.pointer (some ⟨b, 0, none⟩)] W1 fun e W2 => ∃ u, e = .returned (.tuple #[u, .int .i64 0]) ∧ (Both W0 W2 p' b vL (hereS (at0 s)).1 L ∧ p'.x = p.x) ∧
        Calls Try.prog 19 #[v, u] W2 fun e w' => e = .returned (.bool true) ∧ Mod [] W2 w' := by
  intro W1 p' v hn hm hd hx
  obtain ⟨h1, h2, h3, h4⟩ := h.one hn hm hd hx
  refine (refBegin_new W1 b vL s L h1 h.ok h.le (by omega) hr).mono ?_
  rintro e W2 ⟨u, rfl, hr2, hu, hd2⟩
  have R := run_here (at0 s) (Int.le_refl 0)
  obtain ⟨g1, g2, g3⟩ := h.two hn hm hd hx hr2 ((h.le.same (s' := at0 s) rfl rfl).run R) (hereS_ok (at0_ok h.ok)) (R.lk h.lk) hu (hd2.mono (fun x hx => .inl (by simp at hx; simp [hx]))) (fun k hk => .inl hk)
  exact ⟨u, rfl, ⟨g1, hx.x⟩, sameAll_any W2 _ _ v u _ g2 g3 (by have := here_few s; omega)⟩
theorem same_nil (W : World) : Calls Try.prog 19 #[.slice none 0 0, .slice none 0 0] W fun e w' => e = .returned (.bool true) ∧ Mod [] W w' :=
  sameAll_any W 0 0 _ _ [] (MsgsAt.nil _ _) (RMsgs.nil _ _) (by simp)

set_option maxRecDepth 20000 in
set_option maxHeartbeats 4000000 in
theorem plays_any (W : World) (n t me : Int) (input : ByteArray) (aa : Option Addr) (ac : Nat) (acts : List ActS) (hA : ActsAt W aa acts) (hla : acts.length ≤ maxLen) (hin : input.size ≤ maxLen) :
    Calls Try.prog 7 #[.int .i64 n, .int .i64 t, .int .i64 me, .string input, .slice aa acts.length ac] W fun e W' => e = .returned (.bool true) ∧ Mod [] W W' := by
  obtain ⟨cz, hcz⟩ : ∃ k : Nat, k = min input.size 4097 := ⟨_, rfl⟩
  have cz1 : (if (4097 : Int) < (input.size : Int) then (4097 : Int) else (input.size : Int)) = (cz : Int) := by split <;> omega
  have cz2 : (if 4097 < input.size then (4097 : Int) else (input.size : Int)) = (cz : Int) := by split <;> omega
  have cz3 : cz ≤ input.size := by omega
  have cz4 : (0 : Int) ≤ (cz : Int) := Int.natCast_nonneg _
  have HA := hid hA
  clear hcz hA
  by_cases hg : GoodN n t me (input.extract 0 cz) ∧ (input.extract 0 cz).size ≤ 4096
  · have hm1 := make_yes n t me (input.extract 0 cz) W hg.1.t0 hg.1.t5 hg.1.n0 hg.1.n16 hg.1.me0 hg.1.me1 hg.1.i0 hg.2
    have hm2 := fun W1 => refMake_yes n t me (input.extract 0 cz) W1 hg.1 hg.2
    have hok : NOk (makeS n t me (input.extract 0 cz)) := makeS_ok hg.1.t0 hg.1.n0 hg.1.n16 hg.1.me0 hg.1.me1
    have HM1 := hid hm1
    have HM2 := hid hm2
    have HOK := hid hok
    clear hm1 hm2 hok hg
    go_enter Try.func7, Try.ntmps7
    go_wp2_with (first
      | (go_at_call 15; refine HM1.out.mono ?_; rintro e w1 ⟨p, rfl, hn1, hm1, hf1⟩; have H1 := hid (And.intro hn1 (And.intro hm1 hf1)); clear hn1 hm1 hf1)
      | (go_at_call 16; refine (HM2.out w1).mono ?_; rintro e w2 ⟨b, rfl, hr2, hm2, hb2⟩; have H2 := hid (And.intro hr2 (And.intro hm2 hb2)); clear hr2 hm2 hb2))
    have hboth : BothAny W w2 p.x b (makeS n t me (input.extract 0 cz)) [] :=
      ⟨p, _, rfl, ⟨H1.out.1.mod0 H2.out.2.1, H2.out.1, LE.nil (fun _ => rfl), HOK.out, fun _ => rfl, H1.out.2.1.trans H2.out.2.1, H1.out.2.2, Nat.le_trans H1.out.2.1.size H2.out.2.2, fun k hk => by cases hk⟩⟩
    generalize p.x = x at *
    have HB := hid hboth
    clear hboth H1 H2 HM1 HM2 HOK cz1 cz2 cz3 cz4
    go_loopg [15] (acts.length) (fun gk i W' => ∃ (j : Nat) (s : NodeS) (L : List Msg), i = nat j ∧ gk + j = acts.length ∧ L.length ≤ j ∧ BothAny W W' x b s L)
    case atStart => exact ⟨0, _, [], rfl, by omega, by simp, HB.out⟩
    case round =>
      obtain ⟨j, s, L, rfl, hj, hLj, hBA⟩ := hrel
      have HBA := hid hBA
      by_cases hjn : j < acts.length
      · by_cases hj2 : j < 120
        · obtain ⟨a, ha⟩ : ∃ a, acts[j]? = some a := ⟨_, List.getElem?_eq_getElem hjn⟩
          obtain ⟨ab, ao, rfl, hab, hac⟩ := HA.out.cell j a ha
          obtain ⟨p, vL, rfl, hB⟩ := hBA
          have hac' : ∀ q u, a.cells[q]? = some u → wr.cell? ⟨ab, ao + j * 5 + q, none⟩ = some u := fun q u hu => hB.old.cell (hac q u hu) (by simp)
          have a0 : wr.cell? ⟨ab, ao + j * 5, none⟩ = some (.int .i64 a.do_) := hac' 0 _ rfl
          have a1 : wr.cell? ⟨ab, ao + j * 5 + 1, none⟩ = some (.int .i64 a.m.kind) := hac' 1 _ rfl
          have a2 : wr.cell? ⟨ab, ao + j * 5 + 2, none⟩ = some (.int .i64 a.m.from_) := hac' 2 _ rfl
          have a3 : wr.cell? ⟨ab, ao + j * 5 + 3, none⟩ = some (.int .i64 a.m.round) := hac' 3 _ rfl
          have a4 : wr.cell? ⟨ab, ao + j * 5 + 4, none⟩ = some (.string a.m.val) := hac' 4 _ rfl
          obtain ⟨cz, hcz⟩ : ∃ k : Nat, k = min a.m.val.size 4097 := ⟨_, rfl⟩
          have cz1 : (if (4097 : Int) < (a.m.val.size : Int) then (4097 : Int) else (a.m.val.size : Int)) = (cz : Int) := by split <;> omega
          have cz2 : (if 4097 < a.m.val.size then (4097 : Int) else (a.m.val.size : Int)) = (cz : Int) := by split <;> omega
          have cz3 : cz ≤ a.m.val.size := by omega
          have cz4 : (0 : Int) ≤ (cz : Int) := Int.natCast_nonneg _
          have j0 : (0 : Int) ≤ (j : Int) := Int.natCast_nonneg _
          have j1 : (j : Int) < (acts.length : Int) := by omega
          have j2 : decide ((j : Int) < 120) = true := decide_eq_true (by omega)
          have HB := hid hB
          obtain ⟨v', hv'⟩ : ∃ v', v' = a.m.val.extract 0 cz := ⟨_, rfl⟩
          have a5 : (wr.alloc (.cells #[.int .i64 a.m.kind, .int .i64 a.m.from_, .int .i64 a.m.round, .string (a.m.val.extract 0 cz)] 39)).cell? ⟨ab, ao + j * 5, none⟩ = some (.int .i64 a.do_) := Mod.cell (Mod.alloc (Mod.refl [] wr) _) a0 (by simp)
          have hnew := get_new wr (.cells #[.int .i64 a.m.kind, .int .i64 a.m.from_, .int .i64 a.m.round, .string (a.m.val.extract 0 cz)] 39)
          have hma : Mod [] wr (wr.alloc (.cells #[.int .i64 a.m.kind, .int .i64 a.m.from_, .int .i64 a.m.round, .string (a.m.val.extract 0 cz)] 39)) := Mod.alloc (Mod.refl _ _) _
          have HN := hid (And.intro hnew hma)
          have HV := hid hv'
          clear hac hac' ha hab hB hcz hnew hma hv'
          go_upto_block 2 with (first | (go_at_call 9; refine (among_any _ _ _ (by omega) (by omega)).mono ?_; rintro e w' ⟨rfl, rfl⟩))
          rw [← HV.out] at HN
          rw [← HV.out]
          generalize (wr.alloc (.cells #[.int .i64 a.m.kind, .int .i64 a.m.from_, .int .i64 a.m.round, .string v'] 39)) = W1 at *
          clear a0 a1 a2 a3 a4 a5 cz1 cz2 cz3 cz4
          have HB1 := hid (HB.out.mod0 HN.out.2)
          obtain ⟨D, hD⟩ : ∃ D, D = among a.do_ 10 := ⟨_, rfl⟩
          rw [← hD]
          clear hD
          go_cut [17] (fun okv wx => okv = .bool true ∧ ∃ (s' : NodeS) (L' : List Msg), L'.length ≤ j + 1 ∧ BothAny W wx p.x b s' L')
          case first => as_aux_lemma =>
            by_cases h0 : D = 0
            · subst h0
              by_cases hr : s.round = -1
              · have hbeg := begin_new W1 p s HB1.out.n HB1.out.ok hr
                have hnext := both_begin HB1.out (by omega) hr
                have HBEG := hid hbeg
                have HNEXT := hid hnext
                clear hbeg hnext hr
                go_wp2_with (first
                  | (go_at_call 17; refine HBEG.out.mono ?_; rintro e w3 ⟨p', v, rfl, hn, hm, hd, hx⟩; have HNX := hid (HNEXT.out w3 p' v hn hm hd hx); clear hn hm hd hx)
                  | (go_at_call 18; refine HNX.out.mono ?_; rintro e w5 ⟨u, rfl, hb2, hsa⟩; have HB2 := hid hb2; have HSA := hid hsa; clear hb2 hsa)
                  | (go_at_call 19; refine HSA.out.mono ?_; rintro e w4 ⟨rfl, hm4⟩; have HM4 := hid hm4; clear hm4))
                go_meet
                exact ⟨rfl, _, L, by omega, p', vL, HB2.out.2, HB2.out.1.mod0 HM4.out⟩
              · have hr0 : 0 ≤ s.round := by have := HB1.out.ok.r0; omega
                have hbeg := begin_old W1 p s HB1.out.n HB1.out.ok hr0
                have hnext := refBegin_old W1 b vL s L HB1.out.r hr0
                have HBEG := hid hbeg
                have HNEXT := hid hnext
                have HSA := hid (same_nil W1)
                clear hbeg hnext hr hr0
                go_wp2_with (first
                  | (go_at_call 17; refine HBEG.out.mono ?_; rintro e w3 ⟨rfl, rfl⟩)
                  | (go_at_call 18; refine HNEXT.out.mono ?_; rintro e w5 ⟨rfl, rfl⟩)
                  | (go_at_call 19; refine HSA.out.mono ?_; rintro e w4 ⟨rfl, hm4⟩; have HM4 := hid hm4; clear hm4))
                go_meet
                exact ⟨rfl, s, L, by omega, p, vL, rfl, HB1.out.mod0 HM4.out⟩
            · by_cases h12 : D = 1 ∨ D = 2
              · have htime := timeout_any W1 p s HB1.out.n HB1.out.ok
                have hnext := both_timeout HB1.out (by omega)
                have HTIME := hid htime
                have HNEXT := hid hnext
                clear htime hnext
                rcases h12 with h1 | h2
                · subst h1
                  clear h0
                  go_wp2_with (first
                    | (go_at_call 20; refine HTIME.out.mono ?_; rintro e w3 ⟨p', v, rfl, hn, hm, hd, hx⟩; have HNX := hid (HNEXT.out w3 p' v hn hm hd hx); clear hn hm hd hx)
                    | (go_at_call 21; refine HNX.out.mono ?_; rintro e w5 ⟨u, rfl, hb2, hsa⟩; have HB2 := hid hb2; have HSA := hid hsa; clear hb2 hsa)
                    | (go_at_call 19; refine HSA.out.mono ?_; rintro e w4 ⟨rfl, hm4⟩; have HM4 := hid hm4; clear hm4))
                  go_meet
                  exact ⟨rfl, _, L, by omega, p', vL, HB2.out.2, HB2.out.1.mod0 HM4.out⟩
                · subst h2
                  clear h0
                  go_wp2_with (first
                    | (go_at_call 20; refine HTIME.out.mono ?_; rintro e w3 ⟨p', v, rfl, hn, hm, hd, hx⟩; have HNX := hid (HNEXT.out w3 p' v hn hm hd hx); clear hn hm hd hx)
                    | (go_at_call 21; refine HNX.out.mono ?_; rintro e w5 ⟨u, rfl, hb2, hsa⟩; have HB2 := hid hb2; have HSA := hid hsa; clear hb2 hsa)
                    | (go_at_call 19; refine HSA.out.mono ?_; rintro e w4 ⟨rfl, hm4⟩; have HM4 := hid hm4; clear hm4))
                  go_meet
                  exact ⟨rfl, _, L, by omega, p', vL, HB2.out.2, HB2.out.1.mod0 HM4.out⟩
              · have d0 : (D == 0) = false := by simpa using h0
                have d1 : (D == 1) = false := by rw [beq_eq_false_iff_ne]; exact fun h => h12 (.inl h)
                have d2 : (D == 2) = false := by rw [beq_eq_false_iff_ne]; exact fun h => h12 (.inr h)
                clear h0 h12
                have b0 : W1.cell? ⟨wr.heap.size, 0, none⟩ = some (.int .i64 a.m.kind) := cell_at HN.out.1 0
                have b1 : W1.cell? ⟨wr.heap.size, 1, none⟩ = some (.int .i64 a.m.from_) := cell_at HN.out.1 1
                have b2 : W1.cell? ⟨wr.heap.size, 2, none⟩ = some (.int .i64 a.m.round) := cell_at HN.out.1 2
                have b3 : W1.cell? ⟨wr.heap.size, 3, none⟩ = some (.string v') := cell_at HN.out.1 3
                have hBd := HB1.out.mod0 (Mod.refl [] W1).drew
                have htake := take_any W1.drew p s ⟨a.m.kind, a.m.from_, a.m.round, v'⟩ hBd.n hBd.ok
                have hnext := both_take hBd (by omega) ⟨a.m.kind, a.m.from_, a.m.round, v'⟩
                have hx1 : wr.heap.size ∉ p.foot := HB1.out.n.ne HN.out.1 (by decide)
                have hx2 : wr.heap.size ∉ b :: vL.ownBlock.toList := by
                  simp only [List.mem_cons, Option.mem_toList, not_or]
                  refine ⟨fun h => ne_ty HN.out.1 HB1.out.r.cells (by decide) h, fun h => ?_⟩
                  obtain ⟨c, hc⟩ := row_block HB1.out.r.row h
                  exact ne_ty hc HN.out.1 (by decide) rfl
                have HTAKE := hid htake
                have HNEXT := hid hnext
                have HX := hid (And.intro hx1 hx2)
                clear hBd htake hnext hx1 hx2
                go_wp2_with fail
                go_region_held3 (fun w' => w'.cell? ⟨wr.heap.size, 0, none⟩ = some (.int .i64 a.m.kind) ∧ w'.cell? ⟨wr.heap.size, 1, none⟩ = some (.int .i64 a.m.from_) ∧ w'.cell? ⟨wr.heap.size, 2, none⟩ = some (.int .i64 a.m.round) ∧ w'.cell? ⟨wr.heap.size, 3, none⟩ = some (.string v'))
                  (first
                    | exact ⟨b0, b1, b2, b3⟩
                    | exact ⟨hm4.cell (hm8.cell (hm7.cell b0 HX.out.1) HX.out.2) (by simp), hm4.cell (hm8.cell (hm7.cell b1 HX.out.1) HX.out.2) (by simp), hm4.cell (hm8.cell (hm7.cell b2 HX.out.1) HX.out.2) (by simp), hm4.cell (hm8.cell (hm7.cell b3 HX.out.1) HX.out.2) (by simp)⟩
                    | exact ⟨hm8.cell (hm7.cell b0 HX.out.1) HX.out.2, hm8.cell (hm7.cell b1 HX.out.1) HX.out.2, hm8.cell (hm7.cell b2 HX.out.1) HX.out.2, hm8.cell (hm7.cell b3 HX.out.1) HX.out.2⟩
                    | exact ⟨hm7.cell b0 HX.out.1, hm7.cell b1 HX.out.1, hm7.cell b2 HX.out.1, hm7.cell b3 HX.out.1⟩)
                  (first
                    | (go_at_call 22; refine HTAKE.out.mono ?_; rintro e w3 ⟨p', v, rfl, hn, hm, hm7, hx⟩; have HNX := hid (HNEXT.out w3 p' v hn hm hm7 hx))
                    | (go_at_call 23; refine HNX.out.mono ?_; rintro e w5 ⟨u, vL2, L2, rfl, hb2, hsa⟩; have hm8 := hb2.2.2.2; have HSA := hid hsa)
                    | (go_at_call 19; refine HSA.out.mono ?_; rintro e w4 ⟨rfl, hm4⟩))
                go_wp2_with fail
                go_meet
                exact ⟨rfl, _, L2, by have := hb2.2.2.1; omega, p', vL2, hb2.2.1, hb2.1.mod0 hm4⟩
          case rest =>
          obtain ⟨rfl, s', L', hL', hBA'⟩ := hcut
          clear HB1 HN HB HBA HV
          obtain ⟨p', vL', hpx, hB'⟩ := hBA'
          have HB' := hid hB'
          have hdec := decided_any wc p' s' hB'.n hB'.ok
          have hlock := fun W1 (hm : Mod [] wc W1) => lock_any W1 p' s' (hB'.n.mod0 hm) hB'.ok
          rw [hpx] at hdec hlock
          have HDEC := hid hdec
          have HPX := hid hpx
          have hround := fun W1 (hm : Mod [] wc W1) => round_any W1 p' s' (hB'.n.mod0 hm) hB'.ok
          have href := fun W1 (hm : Mod [] wc W1) => (hB'.r.mod0 hm).all
          rw [hpx] at hround
          have hlk := hB'.lk
          have HROUND := hid hround
          have HREF := hid href
          clear hB' hdec hpx hround href
          obtain ⟨db, hdb⟩ : ∃ db, s'.done = db := ⟨_, rfl⟩
          rw [hdb] at HDEC
          by_cases hlr : 0 ≤ s'.lr
          · have d1 : decide (0 ≤ s'.lr) = true := decide_eq_true hlr
            rw [if_pos hlr, if_pos hlr, d1] at hlock
            have HLOCK := hid hlock
            clear hlock hlk hlr
            cases db with
            | true => as_aux_lemma => (go_upto_region 25 with (first | (go_at_call 14; refine HDEC.out.mono ?_; rintro e w3 ⟨rfl, hm3⟩; have HM3 := hid hm3; clear hm3) | (go_at_call 24; refine (HLOCK.out w3 HM3.out).mono ?_; rintro e w4 ⟨rfl, hm4⟩; have HM4 := hid hm4; clear hm4)); obtain ⟨-, -, -, -, -, c5, c6, c7, c8, c9, -⟩ := HREF.out w4 (HM3.out.trans HM4.out); rw [hdb] at c9; clear hdb; go_quiet ((go_at_call 25; exact Calls.quiet_of_same (HROUND.out _ ((HM3.out.trans HM4.out).drewN _)))); go_wp2_with fail; go_roundg (gk - 1); (case measure => omega); (case rel => exact ⟨j + 1, s', L', by go_num, by omega, hL', p', vL', HPX.out, HB'.out.mod0 ((HM3.out.trans HM4.out).drewN _)⟩))
            | false => as_aux_lemma => (go_upto_region 25 with (first | (go_at_call 14; refine HDEC.out.mono ?_; rintro e w3 ⟨rfl, hm3⟩; have HM3 := hid hm3; clear hm3) | (go_at_call 24; refine (HLOCK.out w3 HM3.out).mono ?_; rintro e w4 ⟨rfl, hm4⟩; have HM4 := hid hm4; clear hm4)); obtain ⟨-, -, -, -, -, c5, c6, c7, c8, c9, -⟩ := HREF.out w4 (HM3.out.trans HM4.out); rw [hdb] at c9; clear hdb; go_quiet ((go_at_call 25; exact Calls.quiet_of_same (HROUND.out _ ((HM3.out.trans HM4.out).drewN _)))); go_wp2_with fail; go_roundg (gk - 1); (case measure => omega); (case rel => exact ⟨j + 1, s', L', by go_num, by omega, hL', p', vL', HPX.out, HB'.out.mod0 ((HM3.out.trans HM4.out).drewN _)⟩))
          · have d1 : decide (0 ≤ s'.lr) = false := decide_eq_false hlr
            rw [if_neg hlr, if_neg hlr, d1] at hlock
            have hlv := hlk (by omega)
            have HLOCK := hid hlock
            have HLV := hid hlv
            clear hlock hlk hlr hlv
            cases db with
            | true => as_aux_lemma => (go_upto_region 25 with (first | (go_at_call 14; refine HDEC.out.mono ?_; rintro e w3 ⟨rfl, hm3⟩; have HM3 := hid hm3; clear hm3) | (go_at_call 24; refine (HLOCK.out w3 HM3.out).mono ?_; rintro e w4 ⟨rfl, hm4⟩; have HM4 := hid hm4; clear hm4)); obtain ⟨-, -, -, -, -, c5, c6, c7, c8, c9, -⟩ := HREF.out w4 (HM3.out.trans HM4.out); rw [hdb] at c9; rw [HLV.out] at c6; clear hdb; go_quiet ((go_at_call 25; exact Calls.quiet_of_same (HROUND.out _ ((HM3.out.trans HM4.out).drewN _)))); go_wp2_with fail; go_roundg (gk - 1); (case measure => omega); (case rel => exact ⟨j + 1, s', L', by go_num, by omega, hL', p', vL', HPX.out, HB'.out.mod0 ((HM3.out.trans HM4.out).drewN _)⟩))
            | false => as_aux_lemma => (go_upto_region 25 with (first | (go_at_call 14; refine HDEC.out.mono ?_; rintro e w3 ⟨rfl, hm3⟩; have HM3 := hid hm3; clear hm3) | (go_at_call 24; refine (HLOCK.out w3 HM3.out).mono ?_; rintro e w4 ⟨rfl, hm4⟩; have HM4 := hid hm4; clear hm4)); obtain ⟨-, -, -, -, -, c5, c6, c7, c8, c9, -⟩ := HREF.out w4 (HM3.out.trans HM4.out); rw [hdb] at c9; rw [HLV.out] at c6; clear hdb; go_quiet ((go_at_call 25; exact Calls.quiet_of_same (HROUND.out _ ((HM3.out.trans HM4.out).drewN _)))); go_wp2_with fail; go_roundg (gk - 1); (case measure => omega); (case rel => exact ⟨j + 1, s', L', by go_num, by omega, hL', p', vL', HPX.out, HB'.out.mod0 ((HM3.out.trans HM4.out).drewN _)⟩))
        · have j1 : (j : Int) < (acts.length : Int) := by omega
          have j2 : decide ((j : Int) < 120) = false := decide_eq_false (by omega)
          clear hBA
          go_wp2_with (first | (go_at_call 8; refine (works_any _).mono ?_; rintro e w9 ⟨rfl, hm9⟩; have HW9 := hid hm9; clear hm9))
          go_ret
          obtain ⟨p, vL, e, hB⟩ := HBA.out
          exact ⟨rfl, hB.old.trans HW9.out⟩
      · have j1 : ¬ (j : Int) < (acts.length : Int) := by omega
        clear hBA
        go_wp2_with (first | (go_at_call 8; refine (works_any _).mono ?_; rintro e w9 ⟨rfl, hm9⟩; have HW9 := hid hm9; clear hm9))
        go_ret
        obtain ⟨p, vL, e, hB⟩ := HBA.out
        exact ⟨rfl, hB.old.trans HW9.out⟩
  · have hm1 := make_no n t me (input.extract 0 cz) W hg
    have hm2 := fun W1 => refMake_no n t me (input.extract 0 cz) W1 hg
    generalize badE n t me (input.extract 0 cz) = be at *
    have HM1 := hid hm1
    have HM2 := hid hm2
    clear hm1 hm2 hg
    go_enter Try.func7, Try.ntmps7
    go_wp2_with (first
      | (go_at_call 15; refine HM1.out.mono ?_; rintro e w1 ⟨rfl, hm1⟩; have H1 := hid hm1; clear hm1)
      | (go_at_call 16; refine (HM2.out w1).mono ?_; rintro e w2 ⟨rfl, hm2⟩; have H2 := hid hm2; clear hm2)
      | (go_at_call 8; refine (works_any _).mono ?_; rintro e w9 ⟨rfl, hm9⟩; have HW9 := hid hm9; clear hm9))
    go_ret
    exact ⟨rfl, H1.out.trans (H2.out.trans HW9.out)⟩
end Go.Proofs.Ytnpmjpdndhedgaa
