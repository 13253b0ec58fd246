/-
  The statements' world, walked further: play. No statement of a claim stands here; each contract names what it asks.
-/
import Derived.Test.YtnpmjpdndhedgaaL7
import Derived.Deep.CutBlock
set_option linter.unusedSimpArgs false
namespace Go.Proofs.Ytnpmjpdndhedgaa
open Go Go.RowKit Go.ChangeMaps

theorem among_q (x n : Int) (w : World) (hn : 1 ≤ n) (hn' : n ≤ 9223372036854775807) :
    Calls Try.prog 9 #[.int .i64 x, .int .i64 n] w fun e w' => e = .returned (.int .i64 (among x n)) ∧ w' = w :=
  (among_any x n w hn hn').mono fun _ _ h => ⟨h.1, h.2.symm⟩

set_option maxRecDepth 20000 in
set_option maxHeartbeats 1000000 in
theorem play_any (W0 W : World) (lw : Nat) (L : LawS) (a : Option Addr) (c : Nat) (moves : List MoveS) (slow : Bool) (h : LawAny W0 W lw L) (ok : LOk L) {b : Nat} (hf : Fits L b) (hb : b ≤ 10000) (hm : MovesAt W0 a moves) (_ : moves.length ≤ maxLen) (_ : L.good ≤ L.n) (hn : L.n ≤ 100) :
    Calls Try.prog 11 #[.pointer (some ⟨lw, 0, none⟩), .slice a moves.length c, .bool slow] W fun e W' => e = .returned (.bool (playN slow (moves.take 200) L).1) ∧ LawAny W0 W' lw (playN slow (moves.take 200) L).2 := by
  have H := hid (And.intro h (And.intro ok hf))
  have HMV := hid hm
  clear h ok hf hm
  go_enter Try.func11, Try.ntmps11
  go_wp2_with fail
  go_loopg [7] (moves.length) (fun gk i W' => ∃ (j : Nat) (L' : LawS), i = nat j ∧ gk + j = moves.length ∧ j ≤ 200 ∧ playN slow ((moves.take 200).drop j) L' = playN slow (moves.take 200) L ∧ LawAny W0 W' lw L' ∧ LOk L' ∧ Fits L' (b + j) ∧ L'.n = L.n ∧ L'.good = L.good)
  case atStart => exact ⟨0, L, rfl, rfl, by omega, rfl, H.out.1, H.out.2.1, H.out.2.2, rfl, rfl⟩
  case round =>
    obtain ⟨j, L', rfl, hj, hj200, hpl, hLA, ok', hf', hn', hg'⟩ := hrel
    have hg1 := ok'.g1
    have hg2 := ok'.g2
    by_cases hjn : j < moves.length
    · by_cases hj2 : j < 200
      · have hmj : moves[j]? = some moves[j] := List.getElem?_eq_getElem hjn
        obtain ⟨mb, mo, rfl, hmb, hmc⟩ := HMV.out.cell j _ hmj
        generalize moves[j] = m at hmj hmc
        have hdrop : (moves.take 200).drop j = m :: (moves.take 200).drop (j + 1) := by
          have : (moves.take 200)[j]? = some m := by rw [List.getElem?_take, if_pos hj2]; exact hmj
          rw [List.drop_eq_getElem_cons (List.getElem?_eq_some_iff.1 this).1, (List.getElem?_eq_some_iff.1 this).2]
        rw [hdrop, playN] at hpl
        have HL' := hid (And.intro hLA (And.intro ok' (And.intro hf' (And.intro hpl (And.intro hn' hg')))))
        obtain ⟨vn, vt, vw, va, pl, hI⟩ := hLA
        have hmw : ∀ j' u, m.cells[j']? = some u → wr.cell? ⟨mb, mo + j * 7 + j', none⟩ = some u := fun j' u hu => hI.old.cell (hmc j' u hu) (by simp)
        have m0 : wr.cell? ⟨mb, mo + j * 7, none⟩ = some (.int .i64 m.do_) := hmw 0 _ rfl
        have m1 : wr.cell? ⟨mb, mo + j * 7 + 1, none⟩ = some (.int .i64 m.at_) := hmw 1 _ rfl
        have m2 : wr.cell? ⟨mb, mo + j * 7 + 2, none⟩ = some (.int .i64 m.from_) := hmw 2 _ rfl
        have m3 : wr.cell? ⟨mb, mo + j * 7 + 3, none⟩ = some (.int .i64 m.to_) := hmw 3 _ rfl
        have m4 : wr.cell? ⟨mb, mo + j * 7 + 4, none⟩ = some (.int .i64 m.kind) := hmw 4 _ rfl
        have m5 : wr.cell? ⟨mb, mo + j * 7 + 5, none⟩ = some (.int .i64 m.round) := hmw 5 _ rfl
        have m6 : wr.cell? ⟨mb, mo + j * 7 + 6, none⟩ = some (.string m.val) := hmw 6 _ rfl
        have l2 : wr.cell? ⟨lw, 2, none⟩ = some (nat L'.good) := by rw [cell_at hI.law.cells]; rfl
        have j0 : (0 : Int) ≤ (j : Int) := Int.natCast_nonneg _
        have j1 : (j : Int) < (moves.length : Int) := by omega
        have j2 : decide ((j : Int) < 200) = true := decide_eq_true (by omega)
        have hr : 0 ≤ among m.do_ 10 ∧ among m.do_ 10 < 10 := ⟨Int.emod_nonneg _ (by omega), Int.emod_lt_of_pos _ (by omega)⟩
        have hr2 : 0 ≤ among m.to_ L'.good ∧ among m.to_ L'.good < L'.good := ⟨Int.emod_nonneg _ (by omega), Int.emod_lt_of_pos _ (by omega)⟩
        obtain ⟨i, hi⟩ : ∃ i : Nat, (i : Int) = among m.to_ L'.good := ⟨(among m.to_ L'.good).toNat, by omega⟩
        have hil : i < L'.good := by omega
        have HI := hid hi
        have hlt : lw < wr.heap.size := lt_of_block hI.law.cells
        have hnew := get_new wr (.cells #[.int .i64 m.do_, .int .i64 m.at_, .int .i64 m.from_, .int .i64 m.to_, .int .i64 m.kind, .int .i64 m.round, .string m.val] 70)
        have hma : Mod [] wr (wr.alloc (.cells #[.int .i64 m.do_, .int .i64 m.at_, .int .i64 m.from_, .int .i64 m.to_, .int .i64 m.kind, .int .i64 m.round, .string m.val] 70)) := Mod.alloc (Mod.refl _ _) _
        have HN := hid (And.intro hnew hma)
        have HIN := hid (hI.mod0 hma)
        have HJ := hid (And.intro hj hj2)
        clear hmc hmw hpl ok' hf' hdrop hI hnew hma hi hj hn' hg'
        go_upto_region 5 with fail
        generalize (wr.alloc (.cells #[.int .i64 m.do_, .int .i64 m.at_, .int .i64 m.from_, .int .i64 m.to_, .int .i64 m.kind, .int .i64 m.round, .string m.val] 70)) = W1 at *
        have b0 : W1.cell? ⟨wr.heap.size, 0, none⟩ = some (.int .i64 m.do_) := cell_at HN.out.1 0
        have b1 : W1.cell? ⟨wr.heap.size, 1, none⟩ = some (.int .i64 m.at_) := cell_at HN.out.1 1
        have b2 : W1.cell? ⟨wr.heap.size, 2, none⟩ = some (.int .i64 m.from_) := cell_at HN.out.1 2
        have b3 : W1.cell? ⟨wr.heap.size, 3, none⟩ = some (.int .i64 m.to_) := cell_at HN.out.1 3
        have b4 : W1.cell? ⟨wr.heap.size, 4, none⟩ = some (.int .i64 m.kind) := cell_at HN.out.1 4
        have b5 : W1.cell? ⟨wr.heap.size, 5, none⟩ = some (.int .i64 m.round) := cell_at HN.out.1 5
        have b6 : W1.cell? ⟨wr.heap.size, 6, none⟩ = some (.string m.val) := cell_at HN.out.1 6
        have l0' : W1.cell? ⟨lw, 0, none⟩ = some (nat L'.n) := by rw [cell_at HIN.out.law.cells]; rfl
        have l2' : W1.cell? ⟨lw, 2, none⟩ = some (nat L'.good) := by rw [cell_at HIN.out.law.cells]; rfl
        clear m0 m1 m2 m3 m4 m5 m6 l2
        go_quiet ((go_at_call 9; exact Calls.quiet_of_same (among_q _ _ _ (by omega) (by omega))))
        rw [← HI.out]
        go_upto_block 2 with (first | (go_at_call 9; refine (among_any _ _ _ (by omega) (by omega)).mono ?_; rintro e w' ⟨rfl, rfl⟩))
        have hmv0 : (among m.to_ L'.good).toNat = i := by rw [← HI.out]; rfl
        obtain ⟨D, hD⟩ : ∃ D, D = among m.do_ 10 := ⟨_, rfl⟩
        rw [← hD]
        rw [← hD] at hr
        have HD := hid hD
        clear hD
        go_cut [0] (fun pv wx => pv = .pointer (some ⟨lw, 0, none⟩) ∧ LawAny W0 wx lw (moveS slow L' m))
        case first =>
          have hms : moveS slow L' m = if D = 7 ∧ slow = true then stepS L' i timeoutS else if 7 < D ∧ L'.good < L'.n then stepS L' i (fun s => takeS s (foul L' m)) else handA L' m.at_ := by rw [HD.out]; unfold moveS; rw [hmv0]
          have hI2 : LawIn W0 (W1.drewN nq) lw vn vt vw va pl L' := HIN.out.mod0 ((Mod.refl _ _).drewN _)
          have c0 : (W1.drewN nq).cell? ⟨lw, 0, none⟩ = some (nat L'.n) := l0'
          have c1 : (W1.drewN nq).cell? ⟨lw, 2, none⟩ = some (nat L'.good) := l2'
          have hb0 := And.intro b0 (And.intro b1 (And.intro b2 (And.intro b3 (And.intro b4 (And.intro b5 b6)))))
          have hB0 : (W1.drewN nq).heap[wr.heap.size]? = some (.cells #[.int .i64 m.do_, .int .i64 m.at_, .int .i64 m.from_, .int .i64 m.to_, .int .i64 m.kind, .int .i64 m.round, .string m.val] 70 (0, 0)) := HN.out.1
          clear b0 b1 b2 b3 b4 b5 b6 l0' l2' hb0 HIN HN
          generalize W1.drewN nq = W2 at *
          have hin : i < L'.nodes.length := by rw [HL'.out.2.1.len]; exact hil
          have hip : i < pl.length := by rw [hI2.law.len]; exact hin
          obtain ⟨s, hs⟩ : ∃ s, L'.nodes[i]? = some s := ⟨_, List.getElem?_eq_getElem hin⟩
          obtain ⟨p, hp⟩ : ∃ p, pl[i]? = some p := ⟨_, List.getElem?_eq_getElem hip⟩
          have hsok := HL'.out.2.1.nodes s (List.mem_of_getElem? hs)
          have hnode := hI2.law.node i p s hp hs
          obtain ⟨nb, nc, rfl⟩ := hI2.law.form (by omega)
          have n1 := hI2.law.at hp
          have l3 : W2.cell? ⟨lw, 3, none⟩ = some (.slice (some ⟨nb, 0, none⟩) pl.length nc) := by rw [cell_at hI2.law.cells]; rfl
          have i0 : (0 : Int) ≤ (i : Int) := Int.natCast_nonneg _
          have i1 : (i : Int) < (pl.length : Int) := by omega
          have hfit := HL'.out.2.2.1
          have hf1 : L'.dest.length ≤ 1000000 := by rw [HL'.out.2.1.same]; have := hfit.1; omega
          have hf2 : L'.wait.length ≤ 1000000 := by have := hfit.1; omega
          have hf3 : L'.all.length ≤ 1000000 := by have := hfit.2; omega
          have HF := hid (And.intro hf1 (And.intro hf2 hf3))
          have HI2 := hid hI2
          have HS := hid (And.intro hs (And.intro hp (And.intro hsok hnode)))
          have HB0 := hid hB0
          have HMS := hid hms
          clear hI2 hs hp hsok hnode hfit hf1 hf2 hf3 hB0 hms hmv0
          by_cases h7 : D = 7
          · subst h7
            cases slow with
            | true =>
              have hmv : moveS true L' m = sendS { L' with nodes := L'.nodes.set i (timeoutS s).1 } (timeoutS s).2 := by rw [HMS.out, if_pos ⟨rfl, rfl⟩, stepS_some HS.out.1]
              have HM := hid hmv
              have htime := timeout_any W2 p s HS.out.2.2.2 HS.out.2.2.1
              have hstep := fun (w' : World) (v : Value) (p' : Loc) hn hm hd hx => HI2.out.step (v := v) (W' := w') (p' := p') (s' := (timeoutS s).1) (out := (timeoutS s).2) HS.out.2.1 hn hm hd hx
              have HT := hid htime
              have HSTEP := hid hstep
              clear hmv htime hstep
              go_wp2_with (first
                | (go_at_call 20; refine HT.out.mono ?_; rintro e w' ⟨p', v, rfl, hn7, hms7, hm7, hx7⟩; obtain ⟨hI7, hA7⟩ := HSTEP.out _ _ _ hn7 hms7 hm7 hx7; have HI7 := hid hI7; have HA7 := hid hA7; clear hn7 hms7 hm7 hx7 hI7 hA7)
                | (go_at_call 26; refine (send_any _ lw _ vt vw va _ _ _ _ HI7.out.law HA7.out (by show L'.good ≤ 100; omega) (by have := timeoutS_few s; omega) HF.out.1 HF.out.2.1 HF.out.2.2).mono ?_; intro e w' hsp; obtain ⟨rfl, hL3⟩ := HI7.out.sent hsp; have HL3 := hid hL3; clear hsp hL3))
              go_meet
              exact ⟨rfl, by rw [HM.out]; exact HL3.out⟩
            | false =>
              have hmv : moveS false L' m = handA L' m.at_ := by rw [HMS.out, if_neg (by simp), if_neg (by omega)]
              have HM := hid hmv; clear hmv; go_wp2_with fail; go_quiet (fail); generalize hW3 : W2.drewN _ = W3 at *; have hhand3 := hand_any W0 W3 lw L' m.at_ (by rw [← hW3]; exact ⟨_, _, _, _, _, HI2.out.mod0 ((Mod.refl _ _).drewN _)⟩) HL'.out.2.1 HL'.out.2.2.1 (by omega); have b1' : W3.cell? ⟨wr.heap.size, 1, none⟩ = some (.int .i64 m.at_) := by rw [← hW3]; exact cell_at HB0.out 1
              have HH3 := hid hhand3; clear hhand3 hW3; go_wp2_with (first | (go_at_call 27; refine HH3.out.mono ?_; rintro e w' ⟨rfl, hL3⟩; have HL3 := hid hL3; clear hL3)); go_meet; exact ⟨rfl, by rw [HM.out]; exact HL3.out⟩
          · have d7 : (D == 7) = false := by simpa using h7
            by_cases h8 : 7 < D
            · have d8 := decide_eq_true h8
              by_cases hgn' : L'.good < L'.n
              · have dg : decide ((L'.good : Int) < (L'.n : Int)) = true := decide_eq_true (by omega)
                have hmv : moveS slow L' m = sendS { L' with nodes := L'.nodes.set i (takeS s (foul L' m)).1 } (takeS s (foul L' m)).2 := by
                  rw [HMS.out, if_neg (by rintro ⟨h, _⟩; exact h7 h), if_pos ⟨h8, hgn'⟩, stepS_some HS.out.1]
                have HM := hid hmv
                clear hmv
                go_wp2_with fail
                go_quiet (fail)
                generalize hW3 : W2.drewN _ = W3 at *
                have hI3 : LawIn W0 W3 lw (.slice (some ⟨nb, 0, none⟩) pl.length nc) vt vw va pl L' := by rw [← hW3]; exact HI2.out.mod0 ((Mod.refl _ _).drewN _)
                have hB3 : W3.heap[wr.heap.size]? = some (.cells #[.int .i64 m.do_, .int .i64 m.at_, .int .i64 m.from_, .int .i64 m.to_, .int .i64 m.kind, .int .i64 m.round, .string m.val] 70 (0, 0)) := by rw [← hW3]; exact HB0.out
                clear hW3 c0 c1 l3 n1
                have f1 : W3.cell? ⟨lw, 0, none⟩ = some (nat L'.n) := by rw [cell_at hI3.law.cells]; rfl
                have f2 : W3.cell? ⟨lw, 2, none⟩ = some (nat L'.good) := by rw [cell_at hI3.law.cells]; rfl
                have f3 : W3.cell? ⟨wr.heap.size, 2, none⟩ = some (.int .i64 m.from_) := cell_at hB3 2
                have hn100 : L'.n ≤ 100 := by have := HL'.out.2.2.2.2.1; omega
                have hr3 : 0 ≤ among m.from_ ((L'.n : Int) - L'.good) ∧ among m.from_ ((L'.n : Int) - L'.good) < (L'.n : Int) - L'.good := ⟨Int.emod_nonneg _ (by omega), Int.emod_lt_of_pos _ (by omega)⟩
                have q1 : IntKind.i64.wrap ((L'.n : Int) - L'.good) = (L'.n : Int) - L'.good := IntWalk.i64_in _ (by omega)
                have q2 : IntKind.i64.wrap ((L'.good : Int) + 1) = (L'.good : Int) + 1 := IntWalk.i64_in _ (by omega)
                obtain ⟨fr, hfr⟩ : ∃ fr : Int, fr = (L'.good : Int) + 1 + among m.from_ ((L'.n : Int) - L'.good) := ⟨_, rfl⟩
                have q3 : IntKind.i64.wrap ((L'.good : Int) + 1 + among m.from_ ((L'.n : Int) - L'.good)) = fr := by rw [hfr]; exact IntWalk.i64_in _ (by omega)
                have HFR := hid hfr
                have HI3 := hid hI3
                have HB3 := hid hB3
                clear hfr hI3 hB3
                go_wp2_with fail
                go_quiet ((go_at_call 9; exact Calls.quiet_of_same (among_q _ _ _ (by omega) (by omega))))
                generalize hW4 : W3.drewN _ = W4 at *
                have hI4 : LawIn W0 W4 lw (.slice (some ⟨nb, 0, none⟩) pl.length nc) vt vw va pl L' := by rw [← hW4]; exact HI3.out.mod0 ((Mod.refl _ _).drewN _)
                have hB4 : W4.heap[wr.heap.size]? = some (.cells #[.int .i64 m.do_, .int .i64 m.at_, .int .i64 m.from_, .int .i64 m.to_, .int .i64 m.kind, .int .i64 m.round, .string m.val] 70 (0, 0)) := by rw [← hW4]; exact HB3.out
                have hN4 : NodeAt W4 p s := hI4.law.node i p s HS.out.2.1 HS.out.1
                clear hW4 f1 f2 f3 q1 q2 q3 hr3
                have hL4 := hI4.law
                have l3 : W4.cell? ⟨lw, 3, none⟩ = some (.slice (some ⟨nb, 0, none⟩) pl.length nc) := by rw [cell_at hL4.cells]; rfl
                have n1 := hL4.at HS.out.2.1
                have b4 : W4.cell? ⟨wr.heap.size, 4, none⟩ = some (.int .i64 m.kind) := cell_at hB4 4
                have b5 : W4.cell? ⟨wr.heap.size, 5, none⟩ = some (.int .i64 m.round) := cell_at hB4 5
                have b6 : W4.cell? ⟨wr.heap.size, 6, none⟩ = some (.string m.val) := cell_at hB4 6
                obtain ⟨cz, hcz⟩ : ∃ k : Nat, k = min m.val.size 50 := ⟨_, rfl⟩
                have cz1 : (if (50 : Int) < (m.val.size : Int) then (50 : Int) else (m.val.size : Int)) = (cz : Int) := by split <;> omega
                have cz2 : (if 50 < m.val.size then (50 : Int) else (m.val.size : Int)) = (cz : Int) := by split <;> omega
                have cz3 : cz ≤ m.val.size := by omega
                have cz4 : (0 : Int) ≤ (cz : Int) := Int.natCast_nonneg _
                have hmm : foul L' m = ⟨m.kind, fr, m.round, m.val.extract 0 cz⟩ := by rw [HFR.out, hcz]; rfl
                rw [hmm] at HM
                have hx1 : lw ∉ p.foot := hN4.ne hL4.cells (by decide)
                obtain ⟨cn, hcn⟩ := row_block hL4.nodes (k := nb) rfl
                have hx2 : nb ∉ p.foot := hN4.ne hcn (by decide)
                have hx3 : wr.heap.size ∉ p.foot := hN4.ne hB4 (by decide)
                have hfar : ∀ {x : Nat} {c : Array Value} {T : TypeId}, W4.heap[x]? = some (.cells c T (0, 0)) → T ≠ 34 → T ≠ 3 → T ≠ 39 → x ∉ lw :: (vt.ownBlock.toList ++ vw.ownBlock.toList ++ va.ownBlock.toList) := fun {x c T} hx t1 t2 t3 => by
                  simp only [List.mem_cons, List.mem_append, not_or, Option.mem_toList]
                  refine ⟨ne_ty hx hL4.cells t1, ⟨fun h => ?_, fun h => ?_⟩, fun h => ?_⟩
                  · obtain ⟨c, hc⟩ := row_block hL4.dest h; exact ne_ty hx hc t2 rfl
                  · obtain ⟨c, hc⟩ := row_block hL4.wait h; exact ne_ty hx hc t3 rfl
                  · obtain ⟨c, hc⟩ := row_block hL4.all h; exact ne_ty hx hc t3 rfl
                have hz1 := hfar hcn (by decide) (by decide) (by decide)
                have hz2 := hfar hB4 (by decide) (by decide) (by decide)
                have htake := take_any W4.drew p s ⟨m.kind, fr, m.round, m.val.extract 0 cz⟩ (hN4.mod0 (Mod.refl _ _).drew) HS.out.2.2.1
                have hstep := fun (w' : World) (v : Value) (p' : Loc) hn hm hd hx => (hI4.mod0 (Mod.refl [] W4).drew).step (v := v) (W' := w') (p' := p') (s' := (takeS s ⟨m.kind, fr, m.round, m.val.extract 0 cz⟩).1) (out := (takeS s ⟨m.kind, fr, m.round, m.val.extract 0 cz⟩).2) HS.out.2.1 hn hm hd hx
                have HTAKE := hid htake
                have HSTEP := hid hstep
                have HX := hid (And.intro hx1 (And.intro hx2 hx3))
                have HZ := hid (And.intro hz1 hz2)
                clear hN4 hx1 hx2 hx3 hz1 hz2 hfar htake hstep hI4 hL4 hcn hB4 hcz hmm
                go_wp2_with fail
                go_region_held3 (fun w' => w'.cell? ⟨lw, 3, none⟩ = some (.slice (some ⟨nb, 0, none⟩) pl.length nc) ∧ w'.cell? ⟨nb, i, none⟩ = some (.pointer (some ⟨p.x, 0, none⟩)) ∧
                    w'.cell? ⟨wr.heap.size, 4, none⟩ = some (.int .i64 m.kind) ∧ w'.cell? ⟨wr.heap.size, 5, none⟩ = some (.int .i64 m.round) ∧ w'.cell? ⟨wr.heap.size, 6, none⟩ = some (.string m.val))
                  (first
                    | exact ⟨l3, n1, b4, b5, b6⟩
                    | exact ⟨hm7.cell l3 HX.out.1, hm7.cell n1 HX.out.2.1, hm7.cell b4 HX.out.2.2, hm7.cell b5 HX.out.2.2, hm7.cell b6 HX.out.2.2⟩
                    | exact ⟨(cell_at hL8.cells 3).trans rfl, hm8.cell (hm7.cell n1 HX.out.2.1) HZ.out.1, hm8.cell (hm7.cell b4 HX.out.2.2) HZ.out.2, hm8.cell (hm7.cell b5 HX.out.2.2) HZ.out.2, hm8.cell (hm7.cell b6 HX.out.2.2) HZ.out.2⟩)
                  (first
                    | (go_at_call 22; refine HTAKE.out.mono ?_; rintro e w' ⟨p', v, rfl, hn7, hms7, hm7, hx7⟩; obtain ⟨hI7, hA7⟩ := HSTEP.out _ _ _ hn7 hms7 hm7 hx7)
                    | (go_at_call 26; refine (send_any _ lw _ vt vw va _ _ _ _ hI7.law hA7 (by show L'.good ≤ 100; omega) (by have := takeS_few s ⟨m.kind, fr, m.round, m.val.extract 0 cz⟩; omega) HF.out.1 HF.out.2.1 HF.out.2.2).mono ?_; intro e w' hsp; have hout := hI7.sent hsp; obtain ⟨rfl, vt8, vw8, va8, hL8, hm8, ht8, hw8, ha8⟩ := hsp))
                go_wp2_with fail
                go_meet
                exact ⟨rfl, by rw [HM.out]; exact hout.2⟩
              · have dg : decide ((L'.good : Int) < (L'.n : Int)) = false := decide_eq_false (by omega)
                have hmv : moveS slow L' m = handA L' m.at_ := by rw [HMS.out, if_neg (by rintro ⟨h, _⟩; exact h7 h), if_neg (by omega)]
                have HM := hid hmv; clear hmv; go_wp2_with fail; go_quiet (fail); generalize hW3 : W2.drewN _ = W3 at *; have hhand3 := hand_any W0 W3 lw L' m.at_ (by rw [← hW3]; exact ⟨_, _, _, _, _, HI2.out.mod0 ((Mod.refl _ _).drewN _)⟩) HL'.out.2.1 HL'.out.2.2.1 (by omega); have b1' : W3.cell? ⟨wr.heap.size, 1, none⟩ = some (.int .i64 m.at_) := by rw [← hW3]; exact cell_at HB0.out 1
                have HH3 := hid hhand3; clear hhand3 hW3; go_wp2_with (first | (go_at_call 27; refine HH3.out.mono ?_; rintro e w' ⟨rfl, hL3⟩; have HL3 := hid hL3; clear hL3)); go_meet; exact ⟨rfl, by rw [HM.out]; exact HL3.out⟩
            · have d8 := decide_eq_false h8
              have hmv : moveS slow L' m = handA L' m.at_ := by rw [HMS.out, if_neg (by rintro ⟨h, _⟩; exact h7 h), if_neg (by omega)]
              have HM := hid hmv; clear hmv; go_wp2_with fail; go_quiet (fail); generalize hW3 : W2.drewN _ = W3 at *; have hhand3 := hand_any W0 W3 lw L' m.at_ (by rw [← hW3]; exact ⟨_, _, _, _, _, HI2.out.mod0 ((Mod.refl _ _).drewN _)⟩) HL'.out.2.1 HL'.out.2.2.1 (by omega); have b1' : W3.cell? ⟨wr.heap.size, 1, none⟩ = some (.int .i64 m.at_) := by rw [← hW3]; exact cell_at HB0.out 1
              have HH3 := hid hhand3; clear hhand3 hW3; go_wp2_with (first | (go_at_call 27; refine HH3.out.mono ?_; rintro e w' ⟨rfl, hL3⟩; have HL3 := hid hL3; clear hL3)); go_meet; exact ⟨rfl, by rw [HM.out]; exact HL3.out⟩
        case rest =>
          obtain ⟨rfl, hLA2⟩ := hcut
          have ok2 := moveS_ok HL'.out.2.1 slow m
          have hfit2 := moveS_fits HL'.out.2.2.1 hg2 slow m
          have hsm2 := moveS_same slow L' m
          have hpl2 := HL'.out.2.2.2.1
          generalize moveS slow L' m = L2 at *
          have hag := agree_any W0 wc lw L2 hLA2 ok2
          have HAG := hid hag
          have HLA2 := hid hLA2
          have H2 := hid (And.intro ok2 (And.intro hfit2 hsm2))
          have HPL := hid hpl2
          clear hag hLA2 ok2 hfit2 hsm2 hpl2
          cases hab : agreeS L2 with
          | true =>
            rw [hab, if_pos rfl] at HPL
            rw [hab] at HAG
            go_wp2_with (first | (go_at_call 13; refine HAG.out.mono ?_; rintro e w' ⟨rfl, hm2⟩; have HM2 := hid hm2; clear hm2))
            go_roundg (gk - 1)
            case measure => have := HJ.out; omega
            case rel =>
              have := HJ.out
              exact ⟨j + 1, L2, by go_num, by omega, by omega, HPL.out, (by obtain ⟨a1, a2, a3, a4, a5, a6⟩ := HLA2.out; exact ⟨a1, a2, a3, a4, a5, a6.mod0 HM2.out⟩), H2.out.1, H2.out.2.1.le (by omega), by rw [H2.out.2.2.1]; exact HL'.out.2.2.2.2.1, by rw [H2.out.2.2.2.2]; exact HL'.out.2.2.2.2.2⟩
          | false =>
            rw [hab, if_neg (by simp)] at HPL
            rw [hab] at HAG
            go_wp2_with (first | (go_at_call 13; refine HAG.out.mono ?_; rintro e w' ⟨rfl, hm2⟩; have HM2 := hid hm2; clear hm2))
            go_ret
            rw [← HPL.out]
            exact ⟨rfl, (by obtain ⟨a1, a2, a3, a4, a5, a6⟩ := HLA2.out; exact ⟨a1, a2, a3, a4, a5, a6.mod0 HM2.out⟩)⟩
      · have hd : (moves.take 200).drop j = [] := List.drop_eq_nil_of_le (by simp; omega)
        rw [hd, playN] at hpl
        have HPL := hid hpl
        have HLA := hid hLA
        have j1 : decide ((j : Int) < (moves.length : Int)) = true := decide_eq_true (by omega)
        have j2 : decide ((j : Int) < 200) = false := decide_eq_false (by omega)
        clear hpl hd hLA
        go_wp2_with fail
        go_ret
        rw [← HPL.out]
        exact ⟨rfl, HLA.out⟩
    · have hd : (moves.take 200).drop j = [] := List.drop_eq_nil_of_le (by simp; omega)
      rw [hd, playN] at hpl
      have HPL := hid hpl
      have HLA := hid hLA
      have j1 : decide ((j : Int) < (moves.length : Int)) = false := decide_eq_false (by omega)
      clear hpl hd hLA
      go_wp2_with fail
      go_ret
      rw [← HPL.out]
      exact ⟨rfl, HLA.out⟩
end Go.Proofs.Ytnpmjpdndhedgaa
