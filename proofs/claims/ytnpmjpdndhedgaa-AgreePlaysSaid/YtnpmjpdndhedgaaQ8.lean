/-
  The reference's node of an agreement, walked: Timeout. No statement of a claim stands here; each contract names what it asks.
-/
import Derived.Test.YtnpmjpdndhedgaaQ7
set_option linter.unusedSimpArgs false
namespace Go.Proofs.Ytnpmjpdndhedgaa
open Go Go.RowKit Go.ChangeMaps

theorem WinSt.mono {s : NodeS} {r : Int} {left left' : Votes} {st : NodeS} {out : List Msg} (g : WinSt s r left st out) (h : ∀ e ∈ left, e ∈ left') : WinSt s r left' st out := by
  rcases g.go with ⟨h1, h2⟩ | h1
  · exact ⟨.inl ⟨h1, fun e he hw => h e (h2 e he hw)⟩⟩
  · exact ⟨.inr h1⟩

/-- While the messages are gone through. -/
structure TRel (s1 : NodeS) (k : Nat) (L : List Msg) (i : Nat) (left : Votes) (st : NodeS) (out : List Msg) : Prop where
  win : WinSt s1 (k : Int) left st out
  sub : ∀ e ∈ left, e ∈ s1.hd (2, (k : Int))
  nd : (left.map (·.2.2)).Nodup
  eq : left.map (fun e => (e.1, e.2.1)) = ((L.drop i).filter fun m => decide (m.seat = (2, (k : Int)))).map fun m => (m.from_, m.val)

theorem TRel.step {s1 st : NodeS} {k i : Nat} {L : List Msg} {left : Votes} {out : List Msg} {m : Msg} (h : TRel s1 k L i left st out) (ho : NOk s1) (hr : s1.round = (k : Int)) (hm : L[i]? = some m) (hk : m.kind = 2) (hmr : m.round = (k : Int)) :
    ∃ left', TRel s1 k L (i + 1) left' (wonS st k m.val).1 (out ++ (wonS st k m.val).2) := by
  have hi := (List.getElem?_eq_some_iff.1 hm).1
  have hd : L.drop i = m :: L.drop (i + 1) := by rw [List.drop_eq_getElem_cons hi]; rw [(List.getElem?_eq_some_iff.1 hm).2]
  have hs : decide (m.seat = (2, (k : Int))) = true := decide_eq_true (by unfold Msg.seat; rw [hk, hmr])
  have e := h.eq
  rw [hd, List.filter_cons, if_pos hs, List.map_cons] at e
  cases hl : left with
  | nil => rw [hl] at e; cases e
  | cons x left' =>
    rw [hl, List.map_cons] at e
    simp only [List.cons.injEq, Prod.mk.injEq] at e
    have hx := h.sub x (by rw [hl]; simp)
    have hw := h.win.step ho hr hx
    rw [e.1.2, hl] at hw
    have hnd := h.nd
    rw [hl, List.map_cons, List.nodup_cons] at hnd
    refine ⟨left', hw.mono (fun y hy => ?_), fun y hy => h.sub y (by rw [hl]; exact List.mem_cons_of_mem _ hy), hnd.2, e.2⟩
    obtain ⟨h1, h2⟩ := List.mem_filter.1 hy
    rcases List.mem_cons.1 h1 with rfl | h3
    · simp at h2
    · exact h3
theorem TRel.skip {s1 st : NodeS} {k i : Nat} {L : List Msg} {left : Votes} {out : List Msg} {m : Msg} (h : TRel s1 k L i left st out) (hm : L[i]? = some m) (hk : ¬ (m.kind = 2 ∧ m.round = (k : Int))) : TRel s1 k L (i + 1) left st out := by
  have hi := (List.getElem?_eq_some_iff.1 hm).1
  have hd : L.drop i = m :: L.drop (i + 1) := by rw [List.drop_eq_getElem_cons hi]; rw [(List.getElem?_eq_some_iff.1 hm).2]
  have hs : decide (m.seat = (2, (k : Int))) = false := decide_eq_false (fun e => hk ⟨congrArg Prod.fst e, congrArg Prod.snd e⟩)
  have e := h.eq
  rw [hd, List.filter_cons, if_neg (by rw [hs]; simp)] at e
  exact ⟨h.win, h.sub, h.nd, e⟩
theorem TRel.stop {s1 st : NodeS} {k i : Nat} {L : List Msg} {left : Votes} {out : List Msg} (h : TRel s1 k L i left st out) (ho : NOk s1) (hi : L.length ≤ i) : (st, out) = winS s1 k := by
  have e := h.eq
  rw [List.drop_eq_nil_of_le hi] at e
  have : left = [] := by simpa using e
  have hw := h.win
  rw [this] at hw
  exact hw.stop ho
theorem TRel.le {s1 st : NodeS} {k i : Nat} {L : List Msg} {left : Votes} {out : List Msg} (h : TRel s1 k L i left st out) (he : LE s1 L) : LE st L := by
  rcases h.win.go with ⟨h1, -⟩ | ⟨v, -, h2⟩
  · rw [(Prod.mk.inj h1).1]; exact he
  · rw [show st = (wonS s1 k v).1 from congrArg Prod.fst h2]
    exact he.run (run_won s1 k v (by omega))

set_option maxRecDepth 20000 in
set_option maxHeartbeats 4000000 in
theorem refTimeout_any (w : World) (b : Nat) (vL : Value) (s : NodeS) (L : List Msg) (h : RefAt w b vL s L) (ho : NOk s) (he : LE s L) (hl : L.length ≤ 1000) :
    Calls Try.prog 21 #[.pointer (some ⟨b, 0, none⟩)] w (RPost w b vL L (timeoutS s)) := by
  obtain ⟨-, -, -, -, -, c5, -, -, -, -, hf⟩ := h.all
  have H := hid h
  have HE := hid (And.intro ho he)
  clear h ho he
  by_cases h1 : s.round < 0
  · have ht : timeoutS s = (s, []) := by unfold timeoutS; rw [if_pos (.inl h1)]
    have HT := hid ht
    have d1 := decide_eq_true h1
    clear h1 ht
    go_enter Try.func21, Try.ntmps21
    go_wp2_with fail
    go_ret
    exact ⟨_, rfl, by rw [HT.out]; exact H.out, by rw [HT.out]; exact RMsgs.nil _ _, Mod.refl _ _⟩
  have d1 := decide_eq_false h1
  by_cases h2 : s.round = 63
  · have ht : timeoutS s = (s, []) := by unfold timeoutS; rw [if_pos (.inr h2)]
    have HT := hid ht
    have d2 : (s.round == 63) = true := by simpa using h2
    clear h1 h2 ht
    go_enter Try.func21, Try.ntmps21
    go_wp2_with fail
    go_ret
    exact ⟨_, rfl, by rw [HT.out]; exact H.out, by rw [HT.out]; exact RMsgs.nil _ _, Mod.refl _ _⟩
  have d2 : (s.round == 63) = false := by simpa using h2
  have hr1 := HE.out.1.r1
  obtain ⟨k, hk⟩ : ∃ k : Nat, (k : Int) = s.round + 1 := ⟨(s.round + 1).toNat, by omega⟩
  have hk63 : k < 64 := by omega
  have hw1 : IntKind.i64.wrap (s.round + 1) = (k : Int) := by rw [hk]; exact IntWalk.i64_in _ (by omega)
  obtain ⟨s1, hs1⟩ : ∃ s1 : NodeS, s1 = { s with round := (k : Int) } := ⟨_, rfl⟩
  have ht : timeoutS s = ((hereS (winS s1 k).1).1, (winS s1 k).2 ++ (hereS (winS s1 k).1).2) := by
    unfold timeoutS; rw [if_neg (by omega), hs1, hk]
  have hO1 : NOk s1 := by
    have ho := HE.out.1
    rw [hs1]
    exact ⟨ho.n0, ho.n1, ho.t0, ho.t1, ho.me0, ho.me1, by dsimp only; omega, by dsimp only; omega, ho.lr0, ho.lr1, ho.vok, ho.frm⟩
  have hle1 : LE s1 L := HE.out.2.same (by rw [hs1]) (by rw [hs1])
  have hsr : s1.round = (k : Int) := by rw [hs1]
  have hset : RefAt (w.setCell ⟨b, 5, none⟩ (.int .i64 (k : Int))) b vL s1 L := by rw [hs1]; exact H.out.set 5 _ _ rfl
  have hmod : Mod [b] w (w.setCell ⟨b, 5, none⟩ (.int .i64 (k : Int))) := (Mod.refl _ _).setCell (by simp) _
  have hold := hset.old
  have hma := Mod.alloc (Mod.refl [] (w.setCell ⟨b, 5, none⟩ (.int .i64 (k : Int)))) (.cells #[] 59)
  have hO := RMsgs.empty (B := (w.setCell ⟨b, 5, none⟩ (.int .i64 (k : Int))).heap.size) (get_new (w.setCell ⟨b, 5, none⟩ (.int .i64 (k : Int))) (.cells #[] 59)) (Nat.le_refl _)
  have hz : w.heap.size ≤ (w.setCell ⟨b, 5, none⟩ (.int .i64 (k : Int))).heap.size := hmod.size
  have hz2 : (w.setCell ⟨b, 5, none⟩ (.int .i64 (k : Int))).heap.size ≤ ((w.setCell ⟨b, 5, none⟩ (.int .i64 (k : Int))).alloc (.cells #[] 59)).heap.size := hma.size
  have hstart : TRel s1 k L 0 (s1.hd (2, (k : Int))) s1 [] := ⟨WinSt.start _ _, fun _ h => h, (hO1.vok _).born, by rw [hle1.eq]; rfl⟩
  have HT := hid ht
  have HS1 := hid (And.intro hO1 (And.intro hle1 hsr))
  have H1 := hid (And.intro (hset.mod0 hma) (And.intro hO (And.intro (hmod.alloc (.cells #[] 59)) hz2)))
  have HZ := hid (And.intro hold.b (And.intro hold.v hz))
  have HST := hid hstart
  clear h1 h2 hr1 hk ht hO1 hle1 hsr hset hmod hold hma hO hz hz2 hs1 hstart
  go_enter Try.func21, Try.ntmps21
  go_wp2_with fail
  have hzz : (w.setCell ⟨b, 5, none⟩ (.int .i64 (k : Int))).heap.size = w.heap.size := by simp
  rw [hzz] at HZ H1
  clear hzz
  generalize ((w.setCell ⟨b, 5, none⟩ (.int .i64 (k : Int))).alloc (.cells #[] 59)) = W1 at *
  go_loopg [3, 4] L.length (fun gk ov i W' => ∃ (j : Nat) (left : Votes) (st : NodeS) (out : List Msg), i = nat j ∧ gk + j = L.length ∧ TRel s1 k L j left st out ∧ RefAt W' b vL st L ∧ RMsgs w.heap.size W' ov out ∧ Mod [b] w W' ∧ w.heap.size ≤ W'.heap.size)
  case atStart => exact ⟨0, _, s1, [], rfl, by omega, HST.out, H1.out.1, H1.out.2.1, H1.out.2.2.1, H1.out.2.2.2⟩
  case round =>
    obtain ⟨j, left, st, out, rfl, hj, hT, hR, hO, hM, hz⟩ := hrel
    have hst := hT.win.same.1.trans HS1.out.2.2
    have hle := hT.le HS1.out.2.1
    have hok := hT.win.ok HS1.out.1 (Int.natCast_nonneg _) (by omega)
    have hfew := hT.win.few
    obtain ⟨-, -, -, -, c4, c5, -, -, -, -, -⟩ := hR.all
    rw [hst] at c5
    by_cases hjn : j < L.length
    · obtain ⟨m, hm⟩ : ∃ m, L[j]? = some m := ⟨_, List.getElem?_eq_getElem hjn⟩
      obtain ⟨g, c', e, -⟩ := row_pos hR.row (by omega)
      subst e
      obtain ⟨x0, x1, x2, x3⟩ := ref_msg hR.row hm
      have j0 : (0 : Int) ≤ (j : Int) := Int.natCast_nonneg _
      have j1 : (j : Int) < (L.length : Int) := by omega
      have HT2 := hid (And.intro hT hm)
      have HR := hid (And.intro hR (And.intro hO (And.intro hM hz)))
      have HO := hid (And.intro hok (And.intro hle (And.intro hst hfew)))
      clear hT hm hR hO hM hz hok hle hst hfew
      by_cases k2 : m.kind = 2
      · rw [k2] at x0
        by_cases k3 : m.round = (k : Int)
        · rw [k3] at x2
          have HK := hid (And.intro k2 k3)
          clear k2 k3
          go_wp2_with fail
          go_quiet (fail)
          generalize hW3 : (World.drewN _ _) = W3 at *
          have hR3 : RefAt W3 b (.slice (some ⟨g, 0, none⟩) L.length c') st L := by rw [← hW3]; exact HR.out.1.mod0 ((Mod.refl _ _).drewN _)
          have hO3 : RMsgs w.heap.size W3 u3 out := by rw [← hW3]; exact HR.out.2.1.mod0 ((Mod.refl _ _).drewN _)
          have hM3 : Mod [b] w W3 := by rw [← hW3]; exact HR.out.2.2.1.drewN _
          have hz3 : w.heap.size ≤ W3.heap.size := hM3.size
          clear hW3 x0 x1 x2 x3 c4 c5
          obtain ⟨-, -, -, -, c4, -, -, -, -, -, -⟩ := hR3.all
          obtain ⟨x0, x1, x2, x3⟩ := ref_msg hR3.row HT2.out.2
          rw [HK.out.1] at x0
          rw [HK.out.2] at x2
          have hvotes := votes_any0 W3 b (.slice (some ⟨g, 0, none⟩) L.length c') st L m.from_ k m.val hR3 HO.out.1 HO.out.2.1 hl hk63
          obtain ⟨left', hT'⟩ := HT2.out.1.step HS1.out.1 HS1.out.2.2 HT2.out.2 HK.out.1 HK.out.2
          have hjoin := fun (W8 : World) (v1 : Value) (hR8 : RefAt W8 b (.slice (some ⟨g, 0, none⟩) L.length c') (wonS st k m.val).1 L) (hO8 : RMsgs W3.heap.size W8 v1 (wonS st k m.val).2) (hM8 : Mod [b] W3 W8) =>
            ref_join (w := w) (Z := w.heap.size) (S := [b]) hR8 (hO3.mod hM8 (fun q hq => by have := hO3.own q hq; have := HZ.out.1; simp; omega)) hO8 hz3 hR8.cells (hM3.trans hM8) HZ.out.1 HZ.out.2.1 HZ.out.1 (Nat.le_trans hz3 hM8.size) (Nat.le_refl _) (by have := wonS_len st k m.val; have := HO.out.2.2.2; omega)
          have HV := hid hvotes
          have HJ := hid hjoin
          have HT3 := hid hT'
          clear hR3 hO3 hM3 hz3 hvotes hjoin hT'
          go_wp2_with (first
            | (go_at_call 32; refine HV.out.mono ?_; rintro e W8 ⟨v1, rfl, hR8, hO8, hM8⟩; have HJ8 := hid (HJ.out W8 v1 hR8 hO8 hM8); clear hR8 hO8 hM8)
            | (at_builtin; refine wpList_app_run rfl _ _ 51 rfl _ _ rfl rfl _ HJ8.out ?_; rintro v3 w3 h3; have H9 := hid h3; clear h3))
          go_roundg (gk - 1)
          case measure => omega
          case rel => exact ⟨j + 1, left', _, _, by go_num, by omega, HT3.out, H9.out.1, H9.out.2.1, H9.out.2.2.2.1, H9.out.2.2.2.2⟩
        · have k3' : (m.round == (k : Int)) = false := by simpa using k3
          have hT' := HT2.out.1.skip HT2.out.2 (fun h => k3 h.2)
          have HT3 := hid hT'
          clear hT' k2
          go_wp2_with fail
          go_quiet (fail)
          go_wp2_with fail
          go_roundg (gk - 1)
          case measure => omega
          case rel => exact ⟨j + 1, left, st, out, by go_num, by omega, HT3.out, HR.out.1.mod0 ((Mod.refl _ _).drewN _), HR.out.2.1.mod0 ((Mod.refl _ _).drewN _), HR.out.2.2.1.drewN _, HR.out.2.2.2⟩
      · have k2' : (m.kind == 2) = false := by simpa using k2
        have hT' := HT2.out.1.skip HT2.out.2 (fun h => k2 h.1)
        have HT3 := hid hT'
        clear hT'
        go_wp2_with fail
        go_quiet (fail)
        go_wp2_with fail
        go_roundg (gk - 1)
        case measure => omega
        case rel => exact ⟨j + 1, left, st, out, by go_num, by omega, HT3.out, HR.out.1.mod0 ((Mod.refl _ _).drewN _), HR.out.2.1.mod0 ((Mod.refl _ _).drewN _), HR.out.2.2.1.drewN _, HR.out.2.2.2⟩
    · have hwin := hT.stop HS1.out.1 (by omega)
      have ht : timeoutS s = ((hereS st).1, out ++ (hereS st).2) := by rw [HT.out, ← hwin]
      have hround := round_ref wr b vL st L hR hok hle hl k hst hk63
      have hjoin := fun (W9 : World) (v1 : Value) (hR9 : RefAt W9 b vL (hereS st).1 L) (hO9 : RMsgs wr.heap.size W9 v1 (hereS st).2) (hM9 : Mod [b] wr W9) =>
        ref_join (w := w) (Z := w.heap.size) (S := [b]) hR9 (hO.mod hM9 (fun q hq => by have := hO.own q hq; have := HZ.out.1; simp; omega)) hO9 hz hR9.cells (hM.trans hM9) HZ.out.1 HZ.out.2.1 HZ.out.1 (Nat.le_trans hz hM9.size) (Nat.le_refl _) (by have := (hereS_same st).2; omega)
      obtain ⟨aL, kL, rfl⟩ := row_slice hR.row
      have j1 : ¬ (j : Int) < (L.length : Int) := by omega
      have HR := hid hround
      have HJ := hid hjoin
      have HT2 := hid ht
      clear hT hst hle hok hfew hR hO hM hz hwin ht hround hjoin c5 HT
      go_wp2_with (first
        | (go_at_call 30; refine HR.out.mono ?_; rintro e W9 ⟨v1, rfl, hR9, hO9, hM9⟩; have HJ9 := hid (HJ.out W9 v1 hR9 hO9 hM9); clear hR9 hO9 hM9)
        | (at_builtin; refine wpList_app_run rfl _ _ 51 rfl _ _ rfl rfl _ HJ9.out ?_; rintro v3 w3 h3; have H9 := hid h3; clear h3))
      go_ret
      have hr9 : RefAt w3 b (.slice aL L.length kL) (timeoutS s).1 L := by rw [HT2.out]; exact H9.out.1
      have hm9 : RMsgs w.heap.size w3 v3 (timeoutS s).2 := by rw [HT2.out]; exact H9.out.2.1
      have hd9 := H9.out.2.2.2.1
      generalize timeoutS s = T at *
      exact ⟨v3, rfl, hr9, hm9, hd9⟩
end Go.Proofs.Ytnpmjpdndhedgaa
