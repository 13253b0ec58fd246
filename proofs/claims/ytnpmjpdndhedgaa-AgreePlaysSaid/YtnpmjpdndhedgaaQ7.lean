/-
  The reference's node of an agreement, walked: Take, where the message may be. No statement of a claim stands here; each contract names what it asks.
-/
import Derived.Test.YtnpmjpdndhedgaaQ6
set_option linter.unusedSimpArgs false
namespace Go.Proofs.Ytnpmjpdndhedgaa
open Go Go.RowKit Go.ChangeMaps


/-- What is handed back in two steps, put together. -/
theorem ref_join {w W : World} {Z Z1 b B0 : Nat} {X : Obj} {vL ov v1 : Value} {s : NodeS} {L o o1 : List Msg} {S : List Nat} (hR : RefAt W b vL s L) (hO : RMsgs Z W ov o) (h1 : RMsgs Z1 W v1 o1) (hZ1 : Z ≤ Z1) (hX : W.heap[B0]? = some X) (hM : Mod S w W)
    (hb : b < Z) (hv : ∀ k, vL.ownBlock = some k → k < Z) (hB0 : B0 < Z) (hZ : Z ≤ W.heap.size) (hwZ : w.heap.size ≤ Z) (hl : o.length + o1.length ≤ 1000) :
    ∃ v' w', (Builtin.append_ #[51, 51] 51 #[ov, v1]).run Try.prog W = .ok v' w' ∧ (RefAt w' b vL s L ∧ RMsgs Z w' v' (o ++ o1) ∧ w'.heap[B0]? = some X ∧ Mod S w w' ∧ Z ≤ w'.heap.size) := by
  obtain ⟨v', w', hr, h2, h3, h4⟩ := hO.app (h1.lower hZ1) hl hZ
  refine ⟨v', w', hr, hR.mod h3 (own_not fun k hk => by have := hO.own k hk; omega) (fun k hk hk2 => by have := hO.own k (by simpa using hk2); have := hv k hk; omega), h2, h3.get hX (own_not fun k hk => by have := hO.own k hk; omega), hM.trans' h3 (fun x hx => .inr (by have := hO.own x (by simpa using hx); omega)), Nat.le_trans hZ h3.size⟩

/-- What the loads next to a count read. -/
def DoneSat (b B : Nat) (m : Msg) (s : NodeS) (w' : World) : Prop :=
  w'.cell? ⟨B, 0, none⟩ = some (.int .i64 m.kind) ∧ w'.cell? ⟨B, 1, none⟩ = some (.int .i64 m.from_) ∧ w'.cell? ⟨B, 2, none⟩ = some (.int .i64 m.round) ∧ w'.cell? ⟨B, 3, none⟩ = some (.string m.val) ∧ w'.cell? ⟨b, 0, none⟩ = some (.int .i64 s.n) ∧ w'.cell? ⟨b, 1, none⟩ = some (.int .i64 s.t) ∧ w'.cell? ⟨b, 201, none⟩ = some (.bool s.done)
theorem DoneSat.mod {b B : Nat} {m : Msg} {s : NodeS} {w w' : World} {S : List Nat} (h : DoneSat b B m s w) (hm : Mod S w w') (h1 : b ∉ S) (h2 : B ∉ S) : DoneSat b B m s w' :=
  ⟨hm.cell h.1 h2, hm.cell h.2.1 h2, hm.cell h.2.2.1 h2, hm.cell h.2.2.2.1 h2, hm.cell h.2.2.2.2.1 h1, hm.cell h.2.2.2.2.2.1 h1, hm.cell h.2.2.2.2.2.2 h1⟩

theorem take_add {s : NodeS} {m : Msg} (h0 : 0 ≤ s.round) (hm : mayS s m = true) (hk : look (s.hd m.seat) m.from_ = none) :
    takeS s m = ((hereS (actS (addS s m) m (Go.Proofs.Ytnpmjpdndhedgaa.cnt ((addS s m).hd m.seat) m.val)).1).1, (actS (addS s m) m (Go.Proofs.Ytnpmjpdndhedgaa.cnt ((addS s m).hd m.seat) m.val)).2 ++ (hereS (actS (addS s m) m (Go.Proofs.Ytnpmjpdndhedgaa.cnt ((addS s m).hd m.seat) m.val)).1).2) := by
  have hadd : addN (s.hd m.seat) m.from_ m.val = Go.Proofs.Ytnpmjpdndhedgaa.cnt ((addS s m).hd m.seat) m.val := by
    simp only [addS, upd_same]
    unfold addN addL
    rw [hk]
    rfl
  unfold takeS
  rw [if_neg (by simp only [not_or, hm]; exact ⟨by omega, by simp⟩), hk, hadd]
  rfl

set_option maxRecDepth 20000 in
set_option maxHeartbeats 4000000 in
theorem refTake_may (w : World) (b : Nat) (vL : Value) (s : NodeS) (L : List Msg) (m : Msg) (h : RefAt w b vL s L) (ho : NOk s) (he : LE s L) (hl : L.length ≤ 900) (hmay : 0 ≤ s.round ∧ mayS s m = true) :
    Calls Try.prog 23 #[.pointer (some ⟨b, 0, none⟩), .agg m.cells.toArray] w (RTPost w b vL L (takeS s m)) := by
  obtain ⟨kind, from_, round, val⟩ := m
  have hold := h.old
  have hnew := get_new w (.cells #[.int .i64 kind, .int .i64 from_, .int .i64 round, .string val] 59)
  have hma : Mod [] w (w.alloc (.cells #[.int .i64 kind, .int .i64 from_, .int .i64 round, .string val] 59)) := Mod.alloc (Mod.refl _ _) _
  have hn0 := ho.n0
  have hn1 := ho.n1
  have HOLD := hid hold
  have H := hid (And.intro (h.mod0 hma) (And.intro hnew hma))
  have HE := hid (And.intro ho he)
  clear h hnew hma hold ho he
  simp only [Msg.cells]
  go_enter Try.func23, Try.ntmps23
  go_wp2_with fail
  generalize (w.alloc (.cells #[.int .i64 kind, .int .i64 from_, .int .i64 round, .string val] 59)) = W1 at *
  obtain ⟨c0, -, -, -, c4, c5, -, -, -, -, hf⟩ := H.out.1.all
  have b0 : W1.cell? ⟨w.heap.size, 0, none⟩ = some (.int .i64 kind) := cell_at H.out.2.1 0
  have b1 : W1.cell? ⟨w.heap.size, 1, none⟩ = some (.int .i64 from_) := cell_at H.out.2.1 1
  have b2 : W1.cell? ⟨w.heap.size, 2, none⟩ = some (.int .i64 round) := cell_at H.out.2.1 2
  have b3 : W1.cell? ⟨w.heap.size, 3, none⟩ = some (.string val) := cell_at H.out.2.1 3
  have hall := may_all hmay.2
  dsimp only at hall
  have d0 : decide (s.round < 0) = false := decide_eq_false (by omega)
  have d1 : decide (kind < 1) = false := decide_eq_false (by omega)
  have d2 : decide (3 < kind) = false := decide_eq_false (by omega)
  have d3 : decide (from_ < 1) = false := decide_eq_false (by omega)
  have d4 : decide (s.n < from_) = false := decide_eq_false (by omega)
  have d5 : decide (round < 0) = false := decide_eq_false (by omega)
  have d6 : decide (64 ≤ round) = false := decide_eq_false (by omega)
  have d7 : decide ((4096 : Int) < (val.size : Int)) = false := decide_eq_false (by omega)
  have d8 : decide (4096 < val.size) = false := decide_eq_false (by omega)
  have HMAY := hid hmay.2
  have HB := hid (And.intro hmay.1 hall)
  clear hmay hall
  go_cut [61] (fun vv wx => vv = .bool false ∧ Mod [] W1 wx)
  case first => as_aux_lemma =>
    by_cases hv : val = ⟨#[]⟩
    · have hk : kind = 2 := by rcases HB.out.2.2.2.2.2.2 with h | h; exact h; exact absurd hv h.2
      rw [hv] at b3
      rw [hk] at b0 d1 d2
      clear hv hk d7 d8
      go_quiet (fail)
      go_wp2_with fail
      go_meet
      exact ⟨rfl, (Mod.refl _ _).drewN _⟩
    · obtain ⟨e1, e2⟩ := emp_false hv
      clear hv
      go_quiet (fail)
      go_wp2_with fail
      go_meet
      exact ⟨rfl, (Mod.refl _ _).drewN _⟩
  case rest =>
  obtain ⟨rfl, hM2⟩ := hcut
  have H2 := hid (And.intro (H.out.1.mod0 hM2) (And.intro (hM2.get H.out.2.1 (by simp)) (H.out.2.2.trans hM2)))
  clear c0 c4 c5 hf b0 b1 b2 b3 d0 d1 d2 d3 d4 d5 d6 d7 d8 hM2 H
  go_upto_region 3 with fail
  go_cut [77] (fun vv wx => vv = .bool false ∧ RefAt wx b vL s L ∧ wx.heap[w.heap.size]? = some (.cells #[.int .i64 kind, .int .i64 from_, .int .i64 round, .string val] 59 (0, 0)) ∧ Mod [] w wx)
  case first => as_aux_lemma =>
    obtain ⟨c0, -, -, -, -, -, -, -, -, -, -⟩ := H2.out.1.all
    have b0 : wc.cell? ⟨w.heap.size, 0, none⟩ = some (.int .i64 kind) := cell_at H2.out.2.1 0
    have b1 : wc.cell? ⟨w.heap.size, 1, none⟩ = some (.int .i64 from_) := cell_at H2.out.2.1 1
    have b2 : wc.cell? ⟨w.heap.size, 2, none⟩ = some (.int .i64 round) := cell_at H2.out.2.1 2
    by_cases k1 : kind = 1
    · obtain ⟨q, hq⟩ : ∃ q, q = round % s.n := ⟨_, rfl⟩
      have hr0 := HB.out.2.2.2.1
      have e1 : Int.tmod round s.n = q := by rw [hq]; exact Int.tmod_eq_emod_of_nonneg hr0
      have e2 : 0 ≤ q ∧ q < s.n := by rw [hq]; exact ⟨Int.emod_nonneg _ (by omega), Int.emod_lt_of_pos _ (by omega)⟩
      have e3 : IntKind.i64.wrap q = q := IntWalk.i64_in _ (by omega)
      have e4 : IntKind.i64.wrap (q + 1) = q + 1 := IntWalk.i64_in _ (by omega)
      have ne1 : (s.n == 0) = false := by rw [beq_eq_false_iff_ne]; omega
      have ne2 : ¬ s.n = 0 := by omega
      have hlead : leaderS s round = q + 1 := by unfold leaderS; rw [hq]
      rw [k1] at b0
      have hl1 : from_ = q + 1 := by
        rcases HB.out.2.2.2.2.2.2 with h | ⟨⟨_, h⟩ | h, _⟩
        · omega
        · rw [← hlead]; exact h
        · omega
      rw [hl1] at b1
      clear hq hlead hl1 k1 hr0
      go_quiet (fail)
      go_wp2_with fail
      go_meet
      exact ⟨rfl, H2.out.1.mod0 ((Mod.refl _ _).drewN _), H2.out.2.1, H2.out.2.2.drewN _⟩
    · have k1' : (kind == 1) = false := by simpa using k1
      go_quiet (fail)
      go_wp2_with fail
      go_meet
      exact ⟨rfl, H2.out.1.mod0 ((Mod.refl _ _).drewN _), H2.out.2.1, H2.out.2.2.drewN _⟩
  case rest =>
  obtain ⟨rfl, hR3, hB3, hM3⟩ := hcut
  have H3 := hid (And.intro hR3 (And.intro hB3 hM3))
  clear hR3 hB3 hM3 H2
  have hhas := HE.out.2.has ⟨kind, from_, round, val⟩
  have HHAS := hid hhas
  clear hhas
  go_wp2_with fail
  go_loopg [5] L.length (fun gk i W' => ∃ (j : Nat), i = nat j ∧ gk + j = L.length ∧ hasL (L.drop j) ⟨kind, from_, round, val⟩ = hasL L ⟨kind, from_, round, val⟩ ∧ Mod [] wc W')
  case atStart => exact ⟨0, rfl, by omega, rfl, Mod.refl _ _⟩
  case round =>
    obtain ⟨j, rfl, hj, hh, hM⟩ := hrel
    have hR := H3.out.1.mod0 hM
    have c4 := hR.all.2.2.2.2.1
    have HM := hid hM
    have H4 := hid (And.intro hR (And.intro (hM.get H3.out.2.1 (by simp)) (H3.out.2.2.trans hM)))
    by_cases hjn : j < L.length
    · as_aux_lemma =>
        obtain ⟨x, hx⟩ : ∃ m, L[j]? = some m := ⟨_, List.getElem?_eq_getElem hjn⟩
        obtain ⟨g, c', e, -⟩ := row_pos hR.row (by omega)
        subst e
        obtain ⟨x0, x1, x2, x3⟩ := ref_msg hR.row hx
        have hd : L.drop j = x :: L.drop (j + 1) := by rw [List.drop_eq_getElem_cons hjn]; rw [(List.getElem?_eq_some_iff.1 hx).2]
        rw [hd, hasL_cons] at hh
        dsimp only at hh
        have hB := hM.get H3.out.2.1 (by simp)
        have b0 : wr.cell? ⟨w.heap.size, 0, none⟩ = some (.int .i64 kind) := cell_at hB 0
        have b1 : wr.cell? ⟨w.heap.size, 1, none⟩ = some (.int .i64 from_) := cell_at hB 1
        have b2 : wr.cell? ⟨w.heap.size, 2, none⟩ = some (.int .i64 round) := cell_at hB 2
        have j0 : (0 : Int) ≤ (j : Int) := Int.natCast_nonneg _
        have j1 : (j : Int) < (L.length : Int) := by omega
        have HH := hid hh
        clear hh hd hx hM hR hB
        by_cases k1 : x.kind = kind
        · rw [k1] at x0
          by_cases k2 : x.from_ = from_
          · rw [k2] at x1
            by_cases k3 : x.round = round
            · rw [k3] at x2
              have hq : hasL L ⟨kind, from_, round, val⟩ = true := by rw [← HH.out]; simp [k1, k2, k3]
              have ht : takeS s ⟨kind, from_, round, val⟩ = (s, []) := by
                unfold takeS
                rw [if_neg (by simp only [not_or, HMAY.out]; exact ⟨by have := HB.out.1; omega, by simp⟩), if_pos (by rw [← HHAS.out]; exact hq)]
              have HT := hid ht
              clear hq ht k1 k2 k3 HH
              go_wp2_with fail
              go_quiet (fail)
              go_wp2_with fail
              go_ret
              exact ⟨_, L, _, rfl, by rw [HT.out]; exact H4.out.1.mod0 ((Mod.refl _ _).drewN _), by rw [HT.out]; exact HE.out.2, by rw [HT.out]; exact RMsgs.nil _ _, (H4.out.2.2.mono (by simp)).drewN _, fun _ h => .inl h, by omega⟩
            · have k3' : (x.round == round) = false := by simpa using k3
              have hq : hasL (L.drop (j + 1)) ⟨kind, from_, round, val⟩ = hasL L ⟨kind, from_, round, val⟩ := by rw [← HH.out]; simp [k3]
              have HQ := hid hq
              clear hq k1 k2 HH
              go_wp2_with fail
              go_quiet (fail)
              go_wp2_with fail
              go_roundg (gk - 1)
              case measure => omega
              case rel => exact ⟨j + 1, by go_num, by omega, HQ.out, HM.out.drewN _⟩
          · have k2' : (x.from_ == from_) = false := by simpa using k2
            have hq : hasL (L.drop (j + 1)) ⟨kind, from_, round, val⟩ = hasL L ⟨kind, from_, round, val⟩ := by rw [← HH.out]; simp [k2]
            have HQ := hid hq
            clear hq k1 HH
            go_wp2_with fail
            go_quiet (fail)
            go_wp2_with fail
            go_roundg (gk - 1)
            case measure => omega
            case rel => exact ⟨j + 1, by go_num, by omega, HQ.out, HM.out.drewN _⟩
        · have k1' : (x.kind == kind) = false := by simpa using k1
          have hq : hasL (L.drop (j + 1)) ⟨kind, from_, round, val⟩ = hasL L ⟨kind, from_, round, val⟩ := by rw [← HH.out]; simp [k1]
          have HQ := hid hq
          clear hq HH
          go_wp2_with fail
          go_quiet (fail)
          go_wp2_with fail
          go_roundg (gk - 1)
          case measure => omega
          case rel => exact ⟨j + 1, by go_num, by omega, HQ.out, HM.out.drewN _⟩
    · obtain ⟨aL, kL, rfl⟩ := row_slice hR.row
      have hd : L.drop j = [] := List.drop_eq_nil_of_le (by omega)
      rw [hd] at hh
      have hlook : look (s.hd (kind, round)) from_ = none := by
        have h9 : (look (s.hd (kind, round)) from_).isSome = false := by
          have := HHAS.out
          rw [← hh] at this
          exact this.symm
        exact Option.not_isSome_iff_eq_none.1 (by simpa using h9)
      have j1 : ¬ (j : Int) < (L.length : Int) := by omega
      have HL := hid hlook
      clear hh hd hlook hM hR HM
      have hRa := H4.out.1
      have hBa := H4.out.2.1
      have hMa := H4.out.2.2
      obtain ⟨im, him, hzm, hsm, hym⟩ := info_parts infoRef
      have HA := hid (And.intro hRa (And.intro hBa hMa))
      clear hRa hBa hMa H4 H3
      go_upto_region 10 with fail
      obtain ⟨-, -, -, -, c4, -, -, -, -, -, hf⟩ := HA.out.1.all
      refine wp_region_N (CountSat b w.heap.size (.slice aL L.length kL) ⟨kind, from_, round, val⟩) (fun j => !(j == 10)) (by kernel_rfl) ?_
      have hS : CountSat b w.heap.size (.slice aL L.length kL) ⟨kind, from_, round, val⟩ wr.drew := ⟨c4, cell_at HA.out.2.1 0, cell_at HA.out.2.1 1, cell_at HA.out.2.1 2, cell_at HA.out.2.1 3⟩
      refine regA 0 124 (v := ?_) rfl rfl (by kernel_rfl) (by kernel_rfl) (by kernel_rfl) (fun _ _ _ h => h) (by rfl) (fun w => ?_) ?_; rotate_left; (go_simp; first | done | with_reducible rfl); (try simp only [Act.put, List.setIfInBounds_toArray, List.set_cons_zero, List.set_cons_succ])
      refine regA 1 125 (v := ?_) rfl rfl (by kernel_rfl) (by kernel_rfl) (by kernel_rfl) (fun _ _ _ h => h) (by rfl) (fun w => ?_) ?_; rotate_left; (go_simp; first | done | with_reducible rfl); (try simp only [Act.put, List.setIfInBounds_toArray, List.set_cons_zero, List.set_cons_succ])
      refine regA 2 126 (v := ?_) rfl rfl (by kernel_rfl) (by kernel_rfl) (by kernel_rfl) (fun _ _ _ h => h) (by rfl) (fun w => ?_) ?_; rotate_left; (go_simp; first | done | with_reducible rfl); (try simp only [Act.put, List.setIfInBounds_toArray, List.set_cons_zero, List.set_cons_succ])
      refine regA 3 127 (v := ?_) rfl rfl (by kernel_rfl) (by kernel_rfl) (by kernel_rfl) (fun _ _ _ h => h) (by rfl) (fun w => ?_) ?_; rotate_left; (go_simp; first | done | with_reducible rfl); (try simp only [Act.put, List.setIfInBounds_toArray, List.set_cons_zero, List.set_cons_succ])
      refine regS 4 128 (v := ?_) hS rfl rfl (by kernel_rfl) (by kernel_rfl) (by kernel_rfl) (by kernel_rfl) (fun _ _ _ h => h) (by rfl) (fun w hSw => ?_) ?_; rotate_left; (simp only [CountSat, DoneSat, MsgSat] at hSw; go_simp; first | done | with_reducible rfl); (try simp only [Act.put, List.setIfInBounds_toArray, List.set_cons_zero, List.set_cons_succ])
      refine regS 5 129 (v := ?_) hS rfl rfl (by kernel_rfl) (by kernel_rfl) (by kernel_rfl) (by kernel_rfl) (fun _ _ _ h => h) (by rfl) (fun w hSw => ?_) ?_; rotate_left; (simp only [CountSat, DoneSat, MsgSat] at hSw; go_simp; first | done | with_reducible rfl); (try simp only [Act.put, List.setIfInBounds_toArray, List.set_cons_zero, List.set_cons_succ])
      refine regOnly 6 (by kernel_rfl) rfl (by rfl) (fun K hK => ?_)
      go_wp2_with fail
      refine hK.out _ _ (fun _ _ => hS.mod (Mod.alloc (Mod.refl [] wr.drew) _) (by simp) (by simp)) ?_
      clear hK hS
      (try simp only [Act.put, List.setIfInBounds_toArray, List.set_cons_zero, List.set_cons_succ])
      refine regAbs (fun W' => Mod [] wr W' ∧ W'.heap[wr.heap.size]? = some (.cells #[.int .i64 kind, .int .i64 from_, .int .i64 round, .string val] 59 (0, 0))) ⟨(by repeat' (first | exact Mod.refl _ _ | assumption | refine Mod.drewN ?_ _ | refine Mod.drew ?_ | refine Mod.alloc ?_ _ | refine Mod.setCell ?_ (by simp) _ | refine Mod.setBlock ?_ (by simp) _)), get_new wr.drew _⟩ ?_
      rintro W2 ⟨hm2, hb2⟩
      refine regOnly 7 (by kernel_rfl) rfl rfl (fun K hK => ?_)
      refine wp_app 131 _ _ 51 rfl rfl 59 im _ 4 40 Try.underlying51 him hzm hsm hym rfl (by omega) _ _ _ rfl (row_mod HA.out.1.row hm2 (by simp)) ⟨wr.heap.size, 0, none⟩ 1 1 (Msg.mk kind from_ round val).cells rfl rfl (news_at hb2) (by simp [Value.oneCell', Msg.cells]) (by unfold maxLen; omega) (by omega) ?_
      intro v' W' ho' hm' hk' _
      have hbv : b ∉ (Value.slice aL L.length kL).ownBlock.toList := own_not HA.out.1.rowNe
      have hBv : w.heap.size ∉ (Value.slice aL L.length kL).ownBlock.toList := own_not fun k hk => by have := HOLD.out.v k hk; omega
      refine hK.out _ _ (fun _ h => h.mod hm' hbv hBv) ?_
      clear hK
      (try simp only [Act.put, List.setIfInBounds_toArray, List.set_cons_zero, List.set_cons_succ])
      have hcnt := ref_count HA.out.1 hm2 ho' hm' hk'
      have x4 : W'.cell? ⟨b, 4, none⟩ = some (.slice aL L.length kL) := hm'.cell (hm2.cell c4 (by simp)) hbv
      have xf : ∀ i, W'.frozen? ⟨b, i, none⟩ = false := free_at (hm'.get (hm2.get HA.out.1.cells (by simp)) hbv)
      obtain ⟨g2, cap2, rfl, _, _⟩ := ho'.form (by omega)
      have hbB : w.heap.size ∉ b :: (Value.slice aL L.length kL).ownBlock.toList := by
        simp only [List.mem_cons, not_or]
        exact ⟨fun h => ne_ty HA.out.2.1 HA.out.1.cells (by decide) h, hBv⟩
      have hB5 := hcnt.2.1.get HA.out.2.1 hbB
      have H5 := hid (And.intro hcnt (And.intro hB5 hbB))
      clear hcnt hB5 hbB hbv hBv ho' hm' hk' c4 hf hm2 hb2
      refine regA 8 132 (v := ?_) rfl rfl (by kernel_rfl) (by kernel_rfl) (by kernel_rfl) (fun _ _ _ h => h) (by rfl) (fun w => ?_) ?_; rotate_left; (go_simp; first | done | with_reducible rfl); (try simp only [Act.put, List.setIfInBounds_toArray, List.set_cons_zero, List.set_cons_succ])
      refine regA 9 133 (v := ?_) rfl rfl (by kernel_rfl) (by kernel_rfl) (by kernel_rfl) (fun _ _ _ h => h) (by rfl) (fun w => ?_) ?_; rotate_left; (go_simp; first | done | with_reducible rfl); (try simp only [Act.put, List.setIfInBounds_toArray, List.set_cons_zero, List.set_cons_succ])
      refine regOnly 10 (by kernel_rfl) rfl rfl (fun K hK => ?_)
      go_simp
      refine hK.out _ _ (fun h => by simp at h) ?_
      clear hK
      (try simp only [Act.put, List.setIfInBounds_toArray, List.set_cons_zero, List.set_cons_succ])
      refine regDone (by kernel_rfl) ?_ _
      go_upto_region 11 with fail
      clear x4 xf
      have hle5 : LE (addS s ⟨kind, from_, round, val⟩) (L ++ [⟨kind, from_, round, val⟩]) := HE.out.2.add HMAY.out HL.out
      have hok5 : NOk (addS s ⟨kind, from_, round, val⟩) := addS_ok HE.out.1 HMAY.out
      have hlen5 : (L ++ [(⟨kind, from_, round, val⟩ : Msg)]).length ≤ 1000 := by simp; omega
      have HE5 := hid (And.intro hle5 (And.intro hok5 hlen5))
      clear hle5 hok5 hlen5
      refine wp_abs (fun W' => (∃ vL', RefAt W' b vL' (addS s ⟨kind, from_, round, val⟩) (L ++ [⟨kind, from_, round, val⟩]) ∧ (∀ k, vL'.ownBlock = some k → (Value.slice aL L.length kL).ownBlock = some k ∨ w.heap.size ≤ k)) ∧ W'.heap[w.heap.size]? = some (.cells #[.int .i64 kind, .int .i64 from_, .int .i64 round, .string val] 59 (0, 0)) ∧ Mod (b :: (Value.slice aL L.length kL).ownBlock.toList) w W') ⟨⟨_, H5.out.1.1, fun k hk => ?_⟩, H5.out.2.1, (HA.out.2.2.mono (by simp)).trans H5.out.1.2.1⟩ ?_
      · rcases H5.out.1.2.2 k hk with h | h
        · exact .inl h
        · exact .inr (Nat.le_trans HA.out.2.2.size h)
      clear H5 HA
      rintro W6 ⟨⟨vL', hR6, hv6⟩, hB6, hM6⟩
      obtain ⟨k, rfl⟩ : ∃ k : Nat, round = (k : Int) := ⟨round.toNat, by have := HB.out.2.2.2.1; omega⟩
      have hk63 : k < 64 := by have := HB.out.2.2.2.2.1; omega
      have hma := Mod.alloc (Mod.refl [] W6) (.cells #[] 59)
      have hO6 := (RMsgs.empty (B := W6.heap.size) (get_new W6 (.cells #[] 59)) (Nat.le_refl _))
      have H6B := hid (And.intro hB6 (And.intro (lt_of_block hR6.cells) (fun k hk => hR6.old.v k hk : ∀ k, vL'.ownBlock = some k → k < W6.heap.size)))
      have H6 := hid (And.intro (hR6.mod0 hma) (And.intro (hma.get hB6 (by simp)) (And.intro (hM6.alloc (.cells #[] 59)) (And.intro hO6 hv6))))
      clear hR6 hv6 hB6 hM6 hma hO6
      have hZw : w.heap.size < W6.heap.size := lt_of_block H6B.out.1
      have hZb : b < W6.heap.size := H6B.out.2.1
      have hZv : ∀ k, vL'.ownBlock = some k → k < W6.heap.size := H6B.out.2.2
      have hZs : W6.heap.size ≤ (W6.alloc (.cells #[] 59)).heap.size := by simp
      have hZl : w.heap.size ≤ W6.heap.size := Nat.le_of_lt hZw
      have HZ := hid (And.intro hZw (And.intro hZb (And.intro hZv (And.intro hZs hZl))))
      clear hZw hZb hZv H6B hZs hZl
      obtain ⟨Z, hZ⟩ : ∃ Z, Z = W6.heap.size := ⟨_, rfl⟩
      obtain ⟨kb, hkb⟩ : ∃ kb, (kind == 2) = kb := ⟨_, rfl⟩
      have b0 : (W6.alloc (.cells #[] 59)).cell? ⟨w.heap.size, 0, none⟩ = some (.int .i64 kind) := cell_at H6.out.2.1 0
      go_upto_if 137 with fail
      generalize (W6.alloc (.cells #[] 59)) = W7 at *
      rw [← hZ] at HZ H6
      rw [← hZ]
      obtain ⟨a0, ha0⟩ : ∃ a0, a0 = addS s ⟨kind, from_, k, val⟩ := ⟨_, rfl⟩
      obtain ⟨L1, hL1⟩ : ∃ L1, L1 = L ++ [(⟨kind, from_, k, val⟩ : Msg)] := ⟨_, rfl⟩
      obtain ⟨p1, hp1⟩ : ∃ p1, p1 = if kind = 2 then wonS a0 k val else (a0, []) := ⟨_, rfl⟩
      rw [← ha0, ← hL1] at H6 HE5
      have HP1 := hid hp1
      have HA0 := hid ha0
      have HL1 := hid hL1
      clear ha0 hL1 hp1 hZ b0
      go_cut [6] (fun ov wx => RefAt wx b vL' p1.1 L1 ∧ RMsgs Z wx ov p1.2 ∧ wx.heap[w.heap.size]? = some (.cells #[.int .i64 kind, .int .i64 from_, .int .i64 (k : Int), .string val] 59 (0, 0)) ∧ Mod (b :: (Value.slice aL L.length kL).ownBlock.toList) w wx ∧ Z ≤ wx.heap.size)
      case first => as_aux_lemma =>
        cases kb with
        | false =>
          have hp : p1 = (a0, []) := by rw [HP1.out, if_neg (by simpa using hkb)]
          have HP := hid hp
          clear hp hkb
          go_wp2_with fail
          go_meet
          exact ⟨by rw [HP.out]; exact H6.out.1, by rw [HP.out]; exact H6.out.2.2.2.1, H6.out.2.1, H6.out.2.2.1, HZ.out.2.2.2.1⟩
        | true =>
          have hk2 : kind = 2 := by simpa using hkb
          subst hk2
          have hp : p1 = wonS a0 k val := by rw [HP1.out, if_pos rfl]
          have hvotes := fun W (hm : Mod [] W7 W) => votes_any0 W b vL' a0 L1 from_ k val (H6.out.1.mod0 hm) HE5.out.2.1 HE5.out.1 HE5.out.2.2 hk63
          have b0 : W7.cell? ⟨w.heap.size, 0, none⟩ = some (.int .i64 2) := cell_at H6.out.2.1 0
          have b1 : W7.cell? ⟨w.heap.size, 1, none⟩ = some (.int .i64 from_) := cell_at H6.out.2.1 1
          have b2 : W7.cell? ⟨w.heap.size, 2, none⟩ = some (.int .i64 (k : Int)) := cell_at H6.out.2.1 2
          have b3 : W7.cell? ⟨w.heap.size, 3, none⟩ = some (.string val) := cell_at H6.out.2.1 3
          have hjoin := fun (W8 : World) (v1 : Value) (hR8 : RefAt W8 b vL' (wonS a0 k val).1 L1) (hO8 : RMsgs W7.heap.size W8 v1 (wonS a0 k val).2) (hM8 : Mod [b] W7 W8) =>
            ref_join (w := w) (Z := Z) (B0 := w.heap.size) (X := .cells #[.int .i64 2, .int .i64 from_, .int .i64 (k : Int), .string val] 59 (0, 0)) (S := (b :: (Value.slice aL L.length kL).ownBlock.toList)) hR8
              (H6.out.2.2.2.1.mod hM8 (fun q hq => by have := H6.out.2.2.2.1.own q hq; have := HZ.out.2.1; simp; omega)) hO8 HZ.out.2.2.2.1
              (hM8.get H6.out.2.1 (fun h => ne_ty H6.out.2.1 H6.out.1.cells (by decide) (by simpa using h))) (H6.out.2.2.1.trans (hM8.mono (by simp))) HZ.out.2.1 HZ.out.2.2.1 HZ.out.1 (Nat.le_trans HZ.out.2.2.2.1 hM8.size) HZ.out.2.2.2.2 (by have := wonS_len a0 k val; simp; omega)
          have HP := hid hp
          have HV := hid hvotes
          have HJ := hid hjoin
          clear hp hkb hvotes hjoin
          go_wp2_with (first
            | (go_at_call 32; refine (HV.out _ (Mod.refl [] W7)).mono ?_; rintro e W8 ⟨v1, rfl, hR8, hO8, hM8⟩; have HJ8 := hid (HJ.out W8 v1 hR8 hO8 hM8); clear hR8 hO8 hM8)
            | (at_builtin; refine wpList_app_run rfl _ _ 51 rfl _ _ rfl rfl _ HJ8.out ?_; rintro v3 w3 h3; have H9 := hid h3; clear h3))
          go_meet
          exact ⟨by rw [HP.out]; exact H9.out.1, by rw [HP.out]; exact H9.out.2.1, H9.out.2.2.1, H9.out.2.2.2.1, H9.out.2.2.2.2⟩
      case rest =>
      obtain ⟨hR7, hO7, hB7, hM7, hz7⟩ := hcut
      have H7 := hid (And.intro hR7 (And.intro hO7 (And.intro hB7 (And.intro hM7 hz7))))
      have HV6 := hid H6.out.2.2.2.2
      clear hR7 hO7 hB7 hM7 hz7 H6 hkb
      go_upto_region 14 with fail
      obtain ⟨tb, htb⟩ : ∃ tb, tb = decide (kind = 3 ∧ a0.n - a0.t ≤ (cnt (a0.hd (kind, k)) val : Int) ∧ a0.done = false) := ⟨_, rfl⟩
      have HTB := hid htb
      clear htb
      go_cut [167] (fun vv wx => vv = .bool tb ∧ RefAt wx b vL' p1.1 L1 ∧ RMsgs Z wx u6 p1.2 ∧ wx.heap[w.heap.size]? = some (.cells #[.int .i64 kind, .int .i64 from_, .int .i64 (k : Int), .string val] 59 (0, 0)) ∧ Mod (b :: (Value.slice aL L.length kL).ownBlock.toList) w wx ∧ Z ≤ wx.heap.size)
      case first => as_aux_lemma =>
        have b0 : wc.cell? ⟨w.heap.size, 0, none⟩ = some (.int .i64 kind) := cell_at H7.out.2.2.1 0
        by_cases k3 : kind = 3
        · subst k3
          have hp : p1 = (a0, []) := by rw [HP1.out, if_neg (by omega)]
          have hR7 := H7.out.1
          rw [hp] at hR7
          dsimp only at hR7
          have hcount := fun W (hm : Mod [] wc W) => count_any W b vL' a0 L1 ⟨3, from_, k, val⟩ (hR7.mod0 hm) HE5.out.2.2
          rw [HE5.out.1.cnt] at hcount
          simp only [Msg.cells, Msg.seat] at hcount
          obtain ⟨C, hC⟩ : ∃ C : Nat, C = cnt (a0.hd (3, (k : Int))) val := ⟨_, rfl⟩
          rw [← hC] at hcount
          have hle : C ≤ 16 := by rw [hC]; exact Nat.le_trans (cnt_le _ _) (HE5.out.2.1.few _)
          have hok := HE5.out.2.1
          have hnt : IntKind.i64.wrap (a0.n - a0.t) = a0.n - a0.t := IntWalk.i64_in _ (by have := hok.n0; have := hok.n1; have := hok.t0; have := hok.t1; omega)
          obtain ⟨c0, c1, -, -, -, -, -, -, -, c9, hf⟩ := hR7.all
          obtain ⟨cb, hcb⟩ : ∃ cb, decide (a0.n - a0.t ≤ (C : Int)) = cb := ⟨_, rfl⟩
          obtain ⟨db, hdb⟩ : ∃ db, a0.done = db := ⟨_, rfl⟩
          have htb : tb = (cb && !db) := by rw [HTB.out, ← hC, ← hcb, ← hdb]; cases a0.done <;> simp
          have HTB2 := hid htb
          have HC := hid hcount
          have HCC := hid (And.intro c0 (And.intro c1 c9))
          have hS : DoneSat b w.heap.size ⟨3, from_, k, val⟩ a0 wc.drew := ⟨b0, cell_at H7.out.2.2.1 1, cell_at H7.out.2.2.1 2, cell_at H7.out.2.2.1 3, c0, c1, c9⟩
          clear hp hC hcount hok htb hR7 c0 c1 c9 hf b0
          refine wp_region_N (DoneSat b w.heap.size ⟨3, from_, k, val⟩ a0) (fun _ => true) (by kernel_rfl) ?_
          refine regA 0 143 (v := ?_) rfl rfl (by kernel_rfl) (by kernel_rfl) (by kernel_rfl) (fun _ _ _ h => h) (by rfl) (fun w => ?_) ?_; rotate_left; (go_simp; first | done | with_reducible rfl); (try simp only [Act.put, List.setIfInBounds_toArray, List.set_cons_zero, List.set_cons_succ])
          refine regS 1 144 (v := ?_) hS rfl rfl (by kernel_rfl) (by kernel_rfl) (by kernel_rfl) (by kernel_rfl) (fun _ _ _ h => h) (by rfl) (fun w hSw => ?_) ?_; rotate_left; (simp only [CountSat, DoneSat, MsgSat] at hSw; go_simp; first | done | with_reducible rfl); (try simp only [Act.put, List.setIfInBounds_toArray, List.set_cons_zero, List.set_cons_succ])
          refine regA 2 145 (v := ?_) rfl rfl (by kernel_rfl) (by kernel_rfl) (by kernel_rfl) (fun _ _ _ h => h) (by rfl) (fun w => ?_) ?_; rotate_left; (go_simp; first | done | with_reducible rfl); (try simp only [Act.put, List.setIfInBounds_toArray, List.set_cons_zero, List.set_cons_succ])
          refine regA 3 146 (v := ?_) rfl rfl (by kernel_rfl) (by kernel_rfl) (by kernel_rfl) (fun _ _ _ h => h) (by rfl) (fun w => ?_) ?_; rotate_left; (go_simp; first | done | with_reducible rfl); (try simp only [Act.put, List.setIfInBounds_toArray, List.set_cons_zero, List.set_cons_succ])
          refine regA 4 147 (v := ?_) rfl rfl (by kernel_rfl) (by kernel_rfl) (by kernel_rfl) (fun _ _ _ h => h) (by rfl) (fun w => ?_) ?_; rotate_left; (go_simp; first | done | with_reducible rfl); (try simp only [Act.put, List.setIfInBounds_toArray, List.set_cons_zero, List.set_cons_succ])
          refine regS 5 148 (v := ?_) hS rfl rfl (by kernel_rfl) (by kernel_rfl) (by kernel_rfl) (by kernel_rfl) (fun _ _ _ h => h) (by rfl) (fun w hSw => ?_) ?_; rotate_left; (simp only [CountSat, DoneSat, MsgSat] at hSw; go_simp; first | done | with_reducible rfl); (try simp only [Act.put, List.setIfInBounds_toArray, List.set_cons_zero, List.set_cons_succ])
          refine regA 7 150 (v := ?_) rfl rfl (by kernel_rfl) (by kernel_rfl) (by kernel_rfl) (fun _ _ _ h => h) (by rfl) (fun w => ?_) ?_; rotate_left; (go_simp; first | done | with_reducible rfl); (try simp only [Act.put, List.setIfInBounds_toArray, List.set_cons_zero, List.set_cons_succ])
          refine regA 8 151 (v := ?_) rfl rfl (by kernel_rfl) (by kernel_rfl) (by kernel_rfl) (fun _ _ _ h => h) (by rfl) (fun w => ?_) ?_; rotate_left; (go_simp; first | done | with_reducible rfl); (try simp only [Act.put, List.setIfInBounds_toArray, List.set_cons_zero, List.set_cons_succ])
          refine regA 9 152 (v := ?_) rfl rfl (by kernel_rfl) (by kernel_rfl) (by kernel_rfl) (fun _ _ _ h => h) (by rfl) (fun w => ?_) ?_; rotate_left; (go_simp; first | done | with_reducible rfl); (try simp only [Act.put, List.setIfInBounds_toArray, List.set_cons_zero, List.set_cons_succ])
          refine regS 10 153 (v := ?_) hS rfl rfl (by kernel_rfl) (by kernel_rfl) (by kernel_rfl) (by kernel_rfl) (fun _ _ _ h => h) (by rfl) (fun w hSw => ?_) ?_; rotate_left; (simp only [CountSat, DoneSat, MsgSat] at hSw; go_simp; first | done | with_reducible rfl); (try simp only [Act.put, List.setIfInBounds_toArray, List.set_cons_zero, List.set_cons_succ])
          refine regA 11 154 (v := ?_) rfl rfl (by kernel_rfl) (by kernel_rfl) (by kernel_rfl) (fun _ _ _ h => h) (by rfl) (fun w => ?_) ?_; rotate_left; (go_simp; first | done | with_reducible rfl); (try simp only [Act.put, List.setIfInBounds_toArray, List.set_cons_zero, List.set_cons_succ])
          refine regA 12 155 (v := ?_) rfl rfl (by kernel_rfl) (by kernel_rfl) (by kernel_rfl) (fun _ _ _ h => h) (by rfl) (fun w => ?_) ?_; rotate_left; (go_simp; first | done | with_reducible rfl); (try simp only [Act.put, List.setIfInBounds_toArray, List.set_cons_zero, List.set_cons_succ])
          refine regA 13 156 (v := ?_) rfl rfl (by kernel_rfl) (by kernel_rfl) (by kernel_rfl) (fun _ _ _ h => h) (by rfl) (fun w => ?_) ?_; rotate_left; (go_simp; first | done | with_reducible rfl); (try simp only [Act.put, List.setIfInBounds_toArray, List.set_cons_zero, List.set_cons_succ])
          refine regS 14 157 (v := ?_) hS rfl rfl (by kernel_rfl) (by kernel_rfl) (by kernel_rfl) (by kernel_rfl) (fun _ _ _ h => h) (by rfl) (fun w hSw => ?_) ?_; rotate_left; (simp only [CountSat, DoneSat, MsgSat] at hSw; go_simp; first | done | with_reducible rfl); (try simp only [Act.put, List.setIfInBounds_toArray, List.set_cons_zero, List.set_cons_succ])
          refine regA 15 158 (v := ?_) rfl rfl (by kernel_rfl) (by kernel_rfl) (by kernel_rfl) (fun _ _ _ h => h) (by rfl) (fun w => ?_) ?_; rotate_left; (go_simp; first | done | with_reducible rfl); (try simp only [Act.put, List.setIfInBounds_toArray, List.set_cons_zero, List.set_cons_succ])
          refine regOnlyG 6 (by kernel_rfl) rfl (by rfl) (fun K hK => ?_)
          go_wp2_with (first
            | (go_at_call 35; refine (HC.out _ (Mod.refl [] wc).drew).mono ?_; rintro e W2 ⟨rfl, hm2⟩; have HM2 := hid (And.intro ((Mod.refl [] wc).drew.trans hm2) hm2); clear hm2))
          refine hK.out _ _ (fun _ hS => hS.mod HM2.out.2 (by simp) (by simp)) ?_
          clear hK hS
          (try simp only [Act.put, List.setIfInBounds_toArray, List.set_cons_zero, List.set_cons_succ])
          have hS : DoneSat b w.heap.size ⟨3, from_, k, val⟩ a0 W2 := DoneSat.mod (S := []) (w := wc) ⟨cell_at H7.out.2.2.1 0, cell_at H7.out.2.2.1 1, cell_at H7.out.2.2.1 2, cell_at H7.out.2.2.1 3, HCC.out.1, HCC.out.2.1, HCC.out.2.2⟩ HM2.out.1 (by simp) (by simp)
          cases cb with
          | false =>
            refine regA 16 159 (v := ?_) rfl rfl (by kernel_rfl) (by kernel_rfl) (by kernel_rfl) (fun _ _ _ h => h) (by rfl) (fun w => ?_) ?_; rotate_left; (go_simp; first | done | with_reducible rfl); (try simp only [Act.put, List.setIfInBounds_toArray, List.set_cons_zero, List.set_cons_succ])
            refine regA 17 160 (v := ?_) rfl rfl (by kernel_rfl) (by kernel_rfl) (by kernel_rfl) (fun _ _ _ h => h) (by rfl) (fun w => ?_) ?_; rotate_left; (go_simp; first | done | with_reducible rfl); (try simp only [Act.put, List.setIfInBounds_toArray, List.set_cons_zero, List.set_cons_succ])
            refine regA 18 161 (v := ?_) rfl rfl (by kernel_rfl) (by kernel_rfl) (by kernel_rfl) (fun _ _ _ h => h) (by rfl) (fun w => ?_) ?_; rotate_left; (go_simp; first | done | with_reducible rfl); (try simp only [Act.put, List.setIfInBounds_toArray, List.set_cons_zero, List.set_cons_succ])
            refine regU 19 162 rfl rfl (by kernel_rfl) (by kernel_rfl) (by kernel_rfl) (fun _ _ _ h => h) (by rfl) ?_; (try simp only [Act.put, List.setIfInBounds_toArray, List.set_cons_zero, List.set_cons_succ])
            refine regU 20 163 rfl rfl (by kernel_rfl) (by kernel_rfl) (by kernel_rfl) (fun _ _ _ h => h) (by rfl) ?_; (try simp only [Act.put, List.setIfInBounds_toArray, List.set_cons_zero, List.set_cons_succ])
            refine regU 21 164 rfl rfl (by kernel_rfl) (by kernel_rfl) (by kernel_rfl) (fun _ _ _ h => h) (by rfl) ?_; (try simp only [Act.put, List.setIfInBounds_toArray, List.set_cons_zero, List.set_cons_succ])
            refine regU 22 165 rfl rfl (by kernel_rfl) (by kernel_rfl) (by kernel_rfl) (fun _ _ _ h => h) (by rfl) ?_; (try simp only [Act.put, List.setIfInBounds_toArray, List.set_cons_zero, List.set_cons_succ])
            refine regU 23 166 rfl rfl (by kernel_rfl) (by kernel_rfl) (by kernel_rfl) (fun _ _ _ h => h) (by rfl) ?_; (try simp only [Act.put, List.setIfInBounds_toArray, List.set_cons_zero, List.set_cons_succ])
            refine regA 24 167 (v := ?_) rfl rfl (by kernel_rfl) (by kernel_rfl) (by kernel_rfl) (fun _ _ _ h => h) (by rfl) (fun w => ?_) ?_; rotate_left; (go_simp; first | done | with_reducible rfl); (try simp only [Act.put, List.setIfInBounds_toArray, List.set_cons_zero, List.set_cons_succ])
            refine regDone (by kernel_rfl) ?_ _
            go_wp2_with fail
            go_meet
            exact ⟨by rw [HTB2.out]; rfl, H7.out.1.mod0 HM2.out.1, H7.out.2.1.mod0 HM2.out.1, HM2.out.1.get H7.out.2.2.1 (by simp), H7.out.2.2.2.1.trans (HM2.out.1.mono (by simp)), Nat.le_trans H7.out.2.2.2.2 HM2.out.1.size⟩
          | true =>
            refine regA 16 159 (v := ?_) rfl rfl (by kernel_rfl) (by kernel_rfl) (by kernel_rfl) (fun _ _ _ h => h) (by rfl) (fun w => ?_) ?_; rotate_left; (go_simp; first | done | with_reducible rfl); (try simp only [Act.put, List.setIfInBounds_toArray, List.set_cons_zero, List.set_cons_succ])
            refine regA 17 160 (v := ?_) rfl rfl (by kernel_rfl) (by kernel_rfl) (by kernel_rfl) (fun _ _ _ h => h) (by rfl) (fun w => ?_) ?_; rotate_left; (go_simp; first | done | with_reducible rfl); (try simp only [Act.put, List.setIfInBounds_toArray, List.set_cons_zero, List.set_cons_succ])
            refine regA 18 161 (v := ?_) rfl rfl (by kernel_rfl) (by kernel_rfl) (by kernel_rfl) (fun _ _ _ h => h) (by rfl) (fun w => ?_) ?_; rotate_left; (go_simp; first | done | with_reducible rfl); (try simp only [Act.put, List.setIfInBounds_toArray, List.set_cons_zero, List.set_cons_succ])
            refine regA 19 162 (v := ?_) rfl rfl (by kernel_rfl) (by kernel_rfl) (by kernel_rfl) (fun _ _ _ h => h) (by rfl) (fun w => ?_) ?_; rotate_left; (go_simp; first | done | with_reducible rfl); (try simp only [Act.put, List.setIfInBounds_toArray, List.set_cons_zero, List.set_cons_succ])
            refine regA 20 163 (v := ?_) rfl rfl (by kernel_rfl) (by kernel_rfl) (by kernel_rfl) (fun _ _ _ h => h) (by rfl) (fun w => ?_) ?_; rotate_left; (go_simp; first | done | with_reducible rfl); (try simp only [Act.put, List.setIfInBounds_toArray, List.set_cons_zero, List.set_cons_succ])
            refine regA 21 164 (v := ?_) rfl rfl (by kernel_rfl) (by kernel_rfl) (by kernel_rfl) (fun _ _ _ h => h) (by rfl) (fun w => ?_) ?_; rotate_left; (go_simp; first | done | with_reducible rfl); (try simp only [Act.put, List.setIfInBounds_toArray, List.set_cons_zero, List.set_cons_succ])
            refine regS 22 165 (v := ?_) hS rfl rfl (by kernel_rfl) (by kernel_rfl) (by kernel_rfl) (by kernel_rfl) (fun _ _ _ h => h) (by rfl) (fun w hSw => ?_) ?_; rotate_left; (simp only [CountSat, DoneSat, MsgSat] at hSw; go_simp; first | done | with_reducible rfl); (try simp only [Act.put, List.setIfInBounds_toArray, List.set_cons_zero, List.set_cons_succ])
            refine regA 23 166 (v := ?_) rfl rfl (by kernel_rfl) (by kernel_rfl) (by kernel_rfl) (fun _ _ _ h => h) (by rfl) (fun w => ?_) ?_; rotate_left; (go_simp; first | done | with_reducible rfl); (try simp only [Act.put, List.setIfInBounds_toArray, List.set_cons_zero, List.set_cons_succ])
            refine regA 24 167 (v := ?_) rfl rfl (by kernel_rfl) (by kernel_rfl) (by kernel_rfl) (fun _ _ _ h => h) (by rfl) (fun w => ?_) ?_; rotate_left; (go_simp; first | done | with_reducible rfl); (try simp only [Act.put, List.setIfInBounds_toArray, List.set_cons_zero, List.set_cons_succ])
            refine regDone (by kernel_rfl) ?_ _
            go_wp2_with fail
            go_meet
            exact ⟨by rw [HTB2.out, ← hdb]; rfl, H7.out.1.mod0 HM2.out.1, H7.out.2.1.mod0 HM2.out.1, HM2.out.1.get H7.out.2.2.1 (by simp), H7.out.2.2.2.1.trans (HM2.out.1.mono (by simp)), Nat.le_trans H7.out.2.2.2.2 HM2.out.1.size⟩
        · have k3' : (kind == 3) = false := by simpa using k3
          have htb : tb = false := by rw [HTB.out]; simp [k3]
          have HTB2 := hid htb
          clear htb
          go_quiet (fail)
          go_wp2_with fail
          go_meet
          exact ⟨by rw [HTB2.out], H7.out.1.mod0 ((Mod.refl _ _).drewN _), H7.out.2.1.mod0 ((Mod.refl _ _).drewN _), H7.out.2.2.1, H7.out.2.2.2.1.drewN _, H7.out.2.2.2.2⟩
      case rest =>
      obtain ⟨rfl, hR7, hO7, hB7, hM7, hz7⟩ := hcut
      clear H7
      have H7 := hid (And.intro hR7 (And.intro hO7 (And.intro hB7 (And.intro hM7 hz7))))
      clear hR7 hO7 hB7 hM7 hz7
      obtain ⟨st2, hst2⟩ : ∃ st2 : NodeS, st2 = if tb = true then { p1.1 with choice := val, done := true } else p1.1 := ⟨_, rfl⟩
      have HST := hid hst2
      clear hst2
      go_upto_if 167 with fail
      go_cut [6] (fun ov wx => ov = u6 ∧ RefAt wx b vL' st2 L1 ∧ RMsgs Z wx ov p1.2 ∧ Mod (b :: (Value.slice aL L.length kL).ownBlock.toList) w wx ∧ Z ≤ wx.heap.size)
      case first => as_aux_lemma =>
        cases tb with
        | false =>
          have hs : st2 = p1.1 := HST.out
          have HS2 := hid hs
          clear hs
          go_wp2_with fail
          go_meet
          exact ⟨rfl, by rw [HS2.out]; exact H7.out.1, H7.out.2.1, H7.out.2.2.2.1, H7.out.2.2.2.2⟩
        | true =>
          have hs : st2 = { p1.1 with choice := val, done := true } := HST.out
          have HS2 := hid hs
          clear hs
          go_wp2_with fail
          obtain ⟨-, -, -, -, -, -, -, -, c8, c9, hf⟩ := H7.out.1.all
          have hbB : w.heap.size ∉ [b] := fun h => ne_ty H7.out.2.2.1 H7.out.1.cells (by decide) (by simpa using h)
          have HBB := hid hbB
          clear hbB
          refine wp_region_N (MsgSat w.heap.size k val) (fun j => !(j == 9)) (by kernel_rfl) ?_
          have hS : MsgSat w.heap.size k val wc.drew := ⟨cell_at H7.out.2.2.1 2, cell_at H7.out.2.2.1 3⟩
          refine regA 0 168 (v := ?_) rfl rfl (by kernel_rfl) (by kernel_rfl) (by kernel_rfl) (fun _ _ _ h => h) (by rfl) (fun w => ?_) ?_; rotate_left; (go_simp; first | done | with_reducible rfl); (try simp only [Act.put, List.setIfInBounds_toArray, List.set_cons_zero, List.set_cons_succ])
          refine regA 1 169 (v := ?_) rfl rfl (by kernel_rfl) (by kernel_rfl) (by kernel_rfl) (fun _ _ _ h => h) (by rfl) (fun w => ?_) ?_; rotate_left; (go_simp; first | done | with_reducible rfl); (try simp only [Act.put, List.setIfInBounds_toArray, List.set_cons_zero, List.set_cons_succ])
          refine regA 2 170 (v := ?_) rfl rfl (by kernel_rfl) (by kernel_rfl) (by kernel_rfl) (fun _ _ _ h => h) (by rfl) (fun w => ?_) ?_; rotate_left; (go_simp; first | done | with_reducible rfl); (try simp only [Act.put, List.setIfInBounds_toArray, List.set_cons_zero, List.set_cons_succ])
          refine regS 3 171 (v := ?_) hS rfl rfl (by kernel_rfl) (by kernel_rfl) (by kernel_rfl) (by kernel_rfl) (fun _ _ _ h => h) (by rfl) (fun w hSw => ?_) ?_; rotate_left; (simp only [CountSat, DoneSat, MsgSat] at hSw; go_simp; first | done | with_reducible rfl); (try simp only [Act.put, List.setIfInBounds_toArray, List.set_cons_zero, List.set_cons_succ])
          refine regA 4 172 (v := ?_) rfl rfl (by kernel_rfl) (by kernel_rfl) (by kernel_rfl) (fun _ _ _ h => h) (by rfl) (fun w => ?_) ?_; rotate_left; (go_simp; first | done | with_reducible rfl); (try simp only [Act.put, List.setIfInBounds_toArray, List.set_cons_zero, List.set_cons_succ])
          refine regA 5 173 (v := ?_) rfl rfl (by kernel_rfl) (by kernel_rfl) (by kernel_rfl) (fun _ _ _ h => h) (by rfl) (fun w => ?_) ?_; rotate_left; (go_simp; first | done | with_reducible rfl); (try simp only [Act.put, List.setIfInBounds_toArray, List.set_cons_zero, List.set_cons_succ])
          refine regOnly 6 (by kernel_rfl) rfl rfl (fun K hK => ?_)
          go_simp
          refine hK.out _ _ (fun _ _ => hS.mod (Mod.setCell (Mod.refl [b] _) (by simp) _) HBB.out) ?_
          clear hK
          (try simp only [Act.put, List.setIfInBounds_toArray, List.set_cons_zero, List.set_cons_succ])
          refine regAbs (fun W' => RefAt W' b vL' { p1.1 with done := true } L1 ∧ Mod [b] wc W') ⟨(H7.out.1.mod0 (Mod.refl _ _).drew).set 201 _ _ (set_done1 _ _), (by repeat' (first | exact Mod.refl _ _ | assumption | refine Mod.drewN ?_ _ | refine Mod.drew ?_ | refine Mod.alloc ?_ _ | refine Mod.setCell ?_ (by simp) _ | refine Mod.setBlock ?_ (by simp) _))⟩ ?_
          rintro W4 ⟨hR4, hM4⟩
          clear c8 c9 hf
          obtain ⟨-, -, -, -, -, -, -, -, c8, c9, hf⟩ := hR4.all
          refine regA 7 174 (v := ?_) rfl rfl (by kernel_rfl) (by kernel_rfl) (by kernel_rfl) (fun _ _ _ h => h) (by rfl) (fun w => ?_) ?_; rotate_left; (go_simp; first | done | with_reducible rfl); (try simp only [Act.put, List.setIfInBounds_toArray, List.set_cons_zero, List.set_cons_succ])
          refine regA 8 175 (v := ?_) rfl rfl (by kernel_rfl) (by kernel_rfl) (by kernel_rfl) (fun _ _ _ h => h) (by rfl) (fun w => ?_) ?_; rotate_left; (go_simp; first | done | with_reducible rfl); (try simp only [Act.put, List.setIfInBounds_toArray, List.set_cons_zero, List.set_cons_succ])
          refine regOnly 9 (by kernel_rfl) rfl rfl (fun K hK => ?_)
          go_simp
          refine hK.out _ _ (fun h => by simp at h) ?_
          clear hK
          (try simp only [Act.put, List.setIfInBounds_toArray, List.set_cons_zero, List.set_cons_succ])
          refine regDone (by kernel_rfl) ?_ _
          go_wp2_with fail
          go_meet
          have hM5 : Mod [b] wc (W4.setCell ⟨b, 200, none⟩ (.string val)) := Mod.setCell hM4 (by simp) _
          refine ⟨rfl, by rw [HS2.out]; exact hR4.set 200 _ _ (set_choice _ _ _), H7.out.2.1.mod hM5 (fun q hq => by have := H7.out.2.1.own q hq; have := HZ.out.2.1; simp; omega), H7.out.2.2.2.1.trans (hM5.mono (by simp)), Nat.le_trans H7.out.2.2.2.2 hM5.size⟩
      case rest =>
      obtain ⟨rfl, hR8, hO8, hM8, hz8⟩ := hcut
      have hact : actS a0 ⟨kind, from_, k, val⟩ (cnt (a0.hd (kind, (k : Int))) val) = (st2, p1.2) := by
        rw [HST.out, HTB.out, HP1.out]
        unfold actS
        by_cases k2 : kind = 2
        · rw [if_pos k2, if_pos k2, if_neg (by simp [k2])]
        · rw [if_neg k2, if_neg k2]
          by_cases hx : kind = 3 ∧ a0.n - a0.t ≤ (cnt (a0.hd (kind, (k : Int))) val : Int) ∧ a0.done = false
          · rw [if_pos hx, if_pos (decide_eq_true hx)]
          · rw [if_neg hx, if_neg (by simpa using hx)]
      have hok2 : NOk st2 := by
        have := actS_ok HE5.out.2.1 ⟨kind, from_, k, val⟩ (cnt (a0.hd (kind, (k : Int))) val) (by dsimp only; omega) (by dsimp only; omega)
        rw [hact] at this; exact this
      have hrun := run_act a0 ⟨kind, from_, k, val⟩ (cnt (a0.hd (kind, (k : Int))) val) (by dsimp only; omega) (fun h3 => by dsimp only at h3 ⊢; rw [h3])
      rw [hact] at hrun
      have hle2 : LE st2 L1 := HE5.out.1.run hrun
      have hsr : st2.round = s.round := by rw [hrun.same.2.2.2.2.1, HA0.out]; rfl
      obtain ⟨kr, hkr⟩ : ∃ kr : Nat, s.round = (kr : Int) := ⟨s.round.toNat, by have := HB.out.1; omega⟩
      have hkr63 : kr < 64 := by have := HE.out.1.r1; omega
      have hround := round_ref wc b vL' st2 L1 hR8 hok2 hle2 HE5.out.2.2 kr (hsr.trans hkr) hkr63
      have htake : takeS s ⟨kind, from_, k, val⟩ = ((hereS st2).1, p1.2 ++ (hereS st2).2) := by
        rw [take_add HB.out.1 HMAY.out HL.out, ← HA0.out]
        unfold Msg.seat
        dsimp only
        rw [hact]
      have hle3 : LE (hereS st2).1 L1 := hle2.run (run_here st2 (by rw [hsr]; exact HB.out.1))
      have hfew : p1.2.length ≤ 1 := by
        rw [HP1.out]; split
        · exact wonS_len _ _ _
        · simp
      have hjoin := fun (W9 : World) (v1 : Value) (hR9 : RefAt W9 b vL' (hereS st2).1 L1) (hO9 : RMsgs wc.heap.size W9 v1 (hereS st2).2) (hM9 : Mod [b] wc W9) =>
        ref_join (w := w) (Z := Z) (S := (b :: (Value.slice aL L.length kL).ownBlock.toList)) hR9
          (hO8.mod hM9 (fun q hq => by have := hO8.own q hq; have := HZ.out.2.1; simp; omega)) hO9 hz8 hR9.cells (hM8.trans (hM9.mono (by simp))) HZ.out.2.1 HZ.out.2.2.1 HZ.out.2.1 (Nat.le_trans hz8 hM9.size) HZ.out.2.2.2.2 (by have := (hereS_same st2).2; omega)
      have HR := hid hround
      have HJ := hid hjoin
      have HT := hid htake
      have HL3 := hid hle3
      clear hact hok2 hrun hle2 hsr hkr hround htake hle3 hfew hjoin hR8 hO8 hM8 hz8 H7
      go_wp2_with (first
        | (go_at_call 30; refine HR.out.mono ?_; rintro e W9 ⟨v1, rfl, hR9, hO9, hM9⟩; have HJ9 := hid (HJ.out W9 v1 hR9 hO9 hM9); clear hR9 hO9 hM9)
        | (at_builtin; refine wpList_app_run rfl _ _ 51 rfl _ _ rfl rfl _ HJ9.out ?_; rintro v3 w3 h3; have H9 := hid h3; clear h3))
      go_ret
      have hlen9 : L1.length ≤ L.length + 1 := by rw [HL1.out]; simp
      have hr9 : RefAt w3 b vL' (takeS s ⟨kind, from_, k, val⟩).1 L1 := by rw [HT.out]; exact H9.out.1
      have hl9 : LE (takeS s ⟨kind, from_, k, val⟩).1 L1 := by rw [HT.out]; exact HL3.out
      have hm9 : RMsgs w.heap.size w3 v3 (takeS s ⟨kind, from_, k, val⟩).2 := by rw [HT.out]; exact H9.out.2.1.lower HZ.out.2.2.2.2
      have hd9 := H9.out.2.2.2.1
      have hv9 := HV6.out
      generalize takeS s ⟨kind, from_, k, val⟩ = T at *
      exact ⟨vL', L1, v3, rfl, hr9, hl9, hm9, hd9, hv9, hlen9⟩

theorem refTake_any (w : World) (b : Nat) (vL : Value) (s : NodeS) (L : List Msg) (m : Msg) (h : RefAt w b vL s L) (ho : NOk s) (he : LE s L) (hl : L.length ≤ 900) :
    Calls Try.prog 23 #[.pointer (some ⟨b, 0, none⟩), .agg m.cells.toArray] w (RTPost w b vL L (takeS s m)) := by
  by_cases hm : 0 ≤ s.round ∧ mayS s m = true
  · exact refTake_may w b vL s L m h ho he hl hm
  · exact refTake_bad w b vL s L m h ho he hm
end Go.Proofs.Ytnpmjpdndhedgaa
