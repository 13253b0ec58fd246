/-
  The reference's node of an agreement, walked: round. No statement of a claim stands here; each contract names what it asks.
-/
import Derived.Test.YtnpmjpdndhedgaaQ2
set_option linter.unusedSimpArgs false
namespace Go.Proofs.Ytnpmjpdndhedgaa
open Go Go.RowKit Go.ChangeMaps

/-- What the loads next to an append read. -/
def AppSat (b : Nat) (me : Int) (k : Nat) (w' : World) : Prop := w'.cell? ⟨b, 2, none⟩ = some (.int .i64 me) ∧ w'.cell? ⟨b, 5, none⟩ = some (.int .i64 (k : Int))
/-- What the loads next to a mark read. -/
def RoundSat (b : Nat) (k : Nat) (w' : World) : Prop := w'.cell? ⟨b, 5, none⟩ = some (.int .i64 (k : Int))

theorem RMsgs.empty {B : Nat} {w : World} {g : Nat} (h : w.heap[g]? = some (.cells #[] 59 (0, 0))) (hB : B ≤ g) : RMsgs B w (.slice (some ⟨g, 0, none⟩) 0 0) [] :=
  ⟨⟨rfl, .inr ⟨g, 0, _, rfl, Nat.zero_le _, h, Nat.le_refl _, by unfold maxLen; omega, rfl, rfl⟩⟩, fun k hk => by cases hk; exact hB⟩

/-- Where the node's blocks are of old. -/
structure OldRef (w : World) (b : Nat) (vL : Value) : Prop where
  b : b < w.heap.size
  v : ∀ k, vL.ownBlock = some k → k < w.heap.size
theorem RefAt.old {w : World} {b : Nat} {vL : Value} {s : NodeS} {L : List Msg} (h : RefAt w b vL s L) : OldRef w b vL :=
  ⟨lt_of_block h.cells, fun k hk => by obtain ⟨c, hc⟩ := row_block h.row hk; exact lt_of_block hc⟩

/-- A message more is handed back. -/
theorem ref_app {w WA W2 W' : World} {b : Nat} {vL ov v' : Value} {s : NodeS} {L o : List Msg} {m : Msg} (old : OldRef w b vL) (hR : RefAt WA b vL s L) (hO : RMsgs w.heap.size WA ov o) (hM : Mod [b] w WA) (h2 : Mod [] WA W2)
    (ho : W'.ownsRow 0 59 4 v' (o.length + 1) (msgCells o ++ m.cells)) (hm : Mod ov.ownBlock.toList W2 W') (hk : ∀ k, v'.ownBlock = some k → ov.ownBlock = some k ∨ k = W2.heap.size) :
    RefAt W' b vL s L ∧ RMsgs w.heap.size W' v' (o ++ [m]) ∧ Mod [b] w W' := by
  have hz := hM.size
  have hz2 := h2.size
  refine ⟨(hR.mod0 h2).mod hm (own_not fun k hk => by have := hO.own k hk; have := old.b; omega) (fun k hk hk2 => by have := hO.own k (by simpa using hk2); have := old.v k hk; omega), ⟨?_, fun k hkk => ?_⟩, ?_⟩
  · rw [msgCells_append, List.length_append]; simpa [msgCells] using ho
  · rcases hk k hkk with h | h
    · exact hO.own k h
    · omega
  · exact (hM.trans (h2.mono (by simp))).trans' hm (fun x hx => .inr (hO.own x (by simpa using hx)))

theorem infoRef : (Try.prog.info? 59).map (fun i => (i.zero, i.size, i.bytes)) = some (some (.agg #[.int .i64 0, .int .i64 0, .int .i64 0, .string ⟨#[]⟩]), 4, 40) := by kernel_rfl

theorem appSat_mod {w WA W2 W' : World} {b : Nat} {vL ov : Value} {me : Int} {k : Nat} {o : List Msg} (h : AppSat b me k W2) (hO : RMsgs w.heap.size WA ov o) (old : OldRef w b vL) (hm : Mod ov.ownBlock.toList W2 W') : AppSat b me k W' := by
  have hb : b ∉ ov.ownBlock.toList := own_not fun q hq => by have := hO.own q hq; have := old.b; omega
  exact ⟨hm.cell h.1 hb, hm.cell h.2 hb⟩

set_option maxRecDepth 20000 in
set_option maxHeartbeats 4000000 in
theorem round_ref (w : World) (b : Nat) (vL : Value) (s : NodeS) (L : List Msg) (h : RefAt w b vL s L) (ho : NOk s) (he : LE s L) (hl : L.length ≤ 1000) (k : Nat) (hr : s.round = (k : Int)) (hk63 : k < 64) :
    Calls Try.prog 30 #[.pointer (some ⟨b, 0, none⟩)] w (RPost w b vL L (hereS s)) := by
  have hold := h.old
  have hk0 : (0 : Int) ≤ (k : Int) := Int.natCast_nonneg _
  have hk1 : (k : Int) < 64 := by omega
  have hn0 := ho.n0
  have hn1 := ho.n1
  obtain ⟨im, him, hzm, hsm, hym⟩ := info_parts infoRef
  have hma : Mod [] w (w.alloc (.cells #[] 59)) := Mod.alloc (Mod.refl _ _) _
  have hO := RMsgs.empty (B := w.heap.size) (get_new w (.cells #[] 59)) (Nat.le_refl _)
  have HOLD := hid hold
  have H0 := hid (And.intro (h.mod0 hma) (And.intro hO hma))
  obtain ⟨q, hq⟩ : ∃ q, q = (k : Int) % s.n := ⟨_, rfl⟩
  have e1 : Int.tmod (k : Int) s.n = q := by rw [hq]; exact Int.tmod_eq_emod_of_nonneg hk0
  have e2 : 0 ≤ q ∧ q < s.n := by rw [hq]; exact ⟨Int.emod_nonneg _ (by omega), Int.emod_lt_of_pos _ (by omega)⟩
  have e3 : IntKind.i64.wrap q = q := IntWalk.i64_in _ (by omega)
  have e4 : IntKind.i64.wrap (q + 1) = q + 1 := IntWalk.i64_in _ (by omega)
  have ne1 : (s.n == 0) = false := by rw [beq_eq_false_iff_ne]; omega
  have ne2 : ¬ s.n = 0 := by omega
  obtain ⟨pb, hpb⟩ : ∃ pb, (q + 1 == s.me) = pb := ⟨_, rfl⟩
  obtain ⟨sb, hsb⟩ : ∃ sb, s.sent (1, (k : Int)) = sb := ⟨_, rfl⟩
  obtain ⟨tb, htb⟩ : ∃ tb, tb = (pb && !sb) := ⟨_, rfl⟩
  obtain ⟨iv, hiv⟩ : ∃ iv : ByteArray, iv = if 0 ≤ s.lr then s.lv else s.input := ⟨_, rfl⟩
  have hprop : propS s = if tb = true then ({ s with sent := upd s.sent (1, (k : Int)) true }, [⟨1, s.me, k, iv⟩]) else (s, []) := by
    unfold propS leaderS
    rw [hr, ← hq]
    rw [htb]
    cases pb with
    | false => rw [if_neg (by simpa using hpb)]; rfl
    | true =>
      rw [if_pos (by simpa using hpb), ← hiv]
      cases sb with
      | true => rw [sayS_here _ _ _ (by rw [hr]; exact hsb)]; rfl
      | false => rw [sayS_new _ _ _ (by rw [hr]; exact hsb), hr]; rfl
  have HPROP := hid hprop
  have HTB := hid htb
  have HIV := hid hiv
  have HS := hid (And.intro ho (And.intro he hr))
  clear hold h hO hma hprop htb hiv hq ho he
  go_enter Try.func30, Try.ntmps30
  go_upto_region 2 with fail
  generalize (w.alloc (.cells #[] 59)) = W1 at *
  obtain ⟨c0, c1, c2, c3, c4, c5, c6, c7, c8, c9, hf⟩ := H0.out.1.all
  have a1 := (H0.out.1.arrs hk63).2.2
  rw [hr] at c5
  rw [hsb] at a1
  clear hr hsb
  go_cut [34] (fun vv wx => vv = .bool tb ∧ RefAt wx b vL s L ∧ RMsgs w.heap.size wx (.slice (some ⟨w.heap.size, 0, none⟩) 0 0) [] ∧ Mod [] w wx)
  case first =>
    cases pb with
    | false =>
      go_quiet (fail)
      go_wp2_with fail
      go_meet
      exact ⟨by rw [HTB.out]; rfl, H0.out.1.mod0 ((Mod.refl _ _).drewN _), H0.out.2.1.mod0 ((Mod.refl _ _).drewN _), H0.out.2.2.drewN _⟩
    | true =>
      go_quiet (fail)
      go_wp2_with fail
      go_meet
      exact ⟨by rw [HTB.out]; rfl, H0.out.1.mod0 ((Mod.refl _ _).drewN _), H0.out.2.1.mod0 ((Mod.refl _ _).drewN _), H0.out.2.2.drewN _⟩
  case rest =>
  obtain ⟨rfl, hR1, hO1, hM1⟩ := hcut
  clear c0 c1 c2 c3 c4 c5 c6 c7 c8 c9 hf a1 H0 e1 e2 e3 e4 ne1 ne2
  have H1 := hid (And.intro hR1 (And.intro hO1 hM1))
  clear hR1 hO1 hM1
  go_upto_if 34 with fail
  go_cut [3] (fun ov wx => RefAt wx b vL (propS s).1 L ∧ RMsgs w.heap.size wx ov (propS s).2 ∧ Mod [b] w wx)
  case first =>
    cases tb with
    | false =>
      have hp : propS s = (s, []) := by rw [HPROP.out]; rfl
      have HP := hid hp
      clear hp
      go_wp2_with fail
      go_meet
      exact ⟨by rw [HP.out]; exact H1.out.1, by rw [HP.out]; exact H1.out.2.1, H1.out.2.2.mono (by simp)⟩
    | true =>
      have hp : propS s = ({ s with sent := upd s.sent (1, (k : Int)) true }, [⟨1, s.me, k, iv⟩]) := by rw [HPROP.out]; rfl
      have HP := hid hp
      clear hp
      go_wp2_with fail
      have hr := HS.out.2.2
      obtain ⟨-, -, -, -, -, c5, -, -, -, -, hf⟩ := H1.out.1.all
      have a1 := (H1.out.1.arrs hk63).2.2
      rw [hr] at c5
      clear hr
      refine wp_region_N (RoundSat b k) (fun j => !(j == 8)) (by kernel_rfl) ?_
      have hS : RoundSat b k wc.drew := c5
      refine regA 0 35 (v := ?_) rfl rfl (by kernel_rfl) (by kernel_rfl) (by kernel_rfl) (fun _ _ _ h => h) (by rfl) (fun w => ?_) ?_; rotate_left; (go_simp; first | done | with_reducible rfl); (try simp only [Act.put, List.setIfInBounds_toArray, List.set_cons_zero, List.set_cons_succ])
      refine regA 1 36 (v := ?_) rfl rfl (by kernel_rfl) (by kernel_rfl) (by kernel_rfl) (fun _ _ _ h => h) (by rfl) (fun w => ?_) ?_; rotate_left; (go_simp; first | done | with_reducible rfl); (try simp only [Act.put, List.setIfInBounds_toArray, List.set_cons_zero, List.set_cons_succ])
      refine regA 2 37 (v := ?_) rfl rfl (by kernel_rfl) (by kernel_rfl) (by kernel_rfl) (fun _ _ _ h => h) (by rfl) (fun w => ?_) ?_; rotate_left; (go_simp; first | done | with_reducible rfl); (try simp only [Act.put, List.setIfInBounds_toArray, List.set_cons_zero, List.set_cons_succ])
      refine regA 3 38 (v := ?_) rfl rfl (by kernel_rfl) (by kernel_rfl) (by kernel_rfl) (fun _ _ _ h => h) (by rfl) (fun w => ?_) ?_; rotate_left; (go_simp; first | done | with_reducible rfl); (try simp only [Act.put, List.setIfInBounds_toArray, List.set_cons_zero, List.set_cons_succ])
      refine regS 4 39 (v := ?_) hS rfl rfl (by kernel_rfl) (by kernel_rfl) (by kernel_rfl) (by kernel_rfl) (fun _ _ _ h => h) (by rfl) (fun w hSw => ?_) ?_; rotate_left; (simp only [AppSat, RoundSat] at hSw; go_simp; first | done | with_reducible rfl); (try simp only [Act.put, List.setIfInBounds_toArray, List.set_cons_zero, List.set_cons_succ])
      refine regA 5 40 (v := ?_) rfl rfl (by kernel_rfl) (by kernel_rfl) (by kernel_rfl) (fun _ _ _ h => h) (by rfl) (fun w => ?_) ?_; rotate_left; (go_simp; first | done | with_reducible rfl); (try simp only [Act.put, List.setIfInBounds_toArray, List.set_cons_zero, List.set_cons_succ])
      refine regA 6 41 (v := ?_) rfl rfl (by kernel_rfl) (by kernel_rfl) (by kernel_rfl) (fun _ _ _ h => h) (by rfl) (fun w => ?_) ?_; rotate_left; (go_simp; first | done | with_reducible rfl); (try simp only [Act.put, List.setIfInBounds_toArray, List.set_cons_zero, List.set_cons_succ])
      refine regA 7 42 (v := ?_) rfl rfl (by kernel_rfl) (by kernel_rfl) (by kernel_rfl) (fun _ _ _ h => h) (by rfl) (fun w => ?_) ?_; rotate_left; (go_simp; first | done | with_reducible rfl); (try simp only [Act.put, List.setIfInBounds_toArray, List.set_cons_zero, List.set_cons_succ])
      refine regOnly 8 (by kernel_rfl) rfl rfl (fun K hK => ?_)
      go_simp
      refine hK.out _ _ (fun h => by simp at h) ?_
      clear hK
      (try simp only [Act.put, List.setIfInBounds_toArray, List.set_cons_zero, List.set_cons_succ])
      refine regDone (by kernel_rfl) ?_ _
      go_upto_region 4 with fail
      refine wp_abs (fun W' => RefAt W' b vL { s with sent := upd s.sent (1, (k : Int)) true } L ∧ RMsgs w.heap.size W' (.slice (some ⟨w.heap.size, 0, none⟩) 0 0) [] ∧ Mod [b] w W') ⟨?_, ?_, ?_⟩ ?_
      · exact (H1.out.1.mod0 (Mod.refl _ _).drew).set _ _ _ (set_arr1 s vL hk63)
      · exact H1.out.2.1.mod (Mod.setCell (Mod.refl _ _).drew (by simp) _ : Mod [b] wc _) (fun q hq => by cases hq; have := HOLD.out.b; simp; omega)
      · exact Mod.setCell ((H1.out.2.2.mono (by simp)).drew) (by simp) _
      clear a1 hf hS c5 H1
      rintro WA ⟨hRA, hOA, hMA⟩
      obtain ⟨-, -, a2, c3, -, a5, c6, c7, -, -, -⟩ := hRA.all
      have a5 : WA.cell? ⟨b, 5, none⟩ = some (.int .i64 (k : Int)) := by rw [← HS.out.2.2]; exact a5
      have a2 : WA.cell? ⟨b, 2, none⟩ = some (.int .i64 s.me) := a2
      have c3 : WA.cell? ⟨b, 3, none⟩ = some (.string s.input) := c3
      have c6 : WA.cell? ⟨b, 6, none⟩ = some (.string s.lv) := c6
      have c7 : WA.cell? ⟨b, 7, none⟩ = some (.int .i64 s.lr) := c7
      have HA := hid (And.intro hRA (And.intro hOA hMA))
      clear hRA hOA hMA
      obtain ⟨lb, hlb⟩ : ∃ lb, decide (0 ≤ s.lr) = lb := ⟨_, rfl⟩
      go_upto_if 51 with fail
      go_cut [4] (fun vv wx => vv = .string iv ∧ wx = WA)
      case first =>
        cases lb with
        | false =>
          have hi : iv = s.input := by rw [HIV.out, if_neg (by simpa using hlb)]
          have HI := hid hi
          clear hi hlb
          go_wp2_with fail
          go_meet
          exact ⟨by rw [HI.out], rfl⟩
        | true =>
          have hi : iv = s.lv := by rw [HIV.out, if_pos (by simpa using hlb)]
          have HI := hid hi
          clear hi hlb
          go_wp2_with fail
          go_meet
          exact ⟨by rw [HI.out], rfl⟩
      case rest =>
      obtain ⟨rfl, rfl⟩ := hcut
      clear hlb c3 c6 c7
      go_wp2_with fail
      have HLEN : ([] : List Msg).length ≤ 1 := by simp
      have hS : AppSat b s.me k wc.drew := ⟨a2, a5⟩
      refine wp_region_N (AppSat b s.me k) (fun _ => true) (by kernel_rfl) ?_
      refine regA 0 56 (v := ?_) rfl rfl (by kernel_rfl) (by kernel_rfl) (by kernel_rfl) (fun _ _ _ h => h) (by rfl) (fun w => ?_) ?_; rotate_left; (go_simp; first | done | with_reducible rfl); (try simp only [Act.put, List.setIfInBounds_toArray, List.set_cons_zero, List.set_cons_succ])
      refine regA 1 57 (v := ?_) rfl rfl (by kernel_rfl) (by kernel_rfl) (by kernel_rfl) (fun _ _ _ h => h) (by rfl) (fun w => ?_) ?_; rotate_left; (go_simp; first | done | with_reducible rfl); (try simp only [Act.put, List.setIfInBounds_toArray, List.set_cons_zero, List.set_cons_succ])
      refine regA 2 58 (v := ?_) rfl rfl (by kernel_rfl) (by kernel_rfl) (by kernel_rfl) (fun _ _ _ h => h) (by rfl) (fun w => ?_) ?_; rotate_left; (go_simp; first | done | with_reducible rfl); (try simp only [Act.put, List.setIfInBounds_toArray, List.set_cons_zero, List.set_cons_succ])
      refine regA 3 59 (v := ?_) rfl rfl (by kernel_rfl) (by kernel_rfl) (by kernel_rfl) (fun _ _ _ h => h) (by rfl) (fun w => ?_) ?_; rotate_left; (go_simp; first | done | with_reducible rfl); (try simp only [Act.put, List.setIfInBounds_toArray, List.set_cons_zero, List.set_cons_succ])
      refine regS 4 60 (v := ?_) hS rfl rfl (by kernel_rfl) (by kernel_rfl) (by kernel_rfl) (by kernel_rfl) (fun _ _ _ h => h) (by rfl) (fun w hSw => ?_) ?_; rotate_left; (simp only [AppSat, RoundSat] at hSw; go_simp; first | done | with_reducible rfl); (try simp only [Act.put, List.setIfInBounds_toArray, List.set_cons_zero, List.set_cons_succ])
      refine regA 5 61 (v := ?_) rfl rfl (by kernel_rfl) (by kernel_rfl) (by kernel_rfl) (fun _ _ _ h => h) (by rfl) (fun w => ?_) ?_; rotate_left; (go_simp; first | done | with_reducible rfl); (try simp only [Act.put, List.setIfInBounds_toArray, List.set_cons_zero, List.set_cons_succ])
      refine regA 6 62 (v := ?_) rfl rfl (by kernel_rfl) (by kernel_rfl) (by kernel_rfl) (fun _ _ _ h => h) (by rfl) (fun w => ?_) ?_; rotate_left; (go_simp; first | done | with_reducible rfl); (try simp only [Act.put, List.setIfInBounds_toArray, List.set_cons_zero, List.set_cons_succ])
      refine regA 7 63 (v := ?_) rfl rfl (by kernel_rfl) (by kernel_rfl) (by kernel_rfl) (fun _ _ _ h => h) (by rfl) (fun w => ?_) ?_; rotate_left; (go_simp; first | done | with_reducible rfl); (try simp only [Act.put, List.setIfInBounds_toArray, List.set_cons_zero, List.set_cons_succ])
      refine regS 8 64 (v := ?_) hS rfl rfl (by kernel_rfl) (by kernel_rfl) (by kernel_rfl) (by kernel_rfl) (fun _ _ _ h => h) (by rfl) (fun w hSw => ?_) ?_; rotate_left; (simp only [AppSat, RoundSat] at hSw; go_simp; first | done | with_reducible rfl); (try simp only [Act.put, List.setIfInBounds_toArray, List.set_cons_zero, List.set_cons_succ])
      refine regA 9 65 (v := ?_) rfl rfl (by kernel_rfl) (by kernel_rfl) (by kernel_rfl) (fun _ _ _ h => h) (by rfl) (fun w => ?_) ?_; rotate_left; (go_simp; first | done | with_reducible rfl); (try simp only [Act.put, List.setIfInBounds_toArray, List.set_cons_zero, List.set_cons_succ])
      refine regA 10 66 (v := ?_) rfl rfl (by kernel_rfl) (by kernel_rfl) (by kernel_rfl) (fun _ _ _ h => h) (by rfl) (fun w => ?_) ?_; rotate_left; (go_simp; first | done | with_reducible rfl); (try simp only [Act.put, List.setIfInBounds_toArray, List.set_cons_zero, List.set_cons_succ])
      refine regOnly 11 (by kernel_rfl) rfl (by rfl) (fun K hK => ?_)
      go_wp2_with fail
      refine hK.out _ _ (fun _ _ => ⟨Mod.cell (Mod.alloc (Mod.refl [] wc.drew) _) hS.1 (by simp), Mod.cell (Mod.alloc (Mod.refl [] wc.drew) _) hS.2 (by simp)⟩) ?_
      clear hK hS
      (try simp only [Act.put, List.setIfInBounds_toArray, List.set_cons_zero, List.set_cons_succ])
      refine regAbs (fun W' => Mod [] wc W' ∧ W'.heap[wc.heap.size]? = some (.cells #[.int .i64 1, .int .i64 s.me, .int .i64 (k : Int), .string iv] 59 (0, 0))) ⟨(by repeat' (first | exact Mod.refl _ _ | assumption | refine Mod.drewN ?_ _ | refine Mod.drew ?_ | refine Mod.alloc ?_ _ | refine Mod.setCell ?_ (by simp) _ | refine Mod.setBlock ?_ (by simp) _)), get_new wc.drew _⟩ ?_
      rintro W2 ⟨hm2, hb2⟩
      refine regOnly 12 (by kernel_rfl) rfl rfl (fun K hK => ?_)
      refine wp_app 68 _ _ 51 rfl rfl 59 im _ 4 40 Try.underlying51 him hzm hsm hym rfl (by omega) _ _ _ rfl (row_mod HA.out.2.1.row hm2 (by simp)) ⟨wc.heap.size, 0, none⟩ 1 1 (Msg.mk 1 s.me (k : Int) iv).cells rfl rfl (news_at hb2) (by simp [Value.oneCell', Msg.cells]) (by unfold maxLen; omega) (by omega) ?_
      intro v' W' ho' hm' hk' _
      refine hK.out _ _ (fun _ h => appSat_mod h HA.out.2.1 HOLD.out hm') ?_
      clear hK
      (try simp only [Act.put, List.setIfInBounds_toArray, List.set_cons_zero, List.set_cons_succ])
      have hfin := ref_app HOLD.out HA.out.1 HA.out.2.1 HA.out.2.2 hm2 ho' hm' hk'
      have HFIN := hid hfin
      clear hfin ho' hm' hk' hm2 hb2
      refine regA 13 3 (v := ?_) rfl rfl (by kernel_rfl) (by kernel_rfl) (by kernel_rfl) (fun _ _ _ h => h) (by rfl) (fun w => ?_) ?_; rotate_left; (go_simp; first | done | with_reducible rfl); (try simp only [Act.put, List.setIfInBounds_toArray, List.set_cons_zero, List.set_cons_succ])
      refine regDone (by kernel_rfl) ?_ _
      go_wp2_with fail
      go_meet
      exact ⟨by rw [HP.out]; exact HFIN.out.1, by rw [HP.out]; exact HFIN.out.2.1, HFIN.out.2.2⟩
  case rest =>
  obtain ⟨hR1, hO1, hM1⟩ := hcut
  clear H1 HTB HIV HPROP hpb
  have hsm := propS_same s
  have hhere : hereS s = ((voteS (propS s).1).1, (propS s).2 ++ (voteS (propS s).1).2) := rfl
  generalize propS s = ps at *
  obtain ⟨s1, out1⟩ := ps
  dsimp only at hR1 hO1 hsm hhere
  obtain ⟨hs1, hol⟩ := hsm
  generalize s1.sent = σ at hs1
  subst hs1
  obtain ⟨o, hov⟩ : ∃ o, o = propL L (k : Int) := ⟨_, rfl⟩
  have hlook : o = look (s.hd (1, s.round)) (leaderS s s.round) := by rw [hov, HS.out.2.1.prop, HS.out.2.2]
  have hvote := voteS_of (s := { s with sent := σ }) hlook
  have hprop := prop_any wc b vL { s with sent := σ } L (k : Int) hR1 hl
  rw [← hov] at hprop
  simp only [lkV] at hprop
  have hr := HS.out.2.2
  obtain ⟨-, -, a2, c3, -, a5, c6, c7, -, -, hf⟩ := hR1.all
  have aa := (hR1.arrs hk63).1
  dsimp only at a2 a5 c6 c7 aa
  rw [hr] at a5
  have H1 := hid (And.intro hR1 (And.intro hO1 hM1))
  have HH := hid hhere
  have HP := hid hprop
  have HV := hid hvote
  clear hR1 hO1 hM1 hhere hprop hvote hlook hov c3 hr
  cases o with
  | none =>
    simp only [voteO] at HV
    simp only [Option.isSome_none, Option.getD_none] at HP
    go_wp2_with (first
      | (go_at_call 38; refine HP.out.mono ?_; rintro e W2 ⟨rfl, rfl⟩))
    go_quiet (fail)
    go_wp2_with fail
    go_ret
    exact ⟨_, rfl, by rw [HH.out, HV.out]; exact H1.out.1.mod0 ((Mod.refl _ _).drewN _), by rw [HH.out, HV.out, List.append_nil]; exact H1.out.2.1.mod0 ((Mod.refl _ _).drewN _), H1.out.2.2.drewN _⟩
  | some v =>
    simp only [voteO] at HV
    simp only [Option.isSome_some, Option.getD_some] at HP
    cases hsb : σ (2, (k : Int)) with
    | true =>
      have hv2 : voteS { s with sent := σ } = ({ s with sent := σ }, []) := by rw [HV.out, sayS_here _ _ _ (by dsimp only; rw [HS.out.2.2]; exact hsb)]
      have HV2 := hid hv2
      rw [hsb] at aa
      clear hv2 hsb HV
      go_wp2_with (first
        | (go_at_call 38; refine HP.out.mono ?_; rintro e W2 ⟨rfl, rfl⟩))
      go_quiet (fail)
      go_wp2_with fail
      go_ret
      exact ⟨_, rfl, by rw [HH.out, HV2.out]; exact H1.out.1.mod0 ((Mod.refl _ _).drewN _), by rw [HH.out, HV2.out, List.append_nil]; exact H1.out.2.1.mod0 ((Mod.refl _ _).drewN _), H1.out.2.2.drewN _⟩
    | false =>
      obtain ⟨bb, hbb⟩ : ∃ bb, bb = decide (0 ≤ s.lr ∧ s.lv ≠ v) := ⟨_, rfl⟩
      obtain ⟨v', hv'⟩ : ∃ v' : ByteArray, v' = if 0 ≤ s.lr ∧ s.lv ≠ v then ⟨#[]⟩ else v := ⟨_, rfl⟩
      have hv2 : voteS { s with sent := σ } = ({ s with sent := upd σ (2, (k : Int)) true }, [⟨2, s.me, k, v'⟩]) := by
        rw [HV.out, sayS_new _ _ _ (by dsimp only; rw [HS.out.2.2]; exact hsb), hv']
        dsimp only
        rw [HS.out.2.2]
      have hvb : v' = if bb = true then ⟨#[]⟩ else v := by rw [hv', hbb]; simp
      have HV2 := hid hv2
      have HB := hid hbb
      have HVB := hid hvb
      rw [hsb] at aa
      clear hv2 hsb HV hbb hv' hvb
      go_wp2_with (first
        | (go_at_call 38; refine HP.out.mono ?_; rintro e W2 ⟨rfl, rfl⟩))
      go_quiet (fail)
      go_wp2_with fail
      generalize hW3 : (World.drewN _ _) = W3 at *
      have hR3 : RefAt W3 b vL { s with sent := σ } L := by rw [← hW3]; exact H1.out.1.mod0 ((Mod.refl _ _).drewN _)
      have hO3 : RMsgs w.heap.size W3 u3 out1 := by rw [← hW3]; exact H1.out.2.1.mod0 ((Mod.refl _ _).drewN _)
      have hM3 : Mod [b] w W3 := by rw [← hW3]; exact H1.out.2.2.drewN _
      clear hW3 a2 a5 c6 c7 aa hf HP
      have aa := (hR3.arrs hk63).1
      obtain ⟨-, -, a2, -, -, a5, -, -, -, -, hf⟩ := hR3.all
      dsimp only at a2 a5 aa
      rw [HS.out.2.2] at a5
      have H3 := hid (And.intro hR3 (And.intro hO3 hM3))
      clear hR3 hO3 hM3
      refine wp_region_N (RoundSat b k) (fun j => !(j == 8)) (by kernel_rfl) ?_
      have hS : RoundSat b k W3.drew := a5
      refine regA 0 91 (v := ?_) rfl rfl (by kernel_rfl) (by kernel_rfl) (by kernel_rfl) (fun _ _ _ h => h) (by rfl) (fun w => ?_) ?_; rotate_left; (go_simp; first | done | with_reducible rfl); (try simp only [Act.put, List.setIfInBounds_toArray, List.set_cons_zero, List.set_cons_succ])
      refine regA 1 92 (v := ?_) rfl rfl (by kernel_rfl) (by kernel_rfl) (by kernel_rfl) (fun _ _ _ h => h) (by rfl) (fun w => ?_) ?_; rotate_left; (go_simp; first | done | with_reducible rfl); (try simp only [Act.put, List.setIfInBounds_toArray, List.set_cons_zero, List.set_cons_succ])
      refine regA 2 93 (v := ?_) rfl rfl (by kernel_rfl) (by kernel_rfl) (by kernel_rfl) (fun _ _ _ h => h) (by rfl) (fun w => ?_) ?_; rotate_left; (go_simp; first | done | with_reducible rfl); (try simp only [Act.put, List.setIfInBounds_toArray, List.set_cons_zero, List.set_cons_succ])
      refine regA 3 94 (v := ?_) rfl rfl (by kernel_rfl) (by kernel_rfl) (by kernel_rfl) (fun _ _ _ h => h) (by rfl) (fun w => ?_) ?_; rotate_left; (go_simp; first | done | with_reducible rfl); (try simp only [Act.put, List.setIfInBounds_toArray, List.set_cons_zero, List.set_cons_succ])
      refine regS 4 95 (v := ?_) hS rfl rfl (by kernel_rfl) (by kernel_rfl) (by kernel_rfl) (by kernel_rfl) (fun _ _ _ h => h) (by rfl) (fun w hSw => ?_) ?_; rotate_left; (simp only [AppSat, RoundSat] at hSw; go_simp; first | done | with_reducible rfl); (try simp only [Act.put, List.setIfInBounds_toArray, List.set_cons_zero, List.set_cons_succ])
      refine regA 5 96 (v := ?_) rfl rfl (by kernel_rfl) (by kernel_rfl) (by kernel_rfl) (fun _ _ _ h => h) (by rfl) (fun w => ?_) ?_; rotate_left; (go_simp; first | done | with_reducible rfl); (try simp only [Act.put, List.setIfInBounds_toArray, List.set_cons_zero, List.set_cons_succ])
      refine regA 6 97 (v := ?_) rfl rfl (by kernel_rfl) (by kernel_rfl) (by kernel_rfl) (fun _ _ _ h => h) (by rfl) (fun w => ?_) ?_; rotate_left; (go_simp; first | done | with_reducible rfl); (try simp only [Act.put, List.setIfInBounds_toArray, List.set_cons_zero, List.set_cons_succ])
      refine regA 7 98 (v := ?_) rfl rfl (by kernel_rfl) (by kernel_rfl) (by kernel_rfl) (fun _ _ _ h => h) (by rfl) (fun w => ?_) ?_; rotate_left; (go_simp; first | done | with_reducible rfl); (try simp only [Act.put, List.setIfInBounds_toArray, List.set_cons_zero, List.set_cons_succ])
      refine regOnly 8 (by kernel_rfl) rfl rfl (fun K hK => ?_)
      go_simp
      refine hK.out _ _ (fun h => by simp at h) ?_
      clear hK
      (try simp only [Act.put, List.setIfInBounds_toArray, List.set_cons_zero, List.set_cons_succ])
      refine regDone (by kernel_rfl) ?_ _
      go_upto_region 11 with fail
      refine wp_abs (fun W' => RefAt W' b vL { s with sent := upd σ (2, (k : Int)) true } L ∧ RMsgs w.heap.size W' u3 out1 ∧ Mod [b] w W') ⟨?_, ?_, ?_⟩ ?_
      · exact (H3.out.1.mod0 (Mod.refl _ _).drew).set _ _ _ (set_arr2 { s with sent := σ } vL hk63)
      · exact H3.out.2.1.mod (Mod.setCell (Mod.refl _ _).drew (by simp) _ : Mod [b] W3 _) (fun q hq => by have := H3.out.2.1.own q hq; have := HOLD.out.b; simp; omega)
      · exact Mod.setCell H3.out.2.2.drew (by simp) _
      clear aa a2 a5 hf hS H3
      rintro WA ⟨hRA, hOA, hMA⟩
      obtain ⟨-, -, a2, -, -, a5, c6, c7, -, -, -⟩ := hRA.all
      dsimp only at a2 a5 c6 c7
      rw [HS.out.2.2] at a5
      have HA := hid (And.intro hRA (And.intro hOA hMA))
      clear hRA hOA hMA
      obtain ⟨lb, hlb⟩ : ∃ lb, decide (0 ≤ s.lr) = lb := ⟨_, rfl⟩
      go_cut [111] (fun vv wx => vv = .bool bb ∧ wx = WA)
      case first =>
        cases lb with
        | false =>
          have hb : bb = false := by rw [HB.out]; simp [show ¬ 0 ≤ s.lr by simpa using hlb]
          have HBB := hid hb
          clear hb
          go_wp2_with fail
          go_meet
          exact ⟨by rw [HBB.out], rfl⟩
        | true =>
          have hq := chars_eq s.lv v
          have hl : 0 ≤ s.lr := by simpa using hlb
          by_cases hlv : s.lv = v
          · have hb : bb = false := by rw [HB.out]; simp [hlv]
            have HBB := hid hb
            rw [decide_eq_true hlv] at hq
            clear hb hl hlv
            go_wp2_with fail
            go_meet
            exact ⟨by rw [HBB.out], rfl⟩
          · have hb : bb = true := by rw [HB.out]; simp [hlv, hl]
            have HBB := hid hb
            rw [decide_eq_false hlv] at hq
            clear hb hl hlv
            go_wp2_with fail
            go_meet
            exact ⟨by rw [HBB.out], rfl⟩
      case rest =>
      obtain ⟨rfl, rfl⟩ := hcut
      clear hlb c6 c7
      go_upto_if 111 with fail
      go_cut [5] (fun vv wx => vv = .string v' ∧ wx = wc)
      case first =>
        cases bb with
        | false =>
          have hv : v' = v := HVB.out
          have HV3 := hid hv
          clear hv
          go_wp2_with fail
          go_meet
          exact ⟨by rw [HV3.out], rfl⟩
        | true =>
          have hv : v' = ⟨#[]⟩ := HVB.out
          have HV3 := hid hv
          clear hv
          go_wp2_with fail
          go_meet
          exact ⟨by rw [HV3.out], rfl⟩
      case rest =>
      obtain ⟨rfl, rfl⟩ := hcut
      go_wp2_with fail
      have HLEN := hol
      have hS : AppSat b s.me k wc.drew := ⟨a2, a5⟩
      refine wp_region_N (AppSat b s.me k) (fun _ => true) (by kernel_rfl) ?_
      refine regA 0 112 (v := ?_) rfl rfl (by kernel_rfl) (by kernel_rfl) (by kernel_rfl) (fun _ _ _ h => h) (by rfl) (fun w => ?_) ?_; rotate_left; (go_simp; first | done | with_reducible rfl); (try simp only [Act.put, List.setIfInBounds_toArray, List.set_cons_zero, List.set_cons_succ])
      refine regA 1 113 (v := ?_) rfl rfl (by kernel_rfl) (by kernel_rfl) (by kernel_rfl) (fun _ _ _ h => h) (by rfl) (fun w => ?_) ?_; rotate_left; (go_simp; first | done | with_reducible rfl); (try simp only [Act.put, List.setIfInBounds_toArray, List.set_cons_zero, List.set_cons_succ])
      refine regA 2 114 (v := ?_) rfl rfl (by kernel_rfl) (by kernel_rfl) (by kernel_rfl) (fun _ _ _ h => h) (by rfl) (fun w => ?_) ?_; rotate_left; (go_simp; first | done | with_reducible rfl); (try simp only [Act.put, List.setIfInBounds_toArray, List.set_cons_zero, List.set_cons_succ])
      refine regA 3 115 (v := ?_) rfl rfl (by kernel_rfl) (by kernel_rfl) (by kernel_rfl) (fun _ _ _ h => h) (by rfl) (fun w => ?_) ?_; rotate_left; (go_simp; first | done | with_reducible rfl); (try simp only [Act.put, List.setIfInBounds_toArray, List.set_cons_zero, List.set_cons_succ])
      refine regS 4 116 (v := ?_) hS rfl rfl (by kernel_rfl) (by kernel_rfl) (by kernel_rfl) (by kernel_rfl) (fun _ _ _ h => h) (by rfl) (fun w hSw => ?_) ?_; rotate_left; (simp only [AppSat, RoundSat] at hSw; go_simp; first | done | with_reducible rfl); (try simp only [Act.put, List.setIfInBounds_toArray, List.set_cons_zero, List.set_cons_succ])
      refine regA 5 117 (v := ?_) rfl rfl (by kernel_rfl) (by kernel_rfl) (by kernel_rfl) (fun _ _ _ h => h) (by rfl) (fun w => ?_) ?_; rotate_left; (go_simp; first | done | with_reducible rfl); (try simp only [Act.put, List.setIfInBounds_toArray, List.set_cons_zero, List.set_cons_succ])
      refine regA 6 118 (v := ?_) rfl rfl (by kernel_rfl) (by kernel_rfl) (by kernel_rfl) (fun _ _ _ h => h) (by rfl) (fun w => ?_) ?_; rotate_left; (go_simp; first | done | with_reducible rfl); (try simp only [Act.put, List.setIfInBounds_toArray, List.set_cons_zero, List.set_cons_succ])
      refine regA 7 119 (v := ?_) rfl rfl (by kernel_rfl) (by kernel_rfl) (by kernel_rfl) (fun _ _ _ h => h) (by rfl) (fun w => ?_) ?_; rotate_left; (go_simp; first | done | with_reducible rfl); (try simp only [Act.put, List.setIfInBounds_toArray, List.set_cons_zero, List.set_cons_succ])
      refine regS 8 120 (v := ?_) hS rfl rfl (by kernel_rfl) (by kernel_rfl) (by kernel_rfl) (by kernel_rfl) (fun _ _ _ h => h) (by rfl) (fun w hSw => ?_) ?_; rotate_left; (simp only [AppSat, RoundSat] at hSw; go_simp; first | done | with_reducible rfl); (try simp only [Act.put, List.setIfInBounds_toArray, List.set_cons_zero, List.set_cons_succ])
      refine regA 9 121 (v := ?_) rfl rfl (by kernel_rfl) (by kernel_rfl) (by kernel_rfl) (fun _ _ _ h => h) (by rfl) (fun w => ?_) ?_; rotate_left; (go_simp; first | done | with_reducible rfl); (try simp only [Act.put, List.setIfInBounds_toArray, List.set_cons_zero, List.set_cons_succ])
      refine regA 10 122 (v := ?_) rfl rfl (by kernel_rfl) (by kernel_rfl) (by kernel_rfl) (fun _ _ _ h => h) (by rfl) (fun w => ?_) ?_; rotate_left; (go_simp; first | done | with_reducible rfl); (try simp only [Act.put, List.setIfInBounds_toArray, List.set_cons_zero, List.set_cons_succ])
      refine regOnly 11 (by kernel_rfl) rfl (by rfl) (fun K hK => ?_)
      go_wp2_with fail
      refine hK.out _ _ (fun _ _ => ⟨Mod.cell (Mod.alloc (Mod.refl [] wc.drew) _) hS.1 (by simp), Mod.cell (Mod.alloc (Mod.refl [] wc.drew) _) hS.2 (by simp)⟩) ?_
      clear hK hS
      (try simp only [Act.put, List.setIfInBounds_toArray, List.set_cons_zero, List.set_cons_succ])
      refine regAbs (fun W' => Mod [] wc W' ∧ W'.heap[wc.heap.size]? = some (.cells #[.int .i64 2, .int .i64 s.me, .int .i64 (k : Int), .string v'] 59 (0, 0))) ⟨(by repeat' (first | exact Mod.refl _ _ | assumption | refine Mod.drewN ?_ _ | refine Mod.drew ?_ | refine Mod.alloc ?_ _ | refine Mod.setCell ?_ (by simp) _ | refine Mod.setBlock ?_ (by simp) _)), get_new wc.drew _⟩ ?_
      rintro W2 ⟨hm2, hb2⟩
      refine regOnly 12 (by kernel_rfl) rfl rfl (fun K hK => ?_)
      refine wp_app 124 _ _ 51 rfl rfl 59 im _ 4 40 Try.underlying51 him hzm hsm hym rfl (by omega) _ _ _ rfl (row_mod HA.out.2.1.row hm2 (by simp)) ⟨wc.heap.size, 0, none⟩ 1 1 (Msg.mk 2 s.me (k : Int) v').cells rfl rfl (news_at hb2) (by simp [Value.oneCell', Msg.cells]) (by unfold maxLen; omega) (by omega) ?_
      intro v' W' ho' hm' hk' _
      refine hK.out _ _ (fun _ h => appSat_mod h HA.out.2.1 HOLD.out hm') ?_
      clear hK
      (try simp only [Act.put, List.setIfInBounds_toArray, List.set_cons_zero, List.set_cons_succ])
      have hfin := ref_app HOLD.out HA.out.1 HA.out.2.1 HA.out.2.2 hm2 ho' hm' hk'
      have HFIN := hid hfin
      clear hfin ho' hm' hk' hm2 hb2
      refine regA 13 3 (v := ?_) rfl rfl (by kernel_rfl) (by kernel_rfl) (by kernel_rfl) (fun _ _ _ h => h) (by rfl) (fun w => ?_) ?_; rotate_left; (go_simp; first | done | with_reducible rfl); (try simp only [Act.put, List.setIfInBounds_toArray, List.set_cons_zero, List.set_cons_succ])
      refine regDone (by kernel_rfl) ?_ _
      go_wp2_with fail
      go_ret
      exact ⟨_, rfl, by rw [HH.out, HV2.out]; exact HFIN.out.1, by rw [HH.out, HV2.out]; exact HFIN.out.2.1, HFIN.out.2.2⟩
end Go.Proofs.Ytnpmjpdndhedgaa
