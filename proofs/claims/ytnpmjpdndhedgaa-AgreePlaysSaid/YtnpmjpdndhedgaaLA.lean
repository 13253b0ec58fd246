/-
  The statements' world, walked further: made. No statement of a claim stands here; each contract names what it asks.
-/
import Derived.Test.YtnpmjpdndhedgaaL9
set_option linter.unusedSimpArgs false
namespace Go.Proofs.Ytnpmjpdndhedgaa
open Go Go.RowKit Go.ChangeMaps

/-- The first k nodes have begun. -/
def begunL : Nat → LawS → LawS
  | 0, L => L
  | k + 1, L => stepS (begunL k L) k (fun s => hereS (at0 s))

theorem more_run {W0 W w1 : World} {lw t bad j : Nat} {ins : List ByteArray} {p : Loc} {vn : Value} {pl : List Loc} (ht : t ≤ 2) (h : LawIn W0 W lw vn (.slice none 0 0) (.slice none 0 0) (.slice none 0 0) pl (newL t bad ins j)) (hj : j < 3 * t + 1) (hm1 : Mod [] W w1)
    (hn1 : NodeAt w1 p (makeS (3 * (t : Int) + 1) (t : Int) ((j : Int) + 1) (inpS ins (j + 1)))) (hx : ∀ k ∈ p.foot, W.heap.size ≤ k) :
    ∃ v2 w2, (Builtin.append_ #[30, 30] 30 #[vn, .slice (some ⟨w1.heap.size, 0, none⟩) 1 1]).run Try.prog (w1.alloc (.cells #[.pointer (some ⟨p.x, 0, none⟩)] 36)) = .ok v2 w2 ∧ (∃ g n c, v2 = .slice (some ⟨g, 0, none⟩) n c) ∧
      w2.cell? ⟨lw, 3, none⟩ = some vn ∧ w2.frozen? ⟨lw, 3, none⟩ = false ∧
      Hid (LawIn W0 (w2.setCell ⟨lw, 3, none⟩ v2) lw v2 (.slice none 0 0) (.slice none 0 0) (.slice none 0 0) (pl ++ [p]) (newL t bad ins (j + 1))) := by
  obtain ⟨ip, hip, hzp, hsp, hyp⟩ := info_parts infoPtr
  have hbl : pl.length = j := by rw [h.law.len]; simp [newL]
  have h1 := h.law.mod0 hm1
  obtain ⟨v2, w2, hr, ho2, hm2, hl2, hz2⟩ := run_app (P := Try.prog) (w1.alloc (.cells #[.pointer (some ⟨p.x, 0, none⟩)] 36)) 30 30 36 ip _ 1 8 Try.underlying30 hip hzp hsp hyp rfl (by omega) vn pl.length _ (row_mod h1.nodes (Mod.alloc (Mod.refl [] w1) _) (by simp)) ⟨w1.heap.size, 0, none⟩ 1 1 [.pointer (some ⟨p.x, 0, none⟩)] rfl (news_at (get_new w1 _)) (by simp [Value.oneCell']) (by unfold maxLen; omega) (by omega)
  have hm1' : Mod [] W (w1.alloc (.cells #[.pointer (some ⟨p.x, 0, none⟩)] 36)) := hm1.alloc _
  have hlw : lw ∉ vn.ownBlock.toList := own_not h.law.set.1
  have hz1 := hm1'.size
  refine ⟨v2, w2, hr, (by obtain ⟨g, cap, cur, e, _⟩ := row_form ho2 (by rintro rfl; rcases ho2.2 with ⟨_, h0⟩ | ⟨g, cap, cur, h0, _⟩; omega; cases h0); exact ⟨g, _, cap, e⟩), ?_, free_at (hm2.get (get_alloc h1.cells _) hlw) 3, hid ?_⟩
  · refine hm2.cell (Mod.cell (Mod.alloc (Mod.refl [] w1) _) ?_ (by simp)) hlw
    rw [cell_at h1.cells]; rfl
  · exact h.more hm1' (hn1.mod0 (Mod.alloc (Mod.refl [] w1) _)) hx hm2 ho2 (fun k hk => (hl2 k hk).imp id (fun h => by rw [h]; exact Nat.le_refl _))

theorem made_start (W : World) (t bad : Nat) (ins : List ByteArray) (hb : bad ≤ t) :
    LawIn W (W.alloc (.cells #[.int .i64 (3 * (t : Int) + 1), nat t, .int .i64 (3 * (t : Int) + 1 - bad), .slice none 0 0, .slice none 0 0, .slice none 0 0, .slice none 0 0] 34)) W.heap.size (.slice none 0 0) (.slice none 0 0) (.slice none 0 0) (.slice none 0 0) [] (newL t bad ins 0) := by
  have e1 : (3 * (t : Int) + 1 - bad) = ((3 * t + 1 - bad : Nat) : Int) := by omega
  have e2 : (3 * (t : Int) + 1) = ((3 * t + 1 : Nat) : Int) := by omega
  rw [e1, e2]
  refine ⟨⟨get_new W _, ⟨rfl, .inl ⟨rfl, rfl⟩⟩, ⟨rfl, .inl ⟨rfl, rfl⟩⟩, ⟨rfl, .inl ⟨rfl, rfl⟩⟩, ⟨rfl, .inl ⟨rfl, rfl⟩⟩, (by simp [Value.ownBlock]), rfl, fun i p s hp => (by cases hp), fun i j a b _ ha => (by cases ha)⟩, Mod.alloc (Mod.refl _ _) _, Nat.le_refl _, ?_, ?_, ?_, ?_, ?_⟩
  all_goals simp [Value.ownBlock, footsB]

theorem makeS_ok {n t me : Int} {input : ByteArray} (h1 : 0 ≤ t) (h2 : 3 * t + 1 ≤ n) (h3 : n ≤ 16) (h4 : 1 ≤ me) (h5 : me ≤ n) : NOk (makeS n t me input) :=
  ⟨by simp only [makeS]; omega, h3, h1, h2, h4, h5, Int.le_refl _, by simp [makeS], Int.le_refl _, by simp [makeS], fun _ => VOk.nil, fun k e he => by cases he⟩
theorem newL_ok (t bad : Nat) (ins : List ByteArray) (ht : t ≤ 2) (hb : bad ≤ t) : LOk (newL t bad ins (3 * t + 1 - bad)) := by
  refine ⟨by simp [newL], by simp only [newL]; omega, by simp only [newL]; omega, fun s hs => ?_, (fun d hd => by cases hd), rfl⟩
  simp only [newL, List.mem_map, List.mem_range] at hs
  obtain ⟨i, hi, rfl⟩ := hs
  exact makeS_ok (by omega) (by omega) (by omega) (by omega) (by omega)
theorem begunL_ok {L : LawS} (h : LOk L) (k : Nat) : LOk (begunL k L) := by
  induction k with
  | zero => exact h
  | succ k ih => exact stepS_ok ih _ _ (fun s hs => hereS_ok (at0_ok hs))
theorem here_few (s : NodeS) : (hereS (at0 s)).2.length ≤ 3 := by have := (hereS_same (at0 s)).2; omega
theorem begunL_fits {L : LawS} (h : LOk L) (hf : Fits L 0) (k : Nat) : Fits (begunL k L) k := by
  induction k with
  | zero => exact hf
  | succ k ih => exact stepS_fits ih (begunL_ok h k).g2 _ _ here_few
theorem stepS_at (L : LawS) (i : Nat) (f : NodeS → NodeS × List Msg) (j : Nat) (hj : j ≠ i) : (stepS L i f).nodes[j]? = L.nodes[j]? := by
  unfold stepS
  split
  · rw [(sendS_same _ _).2.2.2.1]
    exact List.getElem?_set_ne (Ne.symm hj)
  · rfl
theorem begunL_at (L : LawS) (k j : Nat) (hj : k ≤ j) : (begunL k L).nodes[j]? = L.nodes[j]? := by
  induction k with
  | zero => rfl
  | succ k ih => rw [begunL, stepS_at _ _ _ _ (by omega), ih (by omega)]
theorem begunL_same (L : LawS) (k : Nat) : (begunL k L).n = L.n ∧ (begunL k L).t = L.t ∧ (begunL k L).good = L.good := by
  induction k with
  | zero => exact ⟨rfl, rfl, rfl⟩
  | succ k ih =>
    have := stepS_same (begunL k L) k (fun s => hereS (at0 s))
    rw [begunL, this.1, this.2.1, this.2.2]
    exact ih

set_option maxHeartbeats 2000000 in
theorem made_any (W : World) (t bad : Nat) (a : Option Addr) (c : Nat) (ins : List ByteArray) (ht : t ≤ 2) (hb : bad ≤ t) (hI : StrsAt W a ins) (hl : ins.length ≤ 8) :
    Calls Try.prog 10 #[nat t, nat bad, .slice a ins.length c] W fun e W' => ∃ lw, e = .returned (.pointer (some ⟨lw, 0, none⟩)) ∧ LawAny W W' lw (begunL (3 * t + 1 - bad) (newL t bad ins (3 * t + 1 - bad))) := by
  have e1 : IntKind.i64.wrap (3 * (t : Int)) = 3 * (t : Int) := IntWalk.i64_in _ (by omega)
  have e2 : IntKind.i64.wrap (3 * (t : Int) + 1) = 3 * (t : Int) + 1 := IntWalk.i64_in _ (by omega)
  have e3 : IntKind.i64.wrap (3 * (t : Int) + 1 - bad) = 3 * (t : Int) + 1 - bad := IntWalk.i64_in _ (by omega)
  have h0 := made_start W t bad ins hb
  have H0 := hid h0
  have HI := hid hI
  obtain ⟨g, hg⟩ : ∃ g, g = 3 * t + 1 - bad := ⟨_, rfl⟩
  rw [← hg]
  have HG := hid hg
  have hg1 : 1 ≤ g := by omega
  have hg2 : g ≤ 3 * t + 1 := by omega
  clear h0 hI hg
  go_enter Try.func10, Try.ntmps10
  go_wp2_with fail
  generalize (W.alloc _) = W1 at *
  go_loopg [9] g (fun gk i W' => ∃ (j : Nat) (vn : Value) (pl : List Loc), i = .int .i64 ((j : Int) + 1) ∧ gk + j = g ∧ LawIn W W' W.heap.size vn (.slice none 0 0) (.slice none 0 0) (.slice none 0 0) pl (newL t bad ins j))
  case atStart => exact ⟨0, .slice none 0 0, [], by simp, by omega, H0.out⟩
  case round =>
    obtain ⟨j, vn, pl, rfl, hj, hL⟩ := hrel
    have l2 : wr.cell? ⟨W.heap.size, 2, none⟩ = some (.int .i64 (g : Int)) := by rw [cell_at hL.law.cells]; rw [HG.out]; rfl
    by_cases hjn : j < g
    · have l3 : wr.cell? ⟨W.heap.size, 3, none⟩ = some vn := by rw [cell_at hL.law.cells]; rfl
      obtain ⟨v0, hv0⟩ : ∃ v, v = inp0 ins (j + 1) := ⟨_, rfl⟩
      have hj1 : decide ((j : Int) + 1 ≤ (g : Int)) = true := decide_eq_true (by omega)
      have hins : StrsAt wr a ins := HI.out.mod0 hL.old
      have HINS := hid hins
      have HV0 := hid hv0
      have HL := hid hL
      clear hL hins hv0
      go_upto_if 36 with fail
      go_cut [10] (fun v wx => v = .string v0 ∧ wx = wr)
      case first =>
        by_cases hz : 0 < ins.length
        · have hlt : (j + 1) % ins.length < ins.length := Nat.mod_lt _ hz
          obtain ⟨v, hv⟩ : ∃ v, ins[(j + 1) % ins.length]? = some v := ⟨_, List.getElem?_eq_getElem hlt⟩
          have hvv : v0 = v := by rw [HV0.out]; unfold inp0; rw [if_pos hz, List.getD, hv]; rfl
          obtain ⟨b, o, rfl, hb1, hb2⟩ := HINS.out.cell _ _ hv
          have hr : (Int.tmod ((j : Int) + 1) (ins.length : Int)) = (((j + 1) % ins.length : Nat) : Int) := by
            rw [Int.tmod_eq_emod_of_nonneg (by omega), Int.natCast_emod]; rfl
          obtain ⟨q, hq⟩ : ∃ q, q = (j + 1) % ins.length := ⟨_, rfl⟩
          rw [← hq] at hb2 hr hlt
          have q0 : (0 : Int) ≤ (q : Int) := Int.natCast_nonneg _
          have q1 : (q : Int) < (ins.length : Int) := by omega
          have q2 : IntKind.i64.wrap (q : Int) = q := IntWalk.i64_in _ (by omega)
          have d1 : decide (0 < ins.length) = true := decide_eq_true hz
          have d2 : ((ins.length : Int) == 0) = false := by rw [beq_eq_false_iff_ne]; omega
          have HVV := hid hvv
          clear hvv hv hq hlt
          go_wp2_with fail
          go_meet
          exact ⟨by rw [HVV.out], rfl⟩
        · have d1 : decide (0 < ins.length) = false := decide_eq_false hz
          have hvv : v0 = ⟨#[105]⟩ := by rw [HV0.out]; unfold inp0; rw [if_neg hz]
          have HVV := hid hvv
          clear hvv
          go_wp2_with fail
          go_meet
          exact ⟨by rw [HVV.out], rfl⟩
      case rest =>
      obtain ⟨rfl, rfl⟩ := hcut
      obtain ⟨v1, hv1⟩ : ∃ v, v = inp1 v0 := ⟨_, rfl⟩
      have HV1 := hid hv1
      clear hv1
      obtain ⟨eb, heb⟩ : ∃ eb, v0.toList.isEmpty = eb := ⟨_, rfl⟩
      have heb2 : (v0.toList == []) = eb := by rw [← heb]; cases v0.toList <;> rfl
      go_upto_if 45 with fail
      go_cut [10] (fun v wx => v = .string v1 ∧ wx = wc)
      case first =>
        cases eb with
        | true =>
          have hvv : v1 = ⟨#[101]⟩ := by rw [HV1.out]; unfold inp1; rw [if_pos ((emp_iff v0).1 (by simpa using heb))]
          have HVV := hid hvv
          clear hvv heb heb2
          go_wp2_with fail
          go_meet
          exact ⟨by rw [HVV.out], rfl⟩
        | false =>
          have hvv : v1 = v0 := by rw [HV1.out]; unfold inp1; rw [if_neg (fun h => by rw [(emp_iff v0).2 h] at heb; cases heb)]
          have HVV := hid hvv
          clear hvv heb heb2
          go_wp2_with fail
          go_meet
          exact ⟨by rw [HVV.out], rfl⟩
      case rest =>
      obtain ⟨rfl, rfl⟩ := hcut
      obtain ⟨cz, hcz⟩ : ∃ k : Nat, k = min v1.size 50 := ⟨_, rfl⟩
      have cz1 : (if (50 : Int) < (v1.size : Int) then (50 : Int) else (v1.size : Int)) = (cz : Int) := by split <;> omega
      have cz2 : (if 50 < v1.size then (50 : Int) else (v1.size : Int)) = (cz : Int) := by split <;> omega
      have cz3 : cz ≤ v1.size := by omega
      have cz4 : (0 : Int) ≤ (cz : Int) := Int.natCast_nonneg _
      have hin : v1.extract 0 cz = inpS ins (j + 1) := by rw [hcz, HV1.out, HV0.out]; rfl
      have HIN := hid hin
      have hok := inpS_ok ins (j + 1)
      have hmake := make_yes (3 * (t : Int) + 1) (t : Int) ((j : Int) + 1) (inpS ins (j + 1)) wc (by omega) (by omega) (by omega) (by omega) (by omega) (by omega) hok.1 (by omega)
      rw [← hin] at hmake
      have HMAKE := hid hmake
      have hmore := fun (w1 : World) (p : Loc) hm1 hn1 hx => more_run (w1 := w1) (p := p) ht HL.out (by omega) hm1 hn1 hx
      have HMORE := hid hmore
      clear hcz hin hok hmake hmore
      go_wp2_with (first
        | (go_at_call 15; refine HMAKE.out.mono ?_; rintro e w1 ⟨p, rfl, hn1, hm1, hx1⟩; rw [HIN.out] at hn1; have l3 : w1.cell? ⟨W.heap.size, 3, none⟩ = some vn := hm1.cell l3 (by simp); have H1 := hid (HMORE.out _ _ hm1 hn1 hx1); clear hn1 hm1 hx1)
        | (at_builtin; refine wpList_app_run rfl _ _ 30 rfl vn _ rfl rfl _ H1.out ?_; rintro v2 w2 ⟨⟨g2, n2, c2, rfl⟩, x4, xf, HF⟩))
      go_roundg (gk - 1)
      case measure => omega
      case rel => exact ⟨j + 1, _, _, by go_num, by omega, HF.out⟩
    · have hjg : j = g := by omega
      subst hjg
      have hj1 : decide ((j : Int) + 1 ≤ (j : Int)) = false := decide_eq_false (by omega)
      have hok : LOk (newL t bad ins j) := by have := newL_ok t bad ins ht hb; rw [← HG.out] at this; exact this
      have hgood : (newL t bad ins j).good = j := by rw [HG.out]; rfl
      have hfit : Fits (newL t bad ins j) 0 := ⟨Nat.zero_le _, Nat.zero_le _⟩
      have HLN := hid (And.intro hL (And.intro hok (And.intro hfit hgood)))
      clear hL hok hfit hj H0
      go_wp2_with fail
      go_loopg [13] j (fun gk i W' => ∃ (k : Nat), i = nat k ∧ gk + k = j ∧ LawAny W W' W.heap.size (begunL k (newL t bad ins j)))
      case atStart => exact ⟨0, rfl, by omega, _, _, _, _, _, HLN.out.1⟩
      case round =>
        obtain ⟨k, rfl, hk, hLA⟩ := hrel
        have hsame := begunL_same (newL t bad ins j) k
        have hgj : (begunL k (newL t bad ins j)).good = j := by rw [hsame.2.2]; exact HLN.out.2.2.2
        have hok := begunL_ok HLN.out.2.1 k
        have hfit := begunL_fits HLN.out.2.1 HLN.out.2.2.1 k
        by_cases hkj : k < j
        · have hnk : (begunL k (newL t bad ins j)).nodes[k]? = some (makeS (3 * (t : Int) + 1) (t : Int) ((k : Int) + 1) (inpS ins (k + 1))) := by
            rw [begunL_at _ _ _ (Nat.le_refl _)]
            simp only [newL]
            rw [List.getElem?_map, List.getElem?_range hkj]
            rfl
          have hnext : begunL (k + 1) (newL t bad ins j) = sendS { begunL k (newL t bad ins j) with nodes := (begunL k (newL t bad ins j)).nodes.set k (hereS (at0 (makeS (3 * (t : Int) + 1) (t : Int) ((k : Int) + 1) (inpS ins (k + 1))))).1 } (hereS (at0 (makeS (3 * (t : Int) + 1) (t : Int) ((k : Int) + 1) (inpS ins (k + 1))))).2 := by
            rw [begunL, stepS_some hnk]
          have hsok : NOk (makeS (3 * (t : Int) + 1) (t : Int) ((k : Int) + 1) (inpS ins (k + 1))) := hok.nodes _ (List.mem_of_getElem? hnk)
          have hrd : (makeS (3 * (t : Int) + 1) (t : Int) ((k : Int) + 1) (inpS ins (k + 1))).round = -1 := rfl
          generalize (makeS (3 * (t : Int) + 1) (t : Int) ((k : Int) + 1) (inpS ins (k + 1))) = s at *
          have HNEXT := hid hnext
          clear hnext
          generalize hLk : begunL k (newL t bad ins j) = Lk at *
          clear hLk
          obtain ⟨vn2, vt2, vw2, va2, pl2, hI2⟩ := hLA
          obtain ⟨p, hp⟩ : ∃ p, pl2[k]? = some p := ⟨_, List.getElem?_eq_getElem (by rw [hI2.law.len, hok.len, hgj]; exact hkj)⟩
          have hnode := hI2.law.node k p s hp hnk
          have hlen2 : pl2.length = j := by rw [hI2.law.len, hok.len, hgj]
          obtain ⟨nb, nc, rfl⟩ := hI2.law.form (by omega)
          have n1 := hI2.law.at hp
          have l2 : wr.cell? ⟨W.heap.size, 2, none⟩ = some (nat j) := by rw [cell_at hI2.law.cells, hgj]; rfl
          have l3 : wr.cell? ⟨W.heap.size, 3, none⟩ = some (.slice (some ⟨nb, 0, none⟩) pl2.length nc) := by rw [cell_at hI2.law.cells]; rfl
          have k0 : (0 : Int) ≤ (k : Int) := Int.natCast_nonneg _
          have k1 : (k : Int) < (pl2.length : Int) := by omega
          have k2 : decide ((k : Int) < (j : Int)) = true := decide_eq_true (by omega)
          have hf1 : Lk.dest.length ≤ 1000000 := by rw [hok.same]; have := hfit.1; omega
          have hf2 : Lk.wait.length ≤ 1000000 := by have := hfit.1; omega
          have hf3 : Lk.all.length ≤ 1000000 := by have := hfit.2; omega
          have hbegin := begin_new wr p s hnode hsok hrd
          have hstep := fun (w' : World) (v : Value) (p' : Loc) hn hm hd hx => hI2.step (v := v) (W' := w') (p' := p') (s' := (hereS (at0 s)).1) (out := (hereS (at0 s)).2) hp hn hm hd hx
          have HBEGIN := hid hbegin
          have HSTEP := hid hstep
          have HF := hid (And.intro hf1 (And.intro hf2 hf3))
          have hg100 : Lk.good ≤ 100 := by omega
          have HGD := hid hg100
          clear hbegin hstep hf1 hf2 hf3 hnode hsok hrd hI2 hp hnk hgj hok hfit hsame hlen2 hg100
          go_wp2_with (first
            | (go_at_call 17; refine HBEGIN.out.mono ?_; rintro e w' ⟨p', v, rfl, hn7, hms7, hm7, hx7⟩; obtain ⟨hI7, hA7⟩ := HSTEP.out _ _ _ hn7 hms7 hm7 hx7; have HI7 := hid hI7; have HA7 := hid hA7; clear hn7 hms7 hm7 hx7 hI7 hA7)
            | (go_at_call 26; refine (send_any _ W.heap.size _ vt2 vw2 va2 _ _ _ _ HI7.out.law HA7.out HGD.out (by have := here_few s; omega) HF.out.1 HF.out.2.1 HF.out.2.2).mono ?_; intro e w' hsp; obtain ⟨rfl, hL3⟩ := HI7.out.sent hsp; have HL3 := hid hL3; clear hsp hL3))
          go_roundg (gk - 1)
          case measure => omega
          case rel => exact ⟨k + 1, by go_num, by omega, by rw [HNEXT.out]; exact HL3.out⟩
        · have hkj' : k = j := by omega
          subst hkj'
          have k2 : decide ((k : Int) < (k : Int)) = false := decide_eq_false (by omega)
          have l2 : wr.cell? ⟨W.heap.size, 2, none⟩ = some (nat k) := by
            obtain ⟨vn2, vt2, vw2, va2, pl2, hI2⟩ := hLA
            rw [cell_at hI2.law.cells, hgj]; rfl
          have HLA := hid hLA
          clear hLA hok hfit hsame hgj
          go_wp2_with fail
          go_ret
          exact ⟨_, rfl, HLA.out⟩
end Go.Proofs.Ytnpmjpdndhedgaa
