/-
  The reference's credential cache, walked: Put, whole. No statement of a claim stands here; each contract names what it asks.
-/
import Derived.Test.YteifjbfojjjacaaKb5
set_option linter.unusedSimpArgs false
namespace Go.Proofs.Yteifjbfojjjacaa
open Go Go.RowKit Go.ChangeMaps

set_option maxRecDepth 20000 in
set_option maxHeartbeats 8000000 in
theorem rput_ok (w : World) (y : Nat) (v : Value) (room : Int) (l : Tks) (t : TkS) (kv : Value) (h : RHeldAt w y v room l) (hlen : l.length ≤ 1000) (hr0 : 0 < room) (hkl : t.key.length ≤ 140737488355328) (ht1 : timeOk t.from_ = true) (ht2 : timeOk t.until_ = true)
    (hkm : ∀ w', Mod (y :: v.ownBlock.toList) w w' → KeyIn w' kv t.key) :
    Calls Try.prog 25 #[.pointer (some ⟨y, 0, none⟩), .agg (t.cells kv).toArray] w fun e w' => e = .returned (.int .i64 0) ∧ ∃ kv' v', RHeldAt w' y v' room (roomy room (gone l t.client t.service) ++ [(kv', t)]) ∧ Mod (y :: v.ownBlock.toList) w w' ∧ ∀ q, v'.ownBlock = some q → v.ownBlock = some q ∨ w.heap.size ≤ q := by
  obtain ⟨client, service, key, from_, until_, renew, flags⟩ := t
  dsimp only at ht1 ht2 hkl hkm ⊢
  have hkf : ∃ a n c, kv = .slice a n c := by
    rcases hkm w (Mod.refl _ _) with ⟨rfl, -⟩ | ⟨ad, c, rfl, -⟩ <;> exact ⟨_, _, _, rfl⟩
  obtain ⟨ka, kn, kc, rfl⟩ := hkf
  generalize hkv : Value.slice ka kn kc = kv at *
  have h0 : RPutAt w (w.alloc (.cells #[.string client, .string service, kv, .int .i64 from_, .int .i64 until_, .int .i64 renew, .int .i64 flags] 50)) y v room l v #[.string client, .string service, kv, .int .i64 from_, .int .i64 until_, .int .i64 renew, .int .i64 flags] := ⟨h.mod0 (Mod.alloc (Mod.refl _ _) _), get_new w _, Mod.alloc (Mod.refl _ _) _, fun q hq => ⟨by
    obtain ⟨c, hc⟩ := row_block h.row hq
    have := lt_of_block hc
    omega, .inl hq⟩⟩
  have hbx := h0.tk
  have b3 := cell_at hbx 3
  have b4 := cell_at hbx 4
  simp only [List.getElem?_toArray, List.getElem?_cons_zero, List.getElem?_cons_succ] at b3 b4
  have H0 := hid h0
  have HKM := hid hkm
  have HKL := hid hkl
  have HT1 := hid ht1
  have HT2 := hid ht2
  have HLEN := hid hlen
  clear h0 hbx h hkm hkl ht1 ht2 hlen
  simp only [TkS.cells]
  go_enter Try.func25, Try.ntmps25
  go_upto_block 0 with (first
    | (go_at_call 32; refine (rtime_any _ _).mono ?_; (first | rw [HT1.out] | rw [HT2.out]); rintro e w' ⟨rfl, rfl⟩))
  clear b3 b4
  generalize hwa : (w.alloc (.cells #[.string client, .string service, kv, .int .i64 from_, .int .i64 until_, .int .i64 renew, .int .i64 flags] 50)) = wa at *
  clear hwa
  obtain ⟨l1, hl1⟩ : ∃ l1, l1 = gone l client service := ⟨_, rfl⟩
  have HL1 := hid hl1
  clear hl1
  go_cut [5] (fun _ wx => ∃ v1, RPutAt w wx y v room l1 v1 #[.string client, .string service, kv, .int .i64 from_, .int .i64 until_, .int .i64 renew, .int .i64 flags])
  case first =>
    obtain ⟨a, cc, rfl⟩ := row_slice H0.out.held.row
    go_wp2_with fail
    go_loopg [5] l.length (fun gk iv W' => ∃ j : Nat, iv = .int .i64 (j : Int) ∧ gk + j = l.length ∧ (∀ p ∈ l.take j, p.2.is client service = false) ∧ Mod [] wa W')
    case atStart => exact ⟨0, rfl, rfl, by simp, Mod.refl _ _⟩
    case round =>
      obtain ⟨j, rfl, hj, hall, hm⟩ := hrel
      have hP := H0.out.mod0 hm
      have c1 : wr.cell? ⟨y, 1, none⟩ = some (.slice a l.length cc) := cell_at hP.held.cells 1
      have HA := hid hall
      have HJ := hid hj
      have j0 : (0 : Int) ≤ (j : Int) := Int.natCast_nonneg _
      by_cases hjn : j < l.length
      · have hp : l[j]? = some l[j] := List.getElem?_eq_getElem hjn
        generalize l[j] = p at hp
        obtain ⟨g, c', hg, hcell⟩ := row_pos hP.held.row (by omega)
        cases hg
        obtain ⟨pkv, pc, ps, pk, pf, pu, pr, pg⟩ := p
        have ht := tk_at hp
        have e0 := hcell _ _ (ht 0 _ rfl)
        have e1 := hcell _ _ (ht 1 _ rfl)
        dsimp only at e0 e1
        rw [Nat.add_zero] at e0
        have b0 : wr.cell? ⟨w.heap.size, 0, none⟩ = some (.string client) := cell_at hP.tk 0
        have b1 : wr.cell? ⟨w.heap.size, 1, none⟩ = some (.string service) := cell_at hP.tk 1
        have j1 : (j : Int) < (l.length : Int) := by omega
        have d1 : decide ((j : Int) < (l.length : Int)) = true := by rw [decide_eq_true_eq]; omega
        have d2 : decide (j < l.length) = true := by rw [decide_eq_true_eq]; omega
        have hj100 : j < 1000 := by have := HLEN.out; omega
        have HP := hid hp
        have HM := hid hm
        have HRP := hid hP
        have hq1 := chars_eq pc client
        have hq2 := chars_eq ps service
        have his : (⟨pc, ps, pk, pf, pu, pr, pg⟩ : TkS).is client service = (decide (pc = client) && decide (ps = service)) := rfl
        clear hp ht hcell hm hP hall hj
        cases h1 : decide (pc = client) with
        | false =>
          rw [h1] at hq1
          have HT := hid (show (⟨pc, ps, pk, pf, pu, pr, pg⟩ : TkS).is client service = false by rw [his, h1]; rfl)
          clear his h1 hjn
          go_wp2_with fail
          go_quiet (fail)
          go_wp2_with fail
          go_roundg (gk - 1)
          case measure => have := HJ.out; omega
          case rel => exact ⟨j + 1, by go_num, by have := HJ.out; omega, fun x hx => by
            rw [List.take_add_one, HP.out] at hx
            rcases List.mem_append.1 hx with hx | hx
            · exact HA.out x hx
            · simp at hx; rw [hx]; exact HT.out, HM.out.drewN _⟩
        | true =>
          rw [h1] at hq1
          cases h2 : decide (ps = service) with
          | false =>
            rw [h2] at hq2
            have HT := hid (show (⟨pc, ps, pk, pf, pu, pr, pg⟩ : TkS).is client service = false by rw [his, h1, h2]; rfl)
            clear his h1 h2 hjn
            go_wp2_with fail
            go_quiet (fail)
            go_wp2_with fail
            go_roundg (gk - 1)
            case measure => have := HJ.out; omega
            case rel => exact ⟨j + 1, by go_num, by have := HJ.out; omega, fun x hx => by
              rw [List.take_add_one, HP.out] at hx
              rcases List.mem_append.1 hx with hx | hx
              · exact HA.out x hx
              · simp at hx; rw [hx]; exact HT.out, HM.out.drewN _⟩
          | true =>
            rw [h2] at hq2
            have hT : (⟨pc, ps, pk, pf, pu, pr, pg⟩ : TkS).is client service = true := by rw [his, h1, h2]; rfl
            have hidx : l.findIdx? (fun p => p.2.is client service) = some j := by
              have hp := HP.out
              obtain ⟨hjl, hje⟩ := List.getElem?_eq_some_iff.1 hp
              rw [List.findIdx?_eq_some_iff_getElem]
              refine ⟨hjl, by rw [hje]; exact hT, fun i hi => ?_⟩
              have := HA.out l[i] (List.mem_take_iff_getElem.2 ⟨i, by omega, rfl⟩)
              simp [this]
            have hl1 : l1 = l.eraseIdx j := by rw [HL1.out]; unfold gone; rw [hidx]
            have hwo : ∀ W', Mod [] wr W' → Calls Try.prog 40 #[.slice (some ⟨g, 0, none⟩) l.length cc, .int .i64 (j : Int)] W' fun e w' => ∃ v', e = .returned v' ∧ (w'.cell? ⟨y, 1, none⟩ = some (.slice (some ⟨g, 0, none⟩) l.length cc) ∧ w'.frozen? ⟨y, 1, none⟩ = false ∧ (∃ a n c, v' = .slice a n c)) ∧ RPutAt w (w'.setCell ⟨y, 1, none⟩ v') y (.slice (some ⟨g, 0, none⟩) l.length cc) room l1 v' #[.string client, .string service, kv, .int .i64 from_, .int .i64 until_, .int .i64 renew, .int .i64 flags] := by
              intro W' hW'
              have hPW := HRP.out.mod0 hW'
              refine (without_any W' _ l j hPW.held.row hjn HLEN.out hPW.held.kv).mono ?_
              rintro e w' ⟨v', rfl, hr', hm', ho'⟩
              obtain ⟨a', c', rfl⟩ := row_slice hr'
              rw [hl1]
              exact ⟨_, rfl, ⟨cell_at (hPW.held.mod0 hm').cells 1, free_at (hPW.held.mod0 hm').cells 1, _, _, _, rfl⟩, hPW.turn hm' hr' (fun p hp => (List.eraseIdx_sublist ..).subset hp) ho'⟩
            have HWO := hid hwo
            clear his h1 h2 hT hidx hwo hl1 hjn
            go_wp2_with fail
            go_quiet (fail)
            go_wp2_with (first
              | (go_at_call 40; refine (HWO.out _ (Mod.drewN (Mod.refl _ _) _)).mono ?_; rintro e w2 ⟨v2, rfl, ⟨k1, k2, a2, n2, c2, rfl⟩, hp2⟩; have HP2 := hid hp2; clear hp2))
            go_meet
            exact ⟨_, HP2.out⟩
      · have d1 : decide ((j : Int) < (l.length : Int)) = false := by rw [decide_eq_false_iff_not]; omega
        have d2 : decide (j < l.length) = false := by rw [decide_eq_false_iff_not]; omega
        have hl1 : l1 = l := by
          rw [HL1.out]; unfold gone
          have : l.findIdx? (fun p => p.2.is client service) = none := by
            rw [List.findIdx?_eq_none_iff]
            exact fun x hx => HA.out x (by rw [List.take_of_length_le (by omega)]; exact hx)
          rw [this]
        have HL := hid hl1
        have HM := hid hm
        clear hP hall hj hm hl1
        go_wp2_with fail
        go_meet
        exact ⟨_, by rw [HL.out]; exact H0.out.mod0 HM.out⟩
  case rest =>
    obtain ⟨v1, h1⟩ := hcut
    obtain ⟨a, cc, rfl⟩ := row_slice h1.held.row
    have hlen1 : l1.length ≤ 1000 := by
      have h := HL1.out
      have hl := HLEN.out
      unfold gone at h
      split at h
      · rw [h, List.length_eraseIdx]; split <;> omega
      · rw [h]; exact hl
    have HL1Z := HL1
    clear HL1 H0
    have c0 : wc.cell? ⟨y, 0, none⟩ = some (.int .i64 room) := cell_at h1.held.cells 0
    have c1 : wc.cell? ⟨y, 1, none⟩ = some (.slice a l1.length cc) := cell_at h1.held.cells 1
    obtain ⟨l2, hl2⟩ : ∃ l2, l2 = roomy room l1 := ⟨_, rfl⟩
    have H1 := hid h1
    have HL2 := hid hl2
    have HLEN1 := hid hlen1
    clear h1 hl2 hlen1
    obtain ⟨bb, hbb⟩ : ∃ bb, decide (room ≤ (l1.length : Int)) = bb := ⟨_, rfl⟩
    go_wp2_with fail
    go_quiet (fail)
    have HBB := hid hbb
    clear hbb
    go_upto_if 69 with fail
    go_cut [6] (fun _ wx => ∃ v2, RPutAt w wx y v room l2 v2 #[.string client, .string service, kv, .int .i64 from_, .int .i64 until_, .int .i64 renew, .int .i64 flags])
    case first =>
      cases bb with
      | true =>
        have hfull : room ≤ (l1.length : Int) := by simpa using HBB.out
        have hpos : 0 < l1.length := by omega
        have hl2 : l2 = l1.eraseIdx (firstS l1) := by rw [HL2.out]; unfold roomy; rw [if_pos hfull]
        have HL2 := hid hl2
        have HPOS := hid hpos
        clear hl2 hfull
        obtain ⟨g, c', hg, -⟩ := row_pos H1.out.held.row hpos
        cases hg
        go_wp2_with fail
        go_loopg [6, 7] l1.length (fun gk kv iv W' => ∃ j : Nat, iv = .int .i64 (j : Int) ∧ kv = .int .i64 (firstTo l1 j : Int) ∧ gk + j = l1.length ∧ j ≤ l1.length ∧ Mod [] wc W')
        case atStart => exact ⟨0, rfl, rfl, rfl, Nat.zero_le _, Mod.drewN (Mod.refl _ _) _⟩
        case round =>
          obtain ⟨j, rfl, rfl, hj, hjl, hm⟩ := hrel
          have hP := H1.out.mod0 hm
          have c2 : wr.cell? ⟨y, 1, none⟩ = some (.slice (some ⟨g, 0, none⟩) l1.length cc) := cell_at hP.held.cells 1
          have HM := hid hm
          have HJ := hid hj
          have HRP := hid hP
          by_cases hjn : j < l1.length
          · have hk := firstTo_in HPOS.out hjl
            obtain ⟨⟨kv1, t⟩, hp⟩ : ∃ p, l1[j]? = some p := ⟨_, List.getElem?_eq_getElem hjn⟩
            obtain ⟨⟨kv2, t2⟩, hp2⟩ : ∃ p, l1[firstTo l1 j]? = some p := ⟨_, List.getElem?_eq_getElem hk⟩
            have hu : untilAt l1 j = t.until_ := by simp only [untilAt, hp]; rfl
            have hu2 : untilAt l1 (firstTo l1 j) = t2.until_ := by simp only [untilAt, hp2]; rfl
            have hnext : firstTo l1 (j + 1) = if t.until_ < t2.until_ then j else firstTo l1 j := by simp only [firstTo, hu, hu2]
            obtain ⟨g', c'', hg', hcell⟩ := row_pos hP.held.row HPOS.out
            cases hg'
            have e4 := hcell _ _ (tk_at hp 4 _ rfl)
            have k4 := hcell _ _ (tk_at hp2 4 _ rfl)
            have HNX := hid hnext
            obtain ⟨kk, hkk⟩ : ∃ kk, kk = firstTo l1 j := ⟨_, rfl⟩
            rw [← hkk] at hk k4 HNX ⊢
            dsimp only at e4 k4 HNX
            have j0 : (0 : Int) ≤ (j : Int) := Int.natCast_nonneg _
            have j1 : (j : Int) < (l1.length : Int) := by omega
            have k0 : (0 : Int) ≤ (kk : Int) := Int.natCast_nonneg _
            have k1 : (kk : Int) < (l1.length : Int) := by omega
            have d1 : decide ((j : Int) < (l1.length : Int)) = true := by rw [decide_eq_true_eq]; omega
            have d2 : decide (j < l1.length) = true := by rw [decide_eq_true_eq]; omega
            have hj1000 : j < 1000 := by have := HLEN1.out; omega
            clear hcell hp hp2 hu hu2 hnext hkk hm hP hj
            by_cases hlt : t.until_ < t2.until_
            · have d4 : decide (t.until_ < t2.until_) = true := by simpa using hlt
              have HLT := hid hlt
              clear hlt
              go_wp2_with fail
              go_quiet (fail)
              go_wp2_with fail
              go_roundg (gk - 1)
              case measure => have := HJ.out; omega
              case rel => exact ⟨j + 1, by go_num, by rw [HNX.out, if_pos HLT.out], by have := HJ.out; omega, by omega, HM.out.drewN _⟩
            · have d4 : decide (t.until_ < t2.until_) = false := by simpa using hlt
              have HLT := hid hlt
              clear hlt
              go_wp2_with fail
              go_quiet (fail)
              go_wp2_with fail
              go_roundg (gk - 1)
              case measure => have := HJ.out; omega
              case rel => exact ⟨j + 1, by go_num, by rw [HNX.out, if_neg (by have := HLT.out; omega)], by have := HJ.out; omega, by omega, HM.out.drewN _⟩
          · have d1 : decide ((j : Int) < (l1.length : Int)) = false := by rw [decide_eq_false_iff_not]; omega
            have d2 : decide (j < l1.length) = false := by rw [decide_eq_false_iff_not]; omega
            obtain rfl : j = l1.length := by omega
            have hfk : firstS l1 < l1.length := firstTo_in HPOS.out (Nat.le_refl _)
            have hwo : Calls Try.prog 40 #[.slice (some ⟨g, 0, none⟩) l1.length cc, .int .i64 (firstTo l1 l1.length : Int)] wr fun e w' => ∃ v', e = .returned v' ∧ (w'.cell? ⟨y, 1, none⟩ = some (.slice (some ⟨g, 0, none⟩) l1.length cc) ∧ w'.frozen? ⟨y, 1, none⟩ = false ∧ (∃ a n c, v' = .slice a n c)) ∧ RPutAt w (w'.setCell ⟨y, 1, none⟩ v') y v room l2 v' #[.string client, .string service, kv, .int .i64 from_, .int .i64 until_, .int .i64 renew, .int .i64 flags] := by
              refine (without_any wr _ l1 (firstS l1) hP.held.row hfk HLEN1.out hP.held.kv).mono ?_
              rintro e w' ⟨v', rfl, hr', hm', ho'⟩
              obtain ⟨a', c', rfl⟩ := row_slice hr'
              rw [HL2.out]
              exact ⟨_, rfl, ⟨cell_at (hP.held.mod0 hm').cells 1, free_at (hP.held.mod0 hm').cells 1, _, _, _, rfl⟩, hP.turn hm' hr' (fun p hp => (List.eraseIdx_sublist ..).subset hp) ho'⟩
            have HWO := hid hwo
            clear hwo hP hm hfk hj hjl hjn
            go_wp2_with (first
              | (go_at_call 40; refine HWO.out.mono ?_; rintro e w2 ⟨v2, rfl, ⟨k1, k2, a2, n2, c2', rfl⟩, hp2⟩; have HP2 := hid hp2; clear hp2))
            go_meet
            exact ⟨_, HP2.out⟩
      | false =>
        have hfull : ¬ room ≤ (l1.length : Int) := by simpa using HBB.out
        have hl2 : l2 = l1 := by rw [HL2.out]; unfold roomy; rw [if_neg hfull]
        have HL2 := hid hl2
        clear hl2 hfull
        go_wp2_with fail
        go_meet
        exact ⟨_, by rw [HL2.out]; exact H1.out.mod0 (Mod.drewN (Mod.refl _ _) _)⟩
    case rest =>
      obtain ⟨v2, h2⟩ := hcut
      obtain ⟨a2, cc2, rfl⟩ := row_slice h2.held.row
      have hlen2 : l2.length ≤ 1000 := by
        have h := HL2.out
        have hl := HLEN1.out
        unfold roomy at h
        split at h
        · rw [h, List.length_eraseIdx]; split <;> omega
        · rw [h]; exact hl
      have b2 : wc.cell? ⟨w.heap.size, 2, none⟩ = some kv := cell_at h2.tk 2
      have hbytes := bytes_any wc kv key (HKM.out _ h2.mod) HKL.out
      have HBY := hid hbytes
      have H2 := hid h2
      have HLEN2 := hid hlen2
      clear hbytes h2 H1 HBB hlen2 c0 c1
      go_upto_region 17 with (first
        | (go_at_call 41; refine HBY.out.mono ?_; rintro e w3 ⟨kv3, rfl, hk3⟩; obtain ⟨a3, c3, rfl⟩ := row_slice hk3.1; have hP3 := H2.out.mod0 hk3.2.1; have q1 : w3.cell? ⟨w.heap.size, 2, none⟩ = some kv := cell_at hP3.tk 2; have q2 : w3.frozen? ⟨w.heap.size, 2, none⟩ = false := free_at hP3.tk 2; have HK3 := hid hk3; have H3 := hid hP3; clear hk3 hP3))
      have hP4 := H3.out.key (.slice a3 key.length c3)
      have ms4 : Mod [w.heap.size] w3 (w3.setCell ⟨w.heap.size, 2, none⟩ (.slice a3 key.length c3)) := Mod.setCell (Mod.refl _ _) (by simp) _
      have hK4 := row_mod HK3.out.1 ms4 (KeyOwn.apart HK3.out.1 (fun b hb => ⟨_, _, (List.mem_singleton.1 hb) ▸ H3.out.tk, by decide⟩))
      simp only [List.setIfInBounds_toArray, List.set_cons_zero, List.set_cons_succ] at hP4
      generalize (w3.setCell ⟨w.heap.size, 2, none⟩ (.slice a3 key.length c3)) = W4 at *
      clear q1 q2 b2 HBY H2 HK3 H3 ms4
      have hSat : ∀ W5 : World, W5.cell? ⟨y, 1, none⟩ = some (.slice a2 l2.length cc2) → W5.heap[w.heap.size]? = some (.cells #[.string client, .string service, .slice a3 key.length c3, .int .i64 from_, .int .i64 until_, .int .i64 renew, .int .i64 flags] 50 (0, 0)) → (fun w' : World => w'.cell? ⟨y, 1, none⟩ = some (.slice a2 l2.length cc2) ∧ w'.heap[w.heap.size]? = some (.cells #[.string client, .string service, .slice a3 key.length c3, .int .i64 from_, .int .i64 until_, .int .i64 renew, .int .i64 flags] 50 (0, 0)) ∧ w'.cell? ⟨w.heap.size, 0, none⟩ = some (.string client) ∧ w'.cell? ⟨w.heap.size, 1, none⟩ = some (.string service) ∧ w'.cell? ⟨w.heap.size, 2, none⟩ = some (.slice a3 key.length c3) ∧ w'.cell? ⟨w.heap.size, 3, none⟩ = some (.int .i64 from_) ∧ w'.cell? ⟨w.heap.size, 4, none⟩ = some (.int .i64 until_) ∧ w'.cell? ⟨w.heap.size, 5, none⟩ = some (.int .i64 renew) ∧ w'.cell? ⟨w.heap.size, 6, none⟩ = some (.int .i64 flags)) W5 := fun W5 h1 h2 => ⟨h1, h2, cell_at h2 0, cell_at h2 1, cell_at h2 2, cell_at h2 3, cell_at h2 4, cell_at h2 5, cell_at h2 6⟩
      have HSAT := hid hSat
      clear hSat
      have hc1 : W4.cell? ⟨y, 1, none⟩ = some (.slice a2 l2.length cc2) := cell_at hP4.held.cells 1
      have H4 := hid hP4
      have HK4 := hid hK4
      have hvb : w.heap.size ∉ (Value.slice a2 l2.length cc2).ownBlock.toList := fun hm => (hP4.own w.heap.size (by simpa using hm)).1 rfl
      have HVB := hid hvb
      clear hvb hP4 hK4
      refine wp_region_N (fun w' : World => w'.cell? ⟨y, 1, none⟩ = some (.slice a2 l2.length cc2) ∧ w'.heap[w.heap.size]? = some (.cells #[.string client, .string service, .slice a3 key.length c3, .int .i64 from_, .int .i64 until_, .int .i64 renew, .int .i64 flags] 50 (0, 0)) ∧ w'.cell? ⟨w.heap.size, 0, none⟩ = some (.string client) ∧ w'.cell? ⟨w.heap.size, 1, none⟩ = some (.string service) ∧ w'.cell? ⟨w.heap.size, 2, none⟩ = some (.slice a3 key.length c3) ∧ w'.cell? ⟨w.heap.size, 3, none⟩ = some (.int .i64 from_) ∧ w'.cell? ⟨w.heap.size, 4, none⟩ = some (.int .i64 until_) ∧ w'.cell? ⟨w.heap.size, 5, none⟩ = some (.int .i64 renew) ∧ w'.cell? ⟨w.heap.size, 6, none⟩ = some (.int .i64 flags)) (fun i => i != 10) (by kernel_rfl) ?_
      have hS := HSAT.out W4.drew hc1 H4.out.tk
      dsimp only at hS
      clear hc1
      refine regA 0 110 (v := ?_) rfl rfl (by kernel_rfl) (by kernel_rfl) (by kernel_rfl) (fun _ _ _ h => h) (by rfl) (fun w => ?_) ?_; rotate_left; (go_simp; first | done | with_reducible rfl); (try simp only [Act.put, List.setIfInBounds_toArray, List.set_cons_zero, List.set_cons_succ])
      refine regA 1 111 (v := ?_) rfl rfl (by kernel_rfl) (by kernel_rfl) (by kernel_rfl) (fun _ _ _ h => h) (by rfl) (fun w => ?_) ?_; rotate_left; (go_simp; first | done | with_reducible rfl); (try simp only [Act.put, List.setIfInBounds_toArray, List.set_cons_zero, List.set_cons_succ])
      refine regA 2 112 (v := ?_) rfl rfl (by kernel_rfl) (by kernel_rfl) (by kernel_rfl) (fun _ _ _ h => h) (by rfl) (fun w => ?_) ?_; rotate_left; (go_simp; first | done | with_reducible rfl); (try simp only [Act.put, List.setIfInBounds_toArray, List.set_cons_zero, List.set_cons_succ])
      refine regA 3 113 (v := ?_) rfl rfl (by kernel_rfl) (by kernel_rfl) (by kernel_rfl) (fun _ _ _ h => h) (by rfl) (fun w => ?_) ?_; rotate_left; (go_simp; first | done | with_reducible rfl); (try simp only [Act.put, List.setIfInBounds_toArray, List.set_cons_zero, List.set_cons_succ])
      refine regS 4 114 (v := ?_) hS rfl rfl (by kernel_rfl) (by kernel_rfl) (by kernel_rfl) (by kernel_rfl) (fun _ _ _ h => h) (by rfl) (fun w hSw => ?_) ?_; rotate_left; (go_simp; first | done | with_reducible rfl); (try simp only [Act.put, List.setIfInBounds_toArray, List.set_cons_zero, List.set_cons_succ])
      refine regS 5 115 (v := ?_) hS rfl rfl (by kernel_rfl) (by kernel_rfl) (by kernel_rfl) (by kernel_rfl) (fun _ _ _ h => h) (by rfl) (fun w hSw => ?_) ?_; rotate_left; (go_simp; first | done | with_reducible rfl); (try simp only [Act.put, List.setIfInBounds_toArray, List.set_cons_zero, List.set_cons_succ])
      refine regOnly 6 (by kernel_rfl) rfl (by rfl) (fun K hK => ?_)
      go_wp2_with fail
      have hm6 := Mod.alloc (Mod.refl [] W4.drew) (.cells #[.string client, .string service, .slice a3 key.length c3, .int .i64 from_, .int .i64 until_, .int .i64 renew, .int .i64 flags] 50)
      have hS6 := HSAT.out _ (hm6.cell hS.1 (by simp)) (hm6.get hS.2.1 (by simp))
      refine hK.out _ _ (fun _ _ => hS6) ?_
      clear hK hS
      (try simp only [Act.put, List.setIfInBounds_toArray, List.set_cons_zero, List.set_cons_succ])
      have hmore := rput_more (t := (⟨client, service, key, from_, until_, renew, flags⟩ : TkS)) (H4.out.held.mod0 (Mod.refl _ _).drew) (KeyOwn.mod0 HK4.out (Mod.refl _ _).drew) HLEN2.out
      simp only [TkS.cells] at hmore
      refine regOnly 7 (by kernel_rfl) rfl (by rfl) (fun K hK => ?_)
      refine wp_app_run 117 _ _ 46 rfl rfl (.slice a2 l2.length cc2) _ rfl rfl _ hmore ?_
      rintro v7 w7 ⟨⟨g7, n7, c7, rfl⟩, q1, qf, HKEEP, HX⟩
      refine hK.out _ _ (fun _ _ => HSAT.out _ q1 (HKEEP.out _ _ H4.out.tk HVB.out)) ?_
      clear hK
      (try simp only [Act.put, List.setIfInBounds_toArray, List.set_cons_zero, List.set_cons_succ])
      refine regA 8 118 (v := ?_) rfl rfl (by kernel_rfl) (by kernel_rfl) (by kernel_rfl) (fun _ _ _ h => h) (by rfl) (fun w => ?_) ?_; rotate_left; (go_simp; first | done | with_reducible rfl); (try simp only [Act.put, List.setIfInBounds_toArray, List.set_cons_zero, List.set_cons_succ])
      refine regA 9 119 (v := ?_) rfl rfl (by kernel_rfl) (by kernel_rfl) (by kernel_rfl) (fun _ _ _ h => h) (by rfl) (fun w => ?_) ?_; rotate_left; (go_simp; first | done | with_reducible rfl); (try simp only [Act.put, List.setIfInBounds_toArray, List.set_cons_zero, List.set_cons_succ])
      refine regOnly 10 (by kernel_rfl) rfl (by rfl) (fun K hK => ?_)
      go_wp2_with fail
      refine hK.out _ _ (fun h _ => absurd h (by decide)) ?_
      clear hK
      (try simp only [Act.put, List.setIfInBounds_toArray, List.set_cons_zero, List.set_cons_succ])
      refine regDone (by kernel_rfl) ?_ _
      go_wp2_with fail
      go_ret
      have hx := HX.out
      have hl := hx.1
      rw [HL2.out, HL1Z.out] at hl
      refine ⟨rfl, _, _, hl, H4.out.mod.trans' (((Mod.refl [] W4).drew.mono (by simp)).trans hx.2.1) (fun b hb => ?_), fun q hq => ?_⟩
      · rcases List.mem_cons.1 hb with rfl | hb
        · exact .inl List.mem_cons_self
        · rcases (H4.out.own b (by simpa using hb)).2 with h | h
          · exact .inl (List.mem_cons_of_mem _ (by simpa using h))
          · exact .inr h
      · rcases hx.2.2 q hq with h | h
        · exact (H4.out.own q h).2
        · exact .inr (Nat.le_trans H4.out.mod.size h)
end Go.Proofs.Yteifjbfojjjacaa
