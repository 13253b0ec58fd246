/-
  An agreement's node, walked: Take. No statement of a claim stands here; each contract names what it asks.
-/
import Derived.Test.YtnpmjpdndhedgaaG7
import Derived.Deep.CutBlock
set_option linter.unusedSimpArgs false
namespace Go.Proofs.Ytnpmjpdndhedgaa
open Go Go.RowKit Go.ChangeMaps

theorem NOk.sent {s : NodeS} (h : NOk s) (σ : Seat → Bool) : NOk { s with sent := σ } := ⟨h.n0, h.n1, h.t0, h.t1, h.me0, h.me1, h.r0, h.r1, h.lr0, h.lr1, h.vok, h.frm⟩
theorem sayS_ok {s : NodeS} (h : NOk s) (k : Int) (v : ByteArray) : NOk (sayS s k v).1 := by rw [(sayS_same s k v).1]; exact h.sent _
theorem hereS_ok {s : NodeS} (h : NOk s) : NOk (hereS s).1 := by rw [(hereS_same s).1]; exact h.sent _
theorem lockS_ok {s : NodeS} (h : NOk s) (r : Int) (v : ByteArray) (h0 : 0 ≤ r) (h1 : r ≤ 63) : NOk (lockS s r v) := by
  unfold lockS; split
  · exact ⟨h.n0, h.n1, h.t0, h.t1, h.me0, h.me1, h.r0, h.r1, by dsimp only; omega, h1, h.vok, h.frm⟩
  · exact h
theorem wonS_ok {s : NodeS} (h : NOk s) (r : Int) (v : ByteArray) (h0 : 0 ≤ r) (h1 : r ≤ 63) : NOk (wonS s r v).1 := by
  unfold wonS; split
  · exact h
  · split
    · exact lockS_ok h r v h0 h1
    · exact sayS_ok (lockS_ok h r v h0 h1) _ _
theorem mayS_spec {s : NodeS} {m : Msg} (h : mayS s m = true) : 1 ≤ m.from_ ∧ m.from_ ≤ s.n ∧ 0 ≤ m.round ∧ m.round < 64 ∧ m.val.size ≤ 4096 ∧ (m.kind = 2 ∨ (m.kind = 1 ∧ m.from_ = leaderS s m.round ∨ m.kind = 3) ∧ m.val ≠ ⟨#[]⟩) := by
  simp only [mayS, Bool.and_eq_true, Bool.or_eq_true, decide_eq_true_eq] at h
  obtain ⟨⟨⟨⟨⟨h1, h2⟩, h3⟩, h4⟩, h5⟩, h6⟩ := h
  exact ⟨h1, h2, h3, h4, h5, h6⟩
theorem addS_ok {s : NodeS} (h : NOk s) {m : Msg} (hm : mayS s m = true) : NOk (addS s m) := by
  have hms := mayS_spec hm
  refine ⟨h.n0, h.n1, h.t0, h.t1, h.me0, h.me1, h.r0, h.r1, h.lr0, h.lr1, fun k => ?_, fun k e he => ?_⟩
  · show VOk (upd s.hd m.seat _ k)
    by_cases hk : k = m.seat
    · subst hk; rw [upd_same]; exact addL_ok (h.vok _) _ _
    · rw [upd_ne _ _ hk]; exact h.vok k
  · have he' : e ∈ upd s.hd m.seat (addL (s.hd m.seat) m.from_ m.val) k := he
    by_cases hk : k = m.seat
    · subst hk; rw [upd_same] at he'
      unfold addL at he'
      split at he'
      · exact h.frm _ e he'
      · rcases List.mem_append.1 he' with h1 | h1
        · exact h.frm _ e h1
        · rw [List.mem_singleton.1 h1]; exact ⟨hms.1, hms.2.1⟩
    · rw [upd_ne _ _ hk] at he'; exact h.frm k e he'
theorem actS_ok {s : NodeS} (h : NOk s) (m : Msg) (k : Nat) (h0 : 0 ≤ m.round) (h1 : m.round ≤ 63) : NOk (actS s m k).1 := by
  unfold actS; split
  · exact wonS_ok h _ _ h0 h1
  · split
    · exact ⟨h.n0, h.n1, h.t0, h.t1, h.me0, h.me1, h.r0, h.r1, h.lr0, h.lr1, h.vok, h.frm⟩
    · exact h
theorem actS_few (s : NodeS) (m : Msg) (k : Nat) : (actS s m k).2.length ≤ 1 := by
  unfold actS; split
  · exact wonS_len _ _ _
  · split <;> simp
theorem wonS_round (s : NodeS) (r : Int) (v : ByteArray) : (wonS s r v).1.round = s.round := by
  unfold wonS; split
  · rfl
  · split
    · exact (lockS_hd s r v).2.2.1
    · rw [(sayS_same _ _ _).1]; exact (lockS_hd s r v).2.2.1
theorem actS_round (s : NodeS) (m : Msg) (k : Nat) : (actS s m k).1.round = s.round := by
  unfold actS; split
  · exact wonS_round _ _ _
  · split <;> rfl
theorem addN_pos {l : Votes} {k : Int} {v : ByteArray} (h : look l k = none) : 1 ≤ addN l k v := by
  simp only [addN, h, Option.isSome_none, Bool.false_eq_true, if_false, cnt, List.countP_append, List.countP_cons, List.countP_nil]
  simp

theorem takeS_new {s : NodeS} {m : Msg} {K : Nat} (hr : 0 ≤ s.round) (hm : mayS s m = true) (hk : look (s.hd m.seat) m.from_ = none) (hK : K = addN (s.hd m.seat) m.from_ m.val) :
    takeS s m = ((hereS (actS (addS s m) m K).1).1, (actS (addS s m) m K).2 ++ (hereS (actS (addS s m) m K).1).2) := by
  subst hK
  unfold takeS
  rw [if_neg (by rw [hm]; simp; omega), if_neg (by rw [hk]; simp)]
/-- A vote is added. -/
theorem NodeAt.added {w W W3 : World} {p : Loc} {s : NodeS} {m : Msg} {lh' : Heard} (h : NodeAt W p s) (_ : NodeAt w p s) (hm : Mod [] w W) (hH : HdAt W3 p.bh lh' (upd s.hd m.seat (addL (s.hd m.seat) m.from_ m.val))) (hn : ∀ e ∈ lh', e.2.1 ∈ p.lh.map (·.2.1) ∨ W.heap.size ≤ e.2.1)
    (hd : Mod (p.bh :: p.lh.map (·.2.1)) W W3) : NodeAt W3 { p with lh := lh' } (addS s m) ∧ Mod p.foot w W3 ∧ Next w p { p with lh := lh' } := by
  have hx := h.xne
  refine ⟨⟨hd.get h.cells ?_, hH, hd.get h.sent ?_, h.sval, h.hs, fun e he => ?_⟩, ?_, ⟨rfl, rfl, rfl, fun b hb => ?_⟩⟩
  · simp only [List.mem_cons, List.mem_map, not_or, not_exists, not_and]
    exact ⟨hx.1, fun e he hee => hx.2.2 e he hee.symm⟩
  · simp only [List.mem_cons, List.mem_map, not_or, not_exists, not_and]
    exact ⟨h.hs.symm, fun e he => h.ls e he⟩
  · dsimp only
    rcases hn e he with h1 | h1
    · obtain ⟨e', he', hee⟩ := List.mem_map.1 h1
      rw [← hee]; exact h.ls e' he'
    · have := lt_of_block h.sent
      omega
  · refine (hm.mono (by simp)).trans (hd.mono (fun b hb => .inl ?_))
    simp only [Loc.foot, List.mem_cons] at hb ⊢
    rcases hb with hb | hb
    · exact .inr (.inl hb)
    · exact .inr (.inr (.inr hb))
  · simp only [Loc.foot, List.mem_cons] at hb ⊢
    rcases hb with hb | hb | hb | hb
    · exact .inl (.inl hb)
    · exact .inl (.inr (.inl hb))
    · exact .inl (.inr (.inr (.inl hb)))
    · obtain ⟨e, he, rfl⟩ := List.mem_map.1 hb
      rcases hn e he with h1 | h1
      · exact .inl (.inr (.inr (.inr h1)))
      · exact .inr (Nat.le_trans hm.size h1)


/-- What the loads of 'Take' read. -/
def TakeSat (p : Loc) (b : Nat) (kind from_ round : Int) (val : ByteArray) (w' : World) : Prop :=
  w'.cell? ⟨p.x, 5, none⟩ = some (.map (some p.bh)) ∧ w'.cell? ⟨b, 0, none⟩ = some (.int .i64 kind) ∧ w'.cell? ⟨b, 1, none⟩ = some (.int .i64 from_) ∧ w'.cell? ⟨b, 2, none⟩ = some (.int .i64 round) ∧ w'.cell? ⟨b, 3, none⟩ = some (.string val)

set_option maxHeartbeats 1600000 in
theorem take_any (w : World) (p : Loc) (s : NodeS) (m : Msg) (h : NodeAt w p s) (ho : NOk s) :
    Calls Try.prog 22 #[.pointer (some ⟨p.x, 0, none⟩), .agg m.cells.toArray] w (StepPost w p (takeS s m)) := by
  obtain ⟨kind, from_, round, val⟩ := m
  have hnew := get_new w (.cells #[.int .i64 kind, .int .i64 from_, .int .i64 round, .string val] 39)
  have hma : Mod [] w (w.alloc (.cells #[.int .i64 kind, .int .i64 from_, .int .i64 round, .string val] 39)) := Mod.alloc (Mod.refl _ _) _
  have H := hid h
  have HN := hid (And.intro hnew hma)
  have HO := hid ho
  clear h hnew hma ho
  simp only [Msg.cells]
  go_enter Try.func22, Try.ntmps22
  go_upto_region 1 with fail
  generalize (w.alloc (.cells #[.int .i64 kind, .int .i64 from_, .int .i64 round, .string val] 39)) = W1 at *
  have b0 : W1.cell? ⟨w.heap.size, 0, none⟩ = some (.int .i64 kind) := cell_at HN.out.1 0
  have b1 : W1.cell? ⟨w.heap.size, 1, none⟩ = some (.int .i64 from_) := cell_at HN.out.1 1
  have b2 : W1.cell? ⟨w.heap.size, 2, none⟩ = some (.int .i64 round) := cell_at HN.out.1 2
  have b3 : W1.cell? ⟨w.heap.size, 3, none⟩ = some (.string val) := cell_at HN.out.1 3
  have hW := H.out.mod0 HN.out.2
  have hmay := may_any W1 p s ⟨kind, from_, round, val⟩ hW HO.out
  obtain ⟨c0, c1, c2, c3, c4, c5, c6, c7, c8, -, -, hfz⟩ := hW.all
  have his := is_some p.x s.n W1 HO.out.n0 c0
  have HW := hid hW
  have HMAY := hid hmay
  have HIS := hid his
  clear hW hmay his
  by_cases h1 : s.round < 0
  · have ht : takeS s ⟨kind, from_, round, val⟩ = (s, []) := by unfold takeS; rw [if_pos (.inl h1)]
    have HT := hid ht
    have d1 := decide_eq_true h1
    clear h1 ht
    go_wp2_with (first
      | (go_at_call 28; refine HIS.out.mono ?_; rintro e W ⟨rfl, rfl⟩))
    go_ret
    exact ⟨p, _, rfl, by rw [HT.out]; exact HW.out, by rw [HT.out]; exact MsgsAt.nil _ _, HN.out.2.mono (by simp), Next.refl _ _⟩
  have d1 := decide_eq_false h1
  obtain ⟨mb, hmb⟩ : ∃ mb, mayS s ⟨kind, from_, round, val⟩ = mb := ⟨_, rfl⟩
  rw [hmb] at HMAY
  cases mb with
  | false =>
    have ht : takeS s ⟨kind, from_, round, val⟩ = (s, []) := by unfold takeS; rw [if_pos (.inr hmb)]
    have HT := hid ht
    clear h1 ht hmb
    go_wp2_with (first
      | (go_at_call 28; refine HIS.out.mono ?_; rintro e W ⟨rfl, rfl⟩)
      | (go_at_call 33; refine HMAY.out.mono ?_; rintro e W ⟨rfl, hm⟩; have HM := hid hm; clear hm))
    go_ret
    exact ⟨p, _, rfl, by rw [HT.out]; exact HW.out.mod0 HM.out, by rw [HT.out]; exact MsgsAt.nil _ _, (HN.out.2.trans HM.out).mono (by simp), Next.refl _ _⟩
  | true =>
    have hms := mayS_spec hmb
    simp only [] at hms
    have HMS := hid hms
    have HMB := hid hmb
    clear h1 hmb hms
    go_upto_region 3 with (first
      | (go_at_call 28; refine HIS.out.mono ?_; rintro e W ⟨rfl, rfl⟩)
      | (go_at_call 33; refine HMAY.out.mono ?_; rintro e W ⟨rfl, hm⟩; have HM := hid hm; clear hm))
    have hNW := HW.out.mod0 HM.out
    have hmW : Mod [] w W := HN.out.2.trans HM.out
    have hs0 : TakeSat p w.heap.size kind from_ round val W := ⟨HM.out.cell c5 (by simp), HM.out.cell b0 (by simp), HM.out.cell b1 (by simp), HM.out.cell b2 (by simp), HM.out.cell b3 (by simp)⟩
    have HS0 := hid hs0
    have hlen : (addL (s.hd (kind, round)) from_ val).length ≤ 16 := (addS_ok HO.out HMB.out).few (kind, round) |> fun h => by simpa only [addS, Msg.seat, upd_same] using h
    have hadd := add_any W.drew p.bh p.lh s.hd ⟨kind, from_, round, val⟩ (hNW.heard.mod0 (Mod.refl _ _).drew) HO.out.vok HO.out.few hlen
    have HNW := hid (And.intro hNW hmW)
    have HADD := hid hadd
    replace d1 : 0 ≤ s.round := by simpa using d1
    clear c0 c1 c2 c3 c4 c5 c6 c7 c8 hfz b0 b1 b2 b3 hNW hmW hlen hadd HMAY HIS
    refine wp_region_N (TakeSat p w.heap.size kind from_ round val) (fun i => i != 5) (by kernel_rfl) ?_
    have hS : TakeSat p w.heap.size kind from_ round val W.drew := hs0
    refine regA 0 23 (v := ?_) rfl rfl (by kernel_rfl) (by kernel_rfl) (by kernel_rfl) (fun _ _ _ h => h) (by rfl) (fun w => ?_) ?_; rotate_left; (go_simp; first | done | with_reducible rfl); (try simp only [Act.put, List.setIfInBounds_toArray, List.set_cons_zero, List.set_cons_succ])
    refine regA 1 24 (v := ?_) rfl rfl (by kernel_rfl) (by kernel_rfl) (by kernel_rfl) (fun _ _ _ h => h) (by rfl) (fun w => ?_) ?_; rotate_left; (go_simp; first | done | with_reducible rfl); (try simp only [Act.put, List.setIfInBounds_toArray, List.set_cons_zero, List.set_cons_succ])
    refine regA 2 25 (v := ?_) rfl rfl (by kernel_rfl) (by kernel_rfl) (by kernel_rfl) (fun _ _ _ h => h) (by rfl) (fun w => ?_) ?_; rotate_left; (go_simp; first | done | with_reducible rfl); (try simp only [Act.put, List.setIfInBounds_toArray, List.set_cons_zero, List.set_cons_succ])
    refine regS 3 26 (v := ?_) hS rfl rfl (by kernel_rfl) (by kernel_rfl) (by kernel_rfl) (by kernel_rfl) (fun _ _ _ h => h) (by rfl) (fun w hSw => ?_) ?_; rotate_left; (simp only [TakeSat] at hSw; go_simp; first | done | with_reducible rfl); (try simp only [Act.put, List.setIfInBounds_toArray, List.set_cons_zero, List.set_cons_succ])
    refine regS 4 27 (v := .agg #[.int .i64 kind, .int .i64 from_, .int .i64 round, .string val]) hS rfl rfl (by kernel_rfl) (by kernel_rfl) (by kernel_rfl) (by kernel_rfl) (fun _ _ _ h => h) (by rfl) (fun w hSw => ?_) ?_
    · have s1 := hSw.2.1
      have s2 := hSw.2.2.1
      have s3 := hSw.2.2.2.1
      have s4 := hSw.2.2.2.2
      go_simp
    (try simp only [Act.put, List.setIfInBounds_toArray, List.set_cons_zero, List.set_cons_succ])
    refine regOnly 5 (by kernel_rfl) rfl (by rfl) (fun K hK => ?_)
    go_wp2_with (first
      | (go_at_call 34; refine HADD.out.mono ?_; intro e W3 hA; have hret := hA.ret; subst hret; have HA := hid (And.intro hA.heard hA.mod); clear hA))
    refine hK.out _ _ (fun h _ => absurd h (by decide)) ?_
    clear hK hS hs0
    (try simp only [Act.put, List.setIfInBounds_toArray, List.set_cons_zero, List.set_cons_succ])
    refine regA 6 5 (v := ?_) rfl rfl (by kernel_rfl) (by kernel_rfl) (by kernel_rfl) (fun _ _ _ h => h) (by rfl) (fun w => ?_) ?_; rotate_left; (go_simp; first | done | with_reducible rfl); (try simp only [Act.put, List.setIfInBounds_toArray, List.set_cons_zero, List.set_cons_succ])
    refine regDone (by kernel_rfl) ?_ _
    simp only [Msg.seat] at HA
    obtain ⟨⟨lh', hH, hnew⟩, hd⟩ := HA.out
    have hadded := NodeAt.added (m := ⟨kind, from_, round, val⟩) HNW.out.1 H.out HNW.out.2 hH hnew ((Mod.refl [] W).drew.mono (by simp) |>.trans hd)
    have hoff : w.heap.size ∉ (p.bh :: p.lh.map (·.2.1)) := by
      have hx := H.out.lt
      simp only [Loc.foot, List.mem_cons] at hx
      simp only [List.mem_cons, not_or]
      exact ⟨fun h0 => absurd (hx p.bh (.inr (.inl rfl))) (by omega), fun h0 => absurd (hx _ (.inr (.inr (.inr h0)))) (by omega)⟩
    have hb0 : W3.cell? ⟨w.heap.size, 0, none⟩ = some (.int .i64 kind) := hd.cell (HS0.out.2.1 : W.drew.cell? _ = _) hoff
    have hb2 : W3.cell? ⟨w.heap.size, 2, none⟩ = some (.int .i64 round) := hd.cell (HS0.out.2.2.2.1 : W.drew.cell? _ = _) hoff
    have hb3 : W3.cell? ⟨w.heap.size, 3, none⟩ = some (.string val) := hd.cell (HS0.out.2.2.2.2 : W.drew.cell? _ = _) hoff
    obtain ⟨K0, hK0⟩ : ∃ K0 : Nat, K0 = addN (s.hd (kind, round)) from_ val := ⟨_, rfl⟩
    simp only [Msg.seat]
    rw [← hK0]
    have HAD := hid hadded
    have HK0 := hid hK0
    clear hadded hoff hK0 hH hnew hd HA HADD HNW HS0
    by_cases hdup : (look (s.hd (kind, round)) from_).isSome = true
    · have ht : takeS s ⟨kind, from_, round, val⟩ = (s, []) := by
        unfold takeS
        split
        · rfl
        · exact if_pos hdup
      have hadd0 : addS s ⟨kind, from_, round, val⟩ = s := by
        show ({ s with hd := upd s.hd (kind, round) (addL (s.hd (kind, round)) from_ val) } : NodeS) = s
        unfold addL
        rw [if_pos hdup, upd_self]
      have hk : K0 = 0 := by rw [HK0.out]; unfold addN; rw [if_pos hdup]
      subst hk
      have HT := hid ht
      have HA0 := hid hadd0
      clear ht hadd0 hdup
      go_wp2_with fail
      go_ret
      have hn := HAD.out.1
      rw [HA0.out] at hn
      exact ⟨_, _, rfl, by rw [HT.out]; exact hn, by rw [HT.out]; exact MsgsAt.nil _ _, HAD.out.2.1, HAD.out.2.2⟩
    have hlk : look (s.hd (kind, round)) from_ = none := by simpa using hdup
    have hpos : 1 ≤ K0 := by rw [HK0.out]; exact addN_pos hlk
    have e0 : ((K0 : Int) == 0) = false := by rw [beq_eq_false_iff_ne]; omega
    have hK63 : (K0 : Int) ≤ 16 := by
      have h1 := (addS_ok HO.out HMB.out).few (kind, round)
      simp only [addS, Msg.seat, upd_same] at h1
      have h2 := HK0.out
      simp only [addN, hlk, Option.isSome_none, Bool.false_eq_true, if_false] at h2
      have h3 := cnt_le (s.hd (kind, round) ++ [(from_, val, (s.hd (kind, round)).length)]) val
      simp only [addL, hlk, Option.isSome_none, Bool.false_eq_true, if_false] at h1
      omega
    have ht : takeS s ⟨kind, from_, round, val⟩ = ((hereS (actS (addS s ⟨kind, from_, round, val⟩) ⟨kind, from_, round, val⟩ K0).1).1, (actS (addS s ⟨kind, from_, round, val⟩) ⟨kind, from_, round, val⟩ K0).2 ++ (hereS (actS (addS s ⟨kind, from_, round, val⟩) ⟨kind, from_, round, val⟩ K0).1).2) := takeS_new d1 HMB.out hlk HK0.out
    obtain ⟨sa, hsa⟩ : ∃ sa, sa = addS s ⟨kind, from_, round, val⟩ := ⟨_, rfl⟩
    have hsaO : NOk sa := by rw [hsa]; exact addS_ok HO.out HMB.out
    have hsar : 0 ≤ sa.round := by rw [hsa]; exact d1
    rw [← hsa] at ht HAD
    obtain ⟨k0, k1, k2, k3, k4, k5, k6, k7, k8, k9, k10, kfz⟩ := HAD.out.1.all
    have HT := hid ht
    have HSA := hid (And.intro hsaO hsar)
    clear ht hsaO hsar hlk hdup hpos hsa HK0
    go_upto_block 0 with fail
    have hnt : IntKind.i64.wrap (sa.n - sa.t) = sa.n - sa.t := IntWalk.i64_in _ (by have := HSA.out.1.n0; have := HSA.out.1.n1; have := HSA.out.1.t0; have := HSA.out.1.t1; omega)
    go_cut [0, 6] (fun pv ov wx => pv = .pointer (some ⟨p.x, 0, none⟩) ∧ ∃ p2, NodeAt wx p2 (actS sa ⟨kind, from_, round, val⟩ K0).1 ∧ MsgsAt w.heap.size wx ov (actS sa ⟨kind, from_, round, val⟩ K0).2 ∧ Mod p.foot w wx ∧ Next w p p2)
    case first =>
      by_cases k2' : kind = 2
      · subst k2'
        have ha : actS sa ⟨2, from_, round, val⟩ K0 = wonS sa round val := rfl
        have hwon := won_any W3 { p with lh := lh' } sa round val HAD.out.1 HSA.out.1 HMS.out.2.2.1 (by have := HMS.out.2.2.2.1; omega)
        have HA := hid ha
        have HWON := hid hwon
        clear ha hwon
        go_wp2_with (first
          | (go_at_call 31; refine HWON.out.mono ?_; rintro e w2 ⟨p2, v2, rfl, hn2, hm2, hmod2, hnx2⟩; have H2 := hid (And.intro hn2 (And.intro hm2 (And.intro hmod2 hnx2))); clear hn2 hm2 hmod2 hnx2))
        go_meet
        rw [HA.out]
        exact ⟨rfl, p2, H2.out.1, H2.out.2.1.lower HAD.out.2.1.size, HAD.out.2.1.trans' H2.out.2.2.1 HAD.out.2.2.foot, HAD.out.2.2.trans H2.out.2.2.2 HAD.out.2.1.size⟩
      have n2 : (kind == 2) = false := by simpa using k2'
      by_cases k3' : kind = 3
      · subst k3'
        by_cases hen : sa.n - sa.t ≤ (K0 : Int)
        · have en := decide_eq_true hen
          obtain ⟨db, hdb⟩ : ∃ db, sa.done = db := ⟨_, rfl⟩
          rw [hdb] at k10
          cases db with
          | true =>
            have ha : actS sa ⟨3, from_, round, val⟩ K0 = (sa, []) := by simp [actS, hdb]
            have HA := hid ha
            clear ha hdb hen
            go_wp2_with fail
            go_quiet (fail)
            go_wp2_with fail
            go_meet
            rw [HA.out]
            exact ⟨rfl, _, HAD.out.1.mod0 ((Mod.refl _ _).drewN _), MsgsAt.nil _ _, HAD.out.2.1.drewN _, HAD.out.2.2⟩
          | false =>
            have ha : actS sa ⟨3, from_, round, val⟩ K0 = ({ sa with choice := val, done := true }, []) := by simp [actS, hdb, hen]
            have HA := hid ha
            have HDB := hid hdb
            clear ha hdb hen
            go_wp2_with fail
            go_quiet (fail)
            go_wp2_with fail
            go_meet
            rw [HA.out]
            refine ⟨rfl, _, ?_, MsgsAt.nil _ _, ?_, HAD.out.2.2⟩
            · exact ((HAD.out.1.mod0 ((Mod.refl _ _).drewN nq)).set 9 (.string val) { sa with choice := val } rfl rfl rfl).set 10 (.bool true) { sa with choice := val, done := true } rfl rfl rfl
            · exact ((HAD.out.2.1.drewN _).setCell (by simp [Loc.foot]) _).setCell (by simp [Loc.foot]) _
        · have en := decide_eq_false hen
          have ha : actS sa ⟨3, from_, round, val⟩ K0 = (sa, []) := by simp [actS, hen]
          have HA := hid ha
          clear ha hen
          go_wp2_with fail
          go_quiet (fail)
          go_wp2_with fail
          go_meet
          rw [HA.out]
          exact ⟨rfl, _, HAD.out.1.mod0 ((Mod.refl _ _).drewN _), MsgsAt.nil _ _, HAD.out.2.1.drewN _, HAD.out.2.2⟩
      · have n3 : (kind == 3) = false := by simpa using k3'
        have ha : actS sa ⟨kind, from_, round, val⟩ K0 = (sa, []) := by simp [actS, k2', k3']
        have HA := hid ha
        clear ha k2' k3'
        go_wp2_with fail
        go_quiet (fail)
        go_wp2_with fail
        go_meet
        rw [HA.out]
        exact ⟨rfl, _, HAD.out.1.mod0 ((Mod.refl _ _).drewN _), MsgsAt.nil _ _, HAD.out.2.1.drewN _, HAD.out.2.2⟩
    case rest =>
      obtain ⟨rfl, p2, hn1, hm1, hmod1, hnx1⟩ := hcut
      obtain ⟨sb, hsb⟩ : ∃ sb, sb = (actS sa ⟨kind, from_, round, val⟩ K0).1 := ⟨_, rfl⟩
      obtain ⟨ob, hob⟩ : ∃ ob, ob = (actS sa ⟨kind, from_, round, val⟩ K0).2 := ⟨_, rfl⟩
      have hsbO : NOk sb := by rw [hsb]; exact actS_ok HSA.out.1 _ _ HMS.out.2.2.1 (by have := HMS.out.2.2.2.1; show round ≤ 63; omega)
      have hsbr : 0 ≤ sb.round := by rw [hsb, actS_round]; exact HSA.out.2
      have hobl : ob.length ≤ 1 := by rw [hob]; exact actS_few _ _ _
      have ht := HT.out
      rw [← hsb, ← hob] at ht
      rw [← hsb] at hn1
      rw [← hob] at hm1
      obtain ⟨a1, k1', rfl⟩ := row_slice hm1.row
      have hhere := here_any wc p2 sb hn1 hsbO hsbr
      rw [hnx1.x] at hhere
      have hl2 : ob.length + (hereS sb).2.length ≤ 1000 := by have := (hereS_same sb).2; omega
      have happ := fun w2 p3 v2 hn2 hm2 hmod2 hnx2 => step_app (w2 := w2) (p2 := p3) (v2 := v2) (s2 := (hereS sb).1) (o2 := (hereS sb).2) hn1 hm1 hmod1 hnx1 hn2 hm2 hmod2 hnx2 hl2
      have HHERE := hid hhere
      have HAPP := hid happ
      have HT2 := hid ht
      clear hhere happ ht HT hl2 hobl hsbO hsbr hn1 hm1 hmod1 hnx1 hsb hob HAD k0 k1 k2 k3 k4 k5 k6 k7 k8 k9 k10 kfz hb0 hb2 hb3
      go_wp2_with (first
        | (go_at_call 29; refine HHERE.out.mono ?_; rintro e w2 ⟨p3, v2, rfl, hn2, hm2, hmod2, hnx2⟩; have HA := hid (HAPP.out _ _ _ hn2 hm2 hmod2 hnx2); clear hn2 hm2 hmod2 hnx2)
        | (at_builtin; refine wpList_app_run rfl _ _ 32 rfl (.slice a1 ob.length k1') v2 rfl rfl _ HA.out ?_; rintro v3 w3 h3; have H3 := hid h3; clear h3))
      go_ret
      refine ⟨p3, _, rfl, ?_, ?_, H3.out.2.2.1, H3.out.2.2.2⟩
      · rw [HT2.out]; exact H3.out.1
      · rw [HT2.out]; exact H3.out.2.1
end Go.Proofs.Ytnpmjpdndhedgaa
