/-
  An agreement's node, walked: Timeout. No statement of a claim stands here; each contract names what it asks.
-/
import Derived.Test.YtnpmjpdndhedgaaG9
set_option linter.unusedSimpArgs false
namespace Go.Proofs.Ytnpmjpdndhedgaa
open Go Go.RowKit Go.ChangeMaps


/-- What the loads of 'Timeout' read. -/
def TimeSat (p : Loc) (r : Int) (w' : World) : Prop :=
  w'.cell? ⟨p.x, 5, none⟩ = some (.map (some p.bh)) ∧ w'.cell? ⟨p.x, 4, none⟩ = some (.int .i64 r) ∧ w'.heap[p.bh]? = some (heardObj p.lh)

/-- While the votes are gone through. -/
def TimeRel (s1 : NodeS) (r : Int) (ov : Option Nat) (w : World) (p : Loc) (it : Nat) (gk : Nat) (ov' : Value) (wr : World) : Prop :=
  ∃ (left : Votes) (st : NodeS) (out : List Msg) (p' : Loc), gk = left.length ∧ WinSt s1 r left st out ∧ (∀ e ∈ left, e ∈ s1.hd (2, r)) ∧ (left.map (·.2.2)).Nodup ∧ RangeAt wr it ov (s1.hd (2, r)) left ∧ NodeAt wr p' st ∧ MsgsAt w.heap.size wr ov' out ∧ Mod p.foot w wr ∧ Next w p p' ∧ p'.lh = p.lh ∧ w.heap.size ≤ it

theorem RangeAt.obj {w : World} {r : Nat} {o : Option Nat} {l left : Votes} (h : RangeAt w r o l left) : ∃ a b c d, w.heap[r]? = some (.mapIter a b c d) := by
  cases o with
  | some b => obtain ⟨seen, c0, h1, -⟩ := h.1; exact ⟨_, _, _, _, h1⟩
  | none => exact ⟨_, _, _, _, h.2.2⟩
theorem NodeAt.offIter {w : World} {p : Loc} {s : NodeS} (h : NodeAt w p s) {r : Nat} {a : Option Nat} {b : Nat} {c : Array Nat} {d : Nat} (hr : w.heap[r]? = some (.mapIter a b c d)) : r ∉ p.foot := fun hm => by
  simp only [Loc.foot, List.mem_cons] at hm
  rcases hm with rfl | rfl | rfl | hm
  · rw [h.cells] at hr; cases hr
  · have := h.heard.map; rw [this] at hr; simp [mapObj, heardObj] at hr
  · have := h.sent; rw [this] at hr; simp [mapObj, sentObj] at hr
  · obtain ⟨e, he, rfl⟩ := List.mem_map.1 hm
    have := h.heard.inner e he; rw [this] at hr; simp [mapObj, votesObj] at hr

theorem time_step {s1 : NodeS} {r : Int} {W wr w' w3 : World} {p p' p3 : Loc} {it : Nat} {left : Votes} {st : NodeS} {out : List Msg} {v v2 : Value} {ek : Int} {ev : ByteArray} {eb : Nat}
    (ho : NOk s1) (hsr : s1.round = r) (hws : WinSt s1 r left st out) (hsub : ∀ e ∈ left, e ∈ s1.hd (2, r)) (hnd : (left.map (·.2.2)).Nodup) (hn : NodeAt wr p' st) (hms : MsgsAt W.heap.size wr v out) (hmod : Mod p.foot W wr) (hnx : Next W p p') (hlh : p'.lh = p.lh) (hit : W.heap.size ≤ it)
    (hrg : RangeAt wr it (look p.lh (2, r)) (s1.hd (2, r)) left) (he : (ek, ev, eb) ∈ left) (hrg' : RangeAt w' it (look p.lh (2, r)) (s1.hd (2, r)) (left.filter fun x => x.2.2 != eb)) (hm' : Mod [it] wr w')
    (gn : NodeAt w3 p3 (wonS st r ev).1) (gm : MsgsAt w'.heap.size w3 v2 (wonS st r ev).2) (gmod : Mod [p'.x, p'.bs] w' w3) (gnx : Next w' p' p3) (glh : p3.lh = p'.lh) :
    ∃ v' w4, (Builtin.append_ #[32, 32] 32 #[v, v2]).run Try.prog w3 = .ok v' w4 ∧ TimeRel s1 r (look p.lh (2, r)) W p it (left.filter fun x => x.2.2 != eb).length v' w4 := by
  obtain ⟨qa, qb, qc, qd, hob⟩ := hrg.obj
  obtain ⟨qa', qb', qc', qd', hob'⟩ := hrg'.obj
  have hn' : NodeAt w' p' st := hn.mod hm' (fun b hb hb2 => by rw [List.mem_singleton.1 hb2] at hb; exact hn.offIter hob hb)
  have hms' : MsgsAt W.heap.size w' v out := hms.mod hm' (fun k hk hk2 => by
    obtain ⟨c, hc⟩ := row_block hms.row hk
    rw [List.mem_singleton.1 hk2, hob] at hc
    cases hc)
  have hxs : ∀ b ∈ [p'.x, p'.bs], b ∈ p'.foot := fun b hb => by
    simp only [List.mem_cons, List.not_mem_nil, or_false] at hb
    rcases hb with rfl | rfl <;> simp [Loc.foot]
  have hms3 : MsgsAt W.heap.size w3 v out := hms'.mod gmod (fun k hk hk2 => hms'.off hn' k hk (hxs k hk2))
  have hst := hws.step ho hsr (hsub _ he)
  have hsz1 : W.heap.size ≤ w'.heap.size := Nat.le_trans hmod.size hm'.size
  have hfew : out.length + (wonS st r ev).2.length ≤ 1000 := by have := hws.few; have := wonS_len st r ev; omega
  obtain ⟨v', w4, hr, h1, h2, h3⟩ := hms3.app (gm.lower hsz1) hfew (Nat.le_trans hsz1 gmod.size)
  have hrg3 : RangeAt w3 it (look p.lh (2, r)) (s1.hd (2, r)) (left.filter fun x => x.2.2 != eb) := hrg'.mod gmod (fun hb => hn'.offIter hob' (hxs _ hb)) (fun b hb => by
    rw [← hlh] at hb
    obtain ⟨n, hb2⟩ := look_some_mem hb
    simp only [List.mem_cons, List.not_mem_nil, or_false, not_or]
    exact ⟨(hn'.xne.2.2 _ hb2).symm, hn'.ls _ hb2⟩)
  obtain ⟨qa3, qb3, qc3, qd3, hob3⟩ := hrg3.obj
  have hown : ∀ k ∈ v.ownBlock.toList, k ∉ p3.foot ∧ k ≠ it ∧ W.heap.size ≤ k := fun k hk => by
    have hk : v.ownBlock = some k := by simpa using hk
    refine ⟨hms3.off gn k hk, fun h => ?_, hms3.own k hk⟩
    obtain ⟨c, hc⟩ := row_block hms3.row hk
    rw [h, hob3] at hc
    cases hc
  refine ⟨v', w4, hr, _, _, _, p3, rfl, hst, fun e he => hsub e (List.mem_filter.1 he).1, hnd.sublist (List.Sublist.map _ List.filter_sublist), hrg3.mod h2 (fun hb => (hown _ hb).2.1 rfl) (fun b hb hb2 => ?_), gn.mod h2 (fun b hb hb2 => (hown _ hb2).1 hb), h1, ?_, hnx.trans gnx hsz1, glh.trans hlh, hit⟩
  · rw [← hlh, ← glh] at hb
    obtain ⟨n, hb3⟩ := look_some_mem hb
    refine (hown _ hb2).1 ?_
    simp only [Loc.foot, List.mem_cons]
    exact .inr (.inr (.inr (List.mem_map.2 ⟨_, hb3, rfl⟩)))
  · have m1 : Mod p.foot W w' := hmod.trans' hm' (fun b hb => by rw [List.mem_singleton.1 hb]; exact .inr hit)
    have m2 : Mod p.foot W w3 := m1.trans' gmod (fun b hb => hnx.foot b (hxs b hb))
    exact m2.trans' h2 (fun b hb => .inr (hown b hb).2.2)

set_option maxHeartbeats 1600000 in
theorem timeout_any (w : World) (p : Loc) (s : NodeS) (h : NodeAt w p s) (ho : NOk s) :
    Calls Try.prog 20 #[.pointer (some ⟨p.x, 0, none⟩)] w (StepPost w p (timeoutS s)) := by
  obtain ⟨c0, c1, c2, c3, c4, c5, c6, c7, c8, -, -, hfz⟩ := h.all
  have his := is_some p.x s.n w ho.n0 c0
  have H := hid h
  have HO := hid ho
  have HIS := hid his
  clear h ho his
  by_cases h1 : s.round < 0
  · have ht : timeoutS s = (s, []) := by unfold timeoutS; rw [if_pos (.inl h1)]
    have HT := hid ht
    have d1 := decide_eq_true h1
    clear h1 ht
    go_enter Try.func20, Try.ntmps20
    go_wp2_with (first
      | (go_at_call 28; refine HIS.out.mono ?_; rintro e W ⟨rfl, rfl⟩))
    go_ret
    exact ⟨p, _, rfl, by rw [HT.out]; exact H.out, by rw [HT.out]; exact MsgsAt.nil _ _, Mod.refl _ _, Next.refl _ _⟩
  have d1 := decide_eq_false h1
  by_cases h2 : s.round = 63
  · have ht : timeoutS s = (s, []) := by unfold timeoutS; rw [if_pos (.inr h2)]
    have HT := hid ht
    have d2 : (s.round == 63) = true := by simpa using h2
    clear h1 h2 ht
    go_enter Try.func20, Try.ntmps20
    go_wp2_with (first
      | (go_at_call 28; refine HIS.out.mono ?_; rintro e W ⟨rfl, rfl⟩))
    go_ret
    exact ⟨p, _, rfl, by rw [HT.out]; exact H.out, by rw [HT.out]; exact MsgsAt.nil _ _, Mod.refl _ _, Next.refl _ _⟩
  have d2 : (s.round == 63) = false := by simpa using h2
  have hr1 := HO.out.r1
  have hw1 : IntKind.i64.wrap (s.round + 1) = s.round + 1 := IntWalk.i64_in _ (by omega)
  obtain ⟨r, hr⟩ : ∃ r, r = s.round + 1 := ⟨_, rfl⟩
  obtain ⟨s1, hs1⟩ : ∃ s1 : NodeS, s1 = { s with round := r } := ⟨_, rfl⟩
  have ht : timeoutS s = ((hereS (winS s1 r).1).1, (winS s1 r).2 ++ (hereS (winS s1 r).1).2) := by
    unfold timeoutS; rw [if_neg (by omega), hs1, hr]
  have hO1 : NOk s1 := by
    rw [hs1]
    exact ⟨HO.out.n0, HO.out.n1, HO.out.t0, HO.out.t1, HO.out.me0, HO.out.me1, by dsimp only; omega, by dsimp only; omega, HO.out.lr0, HO.out.lr1, HO.out.vok, HO.out.frm⟩
  have hset : NodeAt (w.setCell ⟨p.x, 4, none⟩ (.int .i64 r)) p s1 := by rw [hs1]; exact H.out.set 4 (.int .i64 r) { s with round := r } rfl rfl rfl
  have hmod : Mod p.foot w (w.setCell ⟨p.x, 4, none⟩ (.int .i64 r)) := (Mod.refl _ _).setCell (by simp [Loc.foot]) _
  have hsr : s1.round = r := by rw [hs1]
  have hr0 : 0 ≤ r := by omega
  have hr63 : r ≤ 63 := by omega
  rw [← hr] at hw1
  have HT := hid ht
  have HO1 := hid (And.intro hO1 (And.intro hsr (And.intro hr0 hr63)))
  have HSET := hid (And.intro hset hmod)
  have hw2 : IntKind.i64.wrap (s.round + 1) = r := by rw [← hr] ; exact hw1
  clear h1 h2 ht hO1 hset hmod hsr hr0 hr63 hr1 hr hs1 hw1
  go_enter Try.func20, Try.ntmps20
  go_upto_region 5 with (first
    | (go_at_call 28; refine HIS.out.mono ?_; rintro e W ⟨rfl, rfl⟩))
  clear c0 c1 c2 c3 c4 c5 c6 c7 c8 hfz H HIS d1 d2 hw2
  generalize (W.setCell ⟨p.x, 4, none⟩ (.int .i64 r)) = W1 at *
  have hsat : TimeSat p r W1 := ⟨HSET.out.1.all.2.2.2.2.2.1, by rw [HSET.out.1.all.2.2.2.2.1, HO1.out.2.1], HSET.out.1.heard.map⟩
  have hS : TimeSat p r W1.drew := hsat
  refine wp_region_N (TimeSat p r) (fun _ => true) (by kernel_rfl) ?_
  refine regA 0 30 (v := ?_) rfl rfl (by kernel_rfl) (by kernel_rfl) (by kernel_rfl) (fun _ _ _ h => h) (by rfl) (fun w => ?_) ?_; rotate_left; (go_simp; first | done | with_reducible rfl); (try simp only [Act.put, List.setIfInBounds_toArray, List.set_cons_zero, List.set_cons_succ])
  refine regA 1 31 (v := ?_) rfl rfl (by kernel_rfl) (by kernel_rfl) (by kernel_rfl) (fun _ _ _ h => h) (by rfl) (fun w => ?_) ?_; rotate_left; (go_simp; first | done | with_reducible rfl); (try simp only [Act.put, List.setIfInBounds_toArray, List.set_cons_zero, List.set_cons_succ])
  refine regA 2 32 (v := ?_) rfl rfl (by kernel_rfl) (by kernel_rfl) (by kernel_rfl) (fun _ _ _ h => h) (by rfl) (fun w => ?_) ?_; rotate_left; (go_simp; first | done | with_reducible rfl); (try simp only [Act.put, List.setIfInBounds_toArray, List.set_cons_zero, List.set_cons_succ])
  refine regS 3 33 (v := ?_) hS rfl rfl (by kernel_rfl) (by kernel_rfl) (by kernel_rfl) (by kernel_rfl) (fun _ _ _ h => h) (by rfl) (fun w hSw => ?_) ?_; rotate_left; (simp only [TimeSat] at hSw; go_simp; first | done | with_reducible rfl); (try simp only [Act.put, List.setIfInBounds_toArray, List.set_cons_zero, List.set_cons_succ])
  refine regA 4 34 (v := ?_) rfl rfl (by kernel_rfl) (by kernel_rfl) (by kernel_rfl) (fun _ _ _ h => h) (by rfl) (fun w => ?_) ?_; rotate_left; (go_simp; first | done | with_reducible rfl); (try simp only [Act.put, List.setIfInBounds_toArray, List.set_cons_zero, List.set_cons_succ])
  refine regA 5 35 (v := ?_) rfl rfl (by kernel_rfl) (by kernel_rfl) (by kernel_rfl) (fun _ _ _ h => h) (by rfl) (fun w => ?_) ?_; rotate_left; (go_simp; first | done | with_reducible rfl); (try simp only [Act.put, List.setIfInBounds_toArray, List.set_cons_zero, List.set_cons_succ])
  refine regA 6 36 (v := ?_) rfl rfl (by kernel_rfl) (by kernel_rfl) (by kernel_rfl) (fun _ _ _ h => h) (by rfl) (fun w => ?_) ?_; rotate_left; (go_simp; first | done | with_reducible rfl); (try simp only [Act.put, List.setIfInBounds_toArray, List.set_cons_zero, List.set_cons_succ])
  refine regS 7 37 (v := ?_) hS rfl rfl (by kernel_rfl) (by kernel_rfl) (by kernel_rfl) (by kernel_rfl) (fun _ _ _ h => h) (by rfl) (fun w hSw => ?_) ?_; rotate_left; (simp only [TimeSat] at hSw; go_simp; first | done | with_reducible rfl); (try simp only [Act.put, List.setIfInBounds_toArray, List.set_cons_zero, List.set_cons_succ])
  refine regA 8 38 (v := ?_) rfl rfl (by kernel_rfl) (by kernel_rfl) (by kernel_rfl) (fun _ _ _ h => h) (by rfl) (fun w => ?_) ?_; rotate_left; (go_simp; first | done | with_reducible rfl); (try simp only [Act.put, List.setIfInBounds_toArray, List.set_cons_zero, List.set_cons_succ])
  refine regS 9 39 (v := .map (look p.lh (2, r))) hS rfl rfl (by kernel_rfl) (by kernel_rfl) (by kernel_rfl) (by kernel_rfl) (fun _ _ _ h => h) (by rfl) (fun w hSw => look_op _ _ _ _ rfl _ (look_any _ _ _ (2, r) hSw.2.2)) ?_
  (try simp only [Act.put, List.setIfInBounds_toArray, List.set_cons_zero, List.set_cons_succ])
  refine regOnly 10 (by kernel_rfl) rfl (by rfl) (fun K hK => ?_)
  refine wp_range_any 40 rfl _ _ _ _ rfl Try.underlying79 (look p.lh (2, r)) (s1.hd (2, r)) rfl ?_ ?_
  · rcases HSET.out.1.heard.find (2, r) with ⟨e1, e2⟩ | ⟨b, e1, e2, -⟩
    · rw [e1]; exact e2
    · rw [e1]; exact e2
  intro W2 hrg hm2 hs2
  refine hK.out _ _ (fun _ hS => ⟨hm2.cell hS.1 (by simp), hm2.cell hS.2.1 (by simp), hm2.get hS.2.2 (by simp)⟩) ?_
  clear hK hS hsat
  (try simp only [Act.put, List.setIfInBounds_toArray, List.set_cons_zero, List.set_cons_succ])
  refine regDone (by kernel_rfl) ?_ _
  have hlt := HSET.out.1.lt
  have hstart : TimeRel s1 r (look p.lh (2, r)) W p W1.drew.heap.size (s1.hd (2, r)).length (.slice none 0 0) W2 :=
    ⟨_, s1, [], p, rfl, WinSt.start s1 r, fun _ h => h, (HO1.out.1.vok _).born, hrg, HSET.out.1.mod0 ((Mod.refl _ _).drew.trans hm2), MsgsAt.nil _ _, HSET.out.2.drew.trans (hm2.mono (by simp)), Next.refl _ _, rfl, HSET.out.2.size⟩
  have HST := hid hstart
  clear hrg hm2 hs2 hlt hstart HSET
  generalize W1.drew.heap.size = it at *
  go_wp2_with fail
  go_loopg [3] (s1.hd (2, r)).length (fun gk n wr => TimeRel s1 r (look p.lh (2, r)) W p it gk n wr)
  case atStart => exact HST.out
  case round =>
    obtain ⟨left, st, out, p', e0, hws, hsub, hnd, hrg, hn, hms, hmod, hnx, hlh, hit⟩ := hrel
    subst e0
    obtain ⟨a1, k1, rfl⟩ := row_slice hms.row
    have HR := hid (And.intro hws (And.intro hsub (And.intro hnd (And.intro hn (And.intro hms (And.intro hmod (And.intro hnx (And.intro hlh hit))))))))
    clear hws hsub hnd hn hms hmod hnx hlh hit HST
    go_wp2_with (first
      | (at_next; refine wpList_next_any rfl _ rfl it (look p.lh (2, r)) (s1.hd (2, r)) left rfl (HO1.out.1.vok _) HR.out.2.1 hrg ?_ ?_))
    · intro hl
      obtain ⟨hws, hsub, hnd, hn, hms, hmod, hnx, hlh, hit⟩ := HR.out
      rw [hl] at hws
      have hwin := hws.stop HO1.out.1
      have hstO := hws.ok HO1.out.1 HO1.out.2.2.1 HO1.out.2.2.2
      have hstr : 0 ≤ st.round := by rw [hws.same.1, HO1.out.2.1]; exact HO1.out.2.2.1
      have hfew := hws.few
      have hhere := here_any wr p' st hn hstO hstr
      rw [hnx.x] at hhere
      have hl2 : out.length + (hereS st).2.length ≤ 1000 := by have := (hereS_same st).2; omega
      have happ := fun w2 p3 v2 hn2 hm2 hmod2 hnx2 => step_app (w2 := w2) (p2 := p3) (v2 := v2) (s2 := (hereS st).1) (o2 := (hereS st).2) hn hms hmod hnx hn2 hm2 hmod2 hnx2 hl2
      have ht : timeoutS s = ((hereS st).1, out ++ (hereS st).2) := by rw [HT.out, ← hwin]
      have HHERE := hid hhere
      have HAPP := hid happ
      have HT2 := hid ht
      clear hhere happ ht HT hl2 hfew hstO hstr hwin hws hsub hnd hn hms hmod hnx hlh hit hl HR hrg
      go_wp2_with (first
        | (go_at_call 29; refine HHERE.out.mono ?_; rintro e w2 ⟨p3, v2, rfl, hn2, hm2, hmod2, hnx2⟩; have HA := hid (HAPP.out _ _ _ hn2 hm2 hmod2 hnx2); clear hn2 hm2 hmod2 hnx2)
        | (at_builtin; refine wpList_app_run rfl _ _ 32 rfl (.slice a1 out.length k1) v2 rfl rfl _ HA.out ?_; rintro v3 w3 h3; have H3 := hid h3; clear h3))
      go_ret
      refine ⟨p3, _, rfl, ?_, ?_, H3.out.2.2.1, H3.out.2.2.2⟩
      · rw [HT2.out]; exact H3.out.1
      · rw [HT2.out]; exact H3.out.2.1
    · intro ek ev eb w' he hrg' hm' hs' hent
      obtain ⟨hws, hsub, hnd, hn, hms, hmod, hnx, hlh, hit⟩ := HR.out
      obtain ⟨qa, qb, qc, qd, hob⟩ := hrg.obj
      have hn' : NodeAt w' p' st := hn.mod hm' (fun b hb hb2 => by rw [List.mem_singleton.1 hb2] at hb; exact hn.offIter hob hb)
      have hstO := hws.ok HO1.out.1 HO1.out.2.2.1 HO1.out.2.2.2
      have hwon := won_keep w' p' st r ev hn' hstO HO1.out.2.2.1 HO1.out.2.2.2
      rw [hnx.x] at hwon
      have k4 := hn'.all.2.2.2.2.1
      rw [hws.same.1, HO1.out.2.1, hnx.x] at k4
      have hstep := fun w3 p3 v2 gn gm gmod gnx glh => time_step (w3 := w3) (p3 := p3) (v2 := v2) HO1.out.1 HO1.out.2.1 hws hsub hnd hn hms hmod hnx hlh hit hrg he hrg' hm' gn gm gmod gnx glh
      have HWON := hid hwon
      have HSTEP := hid hstep
      have hlen : (left.filter fun x => x.2.2 != eb).length < left.length := (cnt_strike hnd he ev).2.1
      have HLEN := hid hlen
      clear hws hsub hnd hn hms hmod hnx hlh hit hob hn' hstO hwon hstep hlen HR hrg' hrg he
      go_wp2_with (first
        | (go_at_call 31; refine HWON.out.mono ?_; rintro e w3 ⟨p3, v2, rfl, gn, gm, gmod, gnx, glh⟩; have HA := hid (HSTEP.out _ _ _ gn gm gmod gnx glh); clear gn gm gmod gnx glh)
        | (at_builtin; refine wpList_app_run rfl _ _ 32 rfl (.slice a1 out.length k1) v2 rfl rfl _ HA.out ?_; rintro v3 w4 h3; have H3 := hid h3; clear h3))
      go_roundg (left.filter fun x => x.2.2 != eb).length
      case measure => exact HLEN.out
      case rel => exact H3.out
end Go.Proofs.Ytnpmjpdndhedgaa
