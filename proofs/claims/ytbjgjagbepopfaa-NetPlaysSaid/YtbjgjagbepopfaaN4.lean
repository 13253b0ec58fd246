/-
  A net, walked: put. No statement of a claim stands here; each contract names what it asks.
-/
import Derived.Test.YtbjgjagbepopfaaN3
set_option linter.unusedSimpArgs false
namespace Go.Proofs.Ytbjgjagbepopfaa
open Go Go.RowKit Go.ChangeMaps

/-- What a call that hands back a number and an errno leaves. -/
def NumPost (w : World) (p : Loc) (r : NetS × Int × Int) (e : Ending) (w' : World) : Prop :=
  e = .returned (.tuple #[.int .i64 r.2.1, .int .i64 r.2.2]) ∧ NetAt w' p r.1 ∧ Mod p.foot w w'

/-- What the loads of 'put' read. -/
def PutSat (p : Loc) (s : NetS) (g : Nat) (m : Msg) (w' : World) : Prop :=
  w'.cell? ⟨p.x, 1, none⟩ = some (.int .i64 s.room) ∧ w'.cell? ⟨p.x, 2, none⟩ = some (.int .i64 s.last) ∧ w'.cell? ⟨p.x, 3, none⟩ = some (.int .i64 s.sent) ∧ w'.cell? ⟨p.x, 6, none⟩ = some (.map (some p.bw)) ∧
  w'.cell? ⟨g, 0, none⟩ = some (.int .i64 m.frm) ∧ w'.cell? ⟨g, 1, none⟩ = some (.int .i64 m.to) ∧ w'.cell? ⟨g, 2, none⟩ = some (.int .i64 m.kind) ∧ w'.cell? ⟨g, 3, none⟩ = some (.string m.body)
theorem put_sat {W : World} {p : Loc} {s : NetS} {g : Nat} {m : Msg} (h : NetAt W p s) (hg : W.heap[g]? = some (.cells #[.int .i64 m.frm, .int .i64 m.to, .int .i64 m.kind, .string m.body] 29 (0, 0))) : PutSat p s g m W :=
  ⟨h.all.2.1, h.all.2.2.1, h.all.2.2.2.1, h.all.2.2.2.2.2.2.1, cell_at hg 0, cell_at hg 1, cell_at hg 2, cell_at hg 3⟩


set_option maxRecDepth 20000 in
set_option maxHeartbeats 2000000 in
theorem put_any (w : World) (p : Loc) (s : NetS) (m : Msg) (h : NetAt w p s) (ho : s.Ok) (hb : s.sent ≤ 1000000) :
    Calls Try.prog 35 #[.pointer (some ⟨p.x, 0, none⟩), m.v] w (NumPost w p (s.put m)) := by
  have hnew := get_new w (.cells #[.int .i64 m.frm, .int .i64 m.to, .int .i64 m.kind, .string m.body] 29)
  have hma : Mod [] w (w.alloc (.cells #[.int .i64 m.frm, .int .i64 m.to, .int .i64 m.kind, .string m.body] 29)) := Mod.alloc (Mod.refl _ _) _
  have H := hid h
  have HO := hid ho
  have HN := hid (And.intro hnew hma)
  have h0 := ho.last
  have h1 := ho.fits
  have h2 := ho.room
  clear h ho hnew hma
  unfold Msg.v
  go_enter Try.func35, Try.ntmps35
  go_wp2_with fail
  generalize (w.alloc (.cells #[.int .i64 m.frm, .int .i64 m.to, .int .i64 m.kind, .string m.body] 29)) = W1 at *
  have hn1 := H.out.mod0 HN.out.2
  have hsat := put_sat hn1 HN.out.1
  refine wp_region_N (fun w' => PutSat p s w.heap.size m w' ∧ w'.heap[p.bw]? = some (wayObj s.way s.cw)) (fun _ => true) (by kernel_rfl) ?_
  have hS : PutSat p s w.heap.size m W1.drew ∧ W1.drew.heap[p.bw]? = some (wayObj s.way s.cw) := ⟨hsat, hn1.way⟩
  refine regA 0 6 (v := ?_) rfl rfl (by kernel_rfl) (by kernel_rfl) (by kernel_rfl) (fun _ _ _ h => h) (by rfl) (fun w => ?_) ?_; rotate_left; (go_simp; first | done | with_reducible rfl); (try simp only [Act.put, List.setIfInBounds_toArray, List.set_cons_zero, List.set_cons_succ])
  refine regA 1 7 (v := ?_) rfl rfl (by kernel_rfl) (by kernel_rfl) (by kernel_rfl) (fun _ _ _ h => h) (by rfl) (fun w => ?_) ?_; rotate_left; (go_simp; first | done | with_reducible rfl); (try simp only [Act.put, List.setIfInBounds_toArray, List.set_cons_zero, List.set_cons_succ])
  refine regA 2 8 (v := ?_) rfl rfl (by kernel_rfl) (by kernel_rfl) (by kernel_rfl) (fun _ _ _ h => h) (by rfl) (fun w => ?_) ?_; rotate_left; (go_simp; first | done | with_reducible rfl); (try simp only [Act.put, List.setIfInBounds_toArray, List.set_cons_zero, List.set_cons_succ])
  refine regS 3 9 (v := ?_) hS rfl rfl (by kernel_rfl) (by kernel_rfl) (by kernel_rfl) (by kernel_rfl) (fun _ _ _ h => h) (by rfl) (fun w hSw => ?_) ?_; rotate_left; (simp only [PutSat] at hSw; go_simp; first | done | with_reducible rfl); (try simp only [Act.put, List.setIfInBounds_toArray, List.set_cons_zero, List.set_cons_succ])
  refine regS 4 10 (v := nat s.way.length) hS rfl rfl (by kernel_rfl) (by kernel_rfl) (by kernel_rfl) (by kernel_rfl) (fun _ _ _ h => h) (by rfl) (fun w hSw => ?_) ?_
  · have hl := run_len_map (P := Try.prog) (ty := 3) Try.underlying64 hSw.2
    go_simp
  (try simp only [Act.put, List.setIfInBounds_toArray, List.set_cons_zero, List.set_cons_succ])
  refine regA 5 11 (v := ?_) rfl rfl (by kernel_rfl) (by kernel_rfl) (by kernel_rfl) (fun _ _ _ h => h) (by rfl) (fun w => ?_) ?_; rotate_left; (go_simp; first | done | with_reducible rfl); (try simp only [Act.put, List.setIfInBounds_toArray, List.set_cons_zero, List.set_cons_succ])
  refine regA 6 12 (v := ?_) rfl rfl (by kernel_rfl) (by kernel_rfl) (by kernel_rfl) (fun _ _ _ h => h) (by rfl) (fun w => ?_) ?_; rotate_left; (go_simp; first | done | with_reducible rfl); (try simp only [Act.put, List.setIfInBounds_toArray, List.set_cons_zero, List.set_cons_succ])
  refine regA 7 13 (v := ?_) rfl rfl (by kernel_rfl) (by kernel_rfl) (by kernel_rfl) (fun _ _ _ h => h) (by rfl) (fun w => ?_) ?_; rotate_left; (go_simp; first | done | with_reducible rfl); (try simp only [Act.put, List.setIfInBounds_toArray, List.set_cons_zero, List.set_cons_succ])
  refine regS 8 14 (v := ?_) hS rfl rfl (by kernel_rfl) (by kernel_rfl) (by kernel_rfl) (by kernel_rfl) (fun _ _ _ h => h) (by rfl) (fun w hSw => ?_) ?_; rotate_left; (simp only [PutSat] at hSw; go_simp; first | done | with_reducible rfl); (try simp only [Act.put, List.setIfInBounds_toArray, List.set_cons_zero, List.set_cons_succ])
  refine regA 9 15 (v := ?_) rfl rfl (by kernel_rfl) (by kernel_rfl) (by kernel_rfl) (fun _ _ _ h => h) (by rfl) (fun w => ?_) ?_; rotate_left; (go_simp; first | done | with_reducible rfl); (try simp only [Act.put, List.setIfInBounds_toArray, List.set_cons_zero, List.set_cons_succ])
  refine regDone (by kernel_rfl) ?_ _
  clear hS hsat
  by_cases hf : (s.way.length : Int) = s.room
  · have e1 : s.put m = (s, 0, 4) := by unfold NetS.put; rw [if_pos hf]
    have HE := hid e1
    clear e1
    go_wp2_with fail
    go_ret2
    exact ⟨by rw [HE.out]; rfl, by rw [HE.out]; exact hn1.mod0 (Mod.refl _ _).drew, HN.out.2.drew.mono (by simp)⟩
  · have e1 : s.put m = ({ s with last := s.last + 1, sent := s.sent + 1, way := s.way ++ [(s.last + 1, m, s.cw)], cw := s.cw + 1 }, s.last + 1, 0) := by unfold NetS.put; rw [if_neg hf]
    have hlk := NetS.look_fresh HO.out
    have HE := hid e1
    have HL := hid hlk
    have hf' : ((s.way.length : Int) == s.room) = false := by simpa using hf
    clear e1 hlk hf
    have hn2 := hn1.mod0 (Mod.drew (Mod.refl _ _))
    have hg2 : W1.drew.heap[w.heap.size]? = _ := HN.out.1
    have hm2 := HN.out.2.drew
    clear hn1 HN H
    generalize W1.drew = W2 at *
    obtain ⟨c0, c1, c2, c3, c4, c5, c6, c7, c8, cf⟩ := hn2.all
    have c2f := cf 2
    have c3f := cf 3
    clear cf c0 c1 c4 c5 c7 c8
    have HN := hid (And.intro hn2 (And.intro hg2 hm2))
    clear hn2 hg2 hm2
    go_wp2_with fail
    have hs1 := (HN.out.1.set 2 (.int .i64 (s.last + 1)) { s with last := s.last + 1 } rfl ⟨rfl, rfl⟩ ⟨rfl, rfl⟩ ⟨rfl, rfl⟩).set 3 (.int .i64 (s.sent + 1)) { s with last := s.last + 1, sent := s.sent + 1 } rfl ⟨rfl, rfl⟩ ⟨rfl, rfl⟩ ⟨rfl, rfl⟩
    have hm3 : Mod p.foot w ((W2.setCell ⟨p.x, 2, none⟩ (.int .i64 (s.last + 1))).setCell ⟨p.x, 3, none⟩ (.int .i64 (s.sent + 1))) := ((HN.out.2.2.mono (by simp)).setCell (by simp [Loc.foot]) _).setCell (by simp [Loc.foot]) _
    have hg3 : ((W2.setCell ⟨p.x, 2, none⟩ (.int .i64 (s.last + 1))).setCell ⟨p.x, 3, none⟩ (.int .i64 (s.sent + 1))).heap[w.heap.size]? = some (.cells #[.int .i64 m.frm, .int .i64 m.to, .int .i64 m.kind, .string m.body] 29 (0, 0)) :=
      get_setCell (get_setCell HN.out.2.1 (fun e => HN.out.1.ne HN.out.2.1 (by decide) (by rw [e]; simp [Loc.foot])) _) (fun e => HN.out.1.ne HN.out.2.1 (by decide) (by rw [e]; simp [Loc.foot])) _
    clear c2 c3 c6 c2f c3f HN
    generalize ((W2.setCell ⟨p.x, 2, none⟩ (.int .i64 (s.last + 1))).setCell ⟨p.x, 3, none⟩ (.int .i64 (s.sent + 1))) = W3 at *
    clear W2 W1
    have hsat := put_sat hs1 hg3
    have hbw := hs1.way
    have hne := hs1.ne hg3 (by decide)
    have H3 := hid (And.intro hs1 (And.intro hg3 hm3))
    clear hs1 hg3 hm3
    refine wp_region_N (fun w' => PutSat p { s with last := s.last + 1, sent := s.sent + 1 } w.heap.size m w' ∧ w'.heap[p.bw]? = some (wayObj s.way s.cw)) (fun i => i != 9) (by kernel_rfl) ?_
    have hS : PutSat p { s with last := s.last + 1, sent := s.sent + 1 } w.heap.size m W3.drew ∧ W3.drew.heap[p.bw]? = some (wayObj s.way s.cw) := ⟨hsat, hbw⟩
    refine regA 0 30 (v := ?_) rfl rfl (by kernel_rfl) (by kernel_rfl) (by kernel_rfl) (fun _ _ _ h => h) (by rfl) (fun w => ?_) ?_; rotate_left; (go_simp; first | done | with_reducible rfl); (try simp only [Act.put, List.setIfInBounds_toArray, List.set_cons_zero, List.set_cons_succ])
    refine regA 1 31 (v := ?_) rfl rfl (by kernel_rfl) (by kernel_rfl) (by kernel_rfl) (fun _ _ _ h => h) (by rfl) (fun w => ?_) ?_; rotate_left; (go_simp; first | done | with_reducible rfl); (try simp only [Act.put, List.setIfInBounds_toArray, List.set_cons_zero, List.set_cons_succ])
    refine regA 2 32 (v := ?_) rfl rfl (by kernel_rfl) (by kernel_rfl) (by kernel_rfl) (fun _ _ _ h => h) (by rfl) (fun w => ?_) ?_; rotate_left; (go_simp; first | done | with_reducible rfl); (try simp only [Act.put, List.setIfInBounds_toArray, List.set_cons_zero, List.set_cons_succ])
    refine regS 3 33 (v := ?_) hS rfl rfl (by kernel_rfl) (by kernel_rfl) (by kernel_rfl) (by kernel_rfl) (fun _ _ _ h => h) (by rfl) (fun w hSw => ?_) ?_; rotate_left; (simp only [PutSat] at hSw; go_simp; first | done | with_reducible rfl); (try simp only [Act.put, List.setIfInBounds_toArray, List.set_cons_zero, List.set_cons_succ])
    refine regA 4 34 (v := ?_) rfl rfl (by kernel_rfl) (by kernel_rfl) (by kernel_rfl) (fun _ _ _ h => h) (by rfl) (fun w => ?_) ?_; rotate_left; (go_simp; first | done | with_reducible rfl); (try simp only [Act.put, List.setIfInBounds_toArray, List.set_cons_zero, List.set_cons_succ])
    refine regA 5 35 (v := ?_) rfl rfl (by kernel_rfl) (by kernel_rfl) (by kernel_rfl) (fun _ _ _ h => h) (by rfl) (fun w => ?_) ?_; rotate_left; (go_simp; first | done | with_reducible rfl); (try simp only [Act.put, List.setIfInBounds_toArray, List.set_cons_zero, List.set_cons_succ])
    refine regA 6 36 (v := ?_) rfl rfl (by kernel_rfl) (by kernel_rfl) (by kernel_rfl) (fun _ _ _ h => h) (by rfl) (fun w => ?_) ?_; rotate_left; (go_simp; first | done | with_reducible rfl); (try simp only [Act.put, List.setIfInBounds_toArray, List.set_cons_zero, List.set_cons_succ])
    refine regS 7 37 (v := ?_) hS rfl rfl (by kernel_rfl) (by kernel_rfl) (by kernel_rfl) (by kernel_rfl) (fun _ _ _ h => h) (by rfl) (fun w hSw => ?_) ?_; rotate_left; (simp only [PutSat] at hSw; go_simp; first | done | with_reducible rfl); (try simp only [Act.put, List.setIfInBounds_toArray, List.set_cons_zero, List.set_cons_succ])
    refine regS 8 38 (v := m.v) hS rfl rfl (by kernel_rfl) (by kernel_rfl) (by kernel_rfl) (by kernel_rfl) (fun _ _ _ h => h) (by rfl) (fun w hSw => ?_) ?_
    · simp only [PutSat] at hSw
      unfold Msg.v
      go_simp
    (try simp only [Act.put, List.setIfInBounds_toArray, List.set_cons_zero, List.set_cons_succ])
    refine regOnly 9 (by kernel_rfl) rfl (by rfl) (fun K hK => ?_)
    refine wp_put_new' kInt _ _ _ 64 29 rfl Try.underlying64 p.bw s.cw s.way (s.last + 1) m rfl rfl rfl hS.2 HL.out ?_
    intro w4 hb4 hm4 hs4
    refine hK.out _ _ (fun h _ => absurd h (by decide)) ?_
    clear hK hS hsat
    (try simp only [Act.put, List.setIfInBounds_toArray, List.set_cons_zero, List.set_cons_succ])
    refine regDone (by kernel_rfl) ?_ _
    have hn4 : NetAt w4 p (s.put m).1 := by
      rw [HE.out]
      have hmm : Mod [p.bw] W3 w4 := (Mod.refl _ _).drew.trans hm4
      have h3 := H3.out.1
      exact ⟨hmm.get h3.cells (by simpa using h3.xne.1), hb4, hmm.get h3.cuts (by simpa using h3.wc.symm), hmm.get h3.downs (by simpa using h3.wd.symm), h3.wc, h3.wd, h3.cd⟩
    have hm5 : Mod p.foot w w4 := H3.out.2.2.drew.trans (hm4.mono (fun x hx => .inl (by rw [List.mem_singleton.1 hx]; simp [Loc.foot])))
    have d2 : w4.cell? ⟨p.x, 2, none⟩ = some (.int .i64 (s.last + 1)) := by
      have := hn4.all.2.2.1
      rw [HE.out] at this
      exact this
    have H4 := hid (And.intro hn4 hm5)
    clear hn4 hm5 hb4 hm4 hs4 hbw hne H3
    go_wp2_with fail
    go_ret2
    exact ⟨by rw [HE.out]; rfl, H4.out.1, H4.out.2⟩
end Go.Proofs.Ytbjgjagbepopfaa
