/-
  A net, walked: Send. No statement of a claim stands here; each contract names what it asks.
-/
import Derived.Test.YtbjgjagbepopfaaNA
set_option linter.unusedSimpArgs false
namespace Go.Proofs.Ytbjgjagbepopfaa
open Go Go.RowKit Go.ChangeMaps

/-- What the loads of 'Send' read. -/
def SendSat (p : Loc) (g : Nat) (m : Msg) (w' : World) : Prop :=
  w'.cell? ⟨p.x, 8, none⟩ = some (.map (some p.bd)) ∧ w'.cell? ⟨g, 0, none⟩ = some (.int .i64 m.frm) ∧ w'.cell? ⟨g, 1, none⟩ = some (.int .i64 m.to)


set_option maxRecDepth 20000 in
set_option maxHeartbeats 4000000 in
theorem send_any (w : World) (p : Loc) (s : NetS) (m : Msg) (h : NetAt w p s) (ho : s.Ok) (hb : s.sent ≤ 1000000) :
    Calls Try.prog 13 #[.pointer (some ⟨p.x, 0, none⟩), m.v] w (NumPost w p (s.send m)) := by
  have hm1 : Mod [] w (w.alloc (msgObj m)) := Mod.alloc (Mod.refl _ _) _
  have hg1 := get_new w (msgObj m)
  have ham := among2 (w.alloc (msgObj m)) p s m.frm m.to (h.mod0 hm1)
  rw [show (w.alloc (msgObj m)).heap.size = w.heap.size + 1 from by simp] at ham
  have hm2 : Mod [] w ((w.alloc (msgObj m)).alloc (.cells #[.int .i64 m.frm, .int .i64 m.to] 3)) := hm1.alloc _
  have hg2 := get_alloc hg1 (.cells #[.int .i64 m.frm, .int .i64 m.to] 3)
  have c2 := cell_at hg2 2
  have c3 := cell_at hg2 3
  have H := hid h
  have HO := hid ho
  have HA := hid ham
  have HM := hid (And.intro hm2 hg2)
  clear h ho ham hm1 hg1 hm2 hg2
  unfold Msg.v
  cases hp : (s.party m.frm && s.party m.to) with
  | false =>
    have hs : s.send m = (s, 0, 2) := by unfold NetS.send; rw [hp]; rfl
    have HS := hid hs
    rw [hp] at HA
    clear hs hp
    go_enter Try.func13, Try.ntmps13
    go_wp2_with (first | (go_at_call 34; refine HA.out.mono ?_; rintro e w' ⟨rfl, hw'⟩; subst hw'; simp only [Bool.false_eq_true, if_false, if_true]))
    go_ret2
    exact ⟨by rw [HS.out]; rfl, by rw [HS.out]; exact H.out.mod0 HM.out.1, HM.out.1.mono (by simp)⟩
  | true =>
    rw [hp] at HA
    by_cases hk : m.kind < 0
    · have hs : s.send m = (s, 0, 2) := by unfold NetS.send; rw [hp, if_pos rfl, if_pos hk]
      have HS := hid hs
      clear hs hp
      go_enter Try.func13, Try.ntmps13
      go_wp2_with (first | (go_at_call 34; refine HA.out.mono ?_; rintro e w' ⟨rfl, hw'⟩; subst hw'; simp only [Bool.false_eq_true, if_false, if_true]))
      go_ret2
      exact ⟨by rw [HS.out]; rfl, by rw [HS.out]; exact H.out.mod0 HM.out.1, HM.out.1.mono (by simp)⟩
    · by_cases hl : 4096 < m.body.size
      · have hs : s.send m = (s, 0, 3) := by unfold NetS.send; rw [hp, if_pos rfl, if_neg hk, if_pos hl]
        have HS := hid hs
        clear hs hp
        go_enter Try.func13, Try.ntmps13
        go_wp2_with (first | (go_at_call 34; refine HA.out.mono ?_; rintro e w' ⟨rfl, hw'⟩; subst hw'; simp only [Bool.false_eq_true, if_false, if_true]))
        go_ret2
        exact ⟨by rw [HS.out]; rfl, by rw [HS.out]; exact H.out.mod0 HM.out.1, HM.out.1.mono (by simp)⟩
      · have hs : s.send m = if s.down m.frm then (s, 0, 8) else if s.down m.to then ({ s with sent := s.sent + 1, lost := s.lost + 1 }, 0, 0) else s.put m := by unfold NetS.send; rw [hp, if_pos rfl, if_neg hk, if_neg hl]
        have HS := hid hs
        clear hs hp
        go_enter Try.func13, Try.ntmps13
        go_wp2_with (first | (go_at_call 34; refine HA.out.mono ?_; rintro e w' ⟨rfl, hw'⟩; subst hw'; simp only [Bool.false_eq_true, if_false, if_true]))
        obtain ⟨hm2, hg2⟩ := HM.out
        have hn2 := H.out.mod0 hm2
        clear c2 c3 HA HM
        generalize ((w.alloc (msgObj m)).alloc (.cells #[.int .i64 m.frm, .int .i64 m.to] 3)) = W2 at *
        refine wp_region_N (fun w' => SendSat p w.heap.size m w' ∧ w'.heap[p.bd]? = some (downsObj s.downs s.cd)) (fun _ => true) (by kernel_rfl) ?_
        have hS : SendSat p w.heap.size m W2.drew ∧ W2.drew.heap[p.bd]? = some (downsObj s.downs s.cd) := ⟨⟨hn2.all.2.2.2.2.2.2.2.2.1, cell_at hg2 0, cell_at hg2 1⟩, hn2.downs⟩
        have HW := hid (And.intro hn2 (And.intro hm2 hg2))
        clear hn2 hm2 hg2
        refine regA 0 28 (v := ?_) rfl rfl (by kernel_rfl) (by kernel_rfl) (by kernel_rfl) (fun _ _ _ h => h) (by rfl) (fun w => ?_) ?_; rotate_left; (go_simp; first | done | with_reducible rfl); (try simp only [Act.put, List.setIfInBounds_toArray, List.set_cons_zero, List.set_cons_succ])
        refine regA 1 29 (v := ?_) rfl rfl (by kernel_rfl) (by kernel_rfl) (by kernel_rfl) (fun _ _ _ h => h) (by rfl) (fun w => ?_) ?_; rotate_left; (go_simp; first | done | with_reducible rfl); (try simp only [Act.put, List.setIfInBounds_toArray, List.set_cons_zero, List.set_cons_succ])
        refine regA 2 30 (v := ?_) rfl rfl (by kernel_rfl) (by kernel_rfl) (by kernel_rfl) (fun _ _ _ h => h) (by rfl) (fun w => ?_) ?_; rotate_left; (go_simp; first | done | with_reducible rfl); (try simp only [Act.put, List.setIfInBounds_toArray, List.set_cons_zero, List.set_cons_succ])
        refine regS 3 31 (v := ?_) hS rfl rfl (by kernel_rfl) (by kernel_rfl) (by kernel_rfl) (by kernel_rfl) (fun _ _ _ h => h) (by rfl) (fun w hSw => ?_) ?_; rotate_left; (simp only [SendSat] at hSw; go_simp; first | done | with_reducible rfl); (try simp only [Act.put, List.setIfInBounds_toArray, List.set_cons_zero, List.set_cons_succ])
        refine regA 4 32 (v := ?_) rfl rfl (by kernel_rfl) (by kernel_rfl) (by kernel_rfl) (fun _ _ _ h => h) (by rfl) (fun w => ?_) ?_; rotate_left; (go_simp; first | done | with_reducible rfl); (try simp only [Act.put, List.setIfInBounds_toArray, List.set_cons_zero, List.set_cons_succ])
        refine regS 5 33 (v := ?_) hS rfl rfl (by kernel_rfl) (by kernel_rfl) (by kernel_rfl) (by kernel_rfl) (fun _ _ _ h => h) (by rfl) (fun w hSw => ?_) ?_; rotate_left; (simp only [SendSat] at hSw; go_simp; first | done | with_reducible rfl); (try simp only [Act.put, List.setIfInBounds_toArray, List.set_cons_zero, List.set_cons_succ])
        refine regS 6 34 (v := .bool (s.down m.frm)) hS rfl rfl (by kernel_rfl) (by kernel_rfl) (by kernel_rfl) (by kernel_rfl) (fun _ _ _ h => h) (by rfl) (fun w hSw => look_op _ _ _ _ rfl _ (down_look _ _ _ _ m.frm hSw.2)) ?_
        (try simp only [Act.put, List.setIfInBounds_toArray, List.set_cons_zero, List.set_cons_succ])
        refine regA 7 27 (v := ?_) rfl rfl (by kernel_rfl) (by kernel_rfl) (by kernel_rfl) (fun _ _ _ h => h) (by rfl) (fun w => ?_) ?_; rotate_left; (go_simp; first | done | with_reducible rfl); (try simp only [Act.put, List.setIfInBounds_toArray, List.set_cons_zero, List.set_cons_succ])
        refine regDone (by kernel_rfl) ?_ _
        cases hd1 : s.down m.frm with
        | true =>
          rw [hd1, if_pos rfl] at HS
          clear hS hd1
          go_wp2_with fail
          go_ret2
          exact ⟨by rw [HS.out]; rfl, by rw [HS.out]; exact HW.out.1.mod0 (Mod.refl _ _).drew, HW.out.2.1.drew.mono (by simp)⟩
        | false =>
          rw [hd1, if_neg (by simp)] at HS
          clear hd1
          have hS1 := hid hS
          clear hS
          go_wp2_with fail
          refine wp_region_N (fun w' => SendSat p w.heap.size m w' ∧ w'.heap[p.bd]? = some (downsObj s.downs s.cd)) (fun _ => true) (by kernel_rfl) ?_
          have hS : SendSat p w.heap.size m W2.drew.drew ∧ W2.drew.drew.heap[p.bd]? = some (downsObj s.downs s.cd) := hS1.out
          clear hS1
          refine regA 0 36 (v := ?_) rfl rfl (by kernel_rfl) (by kernel_rfl) (by kernel_rfl) (fun _ _ _ h => h) (by rfl) (fun w => ?_) ?_; rotate_left; (go_simp; first | done | with_reducible rfl); (try simp only [Act.put, List.setIfInBounds_toArray, List.set_cons_zero, List.set_cons_succ])
          refine regA 1 37 (v := ?_) rfl rfl (by kernel_rfl) (by kernel_rfl) (by kernel_rfl) (fun _ _ _ h => h) (by rfl) (fun w => ?_) ?_; rotate_left; (go_simp; first | done | with_reducible rfl); (try simp only [Act.put, List.setIfInBounds_toArray, List.set_cons_zero, List.set_cons_succ])
          refine regA 2 38 (v := ?_) rfl rfl (by kernel_rfl) (by kernel_rfl) (by kernel_rfl) (fun _ _ _ h => h) (by rfl) (fun w => ?_) ?_; rotate_left; (go_simp; first | done | with_reducible rfl); (try simp only [Act.put, List.setIfInBounds_toArray, List.set_cons_zero, List.set_cons_succ])
          refine regS 3 39 (v := ?_) hS rfl rfl (by kernel_rfl) (by kernel_rfl) (by kernel_rfl) (by kernel_rfl) (fun _ _ _ h => h) (by rfl) (fun w hSw => ?_) ?_; rotate_left; (simp only [SendSat] at hSw; go_simp; first | done | with_reducible rfl); (try simp only [Act.put, List.setIfInBounds_toArray, List.set_cons_zero, List.set_cons_succ])
          refine regA 4 40 (v := ?_) rfl rfl (by kernel_rfl) (by kernel_rfl) (by kernel_rfl) (fun _ _ _ h => h) (by rfl) (fun w => ?_) ?_; rotate_left; (go_simp; first | done | with_reducible rfl); (try simp only [Act.put, List.setIfInBounds_toArray, List.set_cons_zero, List.set_cons_succ])
          refine regS 5 41 (v := ?_) hS rfl rfl (by kernel_rfl) (by kernel_rfl) (by kernel_rfl) (by kernel_rfl) (fun _ _ _ h => h) (by rfl) (fun w hSw => ?_) ?_; rotate_left; (simp only [SendSat] at hSw; go_simp; first | done | with_reducible rfl); (try simp only [Act.put, List.setIfInBounds_toArray, List.set_cons_zero, List.set_cons_succ])
          refine regS 6 42 (v := .bool (s.down m.to)) hS rfl rfl (by kernel_rfl) (by kernel_rfl) (by kernel_rfl) (by kernel_rfl) (fun _ _ _ h => h) (by rfl) (fun w hSw => look_op _ _ _ _ rfl _ (down_look _ _ _ _ m.to hSw.2)) ?_
          (try simp only [Act.put, List.setIfInBounds_toArray, List.set_cons_zero, List.set_cons_succ])
          refine regA 7 35 (v := ?_) rfl rfl (by kernel_rfl) (by kernel_rfl) (by kernel_rfl) (fun _ _ _ h => h) (by rfl) (fun w => ?_) ?_; rotate_left; (go_simp; first | done | with_reducible rfl); (try simp only [Act.put, List.setIfInBounds_toArray, List.set_cons_zero, List.set_cons_succ])
          refine regDone (by kernel_rfl) ?_ _
          clear hS
          have hn3 : NetAt W2.drew.drew p s := HW.out.1.mod0 ((Mod.refl _ _).drew.drew)
          have hm3 : Mod [] w W2.drew.drew := HW.out.2.1.drew.drew
          have hg3 : W2.drew.drew.heap[w.heap.size]? = some (msgObj m) := HW.out.2.2
          clear HW
          generalize W2.drew.drew = W3 at *
          clear W2
          cases hd2 : s.down m.to with
          | true =>
            rw [hd2, if_pos rfl] at HS
            clear hd2 hg3
            obtain ⟨-, -, -, c3, -, c5, -, -, -, cf⟩ := hn3.all
            have c3f := cf 3
            have c5f := cf 5
            clear cf
            have h1 := HO.out.sum
            have h2 := HO.out.taken
            have h3 := HO.out.lost
            have hl1 : s.lost ≤ 1000000 := by omega
            have h4 : 0 ≤ s.sent := by have := HO.out.last; omega
            clear h1 h2
            have HW := hid (And.intro hn3 hm3)
            clear hn3 hm3
            go_wp2_with fail
            go_ret2
            refine ⟨by rw [HS.out]; rfl, ?_, ?_⟩
            · rw [HS.out]
              exact (HW.out.1.set 3 (.int .i64 (s.sent + 1)) { s with sent := s.sent + 1 } rfl ⟨rfl, rfl⟩ ⟨rfl, rfl⟩ ⟨rfl, rfl⟩).set 5 (.int .i64 (s.lost + 1)) { s with sent := s.sent + 1, lost := s.lost + 1 } rfl ⟨rfl, rfl⟩ ⟨rfl, rfl⟩ ⟨rfl, rfl⟩
            · exact ((HW.out.2.mono (by simp)).setCell (by simp [Loc.foot]) _).setCell (by simp [Loc.foot]) _
          | false =>
            rw [hd2, if_neg (by simp)] at HS
            clear hd2
            have g0 := cell_at hg3 0
            have g1 := cell_at hg3 1
            have g2 := cell_at hg3 2
            have g3 := cell_at hg3 3
            have hput := put_any W3 p s m hn3 HO.out hb
            have HP := hid hput
            have HM2 := hid hm3
            clear hn3 hm3 hg3 hput
            go_wp2_with (first
              | (go_at_call 35; refine HP.out.mono ?_; rintro e w3 ⟨rfl, hn4, hm4⟩; have H3 := hid (And.intro hn4 hm4); clear hn4 hm4))
            go_ret2
            exact ⟨by rw [HS.out]; rfl, by rw [HS.out]; exact H3.out.1, (HM2.out.mono (by simp)).trans H3.out.2⟩
end Go.Proofs.Ytbjgjagbepopfaa
