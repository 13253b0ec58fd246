/-
  The reference's net, walked: Send, Copy, Look. No statement of a claim stands here; each contract names what it asks.
-/
import Derived.Test.YtbjgjagbepopfaaM2
set_option linter.unusedSimpArgs false
namespace Go.Proofs.Ytbjgjagbepopfaa
open Go Go.RowKit Go.ChangeMaps


section
variable {B : Nat} {w : World} {y n : Nat} {s : NetS}
set_option maxRecDepth 20000 in
set_option maxHeartbeats 4000000 in
theorem rsend_any (h : RefAt B w y n s) (ho : s.Ok) (hb : s.sent ≤ 1000000) (hB : B ≤ w.heap.size) (m : Msg) :
    Calls Try.prog 23 #[.pointer (some ⟨y, 0, none⟩), .agg #[.int .i64 m.frm, .int .i64 m.to, .int .i64 m.kind, .string m.body]] w (RefPost B w y n (.tuple #[.int .i64 (s.send m).2.1, .int .i64 (s.send m).2.2]) (s.send m).1) := by
  obtain ⟨vl, vc, cl, dn, h, hcl⟩ := h
  have hm1 : Mod [] w (w.alloc (rmsgObj m)) := Mod.alloc (Mod.refl _ _) _
  have hg1 := get_new w (rmsgObj m)
  have H := hid h
  have HO := hid ho
  go_enter Try.func23, Try.ntmps23
  go_upto_region 1 with fail
  have h1 := h.mod0 hm1
  generalize (w.alloc (rmsgObj m)) = w1 at *
  generalize hgg : w.heap.size = g at *
  have g0 := cell_at hg1 0
  have g1 := cell_at hg1 1
  have g2 := cell_at hg1 2
  have g3 := cell_at hg1 3
  have H1 := hid (And.intro h1 (And.intro hm1 hg1))
  clear h h1 hm1 hg1 ho
  cases hp1 : s.party m.frm with
  | false =>
    have hs : s.send m = (s, 0, 2) := by unfold NetS.send; rw [hp1]; rfl
    have HS := hid hs
    have HP := hid hp1
    clear hs hp1
    go_wp2_with (first | (go_at_call 40; refine (rparty_any H1.out.1 _).mono ?_; rintro e w' ⟨rfl, hw'⟩; obtain rfl : w1 = w' := hw'.symm; clear hw'; simp only [HP.out]))
    go_ret2
    exact ⟨by rw [HS.out]; rfl, by rw [HS.out]; exact ⟨_, vc, cl, dn, H1.out.1, hcl⟩, .of0 H1.out.2.1⟩
  | true =>
    cases hp2 : s.party m.to with
    | false =>
      have hs : s.send m = (s, 0, 2) := by unfold NetS.send; rw [hp1, hp2]; rfl
      have HS := hid hs
      have HP := hid (And.intro hp1 hp2)
      clear hs hp1 hp2
      go_wp2_with (first | (go_at_call 40; refine (rparty_any H1.out.1 _).mono ?_; rintro e w' ⟨rfl, hw'⟩; obtain rfl : w1 = w' := hw'.symm; clear hw'; simp only [HP.out.1, HP.out.2]))
      go_ret2
      exact ⟨by rw [HS.out]; rfl, by rw [HS.out]; exact ⟨_, vc, cl, dn, H1.out.1, hcl⟩, .of0 H1.out.2.1⟩
    | true =>
      have HP := hid (And.intro hp1 hp2)
      by_cases hk : m.kind < 0
      · have hs : s.send m = (s, 0, 2) := by unfold NetS.send; rw [hp1, hp2, if_pos (by rfl), if_pos hk]
        have HS := hid hs
        clear hs hp1 hp2
        go_wp2_with (first | (go_at_call 40; refine (rparty_any H1.out.1 _).mono ?_; rintro e w' ⟨rfl, hw'⟩; obtain rfl : w1 = w' := hw'.symm; clear hw'; simp only [HP.out.1, HP.out.2]))
        go_ret2
        exact ⟨by rw [HS.out]; rfl, by rw [HS.out]; exact ⟨_, vc, cl, dn, H1.out.1, hcl⟩, .of0 H1.out.2.1⟩
      · by_cases hl : 4096 < m.body.size
        · have hs : s.send m = (s, 0, 3) := by unfold NetS.send; rw [hp1, hp2, if_pos (by rfl), if_neg hk, if_pos hl]
          have HS := hid hs
          clear hs hp1 hp2
          go_wp2_with (first | (go_at_call 40; refine (rparty_any H1.out.1 _).mono ?_; rintro e w' ⟨rfl, hw'⟩; obtain rfl : w1 = w' := hw'.symm; clear hw'; simp only [HP.out.1, HP.out.2]))
          go_ret2
          exact ⟨by rw [HS.out]; rfl, by rw [HS.out]; exact ⟨_, vc, cl, dn, H1.out.1, hcl⟩, .of0 H1.out.2.1⟩
        · have hs : s.send m = if s.down m.frm then (s, 0, 8) else if s.down m.to then ({ s with sent := s.sent + 1, lost := s.lost + 1 }, 0, 0) else s.put m := by unfold NetS.send; rw [hp1, hp2, if_pos (by rfl), if_neg hk, if_neg hl]
          have HS := hid hs
          have hq1 : 1 ≤ m.frm ∧ m.frm ≤ 64 := by have := HO.out.parties; unfold NetS.party at hp1; simp at hp1; omega
          have hq2 : 1 ≤ m.to ∧ m.to ≤ 64 := by have := HO.out.parties; unfold NetS.party at hp2; simp at hp2; omega
          clear hs hp1 hp2
          go_upto_region 5 with (first | (go_at_call 40; refine (rparty_any H1.out.1 _).mono ?_; rintro e w' ⟨rfl, hw'⟩; obtain rfl : w1 = w' := hw'.symm; clear hw'; simp only [HP.out.1, HP.out.2]))
          obtain ⟨fn, hfn⟩ := Int.eq_ofNat_of_zero_le (show 0 ≤ m.frm by omega)
          obtain ⟨tn, htn⟩ := Int.eq_ofNat_of_zero_le (show 0 ≤ m.to by omega)
          have d1 := H1.out.1.at_down (k := fn) (by omega) (by omega)
          have d2 := H1.out.1.at_down (k := tn) (by omega) (by omega)
          rw [← hfn] at d1
          rw [← htn] at d2
          have e1 : (fn : Int) < 65 := by omega
          have e2 : (tn : Int) < 65 := by omega
          have HFN := hid (And.intro hfn htn)
          rw [hfn] at g0
          rw [htn] at g1
          clear hfn htn hq1 hq2 HP
          cases hd1 : s.down m.frm with
          | true =>
            rw [hd1, if_pos rfl] at HS
            rw [hd1] at d1
            clear hd1 d2
            go_quiet (fail)
            go_wp2_with fail
            go_ret2
            exact ⟨by rw [HS.out]; rfl, by rw [HS.out]; exact ⟨_, vc, cl, dn, H1.out.1.mod0 ((Mod.refl _ _).drewN _), hcl⟩, .of0 (H1.out.2.1.drewN _)⟩
          | false =>
            rw [hd1, if_neg (by simp)] at HS
            rw [hd1] at d1
            clear hd1
            go_quiet (fail)
            go_upto_region 7 with fail
            have d2' : (w1.drewN nq).cell? ⟨y, 8 + tn, none⟩ = some (.bool (s.down m.to)) := d2
            have g1' : (w1.drewN nq).cell? ⟨g, 1, none⟩ = some (.int .i64 (tn : Int)) := g1
            have h2 := H1.out.1.mod0 (w' := w1.drewN nq) ((Mod.refl _ _).drewN _)
            have hm2 := H1.out.2.1.drewN nq
            have hg2 : (w1.drewN nq).heap[g]? = _ := H1.out.2.2
            clear d1 d2 g0 g1 g2 g3 H1
            generalize w1.drewN nq = w2 at *
            have H2 := hid (And.intro h2 (And.intro hm2 hg2))
            clear h2 hm2 hg2
            cases hd2 : s.down m.to with
            | true =>
              rw [hd2, if_pos rfl] at HS
              rw [hd2] at d2'
              clear hd2
              go_quiet (fail)
              have h3 := H2.out.1.mod0 (w' := w2.drewN nq) ((Mod.refl _ _).drewN _)
              have hm3 := H2.out.2.1.drewN nq
              clear d2' g1' H2
              generalize w2.drewN nq = w3 at *
              obtain ⟨-, -, -, c3, -, c5, -, -, cf⟩ := h3.all
              have c3f := cf 3
              have c5f := cf 5
              clear cf
              have l1 : s.lost ≤ 1000000 := by have h1 := HO.out.sum; have h2 := HO.out.taken; omega
              have l2 : 0 ≤ s.lost := HO.out.lost
              have l3 : 0 ≤ s.sent := by have := HO.out.last; omega
              have H3 := hid (And.intro h3 hm3)
              clear h3 hm3
              go_wp2_with fail
              go_ret2
              have hfin := (H3.out.1.num 3 (.int .i64 (s.sent + 1)) { s with sent := s.sent + 1 } rfl (by decide) rfl rfl rfl).num 5 (.int .i64 (s.lost + 1)) { s with sent := s.sent + 1, lost := s.lost + 1 } rfl (by decide) rfl rfl rfl
              refine ⟨by rw [HS.out]; rfl, by rw [HS.out]; exact ⟨_, vc, cl, dn, hfin, hcl⟩, H.out.rmod ?_⟩
              exact ((H3.out.2.mono (by simp)).setCell (.inl ((mem_foot y).2 (.inl rfl))) _).setCell (.inl ((mem_foot y).2 (.inl rfl))) _
            | false =>
              rw [hd2, if_neg (by simp)] at HS
              rw [hd2] at d2'
              clear hd2
              go_quiet (fail)
              have h3 := H2.out.1.mod0 (w' := w2.drewN nq) ((Mod.refl _ _).drewN _)
              have hm3 := H2.out.2.1.drewN nq
              have hg3 : (w2.drewN nq).heap[g]? = _ := H2.out.2.2
              clear d2' g1' H2
              generalize w2.drewN nq = w3 at *
              have g0 := cell_at hg3 0
              have g1 := cell_at hg3 1
              have g2 := cell_at hg3 2
              have g3 := cell_at hg3 3
              have hput := rput_any (w := w3) (n := n) ⟨vl, vc, cl, dn, h3, hcl⟩ HO.out hb (by have := hm3.size; omega) m
              have HPU := hid hput
              have HM3 := hid hm3
              clear h3 hm3 hg3 hput
              go_wp2_with (first
                | (go_at_call 41; refine HPU.out.mono ?_; rintro e w4 ⟨rfl, h4, hm4⟩; have H4 := hid (And.intro h4 hm4); clear h4 hm4))
              go_ret2
              exact ⟨by rw [HS.out]; rfl, by rw [HS.out]; exact H4.out.1, (RMod.of0 HM3.out).trans H4.out.2⟩
end
end Go.Proofs.Ytbjgjagbepopfaa
