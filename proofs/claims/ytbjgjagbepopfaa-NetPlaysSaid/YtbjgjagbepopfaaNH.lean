/-
  A net, walked: Down. No statement of a claim stands here; each contract names what it asks.
-/
import Derived.Test.YtbjgjagbepopfaaNG
set_option linter.unusedSimpArgs false
namespace Go.Proofs.Ytbjgjagbepopfaa
open Go Go.RowKit Go.ChangeMaps


theorem NetAt.way' {w w' : World} {p : Loc} {s : NetS} (h : NetAt w p s) (m : Mod [p.bw] w w') (l : Way) (hb : w'.heap[p.bw]? = some (wayObj l s.cw)) : NetAt w' p { s with way := l } :=
  ⟨m.get h.cells (by simpa using h.xne.1), hb, m.get h.cuts (by simpa using h.wc.symm), m.get h.downs (by simpa using h.wd.symm), h.wc, h.wd, h.cd⟩
theorem NetAt.downs' {w w' : World} {p : Loc} {s : NetS} (h : NetAt w p s) (m : Mod [p.bd] w w') (l : List (Int × Bool × Nat)) (c : Nat) (hb : w'.heap[p.bd]? = some (downsObj l c)) : NetAt w' p { s with downs := l, cd := c } :=
  ⟨m.get h.cells (by simpa using h.xne.2.2), m.get h.way (by simpa using h.wd), m.get h.cuts (by simpa using h.cd), hb, h.wc, h.wd, h.cd⟩
theorem waiting_le (s : NetS) (k : Int) : (s.waiting k).length ≤ s.way.length := by
  unfold NetS.waiting
  rw [List.length_map]
  exact List.length_filter_le _ _

set_option maxRecDepth 20000 in
set_option maxHeartbeats 4000000 in
theorem down_any (w : World) (p : Loc) (s : NetS) (k : Int) (on : Bool) (h : NetAt w p s) (ho : s.Ok) (hb : s.sent ≤ 1000000) :
    Calls Try.prog 21 #[.pointer (some ⟨p.x, 0, none⟩), .int .i64 k, .bool on] w (ErrPost w p (s.downing k on)) := by
  have hm1 : Mod [] w (w.alloc (.cells #[.int .i64 k] 3)) := Mod.alloc (Mod.refl _ _) _
  have ham := among1 w p s k h
  have H := hid (h.mod0 hm1)
  have HO := hid ho
  have HA := hid ham
  have HM := hid hm1
  clear h ho ham hm1
  cases hp : s.party k with
  | false =>
    have hs : s.downing k on = (s, 2) := by unfold NetS.downing; rw [hp]; rfl
    have HS := hid hs
    rw [hp] at HA
    clear hs hp
    go_enter Try.func21, Try.ntmps21
    go_wp2_with (first | (go_at_call 34; refine HA.out.mono ?_; rintro e w' ⟨rfl, hw'⟩; subst hw'; simp only [Bool.false_eq_true, if_false, if_true]))
    go_ret
    exact ⟨by rw [HS.out]; rfl, by rw [HS.out]; exact H.out, HM.out.mono (by simp)⟩
  | true =>
    rw [hp] at HA
    have hs : s.downing k on = if on then ((s.marking k true).losing (s.waiting k) (s.waiting k).length, 0) else (s.marking k false, 0) := by unfold NetS.downing; rw [hp]; rfl
    have HS := hid hs
    clear hs hp
    go_enter Try.func21, Try.ntmps21
    go_upto_region 4 with (first | (go_at_call 34; refine HA.out.mono ?_; rintro e w' ⟨rfl, hw'⟩; subst hw'; simp only [Bool.false_eq_true, if_false, if_true]))
    generalize (w.alloc (.cells #[.int .i64 k] 3)) = W1 at *
    obtain ⟨-, -, -, -, -, -, -, -, c8, -⟩ := H.out.all
    have hk := H.out.downs
    go_upto_region 5 with (first
      | (at_mapUpdate; refine wpList_put_any kInt rfl _ _ _ _ _ rfl Try.underlying66 p.bd s.cd s.downs k on rfl rfl rfl hk HO.out.downs ?_; intro w3 hb3 hm3 hs3))
    have hn3 : NetAt w3 p (s.marking k on) := H.out.downs' hm3 _ _ hb3
    have hm4 : Mod p.foot w w3 := (HM.out.mono (by simp)).trans (hm3.mono (fun x hx => .inl (by rw [List.mem_singleton.1 hx]; simp [Loc.foot])))
    have ho3 := NetS.marking_ok HO.out k on
    clear c8 hk hm3 hs3 hb3 HM H HA
    cases on with
    | false =>
      rw [if_neg (by simp)] at HS
      have H3 := hid (And.intro hn3 hm4)
      clear hn3 hm4
      go_wp2_with fail
      go_ret
      exact ⟨by rw [HS.out]; rfl, by rw [HS.out]; exact H3.out.1, H3.out.2⟩
    | true =>
      rw [if_pos rfl] at HS
      have hwt := waiting_any w3 p (s.marking k true) k hn3 ho3 hb
      rw [show (s.marking k true).waiting k = s.waiting k from rfl] at hwt
      have HL := hid (show (s.waiting k).length ≤ 5000 from by have h1 := waiting_le s k; have := HO.out.fits; have := HO.out.room; omega)
      have l1 : (s.marking k true).lost + ((s.waiting k).length : Nat) ≤ 1000000 := by
        have h1 := waiting_le s k; have := HO.out.sum; have := HO.out.taken; show s.lost + ((s.waiting k).length : Nat) ≤ 1000000; omega
      have l0 : 0 ≤ (s.marking k true).lost := HO.out.lost
      generalize s.waiting k = L at *
      generalize s.marking k true = s3 at *
      have HLT := hid hn3.lt
      have HND := hid ho3.nodup
      have HW := hid hwt
      have H3 := hid (And.intro hn3 hm4)
      clear hn3 hm4 hwt ho3 HO
      go_wp2_with (first
        | (go_at_call 16; refine HW.out.mono ?_; rintro e w4 ⟨v, rfl, hv, hm5⟩; obtain ⟨a0, k0, rfl⟩ := row_slice hv.row; have H4 := hid (And.intro hv hm5); clear hv hm5))
      go_loopg [29] L.length (fun gk i W' => ∃ j : Nat, i = nat j ∧ gk + j = L.length ∧ NetAt W' p (s3.losing L j) ∧ IntsAt w3.heap.size W' (.slice a0 L.length k0) L ∧ Mod p.foot w W')
      case atStart => exact ⟨0, rfl, by omega, by rw [NetS.losing_zero]; exact H3.out.1.mod0 H4.out.2, H4.out.1, H3.out.2.trans (H4.out.2.mono (by simp))⟩
      case round =>
        obtain ⟨j, rfl, hj, hn, hv, hm⟩ := hrel
        by_cases hjn : j < L.length
        · obtain ⟨ky, he⟩ : ∃ e, L[j]? = some e := ⟨_, List.getElem?_eq_getElem hjn⟩
          obtain ⟨g, c', e0, hcells⟩ := row_pos hv.row (by omega)
          cases e0
          have x0 := hcells j (.int .i64 ky) (by simp [intCells, he])
          have hst := NetS.losing_step s3 L j ky he
          have hnd : ((s3.losing L j).way.map (·.1)).Nodup := HND.out.sublist (List.filter_sublist.map _)
          have j0 : (0 : Int) ≤ (j : Int) := Int.natCast_nonneg _
          have j1 : (j : Int) < (L.length : Int) := by omega
          have j2 := HL.out
          have c6 := hn.all.2.2.2.2.2.2.1
          have hk := hn.way
          rw [show (s3.losing L j).cw = s3.cw from rfl] at hk
          have HN := hid (And.intro hn (And.intro hv hm))
          have HST := hid hst
          have HND' := hid hnd
          clear hn hv hm hst hnd he hcells
          go_upto_region 11 with (first
            | (at_delete; refine wpList_drop_at kInt rfl _ _ _ _ _ rfl Try.underlying64 p.bw s3.cw (s3.losing L j).way ky rfl rfl hk HND'.out ?_; intro w5 hb5 hm5 hs5))
          have hn5 := HN.out.1.way' hm5 _ hb5
          rw [HST.out] at hn5
          have hv5 := HN.out.2.1.mod hm5 (fun b hb he => by have h1 := HN.out.2.1.own b hb; have h2 := HLT.out p.bw (by simp [Loc.foot]); rw [List.mem_singleton.1 he] at h1; omega)
          have hm6 : Mod p.foot w w5 := HN.out.2.2.trans (hm5.mono (fun x hx => .inl (by rw [List.mem_singleton.1 hx]; simp [Loc.foot])))
          have c5 := hn5.all.2.2.2.2.2.1
          have c5f := hn5.all.2.2.2.2.2.2.2.2.2 5
          rw [show (({ s3.losing L j with way := (s3.losing L (j + 1)).way } : NetS)).lost = s3.lost + (j : Int) from rfl] at c5
          have H5 := hid (And.intro hn5 (And.intro hv5 hm6))
          clear hn5 hv5 hm6 hb5 hm5 hs5 hk c6 x0 HN HST HND'
          go_wp2_with fail
          go_roundg (gk - 1)
          case measure => omega
          case rel =>
            refine ⟨j + 1, by go_num, by omega, ?_, ?_, H5.out.2.2.setCell (by simp [Loc.foot]) _⟩
            · refine H5.out.1.set 5 _ (s3.losing L (j + 1)) ?_ ⟨rfl, rfl⟩ ⟨rfl, rfl⟩ ⟨rfl, rfl⟩
              have e1 : s3.lost + (j : Int) + 1 = s3.lost + ((j + 1 : Nat) : Int) := by omega
              rw [e1]
              rfl
            · exact H5.out.2.1.mod (S := [p.x]) ((Mod.refl _ _).setCell (by simp) _) (fun b hb he => by have h1 := H5.out.2.1.own b hb; have h2 := HLT.out p.x (by simp [Loc.foot]); rw [List.mem_singleton.1 he] at h1; omega)
        · have j1 : ¬ (j : Int) < (L.length : Int) := by omega
          have hjl : j = L.length := by omega
          subst hjl
          have HN := hid (And.intro hn hm)
          clear hn hv hm
          go_wp2_with fail
          go_ret
          exact ⟨by rw [HS.out]; rfl, by rw [HS.out]; exact HN.out.1, HN.out.2⟩
end Go.Proofs.Ytbjgjagbepopfaa
