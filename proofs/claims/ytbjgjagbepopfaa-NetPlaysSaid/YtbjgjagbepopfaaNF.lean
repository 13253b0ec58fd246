/-
  A net, walked: Cut. No statement of a claim stands here; each contract names what it asks.
-/
import Derived.Test.YtbjgjagbepopfaaNB
set_option linter.unusedSimpArgs false
namespace Go.Proofs.Ytbjgjagbepopfaa
open Go Go.RowKit Go.ChangeMaps

/-- What a call that hands back an errno leaves. -/
def ErrPost (w : World) (p : Loc) (r : NetS × Int) (e : Ending) (w' : World) : Prop :=
  e = .returned (.int .i64 r.2) ∧ NetAt w' p r.1 ∧ Mod p.foot w w'

theorem look_drop {α β : Type} [DecidableEq α] (l : List (α × β × Nat)) (k : α) : look (l.filter (fun e => decide (e.1 ≠ k))) k = none := by
  rw [look_none]
  intro e he
  simpa using (List.mem_filter.1 he).2


set_option maxRecDepth 20000 in
set_option maxHeartbeats 2000000 in
theorem cut_any (w : World) (p : Loc) (s : NetS) (a b : Int) (on : Bool) (h : NetAt w p s) (ho : s.Ok) :
    Calls Try.prog 19 #[.pointer (some ⟨p.x, 0, none⟩), .int .i64 a, .int .i64 b, .bool on] w (ErrPost w p (s.cutting (a, b) on)) := by
  have hm1 : Mod [] w (w.alloc (.cells #[.int .i64 a, .int .i64 b] 3)) := Mod.alloc (Mod.refl _ _) _
  have ham := among2 w p s a b h
  have H := hid (h.mod0 hm1)
  have HO := hid ho
  have HA := hid ham
  have HM := hid hm1
  clear h ho ham hm1
  cases hp : (s.party a && s.party b) with
  | false =>
    have hs : s.cutting (a, b) on = (s, 2) := by unfold NetS.cutting; dsimp only; rw [hp]; rfl
    have HS := hid hs
    rw [hp] at HA
    clear hs hp
    go_enter Try.func19, Try.ntmps19
    go_wp2_with (first | (go_at_call 34; refine HA.out.mono ?_; rintro e w' ⟨rfl, hw'⟩; subst hw'; simp only [Bool.false_eq_true, if_false, if_true]))
    go_ret
    exact ⟨by rw [HS.out]; rfl, by rw [HS.out]; exact H.out, HM.out.mono (by simp)⟩
  | true =>
    rw [hp] at HA
    have hs : s.cutting (a, b) on = if on then ({ s with cuts := s.cuts.filter (fun e => decide (e.1 ≠ (a, b))) ++ [((a, b), true, s.cc)], cc := s.cc + 1 }, 0) else ({ s with cuts := s.cuts.filter (fun e => decide (e.1 ≠ (a, b))) }, 0) := by unfold NetS.cutting; dsimp only; rw [hp]; rfl
    have HS := hid hs
    clear hs hp
    go_enter Try.func19, Try.ntmps19
    go_upto_region 4 with (first | (go_at_call 34; refine HA.out.mono ?_; rintro e w' ⟨rfl, hw'⟩; subst hw'; simp only [Bool.false_eq_true, if_false, if_true]))
    generalize (w.alloc (.cells #[.int .i64 a, .int .i64 b] 3)) = W1 at *
    obtain ⟨-, -, -, -, -, -, -, c7, -, -⟩ := H.out.all
    have hk := H.out.cuts
    go_upto_region 5 with (first
      | (at_delete; refine wpList_drop_at kSeat rfl _ _ _ _ _ rfl Try.underlying65 p.bc s.cc s.cuts (a, b) rfl rfl hk HO.out.cuts ?_; intro w3 hb3 hm3 hs3))
    have hn3 : NetAt w3 p { s with cuts := s.cuts.filter (fun e => decide (e.1 ≠ (a, b))) } := by
      have h2 := H.out
      exact ⟨hm3.get h2.cells (by simpa using h2.xne.2.1), hm3.get h2.way (by simpa using h2.wc), hb3, hm3.get h2.downs (by simpa using h2.cd.symm), h2.wc, h2.wd, h2.cd⟩
    have hm4 : Mod p.foot w w3 := (HM.out.mono (by simp)).trans (hm3.mono (fun x hx => .inl (by rw [List.mem_singleton.1 hx]; simp [Loc.foot])))
    have hlk := look_drop s.cuts (a, b)
    clear c7 hk hm3 hs3 hb3 HM H HA
    generalize hL : (s.cuts.filter (fun e => decide (e.1 ≠ (a, b)))) = L at *
    clear hL
    obtain ⟨-, -, -, -, -, -, -, c7, -, -⟩ := hn3.all
    have hk := hn3.cuts
    have H3 := hid (And.intro hn3 hm4)
    have HL := hid hlk
    clear hn3 hm4 hlk
    cases on with
    | true =>
      rw [if_pos rfl] at HS
      go_wp2_with (first
        | (at_mapUpdate; refine wpList_put_new kSeat rfl _ _ _ _ _ rfl Try.underlying65 p.bc s.cc L (a, b) true rfl rfl rfl hk HL.out ?_; intro w4 hb4 hm4 hs4))
      go_ret
      refine ⟨by rw [HS.out]; rfl, ?_, H3.out.2.trans (hm4.mono (fun x hx => .inl (by rw [List.mem_singleton.1 hx]; simp [Loc.foot])))⟩
      rw [HS.out]
      have h2 := H3.out.1
      exact ⟨hm4.get h2.cells (by simpa using h2.xne.2.1), hm4.get h2.way (by simpa using h2.wc), hb4, hm4.get h2.downs (by simpa using h2.cd.symm), h2.wc, h2.wd, h2.cd⟩
    | false =>
      rw [if_neg (by simp)] at HS
      go_wp2_with fail
      go_ret
      exact ⟨by rw [HS.out]; rfl, by rw [HS.out]; exact H3.out.1, H3.out.2⟩
end Go.Proofs.Ytbjgjagbepopfaa
