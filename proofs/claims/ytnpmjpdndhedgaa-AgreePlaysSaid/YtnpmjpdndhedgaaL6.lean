/-
  The statements' world, walked further: agree. No statement of a claim stands here; each contract names what it asks.
-/
import Derived.Test.YtnpmjpdndhedgaaL5
set_option linter.unusedSimpArgs false
namespace Go.Proofs.Ytnpmjpdndhedgaa
open Go Go.RowKit Go.ChangeMaps

theorem LawAt.form {W : World} {lw : Nat} {vn vt vw va : Value} {pl : List Loc} {L : LawS} (h : LawAt W lw vn vt vw va pl L) (hb : 0 < pl.length) : ∃ nb nc, vn = .slice (some ⟨nb, 0, none⟩) pl.length nc := by
  obtain ⟨nb, nc, _, e, _⟩ := row_form h.nodes (by rintro rfl; rcases h.nodes.2 with ⟨_, h0⟩ | ⟨g, cap, cur, h0, _⟩; omega; cases h0)
  exact ⟨nb, nc, e⟩
theorem LawAt.at {W : World} {lw nb nc : Nat} {vt vw va : Value} {pl : List Loc} {L : LawS} (h : LawAt W lw (.slice (some ⟨nb, 0, none⟩) pl.length nc) vt vw va pl L) {i : Nat} {p : Loc} (hp : pl[i]? = some p) :
    W.cell? ⟨nb, i, none⟩ = some (.pointer (some ⟨p.x, 0, none⟩)) := by
  have e : (pl.map fun p : Loc => Value.pointer (some ⟨p.x, 0, none⟩))[i]? = some (.pointer (some ⟨p.x, 0, none⟩)) := by simp [hp]
  have := h.nodes.cells (g := nb) rfl i _ e
  rwa [Addr.add_lit, Nat.zero_add] at this

/-- What 'agree' asks of the others from one on. -/
def agreeStep : ByteArray → Bool → List NodeS → Bool
  | _, _, [] => true
  | v, any, s :: r => if s.done && any && !(s.choice.toList == v.toList) then false else if s.done then agreeStep s.choice true r else agreeStep v any r
def agreeS (L : LawS) : Bool := agreeStep ByteArray.empty false L.nodes

set_option maxHeartbeats 1000000 in
theorem agree_any (W0 W : World) (lw : Nat) (L : LawS) (h : LawAny W0 W lw L) (ok : LOk L) :
    Calls Try.prog 13 #[.pointer (some ⟨lw, 0, none⟩)] W fun e W' => e = .returned (.bool (agreeS L)) ∧ Mod [] W W' := by
  obtain ⟨vn, vt, vw, va, pl, h0⟩ := h
  have h := h0.law
  have hg1 := ok.g1
  have hg2 := ok.g2
  have hn := ok.len
  obtain ⟨nb, nc, rfl⟩ := h.form (by rw [h.len]; omega)
  have hbl : pl.length = L.good := by rw [h.len, hn]
  have l2 : W.cell? ⟨lw, 2, none⟩ = some (nat L.good) := by rw [cell_at h.cells]; rfl
  have HL := hid h
  have HN := hid hn
  have HP := hid ok
  have hbl1 : pl.length ≤ L.good := by omega
  have hbl2 : L.good ≤ pl.length := by omega
  clear h h0 hn ok hbl
  go_enter Try.func13, Try.ntmps13
  go_wp2_with fail
  go_loopg [3, 4, 5] L.good (fun gk v any k W' => ∃ (j : Nat) (u : ByteArray) (b : Bool), gk + j = L.good ∧ v = .string u ∧ any = .bool b ∧ k = nat j ∧ agreeStep u b (L.nodes.drop j) = agreeS L ∧ Mod [] W W')
  case atStart => exact ⟨0, ByteArray.empty, false, by omega, rfl, rfl, rfl, rfl, Mod.refl _ _⟩
  case round =>
    obtain ⟨j, u, b, hj, rfl, rfl, rfl, hag, hmod⟩ := hrel
    have hL' := HL.out.mod0 hmod
    have l2' : wr.cell? ⟨lw, 2, none⟩ = some (nat L.good) := by rw [cell_at hL'.cells]; rfl
    have l3' : wr.cell? ⟨lw, 3, none⟩ = some (.slice (some ⟨nb, 0, none⟩) pl.length nc) := by rw [cell_at hL'.cells]; rfl
    by_cases hjn : j < L.good
    · have hp' : pl[j]? = some pl[j] := List.getElem?_eq_getElem (by omega)
      have hs' : L.nodes[j]? = some (L.nodes[j]'(by rw [HN.out]; exact hjn)) := List.getElem?_eq_getElem _
      have n1 := hL'.at hp'
      have hnode := hL'.node j _ _ hp' hs'
      have hok := HP.out.nodes _ (List.mem_of_getElem? hs')
      generalize L.nodes[j]'(by rw [HN.out]; exact hjn) = s at *
      have hdr : L.nodes.drop j = s :: L.nodes.drop (j + 1) := by rw [List.drop_eq_getElem_cons (by rw [HN.out]; exact hjn)]; rw [(List.getElem?_eq_some_iff.1 hs').2]
      rw [hdr, agreeStep] at hag
      have HV := hid (decided_any wr _ s hnode hok)
      have HAG := hid hag
      have HM := hid hmod
      have j0 : (0 : Int) ≤ (j : Int) := Int.natCast_nonneg _
      have j1 : (j : Int) < (pl.length : Int) := by omega
      clear hag hL' hdr hs' hp' hmod hnode hok
      obtain ⟨sn, st, sme, sin, srd, shd, slv, slr, sse, sv, si⟩ := s
      dsimp only at HV HAG
      cases si with
      | false =>
        have HAG' := hid (show agreeStep u b (L.nodes.drop (j + 1)) = agreeS L by have := HAG.out; simpa using this)
        clear HAG
        go_wp2_with (first | (go_at_call 14; refine HV.out.mono ?_; rintro e w' ⟨rfl, hm'⟩))
        go_roundg (gk - 1)
        case measure => omega
        case rel => exact ⟨j + 1, u, b, by omega, rfl, rfl, by go_num, HAG'.out, HM.out.trans hm'⟩
      | true =>
        cases b with
        | false =>
          have HAG' := hid (show agreeStep sv true (L.nodes.drop (j + 1)) = agreeS L by have := HAG.out; simpa using this)
          clear HAG
          go_wp2_with (first | (go_at_call 14; refine HV.out.mono ?_; rintro e w' ⟨rfl, hm'⟩))
          go_roundg (gk - 1)
          case measure => omega
          case rel => exact ⟨j + 1, sv, true, by omega, rfl, rfl, by go_num, HAG'.out, HM.out.trans hm'⟩
        | true =>
          cases hq : sv.toList == u.toList with
          | true =>
            have HAG' := hid (show agreeStep sv true (L.nodes.drop (j + 1)) = agreeS L by have := HAG.out; simpa [hq] using this)
            clear HAG
            go_wp2_with (first | (go_at_call 14; refine HV.out.mono ?_; rintro e w' ⟨rfl, hm'⟩))
            go_roundg (gk - 1)
            case measure => omega
            case rel => exact ⟨j + 1, sv, true, by omega, rfl, rfl, by go_num, HAG'.out, HM.out.trans hm'⟩
          | false =>
            have HAG' := hid (show false = agreeS L by have := HAG.out; simpa [hq] using this)
            clear HAG
            go_wp2_with (first | (go_at_call 14; refine HV.out.mono ?_; rintro e w' ⟨rfl, hm'⟩))
            go_ret
            exact ⟨by rw [← HAG'.out]; rfl, HM.out.trans hm'⟩
    · have hd : L.nodes.drop j = [] := List.drop_eq_nil_of_le (by rw [HN.out]; omega)
      rw [hd, agreeStep] at hag
      have HAG := hid hag
      have HM := hid hmod
      clear hag hd hmod
      go_wp2_with fail
      go_ret
      exact ⟨by rw [← HAG.out]; rfl, HM.out⟩
end Go.Proofs.Ytnpmjpdndhedgaa
