/-
  The statements' world, walked further: agree, delivered, finish. No statement of a claim stands here; each contract names what it asks.
-/
import Derived.Test.YtcgfjalglnlofaaCast7
import Derived.Test.YtcgfjalglnlofaaCast4
set_option linter.unusedSimpArgs false
namespace Go.Proofs.Ytcgfjalglnlofaa
open Go Go.RowKit

theorem LawAt.form {W : World} {lw sb : Nat} {vn vt vw : Value} {bl : List Trip} {L : LawS} (h : LawAt W lw sb vn vt vw bl L) (hb : 0 < bl.length) : ∃ nb nc, vn = .slice (some ⟨nb, 0, none⟩) bl.length nc := by
  obtain ⟨nb, nc, _, e, _⟩ := row_form h.nodes (by rintro rfl; rcases h.nodes.2 with ⟨_, h0⟩ | ⟨g, cap, cur, h0, _⟩; omega; cases h0)
  exact ⟨nb, nc, e⟩
theorem LawAt.at {W : World} {lw sb nb nc : Nat} {vt vw : Value} {bl : List Trip} {L : LawS} (h : LawAt W lw sb (.slice (some ⟨nb, 0, none⟩) bl.length nc) vt vw bl L) {i : Nat} {p : Trip} (hp : bl[i]? = some p) :
    W.cell? ⟨nb, i, none⟩ = some (.pointer (some ⟨p.1, 0, none⟩)) := by
  have e : (bl.map fun p : Trip => Value.pointer (some ⟨p.1, 0, none⟩))[i]? = some (.pointer (some ⟨p.1, 0, none⟩)) := by simp [hp]
  have := h.nodes.cells (g := nb) rfl i _ e
  rwa [Addr.add_lit, Nat.zero_add] at this

/-- What 'agree' asks of the others from one on. -/
def agreeStep : ByteArray → Bool → List NodeS → Bool
  | _, _, [] => true
  | v, any, s :: r => if s.si && any && !(s.sv.toList == v.toList) then false else if s.si then agreeStep s.sv true r else agreeStep v any r
def agreeS (L : LawS) : Bool := agreeStep ByteArray.empty false (L.nodes.drop L.bad)

set_option maxHeartbeats 1000000 in
theorem agree_any (W : World) (lw sb : Nat) (vn vt vw : Value) (bl : List Trip) (L : LawS) (h : LawAt W lw sb vn vt vw bl L) (hn : L.nodes.length = L.n) (hn1 : L.n ≤ 100) (hb : L.bad ≤ L.n) (hp : ∀ s ∈ L.nodes, 0 < s.n) (hn0 : 0 < L.n) :
    Calls Try.prog 15 #[.pointer (some ⟨lw, 0, none⟩)] W fun e W' => e = .returned (.bool (agreeS L)) ∧ Mod [] W W' := by
  obtain ⟨nb, nc, rfl⟩ := h.form (by rw [h.len]; omega)
  have hbl : bl.length = L.n := by rw [h.len, hn]
  have l0 : W.cell? ⟨lw, 0, none⟩ = some (nat L.n) := by rw [cell_at h.cells]; rfl
  have l2 : W.cell? ⟨lw, 2, none⟩ = some (nat L.bad) := by rw [cell_at h.cells]; rfl
  have HL := hid h
  have HN := hid hn
  have HP := hid hp
  have hbl1 : bl.length ≤ L.n := by omega
  have hbl2 : L.n ≤ bl.length := by omega
  clear h hn hp hbl
  go_enter Try.func15, Try.ntmps15
  go_wp2_with fail
  go_loopg [3, 4, 5] (L.n - L.bad) (fun gk v any k W' => ∃ (j : Nat) (u : ByteArray) (b : Bool), gk + j = L.n ∧ L.bad ≤ j ∧ v = .string u ∧ any = .bool b ∧ k = nat j ∧ agreeStep u b (L.nodes.drop j) = agreeS L ∧ Mod [] W W')
  case atStart => exact ⟨L.bad, ByteArray.empty, false, by omega, by omega, rfl, rfl, rfl, rfl, Mod.refl _ _⟩
  case round =>
    obtain ⟨j, u, b, hj, hj2, rfl, rfl, rfl, hag, hmod⟩ := hrel
    have hL' := HL.out.mod0 hmod
    have l0' : wr.cell? ⟨lw, 0, none⟩ = some (nat L.n) := by rw [cell_at hL'.cells]; rfl
    have l3' : wr.cell? ⟨lw, 3, none⟩ = some (.slice (some ⟨nb, 0, none⟩) bl.length nc) := by rw [cell_at hL'.cells]; rfl
    by_cases hjn : j < L.n
    · have hp' : bl[j]? = some bl[j] := List.getElem?_eq_getElem (by omega)
      have hs' : L.nodes[j]? = some (L.nodes[j]'(by rw [HN.out]; exact hjn)) := List.getElem?_eq_getElem _
      have n1 := hL'.at hp'
      have hnode := hL'.node j _ _ hp' hs'
      have hpos := HP.out _ (List.mem_of_getElem? hs')
      generalize L.nodes[j]'(by rw [HN.out]; exact hjn) = s at *
      have hdr : L.nodes.drop j = s :: L.nodes.drop (j + 1) := by rw [List.drop_eq_getElem_cons (by rw [HN.out]; exact hjn)]; rw [(List.getElem?_eq_some_iff.1 hs').2]
      rw [hdr, agreeStep] at hag
      have HV := hid (value_any wr _ _ _ s hnode hpos)
      have HAG := hid hag
      have HM := hid hmod
      have j0 : (0 : Int) ≤ (j : Int) := Int.natCast_nonneg _
      have j1 : (j : Int) < (bl.length : Int) := by omega
      clear hag hL' hdr hs' hp' hmod hnode hpos
      obtain ⟨sn, st, sme, sd, sE, sR, sb', sh, sev, sei, srv, sri, sv, si⟩ := s
      dsimp only at HV HAG
      cases si with
      | false =>
        have HAG' := hid (show agreeStep u b (L.nodes.drop (j + 1)) = agreeS L by have := HAG.out; simpa using this)
        clear HAG
        go_wp2_with (first | (go_at_call 18; refine HV.out.mono ?_; rintro e w' ⟨rfl, hm'⟩))
        go_roundg (gk - 1)
        case measure => omega
        case rel => exact ⟨j + 1, u, b, by omega, by omega, rfl, rfl, by go_num, HAG'.out, HM.out.trans hm'⟩
      | true =>
        cases b with
        | false =>
          have HAG' := hid (show agreeStep sv true (L.nodes.drop (j + 1)) = agreeS L by have := HAG.out; simpa using this)
          clear HAG
          go_wp2_with (first | (go_at_call 18; refine HV.out.mono ?_; rintro e w' ⟨rfl, hm'⟩))
          go_roundg (gk - 1)
          case measure => omega
          case rel => exact ⟨j + 1, sv, true, by omega, by omega, rfl, rfl, by go_num, HAG'.out, HM.out.trans hm'⟩
        | true =>
          cases hq : sv.toList == u.toList with
          | true =>
            have HAG' := hid (show agreeStep sv true (L.nodes.drop (j + 1)) = agreeS L by have := HAG.out; simpa [hq] using this)
            clear HAG
            go_wp2_with (first | (go_at_call 18; refine HV.out.mono ?_; rintro e w' ⟨rfl, hm'⟩))
            go_roundg (gk - 1)
            case measure => omega
            case rel => exact ⟨j + 1, sv, true, by omega, by omega, rfl, rfl, by go_num, HAG'.out, HM.out.trans hm'⟩
          | false =>
            have HAG' := hid (show false = agreeS L by have := HAG.out; simpa [hq] using this)
            clear HAG
            go_wp2_with (first | (go_at_call 18; refine HV.out.mono ?_; rintro e w' ⟨rfl, hm'⟩))
            go_ret
            exact ⟨by rw [← HAG'.out]; rfl, HM.out.trans hm'⟩
    · have hd : L.nodes.drop j = [] := List.drop_eq_nil_of_le (by rw [HN.out]; omega)
      rw [hd, agreeStep] at hag
      have HAG := hid hag
      have HM := hid hmod
      clear hag hd hmod
      go_wp2_with fail
      go_ret
      exact ⟨by rw [← HAG.out]; rfl, HM.out⟩

/-- How many of the others delivered. -/
def deliveredS (L : LawS) : Nat := (L.nodes.drop L.bad).countP (·.si)

set_option maxHeartbeats 1000000 in
theorem delivered_any (W : World) (lw sb : Nat) (vn vt vw : Value) (bl : List Trip) (L : LawS) (h : LawAt W lw sb vn vt vw bl L) (hn : L.nodes.length = L.n) (hn1 : L.n ≤ 100) (hb : L.bad ≤ L.n) (hp : ∀ s ∈ L.nodes, 0 < s.n) (hn0 : 0 < L.n) :
    Calls Try.prog 14 #[.pointer (some ⟨lw, 0, none⟩)] W fun e W' => e = .returned (nat (deliveredS L)) ∧ Mod [] W W' := by
  obtain ⟨nb, nc, rfl⟩ := h.form (by rw [h.len]; omega)
  have hbl : bl.length = L.n := by rw [h.len, hn]
  have l0 : W.cell? ⟨lw, 0, none⟩ = some (nat L.n) := by rw [cell_at h.cells]; rfl
  have l2 : W.cell? ⟨lw, 2, none⟩ = some (nat L.bad) := by rw [cell_at h.cells]; rfl
  have HL := hid h
  have HN := hid hn
  have HP := hid hp
  have hbl1 : bl.length ≤ L.n := by omega
  have hbl2 : L.n ≤ bl.length := by omega
  clear h hn hp hbl
  go_enter Try.func14, Try.ntmps14
  go_wp2_with fail
  go_loopg [3, 4] (L.n - L.bad) (fun gk c k W' => ∃ (j m : Nat), gk + j = L.n ∧ L.bad ≤ j ∧ c = nat m ∧ m ≤ j ∧ k = nat j ∧ m + (L.nodes.drop j).countP (·.si) = deliveredS L ∧ Mod [] W W')
  case atStart => exact ⟨L.bad, 0, by omega, by omega, rfl, by omega, rfl, by simp [deliveredS], Mod.refl _ _⟩
  case round =>
    obtain ⟨j, m, hj, hj2, rfl, hmj, rfl, hag, hmod⟩ := hrel
    have hL' := HL.out.mod0 hmod
    have l0' : wr.cell? ⟨lw, 0, none⟩ = some (nat L.n) := by rw [cell_at hL'.cells]; rfl
    have l3' : wr.cell? ⟨lw, 3, none⟩ = some (.slice (some ⟨nb, 0, none⟩) bl.length nc) := by rw [cell_at hL'.cells]; rfl
    by_cases hjn : j < L.n
    · have hp' : bl[j]? = some bl[j] := List.getElem?_eq_getElem (by omega)
      have hs' : L.nodes[j]? = some (L.nodes[j]'(by rw [HN.out]; exact hjn)) := List.getElem?_eq_getElem _
      have n1 := hL'.at hp'
      have hnode := hL'.node j _ _ hp' hs'
      have hpos := HP.out _ (List.mem_of_getElem? hs')
      generalize L.nodes[j]'(by rw [HN.out]; exact hjn) = s at *
      have hdr : L.nodes.drop j = s :: L.nodes.drop (j + 1) := by rw [List.drop_eq_getElem_cons (by rw [HN.out]; exact hjn)]; rw [(List.getElem?_eq_some_iff.1 hs').2]
      rw [hdr, List.countP_cons] at hag
      have HV := hid (value_any wr _ _ _ s hnode hpos)
      have HAG := hid hag
      have HM := hid hmod
      have j0 : (0 : Int) ≤ (j : Int) := Int.natCast_nonneg _
      have j1 : (j : Int) < (bl.length : Int) := by omega
      clear hag hL' hdr hs' hp' hmod hnode hpos
      obtain ⟨sn, st, sme, sd, sE, sR, sb', sh, sev, sei, srv, sri, sv, si⟩ := s
      dsimp only at HV HAG
      cases si with
      | false =>
        go_wp2_with (first | (go_at_call 18; refine HV.out.mono ?_; rintro e w' ⟨rfl, hm'⟩))
        go_roundg (gk - 1)
        case measure => omega
        case rel => exact ⟨j + 1, m, by omega, by omega, rfl, by omega, by go_num, by have := HAG.out; simpa using this, HM.out.trans hm'⟩
      | true =>
        go_wp2_with (first | (go_at_call 18; refine HV.out.mono ?_; rintro e w' ⟨rfl, hm'⟩))
        go_roundg (gk - 1)
        case measure => omega
        case rel => exact ⟨j + 1, m + 1, by omega, by omega, by go_num, by omega, by go_num, by have := HAG.out; simp at this; omega, HM.out.trans hm'⟩
    · have hd : L.nodes.drop j = [] := List.drop_eq_nil_of_le (by rw [HN.out]; omega)
      rw [hd] at hag
      simp only [List.countP_nil, Nat.add_zero] at hag
      have HAG := hid hag
      have HM := hid hmod
      clear hag hd hmod
      go_wp2_with fail
      go_ret
      exact ⟨by rw [← HAG.out]; rfl, HM.out⟩
end Go.Proofs.Ytcgfjalglnlofaa
