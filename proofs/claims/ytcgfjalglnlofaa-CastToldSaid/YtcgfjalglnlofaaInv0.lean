/-
  The plain side of reliable broadcast (Bracha): what taking a message does to a node, in pieces. No program is in sight here; no statement of a claim stands here.
-/
import Derived.Test.YtcgfjalglnlofaaCast0
set_option linter.unusedSimpArgs false
namespace Go.Proofs.Ytcgfjalglnlofaa
open Go

/-- What taking a message may be. -/
inductive Took (s : NodeS) (m : Msg) : NodeS → List Msg → Prop where
  | idle (h : mayBe s m = true → (m.kind = 1 → ¬ (m.from_ = s.dealer ∧ s.heard = false)) ∧ m.kind ≠ 2 ∧ m.kind ≠ 3) : Took s m s []
  | init0 (hb : mayBe s m = true) (k : m.kind = 1) (hd : m.from_ = s.dealer) (hh : s.heard = false) (he : s.ei = true) : Took s m { s with heard := true } []
  | init1 (hb : mayBe s m = true) (k : m.kind = 1) (hd : m.from_ = s.dealer) (hh : s.heard = false) (he : s.ei = false) : Took s m { s with heard := true, ev := m.val, ei := true } [⟨2, s.me, m.val⟩]
  | echo0 (hb : mayBe s m = true) (k : m.kind = 2) (hn : 2 * (addN s.E m.from_ m.val : Int) > s.n + s.t → s.ri = true) : Took s m { s with E := addL s.E m.from_ m.val } []
  | echo1 (hb : mayBe s m = true) (k : m.kind = 2) (hn : 2 * (addN s.E m.from_ m.val : Int) > s.n + s.t) (hr : s.ri = false) : Took s m { s with E := addL s.E m.from_ m.val, rv := m.val, ri := true } [⟨3, s.me, m.val⟩]
  | ready (hb : mayBe s m = true) (k : m.kind = 3) (s1 : NodeS) (h1 : s1 = { s with R := addL s.R m.from_ m.val, sv := s1.sv, si := s1.si })
      (hs : s1.sv = s.sv ∧ s1.si = s.si ∧ ((addN s.R m.from_ m.val : Int) > 2 * s.t → s.si = true) ∨ s.si = false ∧ s1.sv = m.val ∧ s1.si = true ∧ (addN s.R m.from_ m.val : Int) > 2 * s.t)
      (hn : (addN s.R m.from_ m.val : Int) > s.t ∨ (addN s.R m.from_ m.val : Int) > 2 * s.t → s.ri = true) : Took s m s1 []
  | ready1 (hb : mayBe s m = true) (k : m.kind = 3) (s1 : NodeS) (h1 : s1 = { s with R := addL s.R m.from_ m.val, sv := s1.sv, si := s1.si })
      (hs : s1.sv = s.sv ∧ s1.si = s.si ∧ ((addN s.R m.from_ m.val : Int) > 2 * s.t → s.si = true) ∨ s.si = false ∧ s1.sv = m.val ∧ s1.si = true ∧ (addN s.R m.from_ m.val : Int) > 2 * s.t)
      (hn : (addN s.R m.from_ m.val : Int) > s.t ∨ (addN s.R m.from_ m.val : Int) > 2 * s.t) (hr : s.ri = false) : Took s m { s1 with rv := m.val, ri := true } [⟨3, s.me, m.val⟩]

theorem took (s : NodeS) (m : Msg) : Took s m (takeS s m).1 (takeS s m).2 := by
  obtain ⟨n, t, me, dealer, E, R, began, heard, ev, ei, rv, ri, sv, si⟩ := s
  unfold takeS
  cases hb : mayBe ⟨n, t, me, dealer, E, R, began, heard, ev, ei, rv, ri, sv, si⟩ m with
  | false => simp only [Bool.false_eq_true, if_false]; exact .idle (fun h => by rw [hb] at h; cases h)
  | true =>
    simp only [if_true]
    by_cases k1 : m.kind = 1
    · rw [if_pos k1]
      by_cases hd : m.from_ = dealer ∧ heard = false
      · rw [if_pos hd]
        cases ei with
        | true => exact .init0 hb k1 hd.1 hd.2 rfl
        | false => exact .init1 hb k1 hd.1 hd.2 rfl
      · rw [if_neg hd]; exact .idle (fun _ => ⟨fun _ => hd, by omega, by omega⟩)
    · rw [if_neg k1]
      by_cases k2 : m.kind = 2
      · rw [if_pos k2]
        by_cases hn : 2 * (addN E m.from_ m.val : Int) > n + t
        · rw [if_pos hn]
          cases ri with
          | true => exact .echo0 hb k2 (fun _ => rfl)
          | false => exact .echo1 hb k2 hn rfl
        · rw [if_neg hn]; exact .echo0 hb k2 (fun h => absurd h hn)
      · rw [if_neg k2]
        by_cases k3 : m.kind = 3
        · rw [if_pos k3]
          by_cases hn : (addN R m.from_ m.val : Int) > 2 * t
          · rw [if_pos hn]
            cases ri with
            | true =>
              cases si with
              | true => exact .ready hb k3 _ rfl (.inl ⟨rfl, rfl, fun _ => rfl⟩) (fun _ => rfl)
              | false => exact .ready hb k3 _ rfl (.inr ⟨rfl, rfl, rfl, hn⟩) (fun _ => rfl)
            | false =>
              cases si with
              | true => exact .ready1 hb k3 ⟨n, t, me, dealer, E, addL R m.from_ m.val, began, heard, ev, ei, rv, false, sv, true⟩ rfl (.inl ⟨rfl, rfl, fun _ => rfl⟩) (.inr hn) rfl
              | false => exact .ready1 hb k3 ⟨n, t, me, dealer, E, addL R m.from_ m.val, began, heard, ev, ei, rv, false, m.val, true⟩ rfl (.inr ⟨rfl, rfl, rfl, hn⟩) (.inr hn) rfl
          · rw [if_neg hn]
            by_cases hn' : (addN R m.from_ m.val : Int) > t
            · rw [if_pos hn']
              cases ri with
              | true => exact .ready hb k3 _ rfl (.inl ⟨rfl, rfl, fun h => absurd h hn⟩) (fun _ => rfl)
              | false => exact .ready1 hb k3 ⟨n, t, me, dealer, E, addL R m.from_ m.val, began, heard, ev, ei, rv, false, sv, si⟩ rfl (.inl ⟨rfl, rfl, fun h => absurd h hn⟩) (.inl hn') rfl
            · rw [if_neg hn']
              exact .ready hb k3 _ rfl (.inl ⟨rfl, rfl, fun h => absurd h hn⟩) (fun h => absurd (h.resolve_right hn) hn')
        · rw [if_neg k3]; exact .idle (fun _ => ⟨fun h => absurd h k1, k2, k3⟩)
end Go.Proofs.Ytcgfjalglnlofaa
