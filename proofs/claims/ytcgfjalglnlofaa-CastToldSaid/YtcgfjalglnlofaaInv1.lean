/-
  The plain side of reliable broadcast: what taking a message does, put together (Step). No program is in sight here; no statement of a claim stands here.
-/
import Derived.Test.YtcgfjalglnlofaaInv0
set_option linter.unusedSimpArgs false
namespace Go.Proofs.Ytcgfjalglnlofaa
open Go

structure Step (s : NodeS) (m : Msg) (s' : NodeS) (out : List Msg) : Prop where
  same : s'.n = s.n ∧ s'.t = s.t ∧ s'.me = s.me ∧ s'.dealer = s.dealer
  E : s'.E = s.E ∨ (m.kind = 2 ∧ mayBe s m = true ∧ s'.E = addL s.E m.from_ m.val)
  R : s'.R = s.R ∨ (m.kind = 3 ∧ mayBe s m = true ∧ s'.R = addL s.R m.from_ m.val)
  E2 : mayBe s m = true → m.kind = 2 → s'.E = addL s.E m.from_ m.val
  R2 : mayBe s m = true → m.kind = 3 → s'.R = addL s.R m.from_ m.val
  ev : s.ei = true → s'.ei = true ∧ s'.ev = s.ev
  rv : s.ri = true → s'.ri = true ∧ s'.rv = s.rv
  sv : s.si = true → s'.si = true ∧ s'.sv = s.sv
  heard : s.heard = true → s'.heard = true
  heard1 : mayBe s m = true → m.kind = 1 → m.from_ = s.dealer → s'.heard = true
  heard2 : s'.heard = true → s.heard = true ∨ s'.ei = true
  newS : s'.si = true → s.si = true ∨ ((addN s.R m.from_ m.val : Int) > 2 * s.t ∧ s'.sv = m.val ∧ s'.R = addL s.R m.from_ m.val)
  thrE : mayBe s m = true → m.kind = 2 → 2 * (addN s.E m.from_ m.val : Int) > s.n + s.t → s'.ri = true
  thrR : mayBe s m = true → m.kind = 3 → (addN s.R m.from_ m.val : Int) > s.t → s'.ri = true
  thrS : mayBe s m = true → m.kind = 3 → (addN s.R m.from_ m.val : Int) > 2 * s.t → s'.si = true
  out : (out = [] ∧ s'.ei = s.ei ∧ s'.ri = s.ri) ∨
    (out = [⟨2, s.me, s'.ev⟩] ∧ s.ei = false ∧ s'.ei = true ∧ s'.ri = s.ri ∧ m.kind = 1 ∧ mayBe s m = true ∧ m.from_ = s.dealer ∧ s'.ev = m.val) ∨
    (out = [⟨3, s.me, s'.rv⟩] ∧ s.ri = false ∧ s'.ri = true ∧ s'.ei = s.ei ∧ mayBe s m = true ∧ s'.rv = m.val ∧
      (m.kind = 2 ∧ 2 * (addN s.E m.from_ m.val : Int) > s.n + s.t ∨ m.kind = 3 ∧ (addN s.R m.from_ m.val : Int) > s.t))

theorem step (s : NodeS) (m : Msg) (ht : 0 ≤ s.t) : Step s m (takeS s m).1 (takeS s m).2 := by
  generalize hs' : (takeS s m).1 = s'
  generalize ho : (takeS s m).2 = out
  have T := took s m
  rw [hs', ho] at T
  clear hs' ho
  obtain ⟨n, t, me, dealer, E, R, began, heard, ev, ei, rv, ri, sv, si⟩ := s
  cases T with
  | idle h =>
    refine ⟨⟨rfl, rfl, rfl, rfl⟩, .inl rfl, .inl rfl, fun hb k => absurd k (h hb).2.1, fun hb k => absurd k (h hb).2.2, fun h => ⟨h, rfl⟩, fun h => ⟨h, rfl⟩, fun h => ⟨h, rfl⟩, id, fun hb k hd => ?_, .inl, .inl, fun hb k => absurd k (h hb).2.1, fun hb k => absurd k (h hb).2.2, fun hb k => absurd k (h hb).2.2, .inl ⟨rfl, rfl, rfl⟩⟩
    have := (h hb).1 k
    cases heard with
    | true => rfl
    | false => exact absurd ⟨hd, rfl⟩ this
  | init0 hb k hd hh he =>
    refine ⟨⟨rfl, rfl, rfl, rfl⟩, .inl rfl, .inl rfl, fun _ k' => by omega, fun _ k' => by omega, fun h => ⟨h, rfl⟩, fun h => ⟨h, rfl⟩, fun h => ⟨h, rfl⟩, fun _ => rfl, fun _ _ _ => rfl, fun _ => .inr he, .inl, fun _ k' => by omega, fun _ k' => by omega, fun _ k' => by omega, .inl ⟨rfl, rfl, rfl⟩⟩
  | init1 hb k hd hh he =>
    refine ⟨⟨rfl, rfl, rfl, rfl⟩, .inl rfl, .inl rfl, fun _ k' => by omega, fun _ k' => by omega, fun h => ?_, fun h => ⟨h, rfl⟩, fun h => ⟨h, rfl⟩, fun _ => rfl, fun _ _ _ => rfl, fun _ => .inr rfl, .inl, fun _ k' => by omega, fun _ k' => by omega, fun _ k' => by omega, .inr (.inl ⟨rfl, he, rfl, rfl, k, hb, hd, rfl⟩)⟩
    rw [he] at h; cases h
  | echo0 hb k hn =>
    refine ⟨⟨rfl, rfl, rfl, rfl⟩, .inr ⟨k, hb, rfl⟩, .inl rfl, fun _ _ => rfl, fun _ k' => by omega, fun h => ⟨h, rfl⟩, fun h => ⟨h, rfl⟩, fun h => ⟨h, rfl⟩, id, fun _ k' => by omega, .inl, .inl, fun _ _ h => hn h, fun _ k' => by omega, fun _ k' => by omega, .inl ⟨rfl, rfl, rfl⟩⟩
  | echo1 hb k hn hr =>
    refine ⟨⟨rfl, rfl, rfl, rfl⟩, .inr ⟨k, hb, rfl⟩, .inl rfl, fun _ _ => rfl, fun _ k' => by omega, fun h => ⟨h, rfl⟩, fun h => ?_, fun h => ⟨h, rfl⟩, id, fun _ k' => by omega, .inl, .inl, fun _ _ h => rfl, fun _ k' => by omega, fun _ k' => by omega, .inr (.inr ⟨rfl, hr, rfl, rfl, hb, rfl, .inl ⟨k, hn⟩⟩)⟩
    rw [hr] at h; cases h
  | ready hb k s1 h1 hs hn =>
    obtain ⟨n', t', me', dealer', E', R', began', heard', ev', ei', rv', ri', sv', si'⟩ := s'
    simp only [NodeS.mk.injEq] at h1
    obtain ⟨rfl, rfl, rfl, rfl, rfl, rfl, rfl, rfl, rfl, rfl, rfl, rfl, -, -⟩ := h1
    dsimp only at hs hn ht
    refine ⟨⟨rfl, rfl, rfl, rfl⟩, .inl rfl, .inr ⟨k, hb, rfl⟩, fun _ k' => by omega, fun _ _ => rfl, fun h => ⟨h, rfl⟩, fun h => ⟨h, rfl⟩, fun h => ?_, id, fun _ k' => by omega, .inl, fun h => ?_, fun _ k' => by omega, fun _ _ h => hn (.inl h), fun _ _ h => ?_, .inl ⟨rfl, rfl, rfl⟩⟩
    · rcases hs with ⟨h1, h2, _⟩ | ⟨h1, _⟩
      · exact ⟨h2.trans h, h1⟩
      · rw [h1] at h; cases h
    · rcases hs with ⟨h1, h2, _⟩ | ⟨h1, h2, h3, h4⟩
      · exact .inl (h2.symm.trans h)
      · exact .inr ⟨h4, h2, rfl⟩
    · rcases hs with ⟨h1, h2, h3⟩ | ⟨h1, h2, h3, h4⟩
      · exact h2.trans (h3 h)
      · exact h3
  | ready1 hb k s1 h1 hs hn hr =>
    obtain ⟨n', t', me', dealer', E', R', began', heard', ev', ei', rv', ri', sv', si'⟩ := s1
    simp only [NodeS.mk.injEq] at h1
    obtain ⟨rfl, rfl, rfl, rfl, rfl, rfl, rfl, rfl, rfl, rfl, rfl, rfl, -, -⟩ := h1
    dsimp only at hs hn ht hr
    refine ⟨⟨rfl, rfl, rfl, rfl⟩, .inl rfl, .inr ⟨k, hb, rfl⟩, fun _ k' => by omega, fun _ _ => rfl, fun h => ⟨h, rfl⟩, fun h => ?_, fun h => ?_, id, fun _ k' => by omega, .inl, fun h => ?_, fun _ k' => by omega, fun _ _ h => rfl, fun _ _ h => ?_, .inr (.inr ⟨rfl, hr, rfl, rfl, hb, rfl, .inr ⟨k, ?_⟩⟩)⟩
    · dsimp only at h; rw [hr] at h; cases h
    · rcases hs with ⟨h1, h2, _⟩ | ⟨h1, _⟩
      · exact ⟨h2.trans h, h1⟩
      · dsimp only at h; rw [h1] at h; cases h
    · rcases hs with ⟨h1, h2, _⟩ | ⟨h1, h2, h3, h4⟩
      · exact .inl (h2.symm.trans h)
      · exact .inr ⟨h4, h2, rfl⟩
    · rcases hs with ⟨h1, h2, h3⟩ | ⟨h1, h2, h3, h4⟩
      · exact h2.trans (h3 h)
      · exact h3
    · dsimp only; omega
end Go.Proofs.Ytcgfjalglnlofaa
