/-
  The statements' world, walked further: hand, finish, play over whatever property of it is kept (Closed). No statement of a claim stands here; each contract names what it asks.
-/
import Derived.Test.YtcgfjalglnlofaaCast8
set_option linter.unusedSimpArgs false
namespace Go.Proofs.Ytcgfjalglnlofaa
open Go Go.RowKit

/-- A property of the nodes that handing on, and what a corrupt node sends, keep; and what the walks need of it. -/
structure Closed (G : LawS → Prop) (mu : LawS → Nat) : Prop where
  n0 : ∀ L, G L → 0 < L.n
  n1 : ∀ L, G L → L.n ≤ 100
  b : ∀ L, G L → L.bad < L.n
  len : ∀ L, G L → L.nodes.length = L.n
  pos : ∀ L, G L → ∀ s ∈ L.nodes, 0 < s.n
  tw : ∀ L, G L → L.to.length = L.wait.length
  wl : ∀ L, G L → L.wait.length ≤ 1000
  tos : ∀ L, G L → ∀ k ∈ L.to, 1 ≤ k ∧ k ≤ L.n
  agree : ∀ L, G L → agreeS L = true
  ok : ∀ L, G L → ∀ (i : Nat) (s : NodeS) (m : Msg), L.nodes[i]? = some s → GiveOk L s m
  hand : ∀ (L : LawS) (k : Nat), G L → k < L.wait.length → G (handS L k) ∧ mu (handS L k) < mu L
  give : ∀ (L : LawS) (i : Nat) (m : Msg), G L → i < L.n - L.bad → 1 ≤ m.from_ → m.from_ ≤ (L.bad : Int) → m.val.size ≤ 50 → G (giveS L (L.bad + 1 + i) m)
  same : ∀ (L : LawS) (k : Nat), G L → (handS L k).n = L.n ∧ (handS L k).bad = L.bad

/-- From the world W0 on only the law's own blocks have changed, and what is new. -/
structure Reach (lw sb : Nat) (bl : List Trip) (W0 : World) (vt0 vw0 : Value) (W : World) (vt vw : Value) : Prop where
  mod : Mod (lw :: sb :: (vt0.ownBlock.toList ++ vw0.ownBlock.toList ++ tripBlocks bl)) W0 W
  t : ∀ k, vt.ownBlock = some k → vt0.ownBlock = some k ∨ W0.heap.size ≤ k
  w : ∀ k, vw.ownBlock = some k → vw0.ownBlock = some k ∨ W0.heap.size ≤ k

theorem Reach.refl (lw sb : Nat) (bl : List Trip) (W : World) (vt vw : Value) : Reach lw sb bl W vt vw W vt vw := ⟨Mod.refl _ _, fun _ h => .inl h, fun _ h => .inl h⟩
theorem Reach.step {lw sb : Nat} {bl : List Trip} {W0 W W' : World} {vt0 vw0 vt vw vt' vw' : Value} (h : Reach lw sb bl W0 vt0 vw0 W vt vw) (k : Reach lw sb bl W vt vw W' vt' vw') : Reach lw sb bl W0 vt0 vw0 W' vt' vw' := by
  refine ⟨h.mod.trans' k.mod (fun x hx => ?_), fun b hb => ?_, fun b hb => ?_⟩
  · simp only [List.mem_cons, List.mem_append, Option.mem_toList] at hx ⊢
    rcases hx with h1 | h1 | (h1 | h1) | h1
    · exact .inl (.inl h1)
    · exact .inl (.inr (.inl h1))
    · rcases h.t x h1 with h2 | h2
      · exact .inl (.inr (.inr (.inl (.inl h2))))
      · exact .inr h2
    · rcases h.w x h1 with h2 | h2
      · exact .inl (.inr (.inr (.inl (.inr h2))))
      · exact .inr h2
    · exact .inl (.inr (.inr (.inr h1)))
  · rcases k.t b hb with h1 | h1
    · exact h.t b h1
    · exact .inr (Nat.le_trans h.mod.size h1)
  · rcases k.w b hb with h1 | h1
    · exact h.w b h1
    · exact .inr (Nat.le_trans h.mod.size h1)
theorem Reach.mod0 {lw sb : Nat} {bl : List Trip} {W0 W W' : World} {vt0 vw0 vt vw : Value} (h : Reach lw sb bl W0 vt0 vw0 W vt vw) (m : Mod [] W W') : Reach lw sb bl W0 vt0 vw0 W' vt vw :=
  ⟨h.mod.trans' m (by simp), h.t, h.w⟩

def StepPost (G : LawS → Prop) (mu : LawS → Nat) (lw sb : Nat) (vn : Value) (bl : List Trip) (L : LawS) (W : World) (vt vw : Value) (e : Ending) (W' : World) : Prop :=
  e = .returned (.tuple #[]) ∧ ∃ L' vt' vw', LawAt W' lw sb vn vt' vw' bl L' ∧ G L' ∧ L'.n = L.n ∧ L'.bad = L.bad ∧ (L.wait ≠ [] → mu L' < mu L) ∧ Reach lw sb bl W vt vw W' vt' vw'

theorem hand_good {G : LawS → Prop} {mu : LawS → Nat} (C : Closed G mu) (W : World) (lw sb : Nat) (vn vt vw : Value) (bl : List Trip) (L : LawS) (at_ : Int) (h : LawAt W lw sb vn vt vw bl L) (g : G L) :
    Calls Try.prog 26 #[.pointer (some ⟨lw, 0, none⟩), .int .i64 at_] W (StepPost G mu lw sb vn bl L W vt vw) := by
  by_cases hw : L.wait = []
  · refine (hand_none W lw sb vn vt vw bl L at_ h hw).mono ?_
    rintro e W' ⟨rfl, rfl⟩
    exact ⟨rfl, L, vt, vw, h, g, rfl, rfl, fun h => absurd hw h, Reach.refl _ _ _ _ _ _⟩
  · have hl : 0 < L.wait.length := List.length_pos_iff.2 hw
    have hr : 0 ≤ among at_ L.wait.length ∧ among at_ L.wait.length < L.wait.length := ⟨Int.emod_nonneg _ (by omega), Int.emod_lt_of_pos _ (by omega)⟩
    obtain ⟨k, hk⟩ : ∃ k : Nat, (k : Int) = among at_ L.wait.length := ⟨(among at_ L.wait.length).toNat, by omega⟩
    have hkl : k < L.wait.length := by omega
    have htw := C.tw L g
    have hto : L.to[k]? = some (L.to[k]'(by omega)) := List.getElem?_eq_getElem _
    have hm : L.wait[k]? = some (L.wait[k]'hkl) := List.getElem?_eq_getElem _
    have hb := C.tos L g _ (List.mem_of_getElem? hto)
    have hs : L.nodes[L.to[k]'(by omega) - 1]? = some (L.nodes[L.to[k]'(by omega) - 1]'(by rw [C.len L g]; omega)) := List.getElem?_eq_getElem _
    have ok := C.ok L g _ _ (L.wait[k]'hkl) hs
    have ok' : GiveOk (cutS L k) _ (L.wait[k]'hkl) := ⟨ok.n0, ok.n1, ok.t0, ok.t1, ok.E, ok.R, ok.lE, ok.lR, ok.me0, ok.me1, ok.sent, ok.ln, ok.lb, by
      have := C.wl L g; simp only [cutS]; have := List.length_eraseIdx_le L.to k; omega, by have := C.wl L g; simp only [cutS]; have := List.length_eraseIdx_le L.wait k; omega, ok.nn⟩
    have hg := C.hand L k g hkl
    have hsame := C.same L k g
    refine (hand_some W lw sb vn vt vw bl L at_ h k _ _ _ hk hl htw (by have := C.wl L g; omega) hto hm hs hb.1 ok').mono ?_
    rintro e W' ⟨rfl, vt', vw', hL', hmod, ht', hw'⟩
    exact ⟨rfl, _, vt', vw', hL', hg.1, hsame.1, hsame.2, fun _ => hg.2, ⟨hmod, ht', hw'⟩⟩

set_option maxRecDepth 20000 in
set_option maxHeartbeats 1000000 in
theorem finish_good {G : LawS → Prop} {mu : LawS → Nat} (C : Closed G mu) (W : World) (lw sb : Nat) (vn vt vw : Value) (bl : List Trip) (L : LawS) (h : LawAt W lw sb vn vt vw bl L) (g : G L) (hmu : mu L ≤ 4000) :
    Calls Try.prog 13 #[.pointer (some ⟨lw, 0, none⟩)] W fun e W' => e = .returned (.tuple #[]) ∧ ∃ L' vt' vw', LawAt W' lw sb vn vt' vw' bl L' ∧ G L' ∧ L'.n = L.n ∧ L'.bad = L.bad ∧ L'.wait = [] ∧ Reach lw sb bl W vt vw W' vt' vw' := by
  have HL := hid h
  have HG := hid g
  obtain ⟨M, hM⟩ : ∃ M, M = mu L := ⟨_, rfl⟩
  rw [← hM] at hmu
  have HM := hid hM
  clear h g hM
  go_enter Try.func13, Try.ntmps13
  go_wp2_with fail
  go_loopg [2] M (fun gk i W' => ∃ (j : Nat) (L' : LawS) (vt' vw' : Value), i = nat j ∧ Hid (gk = mu L') ∧ j + gk ≤ M ∧ LawAt W' lw sb vn vt' vw' bl L' ∧ G L' ∧ L'.n = L.n ∧ L'.bad = L.bad ∧ Reach lw sb bl W vt vw W' vt' vw')
  case atStart => exact ⟨0, L, vt, vw, rfl, HM, by omega, HL.out, HG.out, rfl, rfl, Reach.refl _ _ _ _ _ _⟩
  case round =>
    obtain ⟨j, L', vt', vw', rfl, HGK, hj, hL', g', hn', hb', hr'⟩ := hrel
    have l5 : wr.cell? ⟨lw, 5, none⟩ = some vw' := by rw [cell_at hL'.cells]; rfl
    have hv : ∃ a c, vw' = .slice a L'.wait.length c := by
      rcases hL'.wait.2 with ⟨rfl, h0⟩ | ⟨g, cap, cur, rfl, _⟩
      · exact ⟨none, 0, by rw [h0]⟩
      · exact ⟨_, _, rfl⟩
    obtain ⟨a, c, rfl⟩ := hv
    have HJ := hid hj
    have hwl := C.wl L' g'
    have HL' := hid hL'
    have HG' := hid g'
    have HN' := hid (And.intro hn' hb')
    have HR' := hid hr'
    clear hL' g' hn' hb' hr'
    have j5 : decide ((j : Int) < 5000) = true := by rw [decide_eq_true_iff]; omega
    clear hmu hj hwl
    by_cases hw : L'.wait.length = 0
    · have d1 : decide (0 < L'.wait.length) = false := by rw [decide_eq_false_iff_not]; omega
      have HW := hid hw
      clear hw
      go_wp2_with fail
      go_end0
      exact ⟨rfl, L', vt', _, HL'.out, HG'.out, HN'.out.1, HN'.out.2, List.eq_nil_of_length_eq_zero HW.out, HR'.out⟩
    · have d1 : decide (0 < L'.wait.length) = true := by rw [decide_eq_true_iff]; omega
      have HW := hid hw
      clear hw
      go_wp2_with (first | (go_at_call 26; refine (hand_good C wr lw sb vn vt' _ bl L' 0 HL'.out HG'.out).mono ?_; rintro e w' ⟨rfl, L2, vt2, vw2, hL2, hG2, hn2, hb2, hmu2, hr2⟩))
      go_roundg (mu L2)
      case measure =>
        have := hmu2 (by intro h; exact HW.out (by rw [h]; rfl))
        have := HGK.out
        omega
      case rel =>
        have hj2 : j + 1 + mu L2 ≤ M := by
          have := hmu2 (by intro h; exact HW.out (by rw [h]; rfl))
          have := HGK.out
          have := HJ.out
          omega
        have jj : (j : Int) < 5000 := of_decide_eq_true j5
        have e1 : wrap64 ((j : Int) + 1) = ((j + 1 : Nat) : Int) := (IntWalk.wrap64_in _ (by omega)).trans (by omega)
        exact ⟨j + 1, L2, vt2, vw2, by rw [e1], hid rfl, hj2, hL2, hG2, by rw [hn2, HN'.out.1], by rw [hb2, HN'.out.2], HR'.out.step hr2⟩
end Go.Proofs.Ytcgfjalglnlofaa
