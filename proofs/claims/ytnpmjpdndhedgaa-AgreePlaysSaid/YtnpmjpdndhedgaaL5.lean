/-
  The statements' world: what steps keep; hand and finish over it. No statement of a claim stands here; each contract names what it asks.
-/
import Derived.Test.YtnpmjpdndhedgaaL4
set_option linter.unusedSimpArgs false
namespace Go.Proofs.Ytnpmjpdndhedgaa
open Go Go.RowKit Go.ChangeMaps

/-- What holds of the law's world all along. -/
structure LOk (L : LawS) : Prop where
  len : L.nodes.length = L.good
  g1 : 1 ≤ L.good
  g2 : L.good ≤ 16
  nodes : ∀ s ∈ L.nodes, NOk s
  dest : ∀ d ∈ L.dest, 1 ≤ d ∧ d ≤ L.good
  same : L.dest.length = L.wait.length
/-- How much waits, and was sent, after b steps. -/
def Fits (L : LawS) (b : Nat) : Prop := L.wait.length ≤ 48 * b ∧ L.all.length ≤ 3 * b
theorem Fits.le {L : LawS} {b c : Nat} (h : Fits L b) (hc : b ≤ c) : Fits L c := ⟨by have := h.1; omega, by have := h.2; omega⟩

theorem send1_ok {L : LawS} (h : LOk L) (m : Msg) : LOk (send1 L m) :=
  ⟨h.len, h.g1, h.g2, h.nodes, fun d hd => by
    simp only [send1, List.mem_append, List.mem_map, List.mem_range] at hd
    rcases hd with h1 | ⟨k, h1, rfl⟩
    · exact h.dest d h1
    · have : L.good = (send1 L m).good := rfl
      omega, by simp [send1, h.same]⟩
theorem sendS_ok {L : LawS} (h : LOk L) (l : List Msg) : LOk (sendS L l) := by
  induction l generalizing L with
  | nil => exact h
  | cons m l ih => exact ih (send1_ok h m)
theorem sendS_fits {L : LawS} {b : Nat} (h : Fits L b) (hg : L.good ≤ 16) (l : List Msg) (hl : l.length ≤ 3) : Fits (sendS L l) (b + 1) := by
  obtain ⟨-, -, -, -, -, h6, h7⟩ := sendS_same L l
  have : l.length * L.good ≤ 3 * 16 := Nat.mul_le_mul hl hg
  refine ⟨by rw [h6]; have := h.1; omega, by rw [h7, List.length_append]; have := h.2; omega⟩

theorem stepS_some {L : LawS} {i : Nat} {s : NodeS} (h : L.nodes[i]? = some s) (f : NodeS → NodeS × List Msg) : stepS L i f = sendS { L with nodes := L.nodes.set i (f s).1 } (f s).2 := by
  unfold stepS; rw [h]
theorem stepS_same (L : LawS) (i : Nat) (f : NodeS → NodeS × List Msg) : (stepS L i f).n = L.n ∧ (stepS L i f).t = L.t ∧ (stepS L i f).good = L.good := by
  unfold stepS
  split
  · obtain ⟨h1, h2, h3, -⟩ := sendS_same { L with nodes := L.nodes.set i (f _).1 } (f _).2
    exact ⟨h1, h2, h3⟩
  · exact ⟨rfl, rfl, rfl⟩
theorem stepS_ok {L : LawS} (h : LOk L) (i : Nat) (f : NodeS → NodeS × List Msg) (hf : ∀ s, NOk s → NOk (f s).1) : LOk (stepS L i f) := by
  unfold stepS
  split
  · rename_i s hs
    refine sendS_ok (L := { L with nodes := L.nodes.set i (f s).1 }) ⟨by simp [h.len], h.g1, h.g2, fun x hx => ?_, h.dest, h.same⟩ _
    rcases List.mem_or_eq_of_mem_set hx with h1 | rfl
    · exact h.nodes x h1
    · exact hf s (h.nodes s (List.mem_of_getElem? hs))
  · exact h
theorem stepS_fits {L : LawS} {b : Nat} (h : Fits L b) (hg : L.good ≤ 16) (i : Nat) (f : NodeS → NodeS × List Msg) (hf : ∀ s, (f s).2.length ≤ 3) : Fits (stepS L i f) (b + 1) := by
  unfold stepS
  split
  · rename_i s hs
    exact sendS_fits (L := { L with nodes := L.nodes.set i (f s).1 }) h hg _ (hf _)
  · exact h.le (by omega)
theorem cutS_ok {L : LawS} (h : LOk L) (k : Nat) : LOk (cutS L k) := ⟨h.len, h.g1, h.g2, h.nodes, fun d hd => h.dest d (List.mem_of_mem_eraseIdx hd), by simp only [cutS, List.length_eraseIdx, h.same]⟩
theorem cutS_fits {L : LawS} {b : Nat} (h : Fits L b) (k : Nat) : Fits (cutS L k) b := ⟨Nat.le_trans (List.length_eraseIdx_le _ _) h.1, h.2⟩
theorem takeS_ok {s : NodeS} (h : NOk s) (m : Msg) : NOk (takeS s m).1 := by
  unfold takeS
  split
  · exact h
  · rename_i h1
    have hm : mayS s m = true := by
      cases hh : mayS s m with
      | true => rfl
      | false => exact absurd (.inr hh) h1
    split
    · exact h
    · have := mayS_spec hm
      exact hereS_ok (actS_ok (addS_ok h hm) m _ this.2.2.1 (by omega))
theorem handS_ok {L : LawS} (h : LOk L) (k : Nat) : LOk (handS L k) := by
  unfold handS
  split
  · exact stepS_ok (cutS_ok h k) _ _ (fun s hs => takeS_ok hs _)
  · exact h
theorem handS_fits {L : LawS} {b : Nat} (h : Fits L b) (hg : L.good ≤ 16) (k : Nat) : Fits (handS L k) (b + 1) := by
  unfold handS
  split
  · exact stepS_fits (cutS_fits h k) hg _ _ (fun s => takeS_few s _)
  · exact h.le (by omega)
theorem handS_same (L : LawS) (k : Nat) : (handS L k).n = L.n ∧ (handS L k).t = L.t ∧ (handS L k).good = L.good := by
  unfold handS
  split
  · exact stepS_same (cutS L k) _ _
  · exact ⟨rfl, rfl, rfl⟩

/-- A message that waits is handed on, if one does. -/
def handA (L : LawS) (at_ : Int) : LawS := if L.wait = [] then L else handS L (among at_ L.wait.length).toNat

theorem hand_any (W0 W : World) (lw : Nat) (L : LawS) (at_ : Int) (h : LawAny W0 W lw L) (ok : LOk L) {b : Nat} (hf : Fits L b) (hb : b ≤ 20000) :
    Calls Try.prog 27 #[.pointer (some ⟨lw, 0, none⟩), .int .i64 at_] W fun e W' => e = .returned (.tuple #[]) ∧ LawAny W0 W' lw (handA L at_) := by
  obtain ⟨vn, vt, vw, va, pl, h⟩ := h
  unfold handA
  split
  · rename_i hw
    refine (hand_none W lw vn vt vw va pl L at_ h.law hw).mono ?_
    rintro e W' ⟨rfl, rfl⟩
    exact ⟨rfl, vn, vt, vw, va, pl, h⟩
  · rename_i hw
    have hl : 0 < L.wait.length := List.length_pos_iff.2 hw
    have hr : 0 ≤ among at_ L.wait.length ∧ among at_ L.wait.length < L.wait.length := ⟨Int.emod_nonneg _ (by omega), Int.emod_lt_of_pos _ (by omega)⟩
    obtain ⟨k, hk⟩ : ∃ k : Nat, (k : Int) = among at_ L.wait.length := ⟨(among at_ L.wait.length).toNat, by omega⟩
    have hkk : (among at_ L.wait.length).toNat = k := by omega
    rw [hkk]
    have hkl : k < L.wait.length := by omega
    have htw := ok.same
    have hto : L.dest[k]? = some (L.dest[k]'(by omega)) := List.getElem?_eq_getElem _
    have hm : L.wait[k]? = some (L.wait[k]'hkl) := List.getElem?_eq_getElem _
    have hd := ok.dest _ (List.mem_of_getElem? hto)
    have hs : L.nodes[L.dest[k]'(by omega) - 1]? = some (L.nodes[L.dest[k]'(by omega) - 1]'(by rw [ok.len]; omega)) := List.getElem?_eq_getElem _
    have h1 := hf.1
    have h2 := hf.2
    exact hand_some W0 W lw vn vt vw va pl L at_ h k _ _ _ hk hl htw (by omega) hto hm hs hd.1 (ok.nodes _ (List.mem_of_getElem? hs)) (by have := ok.g2; omega) (by omega) (by rw [ok.len]; have := ok.g2; omega)

def finishN : Nat → LawS → LawS
  | 0, L => L
  | k + 1, L => if L.wait = [] then L else finishN k (handS L 0)
theorem among_zero (n : Nat) : among 0 n = 0 := by
  show IntKind.u64.wrap 0 % (n : Int) = 0
  rw [show IntKind.u64.wrap 0 = 0 from by decide]
  exact Int.zero_emod _
theorem finishN_ok {L : LawS} (h : LOk L) (k : Nat) : LOk (finishN k L) := by
  induction k generalizing L with
  | zero => exact h
  | succ k ih =>
    unfold finishN
    split
    · exact h
    · exact ih (handS_ok h 0)

set_option maxRecDepth 20000 in
set_option maxHeartbeats 1000000 in
theorem finish_any (W0 W : World) (lw : Nat) (L : LawS) (h : LawAny W0 W lw L) (ok : LOk L) {b : Nat} (hf : Fits L b) (hb : b ≤ 15000) :
    Calls Try.prog 12 #[.pointer (some ⟨lw, 0, none⟩)] W fun e W' => e = .returned (.tuple #[]) ∧ LawAny W0 W' lw (finishN 4000 L) := by
  have H := hid (And.intro h (And.intro ok hf))
  clear h ok hf
  go_enter Try.func12, Try.ntmps12
  go_wp2_with fail
  go_loopg [2] 4000 (fun gk i W' => ∃ (j : Nat) (L' : LawS), i = nat j ∧ gk + j = 4000 ∧ finishN gk L' = finishN 4000 L ∧ LawAny W0 W' lw L' ∧ LOk L' ∧ Fits L' (b + j))
  case atStart => exact ⟨0, L, rfl, rfl, rfl, H.out.1, H.out.2.1, H.out.2.2⟩
  case round =>
    obtain ⟨j, L', rfl, hj, hfin, hLA, ok', hf'⟩ := hrel
    have HL' := hid (And.intro hLA (And.intro ok' (And.intro hf' hfin)))
    obtain ⟨vn, vt, vw, va, pl, hL'⟩ := hLA
    have l5 : wr.cell? ⟨lw, 5, none⟩ = some vw := by rw [cell_at hL'.law.cells]; rfl
    obtain ⟨a, c, rfl⟩ := row_slice hL'.law.wait
    clear hL' ok' hf' hfin
    by_cases hg : gk = 0
    · subst hg
      have hj : j = 4000 := by omega
      subst hj
      have hfin := HL'.out.2.2.2
      have HFIN := hid hfin
      clear hfin
      go_wp2_with fail
      go_end0
      have := HFIN.out
      exact ⟨rfl, by rw [← this]; exact HL'.out.1⟩
    · have j5 : decide ((j : Int) < 4000) = true := by rw [decide_eq_true_iff]; omega
      by_cases hw : L'.wait.length = 0
      · have d1 : decide (0 < L'.wait.length) = false := by rw [decide_eq_false_iff_not]; omega
        have hfin : finishN 4000 L = L' := by
          rw [← HL'.out.2.2.2]
          obtain ⟨g, rfl⟩ : ∃ g, gk = g + 1 := ⟨gk - 1, by omega⟩
          unfold finishN
          rw [if_pos (List.eq_nil_of_length_eq_zero hw)]
        have HFIN := hid hfin
        clear hw hfin
        go_wp2_with fail
        go_end0
        exact ⟨rfl, by rw [HFIN.out]; exact HL'.out.1⟩
      · have d1 : decide (0 < L'.wait.length) = true := by rw [decide_eq_true_iff]; omega
        have hne : L'.wait ≠ [] := fun h => hw (by rw [h]; rfl)
        have hA : handA L' 0 = handS L' 0 := by unfold handA; rw [if_neg hne, among_zero]; rfl
        have hhand := hand_any W0 wr lw L' 0 HL'.out.1 HL'.out.2.1 HL'.out.2.2.1 (by omega)
        rw [hA] at hhand
        have hfin : finishN (gk - 1) (handS L' 0) = finishN 4000 L := by
          rw [← HL'.out.2.2.2]
          obtain ⟨g, rfl⟩ : ∃ g, gk = g + 1 := ⟨gk - 1, by omega⟩
          conv => rhs; unfold finishN
          rw [if_neg hne]; rfl
        have HH := hid hhand
        have HFIN := hid hfin
        clear hw hne hA hhand hfin
        go_wp2_with (first | (go_at_call 27; refine HH.out.mono ?_; rintro e w' ⟨rfl, hL2⟩))
        go_roundg (gk - 1)
        case measure => omega
        case rel =>
          exact ⟨j + 1, handS L' 0, rfl, by omega, HFIN.out, hL2, handS_ok HL'.out.2.1 0, handS_fits HL'.out.2.2.1 HL'.out.2.1.g2 0⟩
end Go.Proofs.Ytnpmjpdndhedgaa
