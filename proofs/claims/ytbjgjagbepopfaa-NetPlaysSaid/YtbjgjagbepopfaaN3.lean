/-
  A net, walked: is, among, put, free. No statement of a claim stands here; each contract names what it asks.
-/
import Derived.Test.YtbjgjagbepopfaaN2
set_option linter.unusedSimpArgs false
namespace Go.Proofs.Ytbjgjagbepopfaa
open Go Go.RowKit Go.ChangeMaps

abbrev nat (n : Nat) : Value := .int .i64 (n : Int)

set_option maxRecDepth 50000 in
theorem is_net (w : World) (b c : Nat) (hc : w.cell? ⟨b, 6, none⟩ = some (.map (some c))) :
    Calls Try.prog 37 #[.pointer (some ⟨b, 0, none⟩)] w fun e w' => e = .returned (.bool true) ∧ w' = w := by
  have hq := wmap_some c
  go_enter Try.func37, Try.ntmps37
  go_wp2
  go_ret
  exact ⟨rfl, rfl⟩
set_option maxRecDepth 50000 in
theorem is_zero (w : World) (b : Nat) (hc : w.cell? ⟨b, 6, none⟩ = some (.map none)) :
    Calls Try.prog 37 #[.pointer (some ⟨b, 0, none⟩)] w fun e w' => e = .returned (.bool false) ∧ w' = w := by
  have hq := wmap_nil
  go_enter Try.func37, Try.ntmps37
  go_wp2
  go_ret
  exact ⟨rfl, rfl⟩
set_option maxRecDepth 50000 in
theorem is_nil (w : World) :
    Calls Try.prog 37 #[.pointer none] w fun e w' => e = .returned (.bool false) ∧ w' = w := by
  go_enter Try.func37, Try.ntmps37
  go_wp2
  go_ret
  exact ⟨rfl, rfl⟩

/-- Whether all are parties, as the answer. -/
def amongN (P : Int) (l : List Int) : Int := if ∀ k ∈ l, 1 ≤ k ∧ k ≤ P then 0 else 2
theorem amongN_out {P x : Int} {l : List Int} (h : ¬ (1 ≤ x ∧ x ≤ P)) : amongN P (x :: l) = 2 := by
  unfold amongN
  rw [if_neg (fun hh => h (hh x (.head _)))]
theorem amongN_in {P x : Int} {l : List Int} (h : 1 ≤ x ∧ x ≤ P) : amongN P (x :: l) = amongN P l := by
  unfold amongN
  by_cases hl : ∀ k ∈ l, 1 ≤ k ∧ k ≤ P
  · rw [if_pos hl, if_pos]
    intro k hk
    cases hk with
    | head => exact h
    | tail _ hk => exact hl k hk
  · rw [if_neg hl, if_neg (fun hh => hl fun k hk => hh k (.tail _ hk))]

set_option maxHeartbeats 1000000 in
theorem among_net (w : World) (b c : Nat) (P : Int) (g cap : Nat) (l : List Int) (hl : l.length ≤ 2) (h0 : w.cell? ⟨b, 0, none⟩ = some (.int .i64 P)) (h6 : w.cell? ⟨b, 6, none⟩ = some (.map (some c)))
    (hg : ∀ (i : Nat) (x : Int), l[i]? = some x → w.cell? ⟨g, i, none⟩ = some (.int .i64 x)) :
    Calls Try.prog 34 #[.pointer (some ⟨b, 0, none⟩), .slice (some ⟨g, 0, none⟩) l.length cap] w fun e w' => e = .returned (.int .i64 (amongN P l)) ∧ w' = w := by
  have HG := hid hg
  clear hg
  go_enter Try.func34, Try.ntmps34
  go_wp2_with (first
    | (go_at_call 37; refine (is_net w b c h6).mono ?_; rintro e w' ⟨rfl, rfl⟩))
  go_loopg [12] l.length (fun gk i W' => ∃ (j : Nat), i = nat j ∧ gk + j = l.length ∧ amongN P (l.drop j) = amongN P l ∧ W' = w')
  case atStart => exact ⟨0, rfl, by omega, rfl, rfl⟩
  case round =>
    obtain ⟨j, rfl, hj, hp, rfl⟩ := hrel
    by_cases hjn : j < l.length
    · obtain ⟨x, hx⟩ : ∃ x, l[j]? = some x := ⟨_, List.getElem?_eq_getElem hjn⟩
      have x0 := HG.out j x hx
      have hd : l.drop j = x :: l.drop (j + 1) := by rw [List.drop_eq_getElem_cons hjn]; rw [(List.getElem?_eq_some_iff.1 hx).2]
      rw [hd] at hp
      have j0 : (0 : Int) ≤ (j : Int) := Int.natCast_nonneg _
      have j1 : (j : Int) < (l.length : Int) := by omega
      have HP := hid hp
      clear hp hd hx
      by_cases k1 : x < 1
      · have hq : amongN P l = 2 := by
          rw [← HP.out]; exact amongN_out (by omega)
        have HQ := hid hq
        clear hq HP
        go_wp2_with fail
        go_ret
        exact ⟨by rw [HQ.out]; rfl, rfl⟩
      · by_cases k2 : P < x
        · have hq : amongN P l = 2 := by
            rw [← HP.out]; exact amongN_out (by omega)
          have HQ := hid hq
          clear hq HP
          go_wp2_with fail
          go_ret
          exact ⟨by rw [HQ.out]; rfl, rfl⟩
        · have hq : amongN P (l.drop (j + 1)) = amongN P l := by
            rw [← HP.out]; exact (amongN_in (by omega)).symm
          have HQ := hid hq
          clear hq HP
          go_wp2_with fail
          go_roundg (gk - 1)
          case measure => omega
          case rel => exact ⟨j + 1, by go_num, by omega, HQ.out, rfl⟩
    · have hd : l.drop j = [] := List.drop_eq_nil_of_le (by omega)
      have hq : amongN P l = 0 := by rw [← hp, hd]; simp [amongN]
      have j1 : ¬ (j : Int) < (l.length : Int) := by omega
      have HQ := hid hq
      clear hq hd hp
      go_wp2_with fail
      go_ret
      exact ⟨by rw [HQ.out]; rfl, rfl⟩

theorem among_zero (w : World) (b : Nat) (v : Value) (h6 : w.cell? ⟨b, 6, none⟩ = some (.map none)) :
    Calls Try.prog 34 #[.pointer (some ⟨b, 0, none⟩), v] w fun e w' => e = .returned (.int .i64 1) ∧ w' = w := by
  go_enter Try.func34, Try.ntmps34
  go_wp2_with (first
    | (go_at_call 37; refine (is_zero w b h6).mono ?_; rintro e w' ⟨rfl, rfl⟩))
  go_ret
  exact ⟨rfl, rfl⟩
theorem among_nil (w : World) (v : Value) :
    Calls Try.prog 34 #[.pointer none, v] w fun e w' => e = .returned (.int .i64 1) ∧ w' = w := by
  go_enter Try.func34, Try.ntmps34
  go_wp2_with (first
    | (go_at_call 37; refine (is_nil w).mono ?_; rintro e w' ⟨rfl, rfl⟩))
  go_ret
  exact ⟨rfl, rfl⟩

end Go.Proofs.Ytbjgjagbepopfaa
