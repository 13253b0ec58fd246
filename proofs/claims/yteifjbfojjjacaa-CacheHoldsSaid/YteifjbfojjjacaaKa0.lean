/-
  A replay cache, walked: what tells which numbers may be. No statement of a claim stands here; each contract names what it asks.
-/
import Derived.Test.YteifjbfojjjacaaMap
import Derived.Test.YteifjbfojjjacaaRows
import Derived.Test.YteifjbfojjjacaaReg
import Derived.Deep.QuietTactic
import Derived.BigQuiet
import Derived.Deep.LoopGhost
import Derived.Deep.RegionHeld3
set_option linter.unusedSimpArgs false
namespace Go.Proofs.Yteifjbfojjjacaa
open Go Go.RowKit

def timeOk (n : Int) : Bool := decide (0 ≤ n) && decide (n ≤ 1099511627776)
def roomOk (n : Int) : Bool := decide (1 ≤ n) && decide (n ≤ 256)

theorem right_any (n : Int) (w : World) : Calls Try.prog 29 #[.int .i64 n] w fun e w' => e = .returned (.bool (roomOk n)) ∧ w = w' := by
  by_cases h1 : 1 ≤ n
  · have d1 : decide (1 ≤ n) = true := by simpa using h1
    go_enter Try.func29, Try.ntmps29
    go_wp2
    go_ret
    exact ⟨by simp [roomOk, h1], rfl⟩
  · have d1 : decide (1 ≤ n) = false := by simpa using h1
    go_enter Try.func29, Try.ntmps29
    go_wp2
    go_ret
    exact ⟨by simp [roomOk]; omega, rfl⟩

theorem out_any (n : Int) (w : World) : Calls Try.prog 45 #[.int .i64 n] w fun e w' => e = .returned (.bool (!timeOk n)) ∧ w' = w := by
  by_cases h1 : n < 0
  · have d1 : decide (n < 0) = true := by simpa using h1
    go_enter Try.func45, Try.ntmps45
    go_wp2
    go_ret
    exact ⟨by simp [timeOk]; omega, rfl⟩
  · have d1 : decide (n < 0) = false := by simpa using h1
    by_cases h2 : 1099511627776 < n
    · have d2 : decide (1099511627776 < n) = true := by simpa using h2
      go_enter Try.func45, Try.ntmps45
      go_wp2
      go_ret
      exact ⟨by simp [timeOk]; omega, rfl⟩
    · have d2 : decide (1099511627776 < n) = false := by simpa using h2
      go_enter Try.func45, Try.ntmps45
      go_wp2
      go_ret
      exact ⟨by simp [timeOk]; omega, rfl⟩

/-- The numbers, where the slice lies. -/
def IntsAt (w : World) (b : Nat) (l : List Int) : Prop := ∀ (i : Nat) (n : Int), l[i]? = some n → w.cell? ⟨b, i, none⟩ = some (.int .i64 n)

theorem idx_any (w : World) (b c : Nat) (l : List Int) (h : IntsAt w b l) (hl : l.length ≤ 100) :
    Calls Try.prog 49 #[.slice (some ⟨b, 0, none⟩) l.length c, .func (.func 45) #[] #[]] w fun e w' => (∃ k : Int, e = .returned (.int .i64 k) ∧ decide (0 ≤ k) = l.any fun n => !timeOk n) ∧ w' = w := by
  have H := hid h
  have HL := hid hl
  clear h hl
  go_enter Try.func49, Try.ntmps49
  go_wp2_with fail
  go_loopg [8] l.length (fun gk i W' => ∃ j : Nat, i = .int .i64 (j : Int) ∧ gk + j = l.length ∧ (∀ n ∈ l.take j, timeOk n = true) ∧ W' = w)
  case atStart => exact ⟨0, rfl, rfl, by simp, rfl⟩
  case round =>
    obtain ⟨j, rfl, hj, hall, rfl⟩ := hrel
    have HA := hid hall
    clear hall
    by_cases hjn : j < l.length
    · have hp : l[j]? = some l[j] := List.getElem?_eq_getElem hjn
      generalize hn : l[j] = n at hp
      have c0 := H.out j n hp
      have j0 : (0 : Int) ≤ (j : Int) := Int.natCast_nonneg _
      have j1 : (j : Int) < (l.length : Int) := by omega
      have d1 : decide ((j : Int) < (l.length : Int)) = true := by rw [decide_eq_true_eq]; omega
      have d2 : decide (j < l.length) = true := by rw [decide_eq_true_eq]; omega
      have hj100 : j < 100 := by have := HL.out; omega
      have HP := hid hp
      clear hp hn
      cases ht : timeOk n with
      | true =>
        have HT := hid ht
        clear ht
        go_wp2_with (first
          | (go_at_call 45; refine (out_any n wr).mono ?_; rw [HT.out]; rintro e w' ⟨rfl, rfl⟩; simp only [Bool.not_true]))
        go_roundg (gk - 1)
        case measure => omega
        case rel => exact ⟨j + 1, by go_num, by omega, fun x hx => by
          rw [List.take_add_one, HP.out] at hx
          rcases List.mem_append.1 hx with hx | hx
          · exact HA.out x hx
          · simp at hx; rw [hx]; exact HT.out, rfl⟩
      | false =>
        have HT := hid ht
        clear ht
        go_wp2_with (first
          | (go_at_call 45; refine (out_any n wr).mono ?_; rw [HT.out]; rintro e w' ⟨rfl, rfl⟩; simp only [Bool.not_false]))
        go_ret
        refine ⟨⟨(j : Int), rfl, ?_⟩, rfl⟩
        rw [decide_eq_true j0]
        exact (List.any_eq_true.2 ⟨n, List.mem_of_getElem? HP.out, by rw [HT.out]; rfl⟩).symm
    · have d1 : decide ((j : Int) < (l.length : Int)) = false := by rw [decide_eq_false_iff_not]; omega
      have d2 : decide (j < l.length) = false := by rw [decide_eq_false_iff_not]; omega
      go_wp2_with fail
      go_ret
      refine ⟨⟨-1, rfl, ?_⟩, rfl⟩
      rw [show decide ((0 : Int) ≤ -1) = false from rfl]
      symm
      rw [List.any_eq_false]
      intro x hx
      have := HA.out x (by rw [List.take_of_length_le (by omega)]; exact hx)
      simp [this]

theorem has_any (w : World) (b c : Nat) (l : List Int) (h : IntsAt w b l) (hl : l.length ≤ 100) :
    Calls Try.prog 44 #[.slice (some ⟨b, 0, none⟩) l.length c, .func (.func 45) #[] #[]] w fun e w' => e = .returned (.bool (l.any fun n => !timeOk n)) ∧ w' = w := by
  go_enter Try.func44, Try.ntmps44
  go_wp2_with (first | (go_at_call 49; refine (idx_any w b c l h hl).mono ?_; rintro e w' ⟨⟨k, rfl, hk⟩, rfl⟩))
  go_ret
  exact ⟨by rw [← hk]; rfl, rfl⟩

theorem times_any (w : World) (b c : Nat) (l : List Int) (h : IntsAt w b l) (hl : l.length ≤ 100) :
    Calls Try.prog 30 #[.slice (some ⟨b, 0, none⟩) l.length c] w fun e w' => e = .returned (.bool (l.all timeOk)) ∧ w' = w := by
  go_enter Try.func30, Try.ntmps30
  go_wp2_with (first | (go_at_call 44; refine (has_any w b c l h hl).mono ?_; rintro e w' ⟨rfl, rfl⟩))
  go_ret
  exact ⟨by simp [List.all_eq_not_any_not], rfl⟩
end Go.Proofs.Yteifjbfojjjacaa
