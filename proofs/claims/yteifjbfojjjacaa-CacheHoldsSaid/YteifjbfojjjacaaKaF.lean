/-
  A credential cache, walked: first, Len; Put where one goes. No statement of a claim stands here; each contract names what it asks.
-/
import Derived.Test.YteifjbfojjjacaaKaD
set_option linter.unusedSimpArgs false
namespace Go.Proofs.Yteifjbfojjjacaa
open Go Go.RowKit Go.ChangeMaps

def untilAt (l : Tks) (i : Nat) : Int := ((l[i]?).map fun p => p.2.until_).getD 0
def firstTo (l : Tks) : Nat → Nat
  | 0 => 0
  | j + 1 => if untilAt l j < untilAt l (firstTo l j) then j else firstTo l j
def firstS (l : Tks) : Nat := firstTo l l.length
theorem firstTo_le (l : Tks) : ∀ j : Nat, firstTo l (j + 1) ≤ j
  | 0 => by simp [firstTo]
  | j + 1 => by
    have ih := firstTo_le l j
    show (if untilAt l (j + 1) < untilAt l (firstTo l (j + 1)) then j + 1 else firstTo l (j + 1)) ≤ j + 1
    split <;> omega
theorem firstTo_lt {l : Tks} {j : Nat} (h : 0 < j) : firstTo l j < j := by
  obtain ⟨k, rfl⟩ : ∃ k, j = k + 1 := ⟨j - 1, by omega⟩
  have := firstTo_le l k
  omega
theorem firstTo_in {l : Tks} {j : Nat} (hl : 0 < l.length) (hj : j ≤ l.length) : firstTo l j < l.length := by
  rcases Nat.eq_zero_or_pos j with rfl | h
  · exact hl
  · exact Nat.lt_of_lt_of_le (firstTo_lt h) hj

set_option maxHeartbeats 800000 in
theorem first_any (w : World) (x : Nat) (room : Int) (l : Tks) (v : Value) (h : HeldAt w x v room l) (hlen : l.length ≤ 1000) (hl : 0 < l.length) :
    Calls Try.prog 36 #[.pointer (some ⟨x, 0, none⟩)] w fun e w' => e = .returned (.int .i64 (firstS l : Int)) ∧ Mod [] w w' := by
  obtain ⟨g, cc, rfl, -⟩ := row_pos h.row hl
  have c1 : w.cell? ⟨x, 1, none⟩ = some (.slice (some ⟨g, 0, none⟩) l.length cc) := cell_at h.cells 1
  have H := hid h
  have HL := hid hl
  have HLEN := hid hlen
  clear h hl hlen
  go_enter Try.func36, Try.ntmps36
  go_wp2_with fail
  go_loopg [3, 11] l.length (fun gk k i W' => ∃ j : Nat, i = .int .i64 (j : Int) ∧ k = .int .i64 (firstTo l j : Int) ∧ gk + j = l.length ∧ j ≤ l.length ∧ Mod [] w W')
  case atStart => exact ⟨0, rfl, rfl, rfl, Nat.zero_le _, Mod.refl _ _⟩
  case round =>
    obtain ⟨j, rfl, rfl, hj, hjl, hm⟩ := hrel
    by_cases hjn : j < l.length
    · have hk := firstTo_in HL.out hjl
      obtain ⟨⟨kv, t⟩, hp⟩ : ∃ p, l[j]? = some p := ⟨_, List.getElem?_eq_getElem hjn⟩
      obtain ⟨⟨kv2, t2⟩, hp2⟩ : ∃ p, l[firstTo l j]? = some p := ⟨_, List.getElem?_eq_getElem hk⟩
      have hu : untilAt l j = t.until_ := by simp only [untilAt, hp]; rfl
      have hu2 : untilAt l (firstTo l j) = t2.until_ := by simp only [untilAt, hp2]; rfl
      have hnext : firstTo l (j + 1) = if t.until_ < t2.until_ then j else firstTo l j := by simp only [firstTo, hu, hu2]
      obtain ⟨a, c, hkv⟩ := row_slice (H.out.keys _ (List.mem_of_getElem? hp))
      dsimp only at hkv
      subst hkv
      have hO := H.out.mod0 hm
      obtain ⟨g', c', hg, hcell⟩ := row_pos hO.row HL.out
      cases hg
      obtain ⟨client, service, key, from_, until_, renew, flags⟩ := t
      have ht := tk_at hp
      have e0 := hcell _ _ (ht 0 _ rfl)
      have e1 := hcell _ _ (ht 1 _ rfl)
      have e2 := hcell _ _ (ht 2 _ rfl)
      have e3 := hcell _ _ (ht 3 _ rfl)
      have e4 := hcell _ _ (ht 4 _ rfl)
      have e5 := hcell _ _ (ht 5 _ rfl)
      have e6 := hcell _ _ (ht 6 _ rfl)
      dsimp only at e0 e1 e2 e3 e4 e5 e6
      rw [Nat.add_zero] at e0
      have hmB : Mod [] wr (wr.alloc (.cells #[.string client, .string service, .slice a key.length c, .int .i64 from_, .int .i64 until_, .int .i64 renew, .int .i64 flags] 50)) := Mod.alloc (Mod.refl _ _) _
      have k4 := hmB.cell (hcell _ _ (tk_at hp2 4 _ rfl)) (by simp)
      have d1' := hmB.cell (cell_at hO.cells 1 : wr.cell? ⟨x, 1, none⟩ = some (.slice (some ⟨g, 0, none⟩) l.length cc)) (by simp)
      have HMB := hid hmB
      have HM := hid hm
      have HNX := hid hnext
      obtain ⟨kk, hkk⟩ : ∃ kk, kk = firstTo l j := ⟨_, rfl⟩
      rw [← hkk] at hk k4 HNX ⊢
      dsimp only at k4 HNX
      have j0 : (0 : Int) ≤ (j : Int) := Int.natCast_nonneg _
      have j1 : (j : Int) < (l.length : Int) := by omega
      have k0 : (0 : Int) ≤ (kk : Int) := Int.natCast_nonneg _
      have k1 : (kk : Int) < (l.length : Int) := by omega
      have d1 : decide ((j : Int) < (l.length : Int)) = true := by rw [decide_eq_true_eq]; omega
      have d2 : decide (j < l.length) = true := by rw [decide_eq_true_eq]; omega
      have hj1000 : j < 1000 := by have := HLEN.out; omega
      clear hcell ht hp hp2 hu hu2 hnext hkk hmB hm hO
      by_cases hlt : until_ < t2.until_
      · have d4 : decide (until_ < t2.until_) = true := by simpa using hlt
        have HLT := hid hlt
        clear hlt
        go_wp2_with fail
        go_quiet (fail)
        go_wp2_with fail
        go_roundg (gk - 1)
        case measure => omega
        case rel => exact ⟨j + 1, by go_num, by rw [HNX.out, if_pos HLT.out], by omega, by omega, (HM.out.trans HMB.out).drewN _⟩
      · have d4 : decide (until_ < t2.until_) = false := by simpa using hlt
        have HLT := hid hlt
        clear hlt
        go_wp2_with fail
        go_quiet (fail)
        go_wp2_with fail
        go_roundg (gk - 1)
        case measure => omega
        case rel => exact ⟨j + 1, by go_num, by rw [HNX.out, if_neg (by have := HLT.out; omega)], by omega, by omega, (HM.out.trans HMB.out).drewN _⟩
    · have d1 : decide ((j : Int) < (l.length : Int)) = false := by rw [decide_eq_false_iff_not]; omega
      have d2 : decide (j < l.length) = false := by rw [decide_eq_false_iff_not]; omega
      obtain rfl : j = l.length := by omega
      go_wp2_with fail
      go_ret
      exact ⟨rfl, hm⟩

theorem hlen_any (w : World) (x : Nat) (v : Value) (room : Int) (l : Tks) (h : HeldAt w x v room l) (hr : 0 < room) :
    Calls Try.prog 23 #[.pointer (some ⟨x, 0, none⟩)] w fun e w' => e = .returned (.int .i64 (l.length : Int)) ∧ w' = w := by
  obtain ⟨a, c, rfl⟩ := row_slice h.row
  have c0 : w.cell? ⟨x, 0, none⟩ = some (.int .i64 room) := cell_at h.cells 0
  have c1 : w.cell? ⟨x, 1, none⟩ = some (.slice a l.length c) := cell_at h.cells 1
  clear h
  go_enter Try.func23, Try.ntmps23
  go_wp2_with (first | (go_at_call 34; refine (his_some _ _ room hr c0).mono ?_; rintro e w' ⟨rfl, rfl⟩))
  go_ret
  exact ⟨rfl, rfl⟩
end Go.Proofs.Yteifjbfojjjacaa
