/-
  AgreeEnds, walked. No statement of a claim stands here; each contract names what it asks.
-/
import Derived.Test.YtnpmjpdndhedgaaSame0
set_option linter.unusedSimpArgs false
namespace Go.Proofs.Ytnpmjpdndhedgaa
open Go Go.RowKit Go.ChangeMaps

/-- The first input, cut. -/
def firstS (l : List ByteArray) : ByteArray := (l.getD (1 % l.length) ⟨#[]⟩).extract 0 (min (l.getD (1 % l.length) ⟨#[]⟩).size 50)
theorem want_eq (l : List ByteArray) : inpS l 1 = if 0 < l.length then inp1 (firstS l) else ⟨#[105]⟩ := by
  by_cases h : 0 < l.length
  · rw [if_pos h]
    have e : inp0 l 1 = l.getD (1 % l.length) ⟨#[]⟩ := by unfold inp0; rw [if_pos h]
    unfold inpS firstS
    rw [e]
    generalize l.getD (1 % l.length) ⟨#[]⟩ = x
    by_cases hx : x = ⟨#[]⟩
    · subst hx; rfl
    · have := extract_ne hx 50 (by omega)
      unfold inp1
      rw [if_neg hx, if_neg this]
  · rw [if_neg h]
    have e : inp0 l 1 = ⟨#[105]⟩ := by unfold inp0; rw [if_neg h]
    unfold inpS
    rw [e]
    rfl

set_option maxHeartbeats 2000000 in
theorem ends_any (W : World) (t : Int) (ai : Option Addr) (ci : Nat) (ins : List ByteArray) (am : Option Addr) (cm : Nat) (moves : List MoveS) (hI : StrsAt W ai ins) (hci : ins.length ≤ ci) (_ : ci ≤ maxLen) (hai : ai = none → ci = 0) (hM : MovesAt W am moves) (hlm : moves.length ≤ maxLen) :
    Calls Try.prog 5 #[.int .i64 t, .slice ai ins.length ci, .slice am moves.length cm] W fun e W' => e = .returned (.bool true) ∧ Mod [] W W' := by
  have hr : 0 ≤ among t 3 ∧ among t 3 < 3 := ⟨Int.emod_nonneg _ (by omega), Int.emod_lt_of_pos _ (by omega)⟩
  obtain ⟨tn, htn⟩ : ∃ k : Nat, (k : Int) = among t 3 := ⟨(among t 3).toNat, by omega⟩
  have ht2 : tn ≤ 2 := by omega
  obtain ⟨m8, hm8⟩ : ∃ k : Nat, k = min ins.length 8 := ⟨_, rfl⟩
  have c1 : (if (8 : Int) < (ins.length : Int) then (8 : Int) else (ins.length : Int)) = (m8 : Int) := by split <;> omega
  have c2 : (if 8 < ins.length then (8 : Int) else (ins.length : Int)) = (m8 : Int) := by split <;> omega
  obtain ⟨is, his, hzs, hss, hys⟩ := info_parts infoStr
  have hsl := fun w => slice_hi (P := Try.prog) Try.underlying22 his ai ins.length ci m8 (by omega) hai w
  have hmade := made_eight W tn tn m8 ai ci ins hI hm8 ht2 (Nat.le_refl _)
  have hends := ends_all tn tn (ins.take 8) ht2 (Nat.le_refl _) (moves.take 200)
  have hI8 := hI.take 8
  have hl8 : (ins.take 8).length = m8 := by simp; omega
  have hwant := want_eq (ins.take 8)
  generalize ins.take 8 = l8 at *
  obtain ⟨L, hL⟩ : ∃ L, L = madeL tn tn l8 := ⟨_, rfl⟩
  rw [← hL] at hmade hends
  have hok : LOk L := by rw [hL]; exact madeL_ok tn tn _ ht2 (Nat.le_refl _)
  have hfit : Fits L 7 := by rw [hL]; exact (madeL_fits tn tn _ ht2 (Nat.le_refl _)).le (by omega)
  have hsm := madeL_same tn tn l8
  rw [← hL] at hsm
  have hplay := fun w1 w2 lw (h : LawAny w1 w2 lw L) (hm : Mod [] W w1) => play_any w1 w2 lw L am cm moves false h hok hfit (by omega) (hM.mod0 hm) hlm (by omega) (by omega)
  rw [hends.1] at hplay
  have hok2 := playN_ok false (moves.take 200) hok
  have hfit2 : Fits (playN false (moves.take 200) L).2 207 := (playN_fits false (moves.take 200) hok hfit).le (by simp; omega)
  generalize (playN false (moves.take 200) L).2 = L2 at *
  have hfin := fun w1 w2 lw (h : LawAny w1 w2 lw L2) => finish_any w1 w2 lw L2 h hok2 hfit2 (by omega)
  have hok3 := finishN_ok hok2 4000
  generalize finishN 4000 L2 = L3 at *
  obtain ⟨want, hwt⟩ : ∃ v, v = inpS l8 1 := ⟨_, rfl⟩
  rw [← hwt] at hends hwant
  have HTN := hid htn
  have HMADE := hid hmade
  have HPLAY := hid hplay
  have HFIN := hid hfin
  have HENDS := hid hends
  have HOK := hid hok3
  have HWANT := hid hwant
  have HI8 := hid (And.intro hI8 hl8)
  clear htn hm8 hmade hL hok hfit hsm hplay hok2 hfit2 hfin hok3 hI hM hends hwt hwant hI8 hl8
  have hm80 : (0 : Int) ≤ (m8 : Int) := Int.natCast_nonneg _
  go_enter Try.func5, Try.ntmps5
  go_upto_if 37 with (first
    | (go_at_call 8; refine (works_any W).mono ?_; rintro e w1 ⟨rfl, hm1⟩; have HW1 := hid hm1; clear hm1)
    | (go_at_call 9; refine (among_any _ _ _ (by omega) (by omega)).mono ?_; rintro e w' ⟨rfl, rfl⟩; rw [← HTN.out])
    | (go_at_call 10; refine (HMADE.out _ HW1.out).mono ?_; rintro e w2 ⟨lw, rfl, h2⟩; have H2 := hid (And.intro h2 HW1.out); clear h2)
    | (go_at_call 11; refine (HPLAY.out _ _ _ H2.out.1 H2.out.2).mono ?_; rintro e w3 ⟨rfl, h3⟩; have H3 := hid (And.intro h3 H2.out.2); clear h3)
    | (go_at_call 12; refine (HFIN.out _ _ _ H3.out.1).mono ?_; rintro e w4 ⟨rfl, h4⟩; have H4 := hid (And.intro h4 (And.intro H3.out.2 (H3.out.2.trans h4.old))); clear h4))
  have hstr := HI8.out.1.mod0 H4.out.2.2
  have HSTR := hid hstr
  clear hstr
  go_cut [8] (fun v wx => v = .string want ∧ wx = w4)
  case first =>
    by_cases hz : 0 < m8
    · have hlt : 1 % m8 < m8 := Nat.mod_lt _ hz
      obtain ⟨v, hv⟩ : ∃ v, l8[1 % m8]? = some v := ⟨_, List.getElem?_eq_getElem (by rw [HI8.out.2]; exact hlt)⟩
      obtain ⟨b, o, rfl, hb1, hb2⟩ := HSTR.out.cell _ _ hv
      have hr : (Int.tmod 1 (m8 : Int)) = ((1 % m8 : Nat) : Int) := by
        rw [Int.tmod_eq_emod_of_nonneg (by omega), Int.natCast_emod]; rfl
      have hfirst : firstS l8 = v.extract 0 (min v.size 50) := by
        unfold firstS
        rw [HI8.out.2, List.getD, hv]; rfl
      have hw : want = inp1 (firstS l8) := by rw [HWANT.out, HI8.out.2, if_pos hz]
      rw [hfirst] at hw
      obtain ⟨q, hq⟩ : ∃ q, q = 1 % m8 := ⟨_, rfl⟩
      rw [← hq] at hb2 hr hlt
      have q0 : (0 : Int) ≤ (q : Int) := Int.natCast_nonneg _
      have q1 : (q : Int) < (m8 : Int) := by omega
      have q2 : IntKind.i64.wrap (q : Int) = q := IntWalk.i64_in _ (by have := maxLen; omega)
      have d1 : decide (0 < m8) = true := decide_eq_true hz
      have d3 : decide ((0 : Int) < (m8 : Int)) = true := decide_eq_true (by omega)
      have d2 : ((m8 : Int) == 0) = false := by rw [beq_eq_false_iff_ne]; omega
      obtain ⟨cz, hcz⟩ : ∃ k : Nat, k = min v.size 50 := ⟨_, rfl⟩
      have cz1 : (if (50 : Int) < (v.size : Int) then (50 : Int) else (v.size : Int)) = (cz : Int) := by split <;> omega
      have cz2 : (if 50 < v.size then (50 : Int) else (v.size : Int)) = (cz : Int) := by split <;> omega
      have cz3 : cz ≤ v.size := by omega
      have cz4 : (0 : Int) ≤ (cz : Int) := Int.natCast_nonneg _
      rw [← hcz] at hw
      by_cases hy : v.extract 0 cz = ⟨#[]⟩
      · have hw2 : want = ⟨#[101]⟩ := by rw [hw]; unfold inp1; rw [if_pos hy]
        have e1 : (v.extract 0 cz).toList.isEmpty = true := by rw [(emp_iff _).2 hy]; rfl
        have e2 : ((v.extract 0 cz).toList == []) = true := by rw [(emp_iff _).2 hy]; rfl
        have HW := hid hw2
        clear hw hw2 hy hq hv hcz hfirst hlt
        go_wp2_with fail
        go_meet
        exact ⟨by rw [HW.out], rfl⟩
      · have hw2 : want = v.extract 0 cz := by rw [hw]; unfold inp1; rw [if_neg hy]
        obtain ⟨e1, e2⟩ := emp_false hy
        have HW := hid hw2
        clear hw hw2 hy hq hv hcz hfirst hlt
        go_wp2_with fail
        go_meet
        exact ⟨by rw [HW.out], rfl⟩
    · have d1 : decide (0 < m8) = false := decide_eq_false hz
      have d3 : decide ((0 : Int) < (m8 : Int)) = false := decide_eq_false (by omega)
      have hw : want = ⟨#[105]⟩ := by rw [HWANT.out, HI8.out.2, if_neg hz]
      have HW := hid hw
      clear hw
      go_wp2_with fail
      go_meet
      exact ⟨by rw [HW.out], rfl⟩
  case rest =>
  obtain ⟨rfl, rfl⟩ := hcut
  go_wp2_with fail
  go_loopg [9] (L3.good) (fun gk i W' => ∃ (j : Nat), i = nat j ∧ gk + j = L3.good ∧ LawAny w1 W' lw L3)
  case atStart => exact ⟨0, rfl, by omega, H4.out.1⟩
  case round =>
    obtain ⟨j, rfl, hj, hLA⟩ := hrel
    have HLA := hid hLA
    obtain ⟨vn, vt, vw, va, pl, hI⟩ := hLA
    have l2 : wr.cell? ⟨lw, 2, none⟩ = some (nat L3.good) := by rw [cell_at hI.law.cells]; rfl
    have hok := HOK.out
    have hg16 := hok.g2
    by_cases hjn : j < L3.good
    · have hall := HENDS.out.2.2
      have hlen : pl.length = L3.good := by rw [hI.law.len, hok.len]
      obtain ⟨nb, nc, rfl⟩ := hI.law.form (by omega)
      obtain ⟨p, hp⟩ : ∃ p, pl[j]? = some p := ⟨_, List.getElem?_eq_getElem (by omega)⟩
      obtain ⟨s, hs⟩ : ∃ s, L3.nodes[j]? = some s := ⟨_, List.getElem?_eq_getElem (by rw [hok.len]; omega)⟩
      have n1 := hI.law.at hp
      have l3 : wr.cell? ⟨lw, 3, none⟩ = some (.slice (some ⟨nb, 0, none⟩) pl.length nc) := by rw [cell_at hI.law.cells]; rfl
      have hdec := decided_any wr p s (hI.law.node j p s hp hs) (hok.nodes s (List.mem_of_getElem? hs))
      rw [(hall s (List.mem_of_getElem? hs)).1, (hall s (List.mem_of_getElem? hs)).2] at hdec
      have HDEC := hid hdec
      have j0 : (0 : Int) ≤ (j : Int) := Int.natCast_nonneg _
      have j1 : (j : Int) < (pl.length : Int) := by omega
      have j2 : decide ((j : Int) < (L3.good : Int)) = true := decide_eq_true (by omega)
      clear hdec hI hp hs hall hok hlen
      go_wp2_with (first
        | (go_at_call 14; refine HDEC.out.mono ?_; rintro e w3 ⟨rfl, hm3⟩; have HM3 := hid hm3; clear hm3))
      go_roundg (gk - 1)
      case measure => omega
      case rel => exact ⟨j + 1, by go_num, by omega, HLA.out.mod0 HM3.out⟩
    · have j2 : decide ((j : Int) < (L3.good : Int)) = false := decide_eq_false (by omega)
      have l5 : wr.cell? ⟨lw, 5, none⟩ = some vw := by rw [cell_at hI.law.cells]; rfl
      obtain ⟨a5, c5, rfl⟩ := row_slice hI.law.wait
      have hw0 : L3.wait.length = 0 := by rw [HENDS.out.2.1]; rfl
      rw [hw0] at l5
      clear hw0 hI hok
      go_wp2_with fail
      go_ret
      exact ⟨rfl, H4.out.2.1.trans HLA.out.old⟩
end Go.Proofs.Ytnpmjpdndhedgaa
