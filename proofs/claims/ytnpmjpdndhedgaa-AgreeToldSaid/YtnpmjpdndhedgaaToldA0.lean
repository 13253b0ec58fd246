/-
  AgreeTold, walked. No statement of a claim stands here; each contract names what it asks.
-/
import Derived.Test.YtnpmjpdndhedgaaSame0
import Derived.Deep.DeepCutAuto
set_option linter.unusedSimpArgs false
namespace Go.Proofs.Ytnpmjpdndhedgaa
open Go Go.RowKit Go.ChangeMaps

/-- 'was', after j inputs. -/
def wasA (l : List ByteArray) (v : ByteArray) (j : Nat) : Bool := (decide (l.length = 0) && decide (v = ⟨#[105]⟩)) || (l.take j).any (wasF v)
theorem wasA_all (l : List ByteArray) (v : ByteArray) (j : Nat) (hj : l.length ≤ j) : wasA l v j = wasS l v := by
  unfold wasA wasS
  rw [List.take_of_length_le hj]
theorem wasA_succ (l : List ByteArray) (v x : ByteArray) (j : Nat) (hj : l[j]? = some x) : wasA l v (j + 1) = (wasA l v j || wasF v x) := by
  unfold wasA
  rw [List.take_add_one, hj]
  simp [Bool.or_assoc]
theorem str_dec (v u : ByteArray) : (v.toList == u.toList) = decide (v = u) := chars_eq v u

set_option maxRecDepth 20000 in
set_option maxHeartbeats 2000000 in
theorem told_any (W : World) (t : Int) (ai : Option Addr) (ci : Nat) (ins : List ByteArray) (am : Option Addr) (cm : Nat) (moves : List MoveS) (hI : StrsAt W ai ins) (hci : ins.length ≤ ci) (_ : ci ≤ maxLen) (hai : ai = none → ci = 0) (hM : MovesAt W am moves) (hlm : moves.length ≤ maxLen) :
    Calls Try.prog 4 #[.int .i64 t, .slice ai ins.length ci, .slice am moves.length cm] W fun e W' => e = .returned (.bool true) ∧ Mod [] W W' := by
  have hr : 0 ≤ among t 2 ∧ among t 2 < 2 := ⟨Int.emod_nonneg _ (by omega), Int.emod_lt_of_pos _ (by omega)⟩
  obtain ⟨tn, htn⟩ : ∃ k : Nat, (k : Int) = among t 2 := ⟨(among t 2).toNat, by omega⟩
  have ht2 : tn ≤ 1 := by omega
  obtain ⟨m8, hm8⟩ : ∃ k : Nat, k = min ins.length 8 := ⟨_, rfl⟩
  have c1 : (if (8 : Int) < (ins.length : Int) then (8 : Int) else (ins.length : Int)) = (m8 : Int) := by split <;> omega
  have c2 : (if 8 < ins.length then (8 : Int) else (ins.length : Int)) = (m8 : Int) := by split <;> omega
  obtain ⟨is, his, hzs, hss, hys⟩ := info_parts infoStr
  have hsl := fun w => slice_hi (P := Try.prog) Try.underlying22 his ai ins.length ci m8 (by omega) hai w
  have hmade := made_eight W tn 0 m8 ai ci ins hI hm8 (by omega) (Nat.zero_le _)
  have htold := told_all tn (ins.take 8) (moves.take 200)
  have hI8 := hI.take 8
  have hl8 : (ins.take 8).length = m8 := by simp; omega
  have hm88 : m8 ≤ 8 := by omega
  generalize ins.take 8 = l8 at *
  obtain ⟨L, hL⟩ : ∃ L, L = madeL tn 0 l8 := ⟨_, rfl⟩
  rw [← hL] at hmade htold
  have hwin : WInv L := by rw [hL]; exact madeL_win tn 0 _ (Nat.zero_le _)
  have hok : LOk L := by rw [hL]; exact madeL_ok tn 0 _ (by omega) (Nat.zero_le _)
  have hfit : Fits L 7 := by rw [hL]; exact (madeL_fits tn 0 _ (by omega) (Nat.zero_le _)).le (by omega)
  have hsm := madeL_same tn 0 l8
  rw [← hL] at hsm
  have hplay := fun w1 w2 lw (h : LawAny w1 w2 lw L) (hm : Mod [] W w1) => play_any w1 w2 lw L am cm moves true h hok hfit (by omega) (hM.mod0 hm) hlm (by omega) (by omega)
  rw [(hwin.play true (moves.take 200)).1] at hplay
  have hwin2 := (hwin.play true (moves.take 200)).2
  have hok2 := playN_ok true (moves.take 200) hok
  have hfit2 : Fits (playN true (moves.take 200) L).2 207 := (playN_fits true (moves.take 200) hok hfit).le (by simp; omega)
  generalize (playN true (moves.take 200) L).2 = L2 at *
  have hfin := fun w1 w2 lw (h : LawAny w1 w2 lw L2) => finish_any w1 w2 lw L2 h hok2 hfit2 (by omega)
  have hwin3 := hwin2.finish 4000
  have hok3 := finishN_ok hok2 4000
  generalize finishN 4000 L2 = L3 at *
  have hag := fun w1 w2 lw (h : LawAny w1 w2 lw L3) => agree_any w1 w2 lw L3 h hok3
  rw [hwin3.agree] at hag
  have HTN := hid htn
  have HMADE := hid hmade
  have HPLAY := hid hplay
  have HFIN := hid hfin
  have HTOLD := hid htold
  have HOK := hid hok3
  have HAG := hid hag
  have HI8 := hid (And.intro hI8 hl8)
  clear htn hm8 hmade hL hok hfit hsm hplay hok2 hfit2 hfin hok3 hI hM htold hI8 hl8 hwin hwin2 hwin3 hag
  have hm80 : (0 : Int) ≤ (m8 : Int) := Int.natCast_nonneg _
  go_enter Try.func4, Try.ntmps4
  go_wp2_with (first
    | (go_at_call 8; refine (works_any W).mono ?_; rintro e w1 ⟨rfl, hm1⟩; have HW1 := hid hm1; clear hm1)
    | (go_at_call 9; refine (among_any _ _ _ (by omega) (by omega)).mono ?_; rintro e w' ⟨rfl, rfl⟩; rw [← HTN.out])
    | (go_at_call 10; refine (HMADE.out _ HW1.out).mono ?_; rintro e w2 ⟨lw, rfl, h2⟩; have H2 := hid (And.intro h2 HW1.out); clear h2)
    | (go_at_call 11; refine (HPLAY.out _ _ _ H2.out.1 H2.out.2).mono ?_; rintro e w3 ⟨rfl, h3⟩; have H3 := hid (And.intro h3 H2.out.2); clear h3)
    | (go_at_call 12; refine (HFIN.out _ _ _ H3.out.1).mono ?_; rintro e w4 ⟨rfl, h4⟩; have H4 := hid (And.intro h4 (And.intro H3.out.2 (H3.out.2.trans h4.old))); clear h4))
  go_loopg [8] (L3.good) (fun gk i W' => ∃ (j : Nat), i = nat j ∧ gk + j = L3.good ∧ LawAny w1 W' lw L3)
  case atStart => exact ⟨0, rfl, by omega, H4.out.1⟩
  case round =>
    obtain ⟨j, rfl, hj, hLA⟩ := hrel
    have HLA := hid hLA
    obtain ⟨vn, vt, vw, va, pl, hI⟩ := hLA
    have l2 : wr.cell? ⟨lw, 2, none⟩ = some (nat L3.good) := by rw [cell_at hI.law.cells]; rfl
    have hok := HOK.out
    have hg16 := hok.g2
    by_cases hjn : j < L3.good
    · have hlen : pl.length = L3.good := by rw [hI.law.len, hok.len]
      obtain ⟨nb, nc, rfl⟩ := hI.law.form (by omega)
      obtain ⟨p, hp⟩ : ∃ p, pl[j]? = some p := ⟨_, List.getElem?_eq_getElem (by omega)⟩
      obtain ⟨s, hs⟩ : ∃ s, L3.nodes[j]? = some s := ⟨_, List.getElem?_eq_getElem (by rw [hok.len]; omega)⟩
      have htold := HTOLD.out s (List.mem_of_getElem? hs)
      have n1 := hI.law.at hp
      have l3 : wr.cell? ⟨lw, 3, none⟩ = some (.slice (some ⟨nb, 0, none⟩) pl.length nc) := by rw [cell_at hI.law.cells]; rfl
      have hdec := decided_any wr p s (hI.law.node j p s hp hs) (hok.nodes s (List.mem_of_getElem? hs))
      have j0 : (0 : Int) ≤ (j : Int) := Int.natCast_nonneg _
      have j1 : (j : Int) < (pl.length : Int) := by omega
      have j2 : decide ((j : Int) < (L3.good : Int)) = true := decide_eq_true (by omega)
      generalize s.choice = v at *
      have hh : HLA.out = HLA.out := rfl
      clear hh
      cases hsd : s.done with
      | false =>
        rw [hsd] at hdec
        have HDEC := hid hdec
        clear hdec hI hp hs hok hlen htold hsd
        go_wp2_with (first
          | (go_at_call 14; refine HDEC.out.mono ?_; rintro e w3 ⟨rfl, hm3⟩; have HM3 := hid hm3; clear hm3))
        go_roundg (gk - 1)
        case measure => omega
        case rel => exact ⟨j + 1, by go_num, by omega, HLA.out.mod0 HM3.out⟩
      | true =>
        rw [hsd] at hdec
        have HDEC := hid hdec
        have HTO := hid (htold hsd)
        clear hdec hI hp hs hok hlen htold hsd
        obtain ⟨b0, hb0⟩ : ∃ b, b = wasA l8 v 0 := ⟨_, rfl⟩
        have HB0 := hid hb0
        clear hb0
        obtain ⟨z0, hz0⟩ : ∃ b, decide (m8 = 0) = b := ⟨_, rfl⟩
        obtain ⟨z1, hz1⟩ : ∃ b, decide (v = ⟨#[105]⟩) = b := ⟨_, rfl⟩
        have hb2 : Hid (b0 = (z0 && z1)) := hid (by rw [HB0.out]; unfold wasA; rw [HI8.out.2, hz0, hz1]; simp)
        have z0' : ((m8 : Int) == 0) = z0 := by rw [← hz0]; by_cases h : m8 = 0 <;> simp [h]
        have z0'' : (m8 == 0) = z0 := by rw [← hz0]; by_cases h : m8 = 0 <;> simp [h]
        have z1' : (v.toList == (⟨#[105]⟩ : ByteArray).toList) = z1 := by rw [str_dec, hz1]
        have z1'' : (v.toList == [105]) = z1 := by
          rw [← z1', show (⟨#[105]⟩ : ByteArray).toList = [105] from by rw [ByteArray.toList_eq]]
        clear hz0 hz1
        go_upto_region 15 with (first
          | (go_at_call 14; refine HDEC.out.mono ?_; rintro e w3 ⟨rfl, hm3⟩; have HM3 := hid hm3; clear hm3))
        go_cut [11] (fun vv wx => vv = .bool b0 ∧ wx = w3)
        case first =>
          cases z0 with
          | false =>
            have hb : b0 = false := hb2.out
            have HB := hid hb
            clear hb
            go_wp2_with fail
            go_meet
            exact ⟨by rw [HB.out], rfl⟩
          | true =>
            have hb : b0 = z1 := hb2.out
            have HB := hid hb
            clear hb
            go_wp2_with fail
            go_meet
            exact ⟨by rw [HB.out], rfl⟩
        case rest =>
        obtain ⟨rfl, rfl⟩ := hcut
        clear z0' z0'' z1' z1'' hb2
        have HLB := hid (HLA.out.mod0 HM3.out)
        clear HM3
        obtain ⟨y1, hy1⟩ : ∃ b, decide (v = ⟨#[101]⟩) = b := ⟨_, rfl⟩
        have y1' : (v.toList == (⟨#[101]⟩ : ByteArray).toList) = y1 := by rw [str_dec, hy1]
        have y1'' : (v.toList == [101]) = y1 := by
          rw [← y1', show (⟨#[101]⟩ : ByteArray).toList = [101] from by rw [ByteArray.toList_eq]]
        have HY1 := hid hy1
        clear hy1
        have HTW := hid (show wasA l8 v m8 = true by rw [wasA_all l8 v m8 (by rw [HI8.out.2]; exact Nat.le_refl _)]; exact HTO.out)
        go_wp2_with fail
        go_loopg [11, 12] m8 (fun gk b i W' => ∃ (k : Nat) (bb : Bool), i = nat k ∧ b = .bool bb ∧ gk + k = m8 ∧ Hid (bb = wasA l8 v k) ∧ LawAny w1 W' lw L3)
        case atStart => exact ⟨0, b0, rfl, rfl, by omega, HB0, HLB.out⟩
        case round =>
          obtain ⟨k, bb, rfl, rfl, hk, HBB, hLC⟩ := hrel
          have HLC := hid hLC
          clear hLC
          by_cases hkm : k < m8
          · obtain ⟨x, hx⟩ : ∃ x, l8[k]? = some x := ⟨_, List.getElem?_eq_getElem (by rw [HI8.out.2]; exact hkm)⟩
            have hstr := HI8.out.1.mod0 (H4.out.2.1.trans HLC.out.old)
            obtain ⟨sb, so, rfl, hs1, hs2⟩ := hstr.cell k x hx
            have hsucc := wasA_succ l8 v x k hx
            have k0 : (0 : Int) ≤ (k : Int) := Int.natCast_nonneg _
            have k1 : (k : Int) < (m8 : Int) := by omega
            obtain ⟨cz, hcz⟩ : ∃ k : Nat, k = min x.size 50 := ⟨_, rfl⟩
            have cz1 : (if (50 : Int) < (x.size : Int) then (50 : Int) else (x.size : Int)) = (cz : Int) := by split <;> omega
            have cz2 : (if 50 < x.size then (50 : Int) else (x.size : Int)) = (cz : Int) := by split <;> omega
            have cz3 : cz ≤ x.size := by omega
            have cz4 : (0 : Int) ≤ (cz : Int) := Int.natCast_nonneg _
            unfold wasF at hsucc
            rw [← hcz] at hsucc
            obtain ⟨y, hy⟩ : ∃ y, y = x.extract 0 cz := ⟨_, rfl⟩
            rw [← hy] at hsucc
            have HSUCC := hid hsucc
            have HY := hid hy
            clear hsucc hy hcz hstr hx hs1
            go_upto_region 19 with fail
            go_quiet (fail)
            rw [← HY.out]
            generalize hW5 : World.drewN _ nq = W5
            have HLD := hid (show LawAny w1 W5 lw L3 by rw [← hW5]; exact HLC.out.mod0 ((Mod.refl _ _).drewN _))
            clear hW5 hs2 cz1 cz2 cz3 cz4
            obtain ⟨q1, hq1⟩ : ∃ b, decide (v = y) = b := ⟨_, rfl⟩
            obtain ⟨q3, hq3⟩ : ∃ b, decide (y = ⟨#[]⟩) = b := ⟨_, rfl⟩
            have q1' : (v.toList == y.toList) = q1 := by rw [str_dec, hq1]
            have hE : (⟨#[]⟩ : ByteArray).toList = [] := by rw [ByteArray.toList_eq]
            have q3' : (y.toList == []) = q3 := by
              rw [show ([] : List UInt8) = (⟨#[]⟩ : ByteArray).toList from hE.symm, str_dec]; exact hq3
            have q3'' : y.toList.isEmpty = q3 := by rw [← q3']; cases y.toList <;> rfl
            have hnew : wasA l8 v (k + 1) = (bb || (q1 || (y1 && q3))) := by rw [HSUCC.out, ← HBB.out, hq1, hq3, HY1.out]
            have HNEW := hid hnew
            clear hnew hq1 hq3 hE j0 j1 j2 l2 l3 n1 k0
            cases bb with
            | true =>
              go_wp2_with fail
              go_roundg (gk - 1)
              case measure => omega
              case rel => exact ⟨k + 1, true, by go_num, rfl, by omega, hid HNEW.out.symm, HLD.out⟩
            | false =>
              cases q1 with
              | true =>
                go_wp2_with fail
                go_roundg (gk - 1)
                case measure => omega
                case rel => exact ⟨k + 1, true, by go_num, rfl, by omega, hid HNEW.out.symm, HLD.out⟩
              | false =>
                cases y1 with
                | false =>
                  go_wp2_with fail
                  go_roundg (gk - 1)
                  case measure => omega
                  case rel => exact ⟨k + 1, false, by go_num, rfl, by omega, hid HNEW.out.symm, HLD.out⟩
                | true =>
                  cases q3 with
                  | false =>
                    go_wp2_with fail
                    go_roundg (gk - 1)
                    case measure => omega
                    case rel => exact ⟨k + 1, false, by go_num, rfl, by omega, hid HNEW.out.symm, HLD.out⟩
                  | true =>
                    go_wp2_with fail
                    go_roundg (gk - 1)
                    case measure => omega
                    case rel => exact ⟨k + 1, true, by go_num, rfl, by omega, hid HNEW.out.symm, HLD.out⟩
          · have hkm' : k = m8 := by omega
            subst hkm'
            have hb : bb = true := by rw [HBB.out]; exact HTW.out
            subst hb
            have k1 : decide ((k : Int) < (k : Int)) = false := decide_eq_false (by omega)
            go_wp2_with fail
            go_roundg (L3.good - (j + 1))
            case measure => omega
            case rel => exact ⟨j + 1, by go_num, by omega, HLC.out⟩
    · have j2 : decide ((j : Int) < (L3.good : Int)) = false := decide_eq_false (by omega)
      clear hI hok
      go_wp2_with (first
        | (go_at_call 13; refine (HAG.out _ _ _ HLA.out).mono ?_; rintro e w5 ⟨rfl, h5⟩; have H5 := hid h5; clear h5))
      go_ret
      exact ⟨rfl, H4.out.2.1.trans (HLA.out.old.trans H5.out)⟩
end Go.Proofs.Ytnpmjpdndhedgaa
