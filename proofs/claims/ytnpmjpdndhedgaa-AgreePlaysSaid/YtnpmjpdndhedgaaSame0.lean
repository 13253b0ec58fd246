/-
  AgreeSame, AgreeOnce, walked. No statement of a claim stands here; each contract names what it asks.
-/
import Derived.Test.YtnpmjpdndhedgaaLC
set_option linter.unusedSimpArgs false
namespace Go.Proofs.Ytnpmjpdndhedgaa
open Go Go.RowKit Go.ChangeMaps

theorem infoStr : (Try.prog.info? 9).map (fun i => (i.zero, i.size, i.bytes)) = some (some (.string ⟨#[]⟩), 1, 16) := by kernel_rfl

theorem StrsAt.take {W : World} {a : Option Addr} {l : List ByteArray} (h : StrsAt W a l) (k : Nat) : StrsAt W a (l.take k) :=
  ⟨fun i v hi => h.cell i v (by rw [List.getElem?_take] at hi; split at hi; exact hi; cases hi)⟩
theorem MovesAt.mod0 {W W' : World} {a : Option Addr} {l : List MoveS} (h : MovesAt W a l) (m : Mod [] W W') : MovesAt W' a l :=
  ⟨fun i v hi => by obtain ⟨b, o, h1, h2, h3⟩ := h.cell i v hi; exact ⟨b, o, h1, Nat.lt_of_lt_of_le h2 m.size, fun j u hu => m.cell (h3 j u hu) (by simp)⟩⟩
theorem LawAny.old {W0 W : World} {lw : Nat} {L : LawS} (h : LawAny W0 W lw L) : Mod [] W0 W := by
  obtain ⟨_, _, _, _, _, h⟩ := h
  exact h.old

/-- made, over inputs cut to eight. -/
theorem made_eight (W : World) (tn bad m8 : Nat) (ai : Option Addr) (ci : Nat) (ins : List ByteArray) (hI : StrsAt W ai ins) (hm8 : m8 = min ins.length 8) (ht : tn ≤ 2) (hb : bad ≤ tn) (w1 : World) (hm : Mod [] W w1) :
    Calls Try.prog 10 #[nat tn, nat bad, .slice ai m8 ci] w1 fun e W' => ∃ lw, e = .returned (.pointer (some ⟨lw, 0, none⟩)) ∧ LawAny w1 W' lw (madeL tn bad (ins.take 8)) := by
  have e : m8 = (ins.take 8).length := by simp; omega
  rw [e]
  exact made_law w1 tn bad ai ci (ins.take 8) ht hb ((hI.mod0 hm).take 8) (by simp; omega)

set_option maxHeartbeats 1000000 in
theorem same_any (W : World) (t : Int) (ai : Option Addr) (ci : Nat) (ins : List ByteArray) (am : Option Addr) (cm : Nat) (moves : List MoveS) (hI : StrsAt W ai ins) (hci : ins.length ≤ ci) (_ : ci ≤ maxLen) (hai : ai = none → ci = 0) (hM : MovesAt W am moves) (hlm : moves.length ≤ maxLen) :
    Calls Try.prog 3 #[.int .i64 t, .slice ai ins.length ci, .slice am moves.length cm] W fun e W' => e = .returned (.bool true) ∧ Mod [] W W' := by
  have hr : 0 ≤ among t 3 ∧ among t 3 < 3 := ⟨Int.emod_nonneg _ (by omega), Int.emod_lt_of_pos _ (by omega)⟩
  obtain ⟨tn, htn⟩ : ∃ k : Nat, (k : Int) = among t 3 := ⟨(among t 3).toNat, by omega⟩
  have ht2 : tn ≤ 2 := by omega
  obtain ⟨m8, hm8⟩ : ∃ k : Nat, k = min ins.length 8 := ⟨_, rfl⟩
  have c1 : (if (8 : Int) < (ins.length : Int) then (8 : Int) else (ins.length : Int)) = (m8 : Int) := by split <;> omega
  have c2 : (if 8 < ins.length then (8 : Int) else (ins.length : Int)) = (m8 : Int) := by split <;> omega
  obtain ⟨is, his, hzs, hss, hys⟩ := info_parts infoStr
  have hsl := fun w => slice_hi (P := Try.prog) Try.underlying22 his ai ins.length ci m8 (by omega) hai w
  have hmade := made_eight W tn tn m8 ai ci ins hI hm8 ht2 (Nat.le_refl _)
  obtain ⟨L, hL⟩ : ∃ L, L = madeL tn tn (ins.take 8) := ⟨_, rfl⟩
  rw [← hL] at hmade
  have hwin : WInv L := by rw [hL]; exact madeL_win tn tn _ (Nat.le_refl _)
  have hok : LOk L := by rw [hL]; exact madeL_ok tn tn _ ht2 (Nat.le_refl _)
  have hfit : Fits L 7 := by rw [hL]; exact (madeL_fits tn tn _ ht2 (Nat.le_refl _)).le (by omega)
  have hsm := madeL_same tn tn (ins.take 8)
  rw [← hL] at hsm
  have hplay := fun w1 w2 lw (h : LawAny w1 w2 lw L) (hm : Mod [] W w1) => play_any w1 w2 lw L am cm moves true h hok hfit (by omega) (hM.mod0 hm) hlm (by omega) (by omega)
  rw [(hwin.play true (moves.take 200)).1] at hplay
  have hwin2 := (hwin.play true (moves.take 200)).2
  have hok2 := playN_ok true (moves.take 200) hok
  have hfit2 : Fits (playN true (moves.take 200) L).2 207 := (playN_fits true (moves.take 200) hok hfit).le (by simp; omega)
  generalize (playN true (moves.take 200) L).2 = L2 at *
  have hfin := fun w1 w2 lw (h : LawAny w1 w2 lw L2) => finish_any w1 w2 lw L2 h hok2 hfit2 (by omega)
  have hwin3 := hwin2.finish 4000
  have hok3 := finishN_ok hok2 4000
  generalize finishN 4000 L2 = L3 at *
  have hag := fun w1 w2 lw (h : LawAny w1 w2 lw L3) => agree_any w1 w2 lw L3 h hok3
  rw [hwin3.agree] at hag
  have HTN := hid htn
  have HMADE := hid hmade
  have HPLAY := hid hplay
  have HFIN := hid hfin
  have HAG := hid hag
  clear htn hm8 hmade hL hwin hok hfit hsm hplay hwin2 hok2 hfit2 hfin hwin3 hok3 hag hI hM
  go_enter Try.func3, Try.ntmps3
  go_wp2_with (first
    | (go_at_call 8; refine (works_any W).mono ?_; rintro e w1 ⟨rfl, hm1⟩; have HW1 := hid hm1; clear hm1)
    | (go_at_call 9; refine (among_any _ _ _ (by omega) (by omega)).mono ?_; rintro e w' ⟨rfl, rfl⟩; rw [← HTN.out])
    | (go_at_call 10; refine (HMADE.out _ HW1.out).mono ?_; rintro e w2 ⟨lw, rfl, h2⟩; have H2 := hid (And.intro h2 HW1.out); clear h2)
    | (go_at_call 11; refine (HPLAY.out _ _ _ H2.out.1 H2.out.2).mono ?_; rintro e w3 ⟨rfl, h3⟩; have H3 := hid h3; clear h3)
    | (go_at_call 12; refine (HFIN.out _ _ _ H3.out).mono ?_; rintro e w4 ⟨rfl, h4⟩; have H4 := hid h4; clear h4)
    | (go_at_call 13; refine (HAG.out _ _ _ H4.out).mono ?_; rintro e w5 ⟨rfl, h5⟩; have H5 := hid h5; clear h5))
  go_ret
  exact ⟨rfl, H2.out.2.trans (H4.out.old.trans H5.out)⟩
end Go.Proofs.Ytnpmjpdndhedgaa
