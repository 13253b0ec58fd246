/-
  NetPlays, walked. No statement of a claim stands here; each contract names what it asks.
-/
import Derived.Test.YtbjgjagbepopfaaM9
import Derived.Test.YtbjgjagbepopfaaN8
import Derived.Test.YtbjgjagbepopfaaND
import Derived.Deep.CutBlock
set_option linter.unusedSimpArgs false
namespace Go.Proofs.Ytbjgjagbepopfaa
open Go Go.RowKit Go.ChangeMaps


theorem short_call (w : World) (m : Msg) (hm : m.body.size ≤ maxLen) :
    Calls Try.prog 11 #[.agg #[.int .i64 m.frm, .int .i64 m.to, .int .i64 m.kind, .string m.body]] w fun e w' => e = .returned (.agg #[.int .i64 m.frm, .int .i64 m.to, .int .i64 m.kind, .string (shortB m.body)]) ∧ Mod [] w w' :=
  short_any w m hm

theorem RefAt.mono {B : Nat} {W : World} {y n n' : Nat} {s : NetS} (h : RefAt B W y n s) (hn : n ≤ n') : RefAt B W y n' s := by
  obtain ⟨vl, vc, cl, dn, h, hc⟩ := h
  exact ⟨vl, vc, cl, dn, h, Nat.le_trans hc hn⟩
theorem RefAt.mod0 {B : Nat} {W W' : World} {y n : Nat} {s : NetS} (h : RefAt B W y n s) (m : Mod [] W W') : RefAt B W' y n s := by
  obtain ⟨vl, vc, cl, dn, h, hc⟩ := h
  exact ⟨vl, vc, cl, dn, h.mod0 m, hc⟩
theorem RefAt.foot {B : Nat} {W W' : World} {y n : Nat} {s s0 : NetS} {p : Loc} (h : RefAt B W y n s) (hn : NetAt W p s0) (m : Mod p.foot W W') : RefAt B W' y n s := by
  obtain ⟨vl, vc, cl, dn, h, hc⟩ := h
  refine ⟨vl, vc, cl, dn, h.mod m (hn.ne h.cells (by decide)) (fun k hk => ?_) (fun k hk => ?_), hc⟩
  · obtain ⟨c, hcc⟩ := h.items.block hk; exact hn.ne hcc (by decide)
  · obtain ⟨c, hcc⟩ := h.cuts.block hk; exact hn.ne hcc (by decide)

/-- The net at s, the reference's at s', and the act. -/
structure Play (w : World) (p : Loc) (y n ba : Nat) (A : Array Value) (s s' : NetS) (W : World) : Prop where
  net : NetAt W p s
  ref : RefAt w.heap.size W y n s'
  act : W.heap[ba]? = some (.cells A 42 (0, 0))
  mod : Mod [] w W
section
variable {w : World} {p : Loc} {y n ba : Nat} {A : Array Value} {s s' : NetS} {W W' : World}
theorem Play.quiet (h : Play w p y n ba A s s' W) (m : Mod [] W W') : Play w p y n ba A s s' W' := ⟨h.net.mod0 m, h.ref.mod0 m, m.get h.act (by simp), h.mod.trans m⟩
theorem Play.netcall {s2 : NetS} (h : Play w p y n ba A s s' W) (hf : ∀ k ∈ p.foot, w.heap.size ≤ k) (hn : NetAt W' p s2) (m : Mod p.foot W W') : Play w p y n ba A s2 s' W' :=
  ⟨hn, h.ref.foot h.net m, m.get h.act (h.net.ne h.act (by decide)), h.mod.trans' m (fun x hx => .inr (hf x hx))⟩
theorem Play.refcall {s2 : NetS} {n2 : Nat} (h : Play w p y n ba A s s' W) (hr : RefAt w.heap.size W' y n2 s2) (m : RMod w.heap.size W W') : Play w p y n2 ba A s s2 W' :=
  ⟨h.net.rmod m, hr, m.get h.act (by decide), m.behind h.mod (Nat.le_refl _)⟩
end

theorem Play.at {w : World} {p : Loc} {y n ba : Nat} {A : Array Value} {s s' : NetS} {W : World} (h : Play w p y n ba A s s' W) (i : Nat) {v : Value} (hA : A[i]? = some v) : W.cell? ⟨ba, i, none⟩ = some v := by
  rw [cell_at h.act]
  exact hA
theorem sent_put (s : NetS) (m : Msg) : (s.put m).1.sent ≤ s.sent + 1 := by
  unfold NetS.put
  split
  · dsimp only; omega
  · dsimp only; omega
theorem sent_send (s : NetS) (m : Msg) : (s.send m).1.sent ≤ s.sent + 1 := by
  have := sent_put s m
  unfold NetS.send
  repeat' split
  all_goals first
    | exact this
    | (dsimp only; omega)
theorem sent_copy (s : NetS) (k : Int) : (s.copy k).1.sent ≤ s.sent + 1 := by
  unfold NetS.copy
  split
  · dsimp only; omega
  · exact sent_put s _
theorem sent_take (s : NetS) (k : Int) : (s.take k).1.sent ≤ s.sent + 1 := by
  unfold NetS.take
  split
  · dsimp only; omega
  · show s.sent ≤ s.sent + 1; omega
theorem sent_cut (s : NetS) (k : Seat) (on : Bool) : (s.cutting k on).1.sent ≤ s.sent + 1 := by
  unfold NetS.cutting
  repeat' split
  all_goals (dsimp only; omega)
theorem sent_down (s : NetS) (k : Int) (on : Bool) : (s.downing k on).1.sent ≤ s.sent + 1 := by
  unfold NetS.downing
  repeat' split
  all_goals (show s.sent ≤ s.sent + 1; omega)
theorem look1_R (s : NetS) (k : Int) : s.look1 k = (s, (lookR s k).1, (lookR s k).2) := by
  unfold NetS.look1 lookR
  cases s.free k <;> rfl

def PlayRel (w : World) (p : Loc) (y : Nat) (l : List ActS) (gk : Nat) (i : Value) (W' : World) : Prop :=
  ∃ (j : Nat) (s : NetS), i = nat j ∧ gk + j = min l.length 100 ∧ s.Ok ∧ s.sent ≤ j ∧ NetAt W' p s ∧ RefAt w.heap.size W' y j s ∧ Mod [] w W'

set_option maxRecDepth 20000 in
set_option maxHeartbeats 8000000 in
theorem plays_no (w : World) (parties room : Int) (a : Option Addr) (c : Nat) (l : List ActS) (hpr : ¬ (1 ≤ parties ∧ parties ≤ 64 ∧ 1 ≤ room ∧ room ≤ 4096)) :
    Calls Try.prog 7 #[.int .i64 parties, .int .i64 room, .slice a l.length c] w fun e w' => e = .returned (.bool true) ∧ Mod [] w w' := by
  have hmk := make_no parties room w hpr
  have hrk := rmake_no parties room w hpr
  have HMK := hid hmk
  have HRK := hid hrk
  clear hmk hrk hpr
  go_enter Try.func7, Try.ntmps7
  go_wp2_with (first
    | (go_at_call 10; refine HMK.out.mono ?_; rintro e w' ⟨rfl, hw'⟩; obtain rfl : w = w' := hw'.symm; clear hw')
    | (go_at_call 22; refine HRK.out.mono ?_; rintro e w' ⟨rfl, hw'⟩; obtain rfl : w = w' := hw'.symm; clear hw')
    | (go_at_call 9; refine (works_any _).mono ?_; rintro e w4 ⟨rfl, hm4⟩; have H4 := hid hm4; clear hm4))
  go_ret
  exact ⟨rfl, H4.out⟩

set_option maxRecDepth 20000 in
set_option maxHeartbeats 8000000 in
theorem plays_yes (w : World) (parties room : Int) (a : Option Addr) (c : Nat) (l : List ActS) (hl : RowsAt 8 w a (l.map ActS.cells)) (hlen : l.length ≤ maxLen) (h1 : 1 ≤ parties) (h2 : parties ≤ 64) (h3 : 1 ≤ room) (h4 : room ≤ 4096) :
    Calls Try.prog 7 #[.int .i64 parties, .int .i64 room, .slice a l.length c] w fun e w' => e = .returned (.bool true) ∧ Mod [] w w' := by
  have hlz : l.length ≤ 9223372036854775807 := by unfold maxLen at hlen; omega
  have HL := hid hl
  clear hl hlen
  have HOK := hid (newNet_ok h1 h2 h3 h4)
  have hmk := make_yes parties room w h1 h2 h3 h4
  have hrk := fun W (hW : w.heap.size ≤ W.heap.size) => rmake_yes w.heap.size parties room W hW h1 h2 h3 h4
  have HMK := hid hmk
  have HRK := hid hrk
  clear hmk hrk h1 h2 h3 h4
  go_enter Try.func7, Try.ntmps7
  go_wp2_with (first
    | (go_at_call 10; refine HMK.out.mono ?_; rintro e w2 ⟨p, rfl, hn2, hm2, hf2⟩; have H2 := hid (And.intro hn2 (And.intro hm2 hf2)); clear hn2 hm2 hf2)
    | (go_at_call 22; refine (HRK.out w2 H2.out.2.1.size).mono ?_; rintro e w3 ⟨y, rfl, hr3, hm3⟩; have H3 := hid (And.intro hr3 hm3); clear hr3 hm3))
  have HF := hid H2.out.2.2
  go_loopg [11] (min l.length 100) (fun gk i W' => PlayRel w p y l gk i W')
  case atStart => exact ⟨0, newNet parties room, rfl, rfl, HOK.out, by simp [newNet], H2.out.1.mod0 H3.out.2, H3.out.1, H2.out.2.1.trans H3.out.2⟩
  case round =>
    obtain ⟨j, s, rfl, hj, ho, hsl, hn, hr, hm⟩ := hrel
    go_upto_region 8 with fail
    go_cut [73] (fun vv wx => vv = .bool (decide (j < l.length ∧ j < 100)) ∧ wx = wr)
    case first => as_aux_lemma =>
      clear hn hr hm ho hj hsl
      have j0 : (0 : Int) ≤ (j : Int) := Int.natCast_nonneg _
      by_cases hj1 : j < l.length
      · have j1 : (j : Int) < (l.length : Int) := by omega
        by_cases hj2 : j < 100
        · have j2 : decide ((j : Int) < 100) = true := decide_eq_true (by omega)
          have e1 : decide (j < l.length ∧ j < 100) = true := decide_eq_true ⟨hj1, hj2⟩
          have E1 := hid e1
          clear e1
          go_wp2_with fail
          go_meet
          exact ⟨by rw [E1.out], rfl⟩
        · have j2 : decide ((j : Int) < 100) = false := decide_eq_false (by omega)
          have e1 : decide (j < l.length ∧ j < 100) = false := decide_eq_false (fun h => hj2 h.2)
          have E1 := hid e1
          clear e1
          go_wp2_with fail
          go_meet
          exact ⟨by rw [E1.out], rfl⟩
      · have j1 : ¬ (j : Int) < (l.length : Int) := by omega
        have e1 : decide (j < l.length ∧ j < 100) = false := decide_eq_false (fun h => hj1 h.1)
        have E1 := hid e1
        clear e1
        go_wp2_with fail
        go_meet
        exact ⟨by rw [E1.out], rfl⟩
    case rest =>
    obtain ⟨hcv, hcw⟩ := hcut
    subst hcw
    by_cases hjn : j < l.length ∧ j < 100
    · rw [decide_eq_true hjn] at hcv
      subst hcv
      obtain ⟨hj1, hj2⟩ := hjn
      obtain ⟨x, hmj⟩ : ∃ e, l[j]? = some e := ⟨_, List.getElem?_eq_getElem hj1⟩
      obtain ⟨mb, mo, rfl, hmb, hmc⟩ := HL.out.cell j x.cells (by rw [List.getElem?_map, hmj]; rfl)
      have hsz := x.small
      obtain ⟨do_, xn, xt, xon, m, hsm⟩ := x
      dsimp only at hsz
      have m0 : wc.cell? ⟨mb, mo + j * 8, none⟩ = some (.int .i64 do_) := hm.cell (hmc 0 _ rfl) (by simp)
      have m1 : wc.cell? ⟨mb, mo + j * 8 + 1, none⟩ = some (.int .i64 xn) := hm.cell (hmc 1 _ rfl) (by simp)
      have m2 : wc.cell? ⟨mb, mo + j * 8 + 2, none⟩ = some (.int .i64 xt) := hm.cell (hmc 2 _ rfl) (by simp)
      have m3 : wc.cell? ⟨mb, mo + j * 8 + 3, none⟩ = some (.bool xon) := hm.cell (hmc 3 _ rfl) (by simp)
      have m4 : wc.cell? ⟨mb, mo + j * 8 + 4, none⟩ = some (.int .i64 m.frm) := hm.cell (hmc 4 _ rfl) (by simp)
      have m5 : wc.cell? ⟨mb, mo + j * 8 + 5, none⟩ = some (.int .i64 m.to) := hm.cell (hmc 5 _ rfl) (by simp)
      have m6 : wc.cell? ⟨mb, mo + j * 8 + 6, none⟩ = some (.int .i64 m.kind) := hm.cell (hmc 6 _ rfl) (by simp)
      have m7 : wc.cell? ⟨mb, mo + j * 8 + 7, none⟩ = some (.string m.body) := hm.cell (hmc 7 _ rfl) (by simp)
      have j0 : (0 : Int) ≤ (j : Int) := Int.natCast_nonneg _
      have j1 : (j : Int) < (l.length : Int) := by omega
      have HS := hid (And.intro ho (And.intro hsl (And.intro hn (And.intro hr hm))))
      have HJ := hid (And.intro hj hj2)
      clear ho hsl hn hr hmb hmc hj hj2 hmj hm
      go_upto_region 11 with fail
      have ha3 := get_new wc (.cells #[.int .i64 do_, .int .i64 xn, .int .i64 xt, .bool xon, .int .i64 m.frm, .int .i64 m.to, .int .i64 m.kind, .string m.body] 42 (0, 0))
      have hm3 := (Mod.refl [] wc).alloc (.cells #[.int .i64 do_, .int .i64 xn, .int .i64 xt, .bool xon, .int .i64 m.frm, .int .i64 m.to, .int .i64 m.kind, .string m.body] 42 (0, 0))
      clear m0 m1 m2 m3 m4 m5 m6 m7
      generalize wc.alloc (.cells #[.int .i64 do_, .int .i64 xn, .int .i64 xt, .bool xon, .int .i64 m.frm, .int .i64 m.to, .int .i64 m.kind, .string m.body] 42 (0, 0)) = w3 at *
      generalize hbb : wc.heap.size = ba at ha3
      clear hbb
      obtain ⟨AC, hAC⟩ : ∃ AC : Array Value, AC = #[.int .i64 do_, .int .i64 xn, .int .i64 xt, .bool xon, .int .i64 m.frm, .int .i64 m.to, .int .i64 m.kind, .string m.body] := ⟨_, rfl⟩
      have HAC := hid hAC
      rw [← hAC] at ha3
      have hP : Play w p y j ba AC s s w3 := ⟨HS.out.2.2.1.mod0 hm3, HS.out.2.2.2.1.mod0 hm3, ha3, HS.out.2.2.2.2.trans hm3⟩
      have HP := hid hP
      have HO := hid (And.intro HS.out.1 HS.out.2.1)
      have b0 : w3.cell? ⟨ba, 0, none⟩ = some (.int .i64 do_) := by rw [cell_at ha3, hAC]; rfl
      clear hAC ha3 hm3 hP HS
      have a9 := among_in do_ 9 (by omega)
      go_upto_block 2 with (first | (go_at_call 12; refine (among_any _ _ _ (by omega) (by omega)).mono ?_; rintro e w' ⟨rfl, rfl⟩))
      generalize among do_ 9 = D at *
      clear b0
      go_cut [13] (fun okv wx => okv = .bool true ∧ ∃ s' : NetS, s'.Ok ∧ s'.sent ≤ j + 1 ∧ Play w p y (j + 1) ba AC s' s' wx)
      case first =>
        have hD : D = 0 ∨ D = 1 ∨ D = 2 ∨ D = 3 ∨ D = 4 ∨ D = 5 ∨ D = 6 ∨ D = 7 ∨ D = 8 := by omega
        have hsum : s.sent ≤ 1000000 := by have := HO.out.2; have := HJ.out.2; omega
        have hj4 : j ≤ 4000 := by have := HJ.out.2; omega
        have A1 := hid (show AC[1]? = some (Value.int .i64 xn) from by rw [HAC.out]; rfl)
        have A2 := hid (show AC[2]? = some (Value.int .i64 xt) from by rw [HAC.out]; rfl)
        have A3 := hid (show AC[3]? = some (Value.bool xon) from by rw [HAC.out]; rfl)
        have A4 := hid (show AC[4]? = some (Value.int .i64 m.frm) from by rw [HAC.out]; rfl)
        have A5 := hid (show AC[5]? = some (Value.int .i64 m.to) from by rw [HAC.out]; rfl)
        have A6 := hid (show AC[6]? = some (Value.int .i64 m.kind) from by rw [HAC.out]; rfl)
        have A7 := hid (show AC[7]? = some (Value.string m.body) from by rw [HAC.out]; rfl)
        have HSZ := hid hsz
        have HSUM := hid hsum
        have HJ4 := hid hj4
        clear HL HOK HMK HRK H2 H3 hj1 hsm hsz j0 j1 a9 HAC hsum hj4
        rcases hD with hd | hd | hd | hd | hd | hd | hd | hd | hd
        all_goals subst hd
        · as_aux_lemma =>
            have hsend := fun W hn => send_any W p s ⟨m.frm, m.to, m.kind, shortB m.body⟩ hn HO.out.1 HSUM.out
            have hrs := fun W hr hB => rsend_any (w := W) (B := w.heap.size) (y := y) (n := j) (s := s) hr HO.out.1 HSUM.out hB ⟨m.frm, m.to, m.kind, shortB m.body⟩
            have ho1 := NetS.send_ok HO.out.1 ⟨m.frm, m.to, m.kind, shortB m.body⟩
            have hs1 := sent_send s ⟨m.frm, m.to, m.kind, shortB m.body⟩
            unfold NumPost at hsend
            dsimp only [Msg.v] at hsend hrs
            generalize s.send ⟨m.frm, m.to, m.kind, shortB m.body⟩ = r at hsend hrs ho1 hs1
            obtain ⟨s1, k1, e1⟩ := r
            dsimp only at hsend hrs ho1 hs1
            have HSE := hid hsend
            have HRS := hid hrs
            have HO1 := hid (And.intro ho1 hs1)
            have b4 := HP.out.at 4 A4.out
            have b5 := HP.out.at 5 A5.out
            have b6 := HP.out.at 6 A6.out
            have b7 := HP.out.at 7 A7.out
            clear hsend hrs ho1 hs1
            go_upto_region 19 with (first
              | (go_at_call 11; refine (short_call w3 m HSZ.out).mono ?_; rintro e w4 ⟨rfl, hm4⟩; have H4 := hid (HP.out.quiet hm4); clear hm4)
              | (go_at_call 13; refine (HSE.out w4 H4.out.net).mono ?_; rintro e w5 ⟨rfl, hn5, hm5⟩; have H5 := hid (H4.out.netcall HF.out hn5 hm5); clear hn5 hm5))
            clear H4 b4 b5 b6 b7
            have b4 := H5.out.at 4 A4.out
            have b5 := H5.out.at 5 A5.out
            have b6 := H5.out.at 6 A6.out
            have b7 := H5.out.at 7 A7.out
            go_upto_region 20 with (first
              | (go_at_call 11; refine (short_call w5 m HSZ.out).mono ?_; rintro e w6 ⟨rfl, hm6⟩; have H6 := hid (H5.out.quiet hm6); clear hm6)
              | (go_at_call 24; refine (plain_any w6 ⟨m.frm, m.to, m.kind, shortB m.body⟩).mono ?_; rintro e w7 ⟨rfl, hm7⟩; have H7 := hid (H6.out.quiet hm7); clear hm7)
              | (go_at_call 23; refine (HRS.out w7 H7.out.ref H7.out.mod.size).mono ?_; rintro e w8 ⟨rfl, hr8, hm8⟩; have H8 := hid (H7.out.refcall hr8 hm8); clear hr8 hm8))
            clear b4 b5 b6 b7
            go_wp2_with fail
            go_meet
            exact ⟨rfl, s1, HO1.out.1, by have := HO1.out.2; have := HO.out.2; omega, H8.out.net, H8.out.ref.mono (Nat.le_succ _), H8.out.act, H8.out.mod⟩
        · as_aux_lemma =>
            have hsend := fun W hn => send_any W p s ⟨m.frm, m.to, m.kind, shortB m.body⟩ hn HO.out.1 HSUM.out
            have hrs := fun W hr hB => rsend_any (w := W) (B := w.heap.size) (y := y) (n := j) (s := s) hr HO.out.1 HSUM.out hB ⟨m.frm, m.to, m.kind, shortB m.body⟩
            have ho1 := NetS.send_ok HO.out.1 ⟨m.frm, m.to, m.kind, shortB m.body⟩
            have hs1 := sent_send s ⟨m.frm, m.to, m.kind, shortB m.body⟩
            unfold NumPost at hsend
            dsimp only [Msg.v] at hsend hrs
            generalize s.send ⟨m.frm, m.to, m.kind, shortB m.body⟩ = r at hsend hrs ho1 hs1
            obtain ⟨s1, k1, e1⟩ := r
            dsimp only at hsend hrs ho1 hs1
            have HSE := hid hsend
            have HRS := hid hrs
            have HO1 := hid (And.intro ho1 hs1)
            have b4 := HP.out.at 4 A4.out
            have b5 := HP.out.at 5 A5.out
            have b6 := HP.out.at 6 A6.out
            have b7 := HP.out.at 7 A7.out
            clear hsend hrs ho1 hs1
            go_upto_region 19 with (first
              | (go_at_call 11; refine (short_call w3 m HSZ.out).mono ?_; rintro e w4 ⟨rfl, hm4⟩; have H4 := hid (HP.out.quiet hm4); clear hm4)
              | (go_at_call 13; refine (HSE.out w4 H4.out.net).mono ?_; rintro e w5 ⟨rfl, hn5, hm5⟩; have H5 := hid (H4.out.netcall HF.out hn5 hm5); clear hn5 hm5))
            clear H4 b4 b5 b6 b7
            have b4 := H5.out.at 4 A4.out
            have b5 := H5.out.at 5 A5.out
            have b6 := H5.out.at 6 A6.out
            have b7 := H5.out.at 7 A7.out
            go_upto_region 20 with (first
              | (go_at_call 11; refine (short_call w5 m HSZ.out).mono ?_; rintro e w6 ⟨rfl, hm6⟩; have H6 := hid (H5.out.quiet hm6); clear hm6)
              | (go_at_call 24; refine (plain_any w6 ⟨m.frm, m.to, m.kind, shortB m.body⟩).mono ?_; rintro e w7 ⟨rfl, hm7⟩; have H7 := hid (H6.out.quiet hm7); clear hm7)
              | (go_at_call 23; refine (HRS.out w7 H7.out.ref H7.out.mod.size).mono ?_; rintro e w8 ⟨rfl, hr8, hm8⟩; have H8 := hid (H7.out.refcall hr8 hm8); clear hr8 hm8))
            clear b4 b5 b6 b7
            go_wp2_with fail
            go_meet
            exact ⟨rfl, s1, HO1.out.1, by have := HO1.out.2; have := HO.out.2; omega, H8.out.net, H8.out.ref.mono (Nat.le_succ _), H8.out.act, H8.out.mod⟩
        · as_aux_lemma =>
            have hsend := fun W hn => send_any W p s ⟨m.frm, m.to, m.kind, shortB m.body⟩ hn HO.out.1 HSUM.out
            have hrs := fun W hr hB => rsend_any (w := W) (B := w.heap.size) (y := y) (n := j) (s := s) hr HO.out.1 HSUM.out hB ⟨m.frm, m.to, m.kind, shortB m.body⟩
            have ho1 := NetS.send_ok HO.out.1 ⟨m.frm, m.to, m.kind, shortB m.body⟩
            have hs1 := sent_send s ⟨m.frm, m.to, m.kind, shortB m.body⟩
            unfold NumPost at hsend
            dsimp only [Msg.v] at hsend hrs
            generalize s.send ⟨m.frm, m.to, m.kind, shortB m.body⟩ = r at hsend hrs ho1 hs1
            obtain ⟨s1, k1, e1⟩ := r
            dsimp only at hsend hrs ho1 hs1
            have HSE := hid hsend
            have HRS := hid hrs
            have HO1 := hid (And.intro ho1 hs1)
            have b4 := HP.out.at 4 A4.out
            have b5 := HP.out.at 5 A5.out
            have b6 := HP.out.at 6 A6.out
            have b7 := HP.out.at 7 A7.out
            clear hsend hrs ho1 hs1
            go_upto_region 19 with (first
              | (go_at_call 11; refine (short_call w3 m HSZ.out).mono ?_; rintro e w4 ⟨rfl, hm4⟩; have H4 := hid (HP.out.quiet hm4); clear hm4)
              | (go_at_call 13; refine (HSE.out w4 H4.out.net).mono ?_; rintro e w5 ⟨rfl, hn5, hm5⟩; have H5 := hid (H4.out.netcall HF.out hn5 hm5); clear hn5 hm5))
            clear H4 b4 b5 b6 b7
            have b4 := H5.out.at 4 A4.out
            have b5 := H5.out.at 5 A5.out
            have b6 := H5.out.at 6 A6.out
            have b7 := H5.out.at 7 A7.out
            go_upto_region 20 with (first
              | (go_at_call 11; refine (short_call w5 m HSZ.out).mono ?_; rintro e w6 ⟨rfl, hm6⟩; have H6 := hid (H5.out.quiet hm6); clear hm6)
              | (go_at_call 24; refine (plain_any w6 ⟨m.frm, m.to, m.kind, shortB m.body⟩).mono ?_; rintro e w7 ⟨rfl, hm7⟩; have H7 := hid (H6.out.quiet hm7); clear hm7)
              | (go_at_call 23; refine (HRS.out w7 H7.out.ref H7.out.mod.size).mono ?_; rintro e w8 ⟨rfl, hr8, hm8⟩; have H8 := hid (H7.out.refcall hr8 hm8); clear hr8 hm8))
            clear b4 b5 b6 b7
            go_wp2_with fail
            go_meet
            exact ⟨rfl, s1, HO1.out.1, by have := HO1.out.2; have := HO.out.2; omega, H8.out.net, H8.out.ref.mono (Nat.le_succ _), H8.out.act, H8.out.mod⟩
        · as_aux_lemma =>
            have hsend := fun W hn => send_any W p s ⟨m.frm, m.to, m.kind, shortB m.body⟩ hn HO.out.1 HSUM.out
            have hrs := fun W hr hB => rsend_any (w := W) (B := w.heap.size) (y := y) (n := j) (s := s) hr HO.out.1 HSUM.out hB ⟨m.frm, m.to, m.kind, shortB m.body⟩
            have ho1 := NetS.send_ok HO.out.1 ⟨m.frm, m.to, m.kind, shortB m.body⟩
            have hs1 := sent_send s ⟨m.frm, m.to, m.kind, shortB m.body⟩
            unfold NumPost at hsend
            dsimp only [Msg.v] at hsend hrs
            generalize s.send ⟨m.frm, m.to, m.kind, shortB m.body⟩ = r at hsend hrs ho1 hs1
            obtain ⟨s1, k1, e1⟩ := r
            dsimp only at hsend hrs ho1 hs1
            have HSE := hid hsend
            have HRS := hid hrs
            have HO1 := hid (And.intro ho1 hs1)
            have b4 := HP.out.at 4 A4.out
            have b5 := HP.out.at 5 A5.out
            have b6 := HP.out.at 6 A6.out
            have b7 := HP.out.at 7 A7.out
            clear hsend hrs ho1 hs1
            go_upto_region 19 with (first
              | (go_at_call 11; refine (short_call w3 m HSZ.out).mono ?_; rintro e w4 ⟨rfl, hm4⟩; have H4 := hid (HP.out.quiet hm4); clear hm4)
              | (go_at_call 13; refine (HSE.out w4 H4.out.net).mono ?_; rintro e w5 ⟨rfl, hn5, hm5⟩; have H5 := hid (H4.out.netcall HF.out hn5 hm5); clear hn5 hm5))
            clear H4 b4 b5 b6 b7
            have b4 := H5.out.at 4 A4.out
            have b5 := H5.out.at 5 A5.out
            have b6 := H5.out.at 6 A6.out
            have b7 := H5.out.at 7 A7.out
            go_upto_region 20 with (first
              | (go_at_call 11; refine (short_call w5 m HSZ.out).mono ?_; rintro e w6 ⟨rfl, hm6⟩; have H6 := hid (H5.out.quiet hm6); clear hm6)
              | (go_at_call 24; refine (plain_any w6 ⟨m.frm, m.to, m.kind, shortB m.body⟩).mono ?_; rintro e w7 ⟨rfl, hm7⟩; have H7 := hid (H6.out.quiet hm7); clear hm7)
              | (go_at_call 23; refine (HRS.out w7 H7.out.ref H7.out.mod.size).mono ?_; rintro e w8 ⟨rfl, hr8, hm8⟩; have H8 := hid (H7.out.refcall hr8 hm8); clear hr8 hm8))
            clear b4 b5 b6 b7
            go_wp2_with fail
            go_meet
            exact ⟨rfl, s1, HO1.out.1, by have := HO1.out.2; have := HO.out.2; omega, H8.out.net, H8.out.ref.mono (Nat.le_succ _), H8.out.act, H8.out.mod⟩
        · as_aux_lemma =>
            have hlook := fun W hn => look_any W p s xn hn
            have hrl := fun W hr => rlook_any (w := W) (B := w.heap.size) (y := y) (n := j) (s := s) hr (by have := HJ4.out; omega) HO.out.1 xn
            have htake := fun W hn => take_any W p s xn hn HO.out.1 HSUM.out
            have hrt := fun W hr hB => rtake_any (w := W) (B := w.heap.size) (y := y) (n := j) (s := s) hr (by have := HJ4.out; omega) HO.out.1 HSUM.out hB xn
            have ho1 := NetS.take_ok HO.out.1 xn
            have hs1 := sent_take s xn
            unfold MsgPost at hlook htake
            rw [look1_R] at hlook
            generalize lookR s xn = r at hlook hrl
            obtain ⟨lm, le⟩ := r
            generalize s.take xn = r at htake hrt ho1 hs1
            obtain ⟨s1, tm, te⟩ := r
            dsimp only [Msg.v] at hlook hrl htake hrt ho1 hs1
            have HLO := hid hlook
            have HRL := hid hrl
            have HTA := hid htake
            have HRT := hid hrt
            have HO1 := hid (And.intro ho1 hs1)
            have b1 := HP.out.at 1 A1.out
            clear hlook hrl htake hrt ho1 hs1
            go_upto_region 23 with (first
              | (go_at_call 25; refine (HLO.out w3 HP.out.net).mono ?_; rintro e w4 ⟨rfl, hn4, hm4⟩; have H4 := hid (HP.out.netcall HF.out hn4 hm4); clear hn4 hm4))
            clear b1
            have H5 := hid (H4.out.quiet ((Mod.refl _ w4).alloc (msgObj lm)))
            have hg5 := get_new w4 (msgObj lm)
            unfold msgObj at H5 hg5
            generalize (w4.alloc (.cells #[.int .i64 lm.frm, .int .i64 lm.to, .int .i64 lm.kind, .string lm.body] 29 (0, 0))) = w5 at *
            generalize w4.heap.size = gx at *
            have b1 := H5.out.at 1 A1.out
            go_upto_region 24 with (first
              | (go_at_call 26; refine (HRL.out w5 H5.out.ref).mono ?_; rintro e w6 ⟨rfl, hm6⟩; have H6 := hid (And.intro (H5.out.quiet hm6) hm6); clear hm6))
            clear b1
            have H7 := hid (H6.out.1.quiet ((Mod.refl _ w6).alloc (rmsgObj lm)))
            have hg7 := get_alloc (H6.out.2.get hg5 (by simp)) (rmsgObj lm)
            have hr7 := get_new w6 (rmsgObj lm)
            clear hg5 H4 H5 H6
            unfold rmsgObj at H7 hg7 hr7
            generalize (w6.alloc (.cells #[.int .i64 lm.frm, .int .i64 lm.to, .int .i64 lm.kind, .string lm.body] 53 (0, 0))) = w7 at *
            generalize w6.heap.size = gy at *
            have heq := rmsg_same lm
            refine wp_region_N (fun w' => (∀ (k : Nat) (u : Value), lm.cells[k]? = some u → w'.cell? ⟨gx, k, none⟩ = some u) ∧ ∀ (k : Nat) (u : Value), lm.cells[k]? = some u → w'.cell? ⟨gy, k, none⟩ = some u) (fun _ => true) (by kernel_rfl) ?_
            have hS : (fun w' : World => (∀ (k : Nat) (u : Value), lm.cells[k]? = some u → w'.cell? ⟨gx, k, none⟩ = some u) ∧ ∀ (k : Nat) (u : Value), lm.cells[k]? = some u → w'.cell? ⟨gy, k, none⟩ = some u) w7.drew :=
              ⟨fun k u hu => (cell_at (w := w7) hg7 k).trans (by rw [← hu]; simp [Msg.cells]), fun k u hu => (cell_at (w := w7) hr7 k).trans (by rw [← hu]; simp [Msg.cells])⟩
            clear hg7 hr7
            have H8 := hid (H7.out.quiet ((Mod.refl _ w7).drew))
            clear H7
            generalize w7.drew = w8 at *
            refine regS 0 142 (v := .agg #[.int .i64 lm.frm, .int .i64 lm.to, .int .i64 lm.kind, .string lm.body]) hS rfl rfl (by kernel_rfl) (by kernel_rfl) (by kernel_rfl) (by kernel_rfl) (fun _ _ _ h => h) (by rfl) (fun w hSw => ?_) ?_
            · have y0 : w.cell? ⟨gx, 0, none⟩ = some (.int .i64 lm.frm) := hSw.1 0 _ rfl
              have y1 : w.cell? ⟨gx, 1, none⟩ = some (.int .i64 lm.to) := hSw.1 1 _ rfl
              have y2 : w.cell? ⟨gx, 2, none⟩ = some (.int .i64 lm.kind) := hSw.1 2 _ rfl
              have y3 : w.cell? ⟨gx, 3, none⟩ = some (.string lm.body) := hSw.1 3 _ rfl
              go_simp
            (try simp only [Act.put, List.setIfInBounds_toArray, List.set_cons_zero, List.set_cons_succ])
            refine regS 2 144 (v := .agg #[.int .i64 lm.frm, .int .i64 lm.to, .int .i64 lm.kind, .string lm.body]) hS rfl rfl (by kernel_rfl) (by kernel_rfl) (by kernel_rfl) (by kernel_rfl) (fun _ _ _ h => h) (by rfl) (fun w hSw => ?_) ?_
            · have y0 : w.cell? ⟨gy, 0, none⟩ = some (.int .i64 lm.frm) := hSw.2 0 _ rfl
              have y1 : w.cell? ⟨gy, 1, none⟩ = some (.int .i64 lm.to) := hSw.2 1 _ rfl
              have y2 : w.cell? ⟨gy, 2, none⟩ = some (.int .i64 lm.kind) := hSw.2 2 _ rfl
              have y3 : w.cell? ⟨gy, 3, none⟩ = some (.string lm.body) := hSw.2 3 _ rfl
              go_simp
            (try simp only [Act.put, List.setIfInBounds_toArray, List.set_cons_zero, List.set_cons_succ])
            refine regOnly 1 (by kernel_rfl) rfl (by rfl) (fun K hK => ?_)
            go_wp2_with (first
              | (go_at_call 24; refine (plain_any w8 lm).mono ?_; rintro e w9 ⟨rfl, hm9⟩; have H9 := hid (And.intro (H8.out.quiet hm9) hm9); clear hm9))
            refine hK.out _ _ (fun _ h => ⟨fun k u hu => H9.out.2.cell (h.1 k u hu) (by simp), fun k u hu => H9.out.2.cell (h.2 k u hu) (by simp)⟩) ?_
            clear hK hS
            (try simp only [Act.put, List.setIfInBounds_toArray, List.set_cons_zero, List.set_cons_succ])
            refine regA 3 145 (v := .bool false) rfl rfl (by kernel_rfl) (by kernel_rfl) (by kernel_rfl) (fun _ _ _ h => h) (by rfl) (fun w => ?_) ?_
            · have hq := heq w
              go_simp
            (try simp only [Act.put, List.setIfInBounds_toArray, List.set_cons_zero, List.set_cons_succ])
            refine regA 4 146 (v := ?_) rfl rfl (by kernel_rfl) (by kernel_rfl) (by kernel_rfl) (fun _ _ _ h => h) (by rfl) (fun w => ?_) ?_; rotate_left; (go_simp; first | done | with_reducible rfl); (try simp only [Act.put, List.setIfInBounds_toArray, List.set_cons_zero, List.set_cons_succ])
            refine regA 5 147 (v := ?_) rfl rfl (by kernel_rfl) (by kernel_rfl) (by kernel_rfl) (fun _ _ _ h => h) (by rfl) (fun w => ?_) ?_; rotate_left; (go_simp; first | done | with_reducible rfl); (try simp only [Act.put, List.setIfInBounds_toArray, List.set_cons_zero, List.set_cons_succ])
            refine regA 6 148 (v := ?_) rfl rfl (by kernel_rfl) (by kernel_rfl) (by kernel_rfl) (fun _ _ _ h => h) (by rfl) (fun w => ?_) ?_; rotate_left; (go_simp; first | done | with_reducible rfl); (try simp only [Act.put, List.setIfInBounds_toArray, List.set_cons_zero, List.set_cons_succ])
            refine regA 7 149 (v := ?_) rfl rfl (by kernel_rfl) (by kernel_rfl) (by kernel_rfl) (fun _ _ _ h => h) (by rfl) (fun w => ?_) ?_; rotate_left; (go_simp; first | done | with_reducible rfl); (try simp only [Act.put, List.setIfInBounds_toArray, List.set_cons_zero, List.set_cons_succ])
            refine regA 8 150 (v := ?_) rfl rfl (by kernel_rfl) (by kernel_rfl) (by kernel_rfl) (fun _ _ _ h => h) (by rfl) (fun w => ?_) ?_; rotate_left; (go_simp; first | done | with_reducible rfl); (try simp only [Act.put, List.setIfInBounds_toArray, List.set_cons_zero, List.set_cons_succ])
            refine regDone (by kernel_rfl) ?_ _
            clear heq H8

            have b1 := H9.out.1.at 1 A1.out
            go_upto_region 27 with (first
              | (go_at_call 15; refine (HTA.out w9 H9.out.1.net).mono ?_; rintro e w4 ⟨rfl, hn4, hm4⟩; have H4 := hid (H9.out.1.netcall HF.out hn4 hm4); clear hn4 hm4))
            clear b1 H9
            have H5 := hid (H4.out.quiet ((Mod.refl _ w4).alloc (msgObj tm)))
            have hg5 := get_new w4 (msgObj tm)
            unfold msgObj at H5 hg5
            generalize (w4.alloc (.cells #[.int .i64 tm.frm, .int .i64 tm.to, .int .i64 tm.kind, .string tm.body] 29 (0, 0))) = w5 at *
            generalize w4.heap.size = gx at *
            have b1 := H5.out.at 1 A1.out
            go_upto_region 28 with (first
              | (go_at_call 27; refine (HRT.out w5 H5.out.ref H5.out.mod.size).mono ?_; rintro e w6 ⟨rfl, hr6, hm6⟩; have H6 := hid (And.intro (H5.out.refcall hr6 hm6) hm6); clear hr6 hm6))
            clear b1
            have H7 := hid (H6.out.1.quiet ((Mod.refl _ w6).alloc (rmsgObj tm)))
            have hg7 := get_alloc (H6.out.2.get hg5 (by decide)) (rmsgObj tm)
            have hr7 := get_new w6 (rmsgObj tm)
            clear hg5 H4 H5 H6
            unfold rmsgObj at H7 hg7 hr7
            generalize (w6.alloc (.cells #[.int .i64 tm.frm, .int .i64 tm.to, .int .i64 tm.kind, .string tm.body] 53 (0, 0))) = w7 at *
            generalize w6.heap.size = gy at *
            have heq := rmsg_same tm
            refine wp_region_N (fun w' => (∀ (k : Nat) (u : Value), tm.cells[k]? = some u → w'.cell? ⟨gx, k, none⟩ = some u) ∧ ∀ (k : Nat) (u : Value), tm.cells[k]? = some u → w'.cell? ⟨gy, k, none⟩ = some u) (fun _ => true) (by kernel_rfl) ?_
            have hS : (fun w' : World => (∀ (k : Nat) (u : Value), tm.cells[k]? = some u → w'.cell? ⟨gx, k, none⟩ = some u) ∧ ∀ (k : Nat) (u : Value), tm.cells[k]? = some u → w'.cell? ⟨gy, k, none⟩ = some u) w7.drew :=
              ⟨fun k u hu => (cell_at (w := w7) hg7 k).trans (by rw [← hu]; simp [Msg.cells]), fun k u hu => (cell_at (w := w7) hr7 k).trans (by rw [← hu]; simp [Msg.cells])⟩
            clear hg7 hr7
            have H8 := hid (H7.out.quiet ((Mod.refl _ w7).drew))
            clear H7
            generalize w7.drew = w8 at *
            refine regS 0 165 (v := .agg #[.int .i64 tm.frm, .int .i64 tm.to, .int .i64 tm.kind, .string tm.body]) hS rfl rfl (by kernel_rfl) (by kernel_rfl) (by kernel_rfl) (by kernel_rfl) (fun _ _ _ h => h) (by rfl) (fun w hSw => ?_) ?_
            · have y0 : w.cell? ⟨gx, 0, none⟩ = some (.int .i64 tm.frm) := hSw.1 0 _ rfl
              have y1 : w.cell? ⟨gx, 1, none⟩ = some (.int .i64 tm.to) := hSw.1 1 _ rfl
              have y2 : w.cell? ⟨gx, 2, none⟩ = some (.int .i64 tm.kind) := hSw.1 2 _ rfl
              have y3 : w.cell? ⟨gx, 3, none⟩ = some (.string tm.body) := hSw.1 3 _ rfl
              go_simp
            (try simp only [Act.put, List.setIfInBounds_toArray, List.set_cons_zero, List.set_cons_succ])
            refine regS 2 167 (v := .agg #[.int .i64 tm.frm, .int .i64 tm.to, .int .i64 tm.kind, .string tm.body]) hS rfl rfl (by kernel_rfl) (by kernel_rfl) (by kernel_rfl) (by kernel_rfl) (fun _ _ _ h => h) (by rfl) (fun w hSw => ?_) ?_
            · have y0 : w.cell? ⟨gy, 0, none⟩ = some (.int .i64 tm.frm) := hSw.2 0 _ rfl
              have y1 : w.cell? ⟨gy, 1, none⟩ = some (.int .i64 tm.to) := hSw.2 1 _ rfl
              have y2 : w.cell? ⟨gy, 2, none⟩ = some (.int .i64 tm.kind) := hSw.2 2 _ rfl
              have y3 : w.cell? ⟨gy, 3, none⟩ = some (.string tm.body) := hSw.2 3 _ rfl
              go_simp
            (try simp only [Act.put, List.setIfInBounds_toArray, List.set_cons_zero, List.set_cons_succ])
            refine regOnly 1 (by kernel_rfl) rfl (by rfl) (fun K hK => ?_)
            go_wp2_with (first
              | (go_at_call 24; refine (plain_any w8 tm).mono ?_; rintro e w9 ⟨rfl, hm9⟩; have H9 := hid (And.intro (H8.out.quiet hm9) hm9); clear hm9))
            refine hK.out _ _ (fun _ h => ⟨fun k u hu => H9.out.2.cell (h.1 k u hu) (by simp), fun k u hu => H9.out.2.cell (h.2 k u hu) (by simp)⟩) ?_
            clear hK hS
            (try simp only [Act.put, List.setIfInBounds_toArray, List.set_cons_zero, List.set_cons_succ])
            refine regA 3 168 (v := .bool true) rfl rfl (by kernel_rfl) (by kernel_rfl) (by kernel_rfl) (fun _ _ _ h => h) (by rfl) (fun w => ?_) ?_
            · have hq := heq w
              go_simp
            (try simp only [Act.put, List.setIfInBounds_toArray, List.set_cons_zero, List.set_cons_succ])
            refine regA 4 169 (v := ?_) rfl rfl (by kernel_rfl) (by kernel_rfl) (by kernel_rfl) (fun _ _ _ h => h) (by rfl) (fun w => ?_) ?_; rotate_left; (go_simp; first | done | with_reducible rfl); (try simp only [Act.put, List.setIfInBounds_toArray, List.set_cons_zero, List.set_cons_succ])
            refine regA 5 170 (v := ?_) rfl rfl (by kernel_rfl) (by kernel_rfl) (by kernel_rfl) (fun _ _ _ h => h) (by rfl) (fun w => ?_) ?_; rotate_left; (go_simp; first | done | with_reducible rfl); (try simp only [Act.put, List.setIfInBounds_toArray, List.set_cons_zero, List.set_cons_succ])
            refine regA 6 171 (v := ?_) rfl rfl (by kernel_rfl) (by kernel_rfl) (by kernel_rfl) (fun _ _ _ h => h) (by rfl) (fun w => ?_) ?_; rotate_left; (go_simp; first | done | with_reducible rfl); (try simp only [Act.put, List.setIfInBounds_toArray, List.set_cons_zero, List.set_cons_succ])
            refine regA 7 172 (v := ?_) rfl rfl (by kernel_rfl) (by kernel_rfl) (by kernel_rfl) (fun _ _ _ h => h) (by rfl) (fun w => ?_) ?_; rotate_left; (go_simp; first | done | with_reducible rfl); (try simp only [Act.put, List.setIfInBounds_toArray, List.set_cons_zero, List.set_cons_succ])
            refine regA 8 173 (v := ?_) rfl rfl (by kernel_rfl) (by kernel_rfl) (by kernel_rfl) (fun _ _ _ h => h) (by rfl) (fun w => ?_) ?_; rotate_left; (go_simp; first | done | with_reducible rfl); (try simp only [Act.put, List.setIfInBounds_toArray, List.set_cons_zero, List.set_cons_succ])
            refine regA 9 13 (v := ?_) rfl rfl (by kernel_rfl) (by kernel_rfl) (by kernel_rfl) (fun _ _ _ h => h) (by rfl) (fun w => ?_) ?_; rotate_left; (go_simp; first | done | with_reducible rfl); (try simp only [Act.put, List.setIfInBounds_toArray, List.set_cons_zero, List.set_cons_succ])
            refine regDone (by kernel_rfl) ?_ _
            go_wp2_with fail
            go_meet
            exact ⟨by simp, s1, HO1.out.1, by have := HO1.out.2; have := HO.out.2; omega, H9.out.1.net, H9.out.1.ref.mono (Nat.le_succ _), H9.out.1.act, H9.out.1.mod⟩
        · as_aux_lemma =>
            have hcopy := fun W hn => copy_any W p s xn hn HO.out.1 HSUM.out
            have hrc := fun W hr hB => rcopy_any (w := W) (B := w.heap.size) (y := y) (n := j) (s := s) hr (by have := HJ4.out; omega) HO.out.1 HSUM.out hB xn
            have ho1 := NetS.copy_ok HO.out.1 xn
            have hs1 := sent_copy s xn
            unfold NumPost at hcopy
            generalize s.copy xn = r at hcopy hrc ho1 hs1
            obtain ⟨s1, k1, e1⟩ := r
            dsimp only at hcopy hrc ho1 hs1
            have HCO := hid hcopy
            have HRC := hid hrc
            have HO1 := hid (And.intro ho1 hs1)
            have b1 := HP.out.at 1 A1.out
            clear hcopy hrc ho1 hs1
            go_upto_region 31 with (first
              | (go_at_call 17; refine (HCO.out w3 HP.out.net).mono ?_; rintro e w5 ⟨rfl, hn5, hm5⟩; have H5 := hid (HP.out.netcall HF.out hn5 hm5); clear hn5 hm5))
            clear b1
            have b1 := H5.out.at 1 A1.out
            go_wp2_with (first
              | (go_at_call 28; refine (HRC.out w5 H5.out.ref H5.out.mod.size).mono ?_; rintro e w8 ⟨rfl, hr8, hm8⟩; have H8 := hid (H5.out.refcall hr8 hm8); clear hr8 hm8))
            go_meet
            exact ⟨rfl, s1, HO1.out.1, by have := HO1.out.2; have := HO.out.2; omega, H8.out.net, H8.out.ref.mono (Nat.le_succ _), H8.out.act, H8.out.mod⟩
        · as_aux_lemma =>
            have hold := fun W hn => oldest_any W p s xn hn HO.out.1 HSUM.out
            have hro := fun W hr => roldest_any (w := W) (B := w.heap.size) (y := y) (n := j) (s := s) hr (by have := HJ4.out; omega) HO.out.1 xn
            generalize s.oldest xn = r at hold hro
            obtain ⟨k0, e0⟩ := r
            have htake := fun W hn => take_any W p s k0 hn HO.out.1 HSUM.out
            have hrt := fun W hr hB => rtake_any (w := W) (B := w.heap.size) (y := y) (n := j) (s := s) hr (by have := HJ4.out; omega) HO.out.1 HSUM.out hB k0
            have ho1 := NetS.take_ok HO.out.1 k0
            have hs1 := sent_take s k0
            unfold MsgPost at htake
            generalize s.take k0 = r at htake hrt ho1 hs1
            obtain ⟨s1, tm, te⟩ := r
            dsimp only [Msg.v] at hold hro htake hrt ho1 hs1
            have HOL := hid hold
            have HRO := hid hro
            have HTA := hid htake
            have HRT := hid hrt
            have HO1 := hid (And.intro ho1 hs1)
            have b1 := HP.out.at 1 A1.out
            clear hold hro htake hrt ho1 hs1
            go_upto_region 35 with (first
              | (go_at_call 14; refine (HOL.out w3 HP.out.net).mono ?_; rintro e w1 ⟨rfl, hm1⟩; have H1 := hid (HP.out.quiet hm1); clear hm1))
            clear b1
            have b1 := H1.out.at 1 A1.out
            go_upto_region 36 with (first
              | (go_at_call 29; refine (HRO.out w1 H1.out.ref).mono ?_; rintro e w9 ⟨rfl, hm9⟩; have H9 := hid (H1.out.quiet hm9); clear hm9))
            clear b1
            go_upto_region 37 with (first
              | (go_at_call 15; refine (HTA.out w9 H9.out.net).mono ?_; rintro e w4 ⟨rfl, hn4, hm4⟩; have H4 := hid (H9.out.netcall HF.out hn4 hm4); clear hn4 hm4))
            clear H9 H1
            have H5 := hid (H4.out.quiet ((Mod.refl _ w4).alloc (msgObj tm)))
            have hg5 := get_new w4 (msgObj tm)
            unfold msgObj at H5 hg5
            generalize (w4.alloc (.cells #[.int .i64 tm.frm, .int .i64 tm.to, .int .i64 tm.kind, .string tm.body] 29 (0, 0))) = w5 at *
            generalize w4.heap.size = gx at *
            go_upto_region 38 with (first
              | (go_at_call 27; refine (HRT.out w5 H5.out.ref H5.out.mod.size).mono ?_; rintro e w6 ⟨rfl, hr6, hm6⟩; have H6 := hid (And.intro (H5.out.refcall hr6 hm6) hm6); clear hr6 hm6))
            have H7 := hid (H6.out.1.quiet ((Mod.refl _ w6).alloc (rmsgObj tm)))
            have hg7 := get_alloc (H6.out.2.get hg5 (by decide)) (rmsgObj tm)
            have hr7 := get_new w6 (rmsgObj tm)
            clear hg5 H4 H5 H6
            unfold rmsgObj at H7 hg7 hr7
            generalize (w6.alloc (.cells #[.int .i64 tm.frm, .int .i64 tm.to, .int .i64 tm.kind, .string tm.body] 53 (0, 0))) = w7 at *
            generalize w6.heap.size = gy at *
            have heq := rmsg_same tm
            refine wp_region_N (fun w' => (∀ (k : Nat) (u : Value), tm.cells[k]? = some u → w'.cell? ⟨gx, k, none⟩ = some u) ∧ ∀ (k : Nat) (u : Value), tm.cells[k]? = some u → w'.cell? ⟨gy, k, none⟩ = some u) (fun _ => true) (by kernel_rfl) ?_
            have hS : (fun w' : World => (∀ (k : Nat) (u : Value), tm.cells[k]? = some u → w'.cell? ⟨gx, k, none⟩ = some u) ∧ ∀ (k : Nat) (u : Value), tm.cells[k]? = some u → w'.cell? ⟨gy, k, none⟩ = some u) w7.drew :=
              ⟨fun k u hu => (cell_at (w := w7) hg7 k).trans (by rw [← hu]; simp [Msg.cells]), fun k u hu => (cell_at (w := w7) hr7 k).trans (by rw [← hu]; simp [Msg.cells])⟩
            clear hg7 hr7
            have H8 := hid (H7.out.quiet ((Mod.refl _ w7).drew))
            clear H7
            generalize w7.drew = w8 at *
            refine regA 0 226 (v := ?_) rfl rfl (by kernel_rfl) (by kernel_rfl) (by kernel_rfl) (fun _ _ _ h => h) (by rfl) (fun w => ?_) ?_; rotate_left; (go_simp; first | done | with_reducible rfl); (try simp only [Act.put, List.setIfInBounds_toArray, List.set_cons_zero, List.set_cons_succ])
            refine regA 1 227 (v := ?_) rfl rfl (by kernel_rfl) (by kernel_rfl) (by kernel_rfl) (fun _ _ _ h => h) (by rfl) (fun w => ?_) ?_; rotate_left; (go_simp; first | done | with_reducible rfl); (try simp only [Act.put, List.setIfInBounds_toArray, List.set_cons_zero, List.set_cons_succ])
            refine regA 2 228 (v := ?_) rfl rfl (by kernel_rfl) (by kernel_rfl) (by kernel_rfl) (fun _ _ _ h => h) (by rfl) (fun w => ?_) ?_; rotate_left; (go_simp; first | done | with_reducible rfl); (try simp only [Act.put, List.setIfInBounds_toArray, List.set_cons_zero, List.set_cons_succ])
            refine regA 3 229 (v := ?_) rfl rfl (by kernel_rfl) (by kernel_rfl) (by kernel_rfl) (fun _ _ _ h => h) (by rfl) (fun w => ?_) ?_; rotate_left; (go_simp; first | done | with_reducible rfl); (try simp only [Act.put, List.setIfInBounds_toArray, List.set_cons_zero, List.set_cons_succ])
            refine regA 4 230 (v := ?_) rfl rfl (by kernel_rfl) (by kernel_rfl) (by kernel_rfl) (fun _ _ _ h => h) (by rfl) (fun w => ?_) ?_; rotate_left; (go_simp; first | done | with_reducible rfl); (try simp only [Act.put, List.setIfInBounds_toArray, List.set_cons_zero, List.set_cons_succ])
            refine regA 5 231 (v := ?_) rfl rfl (by kernel_rfl) (by kernel_rfl) (by kernel_rfl) (fun _ _ _ h => h) (by rfl) (fun w => ?_) ?_; rotate_left; (go_simp; first | done | with_reducible rfl); (try simp only [Act.put, List.setIfInBounds_toArray, List.set_cons_zero, List.set_cons_succ])
            refine regA 6 232 (v := ?_) rfl rfl (by kernel_rfl) (by kernel_rfl) (by kernel_rfl) (fun _ _ _ h => h) (by rfl) (fun w => ?_) ?_; rotate_left; (go_simp; first | done | with_reducible rfl); (try simp only [Act.put, List.setIfInBounds_toArray, List.set_cons_zero, List.set_cons_succ])
            refine regA 7 233 (v := ?_) rfl rfl (by kernel_rfl) (by kernel_rfl) (by kernel_rfl) (fun _ _ _ h => h) (by rfl) (fun w => ?_) ?_; rotate_left; (go_simp; first | done | with_reducible rfl); (try simp only [Act.put, List.setIfInBounds_toArray, List.set_cons_zero, List.set_cons_succ])
            refine regA 8 234 (v := ?_) rfl rfl (by kernel_rfl) (by kernel_rfl) (by kernel_rfl) (fun _ _ _ h => h) (by rfl) (fun w => ?_) ?_; rotate_left; (go_simp; first | done | with_reducible rfl); (try simp only [Act.put, List.setIfInBounds_toArray, List.set_cons_zero, List.set_cons_succ])
            refine regS 9 235 (v := .agg #[.int .i64 tm.frm, .int .i64 tm.to, .int .i64 tm.kind, .string tm.body]) hS rfl rfl (by kernel_rfl) (by kernel_rfl) (by kernel_rfl) (by kernel_rfl) (fun _ _ _ h => h) (by rfl) (fun w hSw => ?_) ?_
            · have y0 : w.cell? ⟨gx, 0, none⟩ = some (.int .i64 tm.frm) := hSw.1 0 _ rfl
              have y1 : w.cell? ⟨gx, 1, none⟩ = some (.int .i64 tm.to) := hSw.1 1 _ rfl
              have y2 : w.cell? ⟨gx, 2, none⟩ = some (.int .i64 tm.kind) := hSw.1 2 _ rfl
              have y3 : w.cell? ⟨gx, 3, none⟩ = some (.string tm.body) := hSw.1 3 _ rfl
              go_simp
            (try simp only [Act.put, List.setIfInBounds_toArray, List.set_cons_zero, List.set_cons_succ])
            refine regS 11 237 (v := .agg #[.int .i64 tm.frm, .int .i64 tm.to, .int .i64 tm.kind, .string tm.body]) hS rfl rfl (by kernel_rfl) (by kernel_rfl) (by kernel_rfl) (by kernel_rfl) (fun _ _ _ h => h) (by rfl) (fun w hSw => ?_) ?_
            · have y0 : w.cell? ⟨gy, 0, none⟩ = some (.int .i64 tm.frm) := hSw.2 0 _ rfl
              have y1 : w.cell? ⟨gy, 1, none⟩ = some (.int .i64 tm.to) := hSw.2 1 _ rfl
              have y2 : w.cell? ⟨gy, 2, none⟩ = some (.int .i64 tm.kind) := hSw.2 2 _ rfl
              have y3 : w.cell? ⟨gy, 3, none⟩ = some (.string tm.body) := hSw.2 3 _ rfl
              go_simp
            (try simp only [Act.put, List.setIfInBounds_toArray, List.set_cons_zero, List.set_cons_succ])
            refine regOnlyG 10 (by kernel_rfl) rfl (by rfl) (fun K hK => ?_)
            go_wp2_with (first
              | (go_at_call 24; refine (plain_any w8 tm).mono ?_; rintro e w9 ⟨rfl, hm9⟩; have H9 := hid (And.intro (H8.out.quiet hm9) hm9); clear hm9))
            refine hK.out _ _ (fun _ h => ⟨fun k u hu => H9.out.2.cell (h.1 k u hu) (by simp), fun k u hu => H9.out.2.cell (h.2 k u hu) (by simp)⟩) ?_
            clear hK hS
            (try simp only [Act.put, List.setIfInBounds_toArray, List.set_cons_zero, List.set_cons_succ])
            refine regA 12 238 (v := .bool true) rfl rfl (by kernel_rfl) (by kernel_rfl) (by kernel_rfl) (fun _ _ _ h => h) (by rfl) (fun w => ?_) ?_
            · have hq := heq w
              go_simp
            (try simp only [Act.put, List.setIfInBounds_toArray, List.set_cons_zero, List.set_cons_succ])
            refine regA 13 239 (v := ?_) rfl rfl (by kernel_rfl) (by kernel_rfl) (by kernel_rfl) (fun _ _ _ h => h) (by rfl) (fun w => ?_) ?_; rotate_left; (go_simp; first | done | with_reducible rfl); (try simp only [Act.put, List.setIfInBounds_toArray, List.set_cons_zero, List.set_cons_succ])
            refine regA 14 240 (v := ?_) rfl rfl (by kernel_rfl) (by kernel_rfl) (by kernel_rfl) (fun _ _ _ h => h) (by rfl) (fun w => ?_) ?_; rotate_left; (go_simp; first | done | with_reducible rfl); (try simp only [Act.put, List.setIfInBounds_toArray, List.set_cons_zero, List.set_cons_succ])
            refine regA 15 241 (v := ?_) rfl rfl (by kernel_rfl) (by kernel_rfl) (by kernel_rfl) (fun _ _ _ h => h) (by rfl) (fun w => ?_) ?_; rotate_left; (go_simp; first | done | with_reducible rfl); (try simp only [Act.put, List.setIfInBounds_toArray, List.set_cons_zero, List.set_cons_succ])
            refine regA 16 242 (v := ?_) rfl rfl (by kernel_rfl) (by kernel_rfl) (by kernel_rfl) (fun _ _ _ h => h) (by rfl) (fun w => ?_) ?_; rotate_left; (go_simp; first | done | with_reducible rfl); (try simp only [Act.put, List.setIfInBounds_toArray, List.set_cons_zero, List.set_cons_succ])
            refine regA 17 243 (v := ?_) rfl rfl (by kernel_rfl) (by kernel_rfl) (by kernel_rfl) (fun _ _ _ h => h) (by rfl) (fun w => ?_) ?_; rotate_left; (go_simp; first | done | with_reducible rfl); (try simp only [Act.put, List.setIfInBounds_toArray, List.set_cons_zero, List.set_cons_succ])
            refine regA 18 244 (v := ?_) rfl rfl (by kernel_rfl) (by kernel_rfl) (by kernel_rfl) (fun _ _ _ h => h) (by rfl) (fun w => ?_) ?_; rotate_left; (go_simp; first | done | with_reducible rfl); (try simp only [Act.put, List.setIfInBounds_toArray, List.set_cons_zero, List.set_cons_succ])
            refine regA 19 13 (v := ?_) rfl rfl (by kernel_rfl) (by kernel_rfl) (by kernel_rfl) (fun _ _ _ h => h) (by rfl) (fun w => ?_) ?_; rotate_left; (go_simp; first | done | with_reducible rfl); (try simp only [Act.put, List.setIfInBounds_toArray, List.set_cons_zero, List.set_cons_succ])
            refine regDone (by kernel_rfl) ?_ _
            go_wp2_with fail
            go_meet
            exact ⟨by simp, s1, HO1.out.1, by have := HO1.out.2; have := HO.out.2; omega, H9.out.1.net, H9.out.1.ref.mono (Nat.le_succ _), H9.out.1.act, H9.out.1.mod⟩
        · as_aux_lemma =>
            have hcutn := fun W hn => cut_any W p s xn xt xon hn HO.out.1
            have hrc := fun W hr hB => rcutting_any (w := W) (B := w.heap.size) (y := y) (n := j) (s := s) hr HJ4.out HO.out.1 hB xn xt xon
            have ho1 := NetS.cutting_ok HO.out.1 (xn, xt) xon
            have hs1 := sent_cut s (xn, xt) xon
            unfold ErrPost at hcutn
            generalize s.cutting (xn, xt) xon = r at hcutn hrc ho1 hs1
            obtain ⟨s1, e1⟩ := r
            dsimp only at hcutn hrc ho1 hs1
            have HCO := hid hcutn
            have HRC := hid hrc
            have HO1 := hid (And.intro ho1 hs1)
            clear hcutn hrc ho1 hs1
            go_upto_region 40 with fail
            refine wp_region_N (fun w' => w'.cell? ⟨ba, 1, none⟩ = some (.int .i64 xn) ∧ w'.cell? ⟨ba, 2, none⟩ = some (.int .i64 xt) ∧ w'.cell? ⟨ba, 3, none⟩ = some (.bool xon)) (fun _ => true) (by kernel_rfl) ?_
            have H4 := hid (HP.out.quiet ((Mod.refl _ w3).drew))
            have hS : (fun w' : World => w'.cell? ⟨ba, 1, none⟩ = some (.int .i64 xn) ∧ w'.cell? ⟨ba, 2, none⟩ = some (.int .i64 xt) ∧ w'.cell? ⟨ba, 3, none⟩ = some (.bool xon)) w3.drew := ⟨H4.out.at 1 A1.out, H4.out.at 2 A2.out, H4.out.at 3 A3.out⟩
            generalize w3.drew = w4 at *
            refine regA 0 247 (v := ?_) rfl rfl (by kernel_rfl) (by kernel_rfl) (by kernel_rfl) (fun _ _ _ h => h) (by rfl) (fun w => ?_) ?_; rotate_left; (go_simp; first | done | with_reducible rfl); (try simp only [Act.put, List.setIfInBounds_toArray, List.set_cons_zero, List.set_cons_succ])
            refine regA 1 248 (v := ?_) rfl rfl (by kernel_rfl) (by kernel_rfl) (by kernel_rfl) (fun _ _ _ h => h) (by rfl) (fun w => ?_) ?_; rotate_left; (go_simp; first | done | with_reducible rfl); (try simp only [Act.put, List.setIfInBounds_toArray, List.set_cons_zero, List.set_cons_succ])
            refine regS 2 249 (v := ?_) hS rfl rfl (by kernel_rfl) (by kernel_rfl) (by kernel_rfl) (by kernel_rfl) (fun _ _ _ h => h) (by rfl) (fun w hSw => ?_) ?_; rotate_left; (go_simp; first | done | with_reducible rfl); (try simp only [Act.put, List.setIfInBounds_toArray, List.set_cons_zero, List.set_cons_succ])
            refine regA 3 250 (v := ?_) rfl rfl (by kernel_rfl) (by kernel_rfl) (by kernel_rfl) (fun _ _ _ h => h) (by rfl) (fun w => ?_) ?_; rotate_left; (go_simp; first | done | with_reducible rfl); (try simp only [Act.put, List.setIfInBounds_toArray, List.set_cons_zero, List.set_cons_succ])
            refine regS 4 251 (v := ?_) hS rfl rfl (by kernel_rfl) (by kernel_rfl) (by kernel_rfl) (by kernel_rfl) (fun _ _ _ h => h) (by rfl) (fun w hSw => ?_) ?_; rotate_left; (go_simp; first | done | with_reducible rfl); (try simp only [Act.put, List.setIfInBounds_toArray, List.set_cons_zero, List.set_cons_succ])
            refine regA 5 252 (v := ?_) rfl rfl (by kernel_rfl) (by kernel_rfl) (by kernel_rfl) (fun _ _ _ h => h) (by rfl) (fun w => ?_) ?_; rotate_left; (go_simp; first | done | with_reducible rfl); (try simp only [Act.put, List.setIfInBounds_toArray, List.set_cons_zero, List.set_cons_succ])
            refine regS 6 253 (v := ?_) hS rfl rfl (by kernel_rfl) (by kernel_rfl) (by kernel_rfl) (by kernel_rfl) (fun _ _ _ h => h) (by rfl) (fun w hSw => ?_) ?_; rotate_left; (go_simp; first | done | with_reducible rfl); (try simp only [Act.put, List.setIfInBounds_toArray, List.set_cons_zero, List.set_cons_succ])
            refine regA 8 255 (v := ?_) rfl rfl (by kernel_rfl) (by kernel_rfl) (by kernel_rfl) (fun _ _ _ h => h) (by rfl) (fun w => ?_) ?_; rotate_left; (go_simp; first | done | with_reducible rfl); (try simp only [Act.put, List.setIfInBounds_toArray, List.set_cons_zero, List.set_cons_succ])
            refine regA 9 256 (v := ?_) rfl rfl (by kernel_rfl) (by kernel_rfl) (by kernel_rfl) (fun _ _ _ h => h) (by rfl) (fun w => ?_) ?_; rotate_left; (go_simp; first | done | with_reducible rfl); (try simp only [Act.put, List.setIfInBounds_toArray, List.set_cons_zero, List.set_cons_succ])
            refine regS 10 257 (v := ?_) hS rfl rfl (by kernel_rfl) (by kernel_rfl) (by kernel_rfl) (by kernel_rfl) (fun _ _ _ h => h) (by rfl) (fun w hSw => ?_) ?_; rotate_left; (go_simp; first | done | with_reducible rfl); (try simp only [Act.put, List.setIfInBounds_toArray, List.set_cons_zero, List.set_cons_succ])
            refine regA 11 258 (v := ?_) rfl rfl (by kernel_rfl) (by kernel_rfl) (by kernel_rfl) (fun _ _ _ h => h) (by rfl) (fun w => ?_) ?_; rotate_left; (go_simp; first | done | with_reducible rfl); (try simp only [Act.put, List.setIfInBounds_toArray, List.set_cons_zero, List.set_cons_succ])
            refine regS 12 259 (v := ?_) hS rfl rfl (by kernel_rfl) (by kernel_rfl) (by kernel_rfl) (by kernel_rfl) (fun _ _ _ h => h) (by rfl) (fun w hSw => ?_) ?_; rotate_left; (go_simp; first | done | with_reducible rfl); (try simp only [Act.put, List.setIfInBounds_toArray, List.set_cons_zero, List.set_cons_succ])
            refine regA 13 260 (v := ?_) rfl rfl (by kernel_rfl) (by kernel_rfl) (by kernel_rfl) (fun _ _ _ h => h) (by rfl) (fun w => ?_) ?_; rotate_left; (go_simp; first | done | with_reducible rfl); (try simp only [Act.put, List.setIfInBounds_toArray, List.set_cons_zero, List.set_cons_succ])
            refine regS 14 261 (v := ?_) hS rfl rfl (by kernel_rfl) (by kernel_rfl) (by kernel_rfl) (by kernel_rfl) (fun _ _ _ h => h) (by rfl) (fun w hSw => ?_) ?_; rotate_left; (go_simp; first | done | with_reducible rfl); (try simp only [Act.put, List.setIfInBounds_toArray, List.set_cons_zero, List.set_cons_succ])
            refine regOnly 7 (by kernel_rfl) rfl (by rfl) (fun K hK => ?_)
            go_wp2_with (first
              | (go_at_call 19; refine (HCO.out w4 H4.out.net).mono ?_; rintro e w5 ⟨rfl, hn5, hm5⟩; have H5 := hid (H4.out.netcall HF.out hn5 hm5); clear hn5 hm5))
            refine hK.out _ _ (fun _ _ => ⟨H5.out.at 1 A1.out, H5.out.at 2 A2.out, H5.out.at 3 A3.out⟩) ?_
            clear hK
            (try simp only [Act.put, List.setIfInBounds_toArray, List.set_cons_zero, List.set_cons_succ])
            refine regOnly 15 (by kernel_rfl) rfl (by rfl) (fun K hK => ?_)
            go_wp2_with (first
              | (go_at_call 30; refine (HRC.out w5 H5.out.ref H5.out.mod.size).mono ?_; rintro e w8 ⟨rfl, hr8, hm8⟩; have H8 := hid (H5.out.refcall hr8 hm8); clear hr8 hm8))
            refine hK.out _ _ (fun _ _ => ⟨H8.out.at 1 A1.out, H8.out.at 2 A2.out, H8.out.at 3 A3.out⟩) ?_
            clear hK hS
            (try simp only [Act.put, List.setIfInBounds_toArray, List.set_cons_zero, List.set_cons_succ])
            refine regA 16 263 (v := ?_) rfl rfl (by kernel_rfl) (by kernel_rfl) (by kernel_rfl) (fun _ _ _ h => h) (by rfl) (fun w => ?_) ?_; rotate_left; (go_simp; first | done | with_reducible rfl); (try simp only [Act.put, List.setIfInBounds_toArray, List.set_cons_zero, List.set_cons_succ])
            refine regA 17 13 (v := ?_) rfl rfl (by kernel_rfl) (by kernel_rfl) (by kernel_rfl) (fun _ _ _ h => h) (by rfl) (fun w => ?_) ?_; rotate_left; (go_simp; first | done | with_reducible rfl); (try simp only [Act.put, List.setIfInBounds_toArray, List.set_cons_zero, List.set_cons_succ])
            refine regDone (by kernel_rfl) ?_ _
            go_wp2_with fail
            go_meet
            exact ⟨by simp, s1, HO1.out.1, by have := HO1.out.2; have := HO.out.2; omega, H8.out.net, H8.out.ref, H8.out.act, H8.out.mod⟩
        · as_aux_lemma =>
            have hdownn := fun W hn => down_any W p s xn xon hn HO.out.1 HSUM.out
            have hrc := fun W hr hB => rdowning_any (w := W) (B := w.heap.size) (y := y) (n := j) (s := s) hr HO.out.1 HSUM.out hB xn xon
            have ho1 := NetS.downing_ok HO.out.1 xn xon
            have hs1 := sent_down s xn xon
            unfold ErrPost at hdownn
            generalize s.downing xn xon = r at hdownn hrc ho1 hs1
            obtain ⟨s1, e1⟩ := r
            dsimp only at hdownn hrc ho1 hs1
            have HCO := hid hdownn
            have HRC := hid hrc
            have HO1 := hid (And.intro ho1 hs1)
            clear hdownn hrc ho1 hs1
            go_upto_region 13 with fail
            refine wp_region_N (fun w' => w'.cell? ⟨ba, 1, none⟩ = some (.int .i64 xn) ∧ w'.cell? ⟨ba, 3, none⟩ = some (.bool xon)) (fun _ => true) (by kernel_rfl) ?_
            have H4 := hid (HP.out.quiet ((Mod.refl _ w3).drew))
            have hS : (fun w' : World => w'.cell? ⟨ba, 1, none⟩ = some (.int .i64 xn) ∧ w'.cell? ⟨ba, 3, none⟩ = some (.bool xon)) w3.drew := ⟨H4.out.at 1 A1.out, H4.out.at 3 A3.out⟩
            generalize w3.drew = w4 at *
            refine regA 0 83 (v := ?_) rfl rfl (by kernel_rfl) (by kernel_rfl) (by kernel_rfl) (fun _ _ _ h => h) (by rfl) (fun w => ?_) ?_; rotate_left; (go_simp; first | done | with_reducible rfl); (try simp only [Act.put, List.setIfInBounds_toArray, List.set_cons_zero, List.set_cons_succ])
            refine regA 1 84 (v := ?_) rfl rfl (by kernel_rfl) (by kernel_rfl) (by kernel_rfl) (fun _ _ _ h => h) (by rfl) (fun w => ?_) ?_; rotate_left; (go_simp; first | done | with_reducible rfl); (try simp only [Act.put, List.setIfInBounds_toArray, List.set_cons_zero, List.set_cons_succ])
            refine regS 2 85 (v := ?_) hS rfl rfl (by kernel_rfl) (by kernel_rfl) (by kernel_rfl) (by kernel_rfl) (fun _ _ _ h => h) (by rfl) (fun w hSw => ?_) ?_; rotate_left; (go_simp; first | done | with_reducible rfl); (try simp only [Act.put, List.setIfInBounds_toArray, List.set_cons_zero, List.set_cons_succ])
            refine regA 3 86 (v := ?_) rfl rfl (by kernel_rfl) (by kernel_rfl) (by kernel_rfl) (fun _ _ _ h => h) (by rfl) (fun w => ?_) ?_; rotate_left; (go_simp; first | done | with_reducible rfl); (try simp only [Act.put, List.setIfInBounds_toArray, List.set_cons_zero, List.set_cons_succ])
            refine regS 4 87 (v := ?_) hS rfl rfl (by kernel_rfl) (by kernel_rfl) (by kernel_rfl) (by kernel_rfl) (fun _ _ _ h => h) (by rfl) (fun w hSw => ?_) ?_; rotate_left; (go_simp; first | done | with_reducible rfl); (try simp only [Act.put, List.setIfInBounds_toArray, List.set_cons_zero, List.set_cons_succ])
            refine regA 6 89 (v := ?_) rfl rfl (by kernel_rfl) (by kernel_rfl) (by kernel_rfl) (fun _ _ _ h => h) (by rfl) (fun w => ?_) ?_; rotate_left; (go_simp; first | done | with_reducible rfl); (try simp only [Act.put, List.setIfInBounds_toArray, List.set_cons_zero, List.set_cons_succ])
            refine regA 7 90 (v := ?_) rfl rfl (by kernel_rfl) (by kernel_rfl) (by kernel_rfl) (fun _ _ _ h => h) (by rfl) (fun w => ?_) ?_; rotate_left; (go_simp; first | done | with_reducible rfl); (try simp only [Act.put, List.setIfInBounds_toArray, List.set_cons_zero, List.set_cons_succ])
            refine regS 8 91 (v := ?_) hS rfl rfl (by kernel_rfl) (by kernel_rfl) (by kernel_rfl) (by kernel_rfl) (fun _ _ _ h => h) (by rfl) (fun w hSw => ?_) ?_; rotate_left; (go_simp; first | done | with_reducible rfl); (try simp only [Act.put, List.setIfInBounds_toArray, List.set_cons_zero, List.set_cons_succ])
            refine regA 9 92 (v := ?_) rfl rfl (by kernel_rfl) (by kernel_rfl) (by kernel_rfl) (fun _ _ _ h => h) (by rfl) (fun w => ?_) ?_; rotate_left; (go_simp; first | done | with_reducible rfl); (try simp only [Act.put, List.setIfInBounds_toArray, List.set_cons_zero, List.set_cons_succ])
            refine regS 10 93 (v := ?_) hS rfl rfl (by kernel_rfl) (by kernel_rfl) (by kernel_rfl) (by kernel_rfl) (fun _ _ _ h => h) (by rfl) (fun w hSw => ?_) ?_; rotate_left; (go_simp; first | done | with_reducible rfl); (try simp only [Act.put, List.setIfInBounds_toArray, List.set_cons_zero, List.set_cons_succ])
            refine regOnly 5 (by kernel_rfl) rfl (by rfl) (fun K hK => ?_)
            go_wp2_with (first
              | (go_at_call 21; refine (HCO.out w4 H4.out.net).mono ?_; rintro e w5 ⟨rfl, hn5, hm5⟩; have H5 := hid (H4.out.netcall HF.out hn5 hm5); clear hn5 hm5))
            refine hK.out _ _ (fun _ _ => ⟨H5.out.at 1 A1.out, H5.out.at 3 A3.out⟩) ?_
            clear hK
            (try simp only [Act.put, List.setIfInBounds_toArray, List.set_cons_zero, List.set_cons_succ])
            refine regOnly 11 (by kernel_rfl) rfl (by rfl) (fun K hK => ?_)
            go_wp2_with (first
              | (go_at_call 31; refine (HRC.out w5 H5.out.ref H5.out.mod.size).mono ?_; rintro e w8 ⟨rfl, hr8, hm8⟩; have H8 := hid (H5.out.refcall hr8 hm8); clear hr8 hm8))
            refine hK.out _ _ (fun _ _ => ⟨H8.out.at 1 A1.out, H8.out.at 3 A3.out⟩) ?_
            clear hK hS
            (try simp only [Act.put, List.setIfInBounds_toArray, List.set_cons_zero, List.set_cons_succ])
            refine regA 12 95 (v := ?_) rfl rfl (by kernel_rfl) (by kernel_rfl) (by kernel_rfl) (fun _ _ _ h => h) (by rfl) (fun w => ?_) ?_; rotate_left; (go_simp; first | done | with_reducible rfl); (try simp only [Act.put, List.setIfInBounds_toArray, List.set_cons_zero, List.set_cons_succ])
            refine regA 13 13 (v := ?_) rfl rfl (by kernel_rfl) (by kernel_rfl) (by kernel_rfl) (fun _ _ _ h => h) (by rfl) (fun w => ?_) ?_; rotate_left; (go_simp; first | done | with_reducible rfl); (try simp only [Act.put, List.setIfInBounds_toArray, List.set_cons_zero, List.set_cons_succ])
            refine regDone (by kernel_rfl) ?_ _
            go_wp2_with fail
            go_meet
            exact ⟨by simp, s1, HO1.out.1, by have := HO1.out.2; have := HO.out.2; omega, H8.out.net, H8.out.ref.mono (Nat.le_succ _), H8.out.act, H8.out.mod⟩
      case rest =>
        as_aux_lemma =>
          obtain ⟨rfl, s', ho', hs', hP'⟩ := hcut
          have hsum : s'.sent ≤ 1000000 := by have := HJ.out.2; omega
          have hct := count_any wc p s' hP'.net
          have HCT := hid hct
          have HP' := hid hP'
          have HO' := hid (And.intro ho' hs')
          have hw1 := fun W hn tp => waiting_any W p s' tp hn ho' hsum
          have hw2 := fun W hr tp => rwaiting_any (w := W) (B := w.heap.size) (y := y) (n := j + 1) (s := s') hr ho' tp
          have HW1 := hid hw1
          have HW2 := hid hw2
          have A1 := hid (show AC[1]? = some (Value.int .i64 xn) from by rw [HAC.out]; rfl)
          have hwl : ∀ tp, (s'.waiting tp).length ≤ 5000 := fun tp => by have h1 := waiting_le s' tp; have := ho'.fits; have := ho'.room; omega
          have HWL := hid hwl
          clear hct ho' hs' hP' hw1 hw2 HL HOK HMK HRK H2 H3 hsm hsz j0 j1 a9 HAC hsum HP HO hwl
          go_upto_region 42 with (first
            | (go_at_call 20; refine HCT.out.mono ?_; rintro e w4 ⟨rfl, hm4⟩; have H4 := hid (HP'.out.quiet hm4); clear hm4))
          obtain ⟨S3, hS3⟩ : ∃ S3, S3 = s'.sent := ⟨_, rfl⟩
          obtain ⟨S4, hS4⟩ : ∃ S4, S4 = s'.taken := ⟨_, rfl⟩
          obtain ⟨S5, hS5⟩ : ∃ S5, S5 = s'.lost := ⟨_, rfl⟩
          rw [← hS3, ← hS4, ← hS5]
          have hread : ∀ W : World, Play w p y (j + 1) ba AC s' s' W → W.cell? ⟨y, 3, none⟩ = some (.int .i64 S3) ∧ W.cell? ⟨y, 4, none⟩ = some (.int .i64 S4) ∧ W.cell? ⟨y, 5, none⟩ = some (.int .i64 S5) ∧ W.cell? ⟨ba, 1, none⟩ = some (.int .i64 xn) := fun W h => by
            obtain ⟨vl, vc, cl, dn, hr, _⟩ := h.ref
            rw [hS3, hS4, hS5]
            exact ⟨hr.all.2.2.2.1, hr.all.2.2.2.2.1, hr.all.2.2.2.2.2.1, h.at 1 A1.out⟩
          have HRD := hid hread
          clear hread hS3 hS4 hS5 HCT
          refine wp_region_N (fun W => W.cell? ⟨y, 3, none⟩ = some (.int .i64 S3) ∧ W.cell? ⟨y, 4, none⟩ = some (.int .i64 S4) ∧ W.cell? ⟨y, 5, none⟩ = some (.int .i64 S5) ∧ W.cell? ⟨ba, 1, none⟩ = some (.int .i64 xn)) (fun _ => true) (by kernel_rfl) ?_
          have H5 := hid (H4.out.quiet ((Mod.refl _ w4).drew))
          have hS : (fun W : World => W.cell? ⟨y, 3, none⟩ = some (.int .i64 S3) ∧ W.cell? ⟨y, 4, none⟩ = some (.int .i64 S4) ∧ W.cell? ⟨y, 5, none⟩ = some (.int .i64 S5) ∧ W.cell? ⟨ba, 1, none⟩ = some (.int .i64 xn)) w4.drew := HRD.out _ H5.out
          clear H4
          generalize w4.drew = w5 at *
          refine regA 0 270 (v := ?_) rfl rfl (by kernel_rfl) (by kernel_rfl) (by kernel_rfl) (fun _ _ _ h => h) (by rfl) (fun w => ?_) ?_; rotate_left; (go_simp; first | done | with_reducible rfl); (try simp only [Act.put, List.setIfInBounds_toArray, List.set_cons_zero, List.set_cons_succ])
          refine regA 1 271 (v := ?_) rfl rfl (by kernel_rfl) (by kernel_rfl) (by kernel_rfl) (fun _ _ _ h => h) (by rfl) (fun w => ?_) ?_; rotate_left; (go_simp; first | done | with_reducible rfl); (try simp only [Act.put, List.setIfInBounds_toArray, List.set_cons_zero, List.set_cons_succ])
          refine regA 2 272 (v := ?_) rfl rfl (by kernel_rfl) (by kernel_rfl) (by kernel_rfl) (fun _ _ _ h => h) (by rfl) (fun w => ?_) ?_; rotate_left; (go_simp; first | done | with_reducible rfl); (try simp only [Act.put, List.setIfInBounds_toArray, List.set_cons_zero, List.set_cons_succ])
          refine regA 3 273 (v := ?_) rfl rfl (by kernel_rfl) (by kernel_rfl) (by kernel_rfl) (fun _ _ _ h => h) (by rfl) (fun w => ?_) ?_; rotate_left; (go_simp; first | done | with_reducible rfl); (try simp only [Act.put, List.setIfInBounds_toArray, List.set_cons_zero, List.set_cons_succ])
          refine regA 4 274 (v := ?_) rfl rfl (by kernel_rfl) (by kernel_rfl) (by kernel_rfl) (fun _ _ _ h => h) (by rfl) (fun w => ?_) ?_; rotate_left; (go_simp; first | done | with_reducible rfl); (try simp only [Act.put, List.setIfInBounds_toArray, List.set_cons_zero, List.set_cons_succ])
          refine regA 5 275 (v := ?_) rfl rfl (by kernel_rfl) (by kernel_rfl) (by kernel_rfl) (fun _ _ _ h => h) (by rfl) (fun w => ?_) ?_; rotate_left; (go_simp; first | done | with_reducible rfl); (try simp only [Act.put, List.setIfInBounds_toArray, List.set_cons_zero, List.set_cons_succ])
          refine regA 6 276 (v := ?_) rfl rfl (by kernel_rfl) (by kernel_rfl) (by kernel_rfl) (fun _ _ _ h => h) (by rfl) (fun w => ?_) ?_; rotate_left; (go_simp; first | done | with_reducible rfl); (try simp only [Act.put, List.setIfInBounds_toArray, List.set_cons_zero, List.set_cons_succ])
          refine regS 7 277 (v := ?_) hS rfl rfl (by kernel_rfl) (by kernel_rfl) (by kernel_rfl) (by kernel_rfl) (fun _ _ _ h => h) (by rfl) (fun w hSw => ?_) ?_; rotate_left; (go_simp; first | done | with_reducible rfl); (try simp only [Act.put, List.setIfInBounds_toArray, List.set_cons_zero, List.set_cons_succ])
          refine regA 8 278 (v := ?_) rfl rfl (by kernel_rfl) (by kernel_rfl) (by kernel_rfl) (fun _ _ _ h => h) (by rfl) (fun w => ?_) ?_; rotate_left; (go_simp; first | done | with_reducible rfl); (try simp only [Act.put, List.setIfInBounds_toArray, List.set_cons_zero, List.set_cons_succ])
          refine regA 9 279 (v := ?_) rfl rfl (by kernel_rfl) (by kernel_rfl) (by kernel_rfl) (fun _ _ _ h => h) (by rfl) (fun w => ?_) ?_; rotate_left; (go_simp; first | done | with_reducible rfl); (try simp only [Act.put, List.setIfInBounds_toArray, List.set_cons_zero, List.set_cons_succ])
          refine regA 10 280 (v := ?_) rfl rfl (by kernel_rfl) (by kernel_rfl) (by kernel_rfl) (fun _ _ _ h => h) (by rfl) (fun w => ?_) ?_; rotate_left; (go_simp; first | done | with_reducible rfl); (try simp only [Act.put, List.setIfInBounds_toArray, List.set_cons_zero, List.set_cons_succ])
          refine regA 11 281 (v := ?_) rfl rfl (by kernel_rfl) (by kernel_rfl) (by kernel_rfl) (fun _ _ _ h => h) (by rfl) (fun w => ?_) ?_; rotate_left; (go_simp; first | done | with_reducible rfl); (try simp only [Act.put, List.setIfInBounds_toArray, List.set_cons_zero, List.set_cons_succ])
          refine regA 12 282 (v := ?_) rfl rfl (by kernel_rfl) (by kernel_rfl) (by kernel_rfl) (fun _ _ _ h => h) (by rfl) (fun w => ?_) ?_; rotate_left; (go_simp; first | done | with_reducible rfl); (try simp only [Act.put, List.setIfInBounds_toArray, List.set_cons_zero, List.set_cons_succ])
          refine regA 13 283 (v := ?_) rfl rfl (by kernel_rfl) (by kernel_rfl) (by kernel_rfl) (fun _ _ _ h => h) (by rfl) (fun w => ?_) ?_; rotate_left; (go_simp; first | done | with_reducible rfl); (try simp only [Act.put, List.setIfInBounds_toArray, List.set_cons_zero, List.set_cons_succ])
          refine regA 14 284 (v := ?_) rfl rfl (by kernel_rfl) (by kernel_rfl) (by kernel_rfl) (fun _ _ _ h => h) (by rfl) (fun w => ?_) ?_; rotate_left; (go_simp; first | done | with_reducible rfl); (try simp only [Act.put, List.setIfInBounds_toArray, List.set_cons_zero, List.set_cons_succ])
          refine regS 15 285 (v := ?_) hS rfl rfl (by kernel_rfl) (by kernel_rfl) (by kernel_rfl) (by kernel_rfl) (fun _ _ _ h => h) (by rfl) (fun w hSw => ?_) ?_; rotate_left; (go_simp; first | done | with_reducible rfl); (try simp only [Act.put, List.setIfInBounds_toArray, List.set_cons_zero, List.set_cons_succ])
          refine regA 16 286 (v := ?_) rfl rfl (by kernel_rfl) (by kernel_rfl) (by kernel_rfl) (fun _ _ _ h => h) (by rfl) (fun w => ?_) ?_; rotate_left; (go_simp; first | done | with_reducible rfl); (try simp only [Act.put, List.setIfInBounds_toArray, List.set_cons_zero, List.set_cons_succ])
          refine regA 17 287 (v := ?_) rfl rfl (by kernel_rfl) (by kernel_rfl) (by kernel_rfl) (fun _ _ _ h => h) (by rfl) (fun w => ?_) ?_; rotate_left; (go_simp; first | done | with_reducible rfl); (try simp only [Act.put, List.setIfInBounds_toArray, List.set_cons_zero, List.set_cons_succ])
          refine regA 18 288 (v := ?_) rfl rfl (by kernel_rfl) (by kernel_rfl) (by kernel_rfl) (fun _ _ _ h => h) (by rfl) (fun w => ?_) ?_; rotate_left; (go_simp; first | done | with_reducible rfl); (try simp only [Act.put, List.setIfInBounds_toArray, List.set_cons_zero, List.set_cons_succ])
          refine regA 19 289 (v := ?_) rfl rfl (by kernel_rfl) (by kernel_rfl) (by kernel_rfl) (fun _ _ _ h => h) (by rfl) (fun w => ?_) ?_; rotate_left; (go_simp; first | done | with_reducible rfl); (try simp only [Act.put, List.setIfInBounds_toArray, List.set_cons_zero, List.set_cons_succ])
          refine regA 20 290 (v := ?_) rfl rfl (by kernel_rfl) (by kernel_rfl) (by kernel_rfl) (fun _ _ _ h => h) (by rfl) (fun w => ?_) ?_; rotate_left; (go_simp; first | done | with_reducible rfl); (try simp only [Act.put, List.setIfInBounds_toArray, List.set_cons_zero, List.set_cons_succ])
          refine regA 21 291 (v := ?_) rfl rfl (by kernel_rfl) (by kernel_rfl) (by kernel_rfl) (fun _ _ _ h => h) (by rfl) (fun w => ?_) ?_; rotate_left; (go_simp; first | done | with_reducible rfl); (try simp only [Act.put, List.setIfInBounds_toArray, List.set_cons_zero, List.set_cons_succ])
          refine regA 22 292 (v := ?_) rfl rfl (by kernel_rfl) (by kernel_rfl) (by kernel_rfl) (fun _ _ _ h => h) (by rfl) (fun w => ?_) ?_; rotate_left; (go_simp; first | done | with_reducible rfl); (try simp only [Act.put, List.setIfInBounds_toArray, List.set_cons_zero, List.set_cons_succ])
          refine regS 23 293 (v := ?_) hS rfl rfl (by kernel_rfl) (by kernel_rfl) (by kernel_rfl) (by kernel_rfl) (fun _ _ _ h => h) (by rfl) (fun w hSw => ?_) ?_; rotate_left; (go_simp; first | done | with_reducible rfl); (try simp only [Act.put, List.setIfInBounds_toArray, List.set_cons_zero, List.set_cons_succ])
          refine regA 24 294 (v := ?_) rfl rfl (by kernel_rfl) (by kernel_rfl) (by kernel_rfl) (fun _ _ _ h => h) (by rfl) (fun w => ?_) ?_; rotate_left; (go_simp; first | done | with_reducible rfl); (try simp only [Act.put, List.setIfInBounds_toArray, List.set_cons_zero, List.set_cons_succ])
          refine regA 25 295 (v := ?_) rfl rfl (by kernel_rfl) (by kernel_rfl) (by kernel_rfl) (fun _ _ _ h => h) (by rfl) (fun w => ?_) ?_; rotate_left; (go_simp; first | done | with_reducible rfl); (try simp only [Act.put, List.setIfInBounds_toArray, List.set_cons_zero, List.set_cons_succ])
          refine regA 26 296 (v := ?_) rfl rfl (by kernel_rfl) (by kernel_rfl) (by kernel_rfl) (fun _ _ _ h => h) (by rfl) (fun w => ?_) ?_; rotate_left; (go_simp; first | done | with_reducible rfl); (try simp only [Act.put, List.setIfInBounds_toArray, List.set_cons_zero, List.set_cons_succ])
          refine regA 27 297 (v := ?_) rfl rfl (by kernel_rfl) (by kernel_rfl) (by kernel_rfl) (fun _ _ _ h => h) (by rfl) (fun w => ?_) ?_; rotate_left; (go_simp; first | done | with_reducible rfl); (try simp only [Act.put, List.setIfInBounds_toArray, List.set_cons_zero, List.set_cons_succ])
          refine regA 28 298 (v := ?_) rfl rfl (by kernel_rfl) (by kernel_rfl) (by kernel_rfl) (fun _ _ _ h => h) (by rfl) (fun w => ?_) ?_; rotate_left; (go_simp; first | done | with_reducible rfl); (try simp only [Act.put, List.setIfInBounds_toArray, List.set_cons_zero, List.set_cons_succ])
          refine regS 29 299 (v := ?_) hS rfl rfl (by kernel_rfl) (by kernel_rfl) (by kernel_rfl) (by kernel_rfl) (fun _ _ _ h => h) (by rfl) (fun w hSw => ?_) ?_; rotate_left; (go_simp; first | done | with_reducible rfl); (try simp only [Act.put, List.setIfInBounds_toArray, List.set_cons_zero, List.set_cons_succ])
          refine regA 31 301 (v := ?_) rfl rfl (by kernel_rfl) (by kernel_rfl) (by kernel_rfl) (fun _ _ _ h => h) (by rfl) (fun w => ?_) ?_; rotate_left; (go_simp; first | done | with_reducible rfl); (try simp only [Act.put, List.setIfInBounds_toArray, List.set_cons_zero, List.set_cons_succ])
          refine regA 32 302 (v := ?_) rfl rfl (by kernel_rfl) (by kernel_rfl) (by kernel_rfl) (fun _ _ _ h => h) (by rfl) (fun w => ?_) ?_; rotate_left; (go_simp; first | done | with_reducible rfl); (try simp only [Act.put, List.setIfInBounds_toArray, List.set_cons_zero, List.set_cons_succ])
          refine regS 33 303 (v := ?_) hS rfl rfl (by kernel_rfl) (by kernel_rfl) (by kernel_rfl) (by kernel_rfl) (fun _ _ _ h => h) (by rfl) (fun w hSw => ?_) ?_; rotate_left; (go_simp; first | done | with_reducible rfl); (try simp only [Act.put, List.setIfInBounds_toArray, List.set_cons_zero, List.set_cons_succ])
          clear hS
          refine regOnlyG 30 (by kernel_rfl) rfl (by rfl) (fun K hK => ?_)
          go_wp2_with (first
            | (go_at_call 16; refine (HW1.out w5 H5.out.net xn).mono ?_; rintro e w6 ⟨v, rfl, hv, hm⟩; obtain ⟨a1, c1, rfl⟩ := row_slice hv.row; have Hw6 := hid (And.intro (H5.out.quiet hm) hv); clear hv hm))
          refine hK.out _ _ (fun _ _ => HRD.out _ Hw6.out.1) ?_
          clear hK
          (try simp only [Act.put, List.setIfInBounds_toArray, List.set_cons_zero, List.set_cons_succ])
          refine regOnlyG 34 (by kernel_rfl) rfl (by rfl) (fun K hK => ?_)
          go_wp2_with (first
            | (go_at_call 33; refine (HW2.out w6 Hw6.out.1.ref xn).mono ?_; rintro e w7 ⟨v, rfl, hv, hm⟩; obtain ⟨a2, c2, rfl⟩ := row_slice hv.row; have Hw7 := hid (And.intro (Hw6.out.1.quiet hm) (And.intro hv (Hw6.out.2.mod hm (fun _ _ => by simp)))); clear hv hm))
          refine hK.out _ _ (fun _ _ => HRD.out _ Hw7.out.1) ?_
          clear hK
          (try simp only [Act.put, List.setIfInBounds_toArray, List.set_cons_zero, List.set_cons_succ])
          refine regOnlyG 35 (by kernel_rfl) rfl (by rfl) (fun K hK => ?_)
          go_wp2_with (first
            | (go_at_call 32; refine (same_any w7 _ _ _ _ _ Hw7.out.2.2 Hw7.out.2.1 (HWL.out _)).mono ?_; rintro e w' ⟨rfl, q, rfl⟩; have Hw8 := hid (Hw7.out.1.quiet ((Mod.refl _ _).drewN q))))
          refine hK.out _ _ (fun _ _ => HRD.out _ Hw8.out) ?_
          clear hK Hw6 Hw7
          generalize w7.drewN q = w8 at *
          (try simp only [Act.put, List.setIfInBounds_toArray, List.set_cons_zero, List.set_cons_succ])
          refine regA 36 306 (v := ?_) rfl rfl (by kernel_rfl) (by kernel_rfl) (by kernel_rfl) (fun _ _ _ h => h) (by rfl) (fun w => ?_) ?_; rotate_left; (go_simp; first | done | with_reducible rfl); (try simp only [Act.put, List.setIfInBounds_toArray, List.set_cons_zero, List.set_cons_succ])
          refine regA 37 307 (v := ?_) rfl rfl (by kernel_rfl) (by kernel_rfl) (by kernel_rfl) (fun _ _ _ h => h) (by rfl) (fun w => ?_) ?_; rotate_left; (go_simp; first | done | with_reducible rfl); (try simp only [Act.put, List.setIfInBounds_toArray, List.set_cons_zero, List.set_cons_succ])
          refine regA 38 308 (v := ?_) rfl rfl (by kernel_rfl) (by kernel_rfl) (by kernel_rfl) (fun _ _ _ h => h) (by rfl) (fun w => ?_) ?_; rotate_left; (go_simp; first | done | with_reducible rfl); (try simp only [Act.put, List.setIfInBounds_toArray, List.set_cons_zero, List.set_cons_succ])
          refine regA 39 309 (v := ?_) rfl rfl (by kernel_rfl) (by kernel_rfl) (by kernel_rfl) (fun _ _ _ h => h) (by rfl) (fun w => ?_) ?_; rotate_left; (go_simp; first | done | with_reducible rfl); (try simp only [Act.put, List.setIfInBounds_toArray, List.set_cons_zero, List.set_cons_succ])
          refine regA 41 311 (v := ?_) rfl rfl (by kernel_rfl) (by kernel_rfl) (by kernel_rfl) (fun _ _ _ h => h) (by rfl) (fun w => ?_) ?_; rotate_left; (go_simp; first | done | with_reducible rfl); (try simp only [Act.put, List.setIfInBounds_toArray, List.set_cons_zero, List.set_cons_succ])
          refine regOnlyG 40 (by kernel_rfl) rfl (by rfl) (fun K hK => ?_)
          go_wp2_with (first
            | (go_at_call 16; refine (HW1.out w8 Hw8.out.net 1).mono ?_; rintro e w9 ⟨v, rfl, hv, hm⟩; obtain ⟨a1, c1, rfl⟩ := row_slice hv.row; have Hw9 := hid (And.intro (Hw8.out.quiet hm) hv); clear hv hm))
          refine hK.out _ _ (fun _ _ => HRD.out _ Hw9.out.1) ?_
          clear hK
          (try simp only [Act.put, List.setIfInBounds_toArray, List.set_cons_zero, List.set_cons_succ])
          refine regOnlyG 42 (by kernel_rfl) rfl (by rfl) (fun K hK => ?_)
          go_wp2_with (first
            | (go_at_call 33; refine (HW2.out w9 Hw9.out.1.ref 1).mono ?_; rintro e wa ⟨v, rfl, hv, hm⟩; obtain ⟨a2, c2, rfl⟩ := row_slice hv.row; have Hwa := hid (And.intro (Hw9.out.1.quiet hm) (And.intro hv (Hw9.out.2.mod hm (fun _ _ => by simp)))); clear hv hm))
          refine hK.out _ _ (fun _ _ => HRD.out _ Hwa.out.1) ?_
          clear hK
          (try simp only [Act.put, List.setIfInBounds_toArray, List.set_cons_zero, List.set_cons_succ])
          refine regOnlyG 43 (by kernel_rfl) rfl (by rfl) (fun K hK => ?_)
          go_wp2_with (first
            | (go_at_call 32; refine (same_any wa _ _ _ _ _ Hwa.out.2.2 Hwa.out.2.1 (HWL.out _)).mono ?_; rintro e w' ⟨rfl, q, rfl⟩; have Hwb := hid (Hwa.out.1.quiet ((Mod.refl _ _).drewN q))))
          refine hK.out _ _ (fun _ _ => HRD.out _ Hwb.out) ?_
          clear hK Hw9 Hwa
          generalize wa.drewN q = wb at *
          (try simp only [Act.put, List.setIfInBounds_toArray, List.set_cons_zero, List.set_cons_succ])
          refine regA 44 314 (v := ?_) rfl rfl (by kernel_rfl) (by kernel_rfl) (by kernel_rfl) (fun _ _ _ h => h) (by rfl) (fun w => ?_) ?_; rotate_left; (go_simp; first | done | with_reducible rfl); (try simp only [Act.put, List.setIfInBounds_toArray, List.set_cons_zero, List.set_cons_succ])
          refine regA 45 315 (v := ?_) rfl rfl (by kernel_rfl) (by kernel_rfl) (by kernel_rfl) (fun _ _ _ h => h) (by rfl) (fun w => ?_) ?_; rotate_left; (go_simp; first | done | with_reducible rfl); (try simp only [Act.put, List.setIfInBounds_toArray, List.set_cons_zero, List.set_cons_succ])
          refine regDone (by kernel_rfl) ?_ _
          go_wp2_with fail
          go_roundg (gk - 1)
          case measure => have := HJ.out; omega
          case rel => exact ⟨j + 1, s', by go_num, by have := HJ.out; omega, HO'.out.1, HO'.out.2, Hwb.out.net, Hwb.out.ref, Hwb.out.mod⟩
    · rw [decide_eq_false hjn] at hcv
      subst hcv
      have HM := hid hm
      clear hn hr hm ho hj hsl hjn
      go_wp2_with (first
        | (go_at_call 9; refine (works_any _).mono ?_; rintro e w4 ⟨rfl, hm4⟩; have H4 := hid hm4; clear hm4))
      go_ret
      exact ⟨rfl, HM.out.trans H4.out⟩

theorem plays_any (w : World) (parties room : Int) (a : Option Addr) (c : Nat) (l : List ActS) (hl : RowsAt 8 w a (l.map ActS.cells)) (hlen : l.length ≤ maxLen) :
    Calls Try.prog 7 #[.int .i64 parties, .int .i64 room, .slice a l.length c] w fun e w' => e = .returned (.bool true) ∧ Mod [] w w' := by
  by_cases hpr : 1 ≤ parties ∧ parties ≤ 64 ∧ 1 ≤ room ∧ room ≤ 4096
  · exact plays_yes w parties room a c l hl hlen hpr.1 hpr.2.1 hpr.2.2.1 hpr.2.2.2
  · exact plays_no w parties room a c l hpr
end Go.Proofs.Ytbjgjagbepopfaa
