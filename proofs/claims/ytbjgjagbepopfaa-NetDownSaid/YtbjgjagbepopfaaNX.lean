/-
  NetDown, walked. No statement of a claim stands here; each contract names what it asks.
-/
import Derived.Test.YtbjgjagbepopfaaNU
set_option linter.unusedSimpArgs false
namespace Go.Proofs.Ytbjgjagbepopfaa
open Go Go.RowKit Go.ChangeMaps


theorem short_call (w : World) (m : Msg) (hm : m.body.size ≤ maxLen) :
    Calls Try.prog 11 #[.agg #[.int .i64 m.frm, .int .i64 m.to, .int .i64 m.kind, .string m.body]] w fun e w' => e = .returned (.agg #[.int .i64 m.frm, .int .i64 m.to, .int .i64 m.kind, .string (shortB m.body)]) ∧ Mod [] w w' :=
  short_any w m hm

def DownRel (w : World) (p : Loc) (P : Int) (l : List MsgW) (gk : Nat) (sv i : Value) (W' : World) : Prop :=
  ∃ (j n : Nat) (s : NetS), i = nat j ∧ sv = nat n ∧ gk + j = min l.length 60 ∧ Up s P n j ∧ NetAt W' p s ∧ Mod [] w W'
theorem Up.n_le {s : NetS} {P : Int} {n j : Nat} (h : Up s P n j) : n ≤ j := by
  have h1 := h.goes
  have h2 := waiting_le s P
  have h3 := h.len
  omega
theorem Up.sum_le {s : NetS} {P : Int} {n j : Nat} (h : Up s P n j) : s.sent ≤ j := by
  have h1 := h.ok.sum
  have h2 := h.lost
  have h3 := h.taken
  have h4 := h.len
  omega

set_option maxRecDepth 20000 in
set_option maxHeartbeats 4000000 in
theorem downs_any (w : World) (party : Int) (a : Option Addr) (c : Nat) (l : List MsgW) (hl : RowsAt 4 w a (l.map fun m => m.1.cells)) (hlen : l.length ≤ maxLen) :
    Calls Try.prog 6 #[.slice a l.length c, .int .i64 party] w fun e w' => e = .returned (.bool true) ∧ Mod [] w w' := by
  have hlz : l.length ≤ 9223372036854775807 := by unfold maxLen at hlen; omega
  have HL := hid hl
  have ap := among_in party 3 (by omega)
  clear hl hlen
  go_enter Try.func6, Try.ntmps6
  go_upto_region 7 with (first
    | (go_at_call 9; refine (works_any _).mono ?_; rintro e w1 ⟨rfl, hm1⟩; have H1 := hid hm1; clear hm1)
    | (go_at_call 12; refine (among_any _ _ _ (by omega) (by omega)).mono ?_; rintro e w' ⟨rfl, rfl⟩)
    | (go_at_call 10; refine (make_yes 3 200 w1 (by omega) (by omega) (by omega) (by omega)).mono ?_; rintro e w2 ⟨p, rfl, hn2, hm2, hf2⟩; have H2 := hid (And.intro hn2 (And.intro (H1.out.trans hm2) (fun k hk => Nat.le_trans H1.out.size (hf2 k hk)))); clear hn2 hm2 hf2 H1))
  have HF := hid H2.out.2.2
  obtain ⟨P, hP⟩ : ∃ P, P = 1 + among party 3 := ⟨_, rfl⟩
  have hPP : 1 ≤ P ∧ P ≤ 3 := by omega
  rw [← hP]
  clear hP ap
  go_wp2_with fail
  go_loopg [7, 8] (min l.length 60) (fun gk sv i W' => DownRel w p P l gk sv i W')
  case atStart => exact ⟨0, 0, newNet 3 200, rfl, rfl, rfl, Up.made _ _ (newNet_ok (by omega) (by omega) (by omega) (by omega)) rfl rfl rfl rfl rfl rfl, H2.out.1, H2.out.2.1⟩
  case round =>
    obtain ⟨j, n, s, rfl, rfl, hj, hk, hn, hm⟩ := hrel
    go_upto_region 9 with fail
    go_cut [42] (fun vv wx => vv = .bool (decide (j < l.length ∧ j < 60)) ∧ wx = wr)
    case first =>
      clear hk hn hm hj
      have j0 : (0 : Int) ≤ (j : Int) := Int.natCast_nonneg _
      by_cases hj1 : j < l.length
      · have j1 : (j : Int) < (l.length : Int) := by omega
        by_cases hj2 : j < 60
        · have j2 : decide ((j : Int) < 60) = true := decide_eq_true (by omega)
          have e1 : decide (j < l.length ∧ j < 60) = true := decide_eq_true ⟨hj1, hj2⟩
          have E1 := hid e1
          clear e1
          go_wp2_with fail
          go_meet
          exact ⟨by rw [E1.out], rfl⟩
        · have j2 : decide ((j : Int) < 60) = false := decide_eq_false (by omega)
          have e1 : decide (j < l.length ∧ j < 60) = false := decide_eq_false (fun h => hj2 h.2)
          have E1 := hid e1
          clear e1
          go_wp2_with fail
          go_meet
          exact ⟨by rw [E1.out], rfl⟩
      · have j1 : ¬ (j : Int) < (l.length : Int) := by omega
        have e1 : decide (j < l.length ∧ j < 60) = false := decide_eq_false (fun h => hj1 h.1)
        have E1 := hid e1
        clear e1
        go_wp2_with fail
        go_meet
        exact ⟨by rw [E1.out], rfl⟩
    case rest =>
    obtain ⟨hcv, hcw⟩ := hcut
    subst hcw
    by_cases hjn : j < l.length ∧ j < 60
    · rw [decide_eq_true hjn] at hcv
      subst hcv
      obtain ⟨hj1, hj2⟩ := hjn
      obtain ⟨m, hmj⟩ : ∃ e, l[j]? = some e := ⟨_, List.getElem?_eq_getElem hj1⟩
      obtain ⟨mb, mo, rfl, hmb, hmc⟩ := HL.out.cell j m.1.cells (by rw [List.getElem?_map, hmj]; rfl)
      have hsz := m.2
      generalize m.1 = m at *
      have m0 : wc.cell? ⟨mb, mo + j * 4, none⟩ = some (.int .i64 m.frm) := hm.cell (hmc 0 _ rfl) (by simp)
      have m1 : wc.cell? ⟨mb, mo + j * 4 + 1, none⟩ = some (.int .i64 m.to) := hm.cell (hmc 1 _ rfl) (by simp)
      have m2 : wc.cell? ⟨mb, mo + j * 4 + 2, none⟩ = some (.int .i64 m.kind) := hm.cell (hmc 2 _ rfl) (by simp)
      have m3 : wc.cell? ⟨mb, mo + j * 4 + 3, none⟩ = some (.string m.body) := hm.cell (hmc 3 _ rfl) (by simp)
      have j0 : (0 : Int) ≤ (j : Int) := Int.natCast_nonneg _
      have j1 : (j : Int) < (l.length : Int) := by omega
      have HS := hid (And.intro hk (And.intro hn hm))
      have HJ := hid (And.intro hj hj2)
      clear hk hn hmb hmc hj hj2 hmj hm
      go_upto_region 12 with (first
        | (go_at_call 11; refine (short_call wc m hsz).mono ?_; rintro e w4 ⟨rfl, hm4⟩; have H4 := hid hm4; clear hm4))
      have hg5 := get_new w4 (.cells #[.int .i64 m.frm, .int .i64 m.to, .int .i64 m.kind, .string (shortB m.body)] 29)
      have hm5 := H4.out.alloc (.cells #[.int .i64 m.frm, .int .i64 m.to, .int .i64 m.kind, .string (shortB m.body)] 29)
      have hb5 := H4.out.size
      clear H4 m0 m1 m2 m3 j1
      generalize (w4.alloc (.cells #[.int .i64 m.frm, .int .i64 m.to, .int .i64 m.kind, .string (shortB m.body)] 29)) = w5 at *
      generalize w4.heap.size = b at *
      clear w4
      have H5 := hid (And.intro hg5 (And.intro hm5 hb5))
      have a3 := among_in m.frm 3 (by omega)
      have a4 := among_in m.to 3 (by omega)
      have a9 := among_in m.kind 9 (by omega)
      refine wp_region_N (fun w' => w'.cell? ⟨b, 0, none⟩ = some (.int .i64 m.frm) ∧ w'.cell? ⟨b, 1, none⟩ = some (.int .i64 m.to) ∧ w'.cell? ⟨b, 2, none⟩ = some (.int .i64 m.kind)) (fun i => !(i == 12 || i == 14 || i == 16)) (by kernel_rfl) ?_
      have hS : (fun w' : World => w'.cell? ⟨b, 0, none⟩ = some (.int .i64 m.frm) ∧ w'.cell? ⟨b, 1, none⟩ = some (.int .i64 m.to) ∧ w'.cell? ⟨b, 2, none⟩ = some (.int .i64 m.kind)) w5.drew := ⟨cell_at hg5 0, cell_at hg5 1, cell_at hg5 2⟩
      clear hg5 hm5 hb5
      refine regA 0 50 (v := ?_) rfl rfl (by kernel_rfl) (by kernel_rfl) (by kernel_rfl) (fun _ _ _ h => h) (by rfl) (fun w => ?_) ?_; rotate_left; (go_simp; first | done | with_reducible rfl); (try simp only [Act.put, List.setIfInBounds_toArray, List.set_cons_zero, List.set_cons_succ])
      refine regS 1 51 (v := ?_) hS rfl rfl (by kernel_rfl) (by kernel_rfl) (by kernel_rfl) (by kernel_rfl) (fun _ _ _ h => h) (by rfl) (fun w hSw => ?_) ?_; rotate_left; (go_simp; first | done | with_reducible rfl); (try simp only [Act.put, List.setIfInBounds_toArray, List.set_cons_zero, List.set_cons_succ])
      refine regA 4 54 (v := ?_) rfl rfl (by kernel_rfl) (by kernel_rfl) (by kernel_rfl) (fun _ _ _ h => h) (by rfl) (fun w => ?_) ?_; rotate_left; (go_simp; first | done | with_reducible rfl); (try simp only [Act.put, List.setIfInBounds_toArray, List.set_cons_zero, List.set_cons_succ])
      refine regS 5 55 (v := ?_) hS rfl rfl (by kernel_rfl) (by kernel_rfl) (by kernel_rfl) (by kernel_rfl) (fun _ _ _ h => h) (by rfl) (fun w hSw => ?_) ?_; rotate_left; (go_simp; first | done | with_reducible rfl); (try simp only [Act.put, List.setIfInBounds_toArray, List.set_cons_zero, List.set_cons_succ])
      refine regA 8 58 (v := ?_) rfl rfl (by kernel_rfl) (by kernel_rfl) (by kernel_rfl) (fun _ _ _ h => h) (by rfl) (fun w => ?_) ?_; rotate_left; (go_simp; first | done | with_reducible rfl); (try simp only [Act.put, List.setIfInBounds_toArray, List.set_cons_zero, List.set_cons_succ])
      refine regS 9 59 (v := ?_) hS rfl rfl (by kernel_rfl) (by kernel_rfl) (by kernel_rfl) (by kernel_rfl) (fun _ _ _ h => h) (by rfl) (fun w hSw => ?_) ?_; rotate_left; (go_simp; first | done | with_reducible rfl); (try simp only [Act.put, List.setIfInBounds_toArray, List.set_cons_zero, List.set_cons_succ])
      refine regOnly 2 (by kernel_rfl) rfl (by rfl) (fun K hK => ?_)
      go_wp2_with (first | (go_at_call 12; refine (among_any _ _ _ (by omega) (by omega)).mono ?_; rintro e w' ⟨rfl, rfl⟩))
      refine hK.out _ _ (fun _ h => h) ?_
      clear hK
      (try simp only [Act.put, List.setIfInBounds_toArray, List.set_cons_zero, List.set_cons_succ])
      refine regA 3 53 (v := .int .i64 (1 + among m.frm 3)) rfl rfl (by kernel_rfl) (by kernel_rfl) (by kernel_rfl) (fun _ _ _ h => h) (by rfl) (fun w => ?_) ?_
      · go_simp
        exact IntWalk.i64_in _ (by omega)
      (try simp only [Act.put, List.setIfInBounds_toArray, List.set_cons_zero, List.set_cons_succ])
      refine regA 11 61 (v := ?_) rfl rfl (by kernel_rfl) (by kernel_rfl) (by kernel_rfl) (fun _ _ _ h => h) (by rfl) (fun w => ?_) ?_; rotate_left; (go_simp; first | done | with_reducible rfl); (try simp only [Act.put, List.setIfInBounds_toArray, List.set_cons_zero, List.set_cons_succ])
      refine regOnly 6 (by kernel_rfl) rfl (by rfl) (fun K hK => ?_)
      go_wp2_with (first | (go_at_call 12; refine (among_any _ _ _ (by omega) (by omega)).mono ?_; rintro e w' ⟨rfl, rfl⟩))
      refine hK.out _ _ (fun _ h => h) ?_
      clear hK
      (try simp only [Act.put, List.setIfInBounds_toArray, List.set_cons_zero, List.set_cons_succ])
      refine regA 7 57 (v := .int .i64 (1 + among m.to 3)) rfl rfl (by kernel_rfl) (by kernel_rfl) (by kernel_rfl) (fun _ _ _ h => h) (by rfl) (fun w => ?_) ?_
      · go_simp
        exact IntWalk.i64_in _ (by omega)
      (try simp only [Act.put, List.setIfInBounds_toArray, List.set_cons_zero, List.set_cons_succ])
      refine regOnly 10 (by kernel_rfl) rfl (by rfl) (fun K hK => ?_)
      go_wp2_with (first | (go_at_call 12; refine (among_any _ _ _ (by omega) (by omega)).mono ?_; rintro e w' ⟨rfl, rfl⟩))
      refine hK.out _ _ (fun _ h => h) ?_
      clear hK
      (try simp only [Act.put, List.setIfInBounds_toArray, List.set_cons_zero, List.set_cons_succ])
      have hg5 : w5.drew.heap[b]? = _ := H5.out.1
      have hm5 := H5.out.2.1.drew
      have hb5 := H5.out.2.2
      clear hS H5
      generalize w5.drew = w5d at *
      have f0 := free_at hg5 0
      have f1 := free_at hg5 1
      have f2 := free_at hg5 2
      have c0 := cell_at hg5 0
      have c1 := cell_at hg5 1
      have c2 := cell_at hg5 2
      have H5 := hid (And.intro hg5 (And.intro hm5 hb5))
      clear hg5 hm5 hb5
      refine regOnly 12 (by kernel_rfl) rfl (by rfl) (fun K hK => ?_)
      go_wp2_with fail
      refine hK.out _ _ (fun h _ => absurd h (by decide)) ?_
      clear hK
      (try simp only [Act.put, List.setIfInBounds_toArray, List.set_cons_zero, List.set_cons_succ])
      refine regA 13 62 (v := ?_) rfl rfl (by kernel_rfl) (by kernel_rfl) (by kernel_rfl) (fun _ _ _ h => h) (by rfl) (fun w => ?_) ?_; rotate_left; (go_simp; first | done | with_reducible rfl); (try simp only [Act.put, List.setIfInBounds_toArray, List.set_cons_zero, List.set_cons_succ])
      refine regOnly 14 (by kernel_rfl) rfl (by rfl) (fun K hK => ?_)
      go_wp2_with fail
      refine hK.out _ _ (fun h _ => absurd h (by decide)) ?_
      clear hK
      (try simp only [Act.put, List.setIfInBounds_toArray, List.set_cons_zero, List.set_cons_succ])
      refine regA 15 63 (v := ?_) rfl rfl (by kernel_rfl) (by kernel_rfl) (by kernel_rfl) (fun _ _ _ h => h) (by rfl) (fun w => ?_) ?_; rotate_left; (go_simp; first | done | with_reducible rfl); (try simp only [Act.put, List.setIfInBounds_toArray, List.set_cons_zero, List.set_cons_succ])
      refine regOnly 16 (by kernel_rfl) rfl (by rfl) (fun K hK => ?_)
      go_wp2_with fail
      refine hK.out _ _ (fun h _ => absurd h (by decide)) ?_
      clear hK
      (try simp only [Act.put, List.setIfInBounds_toArray, List.set_cons_zero, List.set_cons_succ])
      refine regDone (by kernel_rfl) ?_ _
      clear f0 f1 f2 c0 c1 c2
      have hq := get_setCell_self (get_setCell_self (get_setCell_self (w := w5d) H5.out.1 0 (.int .i64 (1 + among m.frm 3))) 1 (.int .i64 (1 + among m.to 3))) 2 (.int .i64 (among m.kind 9))
      have hm6 := ((H5.out.2.1.setCell (p := ⟨b, 0, none⟩) (.inr H5.out.2.2) (.int .i64 (1 + among m.frm 3))).setCell (p := ⟨b, 1, none⟩) (.inr H5.out.2.2) (.int .i64 (1 + among m.to 3))).setCell (p := ⟨b, 2, none⟩) (.inr H5.out.2.2) (.int .i64 (among m.kind 9))
      rw [show (((#[Value.int IntKind.i64 m.frm, Value.int IntKind.i64 m.to, Value.int IntKind.i64 m.kind, Value.string (shortB m.body)].setIfInBounds 0 (Value.int IntKind.i64 (1 + among m.frm 3))).setIfInBounds 1 (Value.int IntKind.i64 (1 + among m.to 3))).setIfInBounds 2 (Value.int IntKind.i64 (among m.kind 9))) = #[Value.int IntKind.i64 (1 + among m.frm 3), Value.int IntKind.i64 (1 + among m.to 3), Value.int IntKind.i64 (among m.kind 9), Value.string (shortB m.body)] from rfl] at hq
      generalize (((w5d.setCell ⟨b, 0, none⟩ (.int .i64 (1 + among m.frm 3))).setCell ⟨b, 1, none⟩ (.int .i64 (1 + among m.to 3))).setCell ⟨b, 2, none⟩ (.int .i64 (among m.kind 9))) = w6 at *
      clear H5
      obtain ⟨M, hM⟩ : ∃ M : Msg, M = ⟨1 + among m.frm 3, 1 + among m.to 3, among m.kind 9, shortB m.body⟩ := ⟨_, rfl⟩
      have hM0 : M.frm = 1 + among m.frm 3 ∧ M.to = 1 + among m.to 3 ∧ M.kind = among m.kind 9 ∧ M.body = shortB m.body := by rw [hM]; exact ⟨rfl, rfl, rfl, rfl⟩
      have hMp : (1 ≤ M.frm ∧ M.frm ≤ 3) ∧ (1 ≤ M.to ∧ M.to ≤ 3) ∧ 0 ≤ M.kind := by omega
      rw [← hM0.1, ← hM0.2.1, ← hM0.2.2.1, ← hM0.2.2.2] at hq
      clear hM0 hM a3 a4 a9
      have g0 := cell_at hq 0
      have g1 := cell_at hq 1
      have g2 := cell_at hq 2
      have g3 := cell_at hq 3
      have hn6 := HS.out.2.1.mod0 hm6
      have hsum : s.sent ≤ 1000000 := by have := HS.out.1.sum_le; have := HJ.out.2; omega
      have hsend := send_any w6 p s M hn6 HS.out.1.ok hsum
      unfold Msg.v NumPost at hsend
      have hup := HS.out.1.send hMp.1 hMp.2.1 hMp.2.2
      generalize s.send M = r at hsend hup
      obtain ⟨s1, k1, e1⟩ := r
      dsimp only at hsend hup
      have HSE := hid hsend
      have HO := hid hup
      have H6 := hid (And.intro hm6 hq)
      clear hsend hup hm6 hq hn6 hsum hMp
      go_upto_region 14 with (first
        | (go_at_call 13; refine HSE.out.mono ?_; rintro e w7 ⟨rfl, hn7, hm7⟩; have H7 := hid (And.intro hn7 hm7); clear hn7 hm7))
      have hg7 := H7.out.2.get H6.out.2 (HS.out.2.1.mod0 H6.out.1 |>.ne H6.out.2 (by decide))
      have g1' := cell_at hg7 1
      clear g0 g1 g2 g3 hg7
      have hm7 : Mod [] w w7 := (HS.out.2.2.trans H6.out.1).trans' H7.out.2 (fun x hx => .inr (HF.out x hx))
      have HX := hid (And.intro H7.out.1 hm7)
      clear hm7 H7 HSE H6
      go_cut [77] (fun v wx => v = .bool (decide (e1 = 0 ∧ M.to = P)) ∧ wx = w7)
      case first =>
        by_cases he : e1 = 0
        · by_cases ht : M.to = P
          · have ht' : (M.to == P) = true := by simpa using ht
            have hE := hid (show decide (e1 = 0 ∧ M.to = P) = true from decide_eq_true ⟨he, ht⟩)
            clear ht
            go_wp2_with fail
            go_meet
            exact ⟨by rw [hE.out], rfl⟩
          · have ht' : (M.to == P) = false := by simpa using ht
            have hE := hid (show decide (e1 = 0 ∧ M.to = P) = false from decide_eq_false (fun h => ht h.2))
            clear ht
            go_wp2_with fail
            go_meet
            exact ⟨by rw [hE.out], rfl⟩
        · have he' : (e1 == 0) = false := by simpa using he
          have hE := hid (show decide (e1 = 0 ∧ M.to = P) = false from decide_eq_false (fun h => he h.1))
          clear he
          go_wp2_with fail
          go_meet
          exact ⟨by rw [hE.out], rfl⟩
      case rest =>
        obtain ⟨hcv, hcw⟩ := hcut
        subst hcw
        have hnj : (n : Int) ≤ 100 := by have := HS.out.1.n_le; have := HJ.out.2; omega
        clear g1'
        by_cases hb : e1 = 0 ∧ M.to = P
        · rw [decide_eq_true hb] at hcv
          subst hcv
          have hup : Up s1 P (n + 1) (j + 1) := by
            rcases HO.out with ⟨_, h1⟩ | ⟨h0, _⟩
            · rw [if_pos hb.2] at h1; exact h1
            · exact absurd hb.1 h0
          have HU := hid hup
          clear hup hb HO
          go_wp2_with fail
          go_roundg (gk - 1)
          case measure => have := HJ.out; omega
          case rel => exact ⟨j + 1, n + 1, s1, by go_num, by go_num, by have := HJ.out; omega, HU.out, HX.out.1, HX.out.2⟩
        · rw [decide_eq_false hb] at hcv
          subst hcv
          have hup : Up s1 P n (j + 1) := by
            rcases HO.out with ⟨h0, h1⟩ | ⟨h0, h1⟩
            · rw [if_neg (fun h => hb ⟨h0, h⟩)] at h1; exact h1
            · rw [h1]; exact HS.out.1.mono (Nat.le_succ _)
          have HU := hid hup
          clear hup hb HO
          go_wp2_with fail
          go_roundg (gk - 1)
          case measure => have := HJ.out; omega
          case rel => exact ⟨j + 1, n, s1, by go_num, rfl, by have := HJ.out; omega, HU.out, HX.out.1, HX.out.2⟩
    · rw [decide_eq_false hjn] at hcv
      subst hcv
      have hj60 : j ≤ 60 := by omega
      have hsum : s.sent ≤ 1000000 := by have := hk.sum_le; omega
      have hnj : (n : Int) ≤ 100 := by have := hk.n_le; omega
      obtain ⟨⟨s1, s2, s3, d1, o1, b1, wt1, se1, se2, o2, b2, l2, d2, o3, b3, s4, k4, se3, o4, b4, wt2⟩⟩ := hk.ends hPP hj60
      have hd1 := down_any wc p s P true hn hk.ok hsum
      unfold ErrPost at hd1
      rw [d1] at hd1
      have hw1 := fun W h => waiting_any W p s1 P h o1 b1
      rw [wt1] at hw1
      have hs1 := fun W h => send_any W p s1 ⟨P, 1, 0, ⟨#[]⟩⟩ h o1 b1
      unfold NumPost at hs1
      rw [se1] at hs1
      have hs2 := fun W h => send_any W p s1 ⟨P.tmod 3 + 1, P, 0, ⟨#[]⟩⟩ h o1 b1
      rw [Int.tmod_eq_emod_of_nonneg (a := P) (b := 3) (by omega)] at hs2 se2
      unfold NumPost at hs2
      rw [se2] at hs2
      have hc := fun W h => count_any W p s2 h
      rw [l2] at hc
      have hd2 := fun W h => down_any W p s2 P false h o2 b2
      unfold ErrPost at hd2
      rw [d2] at hd2
      have hs3 := fun W h => send_any W p s3 ⟨P, P, 0, ⟨#[]⟩⟩ h o3 b3
      unfold NumPost at hs3
      rw [se3] at hs3
      have hw2 := fun W h => waiting_any W p s4 P h o4 b4
      dsimp only [Msg.v] at hd1 hs1 hs2 hd2 hs3
      have hD1 := hid hd1
      have hW1 := hid hw1
      have hS1 := hid hs1
      have hS2 := hid hs2
      have hC := hid hc
      have hD2 := hid hd2
      have hS3 := hid hs3
      have hW2 := hid hw2
      have hWT2 := hid wt2
      have HM := hid hm
      clear hd1 hw1 hs1 hs2 hc hd2 hs3 hw2 hk hn hm hj hjn d1 o1 b1 wt1 se1 se2 o2 b2 l2 d2 o3 b3 se3 o4 b4 wt2 hsum HL
      go_upto_region 18 with (first
        | (go_at_call 21; refine hD1.out.mono ?_; rintro e w5 ⟨rfl, hn5, hm5⟩; have H5 := hid (And.intro hn5 (HM.out.trans' hm5 (fun x hx => .inr (HF.out x hx)))); clear hn5 hm5 hD1)
        | (go_at_call 16; refine (hW1.out _ H5.out.1).mono ?_; rintro e w6 ⟨v, rfl, hv6, hm6⟩; obtain ⟨a6, c6, rfl⟩ := row_slice hv6.row; have H6 := hid (And.intro (H5.out.1.mod0 hm6) (H5.out.2.trans hm6)); clear hv6 hm6 hW1))
      clear H5
      go_upto_region 19 with (first
        | (go_at_call 13; refine (hS1.out _ H6.out.1).mono ?_; rintro e w7 ⟨rfl, hn7, hm7⟩; have H7 := hid (And.intro hn7 (H6.out.2.trans' hm7 (fun x hx => .inr (HF.out x hx)))); clear hn7 hm7 hS1))
      clear H6
      go_upto_region 20 with (first
        | (go_at_call 13; refine (hS2.out _ H7.out.1).mono ?_; rintro e w8 ⟨rfl, hn8, hm8⟩; have H8 := hid (And.intro hn8 (H7.out.2.trans' hm8 (fun x hx => .inr (HF.out x hx)))); clear hn8 hm8 hS2))
      clear H7
      go_upto_region 21 with (first
        | (go_at_call 20; refine (hC.out _ H8.out.1).mono ?_; rintro e w9 ⟨rfl, hm9⟩; have H9 := hid (And.intro (H8.out.1.mod0 hm9) (H8.out.2.trans hm9)); clear hm9 hC))
      clear H8
      go_upto_region 22 with (first
        | (go_at_call 21; refine (hD2.out _ H9.out.1).mono ?_; rintro e wa ⟨rfl, hna, hma⟩; have HA := hid (And.intro hna (H9.out.2.trans' hma (fun x hx => .inr (HF.out x hx)))); clear hna hma hD2))
      clear H9
      go_upto_region 23 with (first
        | (go_at_call 13; refine (hS3.out _ HA.out.1).mono ?_; rintro e wb ⟨rfl, hnb, hmb⟩; have HB := hid (And.intro hnb (HA.out.2.trans' hmb (fun x hx => .inr (HF.out x hx)))); clear hnb hmb hS3))
      clear HA
      go_wp2_with (first
        | (go_at_call 16; refine (hW2.out _ HB.out.1).mono ?_; rintro e wd ⟨v, rfl, hvd, hmd⟩; obtain ⟨ad, cd, rfl⟩ := row_slice hvd.row; have HD := hid (HB.out.2.trans hmd); clear hvd hmd hW2; simp only [hWT2.out]))
      go_ret
      exact ⟨rfl, HD.out⟩
end Go.Proofs.Ytbjgjagbepopfaa
