/-
  NetKeeps, walked. No statement of a claim stands here; each contract names what it asks.
-/
import Derived.Test.YtbjgjagbepopfaaNS
import Derived.Deep.CutBlock
set_option linter.unusedSimpArgs false
namespace Go.Proofs.Ytbjgjagbepopfaa
open Go Go.RowKit Go.ChangeMaps


theorem short_call (w : World) (m : Msg) (hm : m.body.size ≤ maxLen) :
    Calls Try.prog 11 #[.agg #[.int .i64 m.frm, .int .i64 m.to, .int .i64 m.kind, .string m.body]] w fun e w' => e = .returned (.agg #[.int .i64 m.frm, .int .i64 m.to, .int .i64 m.kind, .string (shortB m.body)]) ∧ Mod [] w w' :=
  short_any w m hm

def KeepRel (w : World) (p : Loc) (l : List ActS) (gk : Nat) (sv i : Value) (W' : World) : Prop :=
  ∃ (j n : Nat) (s : NetS), i = nat j ∧ sv = nat n ∧ gk + j = min l.length 100 ∧ Keep s n ∧ n ≤ j ∧ NetAt W' p s ∧ Mod [] w W'

set_option maxRecDepth 20000 in
set_option maxHeartbeats 4000000 in
theorem keeps_any (w : World) (a : Option Addr) (c : Nat) (l : List ActS) (hl : RowsAt 8 w a (l.map ActS.cells)) (hlen : l.length ≤ maxLen) :
    Calls Try.prog 5 #[.slice a l.length c] w fun e w' => e = .returned (.bool true) ∧ Mod [] w w' := by
  have hlz : l.length ≤ 9223372036854775807 := by unfold maxLen at hlen; omega
  have HL := hid hl
  clear hl hlen
  go_enter Try.func5, Try.ntmps5
  go_wp2_with (first
    | (go_at_call 9; refine (works_any _).mono ?_; rintro e w1 ⟨rfl, hm1⟩; have H1 := hid hm1; clear hm1)
    | (go_at_call 10; refine (make_yes 4 50 w1 (by omega) (by omega) (by omega) (by omega)).mono ?_; rintro e w2 ⟨p, rfl, hn2, hm2, hf2⟩; have H2 := hid (And.intro hn2 (And.intro (H1.out.trans hm2) (fun k hk => Nat.le_trans H1.out.size (hf2 k hk)))); clear hn2 hm2 hf2 H1))
  have HF := hid H2.out.2.2
  go_loopg [5, 6] (min l.length 100) (fun gk sv i W' => KeepRel w p l gk sv i W')
  case atStart => exact ⟨0, 0, newNet 4 50, rfl, rfl, rfl, Keep.made _ (newNet_ok (by omega) (by omega) (by omega) (by omega)) rfl rfl rfl rfl rfl, Nat.zero_le _, H2.out.1, H2.out.2.1⟩
  case round =>
    obtain ⟨j, n, s, rfl, rfl, hj, hk, hsl, hn, hm⟩ := hrel
    go_upto_region 8 with fail
    go_cut [30] (fun vv wx => vv = .bool (decide (j < l.length ∧ j < 100)) ∧ wx = wr)
    case first =>
      clear hk hn hm hj hsl
      have j0 : (0 : Int) ≤ (j : Int) := Int.natCast_nonneg _
      by_cases hj1 : j < l.length
      · have j1 : (j : Int) < (l.length : Int) := by omega
        by_cases hj2 : j < 100
        · have j2 : decide ((j : Int) < 100) = true := decide_eq_true (by omega)
          have e1 : decide (j < l.length ∧ j < 100) = true := decide_eq_true ⟨hj1, hj2⟩
          have E1 := hid e1
          clear e1
          go_wp2_with fail
          go_meet
          exact ⟨by rw [E1.out], rfl⟩
        · have j2 : decide ((j : Int) < 100) = false := decide_eq_false (by omega)
          have e1 : decide (j < l.length ∧ j < 100) = false := decide_eq_false (fun h => hj2 h.2)
          have E1 := hid e1
          clear e1
          go_wp2_with fail
          go_meet
          exact ⟨by rw [E1.out], rfl⟩
      · have j1 : ¬ (j : Int) < (l.length : Int) := by omega
        have e1 : decide (j < l.length ∧ j < 100) = false := decide_eq_false (fun h => hj1 h.1)
        have E1 := hid e1
        clear e1
        go_wp2_with fail
        go_meet
        exact ⟨by rw [E1.out], rfl⟩
    case rest =>
    obtain ⟨hcv, hcw⟩ := hcut
    subst hcw
    by_cases hjn : j < l.length ∧ j < 100
    · rw [decide_eq_true hjn] at hcv
      subst hcv
      obtain ⟨hj1, hj2⟩ := hjn
      obtain ⟨x, hmj⟩ : ∃ e, l[j]? = some e := ⟨_, List.getElem?_eq_getElem hj1⟩
      obtain ⟨mb, mo, rfl, hmb, hmc⟩ := HL.out.cell j x.cells (by rw [List.getElem?_map, hmj]; rfl)
      have hsz := x.small
      obtain ⟨do_, xn, xt, xon, m, hsm⟩ := x
      dsimp only at hsz
      have m0 : wc.cell? ⟨mb, mo + j * 8, none⟩ = some (.int .i64 do_) := hm.cell (hmc 0 _ rfl) (by simp)
      have m1 : wc.cell? ⟨mb, mo + j * 8 + 1, none⟩ = some (.int .i64 xn) := hm.cell (hmc 1 _ rfl) (by simp)
      have m2 : wc.cell? ⟨mb, mo + j * 8 + 2, none⟩ = some (.int .i64 xt) := hm.cell (hmc 2 _ rfl) (by simp)
      have m3 : wc.cell? ⟨mb, mo + j * 8 + 3, none⟩ = some (.bool xon) := hm.cell (hmc 3 _ rfl) (by simp)
      have m4 : wc.cell? ⟨mb, mo + j * 8 + 4, none⟩ = some (.int .i64 m.frm) := hm.cell (hmc 4 _ rfl) (by simp)
      have m5 : wc.cell? ⟨mb, mo + j * 8 + 5, none⟩ = some (.int .i64 m.to) := hm.cell (hmc 5 _ rfl) (by simp)
      have m6 : wc.cell? ⟨mb, mo + j * 8 + 6, none⟩ = some (.int .i64 m.kind) := hm.cell (hmc 6 _ rfl) (by simp)
      have m7 : wc.cell? ⟨mb, mo + j * 8 + 7, none⟩ = some (.string m.body) := hm.cell (hmc 7 _ rfl) (by simp)
      have j0 : (0 : Int) ≤ (j : Int) := Int.natCast_nonneg _
      have j1 : (j : Int) < (l.length : Int) := by omega
      have HS := hid (And.intro hk (And.intro hsl (And.intro hn hm)))
      have HJ := hid (And.intro hj hj2)
      clear hk hsl hn hmb hmc hj hj2 hmj hm
      go_upto_region 11 with fail
      have ha3 := get_new wc (.cells #[.int .i64 do_, .int .i64 xn, .int .i64 xt, .bool xon, .int .i64 m.frm, .int .i64 m.to, .int .i64 m.kind, .string m.body] 42 (0, 0))
      have hm3 := (Mod.refl [] wc).alloc (.cells #[.int .i64 do_, .int .i64 xn, .int .i64 xt, .bool xon, .int .i64 m.frm, .int .i64 m.to, .int .i64 m.kind, .string m.body] 42 (0, 0))
      have hba : wc.heap.size ≤ wc.heap.size := Nat.le_refl _
      clear m0 m1 m2 m3 m4 m5 m6 m7
      generalize wc.alloc (.cells #[.int .i64 do_, .int .i64 xn, .int .i64 xt, .bool xon, .int .i64 m.frm, .int .i64 m.to, .int .i64 m.kind, .string m.body] 42 (0, 0)) = w3 at *
      generalize hbb : wc.heap.size = ba at ha3
      have HBA := hid hbb
      clear hba
      have b4 := cell_at ha3 4
      have b5 := cell_at ha3 5
      have b6 := cell_at ha3 6
      have b7 := cell_at ha3 7
      have HW3 := hid (And.intro ha3 hm3)
      clear ha3 hm3
      clear hbb
      go_upto_region 12 with (first
        | (go_at_call 11; refine (short_call w3 m hsz).mono ?_; rintro e w4 ⟨rfl, hm4⟩; have H4 := hid hm4; clear hm4))
      have hg5 := get_new w4 (.cells #[.int .i64 m.frm, .int .i64 m.to, .int .i64 m.kind, .string (shortB m.body)] 29 (0, 0))
      have ha5 := get_alloc (H4.out.get HW3.out.1 (by simp)) (.cells #[.int .i64 m.frm, .int .i64 m.to, .int .i64 m.kind, .string (shortB m.body)] 29 (0, 0))
      have hm5 := (HW3.out.2.trans H4.out).alloc (.cells #[.int .i64 m.frm, .int .i64 m.to, .int .i64 m.kind, .string (shortB m.body)] 29 (0, 0))
      have hb5 : wc.heap.size ≤ w4.heap.size := Nat.le_trans HW3.out.2.size H4.out.size
      have hne5 : w4.heap.size ≠ ba := by have h1 := lt_of_block (H4.out.get HW3.out.1 (by simp)); omega
      clear H4 b4 b5 b6 b7 HW3
      generalize (w4.alloc (.cells #[.int .i64 m.frm, .int .i64 m.to, .int .i64 m.kind, .string (shortB m.body)] 29 (0, 0))) = w5 at *
      generalize w4.heap.size = b at *
      clear w4
      have H5 := hid (And.intro hg5 (And.intro hm5 (And.intro hb5 (And.intro ha5 hne5))))
      have a3 := among_in m.frm 4 (by omega)
      have a9 := among_in m.to 4 (by omega)
      refine wp_region_N (fun w' => w'.cell? ⟨b, 0, none⟩ = some (.int .i64 m.frm) ∧ w'.cell? ⟨b, 1, none⟩ = some (.int .i64 m.to)) (fun i => !(i == 9 || i == 11)) (by kernel_rfl) ?_
      have hS : (fun w' : World => w'.cell? ⟨b, 0, none⟩ = some (.int .i64 m.frm) ∧ w'.cell? ⟨b, 1, none⟩ = some (.int .i64 m.to)) w5.drew := ⟨cell_at hg5 0, cell_at hg5 1⟩
      clear hg5 hm5 hb5 ha5 hne5
      refine regA 0 40 (v := ?_) rfl rfl (by kernel_rfl) (by kernel_rfl) (by kernel_rfl) (fun _ _ _ h => h) (by rfl) (fun w => ?_) ?_; rotate_left; (go_simp; first | done | with_reducible rfl); (try simp only [Act.put, List.setIfInBounds_toArray, List.set_cons_zero, List.set_cons_succ])
      refine regS 1 41 (v := ?_) hS rfl rfl (by kernel_rfl) (by kernel_rfl) (by kernel_rfl) (by kernel_rfl) (fun _ _ _ h => h) (by rfl) (fun w hSw => ?_) ?_; rotate_left; (go_simp; first | done | with_reducible rfl); (try simp only [Act.put, List.setIfInBounds_toArray, List.set_cons_zero, List.set_cons_succ])
      refine regA 4 44 (v := ?_) rfl rfl (by kernel_rfl) (by kernel_rfl) (by kernel_rfl) (fun _ _ _ h => h) (by rfl) (fun w => ?_) ?_; rotate_left; (go_simp; first | done | with_reducible rfl); (try simp only [Act.put, List.setIfInBounds_toArray, List.set_cons_zero, List.set_cons_succ])
      refine regS 5 45 (v := ?_) hS rfl rfl (by kernel_rfl) (by kernel_rfl) (by kernel_rfl) (by kernel_rfl) (fun _ _ _ h => h) (by rfl) (fun w hSw => ?_) ?_; rotate_left; (go_simp; first | done | with_reducible rfl); (try simp only [Act.put, List.setIfInBounds_toArray, List.set_cons_zero, List.set_cons_succ])
      refine regOnly 2 (by kernel_rfl) rfl (by rfl) (fun K hK => ?_)
      go_wp2_with (first | (go_at_call 12; refine (among_any _ _ _ (by omega) (by omega)).mono ?_; rintro e w' ⟨rfl, rfl⟩))
      refine hK.out _ _ (fun _ h => h) ?_
      clear hK
      (try simp only [Act.put, List.setIfInBounds_toArray, List.set_cons_zero, List.set_cons_succ])
      refine regA 3 43 (v := .int .i64 (1 + among m.frm 4)) rfl rfl (by kernel_rfl) (by kernel_rfl) (by kernel_rfl) (fun _ _ _ h => h) (by rfl) (fun w => ?_) ?_
      · go_simp
        exact IntWalk.i64_in _ (by omega)
      (try simp only [Act.put, List.setIfInBounds_toArray, List.set_cons_zero, List.set_cons_succ])
      refine regA 8 48 (v := ?_) rfl rfl (by kernel_rfl) (by kernel_rfl) (by kernel_rfl) (fun _ _ _ h => h) (by rfl) (fun w => ?_) ?_; rotate_left; (go_simp; first | done | with_reducible rfl); (try simp only [Act.put, List.setIfInBounds_toArray, List.set_cons_zero, List.set_cons_succ])
      refine regOnly 6 (by kernel_rfl) rfl (by rfl) (fun K hK => ?_)
      go_wp2_with (first | (go_at_call 12; refine (among_any _ _ _ (by omega) (by omega)).mono ?_; rintro e w' ⟨rfl, rfl⟩))
      refine hK.out _ _ (fun _ h => h) ?_
      clear hK
      (try simp only [Act.put, List.setIfInBounds_toArray, List.set_cons_zero, List.set_cons_succ])
      refine regA 7 47 (v := .int .i64 (1 + among m.to 4)) rfl rfl (by kernel_rfl) (by kernel_rfl) (by kernel_rfl) (fun _ _ _ h => h) (by rfl) (fun w => ?_) ?_
      · go_simp
        exact IntWalk.i64_in _ (by omega)
      (try simp only [Act.put, List.setIfInBounds_toArray, List.set_cons_zero, List.set_cons_succ])
      have hg5 : w5.drew.heap[b]? = _ := H5.out.1
      have hm5 := H5.out.2.1.drew
      have hb5 := H5.out.2.2.1
      have ha5 : w5.drew.heap[ba]? = _ := H5.out.2.2.2.1
      have hne5 := H5.out.2.2.2.2
      clear hS H5
      generalize w5.drew = w5d at *
      have f0 := free_at hg5 0
      have f1 := free_at hg5 1
      have c0 := cell_at hg5 0
      have c1 := cell_at hg5 1
      have H5 := hid (And.intro hg5 (And.intro hm5 (And.intro hb5 (And.intro ha5 hne5))))
      clear hg5 hm5 hb5 ha5 hne5
      refine regOnly 9 (by kernel_rfl) rfl (by rfl) (fun K hK => ?_)
      go_wp2_with fail
      refine hK.out _ _ (fun h _ => absurd h (by decide)) ?_
      clear hK
      (try simp only [Act.put, List.setIfInBounds_toArray, List.set_cons_zero, List.set_cons_succ])
      refine regA 10 49 (v := ?_) rfl rfl (by kernel_rfl) (by kernel_rfl) (by kernel_rfl) (fun _ _ _ h => h) (by rfl) (fun w => ?_) ?_; rotate_left; (go_simp; first | done | with_reducible rfl); (try simp only [Act.put, List.setIfInBounds_toArray, List.set_cons_zero, List.set_cons_succ])
      refine regOnly 11 (by kernel_rfl) rfl (by rfl) (fun K hK => ?_)
      go_wp2_with fail
      refine hK.out _ _ (fun h _ => absurd h (by decide)) ?_
      clear hK
      (try simp only [Act.put, List.setIfInBounds_toArray, List.set_cons_zero, List.set_cons_succ])
      refine regDone (by kernel_rfl) ?_ _
      clear f0 f1 c0 c1
      have hq := get_setCell_self (get_setCell_self H5.out.1 0 (.int .i64 (1 + among m.frm 4))) 1 (.int .i64 (1 + among m.to 4))
      have hm6 := (H5.out.2.1.setCell (p := ⟨b, 0, none⟩) (.inr H5.out.2.2.1) (.int .i64 (1 + among m.frm 4))).setCell (p := ⟨b, 1, none⟩) (.inr H5.out.2.2.1) (.int .i64 (1 + among m.to 4))
      have ha6 := get_setCell (get_setCell H5.out.2.2.2.1 (p := ⟨b, 0, none⟩) (fun e => H5.out.2.2.2.2 e.symm) (.int .i64 (1 + among m.frm 4))) (p := ⟨b, 1, none⟩) (fun e => H5.out.2.2.2.2 e.symm) (.int .i64 (1 + among m.to 4))
      rw [show ((#[Value.int IntKind.i64 m.frm, Value.int IntKind.i64 m.to, Value.int IntKind.i64 m.kind, Value.string (shortB m.body)].setIfInBounds 0 (Value.int IntKind.i64 (1 + among m.frm 4))).setIfInBounds 1 (Value.int IntKind.i64 (1 + among m.to 4))) = #[Value.int IntKind.i64 (1 + among m.frm 4), Value.int IntKind.i64 (1 + among m.to 4), Value.int IntKind.i64 m.kind, Value.string (shortB m.body)] from rfl] at hq
      generalize ((w5d.setCell ⟨b, 0, none⟩ (.int .i64 (1 + among m.frm 4))).setCell ⟨b, 1, none⟩ (.int .i64 (1 + among m.to 4))) = w6 at *
      clear H5
      obtain ⟨M, hM⟩ : ∃ M : Msg, M = ⟨1 + among m.frm 4, 1 + among m.to 4, m.kind, shortB m.body⟩ := ⟨_, rfl⟩
      have hM0 : M.frm = 1 + among m.frm 4 ∧ M.to = 1 + among m.to 4 ∧ M.kind = m.kind ∧ M.body = shortB m.body := by rw [hM]; exact ⟨rfl, rfl, rfl, rfl⟩
      have hMp : 1 ≤ M.to ∧ M.to ≤ 4 := by omega
      rw [← hM0.1, ← hM0.2.1, ← hM0.2.2.1, ← hM0.2.2.2] at hq
      clear hM0 hM a3 a9
      have a5 := among_in do_ 5 (by omega)
      have g0 := cell_at hq 0
      have g1 := cell_at hq 1
      have g2 := cell_at hq 2
      have g3 := cell_at hq 3
      have b0 := cell_at ha6 0
      have b1 := cell_at ha6 1
      have b3 := cell_at ha6 3
      have HMP := hid hMp
      have H6 := hid (And.intro hm6 (And.intro hq ha6))
      clear hMp hm6 hq ha6
      go_upto_block 2 with (first | (go_at_call 12; refine (among_any _ _ _ (by omega) (by omega)).mono ?_; rintro e w' ⟨rfl, rfl⟩))
      generalize among do_ 5 = D at *
      go_cut [9] (fun ev wx => ∃ (e : Int) (s' : NetS) (n' : Nat), ev = .int .i64 e ∧ ((e = 0 ∧ n' = n + 1) ∨ (e ≠ 0 ∧ n' = n)) ∧ Keep s' n' ∧ NetAt wx p s' ∧ Mod [] w wx)
      case first =>
        obtain ⟨hk, hsl, hn, hm⟩ := HS.out
        have hm6 := hm.trans H6.out.1
        have hn6 := hn.mod0 H6.out.1
        have hsum : s.sent ≤ 1000000 := by have := hk.sum; have := HJ.out.2; omega
        have HX := hid (And.intro hk hm6)
        have hD : D = 0 ∨ D = 1 ∨ D = 2 ∨ D = 3 ∨ D = 4 := by omega
        have hsend := send_any w6 p s M hn6 hk.ok hsum
        unfold Msg.v NumPost at hsend
        have hks := hk.send HMP.out
        have htake := take_any w6 p s xn hn6 hk.ok hsum
        unfold MsgPost at htake
        have hkt := hk.take xn
        have hcut := cut_any w6 p s M.frm M.to xon hn6 hk.ok
        unfold ErrPost at hcut
        have hkc := hk.cut (M.frm, M.to) xon
        generalize s.send M = r at hsend hks
        obtain ⟨s1, k1, e1⟩ := r
        generalize s.take xn = r at htake hkt
        obtain ⟨s2, m2, e2⟩ := r
        generalize s.cutting (M.frm, M.to) xon = r at hcut hkc
        obtain ⟨s3, e3⟩ := r
        dsimp only at hsend hks htake hkt hcut hkc
        generalize m2.v = v2 at htake
        have HSE := hid (And.intro hsend hks)
        have HTA := hid (And.intro htake hkt)
        have HCU := hid (And.intro hcut hkc)
        clear hk hsl hn hm hm6 hn6 hsum hsend hks htake hkt hcut hkc a5 H6
        rcases hD with hd | hd | hd | hd | hd
        all_goals subst hd
        iterate 3
          · clear HTA HCU
            go_wp2_with (first
              | (go_at_call 13; refine HSE.out.1.mono ?_; rintro e w7 ⟨rfl, hn7, hm7⟩; have H7 := hid (And.intro hn7 hm7); clear hn7 hm7))
            go_meet
            rcases HSE.out.2 with ⟨h0, h1⟩ | ⟨h0, h1⟩
            · exact ⟨_, s1, n + 1, rfl, .inl ⟨h0, rfl⟩, h1, H7.out.1, HX.out.2.trans' H7.out.2 (fun x hx => .inr (HF.out x hx))⟩
            · exact ⟨_, s1, n, rfl, .inr ⟨h0, rfl⟩, h1 ▸ HX.out.1, H7.out.1, HX.out.2.trans' H7.out.2 (fun x hx => .inr (HF.out x hx))⟩
        · clear HSE HCU
          go_wp2_with (first
            | (go_at_call 15; refine HTA.out.1.mono ?_; rintro e w7 ⟨rfl, hn7, hm7⟩; have H7 := hid (And.intro hn7 hm7); clear hn7 hm7))
          go_meet
          exact ⟨_, s2, n, rfl, .inr ⟨by decide, rfl⟩, HTA.out.2, H7.out.1, HX.out.2.trans' H7.out.2 (fun x hx => .inr (HF.out x hx))⟩
        · clear HSE HTA
          go_wp2_with (first
            | (go_at_call 19; refine HCU.out.1.mono ?_; rintro e w7 ⟨rfl, hn7, hm7⟩; have H7 := hid (And.intro hn7 hm7); clear hn7 hm7))
          go_meet
          exact ⟨_, s3, n, rfl, .inr ⟨by decide, rfl⟩, HCU.out.2, H7.out.1, HX.out.2.trans' H7.out.2 (fun x hx => .inr (HF.out x hx))⟩
      case rest =>
        obtain ⟨ev, s', n', rfl, hev, hk, hn, hm⟩ := hcut
        have hsl : n' ≤ j + 1 := by have := HS.out.2.1; omega
        have hnj : (n : Int) ≤ 100 := by have := HS.out.2.1; have := HJ.out.2; omega
        have HX := hid (And.intro hk (And.intro hsl (And.intro hn hm)))
        clear HS H6 HMP g0 g1 g2 g3 b0 b1 b3 hk hsl hn hm a5
        go_upto_if 78 with fail
        go_cut [5] (fun sv wx => sv = .int .i64 (n' : Int) ∧ wx = wc)
        case first =>
          rcases hev with ⟨h0, h1⟩ | ⟨h0, h1⟩
          · have H1 := hid h1
            clear h1
            go_wp2_with fail
            go_meet
            refine ⟨?_, rfl⟩
            rw [H1.out]
            first | (congr 1; go_num) | go_num
          · have h0' : (ev == 0) = false := by simpa using h0
            have H1 := hid h1
            clear h0 h1
            go_wp2_with fail
            go_meet
            exact ⟨by rw [H1.out], rfl⟩
        case rest =>
          obtain ⟨hcv, hcw⟩ := hcut
          subst hcv
          subst hcw
          clear hev hnj
          obtain ⟨gko, hgk⟩ : ∃ x, x = gk := ⟨_, rfl⟩
          have HJ2 := hid (And.intro hgk (hgk ▸ HJ.out))
          clear hgk
          go_wp2_with fail
          go_loopg [10, 11] 4 (fun gk wv kv W' => ∃ k : Nat, kv = nat k ∧ 1 ≤ k ∧ gk + k = 5 ∧ wv = .int .i64 (below s' k) ∧ Mod [] wc W')
          case atStart => exact ⟨1, rfl, by omega, rfl, rfl, Mod.refl _ _⟩
          case round =>
            obtain ⟨k, rfl, hk1, hkg, rfl, hm⟩ := hrel
            have hsum : s'.sent ≤ 1000000 := by have := HX.out.1.sum; have := HX.out.2.1; have := HJ.out.2; omega
            have hbl := below_in s' k (by omega)
            have hb5 := HX.out.1.below5
            have htk := HX.out.1.ok.taken
            by_cases hk4 : k ≤ 4
            · have hst := below_step s' k (by omega)
              have hb2 := below_in s' (k + 1) (by omega)
              have hwt := waiting_any wr p s' (k : Int) (HX.out.2.2.1.mod0 hm) HX.out.1.ok hsum
              obtain ⟨q, hq⟩ : ∃ q, q = (s'.waiting (k : Int)).length := ⟨_, rfl⟩
              have e1 : waits s' k = (q : Int) := by rw [hq]; rfl
              rw [e1] at hst
              have HQ := hid hq
              have HWT := hid hwt
              have HM := hid hm
              have HST := hid hst
              have q1 : below s' k ≤ 1000000 := by omega
              have q2 : (q : Int) ≤ 1000000 := by omega
              have q3 : 0 ≤ below s' k := by omega
              clear e1 hq hwt hm hst hb2 hb5 hbl hsum htk
              generalize below s' k = B at *
              go_wp2_with (first
                | (go_at_call 16; refine HWT.out.mono ?_; rintro e w9 ⟨v, rfl, hv9, hm9⟩; obtain ⟨a9, c9, rfl⟩ := row_slice hv9.row; have H9 := hid hm9; clear hv9 hm9; simp only [← HQ.out]))
              go_roundg (gk - 1)
              case measure => omega
              case rel => exact ⟨k + 1, by go_num, by omega, by omega, by rw [HST.out], HM.out.trans H9.out⟩
            · obtain rfl : k = 5 := by omega
              have hct := count_any wr p s' (HX.out.2.2.1.mod0 hm)
              rw [HX.out.1.sum, HX.out.1.lost] at hct
              rw [HX.out.1.sum] at hb5 hsum
              have HC := hid hct
              have HM := hid hm
              have h1 : s'.taken ≤ 1000000 := by omega
              have h2 : below s' 5 ≤ 1000000 := by omega
              have h3 : 0 ≤ below s' 5 := by omega
              generalize below s' 5 = B at *
              generalize s'.taken = T at *
              clear hbl hm hct
              have HB5 := hid hb5
              go_wp2_with (first
                | (go_at_call 20; refine HC.out.mono ?_; rintro e w9 ⟨rfl, hm9⟩; have H9 := hid hm9; clear hm9))
              go_roundg (gko - 1)
              case measure => have := HJ2.out; omega
              case rel =>
                exact ⟨j + 1, n', s', by go_num, by rw [← HB5.out], by have := HJ2.out; omega, HX.out.1, HX.out.2.1, HX.out.2.2.1.mod0 (HM.out.trans H9.out), HX.out.2.2.2.trans (HM.out.trans H9.out)⟩
    · rw [decide_eq_false hjn] at hcv
      subst hcv
      have HM := hid hm
      clear hk hn hm hj hsl hjn
      go_wp2_with fail
      go_ret
      exact ⟨rfl, HM.out⟩
end Go.Proofs.Ytbjgjagbepopfaa
