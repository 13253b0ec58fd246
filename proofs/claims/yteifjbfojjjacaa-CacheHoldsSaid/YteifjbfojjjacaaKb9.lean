/-
  CacheHolds, walked. No statement of a claim stands here; each contract names what it asks.
-/
import Derived.Test.YteifjbfojjjacaaKb8
import Derived.Test.YteifjbfojjjacaaKaW
import Derived.Test.YteifjbfojjjacaaKaM
import Derived.Deep.DeepCutAuto
import Derived.Deep.CutBlock
set_option linter.unusedSimpArgs false
namespace Go.Proofs.Yteifjbfojjjacaa
open Go Go.RowKit Go.ChangeMaps

theorem hlen_cells (w : World) (x n : Nat) (a : Option Addr) (c : Nat) (room : Int) (hr : 0 < room) (c0 : w.cell? ⟨x, 0, none⟩ = some (.int .i64 room)) (c1 : w.cell? ⟨x, 1, none⟩ = some (.slice a n c)) :
    Calls Try.prog 23 #[.pointer (some ⟨x, 0, none⟩)] w fun e w' => e = .returned (.int .i64 (n : Int)) ∧ w' = w := by
  go_enter Try.func23, Try.ntmps23
  go_wp2_with (first | (go_at_call 34; refine (his_some _ _ room hr c0).mono ?_; rintro e w' ⟨rfl, rfl⟩))
  go_ret
  exact ⟨rfl, rfl⟩


set_option maxRecDepth 20000 in
set_option maxHeartbeats 12000000 in
theorem holds_any (W : World) (room : Int) (a : Option Addr) (c : Nat) (l : List ActS) (hm : ActsAt W a l) (hlen : l.length ≤ maxLen) :
    Calls Try.prog 7 #[.int .i64 room, .slice a l.length c] W fun e W' => e = .returned (.bool true) ∧ Mod [] W W' := by
  have HMV := hid hm
  clear hm
  cases hro : roomOk room with
  | false =>
    have HRO := hid hro
    clear hro
    go_enter Try.func7, Try.ntmps7
    go_wp2_with (first
      | (go_at_call 11; refine (works_any _).mono ?_; rintro e w1 ⟨rfl, hm1⟩; have HM1 := hid hm1; clear hm1)
      | (go_at_call 18; refine (makeHeld_no room _ HRO.out).mono ?_; rintro e w' ⟨rfl, rfl⟩)
      | (go_at_call 24; refine (rmakeHeld_no room _ HRO.out).mono ?_; rintro e w' ⟨rfl, rfl⟩))
    go_ret
    exact ⟨rfl, HM1.out⟩
  | true =>
    have hr1 : 0 < room ∧ room ≤ 256 := by simp only [roomOk, Bool.and_eq_true, decide_eq_true_eq] at hro; omega
    have HRO := hid hro
    clear hro
    go_enter Try.func7, Try.ntmps7
    go_wp2_with (first
      | (go_at_call 18; refine (makeHeld_yes room _ HRO.out).mono ?_; rintro e w2 ⟨rfl, hc2, hm2⟩; have H2 := hid (And.intro hc2 hm2); clear hc2 hm2)
      | (go_at_call 24; refine (rmakeHeld_yes room _ HRO.out).mono ?_; rintro e w3 ⟨rfl, hh3, hm3⟩; have H3 := hid (And.intro hh3 hm3); clear hh3 hm3))
    have hA : TwoAt W w3 W.heap.size w2.heap.size (.slice none 0 0) (.slice none 0 0) room [] [] :=
      ⟨⟨H3.out.2.get H2.out.1 (by simp), ⟨rfl, .inl ⟨rfl, rfl⟩⟩, fun p hp => by cases hp⟩, H3.out.1, H2.out.2.trans H3.out.2, Nat.le_refl _, H2.out.2.size, fun k hk => (by cases hk), fun k hk => (by cases hk), fun k hk => (by cases hk)⟩
    have HA := hid hA
    clear hA H2 H3
    generalize W.heap.size = x at HA ⊢
    generalize w2.heap.size = y at HA ⊢
    go_loopg [9] l.length (fun gk iv W' => ∃ (j : Nat) (vx vy : Value) (lx ly put : Tks), iv = .int .i64 (j : Int) ∧ gk + j = l.length ∧ j ≤ 100 ∧ TwoAt W W' x y vx vy room lx ly ∧ Twin room lx ly put)
    case atStart => exact ⟨0, _, _, [], [], [], rfl, rfl, by omega, HA.out, ⟨rfl, FInv.nil, by simp; omega, fun p hp => by cases hp⟩⟩
    case round =>
      obtain ⟨j, vx, vy, lx, ly, put, rfl, hj, hj100, hT, hW⟩ := hrel
      have HT := hid hT
      have HW := hid hW
      clear hT hW HA
      by_cases hjn : j < l.length
      · by_cases hj2 : j < 100
        · have hmj : l[j]? = some l[j] := List.getElem?_eq_getElem hjn
          obtain ⟨mb, mo, rfl, hmb, hmc, hkin, hkl⟩ := HMV.out.cell j _ hmj
          generalize l[j] = m at hmj hmc hkin hkl
          obtain ⟨dd, nw, kv, client, service, key, from_, until_, renew, flags⟩ := m
          dsimp only at hkin hkl
          have hkf : ∃ a n c, kv = .slice a n c := by
            rcases hkin with ⟨rfl, -⟩ | ⟨ad, c, rfl, -⟩ <;> exact ⟨_, _, _, rfl⟩
          have mc : ∀ j' u, (⟨dd, nw, kv, client, service, key, from_, until_, renew, flags⟩ : ActS).cells[j']? = some u → wr.cell? ⟨mb, mo + j * 9 + j', none⟩ = some u := fun j' u hu => HT.out.mod.cell (hmc j' u hu) (by simp)
          have m0 := mc 0 _ rfl
          have m1 := mc 1 _ rfl
          have m2 := mc 2 _ rfl
          have m3 := mc 3 _ rfl
          have m4 := mc 4 _ rfl
          have m5 := mc 5 _ rfl
          have m6 := mc 6 _ rfl
          have m7 := mc 7 _ rfl
          have m8 := mc 8 _ rfl
          dsimp only at m0 m1 m2 m3 m4 m5 m6 m7 m8
          rw [Nat.add_zero] at m0
          have j0 : (0 : Int) ≤ (j : Int) := Int.natCast_nonneg _
          have j1 : (j : Int) < (l.length : Int) := by omega
          have j2 : (j : Int) < 100 := by omega
          have d1 : decide ((j : Int) < (l.length : Int)) = true := by rw [decide_eq_true_eq]; omega
          have d2 : decide (j < l.length) = true := by rw [decide_eq_true_eq]; omega
          have HJ := hid (And.intro hj hj100)
          have HK := hid (And.intro hkin hkl)
          clear hmc hmb hj hj100 hmj hlen hkin hkl mc
          obtain ⟨ka, kn, kc, rfl⟩ := hkf
          go_upto_block 2 with (first
            | (go_at_call 17; refine (among_any _ _ _ (by omega) (by omega)).mono ?_; rintro e w' ⟨rfl, rfl⟩))
          have hd : 0 ≤ among dd 8 ∧ among dd 8 < 8 := ⟨Int.emod_nonneg _ (by omega), Int.emod_lt_of_pos _ (by omega)⟩
          generalize among dd 8 = d at *
          obtain ⟨hd0, hd8⟩ := hd
          have hBa := get_new wr (.cells #[.int .i64 dd, .int .i64 nw, .string client, .string service, .slice ka kn kc, .int .i64 from_, .int .i64 until_, .int .i64 renew, .int .i64 flags] 52)
          have hTa := HT.out.mod0 (Mod.alloc (Mod.refl [] wr) (.cells #[.int .i64 dd, .int .i64 nw, .string client, .string service, .slice ka kn kc, .int .i64 from_, .int .i64 until_, .int .i64 renew, .int .i64 flags] 52))
          generalize (wr.alloc (.cells #[.int .i64 dd, .int .i64 nw, .string client, .string service, .slice ka kn kc, .int .i64 from_, .int .i64 until_, .int .i64 renew, .int .i64 flags] 52)) = Wa at *
          generalize wr.heap.size = ba at *
          have HB := hid hBa
          have HTA := hid hTa
          clear m0 m1 m2 m3 m4 m5 m6 m7 m8 hBa hTa HT d1 d2 j0 j1
          go_cut [11] (fun ov wx => ov = .bool true ∧ ∃ (vx' vy' : Value) (l' m' put' : Tks), TwoAt W wx x y vx' vy' room l' m' ∧ Twin room l' m' put')
          case first =>
            go_upto_if 94 with fail
            go_cut [94] (fun tv wx => tv = .bool (decide (d < 4)) ∧ wx = Wa)
            case first =>
              have h8 : d = 0 ∨ d = 1 ∨ d = 2 ∨ d = 3 ∨ d = 4 ∨ d = 5 ∨ d = 6 ∨ d = 7 := by omega
              rcases h8 with rfl | rfl | rfl | rfl | rfl | rfl | rfl | rfl <;> (go_wp2_with fail; go_meet; exact ⟨rfl, rfl⟩)
            case rest =>
              obtain ⟨rfl, rfl⟩ := hcut
              by_cases hd4 : d < 4
              · have dd4 : decide (d < 4) = true := by simpa using hd4
                obtain ⟨tt, htt⟩ : ∃ t : TkS, t = ⟨client, service, key, from_, until_, renew, flags⟩ := ⟨_, rfl⟩
                have hP : ∀ W', TwoAt W W' x y vx vy room lx ly → Calls Try.prog 19 #[.pointer (some ⟨x, 0, none⟩), .agg (tt.cells (.slice ka kn kc)).toArray] W' fun e w' => e = .returned (.int .i64 (putE tt)) ∧ ∃ kv' vx', TwoAt W w' x y vx' vy room (putS room lx kv' tt) ly ∧ Mod (x :: vx.ownBlock.toList) W' w' := fun W' h => by
                  refine (put_any W' x vx room lx tt _ h.held hr1.1 (by have := HW.out.len; omega) (by rw [htt]; exact HK.out.1.mod h.mod) (by rw [htt]; exact HK.out.2) (fun w' hm => by rw [htt]; exact h.key hm (fun k hk => (h.inx k hk).1) HK.out.1)).mono ?_
                  rintro e w' ⟨rfl, kv', v', h1, h2, h3⟩
                  exact ⟨rfl, kv', v', h.prog h1 h2 h3, h2⟩
                have hR : ∀ W' vx' lx', TwoAt W W' x y vx' vy room lx' ly → Calls Try.prog 25 #[.pointer (some ⟨y, 0, none⟩), .agg (tt.cells (.slice ka kn kc)).toArray] W' fun e w' => e = .returned (.int .i64 (putE tt)) ∧ ∃ ku vy', TwoAt W w' x y vx' vy' room lx' (rputS room ly ku tt) ∧ Mod (y :: vy.ownBlock.toList) W' w' := fun W' vx' lx' h => by
                  refine (rput_any W' y vy room ly tt _ h.ref (by have := HW.out.len; have := bare_len HW.out.same; omega) hr1.1 (by rw [htt]; exact HK.out.2) (fun w' hm => by rw [htt]; exact h.key hm (fun k hk => (h.iny k hk).1) HK.out.1)).mono ?_
                  rintro e w' ⟨rfl, kv', v', h1, h2, h3⟩
                  exact ⟨rfl, kv', v', h.refp h1 h2 h3, h2⟩
                have hbx : ba ∉ x :: vx.ownBlock.toList := fun hk => by
                  obtain ⟨-, -, c, T, hc, hT⟩ := HTA.out.inx ba hk
                  rcases hT with rfl | rfl <;> exact ne_ty hc HB.out (by decide) rfl
                have hby : ba ∉ y :: vy.ownBlock.toList := fun hk => by
                  obtain ⟨-, -, c, T, hc, hT⟩ := HTA.out.iny ba hk
                  rcases hT with rfl | rfl <;> exact ne_ty hc HB.out (by decide) rfl
                have htwin := fun kv' ku => HW.out.put hr1.1 kv' ku tt (by rw [htt]; exact HK.out.2)
                have HTW := hid htwin
                have HPP := hid hP
                have HRR := hid hR
                have HBX := hid (And.intro hbx hby)
                clear hP hR htwin hbx hby
                rw [htt] at HPP HRR HTW
                simp only [TkS.cells] at HPP HRR
                generalize putE ⟨client, service, key, from_, until_, renew, flags⟩ = E at HPP HRR
                clear htt tt
                have hSat : ∀ W5 : World, W5.heap[ba]? = some (.cells #[.int .i64 dd, .int .i64 nw, .string client, .string service, .slice ka kn kc, .int .i64 from_, .int .i64 until_, .int .i64 renew, .int .i64 flags] 52 (0, 0)) → (fun W' : World => W'.cell? ⟨ba, 2, none⟩ = some (.string client) ∧ W'.cell? ⟨ba, 3, none⟩ = some (.string service) ∧ W'.cell? ⟨ba, 4, none⟩ = some (.slice ka kn kc) ∧ W'.cell? ⟨ba, 5, none⟩ = some (.int .i64 from_) ∧ W'.cell? ⟨ba, 6, none⟩ = some (.int .i64 until_) ∧ W'.cell? ⟨ba, 7, none⟩ = some (.int .i64 renew) ∧ W'.cell? ⟨ba, 8, none⟩ = some (.int .i64 flags)) W5 := fun W5 h2 => ⟨cell_at h2 2, cell_at h2 3, cell_at h2 4, cell_at h2 5, cell_at h2 6, cell_at h2 7, cell_at h2 8⟩
                have HSAT := hid hSat
                clear hSat
                go_upto_region 20 with fail
                refine wp_region_N (fun W' : World => W'.cell? ⟨ba, 2, none⟩ = some (.string client) ∧ W'.cell? ⟨ba, 3, none⟩ = some (.string service) ∧ W'.cell? ⟨ba, 4, none⟩ = some (.slice ka kn kc) ∧ W'.cell? ⟨ba, 5, none⟩ = some (.int .i64 from_) ∧ W'.cell? ⟨ba, 6, none⟩ = some (.int .i64 until_) ∧ W'.cell? ⟨ba, 7, none⟩ = some (.int .i64 renew) ∧ W'.cell? ⟨ba, 8, none⟩ = some (.int .i64 flags)) (fun _ => true) (by kernel_rfl) ?_
                have hS := HSAT.out wc.drew HB.out
                dsimp only at hS
                refine regA 0 99 (v := ?_) rfl rfl (by kernel_rfl) (by kernel_rfl) (by kernel_rfl) (fun _ _ _ h => h) (by rfl) (fun w => ?_) ?_; rotate_left; (go_simp; first | done | with_reducible rfl); (try simp only [Act.put, List.setIfInBounds_toArray, List.set_cons_zero, List.set_cons_succ])
                refine regA 1 100 (v := ?_) rfl rfl (by kernel_rfl) (by kernel_rfl) (by kernel_rfl) (fun _ _ _ h => h) (by rfl) (fun w => ?_) ?_; rotate_left; (go_simp; first | done | with_reducible rfl); (try simp only [Act.put, List.setIfInBounds_toArray, List.set_cons_zero, List.set_cons_succ])
                refine regS 2 101 (v := ?_) hS rfl rfl (by kernel_rfl) (by kernel_rfl) (by kernel_rfl) (by kernel_rfl) (fun _ _ _ h => h) (by rfl) (fun w hSw => ?_) ?_; rotate_left; (go_simp; first | done | with_reducible rfl); (try simp only [Act.put, List.setIfInBounds_toArray, List.set_cons_zero, List.set_cons_succ])
                refine regA 4 103 (v := ?_) rfl rfl (by kernel_rfl) (by kernel_rfl) (by kernel_rfl) (fun _ _ _ h => h) (by rfl) (fun w => ?_) ?_; rotate_left; (go_simp; first | done | with_reducible rfl); (try simp only [Act.put, List.setIfInBounds_toArray, List.set_cons_zero, List.set_cons_succ])
                refine regA 5 104 (v := ?_) rfl rfl (by kernel_rfl) (by kernel_rfl) (by kernel_rfl) (fun _ _ _ h => h) (by rfl) (fun w => ?_) ?_; rotate_left; (go_simp; first | done | with_reducible rfl); (try simp only [Act.put, List.setIfInBounds_toArray, List.set_cons_zero, List.set_cons_succ])
                refine regS 6 105 (v := ?_) hS rfl rfl (by kernel_rfl) (by kernel_rfl) (by kernel_rfl) (by kernel_rfl) (fun _ _ _ h => h) (by rfl) (fun w hSw => ?_) ?_; rotate_left; (go_simp; first | done | with_reducible rfl); (try simp only [Act.put, List.setIfInBounds_toArray, List.set_cons_zero, List.set_cons_succ])
                clear hS
                refine regOnly 3 (by kernel_rfl) rfl (by rfl) (fun K hK => ?_)
                go_wp2_with (first
                  | (go_at_call 19; refine (HPP.out _ (HTA.out.mod0 (Mod.refl _ _).drew)).mono ?_; rintro e w5 ⟨rfl, kv5, vx5, hT5, hm5⟩))
                have hb5 := hm5.get (b := ba) HB.out HBX.out.1
                refine hK.out _ _ (fun _ _ => HSAT.out _ hb5) ?_
                clear hK
                (try simp only [Act.put, List.setIfInBounds_toArray, List.set_cons_zero, List.set_cons_succ])
                refine regOnly 7 (by kernel_rfl) rfl (by rfl) (fun K hK => ?_)
                go_wp2_with (first
                  | (go_at_call 25; refine (HRR.out _ _ _ hT5).mono ?_; rintro e w6 ⟨rfl, ku6, vy6, hT6, hm6⟩))
                refine hK.out _ _ (fun _ _ => HSAT.out _ (hm6.get hb5 HBX.out.2)) ?_
                clear hK
                (try simp only [Act.put, List.setIfInBounds_toArray, List.set_cons_zero, List.set_cons_succ])
                refine regA 8 107 (v := ?_) rfl rfl (by kernel_rfl) (by kernel_rfl) (by kernel_rfl) (fun _ _ _ h => h) (by rfl) (fun w => ?_) ?_; rotate_left; (go_simp; first | done | with_reducible rfl); (try simp only [Act.put, List.setIfInBounds_toArray, List.set_cons_zero, List.set_cons_succ])
                refine regOnly 9 (by kernel_rfl) rfl (by rfl) (fun K hK => ?_)
                go_wp2_with fail
                refine hK.out _ _ (fun _ h => h) ?_
                clear hK
                (try simp only [Act.put, List.setIfInBounds_toArray, List.set_cons_zero, List.set_cons_succ])
                refine regDone (by kernel_rfl) ?_ _
                obtain ⟨put6, hW6⟩ := HTW.out kv5 ku6
                go_wp2_with fail
                go_meet
                exact ⟨rfl, vx5, vy6, _, _, put6, hT6, hW6⟩
              · have dd4 : decide (d < 4) = false := by simpa using hd4
                by_cases hd7 : d = 7
                · have dd7 : (d == 7) = true := by simpa using hd7
                  clear hd7
                  have hP : ∀ W', TwoAt W W' x y vx vy room lx ly → Calls Try.prog 26 #[.pointer (some ⟨x, 0, none⟩), .int .i64 nw] W' fun e w' => e = .returned (.tuple #[.int .i64 (dropN lx nw), .int .i64 (dropE nw)]) ∧ ∃ vx', TwoAt W w' x y vx' vy room (dropS lx nw) ly ∧ Mod (x :: vx.ownBlock.toList) W' w' := fun W' h => by
                    refine (hdrop_any W' x vx room lx nw h.held hr1.1 (by have := HW.out.len; omega)).mono ?_
                    rintro e w' ⟨rfl, v', h1, h2, h3⟩
                    exact ⟨rfl, v', h.prog h1 h2 (fun q hq => .inl (h3 q hq)), h2⟩
                  have hR : ∀ W' vx' lx', TwoAt W W' x y vx' vy room lx' ly → Calls Try.prog 27 #[.pointer (some ⟨y, 0, none⟩), .int .i64 nw] W' fun e w' => e = .returned (.tuple #[.int .i64 (dropN lx nw), .int .i64 (dropE nw)]) ∧ ∃ vy', TwoAt W w' x y vx' vy' room lx' (dropS ly nw) := fun W' vx' lx' h => by
                    refine (rdrop_any W' y vy room ly nw h.ref (by have := HW.out.len; have := bare_len HW.out.same; omega)).mono ?_
                    rintro e w' ⟨rfl, v', h1, h2, h3⟩
                    rw [(drop_bare HW.out.same nw).2]
                    exact ⟨rfl, v', h.refp h1 (h2.mono (fun b hb => .inl (by rw [List.mem_singleton.1 hb]; exact List.mem_cons_self))) h3⟩
                  have hbx : ba ∉ x :: vx.ownBlock.toList := fun hk => by
                    obtain ⟨-, -, c, T, hc, hT⟩ := HTA.out.inx ba hk
                    rcases hT with rfl | rfl <;> exact ne_ty hc HB.out (by decide) rfl
                  have HTW := hid (HW.out.drop nw)
                  have HPP := hid hP
                  have HRR := hid hR
                  have HBX := hid hbx
                  have b1 : wc.cell? ⟨ba, 1, none⟩ = some (.int .i64 nw) := cell_at HB.out 1
                  clear hP hR hbx
                  generalize dropN lx nw = N at HPP HRR
                  generalize dropE nw = E at HPP HRR
                  go_wp2_with (first
                    | (go_at_call 26; refine (HPP.out _ HTA.out).mono ?_; rintro e w5 ⟨rfl, vx5, hT5, hm5⟩; have b5 : w5.cell? ⟨ba, 1, none⟩ = some (.int .i64 nw) := hm5.cell b1 HBX.out; have HT5 := hid hT5; clear hT5 hm5)
                    | (go_at_call 27; refine (HRR.out _ _ _ HT5.out).mono ?_; rintro e w6 ⟨rfl, vy6, hT6⟩; have HT6 := hid hT6; clear hT6))
                  go_meet
                  exact ⟨rfl, vx5, vy6, _, _, put, HT6.out, HTW.out⟩
                · have dd7 : (d == 7) = false := by simpa using hd7
                  obtain ⟨r, hr⟩ : ∃ r, r = findS lx client service nw := ⟨_, rfl⟩
                  have hP : ∀ W', TwoAt W W' x y vx vy room lx ly → Calls Try.prog 20 #[.pointer (some ⟨x, 0, none⟩), .string client, .string service, .int .i64 nw] W' fun e w' => ∃ kv', e = .returned (.tuple #[.agg (r.1.cells kv').toArray, .int .i64 r.2]) ∧ KeyIn w' kv' r.1.key ∧ TwoAt W w' x y vx vy room lx ly ∧ Mod [] W' w' := fun W' h => by
                    refine (find_any W' x vx room lx client service nw h.held hr1.1 (by have := HW.out.len; omega) HW.out.kl).mono ?_
                    rw [hr]
                    rintro e w' ⟨kv', rfl, hk⟩
                    exact ⟨kv', rfl, KeyOwn.in_ hk.1, h.mod0 hk.2.1, hk.2.1⟩
                  have hR : ∀ W', TwoAt W W' x y vx vy room lx ly → Calls Try.prog 28 #[.pointer (some ⟨y, 0, none⟩), .string client, .string service, .int .i64 nw] W' fun e w' => ∃ kv', e = .returned (.tuple #[.agg (r.1.cells kv').toArray, .int .i64 r.2]) ∧ KeyIn w' kv' r.1.key ∧ TwoAt W w' x y vx vy room lx ly ∧ Mod [] W' w' := fun W' h => by
                    refine (rfind_any W' y vy room ly client service nw h.ref (by have := HW.out.len; have := bare_len HW.out.same; omega)).mono ?_
                    rw [hr, find_bare HW.out.same HW.out.inv.nodup]
                    rintro e w' ⟨kv', rfl, hk, hm⟩
                    exact ⟨kv', rfl, hk, h.mod0 hm, hm⟩
                  obtain ⟨⟨rc, rs, rk, rf, ru, rr, rg⟩, re⟩ := r
                  simp only [TkS.cells] at hP hR
                  have hsm : ∀ W' kv8 kv9, KeyIn W' kv8 rk → KeyIn W' kv9 rk → Calls Try.prog 21 #[.agg #[.string rc, .string rs, kv8, .int .i64 rf, .int .i64 ru, .int .i64 rr, .int .i64 rg], .agg #[.string rc, .string rs, kv9, .int .i64 rf, .int .i64 ru, .int .i64 rr, .int .i64 rg]] W' fun e w' => e = .returned (.bool true) ∧ Mod [] W' w' := fun W' kv8 kv9 h8 h9 => by
                    have := same_any W' ⟨rc, rs, rk, rf, ru, rr, rg⟩ kv8 kv9 h8 h9
                    simp only [TkS.cells] at this
                    exact this
                  have HSM := hid hsm
                  have HPP := hid hP
                  have HRR := hid hR
                  have b1 : wc.cell? ⟨ba, 1, none⟩ = some (.int .i64 nw) := cell_at HB.out 1
                  have b2 : wc.cell? ⟨ba, 2, none⟩ = some (.string client) := cell_at HB.out 2
                  have b3 : wc.cell? ⟨ba, 3, none⟩ = some (.string service) := cell_at HB.out 3
                  clear hP hR hsm hr
                  go_wp2_with (first
                    | (go_at_call 20; refine (HPP.out _ HTA.out).mono ?_; rintro e w5 ⟨kv8, rfl, hk5, hT5, hm5⟩; have hkf : ∃ a n c, kv8 = .slice a n c := (by rcases hk5 with ⟨rfl, -⟩ | ⟨ad, c, rfl, -⟩ <;> exact ⟨_, _, _, rfl⟩); obtain ⟨a8, n8, c8, rfl⟩ := hkf; have hma := Mod.alloc (Mod.refl [] w5) (.cells #[.string rc, .string rs, .slice a8 n8 c8, .int .i64 rf, .int .i64 ru, .int .i64 rr, .int .i64 rg] 50); have q1 := (hm5.trans hma).cell b1 (by simp); have q2 := (hm5.trans hma).cell b2 (by simp); have q3 := (hm5.trans hma).cell b3 (by simp); have HT5 := hid (hT5.mod0 hma); have HK5 := hid (hk5.mod hma); clear hT5 hk5 hm5 hma)
                    | (go_at_call 28; refine (HRR.out _ HT5.out).mono ?_; rintro e w6 ⟨kv9, rfl, hk6, hT6, hm6⟩; have hkf : ∃ a n c, kv9 = .slice a n c := (by rcases hk6 with ⟨rfl, -⟩ | ⟨ad, c, rfl, -⟩ <;> exact ⟨_, _, _, rfl⟩); obtain ⟨a9, n9, c9, rfl⟩ := hkf; have hma := Mod.alloc (Mod.refl [] w6) (.cells #[.string rc, .string rs, .slice a9 n9 c9, .int .i64 rf, .int .i64 ru, .int .i64 rr, .int .i64 rg] 50); have hq := (hm6.trans hma).get (get_new w5 (.cells #[.string rc, .string rs, .slice a8 n8 c8, .int .i64 rf, .int .i64 ru, .int .i64 rr, .int .i64 rg] 50)) (by simp); have p0 := cell_at hq 0; have p1 := cell_at hq 1; have p2 := cell_at hq 2; have p3 := cell_at hq 3; have p4 := cell_at hq 4; have p5 := cell_at hq 5; have p6 := cell_at hq 6; simp only [List.getElem?_toArray, List.getElem?_cons_zero, List.getElem?_cons_succ] at p0 p1 p2 p3 p4 p5 p6; have HT6 := hid (hT6.mod0 hma); have HK6 := hid (And.intro (HK5.out.mod (hm6.trans hma)) (hk6.mod hma)); clear hT6 hk6 hm6 hma hq)
                    | (go_at_call 21; refine (HSM.out _ _ _ HK6.out.1 HK6.out.2).mono ?_; rintro e w7 ⟨rfl, hm7⟩; have HT7 := hid (HT6.out.mod0 hm7); clear hm7))
                  go_meet
                  exact ⟨rfl, vx, vy, lx, ly, put, HT7.out, HW.out⟩
          case rest =>
            obtain ⟨rfl, vx', vy', lx', ly', put', hT, hW⟩ := hcut
            have hll := bare_len hW.same
            obtain ⟨ay, cy, rfl⟩ := row_slice hT.ref.row
            obtain ⟨ax, cx, rfl⟩ := row_slice hT.held.row
            have c0 : wc.cell? ⟨x, 0, none⟩ = some (.int .i64 room) := cell_at hT.held.cells 0
            have c2 : wc.cell? ⟨x, 1, none⟩ = some (.slice ax lx'.length cx) := cell_at hT.held.cells 1
            have c1 : wc.cell? ⟨y, 1, none⟩ = some (.slice ay lx'.length cy) := by rw [hll]; exact cell_at hT.ref.cells 1
            have HT := hid hT
            have HW := hid hW
            clear hT hW HTA HB hd0 hd8 hll
            go_wp2_with fail
            go_quiet ((go_at_call 23; exact Calls.quiet_of_same (hlen_cells _ x lx'.length ax cx room hr1.1 (by go_simp) (by go_simp))))
            go_wp2_with fail
            go_roundg (gk - 1)
            case measure => have := HJ.out; omega
            case rel => exact ⟨j + 1, _, _, lx', ly', put', by go_num, by have := HJ.out; omega, by omega, HT.out.mod0 ((Mod.refl _ _).drewN _), HW.out⟩
        · have d1 : decide ((j : Int) < (l.length : Int)) = true := by rw [decide_eq_true_eq]; omega
          have d2 : decide ((j : Int) < 100) = false := by rw [decide_eq_false_iff_not]; omega
          have d3 : decide (j < l.length) = true := by rw [decide_eq_true_eq]; omega
          have d4 : decide (j < 100) = false := by rw [decide_eq_false_iff_not]; omega
          go_wp2_with (first | (go_at_call 11; refine (works_any _).mono ?_; rintro e w1 ⟨rfl, hm1⟩; have HM1 := hid hm1; clear hm1))
          go_ret
          exact ⟨rfl, HT.out.mod.trans HM1.out⟩
      · have d1 : decide ((j : Int) < (l.length : Int)) = false := by rw [decide_eq_false_iff_not]; omega
        have d3 : decide (j < l.length) = false := by rw [decide_eq_false_iff_not]; omega
        go_wp2_with (first | (go_at_call 11; refine (works_any _).mono ?_; rintro e w1 ⟨rfl, hm1⟩; have HM1 := hid hm1; clear hm1))
        go_ret
        exact ⟨rfl, HT.out.mod.trans HM1.out⟩
end Go.Proofs.Yteifjbfojjjacaa
