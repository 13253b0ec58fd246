/-
  CastPlays, walked. No statement of a claim stands here; each contract names what it asks.
-/
import Derived.Test.YtcgfjalglnlofaaPlays0
set_option linter.unusedSimpArgs false
namespace Go.Proofs.Ytcgfjalglnlofaa
open Go Go.RowKit

set_option maxRecDepth 20000 in
set_option maxHeartbeats 2000000 in
theorem plays_any (W : World) (n t me dealer : Int) (a : Option Addr) (c : Nat) (l : List Msg) (hm : ListAt W a l) (hlen : l.length ≤ maxLen) :
    Calls Try.prog 7 #[.int .i64 n, .int .i64 t, .int .i64 me, .int .i64 dealer, .slice a l.length c] W fun e W' => e = .returned (.bool true) ∧ Mod [] W W' := by
  have HMV := hid hm
  have HLEN := hid hlen
  clear hm
  cases hg : goodNode n t me dealer with
  | false =>
    have HG := hid hg
    clear hg
    go_enter Try.func7, Try.ntmps7
    go_wp2_with (first
      | (go_at_call 19; refine (make_no n t me dealer _ HG.out).mono ?_; rintro e w2 ⟨rfl, hm2⟩)
      | (go_at_call 20; refine (refMake_no n t me dealer _ HG.out).mono ?_; rintro e w3 ⟨rfl, hm3⟩)
      | (go_at_call 9; refine (works_any _).mono ?_; rintro e w1 ⟨rfl, hm1⟩))
    go_ret
    exact ⟨rfl, (hm2.trans hm3).trans hm1⟩
  | true =>
    have HP0 := hid (PInv.new hg)
    have HG := hid hg
    clear hg
    go_enter Try.func7, Try.ntmps7
    go_wp2_with (first
      | (go_at_call 19; refine (make_yes n t me dealer _ HG.out).mono ?_; rintro e w2 ⟨x, be, br, rfl, hn2, hm2, hx, hbe, hbr⟩; have H2 := hid (And.intro hn2 (And.intro hm2 (And.intro hx (And.intro hbe hbr)))); clear hn2 hm2 hx hbe hbr)
      | (go_at_call 20; refine (refMake_yes n t me dealer _ HG.out).mono ?_; rintro e w3 ⟨y, rfl, hr3, hm3, hy⟩; have H3 := hid (And.intro hr3 (And.intro hm3 hy)); clear hr3 hm3 hy))
    have hB : Both W w3 x be br y (newNode n t me dealer) := ⟨H2.out.1.mod H3.out.2.1 (by simp) (by simp) (by simp), H3.out.1, H2.out.2.1.trans H3.out.2.1, H2.out.2.2.1, H2.out.2.2.2.1, H2.out.2.2.2.2, Nat.le_trans H2.out.2.1.size H3.out.2.2⟩
    have HB := hid hB
    clear hB H2 H3 HG
    generalize newNode n t me dealer = s0 at *
    go_loopg [15] l.length (fun gk i W' => ∃ (j : Nat) (s : NodeS), i = .int .i64 (j : Int) ∧ gk + j = l.length ∧ j ≤ 150 ∧ PInv j s ∧ Both W W' x be br y s)
    case atStart => exact ⟨0, s0, rfl, by omega, by omega, HP0.out, HB.out⟩
    case round =>
      obtain ⟨j, s, rfl, hj, hj150, hP, hBo⟩ := hrel
      have HP := hid hP
      have HBo := hid hBo
      clear hP hBo
      by_cases hjn : j < l.length
      · by_cases hj2 : j < 150
        · have hmj : l[j]? = some l[j] := List.getElem?_eq_getElem hjn
          obtain ⟨mb, mo, rfl, hmb, hmc⟩ := HMV.out.cell j _ hmj
          generalize l[j] = m at hmj hmc
          obtain ⟨kd, fr, vl⟩ := m
          have hmw : ∀ j' u, (⟨kd, fr, vl⟩ : Msg).cells[j']? = some u → wr.cell? ⟨mb, mo + j * 3 + j', none⟩ = some u := fun j' u hu => HBo.out.mod.cell (hmc j' u hu) (by simp)
          have m0 : wr.cell? ⟨mb, mo + j * 3, none⟩ = some (.int .i64 kd) := hmw 0 _ rfl
          have m1 : wr.cell? ⟨mb, mo + j * 3 + 1, none⟩ = some (.int .i64 fr) := hmw 1 _ rfl
          have m2 : wr.cell? ⟨mb, mo + j * 3 + 2, none⟩ = some (.string vl) := hmw 2 _ rfl
          have j0 : (0 : Int) ≤ (j : Int) := Int.natCast_nonneg _
          have j1 : (j : Int) < (l.length : Int) := by omega
          have j2 : (j : Int) < 150 := by omega
          obtain ⟨cz, hcz⟩ : ∃ k : Nat, k = min vl.size 4097 := ⟨_, rfl⟩
          have cz1 : (if (4097 : Int) < (vl.size : Int) then (4097 : Int) else (vl.size : Int)) = (cz : Int) := by split <;> omega
          have cz2 : (if 4097 < vl.size then (4097 : Int) else (vl.size : Int)) = (cz : Int) := by split <;> omega
          have cz3 : cz ≤ vl.size := by omega
          have cz4 : (0 : Int) ≤ (cz : Int) := Int.natCast_nonneg _
          have hsz : (vl.extract 0 cz).size ≤ 9223372036854775807 := by rw [hcz]; simp [ByteArray.size_extract]; omega
          have HSZ := hid hsz
          clear hsz
          have HJ := hid (And.intro hj hj150)
          clear hmc hmb hmw hj hj150 hcz hmj HLEN hlen
          by_cases hk : kd = 4
          · have d1 : (kd == 4) = true := by simpa using hk
            clear hk
            obtain ⟨r, hr⟩ : ∃ r, r = startS s (vl.extract 0 cz) := ⟨_, rfl⟩
            have hPS : PInv (j + 1) r.1 := by rw [hr]; exact HP.out.start (vl.extract 0 cz)
            have hst : ∀ W', NodeAt W' x be br s → Calls Try.prog 16 #[.pointer (some ⟨x, 0, none⟩), .string (vl.extract 0 cz)] W' fun e w' => e = .returned (.tuple #[.agg r.2.1.cells.toArray, .int .i64 r.2.2]) ∧ NodeAt w' x be br r.1 ∧ Mod [x] W' w' := by
              rw [hr]; exact fun W' h => start_any W' x be br s (vl.extract 0 cz) h HP.out.n0 HSZ.out
            have hst2 : ∀ W', RefAt W' y s → Calls Try.prog 21 #[.pointer (some ⟨y, 0, none⟩), .string (vl.extract 0 cz)] W' fun e w' => e = .returned (.tuple #[.agg r.2.1.cells.toArray, .int .i64 r.2.2]) ∧ RefAt w' y r.1 ∧ Mod [y] W' w' := by
              rw [hr]; exact fun W' h => refStart_any W' y s (vl.extract 0 cz) h HP.out.n0 HSZ.out
            clear hr
            obtain ⟨s', ⟨k', f', v'⟩, e'⟩ := r
            simp only [Msg.cells] at hst hst2 hPS
            have HST := hid hst
            have HST2 := hid hst2
            have HPS := hid hPS
            have hqv := chars_eq v' v'
            rw [decide_eq_true rfl] at hqv
            clear hst hst2 hPS HP
            go_wp2_with (first
              | (go_at_call 16; refine (HST.out (wr.alloc (.cells #[.int .i64 kd, .int .i64 fr, .string (vl.extract 0 cz)] 36)) (HBo.out.mod0 (Mod.alloc (Mod.refl _ _) _)).node).mono ?_; rintro e w5 ⟨rfl, hn5, hm5⟩; have hb5 := hm5.get (get_new wr (.cells #[.int .i64 kd, .int .i64 fr, .string (vl.extract 0 cz)] 36)) (by have := lt_of_block HBo.out.node.cells; simp; omega); have b5 : (w5.alloc (.cells #[.int .i64 k', .int .i64 f', .string v'] 36)).cell? ⟨wr.heap.size, 2, none⟩ = some (.string (vl.extract 0 cz)) := cell_at (get_alloc hb5 _) 2; have H5 := hid (And.intro hn5 hm5); clear hn5 hm5 hb5)
              | (go_at_call 21; refine (HST2.out (w5.alloc (.cells #[.int .i64 k', .int .i64 f', .string v'] 36)) (HBo.out.ref.mod (((Mod.refl [x] wr).alloc _).trans (H5.out.2.alloc _)) (by have := HBo.out.yn; simp at this; simp; exact this.1))).mono ?_; rintro e w6 ⟨rfl, hr6, hm6⟩; have hb6 := get_alloc (hm6.get (get_new w5 (.cells #[.int .i64 k', .int .i64 f', .string v'] 36)) (by have := HBo.out.ref; have := lt_of_block this; have := H5.out.2.size; simp at this; simp; omega)) (.cells #[.int .i64 k', .int .i64 f', .string v'] 50); have q0 : (w6.alloc (.cells #[.int .i64 k', .int .i64 f', .string v'] 50)).cell? ⟨w5.heap.size, 0, none⟩ = some (.int .i64 k') := cell_at hb6 0; have q1 : (w6.alloc (.cells #[.int .i64 k', .int .i64 f', .string v'] 50)).cell? ⟨w5.heap.size, 1, none⟩ = some (.int .i64 f') := cell_at hb6 1; have q2 : (w6.alloc (.cells #[.int .i64 k', .int .i64 f', .string v'] 50)).cell? ⟨w5.heap.size, 2, none⟩ = some (.string v') := cell_at hb6 2; have H6 := hid (And.intro hr6 hm6); clear hr6 hm6 hb6))
            go_roundg (gk - 1)
            case measure => have := HJ.out; omega
            case rel => exact ⟨j + 1, s', by go_num, by have := HJ.out; omega, by omega, HPS.out, HBo.out.step (H5.out.1.mod (S := []) (Mod.alloc (Mod.refl _ _) _) (by simp) (by simp) (by simp)) (((((Mod.refl [x] wr).alloc _).trans H5.out.2).mono (by simp)).alloc _) (get_alloc H6.out.1 _) (H6.out.2.alloc _)⟩
          · have d1 : (kd == 4) = false := by simpa using hk
            clear hk
            obtain ⟨r, hr⟩ : ∃ r, r = takeS s ⟨kd, fr, vl.extract 0 cz⟩ := ⟨_, rfl⟩
            have hPT : PInv (j + 1) r.1 := by rw [hr]; exact HP.out.take _
            have htk : ∀ W', NodeAt W' x be br s → Calls Try.prog 22 #[.pointer (some ⟨x, 0, none⟩), .agg #[.int .i64 kd, .int .i64 fr, .string (vl.extract 0 cz)]] W' fun e w' => ∃ v, e = .returned v ∧ NodeAt w' x be br r.1 ∧ MsgsAt W'.heap.size w' v r.2 ∧ Mod [x, be, br] W' w' := by
              rw [hr]; exact fun W' h => take_any W' x be br s ⟨kd, fr, vl.extract 0 cz⟩ h HP.out.n0 HP.out.n1 HP.out.t0 HP.out.t1 HP.out.E HP.out.R (by have := HP.out.lE; omega) (by have := HP.out.lR; omega)
            have htr : ∀ W', RefAt W' y s → Calls Try.prog 23 #[.pointer (some ⟨y, 0, none⟩), .agg #[.int .i64 kd, .int .i64 fr, .string (vl.extract 0 cz)]] W' fun e w' => ∃ v, e = .returned v ∧ RefAt w' y r.1 ∧ RMsgsAt W'.heap.size w' v r.2 ∧ Mod [y] W' w' := by
              rw [hr]; exact fun W' h => rtake_any W' y s ⟨kd, fr, vl.extract 0 cz⟩ h HP.out.n0 HP.out.n1 HP.out.t0 HP.out.t1 HP.out.E HP.out.R HP.out.kE HP.out.kR (by have := HP.out.lE; omega) (by have := HP.out.lR; omega)
            clear hr
            obtain ⟨s', out⟩ := r
            dsimp only at hPT htk htr
            have HTK := hid htk
            have HTR := hid htr
            have HPT := hid hPT
            clear htk htr hPT HP
            go_wp2_with fail
            refine wp_abs (fun W1 => Both W W1 x be br y s ∧ W1.heap[wr.heap.size]? = some (.cells #[.int .i64 kd, .int .i64 fr, .string (vl.extract 0 cz)] 36 (0, 0))) ⟨HBo.out.mod0 (Mod.alloc (Mod.refl _ _) _), get_new wr (.cells #[.int .i64 kd, .int .i64 fr, .string (vl.extract 0 cz)] 36)⟩ ?_
            rintro W1 ⟨hB1, hbx⟩
            have hlx := lt_of_block hbx
            clear HBo m0 m1 m2
            generalize wr.heap.size = bx at *
            have hx1 : bx ∉ [x, be, br] := by
              simp only [List.mem_cons, List.not_mem_nil, or_false, not_or]
              exact ⟨ne_ty hbx hB1.node.cells (by decide), ne_map hbx hB1.node.e, ne_map hbx hB1.node.r⟩
            have hy1 : bx ∉ [y] := by
              simp only [List.mem_cons, List.not_mem_nil, or_false]
              exact ne_ty hbx hB1.ref (by decide)
            have hyl : y < W1.heap.size := lt_of_block hB1.ref
            have b0 : W1.cell? ⟨bx, 0, none⟩ = some (.int .i64 kd) := cell_at hbx 0
            have b1 : W1.cell? ⟨bx, 1, none⟩ = some (.int .i64 fr) := cell_at hbx 1
            have b2 : W1.cell? ⟨bx, 2, none⟩ = some (.string (vl.extract 0 cz)) := cell_at hbx 2
            have HB1 := hid hB1
            clear hB1 hbx
            refine wp_region_N (fun w' => w'.cell? ⟨bx, 0, none⟩ = some (.int .i64 kd) ∧ w'.cell? ⟨bx, 1, none⟩ = some (.int .i64 fr) ∧ w'.cell? ⟨bx, 2, none⟩ = some (.string (vl.extract 0 cz))) (fun _ => true) (by kernel_rfl) ?_
            have hS : (fun w' : World => w'.cell? ⟨bx, 0, none⟩ = some (.int .i64 kd) ∧ w'.cell? ⟨bx, 1, none⟩ = some (.int .i64 fr) ∧ w'.cell? ⟨bx, 2, none⟩ = some (.string (vl.extract 0 cz))) W1.drew := ⟨b0, b1, b2⟩
            refine regA 0 122 (v := ?_) rfl rfl (by kernel_rfl) (by kernel_rfl) (by kernel_rfl) (fun _ _ _ h => h) (by rfl) (fun w => ?_) ?_; rotate_left; (go_simp; first | done | with_reducible rfl); (try simp only [Act.put, List.setIfInBounds_toArray, List.set_cons_zero, List.set_cons_succ])
            refine regS 1 123 (v := ?_) hS rfl rfl (by kernel_rfl) (by kernel_rfl) (by kernel_rfl) (by kernel_rfl) (fun _ _ _ h => h) (by rfl) (fun w hSw => ?_) ?_; rotate_left; (go_simp; first | done | with_reducible rfl); (try simp only [Act.put, List.setIfInBounds_toArray, List.set_cons_zero, List.set_cons_succ])
            refine regA 3 125 (v := ?_) rfl rfl (by kernel_rfl) (by kernel_rfl) (by kernel_rfl) (fun _ _ _ h => h) (by rfl) (fun w => ?_) ?_; rotate_left; (go_simp; first | done | with_reducible rfl); (try simp only [Act.put, List.setIfInBounds_toArray, List.set_cons_zero, List.set_cons_succ])
            refine regA 4 126 (v := ?_) rfl rfl (by kernel_rfl) (by kernel_rfl) (by kernel_rfl) (fun _ _ _ h => h) (by rfl) (fun w => ?_) ?_; rotate_left; (go_simp; first | done | with_reducible rfl); (try simp only [Act.put, List.setIfInBounds_toArray, List.set_cons_zero, List.set_cons_succ])
            refine regS 5 127 (v := ?_) hS rfl rfl (by kernel_rfl) (by kernel_rfl) (by kernel_rfl) (by kernel_rfl) (fun _ _ _ h => h) (by rfl) (fun w hSw => ?_) ?_; rotate_left; (go_simp; first | done | with_reducible rfl); (try simp only [Act.put, List.setIfInBounds_toArray, List.set_cons_zero, List.set_cons_succ])
            refine regA 6 128 (v := ?_) rfl rfl (by kernel_rfl) (by kernel_rfl) (by kernel_rfl) (fun _ _ _ h => h) (by rfl) (fun w => ?_) ?_; rotate_left; (go_simp; first | done | with_reducible rfl); (try simp only [Act.put, List.setIfInBounds_toArray, List.set_cons_zero, List.set_cons_succ])
            refine regS 7 129 (v := ?_) hS rfl rfl (by kernel_rfl) (by kernel_rfl) (by kernel_rfl) (by kernel_rfl) (fun _ _ _ h => h) (by rfl) (fun w hSw => ?_) ?_; rotate_left; (go_simp; first | done | with_reducible rfl); (try simp only [Act.put, List.setIfInBounds_toArray, List.set_cons_zero, List.set_cons_succ])
            refine regA 8 130 (v := ?_) rfl rfl (by kernel_rfl) (by kernel_rfl) (by kernel_rfl) (fun _ _ _ h => h) (by rfl) (fun w => ?_) ?_; rotate_left; (go_simp; first | done | with_reducible rfl); (try simp only [Act.put, List.setIfInBounds_toArray, List.set_cons_zero, List.set_cons_succ])
            refine regS 9 131 (v := ?_) hS rfl rfl (by kernel_rfl) (by kernel_rfl) (by kernel_rfl) (by kernel_rfl) (fun _ _ _ h => h) (by rfl) (fun w hSw => ?_) ?_; rotate_left; (go_simp; first | done | with_reducible rfl); (try simp only [Act.put, List.setIfInBounds_toArray, List.set_cons_zero, List.set_cons_succ])
            refine regA 10 132 (v := ?_) rfl rfl (by kernel_rfl) (by kernel_rfl) (by kernel_rfl) (fun _ _ _ h => h) (by rfl) (fun w => ?_) ?_; rotate_left; (go_simp; first | done | with_reducible rfl); (try simp only [Act.put, List.setIfInBounds_toArray, List.set_cons_zero, List.set_cons_succ])
            refine regOnly 2 (by kernel_rfl) rfl (by rfl) (fun K hK => ?_)
            go_wp2_with (first
              | (go_at_call 22; refine (HTK.out W1.drew (HB1.out.mod0 (Mod.refl _ _).drew).node).mono ?_; rintro e w5 ⟨v1, rfl, hn5, ho5, hm5⟩))
            refine hK.out _ _ (fun _ _ => ⟨hm5.cell b0 hx1, hm5.cell b1 hx1, hm5.cell b2 hx1⟩) ?_
            clear hK hS
            (try simp only [Act.put, List.setIfInBounds_toArray, List.set_cons_zero, List.set_cons_succ])
            have H5 := hid (And.intro hn5 (And.intro ho5 hm5))
            have e0 := hm5.cell b0 hx1
            have e1 := hm5.cell b1 hx1
            have e2 := hm5.cell b2 hx1
            clear hn5 ho5 hm5
            refine regOnly 11 (by kernel_rfl) rfl (by rfl) (fun K hK => ?_)
            go_wp2_with (first
              | (go_at_call 23; refine (HTR.out w5 ((HB1.out.mod0 (Mod.refl _ _).drew).ref.mod H5.out.2.2 HB1.out.yn)).mono ?_; rintro e w6 ⟨v2, rfl, hr6, ho6, hm6⟩))
            refine hK.out _ _ (fun _ _ => ⟨hm6.cell e0 hy1, hm6.cell e1 hy1, hm6.cell e2 hy1⟩) ?_
            clear hK
            (try simp only [Act.put, List.setIfInBounds_toArray, List.set_cons_zero, List.set_cons_succ])
            have H6 := hid (And.intro hr6 (And.intro ho6 hm6))
            clear hr6 ho6 hm6 e0 e1 e2 b0 b1 b2
            refine regOnly 12 (by kernel_rfl) rfl (by rfl) (fun K hK => ?_)
            go_wp2_with fail
            refine hK.out _ _ (fun _ h => h) ?_
            clear hK
            (try simp only [Act.put, List.setIfInBounds_toArray, List.set_cons_zero, List.set_cons_succ])
            refine regOnly 13 (by kernel_rfl) rfl (by rfl) (fun K hK => ?_)
            go_wp2_with fail
            refine hK.out _ _ (fun _ h => h) ?_
            clear hK
            (try simp only [Act.put, List.setIfInBounds_toArray, List.set_cons_zero, List.set_cons_succ])
            refine regDone (by kernel_rfl) ?_ _
            obtain ⟨a1, c1, rfl, ho1, hz1⟩ := (H5.out.2.1.mod H6.out.2.2 hyl).form
            obtain ⟨a2, c2, rfl, -, hz2⟩ := H6.out.2.1.form
            have HB6 := hid ((HB1.out.mod0 (Mod.refl _ _).drew).step H5.out.1 H5.out.2.2 H6.out.1 H6.out.2.2)
            have HZ1 := hid hz1
            have HZ2 := hid hz2
            clear hz1 hz2 H5 H6 HB1 HTK HTR
            go_wp2_with fail
            generalize gk = go at *
            go_loopg [23] out.length (fun gk i W' => ∃ (i0 : Nat), i = .int .i64 (i0 : Int) ∧ gk + i0 = out.length ∧ Mod [] w6 W')
            case atStart => exact ⟨0, rfl, rfl, Mod.refl _ _⟩
            case round =>
              obtain ⟨i0, rfl, hi0, hm0⟩ := hrel
              by_cases hio : i0 < out.length
              · have hi00 : i0 = 0 := by omega
                subst hi00
                obtain ⟨p1, ⟨k1, f1, v1⟩, rfl, hout, hc1⟩ := HZ1.out hio
                obtain ⟨p2, m2, rfl, hout2, hc2⟩ := HZ2.out hio
                rw [hout] at hout2
                obtain rfl := List.cons.inj hout2 |>.1
                have hc1' := hm0.get hc1 (by simp)
                have hc2' := hm0.get hc2 (by simp)
                have p10 : wr.cell? ⟨p1, 0, none⟩ = some (.int .i64 k1) := cell_at hc1' 0
                have p11 : wr.cell? ⟨p1, 1, none⟩ = some (.int .i64 f1) := cell_at hc1' 1
                have p12 : wr.cell? ⟨p1, 2, none⟩ = some (.string v1) := cell_at hc1' 2
                have p20 : wr.cell? ⟨p2, 0, none⟩ = some (.int .i64 k1) := cell_at hc2' 0
                have p21 : wr.cell? ⟨p2, 1, none⟩ = some (.int .i64 f1) := cell_at hc2' 1
                have p22 : wr.cell? ⟨p2, 2, none⟩ = some (.string v1) := cell_at hc2' 2
                have hqv := chars_eq v1 v1
                rw [decide_eq_true rfl] at hqv
                have z1 : (0 : Int) < (out.length : Int) := by omega
                have HM0 := hid hm0
                clear hc1 hc2 hc1' hc2' hout hout2 hm0
                go_wp2_with fail
                go_quiet (fail)
                go_wp2_with fail
                go_roundg (gk - 1)
                case measure => omega
                case rel => exact ⟨1, by go_num, by omega, HM0.out.trans (Mod.drewN (Mod.refl _ _) _)⟩
              · have d1 : decide ((i0 : Int) < (out.length : Int)) = false := by rw [decide_eq_false_iff_not]; omega
                have d2 : decide (i0 < out.length) = false := by rw [decide_eq_false_iff_not]; omega
                have HBr := hid (HB6.out.mod0 hm0)
                have hq1 := chars_eq s'.sv s'.sv
                have hq2 := chars_eq s'.ev s'.ev
                have hq3 := chars_eq s'.rv s'.rv
                rw [decide_eq_true rfl] at hq1 hq2 hq3
                clear hm0 hio
                go_wp2_with (first
                  | (go_at_call 18; refine (value_any _ x be br s' HBr.out.node HPT.out.n0).mono ?_; rintro e w7 ⟨rfl, hm7⟩; have H7 := hid hm7; clear hm7)
                  | (go_at_call 24; refine (echoed_any _ x be br s' (HBr.out.mod0 H7.out).node HPT.out.n0).mono ?_; rintro e w8 ⟨rfl, hm8⟩; have H8 := hid (H7.out.trans hm8); clear hm8)
                  | (go_at_call 25; refine (readied_any _ x be br s' (HBr.out.mod0 H8.out).node HPT.out.n0).mono ?_; rintro e w9 ⟨rfl, hm9⟩; have H9 := hid (HBr.out.mod0 (H8.out.trans hm9)); clear hm9; obtain ⟨-, -, -, -, c72, c73, c74, c75, c76, c77, -, -, -, -⟩ := H9.out.ref.all))
                go_roundg (go - 1)
                case measure => have := HJ.out; omega
                case rel => exact ⟨j + 1, s', by go_num, by have := HJ.out; omega, by omega, HPT.out, H9.out⟩
        · have d1 : decide ((j : Int) < (l.length : Int)) = true := by rw [decide_eq_true_eq]; omega
          have d2 : decide ((j : Int) < 150) = false := by rw [decide_eq_false_iff_not]; omega
          have d3 : decide (j < l.length) = true := by rw [decide_eq_true_eq]; omega
          have d4 : decide (j < 150) = false := by rw [decide_eq_false_iff_not]; omega
          go_wp2_with (first | (go_at_call 9; refine (works_any _).mono ?_; rintro e w1 ⟨rfl, hm1⟩))
          go_ret
          exact ⟨rfl, HBo.out.mod.trans hm1⟩
      · have d1 : decide ((j : Int) < (l.length : Int)) = false := by rw [decide_eq_false_iff_not]; omega
        have d3 : decide (j < l.length) = false := by rw [decide_eq_false_iff_not]; omega
        go_wp2_with (first | (go_at_call 9; refine (works_any _).mono ?_; rintro e w1 ⟨rfl, hm1⟩))
        go_ret
        exact ⟨rfl, HBo.out.mod.trans hm1⟩
end Go.Proofs.Ytcgfjalglnlofaa
