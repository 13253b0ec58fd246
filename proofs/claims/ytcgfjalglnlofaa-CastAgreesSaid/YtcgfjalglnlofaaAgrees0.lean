/-
  CastAgrees, walked. No statement of a claim stands here; each contract names what it asks.
-/
import Derived.Test.YtcgfjalglnlofaaBegan
set_option linter.unusedSimpArgs false
namespace Go.Proofs.Ytcgfjalglnlofaa
open Go Go.RowKit

set_option maxRecDepth 20000 in
set_option maxHeartbeats 1000000 in
theorem agrees_any (W : World) (t : Int) (val : ByteArray) (a : Option Addr) (c : Nat) (moves : List MoveS) (hv : val.size ≤ maxLen) (hm : MovesAt W a moves) (hlen : moves.length ≤ maxLen) :
    Calls Try.prog 5 #[.int .i64 t, .string val, .slice a moves.length c] W fun e W' => e = .returned (.bool true) ∧ Mod [] W W' := by
  have hr : 0 ≤ among t 3 ∧ among t 3 < 3 := ⟨Int.emod_nonneg _ (by omega), Int.emod_lt_of_pos _ (by omega)⟩
  obtain ⟨tn, htn⟩ : ∃ tn : Nat, (tn : Int) = among t 3 := ⟨(among t 3).toNat, by omega⟩
  have ht2 : tn ≤ 2 := by omega
  have HT := hid htn
  have HMV := hid hm
  have HLEN := hid hlen
  clear htn hm hlen
  by_cases h0 : tn = 0
  · have d0 : ((tn : Int) == 0) = true := by rw [h0]; rfl
    have H0 := hid h0
    clear h0
    go_enter Try.func5, Try.ntmps5
    go_wp2_with (first
      | (go_at_call 9; refine (works_any _).mono ?_; rintro e w1 ⟨rfl, hm1⟩)
      | (go_at_call 10; refine (among_any _ _ _ (by omega) (by omega)).mono ?_; rintro e w' ⟨rfl, rfl⟩; rw [← HT.out])
      | (go_at_call 11; refine (made_any w1 tn tn 1 ht2 (Nat.le_refl _) (by omega) (by omega)).mono ?_; rintro e w2 ⟨lw, sb, vn, bl, rfl, hL2, hm2, hnew⟩; have H2 := hid (And.intro hL2 (And.intro (hm1.trans hm2) (fun k hk => Nat.le_trans hm1.size (hnew k hk)))); clear hL2 hm2 hnew))
    have hL2 := H2.out.1
    obtain ⟨nb, nc, rfl⟩ := hL2.form (by rw [hL2.len]; simp [madeS])
    have hbl : bl.length = 3 * tn + 1 := by rw [hL2.len]; simp [madeS]
    have hib : 0 < bl.length := by omega
    have hp : bl[0]? = some bl[0] := List.getElem?_eq_getElem hib
    have hin : 0 < (madeS tn tn 1 (3 * tn + 1)).nodes.length := by simp [madeS]
    have hs : (madeS tn tn 1 (3 * tn + 1)).nodes[0]? = some (newNode (3 * (tn : Int) + 1) (tn : Int) 1 1) := by simp [madeS]
    generalize bl[0] = p at hp
    have n1 := hL2.at hp
    have l3 : w2.cell? ⟨lw, 3, none⟩ = some (.slice (some ⟨nb, 0, none⟩) bl.length nc) := (cell_at hL2.cells 3).trans rfl
    obtain ⟨cz, hcz⟩ : ∃ k : Nat, k = min val.size 50 := ⟨_, rfl⟩
    have cz1 : (if (50 : Int) < (val.size : Int) then (50 : Int) else (val.size : Int)) = (cz : Int) := by split <;> omega
    have cz2 : (if 50 < val.size then (50 : Int) else (val.size : Int)) = (cz : Int) := by split <;> omega
    have cz3 : cz ≤ val.size := by omega
    have cz4 : (0 : Int) ≤ (cz : Int) := Int.natCast_nonneg _
    have i1 : (0 : Int) < (bl.length : Int) := by omega
    have hmin : (val.extract 0 cz).size ≤ 4096 := by rw [hcz]; simp [ByteArray.size_extract]; omega
    have hst := fun W' h => start_begun W' lw sb (.slice (some ⟨nb, 0, none⟩) bl.length nc) bl tn tn 1 0 p (val.extract 0 cz) rfl (by omega) hmin hp h
    have hal := fun W8 mb hL hB hW => all_begun W W8 lw sb mb (.slice (some ⟨nb, 0, none⟩) bl.length nc) bl tn tn 1 0 (newNode (3 * (tn : Int) + 1) (tn : Int) ((1 : Nat) : Int) ((1 : Nat) : Int)) ⟨1, ((1 : Nat) : Int), val.extract 0 cz⟩ hL hB (Int.le_refl 1) ht2 (Nat.le_refl _) hW H2.out.2.2
    have hI := inv_begun (bad := tn) (d := 1) (k := 0) ht2 (Nat.le_refl _) hs (by have := H0.out; omega) (by omega) (val.extract 0 cz) hmin
    have hp1 : W.heap.size ≤ p.1 := H2.out.2.2 p.1 (by simp [(trip_mem hp).1])
    have hpl : p.1 < w2.heap.size := lt_of_block (hL2.node 0 p _ hp hs).cells
    have hx1 : lw ∉ [p.1] := fun h => (List.mem_cons.1 h).elim (fun h => hL2.trip_ne (trip_mem hp).1 hL2.cells (by decide) h.symm) (fun h => by cases h)
    have hx2 : nb ∉ [p.1] := fun h => (List.mem_cons.1 h).elim (fun h => by obtain ⟨c, hc⟩ := row_block hL2.nodes (k := nb) rfl; exact hL2.trip_ne (trip_mem hp).1 hc (by decide) h.symm) (fun h => by cases h)
    generalize begunS tn tn ((1 : Nat) : Int) 0 (newNode (3 * (tn : Int) + 1) (tn : Int) ((1 : Nat) : Int) ((1 : Nat) : Int)) = L8 at hst hal hI
    have hst' := fun W' (h : LawAt W' lw sb (.slice (some ⟨nb, 0, none⟩) bl.length nc) (.slice none 0 0) (.slice none 0 0) bl (madeS tn tn 1 (3 * tn + 1))) => hst W' h
    have hL2' : LawAt w2 lw sb (.slice (some ⟨nb, 0, none⟩) bl.length nc) (.slice none 0 0) (.slice none 0 0) bl (madeS tn tn 1 (3 * tn + 1)) := hL2
    generalize madeS tn tn 1 (3 * tn + 1) = LM at hst' hL2'
    have HS := hid hst'
    have HA := hid hal
    have HI := hid hI
    have HL := hid hL2'
    have HM := hid H2.out.2.1
    have HX := hid (And.intro hx1 hx2)
    clear hst hst' hal hI hL2 hL2' hcz hp hs hx1 hx2 hbl hin hmin H2
    refine wp_region_N (fun w' => w'.cell? ⟨lw, 3, none⟩ = some (.slice (some ⟨nb, 0, none⟩) bl.length nc) ∧ w'.cell? ⟨nb, 0, none⟩ = some (.pointer (some ⟨p.1, 0, none⟩))) (fun _ => true) (by kernel_rfl) ?_
    have hS : (fun w' : World => w'.cell? ⟨lw, 3, none⟩ = some (.slice (some ⟨nb, 0, none⟩) bl.length nc) ∧ w'.cell? ⟨nb, 0, none⟩ = some (.pointer (some ⟨p.1, 0, none⟩))) w2.drew := ⟨l3, n1⟩
    refine regA 0 22 (v := ?_) rfl rfl (by kernel_rfl) (by kernel_rfl) (by kernel_rfl) (fun _ _ _ h => h) (by rfl) (fun w => ?_) ?_; rotate_left; (go_simp; first | done | with_reducible rfl); (try simp only [Act.put, List.setIfInBounds_toArray, List.set_cons_zero, List.set_cons_succ])
    refine regA 1 23 (v := ?_) rfl rfl (by kernel_rfl) (by kernel_rfl) (by kernel_rfl) (fun _ _ _ h => h) (by rfl) (fun w => ?_) ?_; rotate_left; (go_simp; first | done | with_reducible rfl); (try simp only [Act.put, List.setIfInBounds_toArray, List.set_cons_zero, List.set_cons_succ])
    refine regA 2 24 (v := ?_) rfl rfl (by kernel_rfl) (by kernel_rfl) (by kernel_rfl) (fun _ _ _ h => h) (by rfl) (fun w => ?_) ?_; rotate_left; (go_simp; first | done | with_reducible rfl); (try simp only [Act.put, List.setIfInBounds_toArray, List.set_cons_zero, List.set_cons_succ])
    refine regS 3 25 (v := ?_) hS rfl rfl (by kernel_rfl) (by kernel_rfl) (by kernel_rfl) (by kernel_rfl) (fun _ _ _ h => h) (by rfl) (fun w hSw => ?_) ?_; rotate_left; (go_simp; first | done | with_reducible rfl); (try simp only [Act.put, List.setIfInBounds_toArray, List.set_cons_zero, List.set_cons_succ])
    refine regA 4 26 (v := ?_) rfl rfl (by kernel_rfl) (by kernel_rfl) (by kernel_rfl) (fun _ _ _ h => h) (by rfl) (fun w => ?_) ?_; rotate_left; (go_simp; first | done | with_reducible rfl); (try simp only [Act.put, List.setIfInBounds_toArray, List.set_cons_zero, List.set_cons_succ])
    refine regS 5 27 (v := ?_) hS rfl rfl (by kernel_rfl) (by kernel_rfl) (by kernel_rfl) (by kernel_rfl) (fun _ _ _ h => h) (by rfl) (fun w hSw => ?_) ?_; rotate_left; (go_simp; first | done | with_reducible rfl); (try simp only [Act.put, List.setIfInBounds_toArray, List.set_cons_zero, List.set_cons_succ])
    refine regA 6 28 (v := ?_) rfl rfl (by kernel_rfl) (by kernel_rfl) (by kernel_rfl) (fun _ _ _ h => h) (by rfl) (fun w => ?_) ?_; rotate_left; (go_simp; first | done | with_reducible rfl); (try simp only [Act.put, List.setIfInBounds_toArray, List.set_cons_zero, List.set_cons_succ])
    refine regA 7 29 (v := ?_) rfl rfl (by kernel_rfl) (by kernel_rfl) (by kernel_rfl) (fun _ _ _ h => h) (by rfl) (fun w => ?_) ?_; rotate_left; (go_simp; first | done | with_reducible rfl); (try simp only [Act.put, List.setIfInBounds_toArray, List.set_cons_zero, List.set_cons_succ])
    refine regA 8 30 (v := ?_) rfl rfl (by kernel_rfl) (by kernel_rfl) (by kernel_rfl) (fun _ _ _ h => h) (by rfl) (fun w => ?_) ?_; rotate_left; (go_simp; first | done | with_reducible rfl); (try simp only [Act.put, List.setIfInBounds_toArray, List.set_cons_zero, List.set_cons_succ])
    refine regA 9 31 (v := ?_) rfl rfl (by kernel_rfl) (by kernel_rfl) (by kernel_rfl) (fun _ _ _ h => h) (by rfl) (fun w => ?_) ?_; rotate_left; (go_simp; first | done | with_reducible rfl); (try simp only [Act.put, List.setIfInBounds_toArray, List.set_cons_zero, List.set_cons_succ])
    refine regA 10 32 (v := ?_) rfl rfl (by kernel_rfl) (by kernel_rfl) (by kernel_rfl) (fun _ _ _ h => h) (by rfl) (fun w => ?_) ?_; rotate_left; (go_simp; first | done | with_reducible rfl); (try simp only [Act.put, List.setIfInBounds_toArray, List.set_cons_zero, List.set_cons_succ])
    refine regTwo 11 15 (by kernel_rfl) rfl (by rfl) rfl (by rfl) (fun K hK => ?_) (fun K hK => ?_)
    · go_wp2_with (first
        | (go_at_call 16; refine (HS.out (w2.drew) (HL.out.mod0 (Mod.refl _ _).drew)).mono ?_; rintro e w7 ⟨rfl, hL7, hm7⟩))
      refine hK.out _ _ (fun _ _ => ⟨hm7.cell l3 HX.out.1, hm7.cell n1 HX.out.2⟩) ?_
      clear hK
      (try simp only [Act.put, List.setIfInBounds_toArray, List.set_cons_zero, List.set_cons_succ])
      refine regA 12 21 (v := ?_) rfl rfl (by kernel_rfl) (by kernel_rfl) (by kernel_rfl) (fun _ _ _ h => h) (by rfl) (fun w => ?_) ?_; rotate_left; (go_simp; first | done | with_reducible rfl); (try simp only [Act.put, List.setIfInBounds_toArray, List.set_cons_zero, List.set_cons_succ])
      refine regA 13 34 (v := ?_) rfl rfl (by kernel_rfl) (by kernel_rfl) (by kernel_rfl) (fun _ _ _ h => h) (by rfl) (fun w => ?_) ?_; rotate_left; (go_simp; first | done | with_reducible rfl); (try simp only [Act.put, List.setIfInBounds_toArray, List.set_cons_zero, List.set_cons_succ])
      refine regA 14 35 (v := ?_) rfl rfl (by kernel_rfl) (by kernel_rfl) (by kernel_rfl) (fun _ _ _ h => h) (by rfl) (fun w => ?_) ?_; rotate_left; (go_simp; first | done | with_reducible rfl); (try simp only [Act.put, List.setIfInBounds_toArray, List.set_cons_zero, List.set_cons_succ])
      refine regOnly 15 (by kernel_rfl) rfl (by rfl) (fun K hK => ?_)
      go_wp2_with fail
      have hM1 : Mod [p.1] w2 (w7.alloc (.cells #[.int .i64 0, .int .i64 0, .string ⟨#[]⟩] 36)) := Mod.alloc ((Mod.refl [p.1] w2).drew.trans hm7) _
      refine hK.out _ _ (fun _ _ => ⟨hM1.cell l3 HX.out.1, hM1.cell n1 HX.out.2⟩) ?_
      clear hK
      (try simp only [Act.put, List.setIfInBounds_toArray, List.set_cons_zero, List.set_cons_succ])
      refine regOnly 16 (by kernel_rfl) rfl (by rfl) (fun K hK => ?_)
      go_wp2_with fail
      have hM2 : Mod [p.1] w2 (w7.alloc (.cells #[.int .i64 1, .int .i64 1, .string (val.extract 0 cz)] 36)) := Mod.alloc ((Mod.refl [p.1] w2).drew.trans hm7) _
      refine hK.out _ _ (fun _ _ => ⟨hM2.cell l3 HX.out.1, hM2.cell n1 HX.out.2⟩) ?_
      clear hK
      (try simp only [Act.put, List.setIfInBounds_toArray, List.set_cons_zero, List.set_cons_succ])
      refine regOnly 17 (by kernel_rfl) rfl (by rfl) (fun K hK => ?_)
      go_wp2_with fail
      refine hK.out _ _ (fun _ h => h) ?_
      clear hK
      (try simp only [Act.put, List.setIfInBounds_toArray, List.set_cons_zero, List.set_cons_succ])
      refine regDone (by kernel_rfl) ?_ _
      have hB8 : ((w7.alloc (.cells #[.int .i64 1, .int .i64 1, .string (val.extract 0 cz)] 36)).alloc (.cells #[.int .i64 1, .int .i64 1, .string (val.extract 0 cz)] 36)).heap[w7.heap.size + 1]? = some (.cells (⟨1, ((1 : Nat) : Int), val.extract 0 cz⟩ : Msg).cells.toArray 36 (0, 0)) := by
        have := get_new (w7.alloc (.cells #[.int .i64 1, .int .i64 1, .string (val.extract 0 cz)] 36)) (.cells #[.int .i64 1, .int .i64 1, .string (val.extract 0 cz)] 36)
        rw [World.size_alloc] at this
        exact this
      have H8 := hid (And.intro (hL7.mod0 (Mod.alloc (Mod.alloc (Mod.refl _ _) (.cells #[.int .i64 1, .int .i64 1, .string (val.extract 0 cz)] 36)) (.cells #[.int .i64 1, .int .i64 1, .string (val.extract 0 cz)] 36))) (And.intro hB8 ((HM.out.trans' hM2 (fun x hx => .inr (by rw [List.mem_singleton.1 hx]; exact hp1))).alloc (.cells #[.int .i64 1, .int .i64 1, .string (val.extract 0 cz)] 36))))
      clear hL7 hM2 hM1 hS hB8
      go_wp2_with (first
        | (go_at_call 17; refine (HA.out ((w7.alloc (.cells #[.int .i64 1, .int .i64 1, .string (val.extract 0 cz)] 36)).alloc (.cells #[.int .i64 1, .int .i64 1, .string (val.extract 0 cz)] 36)) (w7.heap.size + 1) H8.out.1 H8.out.2.1 H8.out.2.2).mono ?_; rintro e w9 ⟨rfl, h9⟩; have H9 := hid h9; clear h9)
        | (go_at_call 12; obtain ⟨vt9, vw9, hL9, hM9, hk9⟩ := H9.out; refine (play_good (inv_closed 1 (some (val.extract 0 cz))) w9 lw sb _ _ _ bl _ a c moves hL9 HI.out (HMV.out.mod hM9) HLEN.out W.heap.size (fun h => HMV.out.lt h) hk9 hM9.size).mono ?_; rintro e w10 ⟨rfl, L10, vt10, vw10, hL10, g10, hn10, hb10, hr10⟩; have HF := hid (hM9.trans' hr10.mod (fun x hx => .inr (hk9 x hx))); clear hL9 hM9 hk9 hL10 g10 hn10 hb10 hr10))
      go_ret
      exact ⟨rfl, HF.out⟩
    · go_wp2_with fail
      have hM1 : Mod [] w2 (w2.drew.alloc (.cells #[.int .i64 0, .int .i64 0, .string ⟨#[]⟩] 36)) := Mod.alloc (Mod.refl _ _).drew _
      refine hK.out _ _ (fun _ _ => ⟨hM1.cell l3 (by simp), hM1.cell n1 (by simp)⟩) ?_
      clear hK hS
      (try simp only [Act.put, List.setIfInBounds_toArray, List.set_cons_zero, List.set_cons_succ])
      refine regOnly 11 (by kernel_rfl) rfl (by rfl) (fun K hK => ?_)
      go_wp2_with (first
        | (go_at_call 16; refine (HS.out ((w2.drew.alloc (.cells #[.int .i64 0, .int .i64 0, .string ⟨#[]⟩] 36))) (HL.out.mod0 (Mod.alloc (Mod.refl _ _).drew _))).mono ?_; rintro e w7 ⟨rfl, hL7, hm7⟩))
      have hM2 : Mod [p.1] w2 w7 := (hM1.mono (by simp)).trans hm7
      refine hK.out _ _ (fun _ _ => ⟨hM2.cell l3 HX.out.1, hM2.cell n1 HX.out.2⟩) ?_
      clear hK
      (try simp only [Act.put, List.setIfInBounds_toArray, List.set_cons_zero, List.set_cons_succ])
      refine regA 12 21 (v := ?_) rfl rfl (by kernel_rfl) (by kernel_rfl) (by kernel_rfl) (fun _ _ _ h => h) (by rfl) (fun w => ?_) ?_; rotate_left; (go_simp; first | done | with_reducible rfl); (try simp only [Act.put, List.setIfInBounds_toArray, List.set_cons_zero, List.set_cons_succ])
      refine regA 13 34 (v := ?_) rfl rfl (by kernel_rfl) (by kernel_rfl) (by kernel_rfl) (fun _ _ _ h => h) (by rfl) (fun w => ?_) ?_; rotate_left; (go_simp; first | done | with_reducible rfl); (try simp only [Act.put, List.setIfInBounds_toArray, List.set_cons_zero, List.set_cons_succ])
      refine regA 14 35 (v := ?_) rfl rfl (by kernel_rfl) (by kernel_rfl) (by kernel_rfl) (fun _ _ _ h => h) (by rfl) (fun w => ?_) ?_; rotate_left; (go_simp; first | done | with_reducible rfl); (try simp only [Act.put, List.setIfInBounds_toArray, List.set_cons_zero, List.set_cons_succ])
      have hB7 : w7.heap[w2.heap.size]? = some (.cells #[.int .i64 0, .int .i64 0, .string ⟨#[]⟩] 36 (0, 0)) := hm7.get (get_new w2.drew (.cells #[.int .i64 0, .int .i64 0, .string ⟨#[]⟩] 36)) (by simp; omega)
      have b0 : w7.cell? ⟨w2.heap.size, 0, none⟩ = some (.int .i64 0) := cell_at hB7 0
      have b1 : w7.cell? ⟨w2.heap.size, 1, none⟩ = some (.int .i64 0) := cell_at hB7 1
      have b2 : w7.cell? ⟨w2.heap.size, 2, none⟩ = some (.string ⟨#[]⟩) := cell_at hB7 2
      have bf : ∀ i, w7.frozen? ⟨w2.heap.size, i, none⟩ = false := free_at hB7
      refine regOnly 16 (by kernel_rfl) rfl (by rfl) (fun K hK => ?_)
      go_wp2_with fail
      have hB8 := get_setCell_self (get_setCell_self (get_setCell_self hB7 0 (.int .i64 1)) 1 (.int .i64 1)) 2 (.string (val.extract 0 cz))
      have hM3 : Mod [w2.heap.size] w7 (((w7.setCell ⟨w2.heap.size, 0, none⟩ (.int .i64 1)).setCell ⟨w2.heap.size, 1, none⟩ (.int .i64 1)).setCell ⟨w2.heap.size, 2, none⟩ (.string (val.extract 0 cz))) := Mod.setCell (Mod.setCell (Mod.setCell (Mod.refl _ _) (by simp) _) (by simp) _) (by simp) _
      have hM4 := hM2.trans' hM3 (fun x hx => .inr (Nat.le_of_eq (List.mem_singleton.1 hx).symm))
      have hL8 := LawAt.modNew HL.out hL7 hM3 (Nat.le_refl _)
      generalize (((w7.setCell ⟨w2.heap.size, 0, none⟩ (.int .i64 1)).setCell ⟨w2.heap.size, 1, none⟩ (.int .i64 1)).setCell ⟨w2.heap.size, 2, none⟩ (.string (val.extract 0 cz))) = w8 at *
      refine hK.out _ _ (fun _ _ => ⟨hM4.cell l3 HX.out.1, hM4.cell n1 HX.out.2⟩) ?_
      have e0 : w8.cell? ⟨w2.heap.size, 0, none⟩ = some (.int .i64 1) := cell_at hB8 0
      have e1 : w8.cell? ⟨w2.heap.size, 1, none⟩ = some (.int .i64 1) := cell_at hB8 1
      have e2 : w8.cell? ⟨w2.heap.size, 2, none⟩ = some (.string (val.extract 0 cz)) := cell_at hB8 2
      clear hK b0 b1 b2 bf hB7
      (try simp only [Act.put, List.setIfInBounds_toArray, List.set_cons_zero, List.set_cons_succ])
      refine regOnly 17 (by kernel_rfl) rfl (by rfl) (fun K hK => ?_)
      go_wp2_with fail
      refine hK.out _ _ (fun _ h => h) ?_
      clear hK
      (try simp only [Act.put, List.setIfInBounds_toArray, List.set_cons_zero, List.set_cons_succ])
      refine regDone (by kernel_rfl) ?_ _
      have hB9 : (w8.alloc (.cells #[.int .i64 1, .int .i64 1, .string (val.extract 0 cz)] 36)).heap[w8.heap.size]? = some (.cells (⟨1, ((1 : Nat) : Int), val.extract 0 cz⟩ : Msg).cells.toArray 36 (0, 0)) := get_new w8 (.cells #[.int .i64 1, .int .i64 1, .string (val.extract 0 cz)] 36)
      have H8 := hid (And.intro (hL8.mod0 (Mod.alloc (Mod.refl _ _) (.cells #[.int .i64 1, .int .i64 1, .string (val.extract 0 cz)] 36))) (And.intro hB9 ((HM.out.trans' hM4 (fun x hx => .inr (by rw [List.mem_singleton.1 hx]; exact hp1))).alloc (.cells #[.int .i64 1, .int .i64 1, .string (val.extract 0 cz)] 36))))
      clear hL7 hL8 hM1 hM2 hM3 hM4 hm7 hB9 hB8
      go_wp2_with (first
        | (go_at_call 17; refine (HA.out (w8.alloc (.cells #[.int .i64 1, .int .i64 1, .string (val.extract 0 cz)] 36)) w8.heap.size H8.out.1 H8.out.2.1 H8.out.2.2).mono ?_; rintro e w9 ⟨rfl, h9⟩; have H9 := hid h9; clear h9)
        | (go_at_call 12; obtain ⟨vt9, vw9, hL9, hM9, hk9⟩ := H9.out; refine (play_good (inv_closed 1 (some (val.extract 0 cz))) w9 lw sb _ _ _ bl _ a c moves hL9 HI.out (HMV.out.mod hM9) HLEN.out W.heap.size (fun h => HMV.out.lt h) hk9 hM9.size).mono ?_; rintro e w10 ⟨rfl, L10, vt10, vw10, hL10, g10, hn10, hb10, hr10⟩; have HF := hid (hM9.trans' hr10.mod (fun x hx => .inr (hk9 x hx))); clear hL9 hM9 hk9 hL10 g10 hn10 hb10 hr10))
      go_ret
      exact ⟨rfl, HF.out⟩
  · have d0 : ((tn : Int) == 0) = false := by rw [beq_eq_false_iff_ne]; omega
    go_enter Try.func5, Try.ntmps5
    go_wp2_with (first
      | (go_at_call 9; refine (works_any _).mono ?_; rintro e w1 ⟨rfl, hm1⟩)
      | (go_at_call 10; refine (among_any _ _ _ (by omega) (by omega)).mono ?_; rintro e w' ⟨rfl, rfl⟩; rw [← HT.out])
      | (go_at_call 11; refine (made_any w1 tn tn 1 ht2 (Nat.le_refl _) (by omega) (by omega)).mono ?_; rintro e w2 ⟨lw, sb, vn, bl, rfl, hL2, hm2, hnew⟩; have H2 := hid (And.intro hL2 (And.intro (hm1.trans hm2) (fun k hk => Nat.le_trans hm1.size (hnew k hk)))); clear hL2 hm2 hnew)
      | (go_at_call 12; refine (play_good (inv_closed 1 none) w2 lw sb vn _ _ bl _ a c moves H2.out.1 (inv_made (d := 1) ht2 (Nat.le_refl _)) (HMV.out.mod H2.out.2.1) HLEN.out W.heap.size (fun h => HMV.out.lt h) (fun k hk => H2.out.2.2 k (by simpa [Value.ownBlock] using hk)) H2.out.2.1.size).mono ?_; rintro e w3 ⟨rfl, h3⟩; have H3 := hid h3; clear h3))
    go_ret
    obtain ⟨L3, vt3, vw3, hL3, g3, hn3, hb3, hr3⟩ := H3.out
    exact ⟨rfl, reach_mod hr3 H2.out.2.1 (fun k hk => H2.out.2.2 k hk)⟩
end Go.Proofs.Ytcgfjalglnlofaa
