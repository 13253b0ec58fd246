/-
  CastTold, walked. No statement of a claim stands here; each contract names what it asks.
-/
import Derived.Test.YtcgfjalglnlofaaBegan
set_option linter.unusedSimpArgs false
namespace Go.Proofs.Ytcgfjalglnlofaa
open Go Go.RowKit

/-- Two ways that come to one end. -/
theorem merge {R G : Nat → World → Prop} {T : Prop} (use : (∀ b W, R b W → G b W) → T) (prove : ∀ b W, R b W → G b W) : T := use prove


set_option maxRecDepth 20000 in
set_option maxHeartbeats 400000 in
theorem told_any (W : World) (t : Int) (val : ByteArray) (a : Option Addr) (c : Nat) (moves : List MoveS) (hv : val.size ≤ maxLen) (hm : MovesAt W a moves) (hlen : moves.length ≤ maxLen) :
    Calls Try.prog 6 #[.int .i64 t, .string val, .slice a moves.length c] W fun e W' => e = .returned (.bool true) ∧ Mod [] W W' := by
  have hr : 0 ≤ among t 3 ∧ among t 3 < 3 := ⟨Int.emod_nonneg _ (by omega), Int.emod_lt_of_pos _ (by omega)⟩
  obtain ⟨tn, htn⟩ : ∃ tn : Nat, (tn : Int) = among t 3 := ⟨(among t 3).toNat, by omega⟩
  have ht2 : tn ≤ 2 := by omega
  obtain ⟨dn, hdn⟩ : ∃ dn : Nat, dn = 3 * tn + 1 := ⟨_, rfl⟩
  have e1 : 3 * (tn : Int) + 1 = (dn : Int) := by omega
  have HE1 := hid e1
  clear e1
  have HT := hid htn
  have HMV := hid hm
  have HLEN := hid hlen
  have HDN := hid hdn
  obtain ⟨cz, hcz⟩ : ∃ k : Nat, k = min val.size 50 := ⟨_, rfl⟩
  have cz1 : (if (50 : Int) < (val.size : Int) then (50 : Int) else (val.size : Int)) = (cz : Int) := by split <;> omega
  have cz2 : (if 50 < val.size then (50 : Int) else (val.size : Int)) = (cz : Int) := by split <;> omega
  have cz3 : cz ≤ val.size := by omega
  have cz4 : (0 : Int) ≤ (cz : Int) := Int.natCast_nonneg _
  have hmin : (val.extract 0 cz).size ≤ 4096 := by rw [hcz]; simp [ByteArray.size_extract]; omega
  have HMIN := hid hmin
  clear htn hm hlen hcz hmin
  go_enter Try.func6, Try.ntmps6
  go_wp2_with (first
    | (go_at_call 9; refine (works_any _).mono ?_; rintro e w1 ⟨rfl, hm1⟩)
    | (go_at_call 10; refine (among_any _ _ _ (by omega) (by omega)).mono ?_; rintro e w' ⟨rfl, rfl⟩; rw [← HT.out])
    | (go_at_call 11; refine (made_any w1 tn tn (3 * (tn : Int) + 1) ht2 (Nat.le_refl _) (by omega) (by omega)).mono ?_; rintro e w2 ⟨lw, sb, vn, bl, rfl, hL2, hm2, hnew⟩; rw [HE1.out] at hL2; have H2 := hid (And.intro hL2 (And.intro (hm1.trans hm2) (fun k hk => Nat.le_trans hm1.size (hnew k hk)))); clear hL2 hm2 hnew))
  have hL2 := H2.out.1
  obtain ⟨kn, hkn⟩ : ∃ kn : Nat, kn = 3 * tn := ⟨_, rfl⟩
  obtain ⟨nb, nc, rfl⟩ := hL2.form (by rw [hL2.len]; simp [madeS])
  have hbl : bl.length = kn + 1 := by rw [hL2.len, hkn]; simp [madeS]
  have hib : kn < bl.length := by omega
  have hp : bl[kn]? = some bl[kn] := List.getElem?_eq_getElem hib
  have hs : (madeS tn tn (dn : Int) (3 * tn + 1)).nodes[kn]? = some (newNode (3 * (tn : Int) + 1) (tn : Int) (dn : Int) (dn : Int)) := by
    simp only [madeS, List.getElem?_map, List.getElem?_range (show kn < 3 * tn + 1 by omega), Option.map_some]
    rw [show ((kn : Int) + 1) = (dn : Int) by omega]
  generalize bl[kn] = p at hp
  have i0 : (0 : Int) ≤ (kn : Int) := Int.natCast_nonneg _
  have i1 : (kn : Int) < (bl.length : Int) := by omega
  have kw : IntKind.i64.wrap (kn : Int) = (kn : Int) := IntWalk.i64_in _ (by omega)
  have hst := fun W' h => start_begun W' lw sb (.slice (some ⟨nb, 0, none⟩) bl.length nc) bl tn tn dn kn p (val.extract 0 cz) (by omega) (by omega) HMIN.out hp h
  have hst2 := fun W' vt vw h => start_same W' lw sb (.slice (some ⟨nb, 0, none⟩) bl.length nc) vt vw bl tn tn dn kn p (val.extract 0 cz) (by omega) (by omega) HMIN.out hp h
  have hal := fun W8 mb hL hB hW => all_begun W W8 lw sb mb (.slice (some ⟨nb, 0, none⟩) bl.length nc) bl tn tn dn kn (newNode (3 * (tn : Int) + 1) (tn : Int) (dn : Int) (dn : Int)) ⟨1, (dn : Int), val.extract 0 cz⟩ hL hB (Int.le_refl 1) ht2 (Nat.le_refl _) hW H2.out.2.2
  have hI := inv_begun (bad := tn) (d := dn) (k := kn) ht2 (Nat.le_refl _) hs (by omega) (by omega) (val.extract 0 cz) HMIN.out
  have hp1 : W.heap.size ≤ p.1 := H2.out.2.2 p.1 (by simp [(trip_mem hp).1])
  have hpl : p.1 < w2.heap.size := lt_of_block (hL2.node kn p _ hp hs).cells
  have hpl8 : ∀ (W' : World), LawAt W' lw sb (.slice (some ⟨nb, 0, none⟩) bl.length nc) (.slice none 0 0) (.slice none 0 0) bl (begunS tn tn (dn : Int) kn (newNode (3 * (tn : Int) + 1) (tn : Int) (dn : Int) (dn : Int))) → p.1 < W'.heap.size := fun W' h => h.trip_lt (trip_mem hp).1
  have hx : ∀ (W' : World) (L : LawS), LawAt W' lw sb (.slice (some ⟨nb, 0, none⟩) bl.length nc) (.slice none 0 0) (.slice none 0 0) bl L → lw ∉ [p.1] ∧ nb ∉ [p.1] ∧ ∀ mb cs, W'.heap[mb]? = some (.cells cs 36 (0, 0)) → mb ∉ [p.1] := fun W' L h =>
    ⟨fun hm => (List.mem_cons.1 hm).elim (fun hm => h.trip_ne (trip_mem hp).1 h.cells (by decide) hm.symm) (fun hm => by cases hm),
     fun hm => (List.mem_cons.1 hm).elim (fun hm => by obtain ⟨c, hc⟩ := row_block h.nodes (k := nb) rfl; exact h.trip_ne (trip_mem hp).1 hc (by decide) hm.symm) (fun hm => by cases hm),
     fun mb cs hmb hm => (List.mem_cons.1 hm).elim (fun hm => h.trip_ne (trip_mem hp).1 hmb (by decide) hm.symm) (fun hm => by cases hm)⟩
  have hcell : ∀ (W' : World) (L : LawS), L.n = kn + 1 → LawAt W' lw sb (.slice (some ⟨nb, 0, none⟩) bl.length nc) (.slice none 0 0) (.slice none 0 0) bl L → (fun w' : World => w'.cell? ⟨lw, 3, none⟩ = some (.slice (some ⟨nb, 0, none⟩) bl.length nc) ∧ w'.cell? ⟨lw, 0, none⟩ = some (.int .i64 ((kn : Int) + 1)) ∧ w'.cell? ⟨nb, kn, none⟩ = some (.pointer (some ⟨p.1, 0, none⟩))) W' := fun W' L hn h => ⟨(cell_at h.cells 3).trans rfl, (cell_at h.cells 0).trans (by rw [hn]; rfl), h.at hp⟩
  have hLM : (madeS tn tn (dn : Int) (3 * tn + 1)).n = kn + 1 := by rw [hkn]; rfl
  have hL8 : (begunS tn tn (dn : Int) kn (newNode (3 * (tn : Int) + 1) (tn : Int) (dn : Int) (dn : Int))).n = kn + 1 := by rw [hkn]; rfl
  have hL8B : (begunS tn tn (dn : Int) kn (newNode (3 * (tn : Int) + 1) (tn : Int) (dn : Int) (dn : Int))).bad = tn := rfl
  have HKN := hid hkn
  generalize begunS tn tn (dn : Int) kn (newNode (3 * (tn : Int) + 1) (tn : Int) (dn : Int) (dn : Int)) = L8 at hst hst2 hal hI hL8 hpl8 hL8B
  have HL8B := hid hL8B
  clear hL8B
  have HP8 := hid hpl8
  clear hpl8
  have hst' := fun W' (h : LawAt W' lw sb (.slice (some ⟨nb, 0, none⟩) bl.length nc) (.slice none 0 0) (.slice none 0 0) bl (madeS tn tn (dn : Int) (3 * tn + 1))) => hst W' h
  have hL2' : LawAt w2 lw sb (.slice (some ⟨nb, 0, none⟩) bl.length nc) (.slice none 0 0) (.slice none 0 0) bl (madeS tn tn (dn : Int) (3 * tn + 1)) := hL2
  generalize madeS tn tn (dn : Int) (3 * tn + 1) = LM at hst' hL2' hLM
  have HS := hid hst'
  have HS2 := hid hst2
  have HA := hid hal
  have HI := hid hI
  have HL := hid hL2'
  have HM := hid H2.out.2.1
  have HX := hid hx
  have HC := hid hcell
  have HLM := hid hLM
  have HL8 := hid hL8
  clear hst hst' hst2 hal hI hL2 hL2' hp hs hx hcell hbl hib H2 hLM hL8 hkn hdn
  apply merge (R := fun mb W8 => LawAt W8 lw sb (.slice (some ⟨nb, 0, none⟩) bl.length nc) (.slice none 0 0) (.slice none 0 0) bl L8 ∧ W8.heap[mb]? = some (.cells #[.int .i64 1, .int .i64 (dn : Int), .string (val.extract 0 cz)] 36 (0, 0)) ∧ Mod [] W W8)
  · intro key
    refine wp_region_N (fun w' : World => w'.cell? ⟨lw, 3, none⟩ = some (.slice (some ⟨nb, 0, none⟩) bl.length nc) ∧ w'.cell? ⟨lw, 0, none⟩ = some (.int .i64 ((kn : Int) + 1)) ∧ w'.cell? ⟨nb, kn, none⟩ = some (.pointer (some ⟨p.1, 0, none⟩))) (fun _ => true) (by kernel_rfl) ?_
    have hS : (fun w' : World => w'.cell? ⟨lw, 3, none⟩ = some (.slice (some ⟨nb, 0, none⟩) bl.length nc) ∧ w'.cell? ⟨lw, 0, none⟩ = some (.int .i64 ((kn : Int) + 1)) ∧ w'.cell? ⟨nb, kn, none⟩ = some (.pointer (some ⟨p.1, 0, none⟩))) w2.drew := HC.out _ _ HLM.out (HL.out.mod0 (Mod.refl _ _).drew)
    refine regA 0 33 (v := ?_) rfl rfl (by kernel_rfl) (by kernel_rfl) (by kernel_rfl) (fun _ _ _ h => h) (by rfl) (fun w => ?_) ?_; rotate_left; (go_simp; first | done | with_reducible rfl); (try simp only [Act.put, List.setIfInBounds_toArray, List.set_cons_zero, List.set_cons_succ])
    refine regA 1 34 (v := ?_) rfl rfl (by kernel_rfl) (by kernel_rfl) (by kernel_rfl) (fun _ _ _ h => h) (by rfl) (fun w => ?_) ?_; rotate_left; (go_simp; first | done | with_reducible rfl); (try simp only [Act.put, List.setIfInBounds_toArray, List.set_cons_zero, List.set_cons_succ])
    refine regA 2 35 (v := ?_) rfl rfl (by kernel_rfl) (by kernel_rfl) (by kernel_rfl) (fun _ _ _ h => h) (by rfl) (fun w => ?_) ?_; rotate_left; (go_simp; first | done | with_reducible rfl); (try simp only [Act.put, List.setIfInBounds_toArray, List.set_cons_zero, List.set_cons_succ])
    refine regS 3 36 (v := ?_) hS rfl rfl (by kernel_rfl) (by kernel_rfl) (by kernel_rfl) (by kernel_rfl) (fun _ _ _ h => h) (by rfl) (fun w hSw => ?_) ?_; rotate_left; (go_simp; first | done | with_reducible rfl); (try simp only [Act.put, List.setIfInBounds_toArray, List.set_cons_zero, List.set_cons_succ])
    refine regA 4 37 (v := ?_) rfl rfl (by kernel_rfl) (by kernel_rfl) (by kernel_rfl) (fun _ _ _ h => h) (by rfl) (fun w => ?_) ?_; rotate_left; (go_simp; first | done | with_reducible rfl); (try simp only [Act.put, List.setIfInBounds_toArray, List.set_cons_zero, List.set_cons_succ])
    refine regA 5 38 (v := ?_) rfl rfl (by kernel_rfl) (by kernel_rfl) (by kernel_rfl) (fun _ _ _ h => h) (by rfl) (fun w => ?_) ?_; rotate_left; (go_simp; first | done | with_reducible rfl); (try simp only [Act.put, List.setIfInBounds_toArray, List.set_cons_zero, List.set_cons_succ])
    refine regA 6 39 (v := ?_) rfl rfl (by kernel_rfl) (by kernel_rfl) (by kernel_rfl) (fun _ _ _ h => h) (by rfl) (fun w => ?_) ?_; rotate_left; (go_simp; first | done | with_reducible rfl); (try simp only [Act.put, List.setIfInBounds_toArray, List.set_cons_zero, List.set_cons_succ])
    refine regS 7 40 (v := ?_) hS rfl rfl (by kernel_rfl) (by kernel_rfl) (by kernel_rfl) (by kernel_rfl) (fun _ _ _ h => h) (by rfl) (fun w hSw => ?_) ?_; rotate_left; (go_simp; first | done | with_reducible rfl); (try simp only [Act.put, List.setIfInBounds_toArray, List.set_cons_zero, List.set_cons_succ])
    refine regA 8 41 (v := ?_) rfl rfl (by kernel_rfl) (by kernel_rfl) (by kernel_rfl) (fun _ _ _ h => h) (by rfl) (fun w => ?_) ?_; rotate_left; (go_simp; first | done | with_reducible rfl); (try simp only [Act.put, List.setIfInBounds_toArray, List.set_cons_zero, List.set_cons_succ])
    refine regA 9 42 (v := ?_) rfl rfl (by kernel_rfl) (by kernel_rfl) (by kernel_rfl) (fun _ _ _ h => h) (by rfl) (fun w => ?_) ?_; rotate_left; (go_simp; first | done | with_reducible rfl); (try simp only [Act.put, List.setIfInBounds_toArray, List.set_cons_zero, List.set_cons_succ])
    refine regS 10 43 (v := ?_) hS rfl rfl (by kernel_rfl) (by kernel_rfl) (by kernel_rfl) (by kernel_rfl) (fun _ _ _ h => h) (by rfl) (fun w hSw => ?_) ?_; rotate_left; (go_simp; first | done | with_reducible rfl); (try simp only [Act.put, List.setIfInBounds_toArray, List.set_cons_zero, List.set_cons_succ])
    refine regA 11 44 (v := ?_) rfl rfl (by kernel_rfl) (by kernel_rfl) (by kernel_rfl) (fun _ _ _ h => h) (by rfl) (fun w => ?_) ?_; rotate_left; (go_simp; first | done | with_reducible rfl); (try simp only [Act.put, List.setIfInBounds_toArray, List.set_cons_zero, List.set_cons_succ])
    refine regTwo 12 16 (by kernel_rfl) rfl (by rfl) rfl (by rfl) (fun K hK => ?_) (fun K hK => ?_)
    · go_wp2_with (first
        | (go_at_call 16; refine (HS.out (w2.drew) (HL.out.mod0 (Mod.refl _ _).drew)).mono ?_; rintro e w7 ⟨rfl, hL7, hm7⟩))
      refine hK.out _ _ (fun _ _ => HC.out _ _ HL8.out hL7) ?_
      clear hK hS
      (try simp only [Act.put, List.setIfInBounds_toArray, List.set_cons_zero, List.set_cons_succ])
      refine regA 13 32 (v := ?_) rfl rfl (by kernel_rfl) (by kernel_rfl) (by kernel_rfl) (fun _ _ _ h => h) (by rfl) (fun w => ?_) ?_; rotate_left; (go_simp; first | done | with_reducible rfl); (try simp only [Act.put, List.setIfInBounds_toArray, List.set_cons_zero, List.set_cons_succ])
      refine regA 14 46 (v := ?_) rfl rfl (by kernel_rfl) (by kernel_rfl) (by kernel_rfl) (fun _ _ _ h => h) (by rfl) (fun w => ?_) ?_; rotate_left; (go_simp; first | done | with_reducible rfl); (try simp only [Act.put, List.setIfInBounds_toArray, List.set_cons_zero, List.set_cons_succ])
      refine regA 15 47 (v := ?_) rfl rfl (by kernel_rfl) (by kernel_rfl) (by kernel_rfl) (fun _ _ _ h => h) (by rfl) (fun w => ?_) ?_; rotate_left; (go_simp; first | done | with_reducible rfl); (try simp only [Act.put, List.setIfInBounds_toArray, List.set_cons_zero, List.set_cons_succ])
      refine regOnly 16 (by kernel_rfl) rfl (by rfl) (fun K hK => ?_)
      go_wp2_with fail
      refine hK.out _ _ (fun _ _ => HC.out _ _ HL8.out (hL7.mod0 (Mod.alloc (Mod.refl _ _) _))) ?_
      clear hK
      (try simp only [Act.put, List.setIfInBounds_toArray, List.set_cons_zero, List.set_cons_succ])
      refine regOnly 17 (by kernel_rfl) rfl (by rfl) (fun K hK => ?_)
      go_wp2_with fail
      have hL8 := hL7.mod0 (Mod.alloc (Mod.refl [] w7) (.cells #[.int .i64 1, .int .i64 (dn : Int), .string (val.extract 0 cz)] 36))
      refine hK.out _ _ (fun _ _ => HC.out _ _ HL8.out hL8) ?_
      clear hK
      (try simp only [Act.put, List.setIfInBounds_toArray, List.set_cons_zero, List.set_cons_succ])
      refine regOnly 18 (by kernel_rfl) rfl (by rfl) (fun K hK => ?_)
      go_wp2_with fail
      refine hK.out _ _ (fun _ h => h) ?_
      clear hK
      (try simp only [Act.put, List.setIfInBounds_toArray, List.set_cons_zero, List.set_cons_succ])
      refine regDone (by kernel_rfl) ?_ _
      have hB8 := get_new w7 (.cells #[.int .i64 1, .int .i64 (dn : Int), .string (val.extract 0 cz)] 36)
      have hM8 := Mod.alloc (HM.out.trans' ((Mod.refl [p.1] w2).drew.trans hm7) (fun x hx => .inr (by rw [List.mem_singleton.1 hx]; exact hp1))) (.cells #[.int .i64 1, .int .i64 (dn : Int), .string (val.extract 0 cz)] 36)
      generalize w7.alloc (.cells #[.int .i64 1, .int .i64 (dn : Int), .string (val.extract 0 cz)] 36) = W8 at *
      generalize w7.heap.size = mb at *
      exact key mb W8 ⟨hL8, hB8, hM8⟩
    · go_wp2_with fail
      have hM1 : Mod [] w2 (w2.drew.alloc (.cells #[.int .i64 0, .int .i64 0, .string ⟨#[]⟩] 36)) := Mod.alloc (Mod.refl _ _).drew _
      refine hK.out _ _ (fun _ _ => HC.out _ _ HLM.out (HL.out.mod0 hM1)) ?_
      clear hK hS
      (try simp only [Act.put, List.setIfInBounds_toArray, List.set_cons_zero, List.set_cons_succ])
      refine regOnly 12 (by kernel_rfl) rfl (by rfl) (fun K hK => ?_)
      go_wp2_with (first
        | (go_at_call 16; refine (HS.out (w2.drew.alloc (.cells #[.int .i64 0, .int .i64 0, .string ⟨#[]⟩] 36)) (HL.out.mod0 hM1)).mono ?_; rintro e w7 ⟨rfl, hL7, hm7⟩))
      refine hK.out _ _ (fun _ _ => HC.out _ _ HL8.out hL7) ?_
      clear hK
      (try simp only [Act.put, List.setIfInBounds_toArray, List.set_cons_zero, List.set_cons_succ])
      refine regA 13 32 (v := ?_) rfl rfl (by kernel_rfl) (by kernel_rfl) (by kernel_rfl) (fun _ _ _ h => h) (by rfl) (fun w => ?_) ?_; rotate_left; (go_simp; first | done | with_reducible rfl); (try simp only [Act.put, List.setIfInBounds_toArray, List.set_cons_zero, List.set_cons_succ])
      refine regA 14 46 (v := ?_) rfl rfl (by kernel_rfl) (by kernel_rfl) (by kernel_rfl) (fun _ _ _ h => h) (by rfl) (fun w => ?_) ?_; rotate_left; (go_simp; first | done | with_reducible rfl); (try simp only [Act.put, List.setIfInBounds_toArray, List.set_cons_zero, List.set_cons_succ])
      refine regA 15 47 (v := ?_) rfl rfl (by kernel_rfl) (by kernel_rfl) (by kernel_rfl) (fun _ _ _ h => h) (by rfl) (fun w => ?_) ?_; rotate_left; (go_simp; first | done | with_reducible rfl); (try simp only [Act.put, List.setIfInBounds_toArray, List.set_cons_zero, List.set_cons_succ])
      have hB7 : w7.heap[w2.heap.size]? = some (.cells #[.int .i64 0, .int .i64 0, .string ⟨#[]⟩] 36 (0, 0)) := hm7.get (get_new w2.drew (.cells #[.int .i64 0, .int .i64 0, .string ⟨#[]⟩] 36)) (by simp; omega)
      have b0 : w7.cell? ⟨w2.heap.size, 0, none⟩ = some (.int .i64 0) := cell_at hB7 0
      have b1 : w7.cell? ⟨w2.heap.size, 1, none⟩ = some (.int .i64 0) := cell_at hB7 1
      have b2 : w7.cell? ⟨w2.heap.size, 2, none⟩ = some (.string ⟨#[]⟩) := cell_at hB7 2
      have bf : ∀ i, w7.frozen? ⟨w2.heap.size, i, none⟩ = false := free_at hB7
      refine regOnly 17 (by kernel_rfl) rfl (by rfl) (fun K hK => ?_)
      go_wp2_with fail
      have hB8 := get_setCell_self (get_setCell_self (get_setCell_self hB7 0 (.int .i64 1)) 1 (.int .i64 (dn : Int))) 2 (.string (val.extract 0 cz))
      have hM3 : Mod [w2.heap.size] w7 (((w7.setCell ⟨w2.heap.size, 0, none⟩ (.int .i64 1)).setCell ⟨w2.heap.size, 1, none⟩ (.int .i64 (dn : Int))).setCell ⟨w2.heap.size, 2, none⟩ (.string (val.extract 0 cz))) := Mod.setCell (Mod.setCell (Mod.setCell (Mod.refl _ _) (by simp) _) (by simp) _) (by simp) _
      have hM4 := ((hM1.mono (by simp)).trans hm7).trans' hM3 (fun x hx => .inr (Nat.le_of_eq (List.mem_singleton.1 hx).symm))
      have hL8 := LawAt.modNew HL.out hL7 hM3 (Nat.le_refl _)
      generalize (((w7.setCell ⟨w2.heap.size, 0, none⟩ (.int .i64 1)).setCell ⟨w2.heap.size, 1, none⟩ (.int .i64 (dn : Int))).setCell ⟨w2.heap.size, 2, none⟩ (.string (val.extract 0 cz))) = w8 at *
      refine hK.out _ _ (fun _ _ => HC.out _ _ HL8.out hL8) ?_
      clear hK b0 b1 b2 bf hB7
      (try simp only [Act.put, List.setIfInBounds_toArray, List.set_cons_zero, List.set_cons_succ])
      refine regOnly 18 (by kernel_rfl) rfl (by rfl) (fun K hK => ?_)
      go_wp2_with fail
      refine hK.out _ _ (fun _ h => h) ?_
      clear hK
      (try simp only [Act.put, List.setIfInBounds_toArray, List.set_cons_zero, List.set_cons_succ])
      refine regDone (by kernel_rfl) ?_ _
      exact key w2.heap.size w8 ⟨hL8, hB8, HM.out.trans' hM4 (fun x hx => .inr (by rw [List.mem_singleton.1 hx]; exact hp1))⟩
  · rintro mb W8 ⟨hL8, hB8, hM8⟩
    have hmb : mb ∉ [p.1] := (HX.out _ _ hL8).2.2 mb _ hB8
    have hmbl : mb < W8.heap.size := lt_of_block hB8
    have hpl8 : p.1 < W8.heap.size := HP8.out _ hL8
    have HL8A := hid hL8
    have HB8 := hid hB8
    have HM8 := hid hM8
    clear hL8 hB8 hM8 HS HL HM
    go_wp2_with fail
    apply merge (R := fun _ W9 => LawAt W9 lw sb (.slice (some ⟨nb, 0, none⟩) bl.length nc) (.slice none 0 0) (.slice none 0 0) bl L8 ∧ W9.heap[mb]? = some (.cells #[.int .i64 1, .int .i64 (dn : Int), .string (val.extract 0 cz)] 36 (0, 0)) ∧ Mod [] W W9)
    · intro key
      refine wp_region_N (fun w' : World => w'.cell? ⟨lw, 3, none⟩ = some (.slice (some ⟨nb, 0, none⟩) bl.length nc) ∧ w'.cell? ⟨lw, 0, none⟩ = some (.int .i64 ((kn : Int) + 1)) ∧ w'.cell? ⟨nb, kn, none⟩ = some (.pointer (some ⟨p.1, 0, none⟩))) (fun _ => true) (by kernel_rfl) ?_
      have hS : (fun w' : World => w'.cell? ⟨lw, 3, none⟩ = some (.slice (some ⟨nb, 0, none⟩) bl.length nc) ∧ w'.cell? ⟨lw, 0, none⟩ = some (.int .i64 ((kn : Int) + 1)) ∧ w'.cell? ⟨nb, kn, none⟩ = some (.pointer (some ⟨p.1, 0, none⟩))) W8.drew := HC.out _ _ HL8.out (HL8A.out.mod0 (Mod.refl _ _).drew)
      refine regA 0 49 (v := ?_) rfl rfl (by kernel_rfl) (by kernel_rfl) (by kernel_rfl) (fun _ _ _ h => h) (by rfl) (fun w => ?_) ?_; rotate_left; (go_simp; first | done | with_reducible rfl); (try simp only [Act.put, List.setIfInBounds_toArray, List.set_cons_zero, List.set_cons_succ])
      refine regA 1 50 (v := ?_) rfl rfl (by kernel_rfl) (by kernel_rfl) (by kernel_rfl) (fun _ _ _ h => h) (by rfl) (fun w => ?_) ?_; rotate_left; (go_simp; first | done | with_reducible rfl); (try simp only [Act.put, List.setIfInBounds_toArray, List.set_cons_zero, List.set_cons_succ])
      refine regA 2 51 (v := ?_) rfl rfl (by kernel_rfl) (by kernel_rfl) (by kernel_rfl) (fun _ _ _ h => h) (by rfl) (fun w => ?_) ?_; rotate_left; (go_simp; first | done | with_reducible rfl); (try simp only [Act.put, List.setIfInBounds_toArray, List.set_cons_zero, List.set_cons_succ])
      refine regS 3 52 (v := ?_) hS rfl rfl (by kernel_rfl) (by kernel_rfl) (by kernel_rfl) (by kernel_rfl) (fun _ _ _ h => h) (by rfl) (fun w hSw => ?_) ?_; rotate_left; (go_simp; first | done | with_reducible rfl); (try simp only [Act.put, List.setIfInBounds_toArray, List.set_cons_zero, List.set_cons_succ])
      refine regA 4 53 (v := ?_) rfl rfl (by kernel_rfl) (by kernel_rfl) (by kernel_rfl) (fun _ _ _ h => h) (by rfl) (fun w => ?_) ?_; rotate_left; (go_simp; first | done | with_reducible rfl); (try simp only [Act.put, List.setIfInBounds_toArray, List.set_cons_zero, List.set_cons_succ])
      refine regA 5 54 (v := ?_) rfl rfl (by kernel_rfl) (by kernel_rfl) (by kernel_rfl) (fun _ _ _ h => h) (by rfl) (fun w => ?_) ?_; rotate_left; (go_simp; first | done | with_reducible rfl); (try simp only [Act.put, List.setIfInBounds_toArray, List.set_cons_zero, List.set_cons_succ])
      refine regA 6 55 (v := ?_) rfl rfl (by kernel_rfl) (by kernel_rfl) (by kernel_rfl) (fun _ _ _ h => h) (by rfl) (fun w => ?_) ?_; rotate_left; (go_simp; first | done | with_reducible rfl); (try simp only [Act.put, List.setIfInBounds_toArray, List.set_cons_zero, List.set_cons_succ])
      refine regS 7 56 (v := ?_) hS rfl rfl (by kernel_rfl) (by kernel_rfl) (by kernel_rfl) (by kernel_rfl) (fun _ _ _ h => h) (by rfl) (fun w hSw => ?_) ?_; rotate_left; (go_simp; first | done | with_reducible rfl); (try simp only [Act.put, List.setIfInBounds_toArray, List.set_cons_zero, List.set_cons_succ])
      refine regA 8 57 (v := ?_) rfl rfl (by kernel_rfl) (by kernel_rfl) (by kernel_rfl) (fun _ _ _ h => h) (by rfl) (fun w => ?_) ?_; rotate_left; (go_simp; first | done | with_reducible rfl); (try simp only [Act.put, List.setIfInBounds_toArray, List.set_cons_zero, List.set_cons_succ])
      refine regA 9 58 (v := ?_) rfl rfl (by kernel_rfl) (by kernel_rfl) (by kernel_rfl) (fun _ _ _ h => h) (by rfl) (fun w => ?_) ?_; rotate_left; (go_simp; first | done | with_reducible rfl); (try simp only [Act.put, List.setIfInBounds_toArray, List.set_cons_zero, List.set_cons_succ])
      refine regS 10 59 (v := ?_) hS rfl rfl (by kernel_rfl) (by kernel_rfl) (by kernel_rfl) (by kernel_rfl) (fun _ _ _ h => h) (by rfl) (fun w hSw => ?_) ?_; rotate_left; (go_simp; first | done | with_reducible rfl); (try simp only [Act.put, List.setIfInBounds_toArray, List.set_cons_zero, List.set_cons_succ])
      refine regA 11 60 (v := ?_) rfl rfl (by kernel_rfl) (by kernel_rfl) (by kernel_rfl) (fun _ _ _ h => h) (by rfl) (fun w => ?_) ?_; rotate_left; (go_simp; first | done | with_reducible rfl); (try simp only [Act.put, List.setIfInBounds_toArray, List.set_cons_zero, List.set_cons_succ])
      refine regTwo 12 16 (by kernel_rfl) rfl (by rfl) rfl (by rfl) (fun K hK => ?_) (fun K hK => ?_)
      · go_wp2_with (first
          | (go_at_call 16; refine (HS2.out (W8.drew) _ _ (HL8A.out.mod0 (Mod.refl _ _).drew)).mono ?_; rintro e w7 ⟨rfl, hL7, hm7⟩))
        refine hK.out _ _ (fun _ _ => HC.out _ _ HL8.out hL7) ?_
        clear hK hS
        (try simp only [Act.put, List.setIfInBounds_toArray, List.set_cons_zero, List.set_cons_succ])
        refine regA 13 48 (v := ?_) rfl rfl (by kernel_rfl) (by kernel_rfl) (by kernel_rfl) (fun _ _ _ h => h) (by rfl) (fun w => ?_) ?_; rotate_left; (go_simp; first | done | with_reducible rfl); (try simp only [Act.put, List.setIfInBounds_toArray, List.set_cons_zero, List.set_cons_succ])
        refine regA 14 62 (v := ?_) rfl rfl (by kernel_rfl) (by kernel_rfl) (by kernel_rfl) (fun _ _ _ h => h) (by rfl) (fun w => ?_) ?_; rotate_left; (go_simp; first | done | with_reducible rfl); (try simp only [Act.put, List.setIfInBounds_toArray, List.set_cons_zero, List.set_cons_succ])
        refine regA 15 63 (v := ?_) rfl rfl (by kernel_rfl) (by kernel_rfl) (by kernel_rfl) (fun _ _ _ h => h) (by rfl) (fun w => ?_) ?_; rotate_left; (go_simp; first | done | with_reducible rfl); (try simp only [Act.put, List.setIfInBounds_toArray, List.set_cons_zero, List.set_cons_succ])
        refine regOnly 16 (by kernel_rfl) rfl (by rfl) (fun K hK => ?_)
        go_wp2_with fail
        refine hK.out _ _ (fun _ _ => HC.out _ _ HL8.out (hL7.mod0 (Mod.alloc (Mod.refl _ _) _))) ?_
        clear hK
        (try simp only [Act.put, List.setIfInBounds_toArray, List.set_cons_zero, List.set_cons_succ])
        refine regOnly 17 (by kernel_rfl) rfl (by rfl) (fun K hK => ?_)
        go_wp2_with fail
        have hL9 := hL7.mod0 (Mod.alloc (Mod.refl [] w7) (.cells #[.int .i64 0, .int .i64 0, .string ByteArray.empty] 36))
        refine hK.out _ _ (fun _ _ => HC.out _ _ HL8.out hL9) ?_
        clear hK
        (try simp only [Act.put, List.setIfInBounds_toArray, List.set_cons_zero, List.set_cons_succ])
        refine regOnly 18 (by kernel_rfl) rfl (by rfl) (fun K hK => ?_)
        go_wp2_with fail
        refine hK.out _ _ (fun _ h => h) ?_
        clear hK
        (try simp only [Act.put, List.setIfInBounds_toArray, List.set_cons_zero, List.set_cons_succ])
        refine regDone (by kernel_rfl) ?_ _
        have hM9 := Mod.alloc ((Mod.refl [p.1] W8).drew.trans hm7) (.cells #[.int .i64 0, .int .i64 0, .string ByteArray.empty] 36)
        have hB9 := hM9.get HB8.out hmb
        have hN9 := HM8.out.trans' hM9 (fun x hx => .inr (by rw [List.mem_singleton.1 hx]; exact hp1))
        generalize w7.alloc (.cells #[.int .i64 0, .int .i64 0, .string ByteArray.empty] 36) = W9 at *
        generalize w7.heap.size = mb2 at *
        exact key mb2 W9 ⟨hL9, hB9, hN9⟩
      · go_wp2_with fail
        have hM1 : Mod [] W8 (W8.drew.alloc (.cells #[.int .i64 0, .int .i64 0, .string ⟨#[]⟩] 36)) := Mod.alloc (Mod.refl _ _).drew _
        refine hK.out _ _ (fun _ _ => HC.out _ _ HL8.out (HL8A.out.mod0 hM1)) ?_
        clear hK hS
        (try simp only [Act.put, List.setIfInBounds_toArray, List.set_cons_zero, List.set_cons_succ])
        refine regOnly 12 (by kernel_rfl) rfl (by rfl) (fun K hK => ?_)
        go_wp2_with (first
          | (go_at_call 16; refine (HS2.out (W8.drew.alloc (.cells #[.int .i64 0, .int .i64 0, .string ⟨#[]⟩] 36)) _ _ (HL8A.out.mod0 hM1)).mono ?_; rintro e w7 ⟨rfl, hL7, hm7⟩))
        refine hK.out _ _ (fun _ _ => HC.out _ _ HL8.out hL7) ?_
        clear hK
        (try simp only [Act.put, List.setIfInBounds_toArray, List.set_cons_zero, List.set_cons_succ])
        refine regA 13 48 (v := ?_) rfl rfl (by kernel_rfl) (by kernel_rfl) (by kernel_rfl) (fun _ _ _ h => h) (by rfl) (fun w => ?_) ?_; rotate_left; (go_simp; first | done | with_reducible rfl); (try simp only [Act.put, List.setIfInBounds_toArray, List.set_cons_zero, List.set_cons_succ])
        refine regA 14 62 (v := ?_) rfl rfl (by kernel_rfl) (by kernel_rfl) (by kernel_rfl) (fun _ _ _ h => h) (by rfl) (fun w => ?_) ?_; rotate_left; (go_simp; first | done | with_reducible rfl); (try simp only [Act.put, List.setIfInBounds_toArray, List.set_cons_zero, List.set_cons_succ])
        refine regA 15 63 (v := ?_) rfl rfl (by kernel_rfl) (by kernel_rfl) (by kernel_rfl) (fun _ _ _ h => h) (by rfl) (fun w => ?_) ?_; rotate_left; (go_simp; first | done | with_reducible rfl); (try simp only [Act.put, List.setIfInBounds_toArray, List.set_cons_zero, List.set_cons_succ])
        have hB7 : w7.heap[W8.heap.size]? = some (.cells #[.int .i64 0, .int .i64 0, .string ⟨#[]⟩] 36 (0, 0)) := hm7.get (get_new W8.drew (.cells #[.int .i64 0, .int .i64 0, .string ⟨#[]⟩] 36)) (by simp; omega)
        have b0 : w7.cell? ⟨W8.heap.size, 0, none⟩ = some (.int .i64 0) := cell_at hB7 0
        have b1 : w7.cell? ⟨W8.heap.size, 1, none⟩ = some (.int .i64 0) := cell_at hB7 1
        have b2 : w7.cell? ⟨W8.heap.size, 2, none⟩ = some (.string ⟨#[]⟩) := cell_at hB7 2
        have bf : ∀ i, w7.frozen? ⟨W8.heap.size, i, none⟩ = false := free_at hB7
        refine regOnly 17 (by kernel_rfl) rfl (by rfl) (fun K hK => ?_)
        go_wp2_with fail
        have hM3 : Mod [W8.heap.size] w7 (((w7.setCell ⟨W8.heap.size, 0, none⟩ (.int .i64 0)).setCell ⟨W8.heap.size, 1, none⟩ (.int .i64 0)).setCell ⟨W8.heap.size, 2, none⟩ (.string ByteArray.empty)) := Mod.setCell (Mod.setCell (Mod.setCell (Mod.refl _ _) (by simp) _) (by simp) _) (by simp) _
        have hM4 := ((hM1.mono (by simp)).trans hm7).trans' hM3 (fun x hx => .inr (Nat.le_of_eq (List.mem_singleton.1 hx).symm))
        have hL9 := LawAt.modNew HL8A.out hL7 hM3 (Nat.le_refl _)
        generalize (((w7.setCell ⟨W8.heap.size, 0, none⟩ (.int .i64 0)).setCell ⟨W8.heap.size, 1, none⟩ (.int .i64 0)).setCell ⟨W8.heap.size, 2, none⟩ (.string ByteArray.empty)) = w9 at *
        refine hK.out _ _ (fun _ _ => HC.out _ _ HL8.out hL9) ?_
        clear hK b0 b1 b2 bf hB7
        (try simp only [Act.put, List.setIfInBounds_toArray, List.set_cons_zero, List.set_cons_succ])
        refine regOnly 18 (by kernel_rfl) rfl (by rfl) (fun K hK => ?_)
        go_wp2_with fail
        refine hK.out _ _ (fun _ h => h) ?_
        clear hK
        (try simp only [Act.put, List.setIfInBounds_toArray, List.set_cons_zero, List.set_cons_succ])
        refine regDone (by kernel_rfl) ?_ _
        exact key W8.heap.size w9 ⟨hL9, hM4.get HB8.out hmb, HM8.out.trans' hM4 (fun x hx => .inr (by rw [List.mem_singleton.1 hx]; exact hp1))⟩
    · rintro mb2 W9 ⟨hL9, hB9, hM9⟩
      have b0 : W9.cell? ⟨mb, 0, none⟩ = some (.int .i64 1) := cell_at hB9 0
      have b1 : W9.cell? ⟨mb, 1, none⟩ = some (.int .i64 (dn : Int)) := cell_at hB9 1
      have b2 : W9.cell? ⟨mb, 2, none⟩ = some (.string (val.extract 0 cz)) := cell_at hB9 2
      have HL9 := hid hL9
      have HM9 := hid hM9
      clear hL9 hB9 hM9 HL8A HB8 HM8 HS2
      have hB9' : (W9.alloc (.cells #[.int .i64 1, .int .i64 (dn : Int), .string (val.extract 0 cz)] 36)).heap[W9.heap.size]? = some (.cells (⟨1, (dn : Int), val.extract 0 cz⟩ : Msg).cells.toArray 36 (0, 0)) := get_new W9 (.cells #[.int .i64 1, .int .i64 (dn : Int), .string (val.extract 0 cz)] 36)
      have HB9 := hid hB9'
      clear hB9'
      have hq := chars_eq (val.extract 0 cz) (val.extract 0 cz)
      rw [decide_eq_true rfl] at hq
      go_wp2_with (first
        | (go_at_call 17; refine (HA.out (W9.alloc (.cells #[.int .i64 1, .int .i64 (dn : Int), .string (val.extract 0 cz)] 36)) W9.heap.size (HL9.out.mod0 (Mod.alloc (Mod.refl _ _) _)) HB9.out (HM9.out.alloc _)).mono ?_; rintro e w9 ⟨rfl, h9⟩; have H9 := hid h9; clear h9)
        | (go_at_call 12; obtain ⟨vt9, vw9, hL9, hM9, hk9⟩ := H9.out; refine (play_good (inv_closed dn (some (val.extract 0 cz))) w9 lw sb _ _ _ bl _ a c moves hL9 HI.out (HMV.out.mod hM9) HLEN.out W.heap.size (fun h => HMV.out.lt h) hk9 hM9.size).mono ?_; rintro e w10 ⟨rfl, h10⟩; have H10 := hid h10; have HK9 := hid (And.intro hM9 hk9); clear h10 hL9 hM9 hk9)
        | (go_at_call 13; obtain ⟨L3, vt3, vw3, hL3, g3, hn3, hb3, hr3⟩ := H10.out; refine (finish_good (inv_closed dn (some (val.extract 0 cz))) w10 lw sb _ vt3 vw3 bl L3 hL3 g3 (by have := g3.mu; simp at this; omega)).mono ?_; rintro e w4 ⟨rfl, L4, vt4, vw4, hL4, g4, hn4, hb4, hw4, hr4⟩; have l2 : w4.cell? ⟨lw, 2, none⟩ = some (nat L4.bad) := (cell_at hL4.cells 2).trans rfl; have HF := hid (HK9.out.1.trans' (hr3.step hr4).mod (fun x hx => .inr (HK9.out.2 x hx))); have H4 := hid (And.intro hL4 (And.intro g4 (And.intro (hn4.trans hn3) (And.intro (hb4.trans hb3) hw4)))); clear hL3 g3 hn3 hb3 hr3 hL4 g4 hn4 hb4 hw4 hr4))
      have htold := H4.out.2.1.told (by have h1 := H4.out.2.1.n; have h2 : L4.n = L8.n := H4.out.2.2.1; have h3 : L4.bad = L8.bad := H4.out.2.2.2.1; have h4 := HL8.out; have h5 := HL8B.out; have h6 := HKN.out; omega) H4.out.2.2.2.2
      have HTO := hid htold
      have hbn4 := (inv_closed dn (some (val.extract 0 cz))).b _ H4.out.2.1
      have hn14 := (inv_closed dn (some (val.extract 0 cz))).n1 _ H4.out.2.1
      have hlen4 := (inv_closed dn (some (val.extract 0 cz))).len _ H4.out.2.1
      have HLEN4 := hid hlen4
      clear htold hlen4
      go_loopg [12] (L4.n - L4.bad) (fun gk k W' => ∃ (i : Nat), k = .int .i64 (i : Int) ∧ gk + i = L4.n ∧ L4.bad ≤ i ∧ Mod [] w4 W')
      case atStart => exact ⟨L4.bad, rfl, by omega, Nat.le_refl _, Mod.refl _ _⟩
      case round =>
        obtain ⟨j, rfl, hj, hbj, hmj⟩ := hrel
        have hLr := H4.out.1.mod0 hmj
        have l0 : wr.cell? ⟨lw, 0, none⟩ = some (nat L4.n) := (cell_at hLr.cells 0).trans rfl
        have l3' : wr.cell? ⟨lw, 3, none⟩ = some (.slice (some ⟨nb, 0, none⟩) bl.length nc) := (cell_at hLr.cells 3).trans rfl
        by_cases hjn : j < L4.n
        · have hjl : j < bl.length := by rw [hLr.len, HLEN4.out]; exact hjn
          have hq2 : bl[j]? = some bl[j] := List.getElem?_eq_getElem hjl
          have hs2 : L4.nodes[j]? = some (L4.nodes[j]'(by rw [HLEN4.out]; exact hjn)) := List.getElem?_eq_getElem _
          generalize bl[j] = q at hq2
          generalize L4.nodes[j]'(by rw [HLEN4.out]; exact hjn) = u at hs2
          have nj := hLr.at hq2
          have hto := HTO.out j u hbj hs2
          have hval := value_any wr q.1 q.2.1 q.2.2 u (hLr.node j q u hq2 hs2) (by have := (H4.out.2.1.node j u hs2).n; omega)
          rw [hto.1, hto.2] at hval
          have j0 : (0 : Int) ≤ (j : Int) := Int.natCast_nonneg _
          have j1 : (j : Int) < (bl.length : Int) := by omega
          have d0 : decide ((j : Int) < (L4.n : Int)) = true := by rw [decide_eq_true_eq]; omega
          have d1 : decide (j < L4.n) = true := by rw [decide_eq_true_eq]; omega
          have HV := hid hval
          have HMJ := hid hmj
          clear hLr hq2 hs2 hto hval hmj
          go_wp2_with (first
            | (go_at_call 18; refine HV.out.mono ?_; rintro e w11 ⟨rfl, hm11⟩; have HM11 := hid hm11; clear hm11))
          go_roundg (gk - 1)
          case measure => omega
          case rel => exact ⟨j + 1, by go_num, by omega, by omega, HMJ.out.trans HM11.out⟩
        · have d0 : decide ((j : Int) < (L4.n : Int)) = false := by rw [decide_eq_false_iff_not]; omega
          have d1 : decide (j < L4.n) = false := by rw [decide_eq_false_iff_not]; omega
          go_wp2_with fail
          go_ret
          exact ⟨rfl, HF.out.trans hmj⟩
end Go.Proofs.Ytcgfjalglnlofaa
