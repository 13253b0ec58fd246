/-
  CastTotal, walked. No statement of a claim stands here; each contract names what it asks.
-/
import Derived.Test.YtcgfjalglnlofaaCastA
import Derived.Test.YtcgfjalglnlofaaInv7
import Derived.Test.YtcgfjalglnlofaaCastC
import Derived.Test.YtcgfjalglnlofaaRegG
set_option linter.unusedSimpArgs false
namespace Go.Proofs.Ytcgfjalglnlofaa
open Go Go.RowKit

theorem MovesAt.mod {W W' : World} {a : Option Addr} {l : List MoveS} (h : MovesAt W a l) (m : Mod [] W W') : MovesAt W' a l :=
  ⟨fun i mv hi => by
    obtain ⟨b, o, h1, h2, h3⟩ := h.cell i mv hi
    exact ⟨b, o, h1, Nat.lt_of_lt_of_le h2 m.size, fun j u hu => m.cell (h3 j u hu) (by simp)⟩⟩
theorem MovesAt.lt {W : World} {a : Option Addr} {l : List MoveS} (h : MovesAt W a l) (hl : l ≠ []) : ∀ ad, a = some ad → ad.block < W.heap.size := fun ad had => by
  obtain ⟨m, l', rfl⟩ := List.exists_cons_of_ne_nil hl
  obtain ⟨b, o, h1, h2, _⟩ := h.cell 0 m rfl
  rw [h1] at had; cases had
  exact h2

theorem reach_mod {W W1 W2 : World} {lw sb : Nat} {bl : List Trip} {vt vw : Value} (h : Reach lw sb bl W1 (.slice none 0 0) (.slice none 0 0) W2 vt vw) (hm : Mod [] W W1) (hnew : ∀ k ∈ lw :: sb :: tripBlocks bl, W.heap.size ≤ k) : Mod [] W W2 :=
  hm.trans' h.mod (fun x hx => .inr (hnew x (by simpa [Value.ownBlock] using hx)))

theorem delivered_all {d : Nat} {v0 : Option ByteArray} {L : LawS} (I : Inv d v0 none L) (hbt : L.bad = L.t) (hw : L.wait = []) : deliveredS L = 0 ∨ deliveredS L = L.n - L.bad := by
  by_cases h : ∃ s ∈ L.nodes.drop L.bad, s.si = true
  · right
    obtain ⟨s, hs, hsi⟩ := h
    obtain ⟨i, hi⟩ := List.mem_iff_getElem?.1 hs
    rw [List.getElem?_drop] at hi
    have hall := I.total hbt hw (i := L.bad + i) (by omega) hi hsi
    unfold deliveredS
    rw [List.countP_eq_length.2, List.length_drop, I.len]
    intro u hu
    obtain ⟨j, hj⟩ := List.mem_iff_getElem?.1 hu
    rw [List.getElem?_drop] at hj
    exact hall (L.bad + j) u (by omega) hj
  · left
    unfold deliveredS
    rw [List.countP_eq_zero]
    intro s hs hsi
    exact h ⟨s, hs, hsi⟩


set_option maxRecDepth 20000 in
set_option maxHeartbeats 1000000 in
theorem total_any (W : World) (t : Int) (a : Option Addr) (c : Nat) (moves : List MoveS) (hm : MovesAt W a moves) (hlen : moves.length ≤ maxLen) :
    Calls Try.prog 3 #[.int .i64 t, .slice a moves.length c] W fun e W' => e = .returned (.bool true) ∧ Mod [] W W' := by
  have hr : 0 ≤ among t 2 ∧ among t 2 < 2 := ⟨Int.emod_nonneg _ (by omega), Int.emod_lt_of_pos _ (by omega)⟩
  obtain ⟨tn, htn⟩ : ∃ tn : Nat, (tn : Int) = 1 + among t 2 := ⟨(1 + among t 2).toNat, by omega⟩
  have e1 : IntKind.i64.wrap (1 + among t 2) = (tn : Int) := by rw [htn]; exact IntWalk.i64_in _ (by omega)
  have ht2 : tn ≤ 2 := by omega
  have HMV := hid hm
  have HLEN := hid hlen
  clear htn hm hlen
  go_enter Try.func3, Try.ntmps3
  go_wp2_with (first
    | (go_at_call 9; refine (works_any _).mono ?_; rintro e w1 ⟨rfl, hm1⟩)
    | (go_at_call 10; refine (among_any _ _ _ (by omega) (by omega)).mono ?_; rintro e w' ⟨rfl, rfl⟩)
    | (go_at_call 11; refine (made_any w1 tn tn 1 ht2 (Nat.le_refl _) (by omega) (by omega)).mono ?_; rintro e w2 ⟨lw, sb, vn, bl, rfl, hL2, hm2, hnew⟩; have H2 := hid (And.intro hL2 (And.intro (hm1.trans hm2) (fun k hk => Nat.le_trans hm1.size (hnew k hk)))); have HN := hid hnew; clear hL2 hm2 hnew)
    | (go_at_call 12; refine (play_good (inv_closed 1 none) w2 lw sb vn _ _ bl _ a c moves H2.out.1 (inv_made (d := 1) ht2 (Nat.le_refl _)) (HMV.out.mod H2.out.2.1) HLEN.out W.heap.size (fun h => HMV.out.lt h) (fun k hk => H2.out.2.2 k (by simpa [Value.ownBlock] using hk)) H2.out.2.1.size).mono ?_; rintro e w3 ⟨rfl, h3⟩; have H3 := hid h3; clear h3)
    | (go_at_call 13; obtain ⟨L3, vt3, vw3, hL3, g3, hn3, hb3, hr3⟩ := H3.out; refine (finish_good (inv_closed 1 none) w3 lw sb vn vt3 vw3 bl L3 hL3 g3 (by have := g3.mu; simp at this; omega)).mono ?_; rintro e w4 ⟨rfl, L4, vt4, vw4, hL4, g4, hn4, hb4, hw4, hr4⟩; have H4 := hid (And.intro hL4 (And.intro g4 (And.intro (hn4.trans hn3) (And.intro (hb4.trans hb3) (And.intro hw4 (hr3.step hr4)))))); clear hL3 g3 hn3 hb3 hr3 hL4 g4 hn4 hb4 hw4 hr4)
    | (go_at_call 14; have C := inv_closed 1 none; refine (delivered_any w4 lw sb vn vt4 vw4 bl L4 H4.out.1 (C.len _ H4.out.2.1) (C.n1 _ H4.out.2.1) (Nat.le_of_lt (C.b _ H4.out.2.1)) (C.pos _ H4.out.2.1) (C.n0 _ H4.out.2.1)).mono ?_; clear C; rintro e w5 ⟨rfl, hm5⟩; have H5 := hid hm5; clear hm5))
  obtain ⟨hL4, g4, hn4, hb4, hw4, hr4⟩ := H4.out
  have hL5 := hL4.mod0 H5.out
  have hfin : Mod [] W w5 := (reach_mod hr4 H2.out.2.1 (fun k hk => H2.out.2.2 k hk)).trans H5.out
  have hD := delivered_all g4 (by rw [hb4]; have h1 := g4.n; rw [hn4] at h1; simp only [madeS] at h1 ⊢; omega) hw4
  have hag := hid (And.intro hL5 (And.intro g4 hfin))
  have l0 : w5.cell? ⟨lw, 0, none⟩ = some (nat L4.n) := (cell_at hL5.cells 0).trans rfl
  have l2 : w5.cell? ⟨lw, 2, none⟩ = some (nat L4.bad) := (cell_at hL5.cells 2).trans rfl
  have l5 : w5.cell? ⟨lw, 5, none⟩ = some vw4 := (cell_at hL5.cells 5).trans rfl
  have hv : ∃ b c, vw4 = .slice b 0 c := by
    have hr := hL5.wait
    rw [hw4] at hr
    rcases hr.2 with ⟨rfl, h0⟩ | ⟨g, cap, cur, rfl, _⟩
    · exact ⟨none, 0, rfl⟩
    · exact ⟨_, _, rfl⟩
  obtain ⟨b, c', rfl⟩ := hv
  have hbn : L4.bad < L4.n := (inv_closed 1 none).b _ g4
  have hn1 := (inv_closed 1 none).n1 _ g4
  have e2 : IntKind.i64.wrap ((L4.n : Int) - (L4.bad : Int)) = (L4.n : Int) - (L4.bad : Int) := IntWalk.i64_in _ (by omega)
  have hlt : Mod [] w5 w5.drew := (Mod.refl _ _).drew
  clear hL4 g4 hn4 hb4 hw4 hr4 hL5 hfin
  rcases hD with hD | hD
  · have d1 : ((deliveredS L4 : Int) == 0) = true := by rw [hD]; rfl
    rw [hD] at d1 ⊢
    clear hD
    refine wp_region_N (fun w' => w'.cell? ⟨lw, 0, none⟩ = some (nat L4.n) ∧ w'.cell? ⟨lw, 2, none⟩ = some (nat L4.bad) ∧ w'.cell? ⟨lw, 5, none⟩ = some (.slice b 0 c')) (fun _ => true) (by kernel_rfl) ?_
    have hS : (fun w' : World => w'.cell? ⟨lw, 0, none⟩ = some (nat L4.n) ∧ w'.cell? ⟨lw, 2, none⟩ = some (nat L4.bad) ∧ w'.cell? ⟨lw, 5, none⟩ = some (.slice b 0 c')) w5.drew := ⟨l0, l2, l5⟩
    refine regA 0 27 (v := ?_) rfl rfl (by kernel_rfl) (by kernel_rfl) (by kernel_rfl) (fun _ _ _ h => h) (by rfl) (fun w => ?_) ?_; rotate_left; (go_simp; first | done | with_reducible rfl); (try simp only [Act.put, List.setIfInBounds_toArray, List.set_cons_zero, List.set_cons_succ])
    refine regA 1 28 (v := ?_) rfl rfl (by kernel_rfl) (by kernel_rfl) (by kernel_rfl) (fun _ _ _ h => h) (by rfl) (fun w => ?_) ?_; rotate_left; (go_simp; first | done | with_reducible rfl); (try simp only [Act.put, List.setIfInBounds_toArray, List.set_cons_zero, List.set_cons_succ])
    refine regA 2 29 (v := ?_) rfl rfl (by kernel_rfl) (by kernel_rfl) (by kernel_rfl) (fun _ _ _ h => h) (by rfl) (fun w => ?_) ?_; rotate_left; (go_simp; first | done | with_reducible rfl); (try simp only [Act.put, List.setIfInBounds_toArray, List.set_cons_zero, List.set_cons_succ])
    refine regU 3 30 rfl rfl (by kernel_rfl) (by kernel_rfl) (by kernel_rfl) (fun _ _ _ h => h) (by rfl) ?_; (try simp only [Act.put, List.setIfInBounds_toArray, List.set_cons_zero, List.set_cons_succ])
    refine regU 4 31 rfl rfl (by kernel_rfl) (by kernel_rfl) (by kernel_rfl) (fun _ _ _ h => h) (by rfl) ?_; (try simp only [Act.put, List.setIfInBounds_toArray, List.set_cons_zero, List.set_cons_succ])
    refine regU 5 32 rfl rfl (by kernel_rfl) (by kernel_rfl) (by kernel_rfl) (fun _ _ _ h => h) (by rfl) ?_; (try simp only [Act.put, List.setIfInBounds_toArray, List.set_cons_zero, List.set_cons_succ])
    refine regU 6 33 rfl rfl (by kernel_rfl) (by kernel_rfl) (by kernel_rfl) (fun _ _ _ h => h) (by rfl) ?_; (try simp only [Act.put, List.setIfInBounds_toArray, List.set_cons_zero, List.set_cons_succ])
    refine regU 7 34 rfl rfl (by kernel_rfl) (by kernel_rfl) (by kernel_rfl) (fun _ _ _ h => h) (by rfl) ?_; (try simp only [Act.put, List.setIfInBounds_toArray, List.set_cons_zero, List.set_cons_succ])
    refine regU 8 35 rfl rfl (by kernel_rfl) (by kernel_rfl) (by kernel_rfl) (fun _ _ _ h => h) (by rfl) ?_; (try simp only [Act.put, List.setIfInBounds_toArray, List.set_cons_zero, List.set_cons_succ])
    refine regU 9 36 rfl rfl (by kernel_rfl) (by kernel_rfl) (by kernel_rfl) (fun _ _ _ h => h) (by rfl) ?_; (try simp only [Act.put, List.setIfInBounds_toArray, List.set_cons_zero, List.set_cons_succ])
    refine regU 10 37 rfl rfl (by kernel_rfl) (by kernel_rfl) (by kernel_rfl) (fun _ _ _ h => h) (by rfl) ?_; (try simp only [Act.put, List.setIfInBounds_toArray, List.set_cons_zero, List.set_cons_succ])
    refine regU 11 38 rfl rfl (by kernel_rfl) (by kernel_rfl) (by kernel_rfl) (fun _ _ _ h => h) (by rfl) ?_; (try simp only [Act.put, List.setIfInBounds_toArray, List.set_cons_zero, List.set_cons_succ])
    refine regU 12 39 rfl rfl (by kernel_rfl) (by kernel_rfl) (by kernel_rfl) (fun _ _ _ h => h) (by rfl) ?_; (try simp only [Act.put, List.setIfInBounds_toArray, List.set_cons_zero, List.set_cons_succ])
    refine regU 13 40 rfl rfl (by kernel_rfl) (by kernel_rfl) (by kernel_rfl) (fun _ _ _ h => h) (by rfl) ?_; (try simp only [Act.put, List.setIfInBounds_toArray, List.set_cons_zero, List.set_cons_succ])
    refine regA 14 41 (v := ?_) rfl rfl (by kernel_rfl) (by kernel_rfl) (by kernel_rfl) (fun _ _ _ h => h) (by rfl) (fun w => ?_) ?_; rotate_left; (go_simp; first | done | with_reducible rfl); (try simp only [Act.put, List.setIfInBounds_toArray, List.set_cons_zero, List.set_cons_succ])
    refine regA 15 42 (v := ?_) rfl rfl (by kernel_rfl) (by kernel_rfl) (by kernel_rfl) (fun _ _ _ h => h) (by rfl) (fun w => ?_) ?_; rotate_left; (go_simp; first | done | with_reducible rfl); (try simp only [Act.put, List.setIfInBounds_toArray, List.set_cons_zero, List.set_cons_succ])
    refine regA 16 43 (v := ?_) rfl rfl (by kernel_rfl) (by kernel_rfl) (by kernel_rfl) (fun _ _ _ h => h) (by rfl) (fun w => ?_) ?_; rotate_left; (go_simp; first | done | with_reducible rfl); (try simp only [Act.put, List.setIfInBounds_toArray, List.set_cons_zero, List.set_cons_succ])
    refine regOnlyG 17 (by kernel_rfl) rfl (by rfl) (fun K hK => ?_)
    go_wp2_with (first
      | (go_at_call 15; have C := inv_closed 1 none; refine (agree_any _ lw sb vn vt4 _ bl L4 (hag.out.1.mod0 (Mod.refl _ _).drew) (C.len _ hag.out.2.1) (C.n1 _ hag.out.2.1) (Nat.le_of_lt (C.b _ hag.out.2.1)) (C.pos _ hag.out.2.1) (C.n0 _ hag.out.2.1)).mono ?_; rw [C.agree _ hag.out.2.1]; clear C; rintro e w6 ⟨rfl, hm6⟩))
    refine hK.out _ _ (fun _ _ => ⟨hm6.cell l0 (by simp), hm6.cell l2 (by simp), hm6.cell l5 (by simp)⟩) ?_
    clear hK hS
    have hS : (fun w' : World => w'.cell? ⟨lw, 0, none⟩ = some (nat L4.n) ∧ w'.cell? ⟨lw, 2, none⟩ = some (nat L4.bad) ∧ w'.cell? ⟨lw, 5, none⟩ = some (.slice b 0 c')) w6 := ⟨hm6.cell l0 (by simp), hm6.cell l2 (by simp), hm6.cell l5 (by simp)⟩
    (try simp only [Act.put, List.setIfInBounds_toArray, List.set_cons_zero, List.set_cons_succ])
    refine regA 18 45 (v := ?_) rfl rfl (by kernel_rfl) (by kernel_rfl) (by kernel_rfl) (fun _ _ _ h => h) (by rfl) (fun w => ?_) ?_; rotate_left; (go_simp; first | done | with_reducible rfl); (try simp only [Act.put, List.setIfInBounds_toArray, List.set_cons_zero, List.set_cons_succ])
    refine regA 19 46 (v := ?_) rfl rfl (by kernel_rfl) (by kernel_rfl) (by kernel_rfl) (fun _ _ _ h => h) (by rfl) (fun w => ?_) ?_; rotate_left; (go_simp; first | done | with_reducible rfl); (try simp only [Act.put, List.setIfInBounds_toArray, List.set_cons_zero, List.set_cons_succ])
    refine regA 20 47 (v := ?_) rfl rfl (by kernel_rfl) (by kernel_rfl) (by kernel_rfl) (fun _ _ _ h => h) (by rfl) (fun w => ?_) ?_; rotate_left; (go_simp; first | done | with_reducible rfl); (try simp only [Act.put, List.setIfInBounds_toArray, List.set_cons_zero, List.set_cons_succ])
    refine regA 21 48 (v := ?_) rfl rfl (by kernel_rfl) (by kernel_rfl) (by kernel_rfl) (fun _ _ _ h => h) (by rfl) (fun w => ?_) ?_; rotate_left; (go_simp; first | done | with_reducible rfl); (try simp only [Act.put, List.setIfInBounds_toArray, List.set_cons_zero, List.set_cons_succ])
    refine regA 22 49 (v := ?_) rfl rfl (by kernel_rfl) (by kernel_rfl) (by kernel_rfl) (fun _ _ _ h => h) (by rfl) (fun w => ?_) ?_; rotate_left; (go_simp; first | done | with_reducible rfl); (try simp only [Act.put, List.setIfInBounds_toArray, List.set_cons_zero, List.set_cons_succ])
    refine regS 23 50 (v := ?_) hS rfl rfl (by kernel_rfl) (by kernel_rfl) (by kernel_rfl) (by kernel_rfl) (fun _ _ _ h => h) (by rfl) (fun w hSw => ?_) ?_; rotate_left; (go_simp; first | done | with_reducible rfl); (try simp only [Act.put, List.setIfInBounds_toArray, List.set_cons_zero, List.set_cons_succ])
    refine regA 24 51 (v := ?_) rfl rfl (by kernel_rfl) (by kernel_rfl) (by kernel_rfl) (fun _ _ _ h => h) (by rfl) (fun w => ?_) ?_; rotate_left; (go_simp; first | done | with_reducible rfl); (try simp only [Act.put, List.setIfInBounds_toArray, List.set_cons_zero, List.set_cons_succ])
    refine regA 25 52 (v := ?_) rfl rfl (by kernel_rfl) (by kernel_rfl) (by kernel_rfl) (fun _ _ _ h => h) (by rfl) (fun w => ?_) ?_; rotate_left; (go_simp; first | done | with_reducible rfl); (try simp only [Act.put, List.setIfInBounds_toArray, List.set_cons_zero, List.set_cons_succ])
    refine regA 26 53 (v := ?_) rfl rfl (by kernel_rfl) (by kernel_rfl) (by kernel_rfl) (fun _ _ _ h => h) (by rfl) (fun w => ?_) ?_; rotate_left; (go_simp; first | done | with_reducible rfl); (try simp only [Act.put, List.setIfInBounds_toArray, List.set_cons_zero, List.set_cons_succ])
    refine regA 27 4 (v := ?_) rfl rfl (by kernel_rfl) (by kernel_rfl) (by kernel_rfl) (fun _ _ _ h => h) (by rfl) (fun w => ?_) ?_; rotate_left; (go_simp; first | done | with_reducible rfl); (try simp only [Act.put, List.setIfInBounds_toArray, List.set_cons_zero, List.set_cons_succ])
    refine regDone (by kernel_rfl) ?_ _
    go_wp2_with fail
    go_ret
    exact ⟨rfl, (hag.out.2.2.trans (Mod.refl _ _).drew).trans hm6⟩
  · have d1 : ((deliveredS L4 : Int) == 0) = false := by rw [beq_eq_false_iff_ne]; omega
    have d2 : (deliveredS L4 : Int) = (L4.n : Int) - (L4.bad : Int) := by omega
    have d3 : ((deliveredS L4 : Int) == (L4.n : Int) - (L4.bad : Int)) = true := by rw [d2]; simp
    clear hD d2
    refine wp_region_N (fun w' => w'.cell? ⟨lw, 0, none⟩ = some (nat L4.n) ∧ w'.cell? ⟨lw, 2, none⟩ = some (nat L4.bad) ∧ w'.cell? ⟨lw, 5, none⟩ = some (.slice b 0 c')) (fun _ => true) (by kernel_rfl) ?_
    have hS : (fun w' : World => w'.cell? ⟨lw, 0, none⟩ = some (nat L4.n) ∧ w'.cell? ⟨lw, 2, none⟩ = some (nat L4.bad) ∧ w'.cell? ⟨lw, 5, none⟩ = some (.slice b 0 c')) w5.drew := ⟨l0, l2, l5⟩
    refine regA 0 27 (v := ?_) rfl rfl (by kernel_rfl) (by kernel_rfl) (by kernel_rfl) (fun _ _ _ h => h) (by rfl) (fun w => ?_) ?_; rotate_left; (go_simp; first | done | with_reducible rfl); (try simp only [Act.put, List.setIfInBounds_toArray, List.set_cons_zero, List.set_cons_succ])
    refine regA 1 28 (v := ?_) rfl rfl (by kernel_rfl) (by kernel_rfl) (by kernel_rfl) (fun _ _ _ h => h) (by rfl) (fun w => ?_) ?_; rotate_left; (go_simp; first | done | with_reducible rfl); (try simp only [Act.put, List.setIfInBounds_toArray, List.set_cons_zero, List.set_cons_succ])
    refine regA 2 29 (v := ?_) rfl rfl (by kernel_rfl) (by kernel_rfl) (by kernel_rfl) (fun _ _ _ h => h) (by rfl) (fun w => ?_) ?_; rotate_left; (go_simp; first | done | with_reducible rfl); (try simp only [Act.put, List.setIfInBounds_toArray, List.set_cons_zero, List.set_cons_succ])
    refine regA 3 30 (v := ?_) rfl rfl (by kernel_rfl) (by kernel_rfl) (by kernel_rfl) (fun _ _ _ h => h) (by rfl) (fun w => ?_) ?_; rotate_left; (go_simp; first | done | with_reducible rfl); (try simp only [Act.put, List.setIfInBounds_toArray, List.set_cons_zero, List.set_cons_succ])
    refine regA 4 31 (v := ?_) rfl rfl (by kernel_rfl) (by kernel_rfl) (by kernel_rfl) (fun _ _ _ h => h) (by rfl) (fun w => ?_) ?_; rotate_left; (go_simp; first | done | with_reducible rfl); (try simp only [Act.put, List.setIfInBounds_toArray, List.set_cons_zero, List.set_cons_succ])
    refine regA 5 32 (v := ?_) rfl rfl (by kernel_rfl) (by kernel_rfl) (by kernel_rfl) (fun _ _ _ h => h) (by rfl) (fun w => ?_) ?_; rotate_left; (go_simp; first | done | with_reducible rfl); (try simp only [Act.put, List.setIfInBounds_toArray, List.set_cons_zero, List.set_cons_succ])
    refine regA 6 33 (v := ?_) rfl rfl (by kernel_rfl) (by kernel_rfl) (by kernel_rfl) (fun _ _ _ h => h) (by rfl) (fun w => ?_) ?_; rotate_left; (go_simp; first | done | with_reducible rfl); (try simp only [Act.put, List.setIfInBounds_toArray, List.set_cons_zero, List.set_cons_succ])
    refine regS 7 34 (v := ?_) hS rfl rfl (by kernel_rfl) (by kernel_rfl) (by kernel_rfl) (by kernel_rfl) (fun _ _ _ h => h) (by rfl) (fun w hSw => ?_) ?_; rotate_left; (go_simp; first | done | with_reducible rfl); (try simp only [Act.put, List.setIfInBounds_toArray, List.set_cons_zero, List.set_cons_succ])
    refine regA 8 35 (v := ?_) rfl rfl (by kernel_rfl) (by kernel_rfl) (by kernel_rfl) (fun _ _ _ h => h) (by rfl) (fun w => ?_) ?_; rotate_left; (go_simp; first | done | with_reducible rfl); (try simp only [Act.put, List.setIfInBounds_toArray, List.set_cons_zero, List.set_cons_succ])
    refine regA 9 36 (v := ?_) rfl rfl (by kernel_rfl) (by kernel_rfl) (by kernel_rfl) (fun _ _ _ h => h) (by rfl) (fun w => ?_) ?_; rotate_left; (go_simp; first | done | with_reducible rfl); (try simp only [Act.put, List.setIfInBounds_toArray, List.set_cons_zero, List.set_cons_succ])
    refine regA 10 37 (v := ?_) rfl rfl (by kernel_rfl) (by kernel_rfl) (by kernel_rfl) (fun _ _ _ h => h) (by rfl) (fun w => ?_) ?_; rotate_left; (go_simp; first | done | with_reducible rfl); (try simp only [Act.put, List.setIfInBounds_toArray, List.set_cons_zero, List.set_cons_succ])
    refine regS 11 38 (v := ?_) hS rfl rfl (by kernel_rfl) (by kernel_rfl) (by kernel_rfl) (by kernel_rfl) (fun _ _ _ h => h) (by rfl) (fun w hSw => ?_) ?_; rotate_left; (go_simp; first | done | with_reducible rfl); (try simp only [Act.put, List.setIfInBounds_toArray, List.set_cons_zero, List.set_cons_succ])
    refine regA 12 39 (v := ?_) rfl rfl (by kernel_rfl) (by kernel_rfl) (by kernel_rfl) (fun _ _ _ h => h) (by rfl) (fun w => ?_) ?_; rotate_left; (go_simp; first | done | with_reducible rfl); (try simp only [Act.put, List.setIfInBounds_toArray, List.set_cons_zero, List.set_cons_succ])
    refine regA 13 40 (v := ?_) rfl rfl (by kernel_rfl) (by kernel_rfl) (by kernel_rfl) (fun _ _ _ h => h) (by rfl) (fun w => ?_) ?_; rotate_left; (go_simp; first | done | with_reducible rfl); (try simp only [Act.put, List.setIfInBounds_toArray, List.set_cons_zero, List.set_cons_succ])
    refine regA 14 41 (v := ?_) rfl rfl (by kernel_rfl) (by kernel_rfl) (by kernel_rfl) (fun _ _ _ h => h) (by rfl) (fun w => ?_) ?_; rotate_left; (go_simp; first | done | with_reducible rfl); (try simp only [Act.put, List.setIfInBounds_toArray, List.set_cons_zero, List.set_cons_succ])
    refine regA 15 42 (v := ?_) rfl rfl (by kernel_rfl) (by kernel_rfl) (by kernel_rfl) (fun _ _ _ h => h) (by rfl) (fun w => ?_) ?_; rotate_left; (go_simp; first | done | with_reducible rfl); (try simp only [Act.put, List.setIfInBounds_toArray, List.set_cons_zero, List.set_cons_succ])
    refine regA 16 43 (v := ?_) rfl rfl (by kernel_rfl) (by kernel_rfl) (by kernel_rfl) (fun _ _ _ h => h) (by rfl) (fun w => ?_) ?_; rotate_left; (go_simp; first | done | with_reducible rfl); (try simp only [Act.put, List.setIfInBounds_toArray, List.set_cons_zero, List.set_cons_succ])
    refine regOnlyG 17 (by kernel_rfl) rfl (by rfl) (fun K hK => ?_)
    go_wp2_with (first
      | (go_at_call 15; have C := inv_closed 1 none; refine (agree_any _ lw sb vn vt4 _ bl L4 (hag.out.1.mod0 (Mod.refl _ _).drew) (C.len _ hag.out.2.1) (C.n1 _ hag.out.2.1) (Nat.le_of_lt (C.b _ hag.out.2.1)) (C.pos _ hag.out.2.1) (C.n0 _ hag.out.2.1)).mono ?_; rw [C.agree _ hag.out.2.1]; clear C; rintro e w6 ⟨rfl, hm6⟩))
    refine hK.out _ _ (fun _ _ => ⟨hm6.cell l0 (by simp), hm6.cell l2 (by simp), hm6.cell l5 (by simp)⟩) ?_
    clear hK hS
    have hS : (fun w' : World => w'.cell? ⟨lw, 0, none⟩ = some (nat L4.n) ∧ w'.cell? ⟨lw, 2, none⟩ = some (nat L4.bad) ∧ w'.cell? ⟨lw, 5, none⟩ = some (.slice b 0 c')) w6 := ⟨hm6.cell l0 (by simp), hm6.cell l2 (by simp), hm6.cell l5 (by simp)⟩
    (try simp only [Act.put, List.setIfInBounds_toArray, List.set_cons_zero, List.set_cons_succ])
    refine regA 18 45 (v := ?_) rfl rfl (by kernel_rfl) (by kernel_rfl) (by kernel_rfl) (fun _ _ _ h => h) (by rfl) (fun w => ?_) ?_; rotate_left; (go_simp; first | done | with_reducible rfl); (try simp only [Act.put, List.setIfInBounds_toArray, List.set_cons_zero, List.set_cons_succ])
    refine regA 19 46 (v := ?_) rfl rfl (by kernel_rfl) (by kernel_rfl) (by kernel_rfl) (fun _ _ _ h => h) (by rfl) (fun w => ?_) ?_; rotate_left; (go_simp; first | done | with_reducible rfl); (try simp only [Act.put, List.setIfInBounds_toArray, List.set_cons_zero, List.set_cons_succ])
    refine regA 20 47 (v := ?_) rfl rfl (by kernel_rfl) (by kernel_rfl) (by kernel_rfl) (fun _ _ _ h => h) (by rfl) (fun w => ?_) ?_; rotate_left; (go_simp; first | done | with_reducible rfl); (try simp only [Act.put, List.setIfInBounds_toArray, List.set_cons_zero, List.set_cons_succ])
    refine regA 21 48 (v := ?_) rfl rfl (by kernel_rfl) (by kernel_rfl) (by kernel_rfl) (fun _ _ _ h => h) (by rfl) (fun w => ?_) ?_; rotate_left; (go_simp; first | done | with_reducible rfl); (try simp only [Act.put, List.setIfInBounds_toArray, List.set_cons_zero, List.set_cons_succ])
    refine regA 22 49 (v := ?_) rfl rfl (by kernel_rfl) (by kernel_rfl) (by kernel_rfl) (fun _ _ _ h => h) (by rfl) (fun w => ?_) ?_; rotate_left; (go_simp; first | done | with_reducible rfl); (try simp only [Act.put, List.setIfInBounds_toArray, List.set_cons_zero, List.set_cons_succ])
    refine regS 23 50 (v := ?_) hS rfl rfl (by kernel_rfl) (by kernel_rfl) (by kernel_rfl) (by kernel_rfl) (fun _ _ _ h => h) (by rfl) (fun w hSw => ?_) ?_; rotate_left; (go_simp; first | done | with_reducible rfl); (try simp only [Act.put, List.setIfInBounds_toArray, List.set_cons_zero, List.set_cons_succ])
    refine regA 24 51 (v := ?_) rfl rfl (by kernel_rfl) (by kernel_rfl) (by kernel_rfl) (fun _ _ _ h => h) (by rfl) (fun w => ?_) ?_; rotate_left; (go_simp; first | done | with_reducible rfl); (try simp only [Act.put, List.setIfInBounds_toArray, List.set_cons_zero, List.set_cons_succ])
    refine regA 25 52 (v := ?_) rfl rfl (by kernel_rfl) (by kernel_rfl) (by kernel_rfl) (fun _ _ _ h => h) (by rfl) (fun w => ?_) ?_; rotate_left; (go_simp; first | done | with_reducible rfl); (try simp only [Act.put, List.setIfInBounds_toArray, List.set_cons_zero, List.set_cons_succ])
    refine regA 26 53 (v := ?_) rfl rfl (by kernel_rfl) (by kernel_rfl) (by kernel_rfl) (fun _ _ _ h => h) (by rfl) (fun w => ?_) ?_; rotate_left; (go_simp; first | done | with_reducible rfl); (try simp only [Act.put, List.setIfInBounds_toArray, List.set_cons_zero, List.set_cons_succ])
    refine regA 27 4 (v := ?_) rfl rfl (by kernel_rfl) (by kernel_rfl) (by kernel_rfl) (fun _ _ _ h => h) (by rfl) (fun w => ?_) ?_; rotate_left; (go_simp; first | done | with_reducible rfl); (try simp only [Act.put, List.setIfInBounds_toArray, List.set_cons_zero, List.set_cons_succ])
    refine regDone (by kernel_rfl) ?_ _
    go_wp2_with fail
    go_ret
    exact ⟨rfl, (hag.out.2.2.trans (Mod.refl _ _).drew).trans hm6⟩
end Go.Proofs.Ytcgfjalglnlofaa
