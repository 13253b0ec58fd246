/-
  'hand' of the statements' world, walked: a message that waits is handed on. No statement of a claim stands here; each contract names what it asks.
-/
import Derived.Test.YtnpmjpdndhedgaaL3
set_option linter.unusedSimpArgs false
namespace Go.Proofs.Ytnpmjpdndhedgaa
open Go Go.RowKit Go.ChangeMaps

def among (x n : Int) : Int := IntKind.u64.wrap x % n

theorem among_any (x n : Int) (w : World) (hn : 1 ≤ n) (hn' : n ≤ 9223372036854775807) :
    Calls Try.prog 9 #[.int .i64 x, .int .i64 n] w fun e w' => e = .returned (.int .i64 (among x n)) ∧ w = w' := by
  have hu : 0 ≤ IntKind.u64.wrap x := by simp only [IntKind.wrap_u64]; omega
  have hr : 0 ≤ among x n ∧ among x n < n := ⟨Int.emod_nonneg _ (by omega), Int.emod_lt_of_pos _ (by omega)⟩
  have ht : (IntKind.u64.wrap x).tmod n = among x n := by rw [Int.tmod_eq_emod_of_nonneg hu]; rfl
  have hw : IntKind.i64.wrap (among x n) = among x n := IntWalk.i64_in _ (by omega)
  go_enter Try.func9, Try.ntmps9
  go_wp2
  go_ret
  refine ⟨?_, rfl⟩
  simp [ht]

theorem hand_none (W : World) (lw : Nat) (vn vt vw va : Value) (pl : List Loc) (L : LawS) (at_ : Int) (h : LawAt W lw vn vt vw va pl L) (hw : L.wait = []) :
    Calls Try.prog 27 #[.pointer (some ⟨lw, 0, none⟩), .int .i64 at_] W fun e W' => e = .returned (.tuple #[]) ∧ W = W' := by
  have l5 : W.cell? ⟨lw, 5, none⟩ = some vw := by rw [cell_at h.cells]; rfl
  have hv : ∃ a c, vw = .slice a 0 c := by
    rcases h.wait.2 with ⟨rfl, _⟩ | ⟨g, cap, cur, rfl, _⟩
    · exact ⟨_, _, rfl⟩
    · rw [hw]; exact ⟨_, _, rfl⟩
  obtain ⟨a, c, rfl⟩ := hv
  clear h hw
  go_enter Try.func27, Try.ntmps27
  go_wp2_with fail
  refine bodyPost_ret (results_none rfl _ _ _) rfl ?_
  exact ⟨rfl, rfl⟩

theorem takeS_few (s : NodeS) (m : Msg) : (takeS s m).2.length ≤ 3 := by
  unfold takeS; split
  · simp
  · split
    · simp
    · rw [List.length_append]
      have := actS_few (addS s m) m (addN (s.hd m.seat) m.from_ m.val)
      have := (hereS_same (actS (addS s m) m (addN (s.hd m.seat) m.from_ m.val)).1).2
      omega

set_option maxHeartbeats 2000000 in
theorem hand_some (W0 W : World) (lw : Nat) (vn vt vw va : Value) (pl : List Loc) (L : LawS) (at_ : Int) (h0 : LawIn W0 W lw vn vt vw va pl L) (k dd : Nat) (m : Msg) (s : NodeS) (hk : (k : Int) = among at_ L.wait.length) (hw : 0 < L.wait.length) (hlen : L.dest.length = L.wait.length) (hl : L.wait.length ≤ 1000000)
    (hto : L.dest[k]? = some dd) (hm : L.wait[k]? = some m) (hs : L.nodes[dd - 1]? = some s) (ht1 : 1 ≤ dd) (ok : NOk s) (hgood : L.good ≤ 100) (hall : L.all.length ≤ 1000000) (hnn : L.nodes.length ≤ 100) :
    Calls Try.prog 27 #[.pointer (some ⟨lw, 0, none⟩), .int .i64 at_] W (fun e W' => e = .returned (.tuple #[]) ∧ LawAny W0 W' lw (handS L k)) := by
  have h := h0.law
  obtain ⟨i3, hi3, hz3, hs3, hy3⟩ := info_parts infoInt
  obtain ⟨im, him, hzm, hsm, hym⟩ := info_parts infoMsg
  have hklt : k < L.wait.length := (List.getElem?_eq_some_iff.1 hm).1
  obtain ⟨gt, ct, cht, rfl, hgt, hnt, hmt, hct, htt⟩ := row_form h.dest (by rintro rfl; rcases h.dest.2 with ⟨_, h0⟩ | ⟨g, cap, cur, h0, _⟩; omega; cases h0)
  obtain ⟨gw, cw, chw, rfl, hgw, hnw, hmw, hcw, htw⟩ := row_form h.wait (by rintro rfl; rcases h.wait.2 with ⟨_, h0⟩ | ⟨g, cap, cur, h0, _⟩; omega; cases h0)
  have l3 : W.cell? ⟨lw, 3, none⟩ = some vn := by rw [cell_at h.cells]; rfl
  have l4 : W.cell? ⟨lw, 4, none⟩ = some (.slice (some ⟨gt, 0, none⟩) L.dest.length ct) := by rw [cell_at h.cells]; rfl
  have l5 : W.cell? ⟨lw, 5, none⟩ = some (.slice (some ⟨gw, 0, none⟩) L.wait.length cw) := by rw [cell_at h.cells]; rfl
  have hne : (((L.wait.length : Nat) : Int) == 0) = false := by rw [beq_eq_false_iff_ne]; omega
  have hk1 : (k : Int) < (L.wait.length : Int) := by omega
  have hk2 : (k : Int) < (L.dest.length : Int) := by omega
  have hkl : k < L.dest.length := by omega
  have hlt : L.dest.length ≤ 1000000 := by omega
  have hlt0 : 0 < L.dest.length := by omega
  have HK := hid hk
  have HLN := hid hlen
  have HL := hid h
  have HI := hid h0
  clear hk hlen h0
  go_enter Try.func27, Try.ntmps27
  go_wp2_with (first | (go_at_call 9; refine (among_any _ _ _ (by omega) (by omega)).mono ?_; rintro e w' ⟨rfl, rfl⟩; rw [← HK.out]))
  have hkt : (cht.toList)[k]? = some (nat dd) := by
    have e : (L.dest.map nat)[k]? = some (nat dd) := by simp [hto]
    rw [← htt, List.getElem?_take] at e
    split at e
    · exact e
    · cases e
  have ck : W.cell? ⟨gt, k, none⟩ = some (nat dd) := by rw [cell_at hgt]; simpa using hkt
  have hkw : ∀ j u, m.cells[j]? = some u → W.cell? ⟨gw, k * 4 + j, none⟩ = some u := by
    intro j u hu
    rw [cell_at hgw]
    have hj : j < 4 := by have := (List.getElem?_eq_some_iff.1 hu).1; simpa [Msg.cells] using this
    have e1 : (msgCells (L.wait.drop k))[j]? = some u := by
      rw [List.drop_eq_getElem_cons hklt, msgCells, List.flatMap_cons, List.getElem?_append_left (by simpa [Msg.cells] using hj)]
      rw [(List.getElem?_eq_some_iff.1 hm).2]; exact hu
    rw [← msgCells_drop, ← htw, List.getElem?_drop, List.getElem?_take] at e1
    split at e1
    · simpa using e1
    · cases e1
  have w0 : W.cell? ⟨gw, k * 4, none⟩ = some (.int .i64 m.kind) := hkw 0 _ rfl
  have w1 : W.cell? ⟨gw, k * 4 + 1, none⟩ = some (.int .i64 m.from_) := hkw 1 _ rfl
  have w2 : W.cell? ⟨gw, k * 4 + 2, none⟩ = some (.int .i64 m.round) := hkw 2 _ rfl
  have w3 : W.cell? ⟨gw, k * 4 + 3, none⟩ = some (.string m.val) := hkw 3 _ rfl
  have hk0 : (0 : Int) ≤ (k : Int) := Int.natCast_nonneg _
  go_region_held3 (fun w' => w'.cell? ⟨lw, 4, none⟩ = some (.slice (some ⟨gt, 0, none⟩) L.dest.length ct) ∧ w'.cell? ⟨lw, 5, none⟩ = some (.slice (some ⟨gw, 0, none⟩) L.wait.length cw) ∧ w'.cell? ⟨gt, k, none⟩ = some (nat dd) ∧
      w'.cell? ⟨gw, k * 4, none⟩ = some (.int .i64 m.kind) ∧ w'.cell? ⟨gw, k * 4 + 1, none⟩ = some (.int .i64 m.from_) ∧ w'.cell? ⟨gw, k * 4 + 2, none⟩ = some (.int .i64 m.round) ∧ w'.cell? ⟨gw, k * 4 + 3, none⟩ = some (.string m.val)) (go_keep) (fail)
  go_wp2_with fail
  refine wp_abs (fun W' => Mod [] W W' ∧ W'.heap[W.heap.size]? = some (.cells m.cells.toArray 39 (0, 0))) ⟨(by repeat' (first | exact Mod.refl _ _ | assumption | refine Mod.drewN ?_ _ | refine Mod.drew ?_ | refine Mod.alloc ?_ _ | refine Mod.setCell ?_ (by simp) _ | refine Mod.setBlock ?_ (by simp) _)), get_new W _⟩ ?_
  clear l3 l4 l5 ck w0 w1 w2 w3 hkt hkw hne h
  rintro W1 ⟨hM1, hB1⟩
  have l4 : W1.cell? ⟨lw, 4, none⟩ = some (.slice (some ⟨gt, 0, none⟩) L.dest.length ct) := by rw [cell_at (hM1.get HL.out.cells (by simp))]; rfl
  obtain ⟨ad, c', hsl, hcl⟩ := slice_from (P := Try.prog) Try.underlying31 hi3 gt L.dest.length ct (k + 1) (by omega) hnt cht (by rw [hct, hs3])
  have hsl0 := fun w => slice_to (P := Try.prog) Try.underlying31 hi3 gt L.dest.length ct k (by omega) w
  have ek : ((k + 1 : Nat) : Int) = (k : Int) + 1 := by omega
  rw [ek] at hsl
  have e1 : IntKind.i64.wrap ((k : Int) + 1) = (k : Int) + 1 := IntWalk.i64_in _ (by omega)
  refine wp_region_N (fun w' => w'.cell? ⟨lw, 4, none⟩ = some (.slice (some ⟨gt, 0, none⟩) L.dest.length ct)) (fun j => !(j == 19)) (by kernel_rfl) ?_
  have hS : (fun w' : World => w'.cell? ⟨lw, 4, none⟩ = some (.slice (some ⟨gt, 0, none⟩) L.dest.length ct)) W1.drew := l4
  clear ek
  refine regA 0 34 (v := ?_) rfl rfl (by kernel_rfl) (by kernel_rfl) (by kernel_rfl) (fun _ _ _ h => h) (by rfl) (fun w => ?_) ?_; rotate_left; (go_simp; first | done | with_reducible rfl); (try simp only [Act.put, List.setIfInBounds_toArray, List.set_cons_zero, List.set_cons_succ])
  refine regA 2 36 (v := ?_) rfl rfl (by kernel_rfl) (by kernel_rfl) (by kernel_rfl) (fun _ _ _ h => h) (by rfl) (fun w => ?_) ?_; rotate_left; (go_simp; first | done | with_reducible rfl); (try simp only [Act.put, List.setIfInBounds_toArray, List.set_cons_zero, List.set_cons_succ])
  refine regA 3 37 (v := ?_) rfl rfl (by kernel_rfl) (by kernel_rfl) (by kernel_rfl) (fun _ _ _ h => h) (by rfl) (fun w => ?_) ?_; rotate_left; (go_simp; first | done | with_reducible rfl); (try simp only [Act.put, List.setIfInBounds_toArray, List.set_cons_zero, List.set_cons_succ])
  refine regA 4 38 (v := ?_) rfl rfl (by kernel_rfl) (by kernel_rfl) (by kernel_rfl) (fun _ _ _ h => h) (by rfl) (fun w => ?_) ?_; rotate_left; (go_simp; first | done | with_reducible rfl); (try simp only [Act.put, List.setIfInBounds_toArray, List.set_cons_zero, List.set_cons_succ])
  refine regS 5 39 (v := ?_) hS rfl rfl (by kernel_rfl) (by kernel_rfl) (by kernel_rfl) (by kernel_rfl) (fun _ _ _ h => h) (by rfl) (fun w hSw => ?_) ?_; rotate_left; (go_simp; first | done | with_reducible rfl); (try simp only [Act.put, List.setIfInBounds_toArray, List.set_cons_zero, List.set_cons_succ])
  refine regA 6 40 (v := ?_) rfl rfl (by kernel_rfl) (by kernel_rfl) (by kernel_rfl) (fun _ _ _ h => h) (by rfl) (fun w => ?_) ?_; rotate_left; (go_simp; first | done | with_reducible rfl); (try simp only [Act.put, List.setIfInBounds_toArray, List.set_cons_zero, List.set_cons_succ])
  refine regA 7 41 (v := ?_) rfl rfl (by kernel_rfl) (by kernel_rfl) (by kernel_rfl) (fun _ _ _ h => h) (by rfl) (fun w => ?_) ?_; rotate_left; (go_simp; first | done | with_reducible rfl); (try simp only [Act.put, List.setIfInBounds_toArray, List.set_cons_zero, List.set_cons_succ])
  refine regA 9 43 (v := ?_) rfl rfl (by kernel_rfl) (by kernel_rfl) (by kernel_rfl) (fun _ _ _ h => h) (by rfl) (fun w => ?_) ?_; rotate_left; (go_simp; first | done | with_reducible rfl); (try simp only [Act.put, List.setIfInBounds_toArray, List.set_cons_zero, List.set_cons_succ])
  refine regA 10 44 (v := ?_) rfl rfl (by kernel_rfl) (by kernel_rfl) (by kernel_rfl) (fun _ _ _ h => h) (by rfl) (fun w => ?_) ?_; rotate_left; (go_simp; first | done | with_reducible rfl); (try simp only [Act.put, List.setIfInBounds_toArray, List.set_cons_zero, List.set_cons_succ])
  refine regA 11 45 (v := ?_) rfl rfl (by kernel_rfl) (by kernel_rfl) (by kernel_rfl) (fun _ _ _ h => h) (by rfl) (fun w => ?_) ?_; rotate_left; (go_simp; first | done | with_reducible rfl); (try simp only [Act.put, List.setIfInBounds_toArray, List.set_cons_zero, List.set_cons_succ])
  refine regS 12 46 (v := ?_) hS rfl rfl (by kernel_rfl) (by kernel_rfl) (by kernel_rfl) (by kernel_rfl) (fun _ _ _ h => h) (by rfl) (fun w hSw => ?_) ?_; rotate_left; (go_simp; first | done | with_reducible rfl); (try simp only [Act.put, List.setIfInBounds_toArray, List.set_cons_zero, List.set_cons_succ])
  refine regA 13 47 (v := ?_) rfl rfl (by kernel_rfl) (by kernel_rfl) (by kernel_rfl) (fun _ _ _ h => h) (by rfl) (fun w => ?_) ?_; rotate_left; (go_simp; first | done | with_reducible rfl); (try simp only [Act.put, List.setIfInBounds_toArray, List.set_cons_zero, List.set_cons_succ])
  refine regA 14 48 (v := ?_) rfl rfl (by kernel_rfl) (by kernel_rfl) (by kernel_rfl) (fun _ _ _ h => h) (by rfl) (fun w => ?_) ?_; rotate_left; (go_simp; first | done | with_reducible rfl); (try simp only [Act.put, List.setIfInBounds_toArray, List.set_cons_zero, List.set_cons_succ])
  refine regA 15 49 (v := ?_) rfl rfl (by kernel_rfl) (by kernel_rfl) (by kernel_rfl) (fun _ _ _ h => h) (by rfl) (fun w => ?_) ?_; rotate_left; (go_simp; first | done | with_reducible rfl); (try simp only [Act.put, List.setIfInBounds_toArray, List.set_cons_zero, List.set_cons_succ])
  have HCL := hid hcl
  clear hsl hsl0 hcl e1
  have HD := hid (trivial : True)
  refine regOnly 1 (by kernel_rfl) rfl rfl (fun K hK => ?_)
  go_simp
  refine hK.out _ _ (fun _ _ => by first | exact l4 | exact Mod.cell (Mod.alloc (Mod.refl [] W1) _) l4 (by simp)) ?_
  clear hK
  (try simp only [Act.put, List.setIfInBounds_toArray, List.set_cons_zero, List.set_cons_succ])
  refine regAbs (fun W' => Mod [] W1 W' ∧ W'.ownsRow 0 3 1 (.slice (some ⟨W1.heap.size, 0, none⟩) 0 0) 0 []) ⟨(by repeat' (first | exact Mod.refl _ _ | assumption | refine Mod.drewN ?_ _ | refine Mod.drew ?_ | refine Mod.alloc ?_ _ | refine Mod.setCell ?_ (by simp) _ | refine Mod.setBlock ?_ (by simp) _)), World.ownsRow_made W1.drew #[] 0 (Nat.zero_le _) (Nat.zero_le _) rfl⟩ ?_
  rintro W2 ⟨hM2, ho2⟩
  have hgt2 := hM2.get (hM1.get hgt (by simp)) (by simp)
  refine regOnly 8 (by kernel_rfl) rfl rfl (fun K hK => ?_)
  refine wp_app 42 _ _ 31 rfl rfl 3 i3 _ 1 8 Try.underlying31 hi3 hz3 hs3 hy3 rfl (by omega) (.slice (some ⟨W1.heap.size, 0, none⟩) 0 0) _ _ rfl ho2 ⟨gt, 0, none⟩ k ct ((L.dest.take k).map nat) rfl (by simp; omega)
    (by rw [List.map_take, ← htt, List.take_take]; exact news_take hgt2 _) (by intro u hu; obtain ⟨x, _, rfl⟩ := List.mem_map.1 hu; rfl) (by unfold maxLen; omega) (by omega) ?_
  intro v2 W3 ho3 hq3 hl3 hz3'
  have hlwlt : lw < W1.heap.size := Nat.lt_of_lt_of_le (lt_of_block HL.out.cells) hM1.size
  have hq3' : Mod [W1.heap.size] W2 W3 := hq3
  have hM3 : Mod [] W1 W3 := (hM2.trans' hq3' (fun x hx => .inr (by simp at hx; omega)))
  refine hK.out _ _ (fun _ h => hq3'.cell h (by simp; omega)) ?_
  clear hK
  (try simp only [Act.put, List.setIfInBounds_toArray, List.set_cons_zero, List.set_cons_succ])
  have hgt3 := hM3.get (hM1.get hgt (by simp)) (by simp)
  have hl3' : ∀ b, v2.ownBlock = some b → W1.heap.size ≤ b := fun b hb => by rcases hl3 b hb with h1 | h1; (simp [Value.ownBlock] at h1; omega); (have := hM2.size; omega)
  refine regOnly 16 (by kernel_rfl) rfl rfl (fun K hK => ?_)
  refine wp_app 50 _ _ 31 rfl rfl 3 i3 _ 1 8 Try.underlying31 hi3 hz3 hs3 hy3 rfl (by omega) v2 _ _ rfl ho3 ad (L.dest.length - (k + 1)) c' ((L.dest.drop (k + 1)).map nat) rfl (by simp)
    (by rw [List.map_drop, ← htt]; have := HCL.out W3 hgt3; rw [hs3] at this; simpa using this) (by intro u hu; obtain ⟨x, _, rfl⟩ := List.mem_map.1 hu; rfl) (by unfold maxLen; omega) (by omega) ?_
  intro v3 W4 ho4 hq4 hl4 hz4'
  have hM4 : Mod [] W1 W4 := hM3.trans' hq4 (fun x hx => .inr (hl3' x (by simpa using hx)))
  have hlw4 : lw ∉ v2.ownBlock.toList := own_not fun b hb => by have := hl3' b hb; omega
  refine hK.out _ _ (fun _ h => hq4.cell h hlw4) ?_
  clear hK
  (try simp only [Act.put, List.setIfInBounds_toArray, List.set_cons_zero, List.set_cons_succ])
  have hl4' : ∀ b, v3.ownBlock = some b → W1.heap.size ≤ b := fun b hb => by rcases hl4 b hb with h1 | h1; exact hl3' b h1; (have := hM3.size; omega)
  obtain ⟨g3, cap3, cur3, rfl, _⟩ := row_form ho4 (hz4' (hz3' (by simp)))
  have x4 : W4.cell? ⟨lw, 4, none⟩ = some (.slice (some ⟨gt, 0, none⟩) L.dest.length ct) := hM4.cell l4 (by simp)
  have xf : ∀ i, W4.frozen? ⟨lw, i, none⟩ = false := free_at (hM4.get (hM1.get HL.out.cells (by simp)) (by simp))
  refine regA 17 51 (v := ?_) rfl rfl (by kernel_rfl) (by kernel_rfl) (by kernel_rfl) (fun _ _ _ h => h) (by rfl) (fun w => ?_) ?_; rotate_left; (go_simp; first | done | with_reducible rfl); (try simp only [Act.put, List.setIfInBounds_toArray, List.set_cons_zero, List.set_cons_succ])
  refine regA 18 52 (v := ?_) rfl rfl (by kernel_rfl) (by kernel_rfl) (by kernel_rfl) (fun _ _ _ h => h) (by rfl) (fun w => ?_) ?_; rotate_left; (go_simp; first | done | with_reducible rfl); (try simp only [Act.put, List.setIfInBounds_toArray, List.set_cons_zero, List.set_cons_succ])
  refine regOnly 19 (by kernel_rfl) rfl rfl (fun K hK => ?_)
  go_simp
  refine hK.out _ _ (fun h => by simp at h) ?_
  clear hK
  (try simp only [Act.put, List.setIfInBounds_toArray, List.set_cons_zero, List.set_cons_succ])
  refine regDone (by kernel_rfl) ?_ _
  go_wp2_with fail
  refine wp_abs (fun W' => (∃ vt3, LawIn W0 W' lw vn vt3 (.slice (some ⟨gw, 0, none⟩) L.wait.length cw) va pl { L with dest := L.dest.eraseIdx k }) ∧ Mod [lw] W W' ∧ W'.heap[W.heap.size]? = some (.cells m.cells.toArray 39 (0, 0))) ⟨⟨_, cut_dest (HI.out.mod0 hM1) hM4 (by simpa using ho4) hl4'⟩, ?_, ?_⟩ ?_
  · exact Mod.setCell ((hM1.trans hM4).mono (by simp)) (by simp) _
  · have := lt_of_block HL.out.cells
    exact get_setCell (hM4.get hB1 (by simp)) (by simp; omega) _
  clear l4 hS HCL hM2 ho2 hgt2 ho3 hq3 hl3 hz3' hlwlt hq3' hM3 hgt3 hl3' hq4 hM4 hlw4 ho4 hl4 hz4' hl4' x4 xf hM1 hB1 HD
  rintro W5 ⟨⟨vt3, hI5⟩, hM5, hB5⟩
  have hgw5 := hM5.get hgw (by have := HL.out.set.2.2.1 gw rfl; simpa using this)
  have HL5 := hid hI5.law
  have HI5 := hid hI5
  have hz5 := hM5.size
  clear hI5
  have l5 : W5.cell? ⟨lw, 5, none⟩ = some (.slice (some ⟨gw, 0, none⟩) L.wait.length cw) := by rw [cell_at HL5.out.cells]; rfl
  obtain ⟨ad, c', hsl, hcl⟩ := slice_from (P := Try.prog) Try.underlying32 him gw L.wait.length cw (k + 1) (by omega) hnw chw (by rw [hcw, hsm])
  have hsl0 := fun w => slice_to (P := Try.prog) Try.underlying32 him gw L.wait.length cw k (by omega) w
  have ek : ((k + 1 : Nat) : Int) = (k : Int) + 1 := by omega
  rw [ek] at hsl
  have e1 : IntKind.i64.wrap ((k : Int) + 1) = (k : Int) + 1 := IntWalk.i64_in _ (by omega)
  refine wp_region_N (fun w' => w'.cell? ⟨lw, 5, none⟩ = some (.slice (some ⟨gw, 0, none⟩) L.wait.length cw)) (fun j => !(j == 19)) (by kernel_rfl) ?_
  have hS : (fun w' : World => w'.cell? ⟨lw, 5, none⟩ = some (.slice (some ⟨gw, 0, none⟩) L.wait.length cw)) W5.drew := l5
  clear ek
  refine regA 0 53 (v := ?_) rfl rfl (by kernel_rfl) (by kernel_rfl) (by kernel_rfl) (fun _ _ _ h => h) (by rfl) (fun w => ?_) ?_; rotate_left; (go_simp; first | done | with_reducible rfl); (try simp only [Act.put, List.setIfInBounds_toArray, List.set_cons_zero, List.set_cons_succ])
  refine regA 2 55 (v := ?_) rfl rfl (by kernel_rfl) (by kernel_rfl) (by kernel_rfl) (fun _ _ _ h => h) (by rfl) (fun w => ?_) ?_; rotate_left; (go_simp; first | done | with_reducible rfl); (try simp only [Act.put, List.setIfInBounds_toArray, List.set_cons_zero, List.set_cons_succ])
  refine regA 3 56 (v := ?_) rfl rfl (by kernel_rfl) (by kernel_rfl) (by kernel_rfl) (fun _ _ _ h => h) (by rfl) (fun w => ?_) ?_; rotate_left; (go_simp; first | done | with_reducible rfl); (try simp only [Act.put, List.setIfInBounds_toArray, List.set_cons_zero, List.set_cons_succ])
  refine regA 4 57 (v := ?_) rfl rfl (by kernel_rfl) (by kernel_rfl) (by kernel_rfl) (fun _ _ _ h => h) (by rfl) (fun w => ?_) ?_; rotate_left; (go_simp; first | done | with_reducible rfl); (try simp only [Act.put, List.setIfInBounds_toArray, List.set_cons_zero, List.set_cons_succ])
  refine regS 5 58 (v := ?_) hS rfl rfl (by kernel_rfl) (by kernel_rfl) (by kernel_rfl) (by kernel_rfl) (fun _ _ _ h => h) (by rfl) (fun w hSw => ?_) ?_; rotate_left; (go_simp; first | done | with_reducible rfl); (try simp only [Act.put, List.setIfInBounds_toArray, List.set_cons_zero, List.set_cons_succ])
  refine regA 6 59 (v := ?_) rfl rfl (by kernel_rfl) (by kernel_rfl) (by kernel_rfl) (fun _ _ _ h => h) (by rfl) (fun w => ?_) ?_; rotate_left; (go_simp; first | done | with_reducible rfl); (try simp only [Act.put, List.setIfInBounds_toArray, List.set_cons_zero, List.set_cons_succ])
  refine regA 7 60 (v := ?_) rfl rfl (by kernel_rfl) (by kernel_rfl) (by kernel_rfl) (fun _ _ _ h => h) (by rfl) (fun w => ?_) ?_; rotate_left; (go_simp; first | done | with_reducible rfl); (try simp only [Act.put, List.setIfInBounds_toArray, List.set_cons_zero, List.set_cons_succ])
  refine regA 9 62 (v := ?_) rfl rfl (by kernel_rfl) (by kernel_rfl) (by kernel_rfl) (fun _ _ _ h => h) (by rfl) (fun w => ?_) ?_; rotate_left; (go_simp; first | done | with_reducible rfl); (try simp only [Act.put, List.setIfInBounds_toArray, List.set_cons_zero, List.set_cons_succ])
  refine regA 10 63 (v := ?_) rfl rfl (by kernel_rfl) (by kernel_rfl) (by kernel_rfl) (fun _ _ _ h => h) (by rfl) (fun w => ?_) ?_; rotate_left; (go_simp; first | done | with_reducible rfl); (try simp only [Act.put, List.setIfInBounds_toArray, List.set_cons_zero, List.set_cons_succ])
  refine regA 11 64 (v := ?_) rfl rfl (by kernel_rfl) (by kernel_rfl) (by kernel_rfl) (fun _ _ _ h => h) (by rfl) (fun w => ?_) ?_; rotate_left; (go_simp; first | done | with_reducible rfl); (try simp only [Act.put, List.setIfInBounds_toArray, List.set_cons_zero, List.set_cons_succ])
  refine regS 12 65 (v := ?_) hS rfl rfl (by kernel_rfl) (by kernel_rfl) (by kernel_rfl) (by kernel_rfl) (fun _ _ _ h => h) (by rfl) (fun w hSw => ?_) ?_; rotate_left; (go_simp; first | done | with_reducible rfl); (try simp only [Act.put, List.setIfInBounds_toArray, List.set_cons_zero, List.set_cons_succ])
  refine regA 13 66 (v := ?_) rfl rfl (by kernel_rfl) (by kernel_rfl) (by kernel_rfl) (fun _ _ _ h => h) (by rfl) (fun w => ?_) ?_; rotate_left; (go_simp; first | done | with_reducible rfl); (try simp only [Act.put, List.setIfInBounds_toArray, List.set_cons_zero, List.set_cons_succ])
  refine regA 14 67 (v := ?_) rfl rfl (by kernel_rfl) (by kernel_rfl) (by kernel_rfl) (fun _ _ _ h => h) (by rfl) (fun w => ?_) ?_; rotate_left; (go_simp; first | done | with_reducible rfl); (try simp only [Act.put, List.setIfInBounds_toArray, List.set_cons_zero, List.set_cons_succ])
  refine regA 15 68 (v := ?_) rfl rfl (by kernel_rfl) (by kernel_rfl) (by kernel_rfl) (fun _ _ _ h => h) (by rfl) (fun w => ?_) ?_; rotate_left; (go_simp; first | done | with_reducible rfl); (try simp only [Act.put, List.setIfInBounds_toArray, List.set_cons_zero, List.set_cons_succ])
  have HCL := hid hcl
  clear hsl hsl0 hcl e1
  have HD := hid (trivial : True)
  refine regOnly 1 (by kernel_rfl) rfl rfl (fun K hK => ?_)
  go_simp
  refine hK.out _ _ (fun _ _ => by first | exact l5 | exact Mod.cell (Mod.alloc (Mod.refl [] W5) _) l5 (by simp)) ?_
  clear hK
  (try simp only [Act.put, List.setIfInBounds_toArray, List.set_cons_zero, List.set_cons_succ])
  refine regAbs (fun W' => Mod [] W5 W' ∧ W'.ownsRow 0 39 4 (.slice (some ⟨W5.heap.size, 0, none⟩) 0 0) 0 []) ⟨(by repeat' (first | exact Mod.refl _ _ | assumption | refine Mod.drewN ?_ _ | refine Mod.drew ?_ | refine Mod.alloc ?_ _ | refine Mod.setCell ?_ (by simp) _ | refine Mod.setBlock ?_ (by simp) _)), World.ownsRow_made W5.drew #[] 0 (Nat.zero_le _) (Nat.zero_le _) rfl⟩ ?_
  rintro W2 ⟨hM2, ho2⟩
  have hgt2 := hM2.get hgw5 (by simp)
  refine regOnly 8 (by kernel_rfl) rfl rfl (fun K hK => ?_)
  refine wp_app 61 _ _ 32 rfl rfl 39 im _ 4 40 Try.underlying32 him hzm hsm hym rfl (by omega) (.slice (some ⟨W5.heap.size, 0, none⟩) 0 0) _ _ rfl ho2 ⟨gw, 0, none⟩ k cw (msgCells (L.wait.take k)) rfl (by rw [msgCells_length, List.length_take]; congr 1; omega)
    (by rw [← msgCells_take, ← htw, List.take_take]; exact news_take hgt2 _) (msgCells_one _) (by unfold maxLen; omega) (by omega) ?_
  intro v2 W3 ho3 hq3 hl3 hz3'
  have hlwlt : lw < W5.heap.size := lt_of_block HL5.out.cells
  have hq3' : Mod [W5.heap.size] W2 W3 := hq3
  have hM3 : Mod [] W5 W3 := (hM2.trans' hq3' (fun x hx => .inr (by simp at hx; omega)))
  refine hK.out _ _ (fun _ h => hq3'.cell h (by simp; omega)) ?_
  clear hK
  (try simp only [Act.put, List.setIfInBounds_toArray, List.set_cons_zero, List.set_cons_succ])
  have hgt3 := hM3.get hgw5 (by simp)
  have hl3' : ∀ b, v2.ownBlock = some b → W5.heap.size ≤ b := fun b hb => by rcases hl3 b hb with h1 | h1; (simp [Value.ownBlock] at h1; omega); (have := hM2.size; omega)
  refine regOnly 16 (by kernel_rfl) rfl rfl (fun K hK => ?_)
  refine wp_app 69 _ _ 32 rfl rfl 39 im _ 4 40 Try.underlying32 him hzm hsm hym rfl (by omega) v2 _ _ rfl ho3 ad (L.wait.length - (k + 1)) c' (msgCells (L.wait.drop (k + 1))) rfl (by rw [msgCells_length, List.length_drop])
    (by rw [← msgCells_drop, ← htw]; have := HCL.out W3 hgt3; rw [hsm] at this; exact this) (msgCells_one _) (by unfold maxLen; omega) (by omega) ?_
  intro v3 W4 ho4 hq4 hl5 hz4'
  have hM4 : Mod [] W5 W4 := hM3.trans' hq4 (fun x hx => .inr (hl3' x (by simpa using hx)))
  have hlw4 : lw ∉ v2.ownBlock.toList := own_not fun b hb => by have := hl3' b hb; omega
  refine hK.out _ _ (fun _ h => hq4.cell h hlw4) ?_
  clear hK
  (try simp only [Act.put, List.setIfInBounds_toArray, List.set_cons_zero, List.set_cons_succ])
  have hl4' : ∀ b, v3.ownBlock = some b → W5.heap.size ≤ b := fun b hb => by rcases hl5 b hb with h1 | h1; exact hl3' b h1; (have := hM3.size; omega)
  obtain ⟨g3, cap3, cur3, rfl, _⟩ := row_form ho4 (hz4' (hz3' (by simp)))
  have x4 : W4.cell? ⟨lw, 5, none⟩ = some (.slice (some ⟨gw, 0, none⟩) L.wait.length cw) := hM4.cell l5 (by simp)
  have xf : ∀ i, W4.frozen? ⟨lw, i, none⟩ = false := free_at (hM4.get HL5.out.cells (by simp))
  refine regA 17 70 (v := ?_) rfl rfl (by kernel_rfl) (by kernel_rfl) (by kernel_rfl) (fun _ _ _ h => h) (by rfl) (fun w => ?_) ?_; rotate_left; (go_simp; first | done | with_reducible rfl); (try simp only [Act.put, List.setIfInBounds_toArray, List.set_cons_zero, List.set_cons_succ])
  refine regA 18 71 (v := ?_) rfl rfl (by kernel_rfl) (by kernel_rfl) (by kernel_rfl) (fun _ _ _ h => h) (by rfl) (fun w => ?_) ?_; rotate_left; (go_simp; first | done | with_reducible rfl); (try simp only [Act.put, List.setIfInBounds_toArray, List.set_cons_zero, List.set_cons_succ])
  refine regOnly 19 (by kernel_rfl) rfl rfl (fun K hK => ?_)
  go_simp
  refine hK.out _ _ (fun h => by simp at h) ?_
  clear hK
  (try simp only [Act.put, List.setIfInBounds_toArray, List.set_cons_zero, List.set_cons_succ])
  refine regDone (by kernel_rfl) ?_ _
  go_wp2_with fail
  refine wp_abs (fun W' => (∃ vw3, LawIn W0 W' lw vn vt3 vw3 va pl (cutS L k) ∧ (∀ b, vw3.ownBlock = some b → W5.heap.size ≤ b)) ∧ Mod [lw] W5 W' ∧ W'.heap[W.heap.size]? = some (.cells m.cells.toArray 39 (0, 0))) ⟨⟨_, cut_wait HI5.out hM4 (by simpa using ho4) hl4', hl4'⟩, ?_, ?_⟩ ?_
  · exact Mod.setCell (hM4.mono (by simp)) (by simp) _
  · have := lt_of_block HL.out.cells
    exact get_setCell (hM4.get hB5 (by simp)) (by simp; omega) _
  clear l5 hS HCL hM2 ho2 hgt2 ho3 hq3 hl3 hz3' hlwlt hq3' hM3 hgt3 hl3' hq4 hM4 hlw4 ho4 hl5 hz4' hl4' x4 xf HD
  rintro W6 ⟨⟨vw3, hI6, hvw3⟩, hM6, hB6⟩
  obtain ⟨i, rfl⟩ : ∃ i, dd = i + 1 := ⟨dd - 1, by omega⟩
  rw [show i + 1 - 1 = i from rfl] at hs
  have hL6 := hI6.law
  have hil : i < L.nodes.length := (List.getElem?_eq_some_iff.1 hs).1
  have hib : i < pl.length := by rw [hL6.len]; exact hil
  obtain ⟨nb, nc, ncur, rfl, hnb, hnn', _, hncs, hnt6⟩ := row_form hL6.nodes (by rintro rfl; rcases hL6.nodes.2 with ⟨_, h0⟩ | ⟨g, cap, cur, h0, _⟩; omega; cases h0)
  obtain ⟨p, hp⟩ : ∃ p, pl[i]? = some p := ⟨_, List.getElem?_eq_getElem hib⟩
  have l3 : W6.cell? ⟨lw, 3, none⟩ = some (.slice (some ⟨nb, 0, none⟩) pl.length nc) := by rw [cell_at hL6.cells]; rfl
  have n1 : W6.cell? ⟨nb, i, none⟩ = some (.pointer (some ⟨p.x, 0, none⟩)) := by
    rw [cell_at hnb]
    have e : (pl.map fun p : Loc => Value.pointer (some ⟨p.x, 0, none⟩))[i]? = some (.pointer (some ⟨p.x, 0, none⟩)) := by simp [hp]
    rw [← hnt6, List.getElem?_take] at e
    split at e
    · simpa using e
    · cases e
  have b0 : W6.cell? ⟨W.heap.size, 0, none⟩ = some (.int .i64 m.kind) := by rw [cell_at hB6]; rfl
  have b1 : W6.cell? ⟨W.heap.size, 1, none⟩ = some (.int .i64 m.from_) := by rw [cell_at hB6]; rfl
  have b2 : W6.cell? ⟨W.heap.size, 2, none⟩ = some (.int .i64 m.round) := by rw [cell_at hB6]; rfl
  have b3 : W6.cell? ⟨W.heap.size, 3, none⟩ = some (.string m.val) := by rw [cell_at hB6]; rfl
  have q1 : IntKind.i64.wrap ((i : Int) + 1 - 1) = (i : Int) := by rw [show (i : Int) + 1 - 1 = i from by omega]; exact IntWalk.i64_in _ (by omega)
  have q2 : IntKind.i64.wrap (((i + 1 : Nat) : Int) - 1) = (i : Int) := by rw [show ((i + 1 : Nat) : Int) - 1 = (i : Int) + 1 - 1 from by omega]; exact q1
  have q3 : IntKind.i64.wrap (i : Int) = (i : Int) := by rw [show (i : Int) + 1 - 1 = i from by omega] at q1; exact q1
  have hi0 : (0 : Int) ≤ (i : Int) := Int.natCast_nonneg _
  have hi1 : (i : Int) < (pl.length : Int) := by omega
  have hNi := hL6.node i p s hp hs
  have hx1 : lw ∉ p.foot := hNi.ne hL6.cells (by decide)
  have hx2 : nb ∉ p.foot := hNi.ne hnb (by decide)
  have hx3 : W.heap.size ∉ p.foot := fun h => by have := HL.out.foot_lt (foot_mem hp h); omega
  have hz1 : nb ∉ lw :: (vt3.ownBlock.toList ++ vw3.ownBlock.toList ++ va.ownBlock.toList) := by
    simp only [List.mem_cons, List.mem_append, not_or, Option.mem_toList]
    refine ⟨ne_ty hnb hL6.cells (by decide), ⟨fun h => ?_, fun h => ?_⟩, fun h => ?_⟩
    · obtain ⟨c, hc⟩ := row_block hL6.dest h; exact ne_ty hc hnb (by decide) rfl
    · obtain ⟨c, hc⟩ := row_block hL6.wait h; exact ne_ty hc hnb (by decide) rfl
    · obtain ⟨c, hc⟩ := row_block hL6.all h; exact ne_ty hc hnb (by decide) rfl
  have hz2 : W.heap.size ∉ lw :: (vt3.ownBlock.toList ++ vw3.ownBlock.toList ++ va.ownBlock.toList) := by
    simp only [List.mem_cons, List.mem_append, not_or, Option.mem_toList]
    refine ⟨ne_ty hB6 hL6.cells (by decide), ⟨fun h => ?_, fun h => ?_⟩, fun h => ?_⟩
    · obtain ⟨c, hc⟩ := row_block hL6.dest h; exact ne_ty hc hB6 (by decide) rfl
    · have := hvw3 _ h; have := lt_of_block hB5; omega
    · obtain ⟨c, hc⟩ := row_block HL.out.all h; have := lt_of_block hc; omega
  have htake := take_any W6.drew p s m (hNi.mod0 (Mod.refl _ _).drew) ok
  have hstep := fun (w' : World) (v : Value) (p' : Loc) hn hm hd hx => (hI6.mod0 (Mod.refl [] W6).drew).step (v := v) (W' := w') (p' := p') (s' := (takeS s m).1) (out := (takeS s m).2) hp hn hm hd hx
  have HTAKE := hid htake
  have HSTEP := hid hstep
  have HX := hid (And.intro hx1 (And.intro hx2 hx3))
  have HZ := hid (And.intro hz1 hz2)
  have hle : (cutS L k).dest.length ≤ 1000000 ∧ (cutS L k).wait.length ≤ 1000000 := by
    simp only [cutS, List.length_eraseIdx]
    constructor <;> split <;> omega
  clear hNi hx1 hx2 hx3 hz1 hz2 ok hnt6 hL6 hvw3 htake hstep hI6
  go_region_held3 (fun w' => w'.cell? ⟨lw, 3, none⟩ = some (.slice (some ⟨nb, 0, none⟩) pl.length nc) ∧ w'.cell? ⟨nb, i, none⟩ = some (.pointer (some ⟨p.x, 0, none⟩)) ∧ w'.cell? ⟨W.heap.size, 0, none⟩ = some (.int .i64 m.kind) ∧
      w'.cell? ⟨W.heap.size, 1, none⟩ = some (.int .i64 m.from_) ∧ w'.cell? ⟨W.heap.size, 2, none⟩ = some (.int .i64 m.round) ∧ w'.cell? ⟨W.heap.size, 3, none⟩ = some (.string m.val))
    (first
      | exact ⟨l3, n1, b0, b1, b2, b3⟩
      | exact ⟨hm7.cell l3 HX.out.1, hm7.cell n1 HX.out.2.1, hm7.cell b0 HX.out.2.2, hm7.cell b1 HX.out.2.2, hm7.cell b2 HX.out.2.2, hm7.cell b3 HX.out.2.2⟩
      | exact ⟨(cell_at hL8.cells 3).trans rfl, hm8.cell (hm7.cell n1 HX.out.2.1) HZ.out.1, hm8.cell (hm7.cell b0 HX.out.2.2) HZ.out.2, hm8.cell (hm7.cell b1 HX.out.2.2) HZ.out.2, hm8.cell (hm7.cell b2 HX.out.2.2) HZ.out.2, hm8.cell (hm7.cell b3 HX.out.2.2) HZ.out.2⟩)
    (first
      | (go_at_call 22; refine HTAKE.out.mono ?_; rintro e w' ⟨p', v, rfl, hn7, hms7, hm7, hx7⟩; obtain ⟨hI7, hA7⟩ := HSTEP.out _ _ _ hn7 hms7 hm7 hx7)
      | (go_at_call 26; refine (send_any _ lw _ vt3 vw3 va _ _ _ _ hI7.law hA7 hgood (by have := takeS_few s m; omega) hle.1 hle.2 hall).mono ?_; intro e w' hsp; have hout := hI7.sent hsp; obtain ⟨rfl, vt8, vw8, va8, hL8, hm8, ht8, hw8, ha8⟩ := hsp))
  go_wp2_with fail
  go_end0
  have e : handS L k = sendS { cutS L k with nodes := (cutS L k).nodes.set i (takeS s m).1 } (takeS s m).2 := by simp [handS, hto, hm, stepS, cutS, hs]
  rw [e]
  exact ⟨rfl, hout.2⟩
end Go.Proofs.Ytnpmjpdndhedgaa
