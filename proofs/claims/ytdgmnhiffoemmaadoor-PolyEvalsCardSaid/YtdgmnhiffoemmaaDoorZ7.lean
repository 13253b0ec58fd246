/-
  The reference's wide, Widen. No statement of a claim stands here; each contract names what it asks.
-/
import Derived.Test.YtdgmnhiffoemmaaDoorZ6
set_option linter.unusedSimpArgs false
namespace Go.Proofs.YtdgmnhiffoemmaaDoor
open Go Go.RowKit Go.ChangeMaps

/-- Digits, two by two. -/
def comb : List Nat → List Nat
  | a :: b :: l => (a + b * HB) :: comb l
  | _ => []
theorem comb_dig : ∀ l : List Nat, comb (dig l) = l
  | [] => rfl
  | x :: l => by rw [dig, comb, comb_dig l, Nat.add_comm, Nat.mul_comm, Nat.div_add_mod]
theorem comb_get : ∀ (D : List Nat) (j d0 d1 : Nat), D[2 * j]? = some d0 → D[2 * j + 1]? = some d1 → (comb D)[j]? = some (d0 + d1 * HB)
  | [], j, d0, d1, h, _ => by simp at h
  | [a], j, d0, d1, h, h2 => by
    match j with
    | 0 => simp at h2
    | j + 1 => simp at h2
  | a :: b :: l, j, d0, d1, h, h2 => by
    match j with
    | 0 => simp at h h2; subst h; subst h2; rfl
    | j + 1 =>
      have e1 : 2 * (j + 1) = 2 * j + 1 + 1 := by omega
      rw [e1] at h h2
      rw [comb]
      exact comb_get l j d0 d1 (by simpa using h) (by simpa using h2)
theorem comb_len : ∀ (D : List Nat) (n : Nat), D.length = 2 * n → (comb D).length = n
  | [], n, h => by simp at h; simp [comb]; omega
  | [a], n, h => by simp at h; omega
  | a :: b :: l, n, h => by
    simp at h
    obtain ⟨k, rfl⟩ : ∃ k, n = k + 1 := ⟨n - 1, by omega⟩
    rw [comb, List.length_cons, comb_len l k (by omega)]
theorem zeros8_get {j : Nat} (h : j < 8) : ([0, 0, 0, 0, 0, 0, 0, 0] : List Nat)[j]? = some 0 := by
  match j, h with
  | 0, _ => rfl
  | 1, _ => rfl
  | 2, _ => rfl
  | 3, _ => rfl
  | 4, _ => rfl
  | 5, _ => rfl
  | 6, _ => rfl
  | 7, _ => rfl

def WideRel (D : List Nat) (W : World) (tg : Nat) (gk : Nat) (i : Value) (w : World) : Prop :=
  ∃ j : Nat, i = .int .i64 j ∧ gk + j = 8 ∧ w.heap[tg]? = some (.cells (wcells ((comb D).take j ++ [0, 0, 0, 0, 0, 0, 0, 0].drop j)) 60) ∧ Mod [tg] W w
def WideS (g j d0 d1 : Nat) (w : World) : Prop := w.cell? ⟨g, 2 * j, none⟩ = some (.int .u64 (d0 : Int)) ∧ w.cell? ⟨g, 2 * j + 1, none⟩ = some (.int .u64 (d1 : Int))
theorem WideS.mod {g j d0 d1 : Nat} {w w' : World} {S : List Nat} (h : WideS g j d0 d1 w) (m : Mod S w w') (hn : g ∉ S) : WideS g j d0 d1 w' := ⟨m.cell h.1 hn, m.cell h.2 hn⟩

set_option maxRecDepth 100000 in
set_option maxHeartbeats 1000000 in
theorem rwide (D : List Nat) (hD : D.length = 16) (sD : ∀ d ∈ D, d < HB) {B : Nat} (v : Value) (w : World) (h : Us B w v D) :
    Calls Tryd.prog 44 #[v] w fun e w' => e = .returned (wv (comb D)) ∧ Mod [] w w' := by
  obtain ⟨g, c, cur, rfl, -, hg, hc, hx⟩ := RowOf.at h encU_len (by intro h0; rw [h0] at hD; cases hD)
  rw [hD] at hc ⊢
  have hlen := comb_len D 8 (by omega)
  have HD := hid (And.intro sD (And.intro hg (And.intro hx hlen)))
  have HD2 := hid hD
  clear h sD hg hx hD hlen
  go_enter Tryd.func44, Tryd.ntmps44
  go_upto_block 0 with fail
  refine wp_abs (fun W => W.heap[w.heap.size]? = some (.cells (wcells [0, 0, 0, 0, 0, 0, 0, 0]) 60) ∧ W.heap[w.heap.size + 1]? = some (.cells (wcells [0, 0, 0, 0, 0, 0, 0, 0]) 60) ∧ Mod [] w W)
    ⟨get_alloc (get_new w _) _, two_b w _ _, ((Mod.refl _ _).alloc _).alloc _⟩ ?_
  rintro W ⟨gr, gg, hm⟩
  have hgl : g < w.heap.size := lt_of_block HD.out.2.1
  generalize hta : w.heap.size = ta at *
  generalize htg : ta + 1 = tg at *
  have HM : Hid (Mod [] w W ∧ g < ta ∧ ta < tg ∧ w.heap.size ≤ ta) := ⟨hm, hgl, by omega, by omega⟩
  have HG := hid (And.intro gr gg)
  clear hm gr gg hgl hta htg
  go_wp2_with fail
  go_loopg [4] 8 (fun gk i W' => WideRel D W tg gk i W')
  case atStart => exact ⟨0, rfl, rfl, HG.out.2, Mod.refl _ _⟩
  case round =>
    obtain ⟨j, rfl, hgj, gg, hm⟩ := hrel
    by_cases hj : j < 8
    · have j1 : (j : Int) < 8 := by omega
      have j0 : (0 : Int) ≤ (j : Int) := by omega
      obtain ⟨d0, hd0⟩ : ∃ d, D[2 * j]? = some d := ⟨_, List.getElem?_eq_getElem (by have := HD2.out; omega)⟩
      obtain ⟨d1, hd1⟩ : ∃ d, D[2 * j + 1]? = some d := ⟨_, List.getElem?_eq_getElem (by have := HD2.out; omega)⟩
      have b0 := HD.out.1 d0 (List.mem_of_getElem? hd0)
      have b1 := HD.out.1 d1 (List.mem_of_getElem? hd1)
      have hcg := comb_get D j d0 d1 hd0 hd1
      have hgw : wr.heap[g]? = _ := hm.get (HM.out.1.get HD.out.2.1 (by simp)) (by have := HM.out; rw [List.mem_singleton]; omega)
      have hS0 : WideS g j d0 d1 wr := ⟨by rw [cell_at hgw, ← Nat.mul_one (2 * j)]; exact HD.out.2.2.1 _ _ hd0 0 _ rfl, by rw [cell_at hgw, ← Nat.mul_one (2 * j + 1)]; exact HD.out.2.2.1 _ _ hd1 0 _ rfl⟩
      have e5 : IntKind.i64.wrap (2 * (j : Int)) = 2 * (j : Int) := IntWalk.i64_in _ (by omega)
      have e6 : IntKind.i64.wrap (2 * (j : Int) + 1) = 2 * (j : Int) + 1 := IntWalk.i64_in _ (by omega)
      have i1 : (0 : Int) ≤ 2 * (j : Int) := by omega
      have i2 : 2 * (j : Int) < 16 := by omega
      have i3 : (0 : Int) ≤ 2 * (j : Int) + 1 := by omega
      have i4 : 2 * (j : Int) + 1 < 16 := by omega
      have i5 : (2 * (j : Int)).toNat = 2 * j := by omega
      have i6 : (2 * (j : Int) + 1).toNat = 2 * j + 1 := by omega
      obtain ⟨m1, hm1⟩ : ∃ m, d1 * HB = m := ⟨_, rfl⟩
      have e7 : IntKind.u64.wrap ((d1 : Int) * 4294967296) = (m1 : Int) := by rw [← hm1, show (d1 : Int) * 4294967296 = ((d1 * HB : Nat) : Int) by unfold HB; omega]; exact wrap_small (by unfold HB at b1 ⊢; unfold BB; omega)
      have e8 : IntKind.u64.wrap ((d0 : Int) + (m1 : Int)) = ((d0 + m1 : Nat) : Int) := by rw [show (d0 : Int) + (m1 : Int) = ((d0 + m1 : Nat) : Int) from rfl, ← hm1]; exact wrap_small (by unfold HB at b0 b1 ⊢; unfold BB; omega)
      rw [hm1] at hcg
      obtain ⟨s, hs⟩ : ∃ s, d0 + m1 = s := ⟨_, rfl⟩
      rw [hs] at e8 hcg
      have HN := hid (And.intro gg (And.intro hm (And.intro hcg hgj)))
      have fg := free_at gg j
      have cg := cell_at gg j
      rw [wcells_get, mix_get (by have := HD.out.2.2.2; omega) (zeros8_get hj)] at cg
      simp only [Option.map_some] at cg
      have HF := hid (And.intro fg cg)
      clear gg hm hcg hgj hd0 hd1 b0 b1 hgw hm1 hs fg cg
      go_upto_region 5 with fail
      have hS : WideS g j d0 d1 wr.drew := hS0
      clear hS0
      have hM : Mod [] wr wr.drew := (Mod.refl _ _).drew
      have gg : wr.drew.heap[tg]? = _ := HN.out.1
      have fg : wr.drew.frozen? ⟨tg, j, none⟩ = false := HF.out.1
      have cg : wr.drew.cell? ⟨tg, j, none⟩ = some (.int .u64 ((0 : Nat) : Int)) := HF.out.2
      have hm := HN.out.2.1.drew
      have HQ := hid (And.intro gg hm)
      clear gg hm
      refine wp_region_N (WideS g j d0 d1) (fun i => true) (by kernel_rfl) ?_
      generalize wr.drew = wd at *
      refine regA 0 10 (v := ?_) rfl rfl (by kernel_rfl) (by kernel_rfl) (by kernel_rfl) (fun _ _ _ h => h) (by rfl) (fun w => ?_) ?_; rotate_left; (go_simp; first | done | with_reducible rfl); (try simp only [Act.put, List.setIfInBounds_toArray, List.set_cons_zero, List.set_cons_succ])
      refine regA 1 11 (v := ?_) rfl rfl (by kernel_rfl) (by kernel_rfl) (by kernel_rfl) (fun _ _ _ h => h) (by rfl) (fun w => ?_) ?_; rotate_left; (go_simp; first | done | with_reducible rfl); (try simp only [Act.put, List.setIfInBounds_toArray, List.set_cons_zero, List.set_cons_succ])
      refine regA 2 12 (v := ?_) rfl rfl (by kernel_rfl) (by kernel_rfl) (by kernel_rfl) (fun _ _ _ h => h) (by rfl) (fun w => ?_) ?_; rotate_left; (go_simp; first | done | with_reducible rfl); (try simp only [Act.put, List.setIfInBounds_toArray, List.set_cons_zero, List.set_cons_succ])
      refine regA 3 13 (v := ?_) rfl rfl (by kernel_rfl) (by kernel_rfl) (by kernel_rfl) (fun _ _ _ h => h) (by rfl) (fun w => ?_) ?_; rotate_left; (go_simp; first | done | with_reducible rfl); (try simp only [Act.put, List.setIfInBounds_toArray, List.set_cons_zero, List.set_cons_succ])
      refine regA 4 14 (v := .pointer (some ⟨g, 2 * j, none⟩)) rfl rfl (by kernel_rfl) (by kernel_rfl) (by kernel_rfl) (fun _ _ _ h => h) (by rfl) (fun w => ?_) ?_
      · go_simp
      (try simp only [Act.put, List.setIfInBounds_toArray, List.set_cons_zero, List.set_cons_succ])
      refine regS 5 15 (v := .int .u64 (d0 : Int)) hS rfl rfl (by kernel_rfl) (by kernel_rfl) (by kernel_rfl) (by kernel_rfl) (fun _ _ _ h => h) (by rfl) (fun w hSw => ?_) ?_; (have qc0 := hSw.1; go_simp); (try simp only [Act.put, List.setIfInBounds_toArray, List.set_cons_zero, List.set_cons_succ])
      refine regA 6 16 (v := ?_) rfl rfl (by kernel_rfl) (by kernel_rfl) (by kernel_rfl) (fun _ _ _ h => h) (by rfl) (fun w => ?_) ?_; rotate_left; (go_simp; first | done | with_reducible rfl); (try simp only [Act.put, List.setIfInBounds_toArray, List.set_cons_zero, List.set_cons_succ])
      refine regA 7 17 (v := ?_) rfl rfl (by kernel_rfl) (by kernel_rfl) (by kernel_rfl) (fun _ _ _ h => h) (by rfl) (fun w => ?_) ?_; rotate_left; (go_simp; first | done | with_reducible rfl); (try simp only [Act.put, List.setIfInBounds_toArray, List.set_cons_zero, List.set_cons_succ])
      refine regA 8 18 (v := ?_) rfl rfl (by kernel_rfl) (by kernel_rfl) (by kernel_rfl) (fun _ _ _ h => h) (by rfl) (fun w => ?_) ?_; rotate_left; (go_simp; first | done | with_reducible rfl); (try simp only [Act.put, List.setIfInBounds_toArray, List.set_cons_zero, List.set_cons_succ])
      refine regA 9 19 (v := ?_) rfl rfl (by kernel_rfl) (by kernel_rfl) (by kernel_rfl) (fun _ _ _ h => h) (by rfl) (fun w => ?_) ?_; rotate_left; (go_simp; first | done | with_reducible rfl); (try simp only [Act.put, List.setIfInBounds_toArray, List.set_cons_zero, List.set_cons_succ])
      refine regA 10 20 (v := .pointer (some ⟨g, 2 * j + 1, none⟩)) rfl rfl (by kernel_rfl) (by kernel_rfl) (by kernel_rfl) (fun _ _ _ h => h) (by rfl) (fun w => ?_) ?_
      · go_simp
      (try simp only [Act.put, List.setIfInBounds_toArray, List.set_cons_zero, List.set_cons_succ])
      refine regS 11 21 (v := .int .u64 (d1 : Int)) hS rfl rfl (by kernel_rfl) (by kernel_rfl) (by kernel_rfl) (by kernel_rfl) (fun _ _ _ h => h) (by rfl) (fun w hSw => ?_) ?_; (have qc0 := hSw.2; go_simp); (try simp only [Act.put, List.setIfInBounds_toArray, List.set_cons_zero, List.set_cons_succ])
      refine regA 12 22 (v := ?_) rfl rfl (by kernel_rfl) (by kernel_rfl) (by kernel_rfl) (fun _ _ _ h => h) (by rfl) (fun w => ?_) ?_; rotate_left; (go_simp; first | done | with_reducible rfl); (try simp only [Act.put, List.setIfInBounds_toArray, List.set_cons_zero, List.set_cons_succ])
      refine regA 13 23 (v := ?_) rfl rfl (by kernel_rfl) (by kernel_rfl) (by kernel_rfl) (fun _ _ _ h => h) (by rfl) (fun w => ?_) ?_; rotate_left; (go_simp; first | done | with_reducible rfl); (try simp only [Act.put, List.setIfInBounds_toArray, List.set_cons_zero, List.set_cons_succ])
      refine regA 14 24 (v := .pointer (some ⟨tg, j, none⟩)) rfl rfl (by kernel_rfl) (by kernel_rfl) (by kernel_rfl) (fun _ _ _ h => h) (by rfl) (fun w => ?_) ?_
      · go_simp
      (try simp only [Act.put, List.setIfInBounds_toArray, List.set_cons_zero, List.set_cons_succ])
      clear hS
      refine regOnly 15 (by kernel_rfl) rfl (by rfl) (fun K hK => ?_)
      go_wp2_with fail
      have hset := (Mod.refl [tg] wd).setCell (p := ⟨tg, j, none⟩) (.inl (by simp)) (.int .u64 (s : Int))
      refine hK.out _ _ (fun _ h => h.mod hset (by have := HM.out; rw [List.mem_singleton]; omega)) ?_
      clear hK
      (try simp only [Act.put, List.setIfInBounds_toArray, List.set_cons_zero, List.set_cons_succ])
      refine regDone (by kernel_rfl) ?_ _
      go_wp2_with fail
      obtain ⟨-, -, hcg, hgj⟩ := HN.out
      have gs := get_setCell_self HQ.out.1 j (.int .u64 (s : Int))
      rw [wcells_set, mix_set hcg (zeros8_get hj)] at gs
      go_roundg (gk - 1)
      case measure => omega
      case rel => exact ⟨j + 1, rfl, by omega, gs, HQ.out.2.trans hset⟩
    · have j1 : ¬ (j : Int) < 8 := by omega
      obtain rfl : j = 8 := by omega
      have hlen := HD.out.2.2.2
      rw [List.take_of_length_le (by omega), List.drop_eq_nil_of_le (by simp), List.append_nil] at gg
      obtain ⟨O, hO⟩ : ∃ O, comb D = O := ⟨_, rfl⟩
      rw [hO] at gg hlen
      have HO := hid hO
      clear hO
      obtain ⟨q0, q1, q2, q3, q4, q5, q6, q7, rfl⟩ : ∃ b0 b1 b2 b3 b4 b5 b6 b7, O = [b0, b1, b2, b3, b4, b5, b6, b7] := by
        match O, hlen with
        | [b0, b1, b2, b3, b4, b5, b6, b7], _ => exact ⟨_, _, _, _, _, _, _, _, rfl⟩
      have gr := hm.get HG.out.1 (by have := HM.out; rw [List.mem_singleton]; omega)
      have oc0 := cell_at gg 0; have oc1 := cell_at gg 1; have oc2 := cell_at gg 2; have oc3 := cell_at gg 3; have oc4 := cell_at gg 4; have oc5 := cell_at gg 5; have oc6 := cell_at gg 6; have oc7 := cell_at gg 7; simp only [wcells_get] at oc0 oc1 oc2 oc3 oc4 oc5 oc6 oc7
      have rc0 := cell_at gr 0; have rc1 := cell_at gr 1; have rc2 := cell_at gr 2; have rc3 := cell_at gr 3; have rc4 := cell_at gr 4; have rc5 := cell_at gr 5; have rc6 := cell_at gr 6; have rc7 := cell_at gr 7; simp only [wcells_get] at rc0 rc1 rc2 rc3 rc4 rc5 rc6 rc7
      have rf0 := free_at gr 0; have rf1 := free_at gr 1; have rf2 := free_at gr 2; have rf3 := free_at gr 3; have rf4 := free_at gr 4; have rf5 := free_at gr 5; have rf6 := free_at gr 6; have rf7 := free_at gr 7
      have q := hid (set8_at gr q0 q1 q2 q3 q4 q5 q6 q7)
      have hmm := HM.out.1.trans' hm (fun b hb => .inr (by have := HM.out; rw [List.mem_singleton.1 hb]; omega))
      have HE := hid (set8_mod (b := ta) HM.out.2.2.2 hmm q0 q1 q2 q3 q4 q5 q6 q7)
      clear gg gr hm hmm hgj hlen HD
      go_wp2_with fail
      clear rc0 rc1 rc2 rc3 rc4 rc5 rc6 rc7
      clear rf0 rf1 rf2 rf3 rf4 rf5 rf6 rf7
      have qq := q.out
      have rc0 := cell_at qq 0; have rc1 := cell_at qq 1; have rc2 := cell_at qq 2; have rc3 := cell_at qq 3; have rc4 := cell_at qq 4; have rc5 := cell_at qq 5; have rc6 := cell_at qq 6; have rc7 := cell_at qq 7; simp only [wcells_get] at rc0 rc1 rc2 rc3 rc4 rc5 rc6 rc7
      exact bodyPost_ret (v := .agg #[.int .u64 (q0 : Int), .int .u64 (q1 : Int), .int .u64 (q2 : Int), .int .u64 (q3 : Int), .int .u64 (q4 : Int), .int .u64 (q5 : Int), .int .u64 (q6 : Int), .int .u64 (q7 : Int)]) (by simp [results, Tryd.results44, go_sem, rc0, rc1, rc2, rc3, rc4, rc5, rc6, rc7]) rfl ⟨by rw [HO.out]; rfl, HE.out⟩
end Go.Proofs.YtdgmnhiffoemmaaDoor
