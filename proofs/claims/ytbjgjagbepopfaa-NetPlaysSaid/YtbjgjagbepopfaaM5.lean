/-
  The reference's net, walked: Take. No statement of a claim stands here; each contract names what it asks.
-/
import Derived.Test.YtbjgjagbepopfaaM4
set_option linter.unusedSimpArgs false
namespace Go.Proofs.Ytbjgjagbepopfaa
open Go Go.RowKit Go.ChangeMaps


section
variable {α : Type} {f : α → List Value} {size : Nat}
theorem flat_len (hf : ∀ x, (f x).length = size) (l : List α) : (l.flatMap f).length = l.length * size := by
  induction l with
  | nil => simp
  | cons x l ih => rw [List.flatMap_cons, List.length_append, hf, ih, List.length_cons, Nat.succ_mul, Nat.add_comm]
theorem flat_take (hf : ∀ x, (f x).length = size) (l : List α) (i : Nat) : (l.take i).flatMap f = (l.flatMap f).take (i * size) := by
  induction l generalizing i with
  | nil => simp
  | cons x l ih =>
    cases i with
    | zero => simp
    | succ i =>
      rw [List.take_succ_cons, List.flatMap_cons, List.flatMap_cons, ih, Nat.succ_mul, Nat.add_comm, List.take_append, hf]
      rw [List.take_of_length_le (l := f x) (by rw [hf]; omega), show size + i * size - size = i * size from by omega]
theorem flat_drop (hf : ∀ x, (f x).length = size) (l : List α) (i : Nat) : (l.drop i).flatMap f = (l.flatMap f).drop (i * size) := by
  induction l generalizing i with
  | nil => simp
  | cons x l ih =>
    cases i with
    | zero => simp
    | succ i =>
      rw [List.drop_succ_cons, List.flatMap_cons, ih, Nat.succ_mul, Nat.add_comm, List.drop_append, hf]
      rw [show (f x).drop (size + i * size) = [] from List.drop_eq_nil_of_le (by rw [hf]; omega), show size + i * size - size = i * size from by omega, List.nil_append]
end

theorem item_one : ∀ (l : List RItem), ∀ u ∈ l.flatMap itemC, u.oneCell' = true := by
  intro l u hu
  obtain ⟨e, _, he⟩ := List.mem_flatMap.1 hu
  simp only [itemC, Msg.cells, List.mem_cons, List.not_mem_nil, or_false] at he
  rcases he with rfl | rfl | rfl | rfl | rfl <;> rfl

section
variable {B : Nat} {w : World} {y n : Nat} {s : NetS}
set_option maxRecDepth 20000 in
set_option maxHeartbeats 4000000 in
theorem rtake_any (h : RefAt B w y n s) (hn : n ≤ 5000) (ho : s.Ok) (hb : s.sent ≤ 1000000) (hB : B ≤ w.heap.size) (k : Int) :
    Calls Try.prog 27 #[.pointer (some ⟨y, 0, none⟩), .int .i64 k] w (RefPost B w y n (.tuple #[(s.take k).2.1.v, .int .i64 (s.take k).2.2]) (s.take k).1) := by
  obtain ⟨vl, vc, cl, dn, h, hcl⟩ := h
  have hlen : s.way.length ≤ 5000 := by have := ho.fits; have := ho.room; omega
  have hm0 : Mod [] w (w.alloc rzeroObj) := Mod.alloc (Mod.refl _ _) _
  have hz0 := get_new w rzeroObj
  have h0 := h.mod0 hm0
  have hat := rat_any h0 (by omega) hlen ho.nodup k
  have HA := hid hat
  have H0 := hid (And.intro h0 (And.intro hm0 hz0))
  have H := hid h
  have HO := hid ho
  clear h ho hat h0 hm0 hz0
  go_enter Try.func27, Try.ntmps27
  go_upto_region 2 with (first
    | (go_at_call 42; refine HA.out.mono ?_; rintro e w1 ⟨v, rfl, hv, hm1⟩; have H1 := hid (And.intro hv hm1); clear hv hm1))
  have h1 := H0.out.1.mod0 H1.out.2
  have hm1 : Mod [] w w1 := H0.out.2.1.trans H1.out.2
  have hz1 := H1.out.2.get H0.out.2.2 (by simp)
  generalize hgg : w.heap.size = gz at *
  rcases H1.out.1 with ⟨rfl, hf⟩ | ⟨i, m, st, rfl, hi, hf⟩
  · have hs : s.take k = (s, Msg.zero, 300) := by unfold NetS.take; rw [hf]
    have HS := hid hs
    have z0 := cell_at hz1 0
    have z1 := cell_at hz1 1
    have z2 := cell_at hz1 2
    have z3 := cell_at hz1 3
    have f0 := free_at hz1 0
    have f1 := free_at hz1 1
    have f2 := free_at hz1 2
    have f3 := free_at hz1 3
    have HW := hid (And.intro hm1 (And.intro hz1 h1))
    clear hs hf hm1 hz1 h1
    go_wp2_with fail
    have hq := set4 HW.out.2.1 (.int .i64 0) (.int .i64 0) (.int .i64 0) (.string ⟨#[]⟩)
    have hm := mod4 HW.out.1 (b := gz) (.inr (by omega)) (.int .i64 0) (.int .i64 0) (.int .i64 0) (.string ⟨#[]⟩)
    have hmz := mod4 (Mod.refl [gz] w1) (b := gz) (.inl (by simp)) (.int .i64 0) (.int .i64 0) (.int .i64 0) (.string ⟨#[]⟩)
    have h6 := HW.out.2.2.mod hmz (by simpa using ne_ty HW.out.2.2.cells HW.out.2.1 (by decide)) (fun b hb => by obtain ⟨c, hc⟩ := HW.out.2.2.items.block hb; simpa using ne_ty hc HW.out.2.1 (by decide)) (fun b hb => by obtain ⟨c, hc⟩ := HW.out.2.2.cuts.block hb; simpa using ne_ty hc HW.out.2.1 (by decide))
    generalize ((((w1.setCell ⟨gz, 0, none⟩ (.int .i64 0)).setCell ⟨gz, 1, none⟩ (.int .i64 0)).setCell ⟨gz, 2, none⟩ (.int .i64 0)).setCell ⟨gz, 3, none⟩ (.string ⟨#[]⟩)) = W6 at *
    have q0 := cell_at hq 0
    have q1 := cell_at hq 1
    have q2 := cell_at hq 2
    have q3 := cell_at hq 3
    refine bodyPost_ret (v := .tuple #[.agg #[.int .i64 0, .int .i64 0, .int .i64 0, .string ⟨#[]⟩], .int .i64 300]) (by simp [results, Try.results27, go_sem, q0, q1, q2, q3]) rfl ⟨by rw [HS.out]; rfl, by rw [HS.out]; exact ⟨_, _, _, _, h6, hcl⟩, .of0 hm⟩
  · have hs : s.take k = (s.gone k, m, 0) := by unfold NetS.take; rw [hf]
    have HS := hid hs
    have hil := (List.getElem?_eq_some_iff.1 hi).1
    have herase : s.way.take i ++ s.way.drop (i + 1) = (s.gone k).way := by
      rw [← List.eraseIdx_eq_take_drop_succ, erase_filter HO.out.nodup hi]; rfl
    have HE := hid herase
    obtain ⟨ii, zz, hii, hzz, hss, hyy, hzs⟩ := elemItem.info
    obtain ⟨g, cap, cur, rfl, hg1, hg2, hg3, hg4, hg5⟩ := row_form h1.items.row (by rintro rfl; obtain ⟨a, c, e⟩ := h1.items.form; simp at e; omega)
    have hHg : ∃ c, w1.heap[g]? = some (.cells c 83 (0, 0)) := ⟨_, hg1⟩
    have c6 := h1.all.2.2.2.2.2.2.1
    obtain ⟨g', c', ee, hcells⟩ := h1.items.at (fun _ => rfl) hi
    cases ee
    have y1 : w1.cell? ⟨g, i * 5 + 1, none⟩ = some (.int .i64 m.frm) := hcells 1 _ rfl
    have y2 : w1.cell? ⟨g, i * 5 + 1 + 1, none⟩ = some (.int .i64 m.to) := hcells 2 _ rfl
    have y3 : w1.cell? ⟨g, i * 5 + 1 + 2, none⟩ = some (.int .i64 m.kind) := hcells 3 _ rfl
    have y4 : w1.cell? ⟨g, i * 5 + 1 + 3, none⟩ = some (.string m.body) := hcells 4 _ rfl
    have i0 : (0 : Int) ≤ (i : Int) := Int.natCast_nonneg _
    have i1 : (i : Int) < (s.way.length : Int) := by omega
    have i2 : (i : Int) ≤ 5000 := by omega
    have HW := hid (And.intro hm1 (And.intro hz1 h1))
    have HG := hid hg1
    clear hs hf hcells hi h1 herase hm1 hz1 hg1 hHg
    go_upto_region 5 with fail
    have hmb := HW.out.1.alloc (rmsgObj m)
    have hzb := get_alloc HW.out.2.1 (rmsgObj m)
    have hhb := HW.out.2.2.mod0 ((Mod.refl _ _).alloc (rmsgObj m))
    have hgb := get_alloc HG.out (rmsgObj m)
    have hnb := get_new w1 (rmsgObj m)
    clear y1 y2 y3 y4 c6 HW HG
    unfold rmsgObj at hmb hzb hhb hgb hnb
    generalize (w1.alloc (.cells #[.int .i64 m.frm, .int .i64 m.to, .int .i64 m.kind, .string m.body] 53 (0, 0))) = w2 at *
    generalize w1.heap.size = gm at *
    obtain ⟨ad, c', hsl, hcl2⟩ := slice_from (P := Try.prog) Try.underlying57 hii g s.way.length cap (i + 1) (by omega) hg2 cur (by rw [hg4, hss])
    have hsl0 := fun w => slice_to (P := Try.prog) Try.underlying57 hii g s.way.length cap i (by omega) w
    have ek : ((i + 1 : Nat) : Int) = (i : Int) + 1 := by omega
    rw [ek] at hsl
    have e1 : IntKind.i64.wrap ((i : Int) + 1) = (i : Int) + 1 := IntWalk.i64_in _ (by omega)
    refine wp_region_N (fun w' => w'.cell? ⟨y, 6, none⟩ = some (.slice (some ⟨g, 0, none⟩) s.way.length cap)) (fun j => !(j == 19)) (by kernel_rfl) ?_
    have hS : (fun w' : World => w'.cell? ⟨y, 6, none⟩ = some (.slice (some ⟨g, 0, none⟩) s.way.length cap)) w2.drew := hhb.all.2.2.2.2.2.2.1
    have HWW := hid (And.intro hmb (And.intro hzb (And.intro hhb (And.intro hgb hnb))))
    clear ek hmb hzb hhb hgb hnb
    refine regA 0 22 (v := ?_) rfl rfl (by kernel_rfl) (by kernel_rfl) (by kernel_rfl) (fun _ _ _ h => h) (by rfl) (fun w => ?_) ?_; rotate_left; (go_simp; first | done | with_reducible rfl); (try simp only [Act.put, List.setIfInBounds_toArray, List.set_cons_zero, List.set_cons_succ])
    refine regA 2 24 (v := ?_) rfl rfl (by kernel_rfl) (by kernel_rfl) (by kernel_rfl) (fun _ _ _ h => h) (by rfl) (fun w => ?_) ?_; rotate_left; (go_simp; first | done | with_reducible rfl); (try simp only [Act.put, List.setIfInBounds_toArray, List.set_cons_zero, List.set_cons_succ])
    refine regA 3 25 (v := ?_) rfl rfl (by kernel_rfl) (by kernel_rfl) (by kernel_rfl) (fun _ _ _ h => h) (by rfl) (fun w => ?_) ?_; rotate_left; (go_simp; first | done | with_reducible rfl); (try simp only [Act.put, List.setIfInBounds_toArray, List.set_cons_zero, List.set_cons_succ])
    refine regA 4 26 (v := ?_) rfl rfl (by kernel_rfl) (by kernel_rfl) (by kernel_rfl) (fun _ _ _ h => h) (by rfl) (fun w => ?_) ?_; rotate_left; (go_simp; first | done | with_reducible rfl); (try simp only [Act.put, List.setIfInBounds_toArray, List.set_cons_zero, List.set_cons_succ])
    refine regS 5 27 (v := ?_) hS rfl rfl (by kernel_rfl) (by kernel_rfl) (by kernel_rfl) (by kernel_rfl) (fun _ _ _ h => h) (by rfl) (fun w hSw => ?_) ?_; rotate_left; (go_simp; first | done | with_reducible rfl); (try simp only [Act.put, List.setIfInBounds_toArray, List.set_cons_zero, List.set_cons_succ])
    refine regA 6 28 (v := ?_) rfl rfl (by kernel_rfl) (by kernel_rfl) (by kernel_rfl) (fun _ _ _ h => h) (by rfl) (fun w => ?_) ?_; rotate_left; (go_simp; first | done | with_reducible rfl); (try simp only [Act.put, List.setIfInBounds_toArray, List.set_cons_zero, List.set_cons_succ])
    refine regA 7 29 (v := ?_) rfl rfl (by kernel_rfl) (by kernel_rfl) (by kernel_rfl) (fun _ _ _ h => h) (by rfl) (fun w => ?_) ?_; rotate_left; (go_simp; first | done | with_reducible rfl); (try simp only [Act.put, List.setIfInBounds_toArray, List.set_cons_zero, List.set_cons_succ])
    refine regA 9 31 (v := ?_) rfl rfl (by kernel_rfl) (by kernel_rfl) (by kernel_rfl) (fun _ _ _ h => h) (by rfl) (fun w => ?_) ?_; rotate_left; (go_simp; first | done | with_reducible rfl); (try simp only [Act.put, List.setIfInBounds_toArray, List.set_cons_zero, List.set_cons_succ])
    refine regA 10 32 (v := ?_) rfl rfl (by kernel_rfl) (by kernel_rfl) (by kernel_rfl) (fun _ _ _ h => h) (by rfl) (fun w => ?_) ?_; rotate_left; (go_simp; first | done | with_reducible rfl); (try simp only [Act.put, List.setIfInBounds_toArray, List.set_cons_zero, List.set_cons_succ])
    refine regA 11 33 (v := ?_) rfl rfl (by kernel_rfl) (by kernel_rfl) (by kernel_rfl) (fun _ _ _ h => h) (by rfl) (fun w => ?_) ?_; rotate_left; (go_simp; first | done | with_reducible rfl); (try simp only [Act.put, List.setIfInBounds_toArray, List.set_cons_zero, List.set_cons_succ])
    refine regS 12 34 (v := ?_) hS rfl rfl (by kernel_rfl) (by kernel_rfl) (by kernel_rfl) (by kernel_rfl) (fun _ _ _ h => h) (by rfl) (fun w hSw => ?_) ?_; rotate_left; (go_simp; first | done | with_reducible rfl); (try simp only [Act.put, List.setIfInBounds_toArray, List.set_cons_zero, List.set_cons_succ])
    refine regA 13 35 (v := ?_) rfl rfl (by kernel_rfl) (by kernel_rfl) (by kernel_rfl) (fun _ _ _ h => h) (by rfl) (fun w => ?_) ?_; rotate_left; (go_simp; first | done | with_reducible rfl); (try simp only [Act.put, List.setIfInBounds_toArray, List.set_cons_zero, List.set_cons_succ])
    refine regA 14 36 (v := ?_) rfl rfl (by kernel_rfl) (by kernel_rfl) (by kernel_rfl) (fun _ _ _ h => h) (by rfl) (fun w => ?_) ?_; rotate_left; (go_simp; first | done | with_reducible rfl); (try simp only [Act.put, List.setIfInBounds_toArray, List.set_cons_zero, List.set_cons_succ])
    refine regA 15 37 (v := ?_) rfl rfl (by kernel_rfl) (by kernel_rfl) (by kernel_rfl) (fun _ _ _ h => h) (by rfl) (fun w => ?_) ?_; rotate_left; (go_simp; first | done | with_reducible rfl); (try simp only [Act.put, List.setIfInBounds_toArray, List.set_cons_zero, List.set_cons_succ])
    have HCL := hid hcl2
    clear hsl hsl0 hcl2 e1
    have hmb := HWW.out.1.drew
    have hzb : w2.drew.heap[gz]? = _ := HWW.out.2.1
    have hhb := HWW.out.2.2.1.mod0 (w' := w2.drew) ((Mod.refl _ _).drew)
    have hgb : w2.drew.heap[g]? = _ := HWW.out.2.2.2.1
    have hnb : w2.drew.heap[gm]? = _ := HWW.out.2.2.2.2
    clear HWW
    generalize w2.drew = w3 at *
    have HWW := hid (And.intro hmb (And.intro hzb (And.intro hhb (And.intro hgb hnb))))
    clear hmb hzb hhb hgb hnb
    refine regOnly 1 (by kernel_rfl) rfl rfl (fun K hK => ?_)
    go_simp
    refine hK.out _ _ (fun _ _ => by first | exact hS | exact Mod.cell (Mod.alloc (Mod.refl [] w3) _) hS (by simp)) ?_
    clear hK
    (try simp only [Act.put, List.setIfInBounds_toArray, List.set_cons_zero, List.set_cons_succ])
    have hgy : g ≠ y := ne_ty HWW.out.2.2.2.1 HWW.out.2.2.1.cells (by decide)
    have hgl : g < w3.heap.size := lt_of_block HWW.out.2.2.2.1
    have hyl : y < w3.heap.size := lt_of_block HWW.out.2.2.1.cells
    have ho2 : (w3.alloc (.cells #[] 83)).ownsRow 0 83 5 (.slice (some ⟨w3.heap.size, 0, none⟩) 0 0) 0 [] := World.ownsRow_made w3 #[] 0 (Nat.zero_le _) (Nat.zero_le _) (by simp)
    have hM2 : Mod [] w3 (w3.alloc (.cells #[] 83)) := Mod.alloc (Mod.refl _ _) _
    have hs2 := hM2.cell hS (by simp)
    have hgt2 := hM2.get HWW.out.2.2.2.1 (by simp)
    clear hS
    generalize (w3.alloc (.cells #[] 83)) = w4 at *
    have hitl : ∀ x : RItem, (itemC x).length = 5 := fun _ => rfl
    refine regOnly 8 (by kernel_rfl) rfl rfl (fun K hK => ?_)
    refine wp_app 30 _ _ 57 rfl rfl 83 ii _ 5 48 Try.underlying57 hii hzz hss hyy hzs (by omega) (.slice (some ⟨w3.heap.size, 0, none⟩) 0 0) _ _ rfl ho2 ⟨g, 0, none⟩ i cap ((s.way.take i).flatMap itemC) rfl (by rw [flat_len hitl, List.length_take, Nat.min_eq_left (by omega)])
      (by
        intro j u hu
        rw [flat_take hitl, List.getElem?_take] at hu
        split at hu
        · rw [← hg5, List.getElem?_take] at hu
          split at hu
          · rw [Addr.add_lit, Nat.zero_add, cell_at hgt2]; simpa using hu
          · cases hu
        · cases hu) (item_one _) (by unfold maxLen; omega) (by omega) ?_
    intro v2 w5 ho3 hq3 hl3 hz3
    have hq3' : Mod [w3.heap.size] w4 w5 := hq3
    have hM3 : Mod [] w3 w5 := hM2.trans' hq3' (fun x hx => .inr (by simp at hx; omega))
    have hs3 := hq3'.cell hs2 (by simp; omega)
    have hgt3 := hM3.get HWW.out.2.2.2.1 (by simp)
    refine hK.out _ _ (fun _ _ => hs3) ?_
    clear hK
    (try simp only [Act.put, List.setIfInBounds_toArray, List.set_cons_zero, List.set_cons_succ])
    have hl3' : ∀ b, v2.ownBlock = some b → w3.heap.size ≤ b := fun b hb => by
      rcases hl3 b hb with h1 | h1
      · simp [Value.ownBlock] at h1; omega
      · have := hM2.size; omega
    refine regOnly 16 (by kernel_rfl) rfl rfl (fun K hK => ?_)
    refine wp_app 38 _ _ 57 rfl rfl 83 ii _ 5 48 Try.underlying57 hii hzz hss hyy hzs (by omega) v2 _ _ rfl ho3 ad (s.way.length - (i + 1)) c' ((s.way.drop (i + 1)).flatMap itemC) rfl (by rw [flat_len hitl, List.length_drop])
      (by
        have h0 := HCL.out w5 hgt3
        rw [hss, hg5, ← flat_drop hitl] at h0
        exact h0) (item_one _) (by unfold maxLen; omega) (by omega) ?_
    intro v3 w6 ho4 hq4 hl4 hz4
    have hM4 : Mod [] w3 w6 := hM3.trans' hq4 (fun x hx => .inr (hl3' x (by simpa using hx)))
    have hs4 := hM4.cell (HWW.out.2.2.1.all.2.2.2.2.2.2.1) (by simp)
    refine hK.out _ _ (fun _ _ => hs4) ?_
    clear hK
    (try simp only [Act.put, List.setIfInBounds_toArray, List.set_cons_zero, List.set_cons_succ])
    have hl4' : ∀ b, v3.ownBlock = some b → w3.heap.size ≤ b := fun b hb => by
      rcases hl4 b hb with h1 | h1
      · exact hl3' b h1
      · have := hM3.size; omega
    obtain ⟨a3, n3, k3, rfl⟩ : ∃ a n c, v3 = .slice a n c := by obtain ⟨a, c, e⟩ := row_slice ho4; exact ⟨_, _, _, e⟩
    have hv3 : ItemsAt B w6 (.slice a3 n3 k3) (s.gone k).way := by
      rw [← HE.out]
      have hn3 : 0 + i + (s.way.length - (i + 1)) = (s.way.take i ++ s.way.drop (i + 1)).length := by simp; omega
      rw [hn3, List.nil_append, ← List.flatMap_append] at ho4
      exact ⟨ho4, fun b hb => by have := hl4' b hb; have := HWW.out.1.size; omega⟩
    have f6 := free_at (hM4.get HWW.out.2.2.1.cells (by simp)) 6
    refine regA 17 39 (v := ?_) rfl rfl (by kernel_rfl) (by kernel_rfl) (by kernel_rfl) (fun _ _ _ h => h) (by rfl) (fun w => ?_) ?_; rotate_left; (go_simp; first | done | with_reducible rfl); (try simp only [Act.put, List.setIfInBounds_toArray, List.set_cons_zero, List.set_cons_succ])
    refine regA 18 40 (v := ?_) rfl rfl (by kernel_rfl) (by kernel_rfl) (by kernel_rfl) (fun _ _ _ h => h) (by rfl) (fun w => ?_) ?_; rotate_left; (go_simp; first | done | with_reducible rfl); (try simp only [Act.put, List.setIfInBounds_toArray, List.set_cons_zero, List.set_cons_succ])
    refine regOnly 19 (by kernel_rfl) rfl rfl (fun K hK => ?_)
    go_wp2_with fail
    refine hK.out _ _ (fun h _ => absurd h (by decide)) ?_
    clear hK
    (try simp only [Act.put, List.setIfInBounds_toArray, List.set_cons_zero, List.set_cons_succ])
    refine regDone (by kernel_rfl) ?_ _
    have hfin := HWW.out.2.2.1.setItems hM4 (by simp) (fun _ _ => by simp) (.slice a3 n3 k3) { s with way := (s.gone k).way } hv3 rfl rfl rfl
    have hmf : Mod (refFoot y (.slice (some ⟨g, 0, none⟩) s.way.length cap) vc) w (w6.setCell ⟨y, 6, none⟩ (.slice a3 n3 k3)) := ((HWW.out.1.trans hM4).mono (by simp)).setCell (.inl ((mem_foot y).2 (.inl rfl))) _
    have hzy : gz ≠ y := ne_ty HWW.out.2.1 HWW.out.2.2.1.cells (by decide)
    have hmy : gm ≠ y := ne_ty HWW.out.2.2.2.2 HWW.out.2.2.1.cells (by decide)
    have hzf := get_setCell (hM4.get HWW.out.2.1 (by simp)) (p := ⟨y, 6, none⟩) hzy (.slice a3 n3 k3)
    have hnf := get_setCell (hM4.get HWW.out.2.2.2.2 (by simp)) (p := ⟨y, 6, none⟩) hmy (.slice a3 n3 k3)
    have HF := hid (And.intro hfin (And.intro hmf (And.intro hzf hnf)))
    clear hfin hmf hzf hnf hM4 hM3 hM2 hs4 hs3 hs2 hgt3 hgt2 ho2 ho3 ho4 hq3 hq3' hq4 hl3 hl3' hl4 hl4' hz3 hz4 hv3 f6 HCL HWW hitl
    generalize (w6.setCell ⟨y, 6, none⟩ (.slice a3 n3 k3)) = w7 at *
    have c4 := HF.out.1.all.2.2.2.2.1
    have c4f := HF.out.1.all.2.2.2.2.2.2.2.2 4
    have t0 := HO.out.taken
    have t1 : s.taken ≤ 1000000 := by have h1 := HO.out.sum; have h2 := HO.out.lost; omega
    dsimp only at c4
    go_upto_region 7 with fail
    have h8 := HF.out.1.num 4 (.int .i64 (s.taken + 1)) (s.gone k) rfl (by decide) rfl rfl rfl
    have hm8 := HF.out.2.1.setCell (p := ⟨y, 4, none⟩) (.inl ((mem_foot y).2 (.inl rfl))) (.int .i64 (s.taken + 1))
    have hz8 := get_setCell HF.out.2.2.1 (p := ⟨y, 4, none⟩) hzy (.int .i64 (s.taken + 1))
    have hn8 := get_setCell HF.out.2.2.2 (p := ⟨y, 4, none⟩) hmy (.int .i64 (s.taken + 1))
    clear HF c4 c4f t0 t1
    generalize (w7.setCell ⟨y, 4, none⟩ (.int .i64 (s.taken + 1))) = w8 at *
    have g0 := cell_at hn8 0
    have g1 := cell_at hn8 1
    have g2 := cell_at hn8 2
    have g3 := cell_at hn8 3
    have z0 := cell_at hz8 0
    have z1 := cell_at hz8 1
    have z2 := cell_at hz8 2
    have z3 := cell_at hz8 3
    have f0 := free_at hz8 0
    have f1 := free_at hz8 1
    have f2 := free_at hz8 2
    have f3 := free_at hz8 3
    have HF := hid (And.intro h8 (And.intro hm8 hz8))
    clear h8 hm8 hz8 hn8
    go_wp2_with fail
    have hq := set4 HF.out.2.2 (.int .i64 m.frm) (.int .i64 m.to) (.int .i64 m.kind) (.string m.body)
    have hm := mod4 HF.out.2.1 (b := gz) (.inr (by omega)) (.int .i64 m.frm) (.int .i64 m.to) (.int .i64 m.kind) (.string m.body)
    have hmz := mod4 (Mod.refl [gz] w8) (b := gz) (.inl (by simp)) (.int .i64 m.frm) (.int .i64 m.to) (.int .i64 m.kind) (.string m.body)
    have h9 := HF.out.1.mod hmz (by simpa using ne_ty HF.out.1.cells HF.out.2.2 (by decide)) (fun b hb => by obtain ⟨c, hc⟩ := HF.out.1.items.block hb; simpa using ne_ty hc HF.out.2.2 (by decide)) (fun b hb => by obtain ⟨c, hc⟩ := HF.out.1.cuts.block hb; simpa using ne_ty hc HF.out.2.2 (by decide))
    generalize ((((w8.setCell ⟨gz, 0, none⟩ (.int .i64 m.frm)).setCell ⟨gz, 1, none⟩ (.int .i64 m.to)).setCell ⟨gz, 2, none⟩ (.int .i64 m.kind)).setCell ⟨gz, 3, none⟩ (.string m.body)) = w9 at *
    have q0 := cell_at hq 0
    have q1 := cell_at hq 1
    have q2 := cell_at hq 2
    have q3 := cell_at hq 3
    refine bodyPost_ret (v := .tuple #[.agg #[.int .i64 m.frm, .int .i64 m.to, .int .i64 m.kind, .string m.body], .int .i64 0]) (by simp [results, Try.results27, go_sem, q0, q1, q2, q3]) rfl ⟨by rw [HS.out]; rfl, by rw [HS.out]; exact ⟨_, _, _, _, h9, hcl⟩, H.out.rmod hm⟩
end
end Go.Proofs.Ytbjgjagbepopfaa
