/-
  A credential cache, walked: Put where one goes. No statement of a claim stands here; each contract names what it asks.
-/
import Derived.Test.YteifjbfojjjacaaKaF
set_option linter.unusedSimpArgs false
namespace Go.Proofs.Yteifjbfojjjacaa
open Go Go.RowKit Go.ChangeMaps

/-- What Delete leaves, once it is stored. -/
theorem held_erased {w w4 : World} {x g c : Nat} {room : Int} {l : Tks} {k : Nat} (h : HeldAt w x (.slice (some ⟨g, 0, none⟩) l.length c) room l) (hk : k < l.length)
    (hr : w4.ownsRow 0 50 7 (.slice (some ⟨g, 0, none⟩) (l.length - 1) c) (l.length - 1) (tkCells (l.eraseIdx k))) (hm : Mod [g] w w4) :
    w4.cell? ⟨x, 1, none⟩ = some (.slice (some ⟨g, 0, none⟩) l.length c) ∧ (∀ i, w4.frozen? ⟨x, i, none⟩ = false) ∧
    HeldAt (w4.setCell ⟨x, 1, none⟩ (.slice (some ⟨g, 0, none⟩) (l.length - 1) c)) x (.slice (some ⟨g, 0, none⟩) (l.length - 1) c) room (l.eraseIdx k) ∧ Mod [x, g] w (w4.setCell ⟨x, 1, none⟩ (.slice (some ⟨g, 0, none⟩) (l.length - 1) c)) := by
  have hgx : g ≠ x := h.ne g rfl
  have hc := hm.get h.cells (by simpa using hgx.symm)
  obtain ⟨cg, hcg⟩ := row_block h.row (k := g) rfl
  have hms : Mod [x] w4 (w4.setCell ⟨x, 1, none⟩ (.slice (some ⟨g, 0, none⟩) (l.length - 1) c)) := Mod.setCell (Mod.refl _ _) (by simp) _
  have hel : (l.eraseIdx k).length = l.length - 1 := List.length_eraseIdx_of_lt hk
  refine ⟨cell_at hc 1, free_at hc, ⟨get_setCell_self hc 1 _, ?_, fun p hp => ?_⟩, (hm.mono (by simp)).trans (hms.mono (by simp))⟩
  · rw [hel]
    exact row_mod hr hms (fun q hq => by cases hq; simpa using hgx)
  · have hp' := List.mem_of_mem_eraseIdx hp
    have h1 := row_mod (h.keys p hp') hm ((h.keys p hp').apart (fun b hb => ⟨_, _, (List.mem_singleton.1 hb) ▸ hcg, by decide⟩))
    exact row_mod h1 hms (KeyOwn.apart h1 (fun b hb => ⟨_, _, (List.mem_singleton.1 hb) ▸ hc, by decide⟩))

set_option maxRecDepth 20000 in
set_option maxHeartbeats 2000000 in
theorem put_at (w : World) (x : Nat) (v : Value) (room : Int) (l : Tks) (t : TkS) (kv : Value) (h : HeldAt w x v room l) (hr : 0 < room) (hlen : l.length ≤ 1000) (hk : KeyIn w kv t.key) (hkl : t.key.length ≤ 140737488355328)
    (ht1 : timeOk t.from_ = true) (ht2 : timeOk t.until_ = true) (k : Nat) (hkn : k < l.length) (hat : atS l t.client t.service = (k : Int)) (hkm : ∀ w', Mod (x :: v.ownBlock.toList) w w' → KeyIn w' kv t.key) :
    Calls Try.prog 19 #[.pointer (some ⟨x, 0, none⟩), .agg (t.cells kv).toArray] w fun e w' => e = .returned (.int .i64 0) ∧ ∃ kv' v', HeldAt w' x v' room (l.eraseIdx k ++ [(kv', t)]) ∧ Mod (x :: v.ownBlock.toList) w w' ∧ ∀ q, v'.ownBlock = some q → v.ownBlock = some q ∨ w.heap.size ≤ q := by
  obtain ⟨client, service, key, from_, until_, renew, flags⟩ := t
  simp only [TkS.cells] at *
  have hm1 : Mod [] w (w.alloc (.cells #[.string client, .string service, kv, .int .i64 from_, .int .i64 until_, .int .i64 renew, .int .i64 flags] 50)) := Mod.alloc (Mod.refl _ _) _
  have hbx := get_new w (.cells #[.string client, .string service, kv, .int .i64 from_, .int .i64 until_, .int .i64 renew, .int .i64 flags] 50)
  have c0 : (w.alloc (.cells #[.string client, .string service, kv, .int .i64 from_, .int .i64 until_, .int .i64 renew, .int .i64 flags] 50)).cell? ⟨x, 0, none⟩ = some (.int .i64 room) := cell_at (get_alloc h.cells _) 0
  have b0 := cell_at hbx 0
  have b1 := cell_at hbx 1
  have b3 := cell_at hbx 3
  have b4 := cell_at hbx 4
  simp only [List.getElem?_toArray, List.getElem?_cons_zero, List.getElem?_cons_succ] at b0 b1 b3 b4
  have H := hid h
  have HX0 := hid h.cells
  have HK := hid hk
  have HT := hid (show (timeOk from_ && timeOk until_) = true by rw [ht1, ht2]; rfl)
  have HAT := hid hat
  have hvb : w.heap.size ∉ v.ownBlock.toList := by
    intro hm
    cases hv : v.ownBlock with
    | none => rw [hv] at hm; simp at hm
    | some k =>
      rw [hv] at hm; simp at hm; subst hm
      obtain ⟨c, hc⟩ := row_block H.out.row hv
      exact absurd (lt_of_block hc) (Nat.lt_irrefl _)
  have HVB := hid hvb
  clear hvb
  have HM1 := hid hm1
  have HBX := hid hbx
  have HKL := hid hkl
  clear h hk ht1 ht2 hat hm1 hbx hkl
  go_enter Try.func19, Try.ntmps19
  have htm := times2 (w.alloc (.cells #[.string client, .string service, kv, .int .i64 from_, .int .i64 until_, .int .i64 renew, .int .i64 flags] 50)) from_ until_
  rw [World.size_alloc, HT.out] at htm
  have HTM := hid htm
  have hat2 := at_any ((w.alloc (.cells #[.string client, .string service, kv, .int .i64 from_, .int .i64 until_, .int .i64 renew, .int .i64 flags] 50)).alloc (.cells #[.int .i64 from_, .int .i64 until_] 3)) x room l v client service ((H.out.mod0 (HM1.out.alloc _)).cells) ((H.out.mod0 (HM1.out.alloc _)).row) hlen
  rw [HAT.out] at hat2
  have HA2 := hid hat2
  have bb0 : ((w.alloc (.cells #[.string client, .string service, kv, .int .i64 from_, .int .i64 until_, .int .i64 renew, .int .i64 flags] 50)).alloc (.cells #[.int .i64 from_, .int .i64 until_] 3)).cell? ⟨w.heap.size, 0, none⟩ = some (.string client) := cell_at (get_alloc HBX.out _) 0
  have bb1 : ((w.alloc (.cells #[.string client, .string service, kv, .int .i64 from_, .int .i64 until_, .int .i64 renew, .int .i64 flags] 50)).alloc (.cells #[.int .i64 from_, .int .i64 until_] 3)).cell? ⟨w.heap.size, 1, none⟩ = some (.string service) := cell_at (get_alloc HBX.out _) 1
  clear htm hat2
  go_wp2_with (first
    | (go_at_call 34; refine (his_some _ _ room hr c0).mono ?_; rintro e w' ⟨rfl, rfl⟩)
    | (go_at_call 30; refine HTM.out.mono ?_; rintro e w' ⟨rfl, rfl⟩)
    | (go_at_call 35; refine HA2.out.mono ?_; rintro e w3 ⟨rfl, hm3⟩; have HM3 := hid hm3; clear hm3))
  refine wp_abs (fun W3 => HeldAt W3 x v room l ∧ W3.heap[w.heap.size]? = some (.cells #[.string client, .string service, kv, .int .i64 from_, .int .i64 until_, .int .i64 renew, .int .i64 flags] 50 (0, 0)) ∧ KeyIn W3 kv key ∧ Mod [] w W3) ⟨H.out.mod0 ((HM1.out.alloc _).trans HM3.out), HM3.out.get (get_alloc HBX.out _) (by simp), HK.out.mod ((HM1.out.alloc _).trans HM3.out), (HM1.out.alloc _).trans HM3.out⟩ ?_
  clear c0 b0 b1 b3 b4 bb0 bb1 HTM HA2 HM1 HBX HM3 H HK
  rintro W3 ⟨hH, hB, hK, hM⟩
  have c0 : W3.cell? ⟨x, 0, none⟩ = some (.int .i64 room) := cell_at hH.cells 0
  obtain ⟨g, c, rfl, -⟩ := row_pos hH.row (by omega)
  have c1 : W3.cell? ⟨x, 1, none⟩ = some (.slice (some ⟨g, 0, none⟩) l.length c) := cell_at hH.cells 1
  have k0 : (0 : Int) ≤ (k : Int) := Int.natCast_nonneg _
  have d2 : decide ((k : Int) < 0) = false := by rw [decide_eq_false_iff_not]; omega
  have H := hid hH
  have HB := hid hB
  have HM := hid hM
  clear hH hB hK hM
  go_quiet (fail)
  have hH4 : HeldAt (W3.drewN nq) x (.slice (some ⟨g, 0, none⟩) l.length c) room l := H.out.mod0 (Mod.drewN (Mod.refl _ _) _)
  have hB4 : (W3.drewN nq).heap[w.heap.size]? = some (.cells #[.string client, .string service, kv, .int .i64 from_, .int .i64 until_, .int .i64 renew, .int .i64 flags] 50 (0, 0)) := HB.out
  have hM4 : Mod [] w (W3.drewN nq) := HM.out.drewN _
  clear c0 c1 H HB HM
  generalize W3.drewN nq = WQ at *
  clear W3
  have c1 : WQ.cell? ⟨x, 1, none⟩ = some (.slice (some ⟨g, 0, none⟩) l.length c) := cell_at hH4.cells 1
  have HH5 := hid hH4
  have HB5 := hid hB4
  have HM5 := hid hM4
  clear hH4 hB4 hM4
  go_wp2_with (first
    | (go_at_call 37; refine (delete_any WQ g c l k HH5.out.row hkn hlen (fun p hp => by obtain ⟨a, c, h⟩ := row_slice (HH5.out.keys p hp); exact ⟨a, _, c, h⟩)).mono ?_; rintro e w4 ⟨rfl, hrow4, hm4⟩; have hE := held_erased HH5.out hkn hrow4 hm4; have q1 := hE.1; have qf := hE.2.1; have HE := hid (And.intro hE.2.2 hm4); clear hrow4 hm4 hE))
  have hel : (l.eraseIdx k).length = l.length - 1 := List.length_eraseIdx_of_lt hkn
  have hMX : Mod (x :: (Value.slice (some ⟨g, 0, none⟩) l.length c).ownBlock.toList) w (w4.setCell ⟨x, 1, none⟩ (.slice (some ⟨g, 0, none⟩) (l.length - 1) c)) := (HM5.out.mono (by simp)).trans HE.out.1.2
  have hBX : (w4.setCell ⟨x, 1, none⟩ (.slice (some ⟨g, 0, none⟩) (l.length - 1) c)).heap[w.heap.size]? = some (.cells #[.string client, .string service, kv, .int .i64 from_, .int .i64 until_, .int .i64 renew, .int .i64 flags] 50 (0, 0)) := HE.out.1.2.get HB5.out (by
    intro hm
    rcases List.mem_cons.1 hm with hm | hm
    · have := lt_of_block HX0.out; omega
    · exact HVB.out (by simpa [Value.ownBlock] using hm))
  refine wp_abs (fun W4 => HeldAt W4 x (.slice (some ⟨g, 0, none⟩) (l.length - 1) c) room (l.eraseIdx k) ∧ W4.heap[w.heap.size]? = some (.cells #[.string client, .string service, kv, .int .i64 from_, .int .i64 until_, .int .i64 renew, .int .i64 flags] 50 (0, 0)) ∧ KeyIn W4 kv key ∧ Mod (x :: (Value.slice (some ⟨g, 0, none⟩) l.length c).ownBlock.toList) w W4) ⟨HE.out.1.1, hBX, hkm _ hMX, hMX⟩ ?_
  clear q1 qf hMX hBX HE HH5 HB5 HM5 c1
  rintro W4 ⟨hH, hB, hK, hM⟩
  have hSat : ∀ W5 : World, W5.cell? ⟨x, 1, none⟩ = some (.slice (some ⟨g, 0, none⟩) (l.length - 1) c) → W5.heap[w.heap.size]? = some (.cells #[.string client, .string service, kv, .int .i64 from_, .int .i64 until_, .int .i64 renew, .int .i64 flags] 50 (0, 0)) → (fun w' : World => w'.cell? ⟨x, 1, none⟩ = some (.slice (some ⟨g, 0, none⟩) (l.length - 1) c) ∧ w'.heap[w.heap.size]? = some (.cells #[.string client, .string service, kv, .int .i64 from_, .int .i64 until_, .int .i64 renew, .int .i64 flags] 50 (0, 0)) ∧ w'.cell? ⟨w.heap.size, 0, none⟩ = some (.string client) ∧ w'.cell? ⟨w.heap.size, 1, none⟩ = some (.string service) ∧ w'.cell? ⟨w.heap.size, 2, none⟩ = some (kv) ∧ w'.cell? ⟨w.heap.size, 3, none⟩ = some (.int .i64 from_) ∧ w'.cell? ⟨w.heap.size, 4, none⟩ = some (.int .i64 until_) ∧ w'.cell? ⟨w.heap.size, 5, none⟩ = some (.int .i64 renew) ∧ w'.cell? ⟨w.heap.size, 6, none⟩ = some (.int .i64 flags)) W5 := fun W5 h1 h2 => ⟨h1, h2, cell_at h2 0, cell_at h2 1, cell_at h2 2, cell_at h2 3, cell_at h2 4, cell_at h2 5, cell_at h2 6⟩
  have HSAT := hid hSat
  clear hSat
  have c1 : W4.cell? ⟨x, 1, none⟩ = some (.slice (some ⟨g, 0, none⟩) (l.length - 1) c) := cell_at hH.cells 1
  have H := hid hH
  have HB := hid hB
  have HM := hid hM
  have hown := own_any W4.drew (⟨client, service, key, from_, until_, renew, flags⟩ : TkS) kv (KeyIn.mod hK (Mod.refl _ _).drew) HKL.out
  simp only [TkS.cells] at hown
  have HOWN := hid hown
  clear hH hB hK hM hown
  refine wp_region_N (fun w' : World => w'.cell? ⟨x, 1, none⟩ = some (.slice (some ⟨g, 0, none⟩) (l.length - 1) c) ∧ w'.heap[w.heap.size]? = some (.cells #[.string client, .string service, kv, .int .i64 from_, .int .i64 until_, .int .i64 renew, .int .i64 flags] 50 (0, 0)) ∧ w'.cell? ⟨w.heap.size, 0, none⟩ = some (.string client) ∧ w'.cell? ⟨w.heap.size, 1, none⟩ = some (.string service) ∧ w'.cell? ⟨w.heap.size, 2, none⟩ = some (kv) ∧ w'.cell? ⟨w.heap.size, 3, none⟩ = some (.int .i64 from_) ∧ w'.cell? ⟨w.heap.size, 4, none⟩ = some (.int .i64 until_) ∧ w'.cell? ⟨w.heap.size, 5, none⟩ = some (.int .i64 renew) ∧ w'.cell? ⟨w.heap.size, 6, none⟩ = some (.int .i64 flags)) (fun i => i != 11) (by kernel_rfl) ?_
  have hS : (fun w' : World => w'.cell? ⟨x, 1, none⟩ = some (.slice (some ⟨g, 0, none⟩) (l.length - 1) c) ∧ w'.heap[w.heap.size]? = some (.cells #[.string client, .string service, kv, .int .i64 from_, .int .i64 until_, .int .i64 renew, .int .i64 flags] 50 (0, 0)) ∧ w'.cell? ⟨w.heap.size, 0, none⟩ = some (.string client) ∧ w'.cell? ⟨w.heap.size, 1, none⟩ = some (.string service) ∧ w'.cell? ⟨w.heap.size, 2, none⟩ = some (kv) ∧ w'.cell? ⟨w.heap.size, 3, none⟩ = some (.int .i64 from_) ∧ w'.cell? ⟨w.heap.size, 4, none⟩ = some (.int .i64 until_) ∧ w'.cell? ⟨w.heap.size, 5, none⟩ = some (.int .i64 renew) ∧ w'.cell? ⟨w.heap.size, 6, none⟩ = some (.int .i64 flags)) W4.drew := HSAT.out _ c1 HB.out
  refine regA 0 53 (v := ?_) rfl rfl (by kernel_rfl) (by kernel_rfl) (by kernel_rfl) (fun _ _ _ h => h) (by rfl) (fun w => ?_) ?_; rotate_left; (go_simp; first | done | with_reducible rfl); (try simp only [Act.put, List.setIfInBounds_toArray, List.set_cons_zero, List.set_cons_succ])
  refine regA 1 54 (v := ?_) rfl rfl (by kernel_rfl) (by kernel_rfl) (by kernel_rfl) (fun _ _ _ h => h) (by rfl) (fun w => ?_) ?_; rotate_left; (go_simp; first | done | with_reducible rfl); (try simp only [Act.put, List.setIfInBounds_toArray, List.set_cons_zero, List.set_cons_succ])
  refine regA 2 55 (v := ?_) rfl rfl (by kernel_rfl) (by kernel_rfl) (by kernel_rfl) (fun _ _ _ h => h) (by rfl) (fun w => ?_) ?_; rotate_left; (go_simp; first | done | with_reducible rfl); (try simp only [Act.put, List.setIfInBounds_toArray, List.set_cons_zero, List.set_cons_succ])
  refine regA 3 56 (v := ?_) rfl rfl (by kernel_rfl) (by kernel_rfl) (by kernel_rfl) (fun _ _ _ h => h) (by rfl) (fun w => ?_) ?_; rotate_left; (go_simp; first | done | with_reducible rfl); (try simp only [Act.put, List.setIfInBounds_toArray, List.set_cons_zero, List.set_cons_succ])
  refine regS 4 57 (v := ?_) hS rfl rfl (by kernel_rfl) (by kernel_rfl) (by kernel_rfl) (by kernel_rfl) (fun _ _ _ h => h) (by rfl) (fun w hSw => ?_) ?_; rotate_left; (go_simp; first | done | with_reducible rfl); (try simp only [Act.put, List.setIfInBounds_toArray, List.set_cons_zero, List.set_cons_succ])
  refine regS 5 58 (v := ?_) hS rfl rfl (by kernel_rfl) (by kernel_rfl) (by kernel_rfl) (by kernel_rfl) (fun _ _ _ h => h) (by rfl) (fun w hSw => ?_) ?_; rotate_left; (go_simp; first | done | with_reducible rfl); (try simp only [Act.put, List.setIfInBounds_toArray, List.set_cons_zero, List.set_cons_succ])
  refine regOnly 6 (by kernel_rfl) rfl (by rfl) (fun K hK => ?_)
  go_wp2_with (first
    | (go_at_call 38; refine HOWN.out.mono ?_; rintro e w5 ⟨kv', rfl, hk5⟩))
  have hm5 : Mod [] W4 w5 := (Mod.refl [] W4).drew.trans hk5.2.1
  have hS5 := HSAT.out _ (hm5.cell c1 (by simp)) (hm5.get HB.out (by simp))
  refine hK.out _ _ (fun _ _ => hS5) ?_
  clear hK hS
  (try simp only [Act.put, List.setIfInBounds_toArray, List.set_cons_zero, List.set_cons_succ])
  refine regOnly 7 (by kernel_rfl) rfl (by rfl) (fun K hK => ?_)
  go_wp2_with fail
  have hm6 := Mod.alloc (Mod.refl [] w5) (.cells #[.string client, .string service, kv', .int .i64 from_, .int .i64 until_, .int .i64 renew, .int .i64 flags] 50)
  refine hK.out _ _ (fun _ _ => HSAT.out _ (hm6.cell hS5.1 (by simp)) (hm6.get hS5.2.1 (by simp))) ?_
  clear hK
  (try simp only [Act.put, List.setIfInBounds_toArray, List.set_cons_zero, List.set_cons_succ])
  have hmore := put_more (t := (⟨client, service, key, from_, until_, renew, flags⟩ : TkS)) (H.out.mod0 hm5) hk5.1 (by rw [hel]; omega)
  simp only [TkS.cells] at hmore
  refine regOnly 8 (by kernel_rfl) rfl (by rfl) (fun K hK => ?_)
  refine wp_app_run 61 _ _ 46 rfl rfl (.slice (some ⟨g, 0, none⟩) (l.length - 1) c) _ rfl rfl _ hmore ?_
  rintro v7 w7 ⟨⟨g7, n7, c7, rfl⟩, q1, qf, HKEEP, HX⟩
  refine hK.out _ _ (fun _ _ => HSAT.out _ q1 (HKEEP.out _ _ hS5.2.1 HVB.out)) ?_
  clear hK
  (try simp only [Act.put, List.setIfInBounds_toArray, List.set_cons_zero, List.set_cons_succ])
  refine regA 9 62 (v := ?_) rfl rfl (by kernel_rfl) (by kernel_rfl) (by kernel_rfl) (fun _ _ _ h => h) (by rfl) (fun w => ?_) ?_; rotate_left; (go_simp; first | done | with_reducible rfl); (try simp only [Act.put, List.setIfInBounds_toArray, List.set_cons_zero, List.set_cons_succ])
  refine regA 10 63 (v := ?_) rfl rfl (by kernel_rfl) (by kernel_rfl) (by kernel_rfl) (fun _ _ _ h => h) (by rfl) (fun w => ?_) ?_; rotate_left; (go_simp; first | done | with_reducible rfl); (try simp only [Act.put, List.setIfInBounds_toArray, List.set_cons_zero, List.set_cons_succ])
  refine regOnly 11 (by kernel_rfl) rfl (by rfl) (fun K hK => ?_)
  go_wp2_with fail
  refine hK.out _ _ (fun h _ => absurd h (by decide)) ?_
  clear hK
  (try simp only [Act.put, List.setIfInBounds_toArray, List.set_cons_zero, List.set_cons_succ])
  refine regDone (by kernel_rfl) ?_ _
  go_wp2_with fail
  go_ret
  have hM := HM.out
  refine ⟨rfl, kv', _, HX.out.1, (hM.trans (hm5.mono (by simp))).trans HX.out.2.1, fun q hq => (HX.out.2.2 q hq).imp id (fun h => Nat.le_trans (hM.trans (hm5.mono (by simp))).size h)⟩

set_option maxRecDepth 20000 in
set_option maxHeartbeats 2000000 in
theorem put_full (w : World) (x : Nat) (v : Value) (room : Int) (l : Tks) (t : TkS) (kv : Value) (h : HeldAt w x v room l) (hr : 0 < room) (hlen : l.length ≤ 1000) (hk : KeyIn w kv t.key) (hkl : t.key.length ≤ 140737488355328)
    (ht1 : timeOk t.from_ = true) (ht2 : timeOk t.until_ = true) (k : Nat) (hkn : k < l.length) (hat : atS l t.client t.service = -1) (hroom : (l.length : Int) = room) (hfk : firstS l = k) (hkm : ∀ w', Mod (x :: v.ownBlock.toList) w w' → KeyIn w' kv t.key) :
    Calls Try.prog 19 #[.pointer (some ⟨x, 0, none⟩), .agg (t.cells kv).toArray] w fun e w' => e = .returned (.int .i64 0) ∧ ∃ kv' v', HeldAt w' x v' room (l.eraseIdx k ++ [(kv', t)]) ∧ Mod (x :: v.ownBlock.toList) w w' ∧ ∀ q, v'.ownBlock = some q → v.ownBlock = some q ∨ w.heap.size ≤ q := by
  obtain ⟨client, service, key, from_, until_, renew, flags⟩ := t
  simp only [TkS.cells] at *
  have hm1 : Mod [] w (w.alloc (.cells #[.string client, .string service, kv, .int .i64 from_, .int .i64 until_, .int .i64 renew, .int .i64 flags] 50)) := Mod.alloc (Mod.refl _ _) _
  have hbx := get_new w (.cells #[.string client, .string service, kv, .int .i64 from_, .int .i64 until_, .int .i64 renew, .int .i64 flags] 50)
  have c0 : (w.alloc (.cells #[.string client, .string service, kv, .int .i64 from_, .int .i64 until_, .int .i64 renew, .int .i64 flags] 50)).cell? ⟨x, 0, none⟩ = some (.int .i64 room) := cell_at (get_alloc h.cells _) 0
  have b0 := cell_at hbx 0
  have b1 := cell_at hbx 1
  have b3 := cell_at hbx 3
  have b4 := cell_at hbx 4
  simp only [List.getElem?_toArray, List.getElem?_cons_zero, List.getElem?_cons_succ] at b0 b1 b3 b4
  have H := hid h
  have HX0 := hid h.cells
  have HK := hid hk
  have HT := hid (show (timeOk from_ && timeOk until_) = true by rw [ht1, ht2]; rfl)
  have HAT := hid hat
  have HFK := hid hfk
  clear hfk
  have hvb : w.heap.size ∉ v.ownBlock.toList := by
    intro hm
    cases hv : v.ownBlock with
    | none => rw [hv] at hm; simp at hm
    | some k =>
      rw [hv] at hm; simp at hm; subst hm
      obtain ⟨c, hc⟩ := row_block H.out.row hv
      exact absurd (lt_of_block hc) (Nat.lt_irrefl _)
  have HVB := hid hvb
  clear hvb
  have HM1 := hid hm1
  have HBX := hid hbx
  have HKL := hid hkl
  clear h hk ht1 ht2 hat hm1 hbx hkl
  go_enter Try.func19, Try.ntmps19
  have htm := times2 (w.alloc (.cells #[.string client, .string service, kv, .int .i64 from_, .int .i64 until_, .int .i64 renew, .int .i64 flags] 50)) from_ until_
  rw [World.size_alloc, HT.out] at htm
  have HTM := hid htm
  have hat2 := at_any ((w.alloc (.cells #[.string client, .string service, kv, .int .i64 from_, .int .i64 until_, .int .i64 renew, .int .i64 flags] 50)).alloc (.cells #[.int .i64 from_, .int .i64 until_] 3)) x room l v client service ((H.out.mod0 (HM1.out.alloc _)).cells) ((H.out.mod0 (HM1.out.alloc _)).row) hlen
  rw [HAT.out] at hat2
  have HA2 := hid hat2
  have bb0 : ((w.alloc (.cells #[.string client, .string service, kv, .int .i64 from_, .int .i64 until_, .int .i64 renew, .int .i64 flags] 50)).alloc (.cells #[.int .i64 from_, .int .i64 until_] 3)).cell? ⟨w.heap.size, 0, none⟩ = some (.string client) := cell_at (get_alloc HBX.out _) 0
  have bb1 : ((w.alloc (.cells #[.string client, .string service, kv, .int .i64 from_, .int .i64 until_, .int .i64 renew, .int .i64 flags] 50)).alloc (.cells #[.int .i64 from_, .int .i64 until_] 3)).cell? ⟨w.heap.size, 1, none⟩ = some (.string service) := cell_at (get_alloc HBX.out _) 1
  clear htm hat2
  go_wp2_with (first
    | (go_at_call 34; refine (his_some _ _ room hr c0).mono ?_; rintro e w' ⟨rfl, rfl⟩)
    | (go_at_call 30; refine HTM.out.mono ?_; rintro e w' ⟨rfl, rfl⟩)
    | (go_at_call 35; refine HA2.out.mono ?_; rintro e w3 ⟨rfl, hm3⟩; have HM3 := hid hm3; clear hm3))
  refine wp_abs (fun W3 => HeldAt W3 x v room l ∧ W3.heap[w.heap.size]? = some (.cells #[.string client, .string service, kv, .int .i64 from_, .int .i64 until_, .int .i64 renew, .int .i64 flags] 50 (0, 0)) ∧ KeyIn W3 kv key ∧ Mod [] w W3) ⟨H.out.mod0 ((HM1.out.alloc _).trans HM3.out), HM3.out.get (get_alloc HBX.out _) (by simp), HK.out.mod ((HM1.out.alloc _).trans HM3.out), (HM1.out.alloc _).trans HM3.out⟩ ?_
  clear c0 b0 b1 b3 b4 bb0 bb1 HTM HA2 HM1 HBX HM3 H HK
  rintro W3 ⟨hH, hB, hK, hM⟩
  have c0 : W3.cell? ⟨x, 0, none⟩ = some (.int .i64 room) := cell_at hH.cells 0
  obtain ⟨g, c, rfl, -⟩ := row_pos hH.row (by omega)
  have c1 : W3.cell? ⟨x, 1, none⟩ = some (.slice (some ⟨g, 0, none⟩) l.length c) := cell_at hH.cells 1
  have d1 : ((l.length : Int) == room) = true := by rw [beq_iff_eq]; exact hroom
  have k0 : (0 : Int) ≤ (k : Int) := Int.natCast_nonneg _
  have d2 : decide ((k : Int) < 0) = false := by rw [decide_eq_false_iff_not]; omega
  have H := hid hH
  have HB := hid hB
  have HM := hid hM
  clear hH hB hK hM
  go_quiet (fail)
  have hH4 : HeldAt (W3.drewN nq) x (.slice (some ⟨g, 0, none⟩) l.length c) room l := H.out.mod0 (Mod.drewN (Mod.refl _ _) _)
  have hB4 : (W3.drewN nq).heap[w.heap.size]? = some (.cells #[.string client, .string service, kv, .int .i64 from_, .int .i64 until_, .int .i64 renew, .int .i64 flags] 50 (0, 0)) := HB.out
  have hM4 : Mod [] w (W3.drewN nq) := HM.out.drewN _
  clear c0 c1 H HB HM
  generalize W3.drewN nq = WQ at *
  clear W3
  have HF := hid (first_any WQ x room l _ hH4 hlen (by omega))
  have HH4 := hid hH4
  have HB4 := hid hB4
  have HM4 := hid hM4
  clear hH4 hB4 hM4
  go_wp2_with (first
    | (go_at_call 36; refine HF.out.mono ?_; rw [HFK.out]; rintro e w9 ⟨rfl, hm9⟩; have hH5 := HH4.out.mod0 hm9; have hB5 := hm9.get HB4.out (by simp); have hM5 := HM4.out.trans hm9; have c1 : w9.cell? ⟨x, 1, none⟩ = some (.slice (some ⟨g, 0, none⟩) l.length c) := cell_at hH5.cells 1; have HH5 := hid hH5; have HB5 := hid hB5; have HM5 := hid hM5; clear hm9 hH5 hB5 hM5)
    | (go_at_call 37; refine (delete_any w9 g c l k HH5.out.row hkn hlen (fun p hp => by obtain ⟨a, c, h⟩ := row_slice (HH5.out.keys p hp); exact ⟨a, _, c, h⟩)).mono ?_; rintro e w4 ⟨rfl, hrow4, hm4⟩; have hE := held_erased HH5.out hkn hrow4 hm4; have q1 := hE.1; have qf := hE.2.1; have HE := hid (And.intro hE.2.2 hm4); clear hrow4 hm4 hE))
  have hel : (l.eraseIdx k).length = l.length - 1 := List.length_eraseIdx_of_lt hkn
  have hMX : Mod (x :: (Value.slice (some ⟨g, 0, none⟩) l.length c).ownBlock.toList) w (w4.setCell ⟨x, 1, none⟩ (.slice (some ⟨g, 0, none⟩) (l.length - 1) c)) := (HM5.out.mono (by simp)).trans HE.out.1.2
  have hBX : (w4.setCell ⟨x, 1, none⟩ (.slice (some ⟨g, 0, none⟩) (l.length - 1) c)).heap[w.heap.size]? = some (.cells #[.string client, .string service, kv, .int .i64 from_, .int .i64 until_, .int .i64 renew, .int .i64 flags] 50 (0, 0)) := HE.out.1.2.get HB5.out (by
    intro hm
    rcases List.mem_cons.1 hm with hm | hm
    · have := lt_of_block HX0.out; omega
    · exact HVB.out (by simpa [Value.ownBlock] using hm))
  refine wp_abs (fun W4 => HeldAt W4 x (.slice (some ⟨g, 0, none⟩) (l.length - 1) c) room (l.eraseIdx k) ∧ W4.heap[w.heap.size]? = some (.cells #[.string client, .string service, kv, .int .i64 from_, .int .i64 until_, .int .i64 renew, .int .i64 flags] 50 (0, 0)) ∧ KeyIn W4 kv key ∧ Mod (x :: (Value.slice (some ⟨g, 0, none⟩) l.length c).ownBlock.toList) w W4) ⟨HE.out.1.1, hBX, hkm _ hMX, hMX⟩ ?_
  clear q1 qf hMX hBX HE HH5 HB5 HM5 c1
  rintro W4 ⟨hH, hB, hK, hM⟩
  have hSat : ∀ W5 : World, W5.cell? ⟨x, 1, none⟩ = some (.slice (some ⟨g, 0, none⟩) (l.length - 1) c) → W5.heap[w.heap.size]? = some (.cells #[.string client, .string service, kv, .int .i64 from_, .int .i64 until_, .int .i64 renew, .int .i64 flags] 50 (0, 0)) → (fun w' : World => w'.cell? ⟨x, 1, none⟩ = some (.slice (some ⟨g, 0, none⟩) (l.length - 1) c) ∧ w'.heap[w.heap.size]? = some (.cells #[.string client, .string service, kv, .int .i64 from_, .int .i64 until_, .int .i64 renew, .int .i64 flags] 50 (0, 0)) ∧ w'.cell? ⟨w.heap.size, 0, none⟩ = some (.string client) ∧ w'.cell? ⟨w.heap.size, 1, none⟩ = some (.string service) ∧ w'.cell? ⟨w.heap.size, 2, none⟩ = some (kv) ∧ w'.cell? ⟨w.heap.size, 3, none⟩ = some (.int .i64 from_) ∧ w'.cell? ⟨w.heap.size, 4, none⟩ = some (.int .i64 until_) ∧ w'.cell? ⟨w.heap.size, 5, none⟩ = some (.int .i64 renew) ∧ w'.cell? ⟨w.heap.size, 6, none⟩ = some (.int .i64 flags)) W5 := fun W5 h1 h2 => ⟨h1, h2, cell_at h2 0, cell_at h2 1, cell_at h2 2, cell_at h2 3, cell_at h2 4, cell_at h2 5, cell_at h2 6⟩
  have HSAT := hid hSat
  clear hSat
  have c1 : W4.cell? ⟨x, 1, none⟩ = some (.slice (some ⟨g, 0, none⟩) (l.length - 1) c) := cell_at hH.cells 1
  have H := hid hH
  have HB := hid hB
  have HM := hid hM
  have hown := own_any W4.drew (⟨client, service, key, from_, until_, renew, flags⟩ : TkS) kv (KeyIn.mod hK (Mod.refl _ _).drew) HKL.out
  simp only [TkS.cells] at hown
  have HOWN := hid hown
  clear hH hB hK hM hown
  refine wp_region_N (fun w' : World => w'.cell? ⟨x, 1, none⟩ = some (.slice (some ⟨g, 0, none⟩) (l.length - 1) c) ∧ w'.heap[w.heap.size]? = some (.cells #[.string client, .string service, kv, .int .i64 from_, .int .i64 until_, .int .i64 renew, .int .i64 flags] 50 (0, 0)) ∧ w'.cell? ⟨w.heap.size, 0, none⟩ = some (.string client) ∧ w'.cell? ⟨w.heap.size, 1, none⟩ = some (.string service) ∧ w'.cell? ⟨w.heap.size, 2, none⟩ = some (kv) ∧ w'.cell? ⟨w.heap.size, 3, none⟩ = some (.int .i64 from_) ∧ w'.cell? ⟨w.heap.size, 4, none⟩ = some (.int .i64 until_) ∧ w'.cell? ⟨w.heap.size, 5, none⟩ = some (.int .i64 renew) ∧ w'.cell? ⟨w.heap.size, 6, none⟩ = some (.int .i64 flags)) (fun i => i != 11) (by kernel_rfl) ?_
  have hS : (fun w' : World => w'.cell? ⟨x, 1, none⟩ = some (.slice (some ⟨g, 0, none⟩) (l.length - 1) c) ∧ w'.heap[w.heap.size]? = some (.cells #[.string client, .string service, kv, .int .i64 from_, .int .i64 until_, .int .i64 renew, .int .i64 flags] 50 (0, 0)) ∧ w'.cell? ⟨w.heap.size, 0, none⟩ = some (.string client) ∧ w'.cell? ⟨w.heap.size, 1, none⟩ = some (.string service) ∧ w'.cell? ⟨w.heap.size, 2, none⟩ = some (kv) ∧ w'.cell? ⟨w.heap.size, 3, none⟩ = some (.int .i64 from_) ∧ w'.cell? ⟨w.heap.size, 4, none⟩ = some (.int .i64 until_) ∧ w'.cell? ⟨w.heap.size, 5, none⟩ = some (.int .i64 renew) ∧ w'.cell? ⟨w.heap.size, 6, none⟩ = some (.int .i64 flags)) W4.drew := HSAT.out _ c1 HB.out
  refine regA 0 53 (v := ?_) rfl rfl (by kernel_rfl) (by kernel_rfl) (by kernel_rfl) (fun _ _ _ h => h) (by rfl) (fun w => ?_) ?_; rotate_left; (go_simp; first | done | with_reducible rfl); (try simp only [Act.put, List.setIfInBounds_toArray, List.set_cons_zero, List.set_cons_succ])
  refine regA 1 54 (v := ?_) rfl rfl (by kernel_rfl) (by kernel_rfl) (by kernel_rfl) (fun _ _ _ h => h) (by rfl) (fun w => ?_) ?_; rotate_left; (go_simp; first | done | with_reducible rfl); (try simp only [Act.put, List.setIfInBounds_toArray, List.set_cons_zero, List.set_cons_succ])
  refine regA 2 55 (v := ?_) rfl rfl (by kernel_rfl) (by kernel_rfl) (by kernel_rfl) (fun _ _ _ h => h) (by rfl) (fun w => ?_) ?_; rotate_left; (go_simp; first | done | with_reducible rfl); (try simp only [Act.put, List.setIfInBounds_toArray, List.set_cons_zero, List.set_cons_succ])
  refine regA 3 56 (v := ?_) rfl rfl (by kernel_rfl) (by kernel_rfl) (by kernel_rfl) (fun _ _ _ h => h) (by rfl) (fun w => ?_) ?_; rotate_left; (go_simp; first | done | with_reducible rfl); (try simp only [Act.put, List.setIfInBounds_toArray, List.set_cons_zero, List.set_cons_succ])
  refine regS 4 57 (v := ?_) hS rfl rfl (by kernel_rfl) (by kernel_rfl) (by kernel_rfl) (by kernel_rfl) (fun _ _ _ h => h) (by rfl) (fun w hSw => ?_) ?_; rotate_left; (go_simp; first | done | with_reducible rfl); (try simp only [Act.put, List.setIfInBounds_toArray, List.set_cons_zero, List.set_cons_succ])
  refine regS 5 58 (v := ?_) hS rfl rfl (by kernel_rfl) (by kernel_rfl) (by kernel_rfl) (by kernel_rfl) (fun _ _ _ h => h) (by rfl) (fun w hSw => ?_) ?_; rotate_left; (go_simp; first | done | with_reducible rfl); (try simp only [Act.put, List.setIfInBounds_toArray, List.set_cons_zero, List.set_cons_succ])
  refine regOnly 6 (by kernel_rfl) rfl (by rfl) (fun K hK => ?_)
  go_wp2_with (first
    | (go_at_call 38; refine HOWN.out.mono ?_; rintro e w5 ⟨kv', rfl, hk5⟩))
  have hm5 : Mod [] W4 w5 := (Mod.refl [] W4).drew.trans hk5.2.1
  have hS5 := HSAT.out _ (hm5.cell c1 (by simp)) (hm5.get HB.out (by simp))
  refine hK.out _ _ (fun _ _ => hS5) ?_
  clear hK hS
  (try simp only [Act.put, List.setIfInBounds_toArray, List.set_cons_zero, List.set_cons_succ])
  refine regOnly 7 (by kernel_rfl) rfl (by rfl) (fun K hK => ?_)
  go_wp2_with fail
  have hm6 := Mod.alloc (Mod.refl [] w5) (.cells #[.string client, .string service, kv', .int .i64 from_, .int .i64 until_, .int .i64 renew, .int .i64 flags] 50)
  refine hK.out _ _ (fun _ _ => HSAT.out _ (hm6.cell hS5.1 (by simp)) (hm6.get hS5.2.1 (by simp))) ?_
  clear hK
  (try simp only [Act.put, List.setIfInBounds_toArray, List.set_cons_zero, List.set_cons_succ])
  have hmore := put_more (t := (⟨client, service, key, from_, until_, renew, flags⟩ : TkS)) (H.out.mod0 hm5) hk5.1 (by rw [hel]; omega)
  simp only [TkS.cells] at hmore
  refine regOnly 8 (by kernel_rfl) rfl (by rfl) (fun K hK => ?_)
  refine wp_app_run 61 _ _ 46 rfl rfl (.slice (some ⟨g, 0, none⟩) (l.length - 1) c) _ rfl rfl _ hmore ?_
  rintro v7 w7 ⟨⟨g7, n7, c7, rfl⟩, q1, qf, HKEEP, HX⟩
  refine hK.out _ _ (fun _ _ => HSAT.out _ q1 (HKEEP.out _ _ hS5.2.1 HVB.out)) ?_
  clear hK
  (try simp only [Act.put, List.setIfInBounds_toArray, List.set_cons_zero, List.set_cons_succ])
  refine regA 9 62 (v := ?_) rfl rfl (by kernel_rfl) (by kernel_rfl) (by kernel_rfl) (fun _ _ _ h => h) (by rfl) (fun w => ?_) ?_; rotate_left; (go_simp; first | done | with_reducible rfl); (try simp only [Act.put, List.setIfInBounds_toArray, List.set_cons_zero, List.set_cons_succ])
  refine regA 10 63 (v := ?_) rfl rfl (by kernel_rfl) (by kernel_rfl) (by kernel_rfl) (fun _ _ _ h => h) (by rfl) (fun w => ?_) ?_; rotate_left; (go_simp; first | done | with_reducible rfl); (try simp only [Act.put, List.setIfInBounds_toArray, List.set_cons_zero, List.set_cons_succ])
  refine regOnly 11 (by kernel_rfl) rfl (by rfl) (fun K hK => ?_)
  go_wp2_with fail
  refine hK.out _ _ (fun h _ => absurd h (by decide)) ?_
  clear hK
  (try simp only [Act.put, List.setIfInBounds_toArray, List.set_cons_zero, List.set_cons_succ])
  refine regDone (by kernel_rfl) ?_ _
  go_wp2_with fail
  go_ret
  have hM := HM.out
  refine ⟨rfl, kv', _, HX.out.1, (hM.trans (hm5.mono (by simp))).trans HX.out.2.1, fun q hq => (HX.out.2.2 q hq).imp id (fun h => Nat.le_trans (hM.trans (hm5.mono (by simp))).size h)⟩
end Go.Proofs.Yteifjbfojjjacaa
