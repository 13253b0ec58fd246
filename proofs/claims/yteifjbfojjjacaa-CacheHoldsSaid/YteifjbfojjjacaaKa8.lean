/-
  A credential cache, walked: Put of a ticket that is new, where there is room. No statement of a claim stands here; each contract names what it asks.
-/
import Derived.Test.YteifjbfojjjacaaKa7
set_option linter.unusedSimpArgs false
namespace Go.Proofs.Yteifjbfojjjacaa
open Go Go.RowKit Go.ChangeMaps

theorem wp_app_run {P : Program} {o : Oper} {a : Act} {Q : Exit → Act → World → Prop} {w : World} {K : Act → World → Prop} (d : Nat) (s x : Operand) (t : TypeId) (hd : o.dst = some d)
    (ho : o.op = .call { callee := .builtin .append, args := #[s, x], argTypes := #[t, t] }) (v y : Value) (hs : a.eval s = v) (hx : a.eval x = y) (R : Value → World → Prop)
    (hr : ∃ v' w', (Builtin.append_ #[t, t] o.type #[v, y]).run P w = .ok v' w' ∧ R v' w') (h : ∀ v' w', R v' w' → K (a.put (some d) v') w') : o.wp P a w K Q := by
  obtain ⟨v', w', hr, hR⟩ := hr
  unfold Oper.wp execOp
  simp only [ho, resolve, invoke, builtin, Sem.run_bind, Sem.run_pure, Result.andThen_ok, List.map_toArray, List.map_cons, List.map_nil, hs, hx, hr]
  have := h v' w' hR
  rw [← hd] at this
  exact this

theorem elemTk : Elem Try.prog 46 50 7 88 :=
  Elem.of (z := .agg #[.string ⟨#[]⟩, .string ⟨#[]⟩, .slice none 0 0, .int .i64 0, .int .i64 0, .int .i64 0, .int .i64 0]) Try.underlying46 (by kernel_rfl) rfl (by decide)

/-- Block x is a credential cache. -/
structure HeldAt (w : World) (x : Nat) (v : Value) (room : Int) (l : Tks) : Prop where
  cells : w.heap[x]? = some (.cells #[.int .i64 room, v] 69 (0, 0))
  row : w.ownsRow 0 50 7 v l.length (tkCells l)
  keys : ∀ p ∈ l, KeyOwn w p.1 p.2.key

theorem KeyOwn.mod0 {w w' : World} {kv : Value} {k : List Nat} (h : KeyOwn w kv k) (m : Mod [] w w') : KeyOwn w' kv k := row_mod h m (by simp)
theorem HeldAt.mod0 {w w' : World} {x : Nat} {v : Value} {room : Int} {l : Tks} (h : HeldAt w x v room l) (m : Mod [] w w') : HeldAt w' x v room l :=
  ⟨m.get h.cells (by simp), row_mod h.row m (by simp), fun p hp => (h.keys p hp).mod0 m⟩
theorem HeldAt.ne {w : World} {x : Nat} {v : Value} {room : Int} {l : Tks} (h : HeldAt w x v room l) : ∀ k, v.ownBlock = some k → k ≠ x := fun k hk => by
  obtain ⟨c, hc⟩ := row_block h.row hk
  exact ne_ty hc h.cells (by decide)
/-- A key's block is no row of tickets, and no cache. -/
theorem KeyOwn.apart {w : World} {kv : Value} {k : List Nat} (h : KeyOwn w kv k) {S : List Nat} (hS : ∀ b ∈ S, ∃ c T, w.heap[b]? = some (.cells c T (0, 0)) ∧ T ≠ 5) : ∀ q, kv.ownBlock = some q → q ∉ S := fun q hq hm => by
  obtain ⟨c, T, hb, hT⟩ := hS q hm
  obtain ⟨c', hc'⟩ := row_block h hq
  exact ne_ty hc' hb hT.symm rfl

theorem put_more {w : World} {x : Nat} {v kv : Value} {room : Int} {l : Tks} {t : TkS} (h : HeldAt w x v room l) (hk : KeyOwn w kv t.key) (hl : l.length ≤ 1000) :
    ∃ v' w', (Builtin.append_ #[46, 46] 46 #[v, .slice (some ⟨w.heap.size, 0, none⟩) 1 1]).run Try.prog (w.alloc (.cells (t.cells kv).toArray 50)) = .ok v' w' ∧
      ((∃ g n c', v' = .slice (some ⟨g, 0, none⟩) n c') ∧ w'.cell? ⟨x, 1, none⟩ = some v ∧ w'.frozen? ⟨x, 1, none⟩ = false ∧
       Hid (∀ (b : Nat) (o : Obj), w.heap[b]? = some o → b ∉ v.ownBlock.toList → w'.heap[b]? = some o) ∧
       Hid (HeldAt (w'.setCell ⟨x, 1, none⟩ v') x v' room (l ++ [(kv, t)]) ∧ Mod (x :: v.ownBlock.toList) w (w'.setCell ⟨x, 1, none⟩ v') ∧ ∀ k, v'.ownBlock = some k → v.ownBlock = some k ∨ w.heap.size ≤ k)) := by
  have h1 := h.mod0 (Mod.alloc (Mod.refl [] w) (.cells (t.cells kv).toArray 50))
  obtain ⟨v', w', hrun, ho, hm', hk', g, c', hform⟩ := elemTk.app (w.alloc (.cells (t.cells kv).toArray 50)) 46 v l.length _ h1.row w.heap.size 1 _ _ _ (get_new w _) rfl (by
    intro u hu
    simp only [TkS.cells, List.mem_cons, List.not_mem_nil, or_false, List.toList_toArray] at hu
    obtain ⟨a, c, rfl⟩ := row_slice hk
    rcases hu with rfl | rfl | rfl | rfl | rfl | rfl | rfl <;> rfl) (by unfold maxLen; omega) (by omega)
  have hxv : x ∉ v.ownBlock.toList := by
    intro hm
    cases hv : v.ownBlock with
    | none => rw [hv] at hm; simp at hm
    | some k => rw [hv] at hm; simp at hm; exact h.ne k hv hm.symm
  have hc := hm'.get h1.cells hxv
  have hrow : w'.ownsRow 0 50 7 v' (l ++ [(kv, t)]).length (tkCells (l ++ [(kv, t)])) := by
    rw [tkCells_append, List.length_append]
    simpa [tkCells] using ho
  have hmS : Mod (x :: v.ownBlock.toList) w (w'.setCell ⟨x, 1, none⟩ v') := Mod.setCell (((Mod.alloc (Mod.refl _ w) _).trans (hm'.mono (fun y hy => .inl (List.mem_cons_of_mem _ hy))))) (by simp) _
  have hap : ∀ b ∈ x :: v.ownBlock.toList, ∃ c T, w.heap[b]? = some (.cells c T (0, 0)) ∧ T ≠ 5 := fun b hb => by
    rcases List.mem_cons.1 hb with rfl | hb
    · exact ⟨_, _, h.cells, by decide⟩
    · obtain ⟨c, hc⟩ := row_block h.row (k := b) (by simpa using hb)
      exact ⟨c, _, hc, by decide⟩
  refine ⟨v', w', hrun, ⟨g, _, c', hform⟩, cell_at hc 1, free_at hc 1, hid (fun b o hb hn => hm'.get (get_alloc hb _) hn), hid ⟨⟨get_setCell_self hc 1 v', ?_, fun p hp => ?_⟩, hmS, fun k hk2 => ?_⟩⟩
  · refine row_mod hrow (Mod.setCell (Mod.refl [x] w') (by simp) v') (fun k hk2 => ?_)
    obtain ⟨c, hcc⟩ := row_block hrow hk2
    simpa using ne_ty hcc hc (by decide)
  · rcases List.mem_append.1 hp with hp | hp
    · exact row_mod (h.keys p hp) hmS ((h.keys p hp).apart hap)
    · rw [List.mem_singleton.1 hp]
      exact row_mod hk hmS (hk.apart hap)
  · rcases hk' k hk2 with h3 | h3
    · exact .inl h3
    · right; simp at h3; omega

set_option maxRecDepth 20000 in
set_option maxHeartbeats 1600000 in
theorem put_new (w : World) (x : Nat) (v : Value) (room : Int) (l : Tks) (t : TkS) (kv : Value) (h : HeldAt w x v room l) (hr : 0 < room) (hlen : l.length ≤ 1000) (hk : KeyIn w kv t.key) (hkl : t.key.length ≤ 140737488355328)
    (ht1 : timeOk t.from_ = true) (ht2 : timeOk t.until_ = true) (hat : atS l t.client t.service = -1) (hroom : (l.length : Int) ≠ room) :
    Calls Try.prog 19 #[.pointer (some ⟨x, 0, none⟩), .agg (t.cells kv).toArray] w fun e w' => e = .returned (.int .i64 0) ∧ ∃ kv' v', HeldAt w' x v' room (l ++ [(kv', t)]) ∧ Mod (x :: v.ownBlock.toList) w w' ∧ ∀ k, v'.ownBlock = some k → v.ownBlock = some k ∨ w.heap.size ≤ k := by
  obtain ⟨client, service, key, from_, until_, renew, flags⟩ := t
  simp only [TkS.cells] at *
  have hm1 : Mod [] w (w.alloc (.cells #[.string client, .string service, kv, .int .i64 from_, .int .i64 until_, .int .i64 renew, .int .i64 flags] 50)) := Mod.alloc (Mod.refl _ _) _
  have hbx := get_new w (.cells #[.string client, .string service, kv, .int .i64 from_, .int .i64 until_, .int .i64 renew, .int .i64 flags] 50)
  have c0 : (w.alloc (.cells #[.string client, .string service, kv, .int .i64 from_, .int .i64 until_, .int .i64 renew, .int .i64 flags] 50)).cell? ⟨x, 0, none⟩ = some (.int .i64 room) := cell_at (get_alloc h.cells _) 0
  have b0 := cell_at hbx 0
  have b1 := cell_at hbx 1
  have b3 := cell_at hbx 3
  have b4 := cell_at hbx 4
  simp only [List.getElem?_toArray, List.getElem?_cons_zero, List.getElem?_cons_succ] at b0 b1 b3 b4
  have H := hid h
  have HK := hid hk
  have HT := hid (show (timeOk from_ && timeOk until_) = true by rw [ht1, ht2]; rfl)
  have HAT := hid hat
  have hvb : w.heap.size ∉ v.ownBlock.toList := by
    intro hm
    cases hv : v.ownBlock with
    | none => rw [hv] at hm; simp at hm
    | some k =>
      rw [hv] at hm; simp at hm; subst hm
      obtain ⟨c, hc⟩ := row_block H.out.row hv
      exact absurd (lt_of_block hc) (Nat.lt_irrefl _)
  have HVB := hid hvb
  clear hvb
  have HM1 := hid hm1
  have HBX := hid hbx
  have HKL := hid hkl
  clear h hk ht1 ht2 hat hm1 hbx hkl
  go_enter Try.func19, Try.ntmps19
  have htm := times2 (w.alloc (.cells #[.string client, .string service, kv, .int .i64 from_, .int .i64 until_, .int .i64 renew, .int .i64 flags] 50)) from_ until_
  rw [World.size_alloc, HT.out] at htm
  have HTM := hid htm
  have hat2 := at_any ((w.alloc (.cells #[.string client, .string service, kv, .int .i64 from_, .int .i64 until_, .int .i64 renew, .int .i64 flags] 50)).alloc (.cells #[.int .i64 from_, .int .i64 until_] 3)) x room l v client service ((H.out.mod0 (HM1.out.alloc _)).cells) ((H.out.mod0 (HM1.out.alloc _)).row) hlen
  rw [HAT.out] at hat2
  have HA2 := hid hat2
  have bb0 : ((w.alloc (.cells #[.string client, .string service, kv, .int .i64 from_, .int .i64 until_, .int .i64 renew, .int .i64 flags] 50)).alloc (.cells #[.int .i64 from_, .int .i64 until_] 3)).cell? ⟨w.heap.size, 0, none⟩ = some (.string client) := cell_at (get_alloc HBX.out _) 0
  have bb1 : ((w.alloc (.cells #[.string client, .string service, kv, .int .i64 from_, .int .i64 until_, .int .i64 renew, .int .i64 flags] 50)).alloc (.cells #[.int .i64 from_, .int .i64 until_] 3)).cell? ⟨w.heap.size, 1, none⟩ = some (.string service) := cell_at (get_alloc HBX.out _) 1
  clear htm hat2
  go_wp2_with (first
    | (go_at_call 34; refine (his_some _ _ room hr c0).mono ?_; rintro e w' ⟨rfl, rfl⟩)
    | (go_at_call 30; refine HTM.out.mono ?_; rintro e w' ⟨rfl, rfl⟩)
    | (go_at_call 35; refine HA2.out.mono ?_; rintro e w3 ⟨rfl, hm3⟩; have HM3 := hid hm3; clear hm3))
  refine wp_abs (fun W3 => HeldAt W3 x v room l ∧ W3.heap[w.heap.size]? = some (.cells #[.string client, .string service, kv, .int .i64 from_, .int .i64 until_, .int .i64 renew, .int .i64 flags] 50 (0, 0)) ∧ KeyIn W3 kv key ∧ Mod [] w W3) ⟨H.out.mod0 ((HM1.out.alloc _).trans HM3.out), HM3.out.get (get_alloc HBX.out _) (by simp), HK.out.mod ((HM1.out.alloc _).trans HM3.out), (HM1.out.alloc _).trans HM3.out⟩ ?_
  clear c0 b0 b1 b3 b4 bb0 bb1 HTM HA2 HM1 HBX HM3 H HK
  rintro W3 ⟨hH, hB, hK, hM⟩
  have c0 : W3.cell? ⟨x, 0, none⟩ = some (.int .i64 room) := cell_at hH.cells 0
  obtain ⟨a, c, rfl⟩ := row_slice hH.row
  have c1 : W3.cell? ⟨x, 1, none⟩ = some (.slice a l.length c) := cell_at hH.cells 1
  have d1 : ((l.length : Int) == room) = false := by simpa using hroom
  have H := hid hH
  have HB := hid hB
  have HK := hid hK
  have HM := hid hM
  clear hH hB hK hM
  go_quiet (fail)
  go_wp2_with fail
  refine wp_abs (fun W4 => HeldAt W4 x (.slice a l.length c) room l ∧ W4.heap[w.heap.size]? = some (.cells #[.string client, .string service, kv, .int .i64 from_, .int .i64 until_, .int .i64 renew, .int .i64 flags] 50 (0, 0)) ∧ KeyIn W4 kv key ∧ Mod [] w W4) ⟨H.out.mod0 (Mod.drewN (Mod.refl _ _) _), HB.out, HK.out.mod (Mod.drewN (Mod.refl _ _) _), HM.out.drewN _⟩ ?_
  clear c0 c1 H HB HK HM
  rintro W4 ⟨hH, hB, hK, hM⟩
  have hSat : ∀ W5 : World, W5.cell? ⟨x, 1, none⟩ = some (.slice a l.length c) → W5.heap[w.heap.size]? = some (.cells #[.string client, .string service, kv, .int .i64 from_, .int .i64 until_, .int .i64 renew, .int .i64 flags] 50 (0, 0)) → (fun w' : World => w'.cell? ⟨x, 1, none⟩ = some (.slice a l.length c) ∧ w'.heap[w.heap.size]? = some (.cells #[.string client, .string service, kv, .int .i64 from_, .int .i64 until_, .int .i64 renew, .int .i64 flags] 50 (0, 0)) ∧ w'.cell? ⟨w.heap.size, 0, none⟩ = some (.string client) ∧ w'.cell? ⟨w.heap.size, 1, none⟩ = some (.string service) ∧ w'.cell? ⟨w.heap.size, 2, none⟩ = some (kv) ∧ w'.cell? ⟨w.heap.size, 3, none⟩ = some (.int .i64 from_) ∧ w'.cell? ⟨w.heap.size, 4, none⟩ = some (.int .i64 until_) ∧ w'.cell? ⟨w.heap.size, 5, none⟩ = some (.int .i64 renew) ∧ w'.cell? ⟨w.heap.size, 6, none⟩ = some (.int .i64 flags)) W5 := fun W5 h1 h2 => ⟨h1, h2, cell_at h2 0, cell_at h2 1, cell_at h2 2, cell_at h2 3, cell_at h2 4, cell_at h2 5, cell_at h2 6⟩
  have HSAT := hid hSat
  clear hSat
  have c1 : W4.cell? ⟨x, 1, none⟩ = some (.slice a l.length c) := cell_at hH.cells 1
  have H := hid hH
  have HB := hid hB
  have HM := hid hM
  have hown := own_any W4.drew (⟨client, service, key, from_, until_, renew, flags⟩ : TkS) kv (KeyIn.mod hK (Mod.refl _ _).drew) HKL.out
  simp only [TkS.cells] at hown
  have HOWN := hid hown
  clear hH hB hK hM hown
  refine wp_region_N (fun w' : World => w'.cell? ⟨x, 1, none⟩ = some (.slice a l.length c) ∧ w'.heap[w.heap.size]? = some (.cells #[.string client, .string service, kv, .int .i64 from_, .int .i64 until_, .int .i64 renew, .int .i64 flags] 50 (0, 0)) ∧ w'.cell? ⟨w.heap.size, 0, none⟩ = some (.string client) ∧ w'.cell? ⟨w.heap.size, 1, none⟩ = some (.string service) ∧ w'.cell? ⟨w.heap.size, 2, none⟩ = some (kv) ∧ w'.cell? ⟨w.heap.size, 3, none⟩ = some (.int .i64 from_) ∧ w'.cell? ⟨w.heap.size, 4, none⟩ = some (.int .i64 until_) ∧ w'.cell? ⟨w.heap.size, 5, none⟩ = some (.int .i64 renew) ∧ w'.cell? ⟨w.heap.size, 6, none⟩ = some (.int .i64 flags)) (fun i => i != 11) (by kernel_rfl) ?_
  have hS : (fun w' : World => w'.cell? ⟨x, 1, none⟩ = some (.slice a l.length c) ∧ w'.heap[w.heap.size]? = some (.cells #[.string client, .string service, kv, .int .i64 from_, .int .i64 until_, .int .i64 renew, .int .i64 flags] 50 (0, 0)) ∧ w'.cell? ⟨w.heap.size, 0, none⟩ = some (.string client) ∧ w'.cell? ⟨w.heap.size, 1, none⟩ = some (.string service) ∧ w'.cell? ⟨w.heap.size, 2, none⟩ = some (kv) ∧ w'.cell? ⟨w.heap.size, 3, none⟩ = some (.int .i64 from_) ∧ w'.cell? ⟨w.heap.size, 4, none⟩ = some (.int .i64 until_) ∧ w'.cell? ⟨w.heap.size, 5, none⟩ = some (.int .i64 renew) ∧ w'.cell? ⟨w.heap.size, 6, none⟩ = some (.int .i64 flags)) W4.drew := HSAT.out _ c1 HB.out
  refine regA 0 53 (v := ?_) rfl rfl (by kernel_rfl) (by kernel_rfl) (by kernel_rfl) (fun _ _ _ h => h) (by rfl) (fun w => ?_) ?_; rotate_left; (go_simp; first | done | with_reducible rfl); (try simp only [Act.put, List.setIfInBounds_toArray, List.set_cons_zero, List.set_cons_succ])
  refine regA 1 54 (v := ?_) rfl rfl (by kernel_rfl) (by kernel_rfl) (by kernel_rfl) (fun _ _ _ h => h) (by rfl) (fun w => ?_) ?_; rotate_left; (go_simp; first | done | with_reducible rfl); (try simp only [Act.put, List.setIfInBounds_toArray, List.set_cons_zero, List.set_cons_succ])
  refine regA 2 55 (v := ?_) rfl rfl (by kernel_rfl) (by kernel_rfl) (by kernel_rfl) (fun _ _ _ h => h) (by rfl) (fun w => ?_) ?_; rotate_left; (go_simp; first | done | with_reducible rfl); (try simp only [Act.put, List.setIfInBounds_toArray, List.set_cons_zero, List.set_cons_succ])
  refine regA 3 56 (v := ?_) rfl rfl (by kernel_rfl) (by kernel_rfl) (by kernel_rfl) (fun _ _ _ h => h) (by rfl) (fun w => ?_) ?_; rotate_left; (go_simp; first | done | with_reducible rfl); (try simp only [Act.put, List.setIfInBounds_toArray, List.set_cons_zero, List.set_cons_succ])
  refine regS 4 57 (v := ?_) hS rfl rfl (by kernel_rfl) (by kernel_rfl) (by kernel_rfl) (by kernel_rfl) (fun _ _ _ h => h) (by rfl) (fun w hSw => ?_) ?_; rotate_left; (go_simp; first | done | with_reducible rfl); (try simp only [Act.put, List.setIfInBounds_toArray, List.set_cons_zero, List.set_cons_succ])
  refine regS 5 58 (v := ?_) hS rfl rfl (by kernel_rfl) (by kernel_rfl) (by kernel_rfl) (by kernel_rfl) (fun _ _ _ h => h) (by rfl) (fun w hSw => ?_) ?_; rotate_left; (go_simp; first | done | with_reducible rfl); (try simp only [Act.put, List.setIfInBounds_toArray, List.set_cons_zero, List.set_cons_succ])
  refine regOnly 6 (by kernel_rfl) rfl (by rfl) (fun K hK => ?_)
  go_wp2_with (first
    | (go_at_call 38; refine HOWN.out.mono ?_; rintro e w5 ⟨kv', rfl, hk5⟩))
  have hm5 : Mod [] W4 w5 := (Mod.refl [] W4).drew.trans hk5.2.1
  have hS5 := HSAT.out _ (hm5.cell c1 (by simp)) (hm5.get HB.out (by simp))
  refine hK.out _ _ (fun _ _ => hS5) ?_
  clear hK hS
  (try simp only [Act.put, List.setIfInBounds_toArray, List.set_cons_zero, List.set_cons_succ])
  refine regOnly 7 (by kernel_rfl) rfl (by rfl) (fun K hK => ?_)
  go_wp2_with fail
  have hm6 := Mod.alloc (Mod.refl [] w5) (.cells #[.string client, .string service, kv', .int .i64 from_, .int .i64 until_, .int .i64 renew, .int .i64 flags] 50)
  refine hK.out _ _ (fun _ _ => HSAT.out _ (hm6.cell hS5.1 (by simp)) (hm6.get hS5.2.1 (by simp))) ?_
  clear hK
  (try simp only [Act.put, List.setIfInBounds_toArray, List.set_cons_zero, List.set_cons_succ])
  have hmore := put_more (t := (⟨client, service, key, from_, until_, renew, flags⟩ : TkS)) (H.out.mod0 hm5) hk5.1 hlen
  simp only [TkS.cells] at hmore
  refine regOnly 8 (by kernel_rfl) rfl (by rfl) (fun K hK => ?_)
  refine wp_app_run 61 _ _ 46 rfl rfl (.slice a l.length c) _ rfl rfl _ hmore ?_
  rintro v7 w7 ⟨⟨g7, n7, c7, rfl⟩, q1, qf, HKEEP, HX⟩
  refine hK.out _ _ (fun _ _ => HSAT.out _ q1 (HKEEP.out _ _ hS5.2.1 HVB.out)) ?_
  clear hK
  (try simp only [Act.put, List.setIfInBounds_toArray, List.set_cons_zero, List.set_cons_succ])
  refine regA 9 62 (v := ?_) rfl rfl (by kernel_rfl) (by kernel_rfl) (by kernel_rfl) (fun _ _ _ h => h) (by rfl) (fun w => ?_) ?_; rotate_left; (go_simp; first | done | with_reducible rfl); (try simp only [Act.put, List.setIfInBounds_toArray, List.set_cons_zero, List.set_cons_succ])
  refine regA 10 63 (v := ?_) rfl rfl (by kernel_rfl) (by kernel_rfl) (by kernel_rfl) (fun _ _ _ h => h) (by rfl) (fun w => ?_) ?_; rotate_left; (go_simp; first | done | with_reducible rfl); (try simp only [Act.put, List.setIfInBounds_toArray, List.set_cons_zero, List.set_cons_succ])
  refine regOnly 11 (by kernel_rfl) rfl (by rfl) (fun K hK => ?_)
  go_wp2_with fail
  refine hK.out _ _ (fun h _ => absurd h (by decide)) ?_
  clear hK
  (try simp only [Act.put, List.setIfInBounds_toArray, List.set_cons_zero, List.set_cons_succ])
  refine regDone (by kernel_rfl) ?_ _
  go_wp2_with fail
  go_ret
  have hM := HM.out
  refine ⟨rfl, kv', _, HX.out.1, ((hM.trans hm5).mono (by simp)).trans HX.out.2.1, fun k hk => (HX.out.2.2 k hk).imp id (fun h => Nat.le_trans (hM.trans hm5).size h)⟩
end Go.Proofs.Yteifjbfojjjacaa
