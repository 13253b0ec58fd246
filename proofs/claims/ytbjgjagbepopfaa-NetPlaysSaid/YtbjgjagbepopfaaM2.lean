/-
  The reference's net, walked: put. No statement of a claim stands here; each contract names what it asks.
-/
import Derived.Test.YtbjgjagbepopfaaM1
set_option linter.unusedSimpArgs false
namespace Go.Proofs.Ytbjgjagbepopfaa
open Go Go.RowKit Go.ChangeMaps


theorem wp_app_run {P : Program} {o : Oper} {a : Act} {w : World} {K : Act → World → Prop} {Q : Exit → Act → World → Prop} (s x : Operand) (t : TypeId)
    (ho : o.op = .call { callee := .builtin .append, args := #[s, x], argTypes := #[t, t] }) (v y : Value) (hs : a.eval s = v) (hx : a.eval x = y) (R : Value → World → Prop)
    (hr : ∃ v' w', (Builtin.append_ #[t, t] o.type #[v, y]).run P w = .ok v' w' ∧ R v' w') (h : ∀ v' w', R v' w' → K (a.put o.dst v') w') : o.wp P a w K Q := by
  obtain ⟨v', w', hr, hR⟩ := hr
  unfold Oper.wp execOp
  simp only [ho, resolve, invoke, builtin, Sem.run_bind, Sem.run_pure, Result.andThen_ok, List.map_toArray, List.map_cons, List.map_nil, hs, hx, hr]
  exact h v' w' hR

abbrev rmsgObj (m : Msg) : Obj := .cells #[.int .i64 m.frm, .int .i64 m.to, .int .i64 m.kind, .string m.body] 53 (0, 0)

/-- What a call of the reference leaves. -/
def RefPost (B : Nat) (w : World) (y n : Nat) (v : Value) (s' : NetS) (e : Ending) (w' : World) : Prop := e = .returned v ∧ RefAt B w' y n s' ∧ RMod B w w'

section
variable {B : Nat} {w : World} {y n : Nat} {s : NetS}
set_option maxRecDepth 20000 in
set_option maxHeartbeats 4000000 in
theorem rput_any (h : RefAt B w y n s) (ho : s.Ok) (hb : s.sent ≤ 1000000) (hB : B ≤ w.heap.size) (m : Msg) :
    Calls Try.prog 41 #[.pointer (some ⟨y, 0, none⟩), .agg #[.int .i64 m.frm, .int .i64 m.to, .int .i64 m.kind, .string m.body]] w (RefPost B w y n (.tuple #[.int .i64 (s.put m).2.1, .int .i64 (s.put m).2.2]) (s.put m).1) := by
  obtain ⟨vl, vc, cl, dn, h, hcl⟩ := h
  obtain ⟨av, kv, rfl⟩ := h.items.form
  have hm1 : Mod [] w (w.alloc (rmsgObj m)) := Mod.alloc (Mod.refl _ _) _
  have hg1 := get_new w (rmsgObj m)
  have hfit := ho.fits
  have hroom := ho.room
  have hlast := ho.last
  have H := hid h
  have HO := hid ho
  go_enter Try.func41, Try.ntmps41
  go_upto_region 1 with fail
  have h1 := h.mod0 hm1
  generalize (w.alloc (rmsgObj m)) = w1 at *
  generalize hgg : w.heap.size = g at *
  obtain ⟨-, c1, -, -, -, -, c6, -, -⟩ := h1.all
  have H1 := hid (And.intro h1 (And.intro hm1 hg1))
  clear h h1 hm1 hg1 ho
  go_quiet (fail)
  by_cases hf : (s.way.length : Int) = s.room
  · have e1 : s.put m = (s, 0, 4) := by unfold NetS.put; rw [if_pos hf]
    have HE := hid e1
    have hge : s.room ≤ (s.way.length : Int) := by omega
    clear e1 hf hfit
    go_wp2_with fail
    go_ret2
    exact ⟨by rw [HE.out]; rfl, by rw [HE.out]; exact ⟨_, vc, cl, dn, H1.out.1.mod0 ((Mod.refl _ _).drewN _), hcl⟩, .of0 (H1.out.2.1.drewN _)⟩
  · have e1 : s.put m = ({ s with last := s.last + 1, sent := s.sent + 1, way := s.way ++ [(s.last + 1, m, s.cw)], cw := s.cw + 1 }, s.last + 1, 0) := by unfold NetS.put; rw [if_neg hf]
    have HE := hid e1
    have hge : ¬ s.room ≤ (s.way.length : Int) := by omega
    have HFT := hid (show (s.way.length : Int) < s.room from by omega)
    clear e1 hf hfit
    have h2 := H1.out.1.mod0 (w' := w1.drewN nq) ((Mod.refl _ _).drewN _)
    have hm2 := H1.out.2.1.drewN nq
    have hg2 : (w1.drewN nq).heap[g]? = _ := H1.out.2.2
    clear c1 c6 H1
    generalize w1.drewN nq = w2 at *
    obtain ⟨-, -, c2, c3, -, -, -, -, cf⟩ := h2.all
    have c2f := cf 2
    have c3f := cf 3
    clear cf
    have H2 := hid (And.intro h2 (And.intro hm2 hg2))
    clear h2 hm2 hg2
    go_upto_region 5 with fail
    have hA := (H2.out.1.num 2 (.int .i64 (s.last + 1)) { s with last := s.last + 1 } rfl (by decide) rfl rfl rfl).num 3 (.int .i64 (s.sent + 1)) { s with last := s.last + 1, sent := s.sent + 1 } rfl (by decide) rfl rfl rfl
    have hmA : Mod (refFoot y (.slice av s.way.length kv) vc) w ((w2.setCell ⟨y, 2, none⟩ (.int .i64 (s.last + 1))).setCell ⟨y, 3, none⟩ (.int .i64 (s.sent + 1))) := ((H2.out.2.1.mono (by simp)).setCell (.inl ((mem_foot y).2 (.inl rfl))) _).setCell (.inl ((mem_foot y).2 (.inl rfl))) _
    have hgy : g ≠ y := ne_ty H2.out.2.2 H2.out.1.cells (by decide)
    have hgA := get_setCell (get_setCell H2.out.2.2 (p := ⟨y, 2, none⟩) hgy (.int .i64 (s.last + 1))) (p := ⟨y, 3, none⟩) hgy (.int .i64 (s.sent + 1))
    clear c2 c3 c2f c3f H2
    generalize ((w2.setCell ⟨y, 2, none⟩ (.int .i64 (s.last + 1))).setCell ⟨y, 3, none⟩ (.int .i64 (s.sent + 1))) = w3 at *
    have HA := hid (And.intro hA (And.intro hmA hgA))
    refine wp_region_N (fun w' => w'.cell? ⟨y, 6, none⟩ = some (.slice av s.way.length kv) ∧ w'.cell? ⟨y, 2, none⟩ = some (.int .i64 (s.last + 1)) ∧ w'.cell? ⟨g, 0, none⟩ = some (.int .i64 m.frm) ∧ w'.cell? ⟨g, 1, none⟩ = some (.int .i64 m.to) ∧ w'.cell? ⟨g, 2, none⟩ = some (.int .i64 m.kind) ∧ w'.cell? ⟨g, 3, none⟩ = some (.string m.body)) (fun i => !(i == 15)) (by kernel_rfl) ?_
    have hS : (fun w' : World => w'.cell? ⟨y, 6, none⟩ = some (.slice av s.way.length kv) ∧ w'.cell? ⟨y, 2, none⟩ = some (.int .i64 (s.last + 1)) ∧ w'.cell? ⟨g, 0, none⟩ = some (.int .i64 m.frm) ∧ w'.cell? ⟨g, 1, none⟩ = some (.int .i64 m.to) ∧ w'.cell? ⟨g, 2, none⟩ = some (.int .i64 m.kind) ∧ w'.cell? ⟨g, 3, none⟩ = some (.string m.body)) w3.drew :=
      ⟨hA.all.2.2.2.2.2.2.1, hA.all.2.2.1, cell_at hgA 0, cell_at hgA 1, cell_at hgA 2, cell_at hgA 3⟩
    clear hA hmA hgA
    refine regA 0 30 (v := ?_) rfl rfl (by kernel_rfl) (by kernel_rfl) (by kernel_rfl) (fun _ _ _ h => h) (by rfl) (fun w => ?_) ?_; rotate_left; (go_simp; first | done | with_reducible rfl); (try simp only [Act.put, List.setIfInBounds_toArray, List.set_cons_zero, List.set_cons_succ])
    refine regA 1 31 (v := ?_) rfl rfl (by kernel_rfl) (by kernel_rfl) (by kernel_rfl) (fun _ _ _ h => h) (by rfl) (fun w => ?_) ?_; rotate_left; (go_simp; first | done | with_reducible rfl); (try simp only [Act.put, List.setIfInBounds_toArray, List.set_cons_zero, List.set_cons_succ])
    refine regA 2 32 (v := ?_) rfl rfl (by kernel_rfl) (by kernel_rfl) (by kernel_rfl) (fun _ _ _ h => h) (by rfl) (fun w => ?_) ?_; rotate_left; (go_simp; first | done | with_reducible rfl); (try simp only [Act.put, List.setIfInBounds_toArray, List.set_cons_zero, List.set_cons_succ])
    refine regA 3 33 (v := ?_) rfl rfl (by kernel_rfl) (by kernel_rfl) (by kernel_rfl) (fun _ _ _ h => h) (by rfl) (fun w => ?_) ?_; rotate_left; (go_simp; first | done | with_reducible rfl); (try simp only [Act.put, List.setIfInBounds_toArray, List.set_cons_zero, List.set_cons_succ])
    refine regS 4 34 (v := ?_) hS rfl rfl (by kernel_rfl) (by kernel_rfl) (by kernel_rfl) (by kernel_rfl) (fun _ _ _ h => h) (by rfl) (fun w hSw => ?_) ?_; rotate_left; (go_simp; first | done | with_reducible rfl); (try simp only [Act.put, List.setIfInBounds_toArray, List.set_cons_zero, List.set_cons_succ])
    refine regA 5 35 (v := ?_) rfl rfl (by kernel_rfl) (by kernel_rfl) (by kernel_rfl) (fun _ _ _ h => h) (by rfl) (fun w => ?_) ?_; rotate_left; (go_simp; first | done | with_reducible rfl); (try simp only [Act.put, List.setIfInBounds_toArray, List.set_cons_zero, List.set_cons_succ])
    refine regA 6 36 (v := ?_) rfl rfl (by kernel_rfl) (by kernel_rfl) (by kernel_rfl) (fun _ _ _ h => h) (by rfl) (fun w => ?_) ?_; rotate_left; (go_simp; first | done | with_reducible rfl); (try simp only [Act.put, List.setIfInBounds_toArray, List.set_cons_zero, List.set_cons_succ])
    refine regA 7 37 (v := ?_) rfl rfl (by kernel_rfl) (by kernel_rfl) (by kernel_rfl) (fun _ _ _ h => h) (by rfl) (fun w => ?_) ?_; rotate_left; (go_simp; first | done | with_reducible rfl); (try simp only [Act.put, List.setIfInBounds_toArray, List.set_cons_zero, List.set_cons_succ])
    refine regS 8 38 (v := ?_) hS rfl rfl (by kernel_rfl) (by kernel_rfl) (by kernel_rfl) (by kernel_rfl) (fun _ _ _ h => h) (by rfl) (fun w hSw => ?_) ?_; rotate_left; (go_simp; first | done | with_reducible rfl); (try simp only [Act.put, List.setIfInBounds_toArray, List.set_cons_zero, List.set_cons_succ])
    refine regS 9 39 (v := ?_) hS rfl rfl (by kernel_rfl) (by kernel_rfl) (by kernel_rfl) (by kernel_rfl) (fun _ _ _ h => h) (by rfl) (fun w hSw => ?_) ?_; rotate_left; (go_simp; first | done | with_reducible rfl); (try simp only [Act.put, List.setIfInBounds_toArray, List.set_cons_zero, List.set_cons_succ])
    refine regA 10 40 (v := ?_) rfl rfl (by kernel_rfl) (by kernel_rfl) (by kernel_rfl) (fun _ _ _ h => h) (by rfl) (fun w => ?_) ?_; rotate_left; (go_simp; first | done | with_reducible rfl); (try simp only [Act.put, List.setIfInBounds_toArray, List.set_cons_zero, List.set_cons_succ])
    have hA := HA.out.1.mod0 (w' := w3.drew) ((Mod.refl _ _).drew)
    have hmA := HA.out.2.1.drew
    clear HA
    generalize w3.drew = w4 at *
    clear w3 w2 w1
    have hAw := hA.items.app elemItem (by have := hmA.size; show B ≤ w4.heap.size; omega) (s.last + 1, m, s.cw) rfl (by simp [itemC, Msg.cells, Value.oneCell']) (by have := HFT.out; show s.way.length ≤ 5000; omega) (by decide)
    have HAW := hid hAw
    have HA := hid (And.intro hA hmA)
    clear hAw hA hmA
    refine regOnly 11 (by kernel_rfl) rfl (by rfl) (fun K hK => ?_)
    go_wp2_with fail
    have hmb : Mod [] w4 (w4.alloc (.cells #[.int .i64 (s.last + 1), .int .i64 m.frm, .int .i64 m.to, .int .i64 m.kind, .string m.body] 83)) := (Mod.refl _ _).alloc _
    refine hK.out _ _ (fun _ h => ⟨hmb.cell h.1 (by simp), hmb.cell h.2.1 (by simp), hmb.cell h.2.2.1 (by simp), hmb.cell h.2.2.2.1 (by simp), hmb.cell h.2.2.2.2.1 (by simp), hmb.cell h.2.2.2.2.2 (by simp)⟩) ?_
    clear hK hmb
    (try simp only [Act.put, List.setIfInBounds_toArray, List.set_cons_zero, List.set_cons_succ])
    refine regOnly 12 (by kernel_rfl) rfl (by rfl) (fun K hK => ?_)
    refine wp_app_run _ _ 57 rfl _ _ rfl rfl _ HAW.out ?_
    rintro v5 w5 ⟨hv5, hm5, hk5⟩
    obtain ⟨a5, n5, k5, rfl⟩ : ∃ a n c, v5 = .slice a n c := ⟨_, _, _, hv5.form.choose_spec.choose_spec⟩
    have hvy : y ∉ (Value.slice av s.way.length kv).ownBlock.toList := fun hh => HA.out.1.y_ne.1 y (by simpa using hh) rfl
    have hvg : g ∉ (Value.slice av s.way.length kv).ownBlock.toList := fun hh => by have h1 := H.out.items.block (k := g) (by simpa using hh); obtain ⟨c, hc⟩ := h1; have := lt_of_block hc; omega
    refine hK.out _ _ (fun _ _ => ⟨hm5.cell hS.1 hvy, hm5.cell hS.2.1 hvy, hm5.cell hS.2.2.1 hvg, hm5.cell hS.2.2.2.1 hvg, hm5.cell hS.2.2.2.2.1 hvg, hm5.cell hS.2.2.2.2.2 hvg⟩) ?_
    clear hK hS
    (try simp only [Act.put, List.setIfInBounds_toArray, List.set_cons_zero, List.set_cons_succ])
    refine regA 13 43 (v := ?_) rfl rfl (by kernel_rfl) (by kernel_rfl) (by kernel_rfl) (fun _ _ _ h => h) (by rfl) (fun w => ?_) ?_; rotate_left; (go_simp; first | done | with_reducible rfl); (try simp only [Act.put, List.setIfInBounds_toArray, List.set_cons_zero, List.set_cons_succ])
    refine regA 14 44 (v := ?_) rfl rfl (by kernel_rfl) (by kernel_rfl) (by kernel_rfl) (fun _ _ _ h => h) (by rfl) (fun w => ?_) ?_; rotate_left; (go_simp; first | done | with_reducible rfl); (try simp only [Act.put, List.setIfInBounds_toArray, List.set_cons_zero, List.set_cons_succ])
    have hs5 : w5.heap[y]? = _ := hm5.get HA.out.1.cells hvy
    have f6 := free_at hs5 6
    have c6 : w5.cell? ⟨y, 6, none⟩ = some (.slice av s.way.length kv) := hm5.cell HA.out.1.all.2.2.2.2.2.2.1 hvy
    clear hs5
    refine regOnly 15 (by kernel_rfl) rfl (by rfl) (fun K hK => ?_)
    go_wp2_with fail
    refine hK.out _ _ (fun h _ => absurd h (by decide)) ?_
    clear hK
    (try simp only [Act.put, List.setIfInBounds_toArray, List.set_cons_zero, List.set_cons_succ])
    refine regDone (by kernel_rfl) ?_ _
    have hfin := HA.out.1.setItems hm5 hvy (fun k hk hh => HA.out.1.rows_ne k (by simpa using hh) hk) (.slice a5 n5 k5) (s.put m).1 (by rw [HE.out]; exact hv5) (by rw [HE.out]; rfl) (by rw [HE.out]) (by rw [HE.out])
    have hmf : Mod (refFoot y (.slice av s.way.length kv) vc) w (w5.setCell ⟨y, 6, none⟩ (.slice a5 n5 k5)) := (HA.out.2.trans' hm5 (fun x hx => .inl ((mem_foot x).2 (.inr (.inl (by simpa using hx)))))).setCell (.inl ((mem_foot y).2 (.inl rfl))) _
    have HF := hid (And.intro hfin hmf)
    have c2 : (w5.setCell ⟨y, 6, none⟩ (.slice a5 n5 k5)).cell? ⟨y, 2, none⟩ = some (.int .i64 (s.last + 1)) := by have := hfin.all.2.2.1; rw [HE.out] at this; exact this
    clear hfin hmf c6 f6 hv5 hm5 hk5 HAW HA hge
    generalize (w5.setCell ⟨y, 6, none⟩ (.slice a5 n5 k5)) = w6 at *
    go_wp2_with fail
    go_ret2
    exact ⟨by rw [HE.out]; rfl, ⟨_, vc, cl, dn, HF.out.1, hcl⟩, H.out.rmod HF.out.2⟩
end
end Go.Proofs.Ytbjgjagbepopfaa
