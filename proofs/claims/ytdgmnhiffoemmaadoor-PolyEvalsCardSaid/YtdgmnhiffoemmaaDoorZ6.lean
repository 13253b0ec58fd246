/-
  The reference's Digits, wide, Widen. No statement of a claim stands here; each contract names what it asks.
-/
import Derived.Test.YtdgmnhiffoemmaaDoorZ5
set_option linter.unusedSimpArgs false
namespace Go.Proofs.YtdgmnhiffoemmaaDoor
open Go Go.RowKit Go.ChangeMaps

/-- 2 to the 32. -/
def HB : Nat := 4294967296
theorem HB_sq : HB * HB = BB := by decide
/-- Digits of 32 bits. -/
def dig : List Nat → List Nat
  | [] => []
  | x :: l => x % HB :: x / HB :: dig l
theorem dig_append : ∀ (a b : List Nat), dig (a ++ b) = dig a ++ dig b
  | [], _ => rfl
  | x :: a, b => by simp [dig, dig_append a b]
theorem dig_len : ∀ l : List Nat, (dig l).length = 2 * l.length
  | [] => rfl
  | x :: l => by simp [dig, dig_len l]; omega

def encU (x : Nat) : List Value := [.int .u64 (x : Int)]
theorem encU_len (x : Nat) : (encU x).length = 1 := rfl
abbrev Us := RowOf 24 1 encU
theorem elemU : Elem Tryd.prog 81 24 1 8 :=
  Elem.of (z := .int .u64 0) Tryd.underlying81 (by kernel_rfl) rfl (by decide)

theorem op_app_run {P : Program} {o : Oper} {a : Act} {K : Act → World → Prop} {Q : Exit → Act → World → Prop} {w : World} (d : Nat) (s x : Operand) (t t2 : TypeId) (hd : o.dst = some d)
    (ho : o.op = .call { callee := .builtin .append, args := #[s, x], argTypes := #[t, t2] }) (v y : Value) (hs : a.eval s = v) (hx : a.eval x = y) (R : Value → World → Prop)
    (hr : ∃ v' w', (Builtin.append_ #[t, t2] o.type #[v, y]).run P w = .ok v' w' ∧ R v' w') (h : ∀ v' w', R v' w' → K (a.put (some d) v') w') : o.wp P a w K Q := by
  obtain ⟨v', w', hr, hR⟩ := hr
  unfold Oper.wp execOp
  simp only [ho, resolve, invoke, builtin, Sem.run_bind, Sem.run_pure, Result.andThen_ok, List.map_toArray, List.map_cons, List.map_nil, hs, hx, hr]
  have := h v' w' hR
  rw [← hd] at this
  exact this
theorem wpList_app_run2 {P : Program} {ops : Array Oper} {rest : List Oper} {o : Oper} {a : Act} {Q : Exit → Act → World → Prop} {w : World} (hg : o.guard = none) (s x : Operand) (t t2 : TypeId)
    (ho : o.op = .call { callee := .builtin .append, args := #[s, x], argTypes := #[t, t2] }) (v y : Value) (hs : a.eval s = v) (hx : a.eval x = y) (R : Value → World → Prop)
    (hr : ∃ v' w', (Builtin.append_ #[t, t2] o.type #[v, y]).run P w = .ok v' w' ∧ R v' w') (h : ∀ v' w', R v' w' → wpList P ops Q rest (a.put o.dst v') w') : wpList P ops Q (o :: rest) a w := by
  obtain ⟨v', w', hr, hR⟩ := hr
  refine wpList_plain hg fun _ hK => ?_
  unfold Oper.wp execOp
  simp only [ho, resolve, invoke, builtin, Sem.run_bind, Sem.run_pure, Result.andThen_ok, List.map_toArray, List.map_cons, List.map_nil, hs, hx, hr]
  exact hK _ _ (h v' w' hR)

theorem flatU (l : List Nat) : l.flatMap encU = l.map fun (x : Nat) => Value.int .u64 (x : Int) := by
  induction l with
  | nil => rfl
  | cons x l ih => rw [List.flatMap_cons, ih]; rfl
theorem Us.app2 {B : Nat} {w : World} {v : Value} {l : List Nat} (h : Us B w v l) (hB : B ≤ w.heap.size) (x y : Nat) (hl : l.length ≤ 5000) {nb : Nat} {T : TypeId} {f : Nat × Nat} (hb : w.heap[nb]? = some (.cells #[.int .u64 (x : Int), .int .u64 (y : Int)] T f)) (c : Nat) :
    ∃ v' w', (Builtin.append_ #[81, 81] 81 #[v, .slice (some ⟨nb, 0, none⟩) 2 c]).run Tryd.prog w = .ok v' w' ∧ Us B w' v' (l ++ [x, y]) ∧ Mod v.ownBlock.toList w w' := by
  obtain ⟨i, z, hi, hz, hs, hy, hzs⟩ := elemU.info
  obtain ⟨v', w', hr, ho, hm, hk, _⟩ := run_app (P := Tryd.prog) w 81 81 24 i z 1 8 elemU.under hi hz hs hy hzs elemU.pos v l.length (l.flatMap encU) h.row ⟨nb, 0, none⟩ 2 c [.int .u64 (x : Int), .int .u64 (y : Int)] (by simp) (news_at hb)
    (fun u hu => by simp only [List.mem_cons, List.not_mem_nil, or_false] at hu; rcases hu with rfl | rfl <;> rfl) (by unfold maxLen; omega) (by omega)
  refine ⟨v', w', hr, ⟨?_, fun k hkk => ?_⟩, hm⟩
  · rw [List.flatMap_append, List.length_append]
    exact ho
  · rcases hk k hkk with h1 | h1
    · exact h.own k h1
    · omega

theorem cell_of {w : World} {g : Nat} {L : List Nat} {T : TypeId} {f : Nat × Nat} {j x : Nat} (h : w.heap[g]? = some (.cells (wcells L) T f)) (hx : L[j]? = some x) : w.cell? ⟨g, j, none⟩ = some (.int .u64 (x : Int)) := by
  rw [cell_at h, wcells_get, hx]
  rfl

def DigRel (W : World) (L : List Nat) (gk : Nat) (v i : Value) (w : World) : Prop :=
  ∃ j : Nat, i = .int .i64 j ∧ gk + j = L.length ∧ Us W.heap.size w v (dig (L.take j)) ∧ Mod [] W w

set_option maxRecDepth 100000 in
set_option maxHeartbeats 1000000 in
theorem rdigits (L : List Nat) (hl : L.length ≤ 8) (sL : Small L) (g cap : Nat) (T : TypeId) (f : Nat × Nat) (w : World) (h : w.heap[g]? = some (.cells (wcells L) T f)) :
    Calls Tryd.prog 45 #[.slice (some ⟨g, 0, none⟩) L.length cap] w fun e w' => (∃ v, Us w.heap.size w' v (dig L) ∧ e = .returned v) ∧ Mod [] w w' := by
  have HL := hid (And.intro sL h)
  have n3 : (L.length : Int) ≤ 8 := by omega
  clear sL h
  go_enter Tryd.func45, Tryd.ntmps45
  go_upto_block 0 with fail
  refine wp_abs (fun W => Us w.heap.size W (.slice (some ⟨w.heap.size, 0, none⟩) 0 0) [] ∧ Mod [] w W) ⟨RowOf.empty (get_new _ _) (Nat.le_refl _), (Mod.refl _ _).alloc _⟩ ?_
  rintro W ⟨hv0, hm0⟩
  have H0 := hid (And.intro hv0 hm0)
  clear hv0 hm0
  go_wp2_with fail
  go_loopg [3, 4] L.length (fun gk v i W' => DigRel w L gk v i W')
  case atStart => exact ⟨0, rfl, rfl, H0.out.1, H0.out.2⟩
  case round =>
    obtain ⟨j, rfl, hgj, hv, hm⟩ := hrel
    by_cases hj : j < L.length
    · have j1 : (j : Int) < (L.length : Int) := by omega
      have j0 : (0 : Int) ≤ (j : Int) := by omega
      obtain ⟨x, hx⟩ : ∃ x, L[j]? = some x := ⟨_, List.getElem?_eq_getElem hj⟩
      have hxB := HL.out.1.get hx
      have htk : dig (L.take (j + 1)) = dig (L.take j) ++ [x % HB, x / HB] := by rw [List.take_add_one, hx, dig_append]; rfl
      have e1 : (x : Int).tmod 4294967296 = ((x % HB : Nat) : Int) := by rw [Int.tmod_eq_emod_of_nonneg (by omega)]; unfold HB; omega
      have e2 : (x : Int).tdiv 4294967296 = ((x / HB : Nat) : Int) := by rw [Int.tdiv_eq_ediv_of_nonneg (by omega)]; unfold HB; omega
      obtain ⟨d0, hd0⟩ : ∃ d, x % HB = d := ⟨_, rfl⟩
      obtain ⟨d1, hd1⟩ : ∃ d, x / HB = d := ⟨_, rfl⟩
      rw [hd0] at htk e1
      rw [hd1] at htk e2
      have e3 : IntKind.u64.wrap (d1 : Int) = (d1 : Int) := wrap_small (by rw [← hd1]; unfold BB at hxB ⊢; unfold HB; omega)
      have e4 : (x : Int) / 4294967296 = (d1 : Int) := by rw [← e2, Int.tdiv_eq_ediv_of_nonneg (by omega)]
      have E := hid (And.intro e1 (And.intro e2 (And.intro e3 e4)))
      have hlen : (dig (L.take j)).length ≤ 5000 := by rw [dig_len, List.length_take]; omega
      have hcx := cell_at (hm.get HL.out.2 (by simp)) j
      rw [wcells_get, hx] at hcx
      obtain ⟨av, kv, rfl⟩ := row_slJ hv.row
      have HN := hid (And.intro hv (And.intro hm (And.intro htk (And.intro hlen (And.intro hgj hxB)))))
      have HCX := hid hcx
      have HX := hid hx
      clear hv hm htk hlen hgj hxB hx e1 e2 e3 e4 hcx hd0 hd1
      go_upto_region 5 with fail
      have hS : wr.drew.cell? ⟨g, j, none⟩ = some (.int .u64 (x : Int)) := HCX.out
      have hM : Mod [] wr wr.drew := (Mod.refl _ _).drew
      refine wp_region_N (fun w' : World => w'.cell? ⟨g, j, none⟩ = some (.int .u64 (x : Int))) (fun i => true) (by kernel_rfl) ?_
      generalize wr.drew = wd at *
      refine regA 0 12 (v := ?_) rfl rfl (by kernel_rfl) (by kernel_rfl) (by kernel_rfl) (fun _ _ _ h => h) (by rfl) (fun w => ?_) ?_; rotate_left; (go_simp; first | done | with_reducible rfl); (try simp only [Act.put, List.setIfInBounds_toArray, List.set_cons_zero, List.set_cons_succ])
      refine regA 1 13 (v := ?_) rfl rfl (by kernel_rfl) (by kernel_rfl) (by kernel_rfl) (fun _ _ _ h => h) (by rfl) (fun w => ?_) ?_; rotate_left; (go_simp; first | done | with_reducible rfl); (try simp only [Act.put, List.setIfInBounds_toArray, List.set_cons_zero, List.set_cons_succ])
      refine regA 2 14 (v := ?_) rfl rfl (by kernel_rfl) (by kernel_rfl) (by kernel_rfl) (fun _ _ _ h => h) (by rfl) (fun w => ?_) ?_; rotate_left; (go_simp; first | done | with_reducible rfl); (try simp only [Act.put, List.setIfInBounds_toArray, List.set_cons_zero, List.set_cons_succ])
      refine regA 3 15 (v := .pointer (some ⟨g, j, none⟩)) rfl rfl (by kernel_rfl) (by kernel_rfl) (by kernel_rfl) (fun _ _ _ h => h) (by rfl) (fun w => ?_) ?_
      · go_simp
      (try simp only [Act.put, List.setIfInBounds_toArray, List.set_cons_zero, List.set_cons_succ])
      refine regS 4 16 (v := .int .u64 (x : Int)) hS rfl rfl (by kernel_rfl) (by kernel_rfl) (by kernel_rfl) (by kernel_rfl) (fun _ _ _ h => h) (by rfl) (fun w hSw => ?_) ?_; (have qc0 : w.cell? ⟨g, j, none⟩ = some (.int .u64 (x : Int)) := hSw; go_simp); (try simp only [Act.put, List.setIfInBounds_toArray, List.set_cons_zero, List.set_cons_succ])
      refine regA 5 17 (v := .int .u64 (d0 : Int)) rfl rfl (by kernel_rfl) (by kernel_rfl) (by kernel_rfl) (fun _ _ _ h => h) (by rfl) (fun w => ?_) ?_
      · go_simp
        exact E.out.1
      (try simp only [Act.put, List.setIfInBounds_toArray, List.set_cons_zero, List.set_cons_succ])
      refine regA 6 18 (v := ?_) rfl rfl (by kernel_rfl) (by kernel_rfl) (by kernel_rfl) (fun _ _ _ h => h) (by rfl) (fun w => ?_) ?_; rotate_left; (go_simp; first | done | with_reducible rfl); (try simp only [Act.put, List.setIfInBounds_toArray, List.set_cons_zero, List.set_cons_succ])
      refine regA 7 19 (v := ?_) rfl rfl (by kernel_rfl) (by kernel_rfl) (by kernel_rfl) (fun _ _ _ h => h) (by rfl) (fun w => ?_) ?_; rotate_left; (go_simp; first | done | with_reducible rfl); (try simp only [Act.put, List.setIfInBounds_toArray, List.set_cons_zero, List.set_cons_succ])
      refine regA 8 20 (v := .pointer (some ⟨g, j, none⟩)) rfl rfl (by kernel_rfl) (by kernel_rfl) (by kernel_rfl) (fun _ _ _ h => h) (by rfl) (fun w => ?_) ?_
      · go_simp
      (try simp only [Act.put, List.setIfInBounds_toArray, List.set_cons_zero, List.set_cons_succ])
      refine regS 9 21 (v := .int .u64 (x : Int)) hS rfl rfl (by kernel_rfl) (by kernel_rfl) (by kernel_rfl) (by kernel_rfl) (fun _ _ _ h => h) (by rfl) (fun w hSw => ?_) ?_; (have qc0 : w.cell? ⟨g, j, none⟩ = some (.int .u64 (x : Int)) := hSw; go_simp); (try simp only [Act.put, List.setIfInBounds_toArray, List.set_cons_zero, List.set_cons_succ])
      refine regA 10 22 (v := .int .u64 (d1 : Int)) rfl rfl (by kernel_rfl) (by kernel_rfl) (by kernel_rfl) (fun _ _ _ h => h) (by rfl) (fun w => ?_) ?_
      · go_simp
        rw [E.out.2.2.2, E.out.2.2.1]
      (try simp only [Act.put, List.setIfInBounds_toArray, List.set_cons_zero, List.set_cons_succ])
      clear hS
      refine regOnly 11 (by kernel_rfl) rfl (by rfl) (fun K hK => ?_)
      go_wp2_with fail
      have g9 := get_new wd (.cells #[.int .u64 (d0 : Int), .int .u64 (d1 : Int)] 24)
      refine hK.out _ _ (fun _ _ => (hM.alloc _).cell HCX.out (by simp)) ?_
      clear hK
      (try simp only [Act.put, List.setIfInBounds_toArray, List.set_cons_zero, List.set_cons_succ])
      have hM := hM.alloc (.cells #[.int .u64 (d0 : Int), .int .u64 (d1 : Int)] 24)
      have hv := HN.out.1.mod hM (fun _ _ => by simp)
      have happ := Us.app2 hv (Nat.le_trans HN.out.2.1.size hM.size) d0 d1 HN.out.2.2.2.1 g9 2
      have HV := hid hv
      clear hv
      generalize (wd.alloc (.cells #[.int .u64 (d0 : Int), .int .u64 (d1 : Int)] 24)) = we at *
      refine regOnly 12 (by kernel_rfl) rfl (by rfl) (fun K hK => ?_)
      refine op_app_run 24 _ _ 81 81 rfl rfl _ _ rfl rfl _ happ ?_
      rintro v9 w9 ⟨h91, h92⟩
      have hM9 : Mod [] w w9 := (HN.out.2.1.trans hM).trans' h92 (fun k hk => .inr (HN.out.1.own k (by simpa using hk)))
      have H9 := hid (And.intro h91 hM9)
      refine hK _ _ (fun _ _ => hM9.cell (cell_of HL.out.2 HX.out) (by simp)) ?_
      clear hK h91 h92 hM9 hM happ
      (try simp only [Act.put, List.setIfInBounds_toArray, List.set_cons_zero, List.set_cons_succ])
      refine regA 13 3 (v := ?_) rfl rfl (by kernel_rfl) (by kernel_rfl) (by kernel_rfl) (fun _ _ _ h => h) (by rfl) (fun w => ?_) ?_; rotate_left; (go_simp; first | done | with_reducible rfl); (try simp only [Act.put, List.setIfInBounds_toArray, List.set_cons_zero, List.set_cons_succ])
      refine regDone (by kernel_rfl) ?_ _
      go_wp2_with fail
      obtain ⟨-, -, htk, -, hgj, -⟩ := HN.out
      go_roundg (gk - 1)
      case measure => omega
      case rel => exact ⟨j + 1, rfl, by omega, by rw [htk]; exact H9.out.1, H9.out.2⟩
    · have j1 : ¬ (j : Int) < (L.length : Int) := by omega
      obtain rfl : j = L.length := by omega
      rw [List.take_of_length_le (Nat.le_refl _)] at hv
      have HN := hid (And.intro hv hm)
      clear hv hm
      go_wp2_with fail
      exact bodyPost_ret (v := u3) (by simp [results, Tryd.results45, go_sem]) rfl ⟨⟨u3, HN.out.1, rfl⟩, HN.out.2⟩
end Go.Proofs.YtdgmnhiffoemmaaDoor
