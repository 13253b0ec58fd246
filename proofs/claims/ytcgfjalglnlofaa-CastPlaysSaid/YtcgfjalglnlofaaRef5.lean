/-
  The reference's node of a broadcast, walked: Take of an echo. No statement of a claim stands here; each contract names what it asks.
-/
import Derived.Test.YtcgfjalglnlofaaRef4
set_option linter.unusedSimpArgs false
namespace Go.Proofs.Ytcgfjalglnlofaa
open Go Go.RowKit

theorem run_load_op {P : Program} {oi : Oper} {ev : Operand → Value} {w : World} {v : Value} (ty : TypeId) (x : Operand) (ho : oi.op = .load ty x) (h : (Instr.loadAt ty (ev x)).run P w = .ok v w) : (execOp ev oi).run P w = .ok (.value v) w := by
  unfold execOp
  simp only [ho, Sem.run_bind, h, Result.andThen_ok, Sem.run_pure]

theorem KOk.add {n : Int} {l : Votes} {k : Int} {v : ByteArray} (h : KOk n l) (h1 : 1 ≤ k) (h2 : k ≤ n) : KOk n (addL l k v) := by
  unfold addL
  split
  · exact h
  · intro e he
    rcases List.mem_append.1 he with he | he
    · exact h e he
    · rw [List.mem_singleton.1 he]; exact ⟨h1, h2⟩
theorem addL_len (l : Votes) (k : Int) (v : ByteArray) : (addL l k v).length ≤ l.length + 1 := by
  unfold addL
  split <;> simp
theorem addN_old {l : Votes} {k : Int} {v : ByteArray} (h : (look l k).isSome = true) : addN l k v = 0 ∧ addL l k v = l := by simp [addN, addL, h]
theorem addN_new {l : Votes} {k : Int} {v : ByteArray} (h : look l k = none) : addN l k v = cnt (addL l k v) v := by simp [addN, addL, h]

set_option maxRecDepth 20000 in
set_option maxHeartbeats 1600000 in
theorem rtake_echo (w : World) (y : Nat) (s : NodeS) (m : Msg) (h : RefAt w y s) (hn : 0 < s.n) (hn' : s.n ≤ 16) (ht0 : 0 ≤ s.t) (ht1 : s.t ≤ 5) (hE : VOk s.E) (hK : KOk s.n s.E) (hl : s.E.length ≤ 900) (hb : mayBe s m = true) (k1 : m.kind = 2) :
    Calls Try.prog 23 #[.pointer (some ⟨y, 0, none⟩), .agg m.cells.toArray] w (RPost w y (takeS s m)) := by
  have hbox := RSeen.of (m := m) h
  have ht : takeS s m = if 2 * (addN s.E m.from_ m.val : Int) > s.n + s.t then sendR { s with E := addL s.E m.from_ m.val } m.val else ({ s with E := addL s.E m.from_ m.val }, []) := by simp [takeS, hb, k1]
  obtain ⟨n, t, me, dealer, E, R, began, heard, ev, ei, rv, ri, sv, si⟩ := s
  obtain ⟨kind, from_, val⟩ := m
  obtain ⟨c0, c1, c2, c3, c72, c73, c74, c75, c76, c77, c78, c79, hf, hy⟩ := h.all
  dsimp only at c0 c1 k1 ht hn hn' ht0 ht1 hE hK hl
  subst k1
  simp only [Msg.cells, mayBe, Bool.and_eq_true, decide_eq_true_eq] at hb hbox ⊢
  obtain ⟨k, rfl⟩ : ∃ k : Nat, from_ = (k : Int) := ⟨from_.toNat, by omega⟩
  have hk17 : k < 17 := by omega
  have d1 : decide ((k : Int) < 1) = false := by simp; omega
  have d2 : decide (n < (k : Int)) = false := by simp; omega
  have d3 : decide ((4096 : Int) < (val.size : Int)) = false := by simp; omega
  have i0 : (0 : Int) ≤ (k : Int) := Int.natCast_nonneg _
  have i1 : (k : Int) < 17 := by omega
  have hh := h.hasE k hk17
  have hsd := h.saidE k hk17
  dsimp only at hh hsd
  have hkn : 1 ≤ (k : Int) ∧ (k : Int) ≤ n := ⟨by omega, by omega⟩
  have HB := hid hbox
  clear hbox c2 c3 c72 c73 c74 c75 c76 c77 c78 c79
  cases hlook : look E (k : Int) with
  | some u =>
    have ho := addN_old (v := val) (by rw [hlook]; rfl)
    rw [ho.1, ho.2] at ht
    have HT := hid (ht.trans (if_neg (by simp; omega)))
    rw [hlook] at hh hsd
    simp only [Option.isSome_some] at hh
    clear ht ho hlook hE hK h hb hsd
    go_enter Try.func23, Try.ntmps23; go_wp2_with fail; go_quiet (fail); go_wp2_with fail
    go_quiet (fail)
    go_wp2_with fail
    go_ret
    exact HB.out.idle HT.out (by repeat' (first | exact Mod.refl _ _ | assumption | refine Mod.drewN ?_ _ | refine Mod.drew ?_ | refine Mod.alloc ?_ _ | refine Mod.setCell ?_ (by simp) _ | refine Mod.setBlock ?_ (by simp) _))
  | none =>
    have ha := addN_new (v := val) hlook
    have HT := hid ht
    rw [hlook] at hh hsd
    simp only [Option.isSome_none, Option.getD_none] at hh hsd
    have HA := hid ha
    have HK := hid hK
    have HE := hid hE
    have HLK := hid hlook
    clear ht ha hlook h hb hK hE
    go_enter Try.func23, Try.ntmps23; go_wp2_with fail; go_quiet (fail); go_wp2_with fail
    go_quiet (fail)
    go_wp2_with fail
    refine wp_abs (fun W => RSeen w W y w.heap.size ⟨n, t, me, dealer, E, R, began, heard, ev, ei, rv, ri, sv, si⟩ ⟨2, (k : Int), val⟩) (HB.out.mod0 ((Mod.drewN (Mod.refl _ _) _).drewN _)) ?_
    clear c0 c1 hf hy HB hh hsd
    intro W hW
    refine wp_region_N (fun w' => w'.cell? ⟨w.heap.size, 1, none⟩ = some (.int .i64 (k : Int)) ∧ w'.cell? ⟨w.heap.size, 2, none⟩ = some (.string val)) (fun _ => true) (by kernel_rfl) ?_
    have hS0 := hW.mod0 (Mod.refl [] _).drew
    generalize W.drew = W0 at *
    clear hW W
    have hf : ∀ i, W0.frozen? ⟨y, i, none⟩ = false := free_at hS0.node
    have hh := hS0.node.hasE k hk17
    have hsd := hS0.node.saidE k hk17
    dsimp only at hh hsd
    rw [HLK.out] at hh hsd
    simp only [Option.isSome_none, Option.getD_none] at hh hsd
    have b1 : W0.cell? ⟨w.heap.size, 1, none⟩ = some (.int .i64 (k : Int)) := by rw [cell_at hS0.box]; rfl
    have b2 : W0.cell? ⟨w.heap.size, 2, none⟩ = some (.string val) := by rw [cell_at hS0.box]; rfl
    have hne : w.heap.size ∉ [y] := by have := hS0.ly; simp; omega
    have HS0 := hid hS0
    have hm1 : Mod [y] W0 (W0.setCell ⟨y, 38 + k, none⟩ (.bool true)) := Mod.setCell (Mod.refl _ _) (by simp) _
    have hc1 := get_setCell_self hS0.node (38 + k) (.bool true)
    have hsd1 : (W0.setCell ⟨y, 38 + k, none⟩ (.bool true)).cell? ⟨y, 4 + k, none⟩ = some (.string ByteArray.empty) := by
      rw [cell_at hc1, Array.getElem?_setIfInBounds_ne (by omega), ← cell_at hS0.node]; exact hsd
    have hf1 : ∀ i, (W0.setCell ⟨y, 38 + k, none⟩ (.bool true)).frozen? ⟨y, i, none⟩ = false := free_at hc1
    have hR2 := hS0.addE (v := val) HLK.out hk17
    have HR := hid (And.intro hm1 (And.intro hsd1 (And.intro hf1 hR2)))
    clear hS0 hm1 hc1 hsd1 hf1 hR2
    have hS : (fun w' : World => w'.cell? ⟨w.heap.size, 1, none⟩ = some (.int .i64 (k : Int)) ∧ w'.cell? ⟨w.heap.size, 2, none⟩ = some (.string val)) W0 := ⟨b1, b2⟩
    refine regA 0 73 (v := ?_) rfl rfl (by kernel_rfl) (by kernel_rfl) (by kernel_rfl) (fun _ _ _ h => h) (by rfl) (fun w => ?_) ?_; rotate_left; (go_simp; first | done | with_reducible rfl); (try simp only [Act.put, List.setIfInBounds_toArray, List.set_cons_zero, List.set_cons_succ])
    refine regA 1 74 (v := ?_) rfl rfl (by kernel_rfl) (by kernel_rfl) (by kernel_rfl) (fun _ _ _ h => h) (by rfl) (fun w => ?_) ?_; rotate_left; (go_simp; first | done | with_reducible rfl); (try simp only [Act.put, List.setIfInBounds_toArray, List.set_cons_zero, List.set_cons_succ])
    refine regS 2 75 (v := ?_) hS rfl rfl (by kernel_rfl) (by kernel_rfl) (by kernel_rfl) (by kernel_rfl) (fun _ _ _ h => h) (by rfl) (fun w hSw => ?_) ?_; rotate_left; (go_simp; first | done | with_reducible rfl); (try simp only [Act.put, List.setIfInBounds_toArray, List.set_cons_zero, List.set_cons_succ])
    refine regA 3 76 (v := ?_) rfl rfl (by kernel_rfl) (by kernel_rfl) (by kernel_rfl) (fun _ _ _ h => h) (by rfl) (fun w => ?_) ?_; rotate_left; (go_simp; first | done | with_reducible rfl); (try simp only [Act.put, List.setIfInBounds_toArray, List.set_cons_zero, List.set_cons_succ])
    refine regA 4 77 (v := ?_) rfl rfl (by kernel_rfl) (by kernel_rfl) (by kernel_rfl) (fun _ _ _ h => h) (by rfl) (fun w => ?_) ?_; rotate_left; (go_simp; first | done | with_reducible rfl); (try simp only [Act.put, List.setIfInBounds_toArray, List.set_cons_zero, List.set_cons_succ])
    refine regS 5 78 (v := ?_) hS rfl rfl (by kernel_rfl) (by kernel_rfl) (by kernel_rfl) (by kernel_rfl) (fun _ _ _ h => h) (by rfl) (fun w hSw => ?_) ?_; rotate_left; (go_simp; first | done | with_reducible rfl); (try simp only [Act.put, List.setIfInBounds_toArray, List.set_cons_zero, List.set_cons_succ])
    refine regA 6 79 (v := ?_) rfl rfl (by kernel_rfl) (by kernel_rfl) (by kernel_rfl) (fun _ _ _ h => h) (by rfl) (fun w => ?_) ?_; rotate_left; (go_simp; first | done | with_reducible rfl); (try simp only [Act.put, List.setIfInBounds_toArray, List.set_cons_zero, List.set_cons_succ])
    refine regS 7 80 (v := ?_) hS rfl rfl (by kernel_rfl) (by kernel_rfl) (by kernel_rfl) (by kernel_rfl) (fun _ _ _ h => h) (by rfl) (fun w hSw => ?_) ?_; rotate_left; (go_simp; first | done | with_reducible rfl); (try simp only [Act.put, List.setIfInBounds_toArray, List.set_cons_zero, List.set_cons_succ])
    refine regA 8 81 (v := ?_) rfl rfl (by kernel_rfl) (by kernel_rfl) (by kernel_rfl) (fun _ _ _ h => h) (by rfl) (fun w => ?_) ?_; rotate_left; (go_simp; first | done | with_reducible rfl); (try simp only [Act.put, List.setIfInBounds_toArray, List.set_cons_zero, List.set_cons_succ])
    refine regA 9 82 (v := ?_) rfl rfl (by kernel_rfl) (by kernel_rfl) (by kernel_rfl) (fun _ _ _ h => h) (by rfl) (fun w => ?_) ?_; rotate_left; (go_simp; first | done | with_reducible rfl); (try simp only [Act.put, List.setIfInBounds_toArray, List.set_cons_zero, List.set_cons_succ])
    refine regA 10 83 (v := ?_) rfl rfl (by kernel_rfl) (by kernel_rfl) (by kernel_rfl) (fun _ _ _ h => h) (by rfl) (fun w => ?_) ?_; rotate_left; (go_simp; first | done | with_reducible rfl); (try simp only [Act.put, List.setIfInBounds_toArray, List.set_cons_zero, List.set_cons_succ])
    refine regA 12 84 (v := ?_) rfl rfl (by kernel_rfl) (by kernel_rfl) (by kernel_rfl) (fun _ _ _ h => h) (by rfl) (fun w => ?_) ?_; rotate_left; (go_simp; first | done | with_reducible rfl); (try simp only [Act.put, List.setIfInBounds_toArray, List.set_cons_zero, List.set_cons_succ])
    refine regA 13 85 (v := ?_) rfl rfl (by kernel_rfl) (by kernel_rfl) (by kernel_rfl) (fun _ _ _ h => h) (by rfl) (fun w => ?_) ?_; rotate_left; (go_simp; first | done | with_reducible rfl); (try simp only [Act.put, List.setIfInBounds_toArray, List.set_cons_zero, List.set_cons_succ])
    refine regOnly 11 (by kernel_rfl) rfl (by rfl) (fun K hK => ?_)
    go_wp2_with fail
    obtain ⟨hm1, hsd1, hf1, hR2⟩ := HR.out
    clear HR hsd hf hh
    generalize W0.setCell ⟨y, 38 + k, none⟩ (.bool true) = W1 at *
    have b1' := hm1.cell b1 hne
    have b2' := hm1.cell b2 hne
    refine hK.out _ _ (fun _ _ => ⟨b1', b2'⟩) ?_
    clear hK hS b1 b2
    (try simp only [Act.put, List.setIfInBounds_toArray, List.set_cons_zero, List.set_cons_succ])
    refine regA 14 86 (v := ?_) rfl rfl (by kernel_rfl) (by kernel_rfl) (by kernel_rfl) (fun _ _ _ h => h) (by rfl) (fun w => ?_) ?_; rotate_left; (go_simp; first | done | with_reducible rfl); (try simp only [Act.put, List.setIfInBounds_toArray, List.set_cons_zero, List.set_cons_succ])
    refine regOnly 15 (by kernel_rfl) rfl (by rfl) (fun K hK => ?_)
    have HR2 := hid hR2
    clear hR2
    go_wp2_with fail
    have hR2 := HR2.out
    have hm2 : Mod [y] W1 (W1.setCell ⟨y, 4 + k, none⟩ (.string val)) := Mod.setCell (Mod.refl _ _) (by simp) _
    have b1 := hm2.cell b1' hne
    have b2 := hm2.cell b2' hne
    clear HR2 hsd1 hf1 hm2
    generalize W1.setCell ⟨y, 4 + k, none⟩ (.string val) = W2 at *
    refine hK.out _ _ (fun _ _ => ⟨b1, b2⟩) ?_
    clear hK b1' b2' hm1
    (try simp only [Act.put, List.setIfInBounds_toArray, List.set_cons_zero, List.set_cons_succ])
    refine regDone (by kernel_rfl) ?_ _
    have HR2 := hid hR2
    clear hR2 HS0 W0 W1
    go_wp2_with fail
    obtain ⟨c0, c1, c2, c3, c72, c73, c74, c75, c76, c77, c78, c79, hf, hy⟩ := HR2.out.node.all
    dsimp only at c0 c1
    have hlen1 := addL_len E (k : Int) val
    have hcount := fun W' h0 => count_any W' y n (addL E (k : Int) val) val (HK.out.add hkn.1 hkn.2) (addL_ok HE.out _ _).keys hn hn' (by omega) h0
    have hcl := cnt_le (addL E (k : Int) val) val
    have HT' := HT.out
    rw [HA.out] at HT'
    have HT2 := hid HT'
    have hF := fun (W' : World) (h : RefAt W' y ⟨n, t, me, dealer, addL E (k : Int) val, R, began, heard, ev, ei, rv, ri, sv, si⟩) => h.loadHE
    have hT := fun (W' : World) (h : RefAt W' y ⟨n, t, me, dealer, addL E (k : Int) val, R, began, heard, ev, ei, rv, ri, sv, si⟩) => h.loadE
    dsimp only at hF hT
    generalize addL E (k : Int) val = E1 at *
    obtain ⟨cn, hcn⟩ : ∃ c, c = cnt E1 val := ⟨_, rfl⟩
    rw [← hcn] at HT2 hcl
    simp only [← hcn] at hcount
    have s1 : IntKind.i64.wrap (2 * (cn : Int)) = 2 * (cn : Int) := IntWalk.i64_in _ (by omega)
    have s2 : IntKind.i64.wrap (n + t) = n + t := IntWalk.i64_in _ (by omega)
    have hN1 := HR2.out.node
    have HC := hid hcount
    clear hcount c2 c3 c72 c73 c74 c75 c76 c77 c78 c79 HK HE HLK HT HT' HA hcn hl hlen1
    refine wp_region_N (fun w' => RefAt w' y ⟨n, t, me, dealer, E1, R, began, heard, ev, ei, rv, ri, sv, si⟩ ∧ w'.cell? ⟨y, 0, none⟩ = some (.int .i64 n) ∧ w'.cell? ⟨y, 1, none⟩ = some (.int .i64 t) ∧ w'.cell? ⟨w.heap.size, 2, none⟩ = some (.string val)) (fun _ => true) (by kernel_rfl) ?_
    have hS : (fun w' : World => RefAt w' y ⟨n, t, me, dealer, E1, R, began, heard, ev, ei, rv, ri, sv, si⟩ ∧ w'.cell? ⟨y, 0, none⟩ = some (.int .i64 n) ∧ w'.cell? ⟨y, 1, none⟩ = some (.int .i64 t) ∧ w'.cell? ⟨w.heap.size, 2, none⟩ = some (.string val)) W2.drew := ⟨hN1, c0, c1, b2⟩
    refine regA 0 87 (v := ?_) rfl rfl (by kernel_rfl) (by kernel_rfl) (by kernel_rfl) (fun _ _ _ h => h) (by rfl) (fun w => ?_) ?_; rotate_left; (go_simp; first | done | with_reducible rfl); (try simp only [Act.put, List.setIfInBounds_toArray, List.set_cons_zero, List.set_cons_succ])
    refine regA 1 88 (v := ?_) rfl rfl (by kernel_rfl) (by kernel_rfl) (by kernel_rfl) (fun _ _ _ h => h) (by rfl) (fun w => ?_) ?_; rotate_left; (go_simp; first | done | with_reducible rfl); (try simp only [Act.put, List.setIfInBounds_toArray, List.set_cons_zero, List.set_cons_succ])
    refine regA 2 89 (v := ?_) rfl rfl (by kernel_rfl) (by kernel_rfl) (by kernel_rfl) (fun _ _ _ h => h) (by rfl) (fun w => ?_) ?_; rotate_left; (go_simp; first | done | with_reducible rfl); (try simp only [Act.put, List.setIfInBounds_toArray, List.set_cons_zero, List.set_cons_succ])
    refine regA 3 90 (v := ?_) rfl rfl (by kernel_rfl) (by kernel_rfl) (by kernel_rfl) (fun _ _ _ h => h) (by rfl) (fun w => ?_) ?_; rotate_left; (go_simp; first | done | with_reducible rfl); (try simp only [Act.put, List.setIfInBounds_toArray, List.set_cons_zero, List.set_cons_succ])
    refine regS 4 91 (v := .agg (flags E1).toArray) hS rfl rfl (by kernel_rfl) (by kernel_rfl) (by kernel_rfl) (by kernel_rfl) (fun _ _ _ h => h) (by rfl) (fun w hSw => ?_) ?_; exact run_load_op _ _ rfl (hF w hSw.1); (try simp only [Act.put, List.setIfInBounds_toArray, List.set_cons_zero, List.set_cons_succ])
    refine regA 5 92 (v := ?_) rfl rfl (by kernel_rfl) (by kernel_rfl) (by kernel_rfl) (fun _ _ _ h => h) (by rfl) (fun w => ?_) ?_; rotate_left; (go_simp; first | done | with_reducible rfl); (try simp only [Act.put, List.setIfInBounds_toArray, List.set_cons_zero, List.set_cons_succ])
    refine regA 6 93 (v := ?_) rfl rfl (by kernel_rfl) (by kernel_rfl) (by kernel_rfl) (fun _ _ _ h => h) (by rfl) (fun w => ?_) ?_; rotate_left; (go_simp; first | done | with_reducible rfl); (try simp only [Act.put, List.setIfInBounds_toArray, List.set_cons_zero, List.set_cons_succ])
    refine regA 7 94 (v := ?_) rfl rfl (by kernel_rfl) (by kernel_rfl) (by kernel_rfl) (fun _ _ _ h => h) (by rfl) (fun w => ?_) ?_; rotate_left; (go_simp; first | done | with_reducible rfl); (try simp only [Act.put, List.setIfInBounds_toArray, List.set_cons_zero, List.set_cons_succ])
    refine regS 8 95 (v := .agg (texts E1).toArray) hS rfl rfl (by kernel_rfl) (by kernel_rfl) (by kernel_rfl) (by kernel_rfl) (fun _ _ _ h => h) (by rfl) (fun w hSw => ?_) ?_; exact run_load_op _ _ rfl (hT w hSw.1); (try simp only [Act.put, List.setIfInBounds_toArray, List.set_cons_zero, List.set_cons_succ])
    refine regA 9 96 (v := ?_) rfl rfl (by kernel_rfl) (by kernel_rfl) (by kernel_rfl) (fun _ _ _ h => h) (by rfl) (fun w => ?_) ?_; rotate_left; (go_simp; first | done | with_reducible rfl); (try simp only [Act.put, List.setIfInBounds_toArray, List.set_cons_zero, List.set_cons_succ])
    refine regS 10 97 (v := ?_) hS rfl rfl (by kernel_rfl) (by kernel_rfl) (by kernel_rfl) (by kernel_rfl) (fun _ _ _ h => h) (by rfl) (fun w hSw => ?_) ?_; rotate_left; (go_simp; first | done | with_reducible rfl); (try simp only [Act.put, List.setIfInBounds_toArray, List.set_cons_zero, List.set_cons_succ])
    refine regA 13 100 (v := ?_) rfl rfl (by kernel_rfl) (by kernel_rfl) (by kernel_rfl) (fun _ _ _ h => h) (by rfl) (fun w => ?_) ?_; rotate_left; (go_simp; first | done | with_reducible rfl); (try simp only [Act.put, List.setIfInBounds_toArray, List.set_cons_zero, List.set_cons_succ])
    refine regA 14 101 (v := ?_) rfl rfl (by kernel_rfl) (by kernel_rfl) (by kernel_rfl) (fun _ _ _ h => h) (by rfl) (fun w => ?_) ?_; rotate_left; (go_simp; first | done | with_reducible rfl); (try simp only [Act.put, List.setIfInBounds_toArray, List.set_cons_zero, List.set_cons_succ])
    refine regA 15 102 (v := ?_) rfl rfl (by kernel_rfl) (by kernel_rfl) (by kernel_rfl) (fun _ _ _ h => h) (by rfl) (fun w => ?_) ?_; rotate_left; (go_simp; first | done | with_reducible rfl); (try simp only [Act.put, List.setIfInBounds_toArray, List.set_cons_zero, List.set_cons_succ])
    refine regS 16 103 (v := ?_) hS rfl rfl (by kernel_rfl) (by kernel_rfl) (by kernel_rfl) (by kernel_rfl) (fun _ _ _ h => h) (by rfl) (fun w hSw => ?_) ?_; rotate_left; (go_simp; first | done | with_reducible rfl); (try simp only [Act.put, List.setIfInBounds_toArray, List.set_cons_zero, List.set_cons_succ])
    refine regA 17 104 (v := ?_) rfl rfl (by kernel_rfl) (by kernel_rfl) (by kernel_rfl) (fun _ _ _ h => h) (by rfl) (fun w => ?_) ?_; rotate_left; (go_simp; first | done | with_reducible rfl); (try simp only [Act.put, List.setIfInBounds_toArray, List.set_cons_zero, List.set_cons_succ])
    refine regA 18 105 (v := ?_) rfl rfl (by kernel_rfl) (by kernel_rfl) (by kernel_rfl) (fun _ _ _ h => h) (by rfl) (fun w => ?_) ?_; rotate_left; (go_simp; first | done | with_reducible rfl); (try simp only [Act.put, List.setIfInBounds_toArray, List.set_cons_zero, List.set_cons_succ])
    refine regA 19 106 (v := ?_) rfl rfl (by kernel_rfl) (by kernel_rfl) (by kernel_rfl) (fun _ _ _ h => h) (by rfl) (fun w => ?_) ?_; rotate_left; (go_simp; first | done | with_reducible rfl); (try simp only [Act.put, List.setIfInBounds_toArray, List.set_cons_zero, List.set_cons_succ])
    refine regS 20 107 (v := ?_) hS rfl rfl (by kernel_rfl) (by kernel_rfl) (by kernel_rfl) (by kernel_rfl) (fun _ _ _ h => h) (by rfl) (fun w hSw => ?_) ?_; rotate_left; (go_simp; first | done | with_reducible rfl); (try simp only [Act.put, List.setIfInBounds_toArray, List.set_cons_zero, List.set_cons_succ])
    refine regA 21 108 (v := ?_) rfl rfl (by kernel_rfl) (by kernel_rfl) (by kernel_rfl) (fun _ _ _ h => h) (by rfl) (fun w => ?_) ?_; rotate_left; (go_simp; first | done | with_reducible rfl); (try simp only [Act.put, List.setIfInBounds_toArray, List.set_cons_zero, List.set_cons_succ])
    refine regOnly 11 (by kernel_rfl) rfl (by rfl) (fun K hK => ?_)
    go_wp2_with (first
      | (go_at_call 31; refine (HC.out W2.drew c0).mono ?_; rintro e w7 ⟨rfl, hm7'⟩; have hm7 := (Mod.refl [] W2).drew.trans hm7'; clear hm7'))
    refine hK.out _ _ (fun _ _ => ⟨hN1.mod hm7 (by simp), hm7.cell c0 (by simp), hm7.cell c1 (by simp), hm7.cell b2 (by simp)⟩) ?_
    clear hK hS
    (try simp only [Act.put, List.setIfInBounds_toArray, List.set_cons_zero, List.set_cons_succ])
    refine regA 12 99 (v := ?_) rfl rfl (by kernel_rfl) (by kernel_rfl) (by kernel_rfl) (fun _ _ _ h => h) (by rfl) (fun w => ?_) ?_; rotate_left; (go_simp; first | done | with_reducible rfl); (try simp only [Act.put, List.setIfInBounds_toArray, List.set_cons_zero, List.set_cons_succ])
    have HR3 := hid (HR2.out.mod0 hm7)
    have b2' := hm7.cell b2 (by simp)
    clear HR2 hN1 hm7 hf c0 c1 b1 b2
    by_cases hq : n + t < 2 * (cn : Int)
    · refine regA 22 109 (v := ?_) rfl rfl (by kernel_rfl) (by kernel_rfl) (by kernel_rfl) (fun _ _ _ h => h) (by rfl) (fun w => ?_) ?_; rotate_left; (go_simp; first | done | with_reducible rfl); (try simp only [Act.put, List.setIfInBounds_toArray, List.set_cons_zero, List.set_cons_succ])
      refine regDone (by kernel_rfl) ?_ _
      go_wp2_with (first
        | (go_at_call 32; refine (ready_any w7 y _ val HR3.out.node).mono ?_; rintro e w8 ⟨v, rfl, h8⟩; have H8 := hid h8; clear h8))
      go_ret
      exact HR3.out.sent (HT2.out.trans (if_pos hq)) ⟨v, rfl, H8.out⟩
    · refine regA 22 109 (v := ?_) rfl rfl (by kernel_rfl) (by kernel_rfl) (by kernel_rfl) (fun _ _ _ h => h) (by rfl) (fun w => ?_) ?_; rotate_left; (go_simp; first | done | with_reducible rfl); (try simp only [Act.put, List.setIfInBounds_toArray, List.set_cons_zero, List.set_cons_succ])
      refine regDone (by kernel_rfl) ?_ _
      go_wp2_with fail
      go_ret
      exact HR3.out.idle (HT2.out.trans (if_neg (by omega))) (Mod.refl _ _)
end Go.Proofs.Ytcgfjalglnlofaa
