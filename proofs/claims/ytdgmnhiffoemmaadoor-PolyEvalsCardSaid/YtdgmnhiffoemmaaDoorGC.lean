/-
  The carry calls math/bits.Add64, Sub64 at this program's numbers, and the plain words for what they answer. No statement of a claim stands here; each lemma names what it asks.
-/
import Derived.Test.YtdgmnhiffoemmaaDoorProg
import Derived.Test.YtdgmnhiffoemmaaDoorGB
import Derived.Shelf.Spec.BitsCarry
import Derived.Test.YtdgmnhiffoemmaaDoorGA
import Derived.Laws.StructEq
import Derived.Deep.QuietTactic
import Derived.BigQuiet
import Derived.Deep.LoopGhost
import Derived.Deep.RegionHeld3
import Derived.Deep.DeepCutAuto
import Derived.ChangeKeysEq
import Derived.Test.YtdgmnhiffoemmaaDoorPShelf
import Derived.Laws.MakeOwn
import Derived.Laws.OwnMore
namespace Go.Proofs.YtdgmnhiffoemmaaDoor
open Go

theorem add64_call (x y c : Nat) (hc : c ≤ 1) (w : World) :
    (callFunc 61 #[.int .u64 x, .int .u64 y, .int .u64 c]).run Tryd.prog w =
      .ok (.value (.tuple #[.int .u64 (((x + y + c) % BB : Nat) : Int), .int .u64 (((x + y + c) / BB : Nat) : Int)])) w := by
  rw [run_callFunc_extern (f := 61) (fn := Tryd.f61) (by kernel_rfl) (by kernel_rfl) (by kernel_rfl) (by kernel_rfl) (e := add64Entry) (by kernel_rfl), run_add64 x y c (by omega) (by omega) (by omega) (by omega)]
  simp only [Result.andThen, BB]
  congr 5 <;> omega

theorem sub64_call (x y b : Nat) (hb : b ≤ 1) (w : World) :
    (callFunc 75 #[.int .u64 x, .int .u64 y, .int .u64 b]).run Tryd.prog w =
      .ok (.value (.tuple #[.int .u64 (((x + BB - y - b) % BB : Nat) : Int), .int .u64 ((if x < y + b then 1 else 0 : Nat) : Int)])) w := by
  rw [run_callFunc_extern (f := 75) (fn := Tryd.f75) (by kernel_rfl) (by kernel_rfl) (by kernel_rfl) (by kernel_rfl) (e := sub64Entry) (by kernel_rfl), run_sub64 x y b hb]
  rfl
end Go.Proofs.YtdgmnhiffoemmaaDoor
/-
  The little functions of limb, walked: Of, Widen. No statement of a claim stands here; each contract names what it asks.
-/
set_option linter.unusedSimpArgs false
namespace Go.Proofs.YtdgmnhiffoemmaaDoor
open Go Go.RowKit Go.ChangeMaps

/-- Parts, as the program bears them. -/
def wv (l : List Nat) : Value := .agg (l.map fun x => .int .u64 (x : Int)).toArray

theorem of_any (x : Nat) (w : World) :
    Calls Tryd.prog 30 #[.int .u64 x] w fun e w' => e = .returned (wv [x, 0, 0, 0]) ∧ Mod [] w w' := by
  go_enter Tryd.func30, Tryd.ntmps30
  go_wp2
  simp [bodyPost, results, Tryd.results30, go_sem]
  refine ⟨by rfl, ?_⟩
  exact ((Mod.refl _ _).alloc _)

theorem widen_any (a b c d : Nat) (w : World) :
    Calls Tryd.prog 41 #[wv [a, b, c, d]] w fun e w' => e = .returned (wv [a, b, c, d, 0, 0, 0, 0]) ∧ Mod [] w w' := by
  unfold wv
  go_enter Tryd.func41, Tryd.ntmps41
  go_wp2
  simp [bodyPost, results, Tryd.results41, go_sem]
  exact (((Mod.refl _ _).alloc _).alloc _)
end Go.Proofs.YtdgmnhiffoemmaaDoor
/-
  Rows as cells: plain facts. No statement of a claim stands here; each lemma names what it asks.
-/
namespace Go.Proofs.YtdgmnhiffoemmaaDoor
open Go

/-- Parts, as cells. -/
def wcells (l : List Nat) : Array Value := (l.map fun (x : Nat) => Value.int .u64 (x : Int)).toArray

theorem wcells_get (l : List Nat) (i : Nat) : (wcells l)[i]? = (l[i]?).map fun (x : Nat) => Value.int .u64 (x : Int) := by
  simp only [wcells, List.getElem?_toArray, List.getElem?_map]
theorem wcells_set (l : List Nat) (i x : Nat) : (wcells l).setIfInBounds i (.int .u64 (x : Int)) = wcells (l.set i x) := by
  simp [wcells, List.map_set]
theorem drop_at {l : List Nat} {j x : Nat} (h : l[j]? = some x) : l.drop j = x :: l.drop (j + 1) := by
  obtain ⟨hj, e⟩ := List.getElem?_eq_some_iff.1 h
  rw [List.drop_eq_getElem_cons hj, e]
theorem mix_get {O U : List Nat} {j x : Nat} (hO : j ≤ O.length) (hx : U[j]? = some x) : (O.take j ++ U.drop j)[j]? = some x := by
  rw [List.getElem?_append_right (by simp; omega), drop_at hx]
  simp [Nat.min_eq_left hO]
theorem mix_set {O U : List Nat} {j x z : Nat} (hz : O[j]? = some z) (hx : U[j]? = some x) : (O.take j ++ U.drop j).set j z = O.take (j + 1) ++ U.drop (j + 1) := by
  obtain ⟨hj, e⟩ := List.getElem?_eq_some_iff.1 hz
  rw [List.set_append_right _ _ (by simp; omega), drop_at hx, List.take_add_one, hz]
  simp [Nat.min_eq_left (Nat.le_of_lt hj)]
theorem addC_at {U V O : List Nat} {j k c x y : Nat} (hx : U[j]? = some x) (hy : V[j]? = some y) (h : addC (U.drop j) (V.drop j) k = (O.drop j, c)) :
    O[j]? = some ((x + y + k) % BB) ∧ addC (U.drop (j + 1)) (V.drop (j + 1)) ((x + y + k) / BB) = (O.drop (j + 1), c) := by
  rw [drop_at hx, drop_at hy, addC] at h
  have h1 := congrArg Prod.fst h
  have h2 := congrArg Prod.snd h
  dsimp only at h1 h2
  have e : O[j]? = some ((x + y + k) % BB) := by
    have := congrArg (fun l => l[0]?) h1
    simpa using this.symm
  refine ⟨e, ?_⟩
  rw [drop_at e] at h1
  exact Prod.ext (List.cons.inj h1).2 h2
end Go.Proofs.YtdgmnhiffoemmaaDoor
/-
  limb.Add, walked. No statement of a claim stands here; each contract names what it asks.
-/
set_option linter.unusedSimpArgs false
namespace Go.Proofs.YtdgmnhiffoemmaaDoor
open Go Go.RowKit Go.ChangeMaps


/-- What the loads read. -/
def PairSat (t j x y : Nat) (w' : World) : Prop :=
  w'.cell? ⟨t, j, none⟩ = some (.int .u64 x) ∧ w'.cell? ⟨t + 1, j, none⟩ = some (.int .u64 y)

theorem carry1 {x y k : Nat} (hx : x < BB) (hy : y < BB) (hk : k ≤ 1) : (x + y + k) / BB ≤ 1 := by
  unfold BB at hx hy ⊢
  omega
theorem three_a (w : World) (A B C : Obj) : (((w.alloc A).alloc B).alloc C).heap[w.heap.size]? = some A :=
  (((Mod.refl [] (w.alloc A)).alloc B).alloc C).get (get_new w A) (by simp)
theorem three_b (w : World) (A B C : Obj) : (((w.alloc A).alloc B).alloc C).heap[w.heap.size + 1]? = some B := by
  have h := ((Mod.refl [] ((w.alloc A).alloc B)).alloc C).get (get_new (w.alloc A) B) (by simp)
  have e : (w.alloc A).heap.size = w.heap.size + 1 := Array.size_push _
  rwa [e] at h
theorem three_c (w : World) (A B C : Obj) : (((w.alloc A).alloc B).alloc C).heap[w.heap.size + 1 + 1]? = some C := by
  have h := get_new ((w.alloc A).alloc B) C
  have e : (w.alloc A).heap.size = w.heap.size + 1 := Array.size_push _
  have e2 : ((w.alloc A).alloc B).heap.size = (w.alloc A).heap.size + 1 := Array.size_push _
  rwa [e2, e] at h

/-- While two rows are added. -/
def AddRel (W : World) (ta tb tc : Nat) (u v : List Nat) (gk : Nat) (c i : Value) (w : World) : Prop :=
  ∃ (j k : Nat), i = .int .i64 j ∧ gk + j = 4 ∧ c = .int .u64 k ∧ k ≤ 1 ∧ addC (u.drop j) (v.drop j) k = ((addC u v 0).1.drop j, (addC u v 0).2) ∧
    w.heap[ta]? = some (.cells (wcells ((addC u v 0).1.take j ++ u.drop j)) 26) ∧ w.heap[tb]? = some (.cells (wcells v) 26) ∧ w.heap[tc]? = some (.cells (wcells [0, 0, 0, 0]) 26) ∧ Mod [ta] W w

theorem ladd_words (u v : List Nat) (hu : u.length = 4) (hv : v.length = 4) (su : Small u) (sv : Small v) (w : World) :
    Calls Tryd.prog 62 #[wv u, wv v] w fun e w' => e = .returned (.tuple #[wv (addC u v 0).1, .bool ((addC u v 0).2 == 1)]) ∧ Mod [] w w' := by
  obtain ⟨u0, u1, u2, u3, rfl⟩ : ∃ a b c d, u = [a, b, c, d] := by
    match u, hu with
    | [a, b, c, d], _ => exact ⟨_, _, _, _, rfl⟩
  obtain ⟨v0, v1, v2, v3, rfl⟩ : ∃ a b c d, v = [a, b, c, d] := by
    match v, hv with
    | [a, b, c, d], _ => exact ⟨_, _, _, _, rfl⟩
  clear hu hv
  have SU := hid (And.intro su sv)
  clear su sv
  unfold wv
  go_enter Tryd.func62, Tryd.ntmps62
  go_wp2
  have hm := (((Mod.refl [] w).alloc (.cells (wcells [u0, u1, u2, u3]) 26)).alloc (.cells (wcells [v0, v1, v2, v3]) 26)).alloc (.cells (wcells [0, 0, 0, 0]) 26)
  go_loopg [6, 8] 4 (fun gk c i W' => AddRel (((w.alloc (.cells (wcells [u0, u1, u2, u3]) 26)).alloc (.cells (wcells [v0, v1, v2, v3]) 26)).alloc (.cells (wcells [0, 0, 0, 0]) 26)) w.heap.size (w.heap.size + 1) (w.heap.size + 1 + 1) [u0, u1, u2, u3] [v0, v1, v2, v3] gk c i W')
  case atStart =>
    refine ⟨0, 0, rfl, rfl, rfl, by omega, rfl, ?_, ?_, ?_, Mod.refl _ _⟩
    · exact three_a _ _ _ _
    · exact three_b _ _ _ _
    · exact three_c _ _ _ _
  case round =>
    obtain ⟨j, k, rfl, hj, rfl, hk, he, ga, gb, gc, hm2⟩ := hrel
    have lo : (addC [u0, u1, u2, u3] [v0, v1, v2, v3] 0).1.length = 4 := rfl
    have lu : [u0, u1, u2, u3].length = 4 := rfl
    have lv : [v0, v1, v2, v3].length = 4 := rfl
    generalize hU : [u0, u1, u2, u3] = U at *
    generalize hV : [v0, v1, v2, v3] = V at *
    generalize hO : addC U V 0 = O at *
    generalize hT : w.heap.size = t at *
    by_cases hj4 : j < 4
    · have j1 : (j : Int) < 4 := by omega
      have j0 : (0 : Int) ≤ (j : Int) := by omega
      have HR := hid (And.intro hm2 (And.intro he (And.intro ga (And.intro gb gc))))
      have HO := hid hO
      clear hm2 he ga gb gc hm hU hV hO
      go_upto_region 5 with (fail)
      obtain ⟨x, hx⟩ : ∃ x, U[j]? = some x := ⟨_, List.getElem?_eq_getElem (by omega)⟩
      obtain ⟨y, hy⟩ : ∃ y, V[j]? = some y := ⟨_, List.getElem?_eq_getElem (by omega)⟩
      have ga : wr.drew.heap[t]? = _ := HR.out.2.2.1
      have gb : wr.drew.heap[t + 1]? = _ := HR.out.2.2.2.1
      have gc : wr.drew.heap[t + 1 + 1]? = _ := HR.out.2.2.2.2
      have gm := HR.out.1.drew
      have cc := cell_at ga j
      rw [wcells_get, mix_get (by omega) hx] at cc
      have cb := cell_at gb j
      rw [wcells_get, hy] at cb
      have fz := free_at ga j
      have hS : PairSat t j x y wr.drew := ⟨cc, cb⟩
      have hat := addC_at hx hy HR.out.2.1
      have HQ := hid (And.intro ga (And.intro gb (And.intro gc (And.intro gm (And.intro hat (And.intro cc fz))))))
      clear ga gb gc gm cc cb fz HR hat
      refine wp_region_N (PairSat t j x y) (fun i => !(i == 13)) (by kernel_rfl) ?_
      generalize wr.drew = wd at *
      refine regA 0 12 (v := ?_) rfl rfl (by kernel_rfl) (by kernel_rfl) (by kernel_rfl) (fun _ _ _ h => h) (by rfl) (fun w => ?_) ?_; rotate_left; (go_simp; first | done | with_reducible rfl); (try simp only [Act.put, List.setIfInBounds_toArray, List.set_cons_zero, List.set_cons_succ])
      refine regA 1 13 (v := ?_) rfl rfl (by kernel_rfl) (by kernel_rfl) (by kernel_rfl) (fun _ _ _ h => h) (by rfl) (fun w => ?_) ?_; rotate_left; (go_simp; first | done | with_reducible rfl); (try simp only [Act.put, List.setIfInBounds_toArray, List.set_cons_zero, List.set_cons_succ])
      have e1 : (j : Int).toNat = j := rfl
      refine regA 2 14 (v := .pointer (some ⟨t, j, none⟩)) rfl rfl (by kernel_rfl) (by kernel_rfl) (by kernel_rfl) (fun _ _ _ h => h) (by rfl) (fun w => ?_) ?_
      · go_simp
      (try simp only [Act.put, List.setIfInBounds_toArray, List.set_cons_zero, List.set_cons_succ])
      refine regS 3 15 (v := ?_) hS rfl rfl (by kernel_rfl) (by kernel_rfl) (by kernel_rfl) (by kernel_rfl) (fun _ _ _ h => h) (by rfl) (fun w hSw => ?_) ?_; rotate_left; (simp only [PairSat] at hSw; go_simp; first | done | with_reducible rfl); (try simp only [Act.put, List.setIfInBounds_toArray, List.set_cons_zero, List.set_cons_succ])
      refine regA 4 16 (v := ?_) rfl rfl (by kernel_rfl) (by kernel_rfl) (by kernel_rfl) (fun _ _ _ h => h) (by rfl) (fun w => ?_) ?_; rotate_left; (go_simp; first | done | with_reducible rfl); (try simp only [Act.put, List.setIfInBounds_toArray, List.set_cons_zero, List.set_cons_succ])
      refine regA 5 17 (v := .pointer (some ⟨t + 1, j, none⟩)) rfl rfl (by kernel_rfl) (by kernel_rfl) (by kernel_rfl) (fun _ _ _ h => h) (by rfl) (fun w => ?_) ?_
      · go_simp
      (try simp only [Act.put, List.setIfInBounds_toArray, List.set_cons_zero, List.set_cons_succ])
      refine regS 6 18 (v := ?_) hS rfl rfl (by kernel_rfl) (by kernel_rfl) (by kernel_rfl) (by kernel_rfl) (fun _ _ _ h => h) (by rfl) (fun w hSw => ?_) ?_; rotate_left; (simp only [PairSat] at hSw; go_simp; first | done | with_reducible rfl); (try simp only [Act.put, List.setIfInBounds_toArray, List.set_cons_zero, List.set_cons_succ])
      refine regA 7 19 (v := ?_) rfl rfl (by kernel_rfl) (by kernel_rfl) (by kernel_rfl) (fun _ _ _ h => h) (by rfl) (fun w => ?_) ?_; rotate_left; (go_simp; first | done | with_reducible rfl); (try simp only [Act.put, List.setIfInBounds_toArray, List.set_cons_zero, List.set_cons_succ])
      clear hS
      refine regOnly 8 (by kernel_rfl) rfl (by rfl) (fun K hK => ?_)
      go_wp2_with (simp only [add64_call x y k hk])
      refine hK.out _ _ (fun _ h => h) ?_
      clear hK
      (try simp only [Act.put, List.setIfInBounds_toArray, List.set_cons_zero, List.set_cons_succ])
      refine regA 9 11 (v := ?_) rfl rfl (by kernel_rfl) (by kernel_rfl) (by kernel_rfl) (fun _ _ _ h => h) (by rfl) (fun w => ?_) ?_; rotate_left; (go_simp; first | done | with_reducible rfl); (try simp only [Act.put, List.setIfInBounds_toArray, List.set_cons_zero, List.set_cons_succ])
      refine regA 10 21 (v := ?_) rfl rfl (by kernel_rfl) (by kernel_rfl) (by kernel_rfl) (fun _ _ _ h => h) (by rfl) (fun w => ?_) ?_; rotate_left; (go_simp; first | done | with_reducible rfl); (try simp only [Act.put, List.setIfInBounds_toArray, List.set_cons_zero, List.set_cons_succ])
      refine regA 11 22 (v := ?_) rfl rfl (by kernel_rfl) (by kernel_rfl) (by kernel_rfl) (fun _ _ _ h => h) (by rfl) (fun w => ?_) ?_; rotate_left; (go_simp; first | done | with_reducible rfl); (try simp only [Act.put, List.setIfInBounds_toArray, List.set_cons_zero, List.set_cons_succ])
      refine regA 12 23 (v := .pointer (some ⟨t, j, none⟩)) rfl rfl (by kernel_rfl) (by kernel_rfl) (by kernel_rfl) (fun _ _ _ h => h) (by rfl) (fun w => ?_) ?_
      · go_simp
      (try simp only [Act.put, List.setIfInBounds_toArray, List.set_cons_zero, List.set_cons_succ])
      have fz := HQ.out.2.2.2.2.2.2
      have cc := HQ.out.2.2.2.2.2.1
      refine regOnly 13 (by kernel_rfl) rfl (by rfl) (fun K hK => ?_)
      go_wp2_with fail
      refine hK.out _ _ (fun h _ => absurd h (by decide)) ?_
      clear hK
      (try simp only [Act.put, List.setIfInBounds_toArray, List.set_cons_zero, List.set_cons_succ])
      refine regA 14 6 (v := ?_) rfl rfl (by kernel_rfl) (by kernel_rfl) (by kernel_rfl) (fun _ _ _ h => h) (by rfl) (fun w => ?_) ?_; rotate_left; (go_simp; first | done | with_reducible rfl); (try simp only [Act.put, List.setIfInBounds_toArray, List.set_cons_zero, List.set_cons_succ])
      refine regDone (by kernel_rfl) ?_ _
      go_wp2
      obtain ⟨ga, gb, gc, gm, ⟨hz, hc⟩, -, -⟩ := HQ.out
      have gs := get_setCell_self ga j (.int .u64 (((x + y + k) % BB : Nat) : Int))
      rw [wcells_set, mix_set hz hx] at gs
      have hmS := gm.setCell (p := ⟨t, j, none⟩) (.inl (by simp)) (.int .u64 (((x + y + k) % BB : Nat) : Int))
      have hms := (Mod.refl [t] wd).setCell (p := ⟨t, j, none⟩) (.inl (by simp)) (.int .u64 (((x + y + k) % BB : Nat) : Int))
      have kx := SU.out.1.get hx
      have ky := SU.out.2.get hy
      have hO := HO.out
      subst hO
      simp only [Int.natCast_emod, Int.natCast_add] at gs hmS hms
      go_roundg (gk - 1)
      case measure => omega
      case rel => exact ⟨j + 1, (x + y + k) / BB, rfl, by omega, rfl, carry1 kx ky hk, hc, gs, hms.get gb (by rw [List.mem_singleton]; omega), hms.get gc (by rw [List.mem_singleton]; omega), hmS⟩
    · have j1 : ¬ (j : Int) < 4 := by omega
      obtain rfl : j = 4 := by omega
      have hk2 : k = O.2 := by
        have h := congrArg Prod.snd he
        rw [List.drop_eq_nil_of_le (by omega), List.drop_eq_nil_of_le (by omega)] at h
        exact h
      rw [List.take_of_length_le (by omega), List.drop_eq_nil_of_le (by omega), List.append_nil] at ga
      have gf : O = (O.1, O.2) := rfl
      obtain ⟨o0, o1, o2, o3, ho⟩ : ∃ a b c d, O.1 = [a, b, c, d] := by
        match O.1, lo with
        | [a, b, c, d], _ => exact ⟨_, _, _, _, rfl⟩
      have HE := hid (And.intro hT (And.intro hO (And.intro ho (And.intro hk2 (And.intro hm (And.intro hm2 (And.intro hU hV)))))))
      rw [ho] at ga
      have c0 := cell_at ga 0
      have c1 := cell_at ga 1
      have c2 := cell_at ga 2
      have c3 := cell_at ga 3
      have d0 := cell_at gc 0
      have d1 := cell_at gc 1
      have d2 := cell_at gc 2
      have d3 := cell_at gc 3
      simp only [wcells_get] at c0 c1 c2 c3 d0 d1 d2 d3
      have f0 := free_at gc 0
      have f1 := free_at gc 1
      have f2 := free_at gc 2
      have f3 := free_at gc 3
      clear hU hV hO lo ho hk2 hm hm2 gf he gb hj hj4 hT
      go_wp2_with fail
      have q := get_setCell_self (get_setCell_self (get_setCell_self (get_setCell_self gc 0 (.int .u64 (o0 : Int))) 1 (.int .u64 (o1 : Int))) 2 (.int .u64 (o2 : Int))) 3 (.int .u64 (o3 : Int))
      have r0 := cell_at q 0
      have r1 := cell_at q 1
      have r2 := cell_at q 2
      have r3 := cell_at q 3
      clear c0 c1 c2 c3 d0 d1 d2 d3 f0 f1 f2 f3
      simp [wcells] at r0 r1 r2 r3
      simp [bodyPost, results, Tryd.results62, go_sem, r0, r1, r2, r3]
      obtain ⟨hT, hO, ho, hk2, hm, hm2, hU, hV⟩ := HE.out
      have hk3 : k = 0 ∨ k = 1 := by omega
      have hl : w.heap.size ≤ t + 1 + 1 := by omega
      refine ⟨⟨by rw [hU, hV, hO, ho]; rfl, by rw [hU, hV, hO, ← hk2]; rcases hk3 with h | h <;> rw [h] <;> rfl⟩, ?_⟩
      have m := hm.trans' hm2 (fun b hb => .inr (by rw [List.mem_singleton.1 hb]; omega))
      exact (((m.setCell (p := ⟨t + 1 + 1, 0, none⟩) (.inr hl) _).setCell (p := ⟨t + 1 + 1, 1, none⟩) (.inr hl) _).setCell (p := ⟨t + 1 + 1, 2, none⟩) (.inr hl) _).setCell (p := ⟨t + 1 + 1, 3, none⟩) (.inr hl) _
end Go.Proofs.YtdgmnhiffoemmaaDoor
/-
  limb.Sub, walked. No statement of a claim stands here; each contract names what it asks.
-/
set_option linter.unusedSimpArgs false
namespace Go.Proofs.YtdgmnhiffoemmaaDoor
open Go Go.RowKit Go.ChangeMaps


theorem subC_cons {x y c z q : Nat} {a b : List Nat} (hz : (x + BB - y - c) % BB = z) (hq : (if x < y + c then 1 else 0) = q) : subC (x :: a) (y :: b) c = (z :: (subC a b q).1, (subC a b q).2) := by
  simp only [subC, hz, hq]
theorem subC_at {U V O : List Nat} {j k c x y z q : Nat} (hz : (x + BB - y - k) % BB = z) (hq : (if x < y + k then 1 else 0) = q) (hx : U[j]? = some x) (hy : V[j]? = some y) (h : subC (U.drop j) (V.drop j) k = (O.drop j, c)) :
    O[j]? = some z ∧ subC (U.drop (j + 1)) (V.drop (j + 1)) q = (O.drop (j + 1), c) := by
  rw [drop_at hx, drop_at hy, subC_cons hz hq] at h
  clear hz hq
  have h1 := congrArg Prod.fst h
  have h2 := congrArg Prod.snd h
  dsimp only at h1 h2
  have e : O[j]? = some z := by
    have := congrArg (fun l => l[0]?) h1
    simpa using this.symm
  refine ⟨e, ?_⟩
  rw [drop_at e] at h1
  exact Prod.ext (List.cons.inj h1).2 h2

theorem sub_start (u v : List Nat) : subC (u.drop 0) (v.drop 0) 0 = ((subC u v 0).1.drop 0, (subC u v 0).2) := by
  rw [List.drop_zero, List.drop_zero, List.drop_zero]

/-- While two rows are taken from each other. -/
def SubRel (W : World) (ta tb tc : Nat) (u v : List Nat) (gk : Nat) (c i : Value) (w : World) : Prop :=
  ∃ (j k : Nat), i = .int .i64 j ∧ gk + j = 4 ∧ c = .int .u64 k ∧ k ≤ 1 ∧ subC (u.drop j) (v.drop j) k = ((subC u v 0).1.drop j, (subC u v 0).2) ∧
    w.heap[ta]? = some (.cells (wcells ((subC u v 0).1.take j ++ u.drop j)) 26) ∧ w.heap[tb]? = some (.cells (wcells v) 26) ∧ w.heap[tc]? = some (.cells (wcells [0, 0, 0, 0]) 26) ∧ Mod [ta] W w

theorem lsub_words (u v : List Nat) (hu : u.length = 4) (hv : v.length = 4) (su : Small u) (sv : Small v) (w : World) :
    Calls Tryd.prog 63 #[wv u, wv v] w fun e w' => e = .returned (.tuple #[wv (subC u v 0).1, .bool ((subC u v 0).2 == 1)]) ∧ Mod [] w w' := by
  obtain ⟨u0, u1, u2, u3, rfl⟩ : ∃ a b c d, u = [a, b, c, d] := by
    match u, hu with
    | [a, b, c, d], _ => exact ⟨_, _, _, _, rfl⟩
  obtain ⟨v0, v1, v2, v3, rfl⟩ : ∃ a b c d, v = [a, b, c, d] := by
    match v, hv with
    | [a, b, c, d], _ => exact ⟨_, _, _, _, rfl⟩
  clear hu hv
  have SU := hid (And.intro su sv)
  clear su sv
  unfold wv
  go_enter Tryd.func63, Tryd.ntmps63
  go_wp2
  have hm := (((Mod.refl [] w).alloc (.cells (wcells [u0, u1, u2, u3]) 26)).alloc (.cells (wcells [v0, v1, v2, v3]) 26)).alloc (.cells (wcells [0, 0, 0, 0]) 26)
  go_loopg [6, 8] 4 (fun gk c i W' => SubRel (((w.alloc (.cells (wcells [u0, u1, u2, u3]) 26)).alloc (.cells (wcells [v0, v1, v2, v3]) 26)).alloc (.cells (wcells [0, 0, 0, 0]) 26)) w.heap.size (w.heap.size + 1) (w.heap.size + 1 + 1) [u0, u1, u2, u3] [v0, v1, v2, v3] gk c i W')
  case atStart =>
    refine ⟨0, 0, rfl, rfl, rfl, by omega, sub_start _ _, by rw [List.take_zero, List.drop_zero, List.nil_append]; exact three_a _ _ _ _, ?_, ?_, Mod.refl _ _⟩
    · exact three_b _ _ _ _
    · exact three_c _ _ _ _
  case round =>
    obtain ⟨j, k, rfl, hj, rfl, hk, he, ga, gb, gc, hm2⟩ := hrel
    have lo : (subC [u0, u1, u2, u3] [v0, v1, v2, v3] 0).1.length = 4 := (subC_len [u0, u1, u2, u3] [v0, v1, v2, v3] 0 rfl).trans rfl
    have lu : [u0, u1, u2, u3].length = 4 := rfl
    have lv : [v0, v1, v2, v3].length = 4 := rfl
    generalize hU : [u0, u1, u2, u3] = U at *
    generalize hV : [v0, v1, v2, v3] = V at *
    generalize hO : subC U V 0 = O at *
    generalize hT : w.heap.size = t at *
    by_cases hj4 : j < 4
    · have j1 : (j : Int) < 4 := by omega
      have j0 : (0 : Int) ≤ (j : Int) := by omega
      have HR := hid (And.intro hm2 (And.intro he (And.intro ga (And.intro gb gc))))
      have HO := hid hO
      clear hm2 he ga gb gc hm hU hV hO
      go_upto_region 5 with (fail)
      obtain ⟨x, hx⟩ : ∃ x, U[j]? = some x := ⟨_, List.getElem?_eq_getElem (by omega)⟩
      obtain ⟨y, hy⟩ : ∃ y, V[j]? = some y := ⟨_, List.getElem?_eq_getElem (by omega)⟩
      have ga : wr.drew.heap[t]? = _ := HR.out.2.2.1
      have gb : wr.drew.heap[t + 1]? = _ := HR.out.2.2.2.1
      have gc : wr.drew.heap[t + 1 + 1]? = _ := HR.out.2.2.2.2
      have gm := HR.out.1.drew
      have cc := cell_at ga j
      rw [wcells_get, mix_get (by omega) hx] at cc
      have cb := cell_at gb j
      rw [wcells_get, hy] at cb
      have fz := free_at ga j
      obtain ⟨z, hzz⟩ : ∃ z, z = (x + BB - y - k) % BB := ⟨_, rfl⟩
      obtain ⟨bo, hbo⟩ : ∃ b, b = (if x < y + k then 1 else 0) := ⟨_, rfl⟩
      have hb1 : bo ≤ 1 := by rw [hbo]; split <;> omega
      have hcall : ∀ W : World, (callFunc 75 #[.int .u64 x, .int .u64 y, .int .u64 k]).run Tryd.prog W = .ok (.value (.tuple #[.int .u64 (z : Int), .int .u64 (bo : Int)])) W := fun W => by
        rw [hzz, hbo]
        exact sub64_call x y k hk W
      have hS : PairSat t j x y wr.drew := ⟨cc, cb⟩
      have hat := subC_at hzz.symm hbo.symm hx hy HR.out.2.1
      clear hzz hbo
      have HQ := hid (And.intro ga (And.intro gb (And.intro gc (And.intro gm (And.intro hat (And.intro cc fz))))))
      clear ga gb gc gm cc cb fz HR hat
      refine wp_region_N (PairSat t j x y) (fun i => !(i == 13)) (by kernel_rfl) ?_
      generalize wr.drew = wd at *
      refine regA 0 12 (v := ?_) rfl rfl (by kernel_rfl) (by kernel_rfl) (by kernel_rfl) (fun _ _ _ h => h) (by rfl) (fun w => ?_) ?_; rotate_left; (go_simp; first | done | with_reducible rfl); (try simp only [Act.put, List.setIfInBounds_toArray, List.set_cons_zero, List.set_cons_succ])
      refine regA 1 13 (v := ?_) rfl rfl (by kernel_rfl) (by kernel_rfl) (by kernel_rfl) (fun _ _ _ h => h) (by rfl) (fun w => ?_) ?_; rotate_left; (go_simp; first | done | with_reducible rfl); (try simp only [Act.put, List.setIfInBounds_toArray, List.set_cons_zero, List.set_cons_succ])
      have e1 : (j : Int).toNat = j := rfl
      refine regA 2 14 (v := .pointer (some ⟨t, j, none⟩)) rfl rfl (by kernel_rfl) (by kernel_rfl) (by kernel_rfl) (fun _ _ _ h => h) (by rfl) (fun w => ?_) ?_
      · go_simp
      (try simp only [Act.put, List.setIfInBounds_toArray, List.set_cons_zero, List.set_cons_succ])
      refine regS 3 15 (v := ?_) hS rfl rfl (by kernel_rfl) (by kernel_rfl) (by kernel_rfl) (by kernel_rfl) (fun _ _ _ h => h) (by rfl) (fun w hSw => ?_) ?_; rotate_left; (simp only [PairSat] at hSw; go_simp; first | done | with_reducible rfl); (try simp only [Act.put, List.setIfInBounds_toArray, List.set_cons_zero, List.set_cons_succ])
      refine regA 4 16 (v := ?_) rfl rfl (by kernel_rfl) (by kernel_rfl) (by kernel_rfl) (fun _ _ _ h => h) (by rfl) (fun w => ?_) ?_; rotate_left; (go_simp; first | done | with_reducible rfl); (try simp only [Act.put, List.setIfInBounds_toArray, List.set_cons_zero, List.set_cons_succ])
      refine regA 5 17 (v := .pointer (some ⟨t + 1, j, none⟩)) rfl rfl (by kernel_rfl) (by kernel_rfl) (by kernel_rfl) (fun _ _ _ h => h) (by rfl) (fun w => ?_) ?_
      · go_simp
      (try simp only [Act.put, List.setIfInBounds_toArray, List.set_cons_zero, List.set_cons_succ])
      refine regS 6 18 (v := ?_) hS rfl rfl (by kernel_rfl) (by kernel_rfl) (by kernel_rfl) (by kernel_rfl) (fun _ _ _ h => h) (by rfl) (fun w hSw => ?_) ?_; rotate_left; (simp only [PairSat] at hSw; go_simp; first | done | with_reducible rfl); (try simp only [Act.put, List.setIfInBounds_toArray, List.set_cons_zero, List.set_cons_succ])
      refine regA 7 19 (v := ?_) rfl rfl (by kernel_rfl) (by kernel_rfl) (by kernel_rfl) (fun _ _ _ h => h) (by rfl) (fun w => ?_) ?_; rotate_left; (go_simp; first | done | with_reducible rfl); (try simp only [Act.put, List.setIfInBounds_toArray, List.set_cons_zero, List.set_cons_succ])
      clear hS
      refine regOnly 8 (by kernel_rfl) rfl (by rfl) (fun K hK => ?_)
      go_wp2_with (simp only [hcall])
      refine hK.out _ _ (fun _ h => h) ?_
      clear hK
      (try simp only [Act.put, List.setIfInBounds_toArray, List.set_cons_zero, List.set_cons_succ])
      refine regA 9 11 (v := ?_) rfl rfl (by kernel_rfl) (by kernel_rfl) (by kernel_rfl) (fun _ _ _ h => h) (by rfl) (fun w => ?_) ?_; rotate_left; (go_simp; first | done | with_reducible rfl); (try simp only [Act.put, List.setIfInBounds_toArray, List.set_cons_zero, List.set_cons_succ])
      refine regA 10 21 (v := ?_) rfl rfl (by kernel_rfl) (by kernel_rfl) (by kernel_rfl) (fun _ _ _ h => h) (by rfl) (fun w => ?_) ?_; rotate_left; (go_simp; first | done | with_reducible rfl); (try simp only [Act.put, List.setIfInBounds_toArray, List.set_cons_zero, List.set_cons_succ])
      refine regA 11 22 (v := ?_) rfl rfl (by kernel_rfl) (by kernel_rfl) (by kernel_rfl) (fun _ _ _ h => h) (by rfl) (fun w => ?_) ?_; rotate_left; (go_simp; first | done | with_reducible rfl); (try simp only [Act.put, List.setIfInBounds_toArray, List.set_cons_zero, List.set_cons_succ])
      refine regA 12 23 (v := .pointer (some ⟨t, j, none⟩)) rfl rfl (by kernel_rfl) (by kernel_rfl) (by kernel_rfl) (fun _ _ _ h => h) (by rfl) (fun w => ?_) ?_
      · go_simp
      (try simp only [Act.put, List.setIfInBounds_toArray, List.set_cons_zero, List.set_cons_succ])
      have fz := HQ.out.2.2.2.2.2.2
      have cc := HQ.out.2.2.2.2.2.1
      refine regOnly 13 (by kernel_rfl) rfl (by rfl) (fun K hK => ?_)
      go_wp2_with fail
      refine hK.out _ _ (fun h _ => absurd h (by decide)) ?_
      clear hK
      (try simp only [Act.put, List.setIfInBounds_toArray, List.set_cons_zero, List.set_cons_succ])
      refine regA 14 6 (v := ?_) rfl rfl (by kernel_rfl) (by kernel_rfl) (by kernel_rfl) (fun _ _ _ h => h) (by rfl) (fun w => ?_) ?_; rotate_left; (go_simp; first | done | with_reducible rfl); (try simp only [Act.put, List.setIfInBounds_toArray, List.set_cons_zero, List.set_cons_succ])
      refine regDone (by kernel_rfl) ?_ _
      go_wp2
      obtain ⟨ga, gb, gc, gm, ⟨hz, hc⟩, -, -⟩ := HQ.out
      have gs := get_setCell_self ga j (.int .u64 (z : Int))
      rw [wcells_set, mix_set hz hx] at gs
      have hmS := gm.setCell (p := ⟨t, j, none⟩) (.inl (by simp)) (.int .u64 (z : Int))
      have hms := (Mod.refl [t] wd).setCell (p := ⟨t, j, none⟩) (.inl (by simp)) (.int .u64 (z : Int))
      have kx := SU.out.1.get hx
      have ky := SU.out.2.get hy
      have hO := HO.out
      subst hO
      go_roundg (gk - 1)
      case measure => omega
      case rel => exact ⟨j + 1, bo, rfl, by omega, rfl, hb1, hc, gs, hms.get gb (by rw [List.mem_singleton]; omega), hms.get gc (by rw [List.mem_singleton]; omega), hmS⟩
    · have j1 : ¬ (j : Int) < 4 := by omega
      obtain rfl : j = 4 := by omega
      have hk2 : k = O.2 := by
        have h := congrArg Prod.snd he
        rw [List.drop_eq_nil_of_le (by omega), List.drop_eq_nil_of_le (by omega)] at h
        exact h
      rw [List.take_of_length_le (by omega), List.drop_eq_nil_of_le (by omega), List.append_nil] at ga
      have gf : O = (O.1, O.2) := rfl
      obtain ⟨o0, o1, o2, o3, ho⟩ : ∃ a b c d, O.1 = [a, b, c, d] := by
        match O.1, lo with
        | [a, b, c, d], _ => exact ⟨_, _, _, _, rfl⟩
      have HE := hid (And.intro hT (And.intro hO (And.intro ho (And.intro hk2 (And.intro hm (And.intro hm2 (And.intro hU hV)))))))
      rw [ho] at ga
      have c0 := cell_at ga 0
      have c1 := cell_at ga 1
      have c2 := cell_at ga 2
      have c3 := cell_at ga 3
      have d0 := cell_at gc 0
      have d1 := cell_at gc 1
      have d2 := cell_at gc 2
      have d3 := cell_at gc 3
      simp only [wcells_get] at c0 c1 c2 c3 d0 d1 d2 d3
      have f0 := free_at gc 0
      have f1 := free_at gc 1
      have f2 := free_at gc 2
      have f3 := free_at gc 3
      clear hU hV hO lo ho hk2 hm hm2 gf he gb hj hj4 hT
      go_wp2_with fail
      have q := get_setCell_self (get_setCell_self (get_setCell_self (get_setCell_self gc 0 (.int .u64 (o0 : Int))) 1 (.int .u64 (o1 : Int))) 2 (.int .u64 (o2 : Int))) 3 (.int .u64 (o3 : Int))
      have r0 := cell_at q 0
      have r1 := cell_at q 1
      have r2 := cell_at q 2
      have r3 := cell_at q 3
      clear c0 c1 c2 c3 d0 d1 d2 d3 f0 f1 f2 f3
      simp [wcells] at r0 r1 r2 r3
      simp [bodyPost, results, Tryd.results63, go_sem, r0, r1, r2, r3]
      obtain ⟨hT, hO, ho, hk2, hm, hm2, hU, hV⟩ := HE.out
      have hk3 : k = 0 ∨ k = 1 := by omega
      have hl : w.heap.size ≤ t + 1 + 1 := by omega
      refine ⟨⟨by rw [hU, hV, hO, ho]; rfl, by rw [hU, hV, hO, ← hk2]; rcases hk3 with h | h <;> rw [h] <;> rfl⟩, ?_⟩
      have m := hm.trans' hm2 (fun b hb => .inr (by rw [List.mem_singleton.1 hb]; omega))
      exact (((m.setCell (p := ⟨t + 1 + 1, 0, none⟩) (.inr hl) _).setCell (p := ⟨t + 1 + 1, 1, none⟩) (.inr hl) _).setCell (p := ⟨t + 1 + 1, 2, none⟩) (.inr hl) _).setCell (p := ⟨t + 1 + 1, 3, none⟩) (.inr hl) _
end Go.Proofs.YtdgmnhiffoemmaaDoor
/-
  limb.Add and limb.Sub over numbers. No statement of a claim stands here; each contract names what it asks.
-/
namespace Go.Proofs.YtdgmnhiffoemmaaDoor
open Go Go.RowKit Go.ChangeMaps

/-- 2 to the 256. -/
def NN : Nat := BB ^ 4
theorem NN_eq : NN = BB ^ 4 := by unfold NN; rfl
/-- A number, as the program bears it; and a wide one. -/
def nv (n : Nat) : Value := wv (parts n 4)
def wdv (n : Nat) : Value := wv (parts n 8)

theorem parts_num {a : Nat} (ha : a < NN) : val (parts a 4) = a := by
  rw [val_parts]
  rw [NN_eq] at ha
  exact Nat.mod_eq_of_lt ha
theorem parts_of {l : List Nat} (hs : Small l) {k n : Nat} (hl : l.length = k) (h : val l = n) : l = parts n k := by
  rw [← h, ← hl, parts_val hs]

theorem addC_num {a b : Nat} (ha : a < NN) (hb : b < NN) :
    (addC (parts a 4) (parts b 4) 0).1 = parts ((a + b) % NN) 4 ∧ ((addC (parts a 4) (parts b 4) 0).2 == 1) = decide (NN ≤ a + b) := by
  have h := addC_val (parts a 4) (parts b 4) 0 (by rw [parts_len, parts_len])
  have hc := addC_carry (parts a 4) (parts b 4) 0 (parts_small _ _) (parts_small _ _) (by omega)
  have hl := addC_len (parts a 4) (parts b 4) 0 (by rw [parts_len, parts_len])
  have hs := addC_small (parts a 4) (parts b 4) 0
  have hv := val_lt hs
  rw [parts_len] at hl h
  rw [hl, ← NN_eq] at hv
  rw [parts_num ha, parts_num hb, ← NN_eq] at h
  generalize addC (parts a 4) (parts b 4) 0 = r at *
  generalize NN = N at *
  have h2 : r.2 = 0 ∨ r.2 = 1 := by omega
  rcases h2 with h2 | h2
  · rw [h2, Nat.mul_zero] at h
    refine ⟨parts_of hs hl ?_, ?_⟩
    · rw [Nat.mod_eq_of_lt (by omega)]
      omega
    · rw [h2, decide_eq_false (by omega)]
      rfl
  · rw [h2, Nat.mul_one] at h
    refine ⟨parts_of hs hl ?_, ?_⟩
    · rw [Nat.mod_eq_sub_mod (by omega), Nat.mod_eq_of_lt (by omega)]
      omega
    · rw [h2, decide_eq_true (by omega)]
      rfl

theorem subC_num {a b : Nat} (ha : a < NN) (hb : b < NN) :
    (subC (parts a 4) (parts b 4) 0).1 = parts ((a + NN - b) % NN) 4 ∧ ((subC (parts a 4) (parts b 4) 0).2 == 1) = decide (a < b) := by
  have h := subC_val (parts a 4) (parts b 4) 0 (by rw [parts_len, parts_len]) (parts_small _ _) (parts_small _ _) (by omega)
  have hc := subC_borrow (parts a 4) (parts b 4) 0 (by omega)
  have hl := subC_len (parts a 4) (parts b 4) 0 (by rw [parts_len, parts_len])
  have hs := subC_small (parts a 4) (parts b 4) 0
  have hv := val_lt hs
  rw [parts_len] at hl h
  rw [hl, ← NN_eq] at hv
  rw [parts_num ha, parts_num hb, ← NN_eq] at h
  generalize subC (parts a 4) (parts b 4) 0 = r at *
  generalize NN = N at *
  have h2 : r.2 = 0 ∨ r.2 = 1 := by omega
  rcases h2 with h2 | h2
  · rw [h2, Nat.mul_zero] at h
    refine ⟨parts_of hs hl ?_, ?_⟩
    · rw [Nat.mod_eq_sub_mod (by omega), Nat.mod_eq_of_lt (by omega)]
      omega
    · rw [h2, decide_eq_false (by omega)]
      rfl
  · rw [h2, Nat.mul_one] at h
    refine ⟨parts_of hs hl ?_, ?_⟩
    · rw [Nat.mod_eq_of_lt (by omega)]
      omega
    · rw [h2, decide_eq_true (by omega)]
      rfl

theorem ladd {a b : Nat} (ha : a < NN) (hb : b < NN) (w : World) :
    Calls Tryd.prog 62 #[nv a, nv b] w fun e w' => e = .returned (.tuple #[nv ((a + b) % NN), .bool (decide (NN ≤ a + b))]) ∧ Mod [] w w' := by
  have h := addC_num ha hb
  refine (ladd_words (parts a 4) (parts b 4) (parts_len _ _) (parts_len _ _) (parts_small _ _) (parts_small _ _) w).mono ?_
  rintro e w' ⟨rfl, hm⟩
  refine ⟨?_, hm⟩
  rw [h.1, h.2]
  rfl
theorem lsub {a b : Nat} (ha : a < NN) (hb : b < NN) (w : World) :
    Calls Tryd.prog 63 #[nv a, nv b] w fun e w' => e = .returned (.tuple #[nv ((a + NN - b) % NN), .bool (decide (a < b))]) ∧ Mod [] w w' := by
  have h := subC_num ha hb
  refine (lsub_words (parts a 4) (parts b 4) (parts_len _ _) (parts_len _ _) (parts_small _ _) (parts_small _ _) w).mono ?_
  rintro e w' ⟨rfl, hm⟩
  refine ⟨?_, hm⟩
  rw [h.1, h.2]
  rfl
end Go.Proofs.YtdgmnhiffoemmaaDoor
/-
  limb.Compare. No statement of a claim stands here; each contract names what it asks.
-/
set_option linter.unusedSimpArgs false
namespace Go.Proofs.YtdgmnhiffoemmaaDoor
open Go Go.RowKit Go.ChangeMaps

theorem eqItems_words (w : World) (d : Nat) (l m : List Nat) : ∀ is : List Nat, (∀ j ∈ is, j < l.length ∧ j < m.length) →
    (Op.eqItems (d + 1) 24 1 (wcells l) (wcells m) is).run Tryd.prog w = .ok (is.all fun j => l[j]? == m[j]?) w
  | [], _ => by simp [Op.eqItems]
  | j :: is, h => by
    have ih := eqItems_words w d l m is (fun k hk => h k (.tail _ hk))
    obtain ⟨h1, h2⟩ := h j (.head _)
    have p1 := run_part_plain (P := Tryd.prog) (e := 24) (w := w) (by kernel_rfl) (show (wcells l)[j]? = some (.int .u64 (l[j] : Int)) by rw [wcells_get, List.getElem?_eq_getElem h1]; rfl)
    have p2 := run_part_plain (P := Tryd.prog) (e := 24) (w := w) (by kernel_rfl) (show (wcells m)[j]? = some (.int .u64 (m[j] : Int)) by rw [wcells_get, List.getElem?_eq_getElem h2]; rfl)
    simp only [Op.eqItems, Sem.run_bind, Nat.mul_one, p1, p2, Result.andThen_ok, run_equalIn_int w d 24 .u64 .u64 _ _ Tryd.underlying24]
    rw [List.all_cons, List.getElem?_eq_getElem h1, List.getElem?_eq_getElem h2]
    by_cases e : l[j] = m[j]
    · simp [e, ih]
    · have e2 : ¬ ((l[j] : Int) = (m[j] : Int)) := by omega
      simp [e, e2]

set_option maxRecDepth 100000 in
theorem equal_words (l m : List Nat) (hl : l.length = 4) (hm : m.length = 4) (w : World) : (Op.equal 26 (wv l) (wv m)).run Tryd.prog w = .ok (decide (l = m)) w := by
  obtain ⟨i, hi⟩ := Option.isSome_iff_exists.1 (show (Tryd.prog.info? 24).isSome = true by kernel_rfl)
  have h := run_equalIn_array (P := Tryd.prog) (t := 26) (w := w) 9999 (wcells l) (wcells m) (Tryd.underlying26) hi
  have hc : Tryd.prog.cellsOf 24 = 1 := by kernel_rfl
  rw [hc] at h
  have h3 := eqItems_words w 9998 l m (List.range 4) (fun j hj => by rw [hl, hm]; have := List.mem_range.1 hj; omega)
  rw [show 9998 + 1 = 9999 from rfl] at h3
  unfold Op.equal
  rw [show Op.maxDepth = 9999 + 1 from rfl]
  unfold wcells at h h3
  unfold wv
  rw [h, h3]
  congr 1
  rw [Bool.eq_iff_iff, List.all_eq_true, decide_eq_true_eq]
  constructor
  · intro h4
    apply List.ext_getElem?
    intro j
    by_cases hj : j < 4
    · simpa using h4 j (List.mem_range.2 hj)
    · rw [List.getElem?_eq_none (by omega), List.getElem?_eq_none (by omega)]
  · rintro rfl j _
    simp
theorem parts_inj {a b : Nat} (ha : a < NN) (hb : b < NN) : parts a 4 = parts b 4 ↔ a = b :=
  ⟨fun h => by rw [← parts_num ha, ← parts_num hb, h], fun h => by rw [h]⟩
theorem equal_nv {a b : Nat} (ha : a < NN) (hb : b < NN) (w : World) : (Op.equal 26 (nv a) (nv b)).run Tryd.prog w = .ok (decide (a = b)) w := by
  unfold nv
  rw [equal_words _ _ (parts_len _ _) (parts_len _ _)]
  simp only [parts_inj ha hb]

theorem nv_words (a : Nat) : ∃ a0 a1 a2 a3, nv a = wv [a0, a1, a2, a3] ∧ parts a 4 = [a0, a1, a2, a3] := by
  refine ⟨a % BB, a / BB % BB, a / BB / BB % BB, a / BB / BB / BB % BB, ?_, ?_⟩ <;> simp only [nv, parts]
/-- A number's four cells. -/
def lit4 (a b c d : Nat) : Value := .agg #[.int .u64 (a : Int), .int .u64 (b : Int), .int .u64 (c : Int), .int .u64 (d : Int)]
theorem wv_lit (a b c d : Nat) : wv [a, b, c, d] = lit4 a b c d := by rfl
theorem nv_lit (n : Nat) : ∃ a b c d, nv n = lit4 a b c d := by
  obtain ⟨a, b, c, d, h, -⟩ := nv_words n
  exact ⟨a, b, c, d, by rw [h, wv_lit]⟩
theorem equalIn_nv {a b : Nat} (ha : a < NN) (hb : b < NN) (w : World) : (Op.equalIn 10000 26 (nv a) (nv b)).run Tryd.prog w = .ok (decide (a = b)) w := by
  have h := equal_nv ha hb w
  rwa [Op.equal, show Op.maxDepth = 10000 from rfl] at h

set_option maxRecDepth 100000 in
theorem lcmp {a b : Nat} (ha : a < NN) (hb : b < NN) (w : World) :
    Calls Tryd.prog 64 #[nv a, nv b] w fun e w' => e = .returned (.int .i64 (if a = b then 0 else if a < b then -1 else 1)) ∧ Mod [] w w' := by
  have c := fun w => lsub ha hb w
  have q := fun w => equalIn_nv ha hb w
  clear ha hb
  obtain ⟨x0, x1, x2, x3, hx⟩ := nv_lit a
  obtain ⟨y0, y1, y2, y3, hy⟩ := nv_lit b
  obtain ⟨d0, d1, d2, d3, hd⟩ := nv_lit ((a + NN - b) % NN)
  rw [hx, hy] at c q
  rw [hd] at c
  rw [hx, hy]
  clear hx hy hd
  unfold lit4 at *
  have C := hid c
  clear c
  by_cases hab : a = b
  · simp only [decide_eq_true hab] at q
    rw [if_pos hab]
    clear hab C
    go_enter Tryd.func64, Tryd.ntmps64
    go_wp2_with (simp only [q])
    simp [bodyPost, results, Tryd.results64, go_sem]
    exact ((Mod.refl _ _).alloc _).alloc _
  · simp only [decide_eq_false hab] at q
    rw [if_neg hab]
    clear hab
    by_cases hlt : a < b
    · simp only [decide_eq_true hlt] at C
      rw [if_pos hlt]
      clear hlt
      go_enter Tryd.func64, Tryd.ntmps64
      go_wp2_with (first | simp only [q] | (go_at_call 63; refine (C.out _).mono ?_; rintro e w' ⟨rfl, hm⟩; have HM := hid hm; clear hm))
      simp [bodyPost, results, Tryd.results64, go_sem]
      exact ((((Mod.refl _ _).alloc _).alloc _).trans HM.out).alloc _
    · simp only [decide_eq_false hlt] at C
      rw [if_neg hlt]
      clear hlt
      go_enter Tryd.func64, Tryd.ntmps64
      go_wp2_with (first | simp only [q] | (go_at_call 63; refine (C.out _).mono ?_; rintro e w' ⟨rfl, hm⟩; have HM := hid hm; clear hm))
      simp [bodyPost, results, Tryd.results64, go_sem]
      exact ((((Mod.refl _ _).alloc _).alloc _).trans HM.out).alloc _
end Go.Proofs.YtdgmnhiffoemmaaDoor
/-
  limb.Mul. No statement of a claim stands here; each contract names what it asks.
-/
set_option linter.unusedSimpArgs false
namespace Go.Proofs.YtdgmnhiffoemmaaDoor
open Go Go.RowKit Go.ChangeMaps

theorem mul64_any (x y : Nat) (hx : x < BB) (hy : y < BB) (w : World) :
    Calls Tryd.prog 60 #[.int .u64 x, .int .u64 y] w fun e w' => e = .returned (.tuple #[.int .u64 ((x * y / BB : Nat) : Int), .int .u64 ((x * y % BB : Nat) : Int)]) ∧ w' = w := by
  unfold BB at *
  exact Any.bits_Mul64 Go.Proofs.YtdgmnhiffoemmaaDoor.mul64A x y hx hy w

theorem set4_at {w : World} {b : Nat} {T : TypeId} {f : Nat × Nat} {a0 a1 a2 a3 : Nat} (h : w.heap[b]? = some (.cells (wcells [a0, a1, a2, a3]) T f)) (x0 x1 x2 x3 : Nat) :
    ((((w.setCell ⟨b, 0, none⟩ (.int .u64 (x0 : Int))).setCell ⟨b, 1, none⟩ (.int .u64 (x1 : Int))).setCell ⟨b, 2, none⟩ (.int .u64 (x2 : Int))).setCell ⟨b, 3, none⟩ (.int .u64 (x3 : Int))).heap[b]? = some (.cells (wcells [x0, x1, x2, x3]) T f) := by
  have q := get_setCell_self (get_setCell_self (get_setCell_self (get_setCell_self h 0 (.int .u64 (x0 : Int))) 1 (.int .u64 (x1 : Int))) 2 (.int .u64 (x2 : Int))) 3 (.int .u64 (x3 : Int))
  rw [wcells_set, wcells_set, wcells_set, wcells_set] at q
  exact q
theorem set8_at {w : World} {b : Nat} {T : TypeId} {f : Nat × Nat} {a0 a1 a2 a3 a4 a5 a6 a7 : Nat} (h : w.heap[b]? = some (.cells (wcells [a0, a1, a2, a3, a4, a5, a6, a7]) T f)) (x0 x1 x2 x3 x4 x5 x6 x7 : Nat) :
    ((((((((w.setCell ⟨b, 0, none⟩ (.int .u64 (x0 : Int))).setCell ⟨b, 1, none⟩ (.int .u64 (x1 : Int))).setCell ⟨b, 2, none⟩ (.int .u64 (x2 : Int))).setCell ⟨b, 3, none⟩ (.int .u64 (x3 : Int))).setCell ⟨b, 4, none⟩ (.int .u64 (x4 : Int))).setCell ⟨b, 5, none⟩ (.int .u64 (x5 : Int))).setCell ⟨b, 6, none⟩ (.int .u64 (x6 : Int))).setCell ⟨b, 7, none⟩ (.int .u64 (x7 : Int))).heap[b]? = some (.cells (wcells [x0, x1, x2, x3, x4, x5, x6, x7]) T f) := by
  have q := get_setCell_self (get_setCell_self (get_setCell_self (get_setCell_self (get_setCell_self (get_setCell_self (get_setCell_self (get_setCell_self h 0 (.int .u64 (x0 : Int))) 1 (.int .u64 (x1 : Int))) 2 (.int .u64 (x2 : Int))) 3 (.int .u64 (x3 : Int))) 4 (.int .u64 (x4 : Int))) 5 (.int .u64 (x5 : Int))) 6 (.int .u64 (x6 : Int))) 7 (.int .u64 (x7 : Int))
  rw [wcells_set, wcells_set, wcells_set, wcells_set, wcells_set, wcells_set, wcells_set, wcells_set] at q
  exact q

theorem wrap_small {n : Nat} (h : n < BB) : IntKind.u64.wrap (n : Int) = (n : Int) := by
  unfold BB at h
  rw [IntKind.wrap_u64]
  omega

/-- A product's place, as the program comes to it. -/
theorem mul_parts {x y z c : Nat} (hx : x < BB) (hy : y < BB) (hz : z < BB) (hc : c < BB) : ∃ hi lo l1 c1 l2 c2, x * y / BB = hi ∧ x * y % BB = lo ∧ (lo + z + 0) % BB = l1 ∧ (lo + z + 0) / BB = c1 ∧ (l1 + c + 0) % BB = l2 ∧ (l1 + c + 0) / BB = c2 ∧
    hi < BB ∧ c1 ≤ 1 ∧ c2 ≤ 1 ∧ hi + c1 < BB ∧ hi + c1 + c2 < BB ∧ (x * y + z + c) % BB = l2 ∧ (x * y + z + c) / BB = hi + c1 + c2 ∧ l2 < BB := by
  refine ⟨_, _, _, _, _, _, rfl, rfl, rfl, rfl, rfl, rfl, ?_⟩
  have h1 := Nat.div_add_mod (x * y) BB
  have h2 := Nat.mod_lt (x * y) BB_pos
  have h3 := Nat.div_add_mod (x * y % BB + z + 0) BB
  have h4 := Nat.mod_lt (x * y % BB + z + 0) BB_pos
  have h5 := Nat.div_add_mod ((x * y % BB + z + 0) % BB + c + 0) BB
  have h6 := Nat.mod_lt ((x * y % BB + z + 0) % BB + c + 0) BB_pos
  have h7 := mul_carry hx hy hz hc
  generalize x * y / BB = hi at *
  generalize x * y % BB = lo at *
  generalize (lo + z + 0) / BB = c1 at *
  generalize (lo + z + 0) % BB = l1 at *
  generalize (l1 + c + 0) / BB = c2 at *
  generalize (l1 + c + 0) % BB = l2 at *
  generalize x * y = D at *
  have hd : D + z + c = BB * (hi + c1 + c2) + l2 := by
    rw [Nat.mul_add, Nat.mul_add]
    omega
  obtain ⟨e1, e2⟩ := div_unique hd h6
  rw [← e1] at h7
  have hc1 : c1 ≤ 1 := by
    have : BB * c1 < BB * 2 := by omega
    have := Nat.lt_of_mul_lt_mul_left this
    omega
  have hc2 : c2 ≤ 1 := by
    have : BB * c2 < BB * 2 := by omega
    have := Nat.lt_of_mul_lt_mul_left this
    omega
  exact ⟨by omega, hc1, hc2, by omega, h7, e2.symm, e1.symm, h6⟩

/-- The inner loop. -/
def MulIn (W : World) (ta tb t4 t5 : Nat) (u v : List Nat) (i a V : Nat) (gk : Nat) (c k : Value) (w : World) : Prop :=
  ∃ (kn cn : Nat) (L : List Nat), k = .int .i64 kn ∧ gk + kn = 4 ∧ c = .int .u64 cn ∧ cn < BB ∧ L.length = 8 ∧ Small L ∧ val L + cn * BB ^ (i + kn) = V + a * val (v.take kn) * BB ^ i ∧ (∀ j, i + 4 ≤ j → j < 8 → L[j]? = some 0) ∧
    w.heap[t5]? = some (.cells (wcells L) 60) ∧ w.heap[ta]? = some (.cells (wcells u) 26) ∧ w.heap[tb]? = some (.cells (wcells v) 26) ∧ w.heap[t4]? = some (.cells (wcells [0, 0, 0, 0, 0, 0, 0, 0]) 60) ∧ Mod [t5] W w
/-- The outer loop. -/
def MulOut (W : World) (ta tb t4 t5 : Nat) (u v : List Nat) (gk : Nat) (i : Value) (w : World) : Prop :=
  ∃ (n : Nat) (L : List Nat), i = .int .i64 n ∧ gk + n = 4 ∧ L.length = 8 ∧ Small L ∧ val L = val (u.take n) * val v ∧ (∀ j, n + 4 ≤ j → j < 8 → L[j]? = some 0) ∧
    w.heap[t5]? = some (.cells (wcells L) 60) ∧ w.heap[ta]? = some (.cells (wcells u) 26) ∧ w.heap[tb]? = some (.cells (wcells v) 26) ∧ w.heap[t4]? = some (.cells (wcells [0, 0, 0, 0, 0, 0, 0, 0]) 60) ∧ Mod [t5] W w

theorem four_new (w : World) (A B C D : Obj) : ((((w.alloc A).alloc B).alloc C).alloc D).heap[w.heap.size]? = some A ∧ ((((w.alloc A).alloc B).alloc C).alloc D).heap[w.heap.size + 1]? = some B ∧
    ((((w.alloc A).alloc B).alloc C).alloc D).heap[w.heap.size + 1 + 1]? = some C ∧ ((((w.alloc A).alloc B).alloc C).alloc D).heap[w.heap.size + 1 + 1 + 1]? = some D ∧ Mod [] w ((((w.alloc A).alloc B).alloc C).alloc D) := by
  refine ⟨get_alloc (three_a w A B C) D, get_alloc (three_b w A B C) D, get_alloc (three_c w A B C) D, ?_, ((((Mod.refl _ _).alloc _).alloc _).alloc _).alloc _⟩
  exact three_c (w.alloc A) B C D |> fun h => by
    have e : (w.alloc A).heap.size = w.heap.size + 1 := Array.size_push _
    rwa [e] at h

set_option maxRecDepth 100000 in
theorem lmul_words (u v : List Nat) (hu : u.length = 4) (hv : v.length = 4) (su : Small u) (sv : Small v) (w : World) :
    Calls Tryd.prog 47 #[wv u, wv v] w fun e w' => (∃ L, L.length = 8 ∧ Small L ∧ val L = val u * val v ∧ e = .returned (wv L)) ∧ Mod [] w w' := by
  obtain ⟨u0, u1, u2, u3, rfl⟩ : ∃ a b c d, u = [a, b, c, d] := by
    match u, hu with
    | [a, b, c, d], _ => exact ⟨_, _, _, _, rfl⟩
  obtain ⟨v0, v1, v2, v3, rfl⟩ : ∃ a b c d, v = [a, b, c, d] := by
    match v, hv with
    | [a, b, c, d], _ => exact ⟨_, _, _, _, rfl⟩
  clear hu hv
  have SU := hid (And.intro su sv)
  clear su sv
  unfold wv
  go_enter Tryd.func47, Tryd.ntmps47
  go_wp2
  refine wp_abs (fun W' => W'.heap[w.heap.size]? = some (.cells (wcells [u0, u1, u2, u3]) 26) ∧ W'.heap[w.heap.size + 1]? = some (.cells (wcells [v0, v1, v2, v3]) 26) ∧ W'.heap[w.heap.size + 1 + 1]? = some (.cells (wcells [0, 0, 0, 0, 0, 0, 0, 0]) 60) ∧ W'.heap[w.heap.size + 1 + 1 + 1]? = some (.cells (wcells [0, 0, 0, 0, 0, 0, 0, 0]) 60) ∧ Mod [] w W') (four_new w _ _ _ _) ?_
  rintro W ⟨ga, gb, g4, g5, hm⟩
  obtain ⟨ta, hta⟩ : ∃ t, t = w.heap.size := ⟨_, rfl⟩
  obtain ⟨tb, htb⟩ : ∃ t, t = ta + 1 := ⟨_, rfl⟩
  obtain ⟨t4, ht4⟩ : ∃ t, t = tb + 1 := ⟨_, rfl⟩
  obtain ⟨t5, ht5⟩ : ∃ t, t = t4 + 1 := ⟨_, rfl⟩
  rw [← hta] at ga gb g4 g5
  rw [← hta]
  rw [← htb] at gb g4 g5
  rw [← htb]
  rw [← ht4] at g4 g5
  rw [← ht4]
  rw [← ht5] at g5
  rw [← ht5]
  have HM := hid (And.intro hm (And.intro hta (And.intro htb (And.intro ht4 ht5))))
  clear hm hta htb ht4 ht5
  go_loopg [12] 4 (fun gk i W' => MulOut W ta tb t4 t5 [u0, u1, u2, u3] [v0, v1, v2, v3] gk i W')
  case atStart =>
    refine ⟨0, [0, 0, 0, 0, 0, 0, 0, 0], rfl, rfl, rfl, Small.zeros 8, ?_, ?_, g5, ga, gb, g4, Mod.refl _ _⟩
    · rw [List.take_zero, show val [] = 0 from rfl, Nat.zero_mul]
      exact val_zeros 8
    · intro j h1 h2
      have : j = 4 ∨ j = 5 ∨ j = 6 ∨ j = 7 := by omega
      rcases this with rfl | rfl | rfl | rfl <;> rfl
  case round =>
    obtain ⟨n, L, rfl, hgn, hL, sL, vL, zL, g5, ga, gb, g4, hm⟩ := hrel
    have lu : [u0, u1, u2, u3].length = 4 := rfl
    have lv : [v0, v1, v2, v3].length = 4 := rfl
    generalize hU : [u0, u1, u2, u3] = U at *
    generalize hV : [v0, v1, v2, v3] = V at *
    by_cases hn4 : n < 4
    · have n1 : (n : Int) < 4 := by omega
      have n0 : (0 : Int) ≤ (n : Int) := by omega
      obtain ⟨x, hx⟩ : ∃ x, U[n]? = some x := ⟨_, List.getElem?_eq_getElem (by omega)⟩
      have HR := hid (And.intro hL (And.intro sL (And.intro vL (And.intro zL (And.intro g5 (And.intro ga (And.intro gb (And.intro g4 hm))))))))
      clear hL sL vL zL g5 ga gb g4 hm
      go_wp2
      go_loopg [7, 15] 4 (fun gk c k W' => MulIn W ta tb t4 t5 U V n x (val (U.take n) * val V) gk c k W')
      case atStart =>
        obtain ⟨hL, sL, vL, zL, g5, ga, gb, g4, hm⟩ := HR.out
        refine ⟨0, 0, L, rfl, rfl, rfl, BB_pos, hL, sL, ?_, zL, g5, ga, gb, g4, hm⟩
        rw [List.take_zero, show val [] = 0 from rfl, Nat.mul_zero, Nat.zero_mul, Nat.zero_mul, vL]
      case round =>
        obtain ⟨k, c, M, rfl, hgk, rfl, hc, hM, sM, vM, zM, g5, ga, gb, g4, hm⟩ := hrel
        by_cases hk4 : k < 4
        · have k1 : (k : Int) < 4 := by omega
          have k0 : (0 : Int) ≤ (k : Int) := by omega
          obtain ⟨y, hy⟩ : ∃ y, V[k]? = some y := ⟨_, List.getElem?_eq_getElem (by omega)⟩
          obtain ⟨z, hz⟩ : ∃ z, M[n + k]? = some z := ⟨_, List.getElem?_eq_getElem (by omega)⟩
          obtain ⟨hi, lo, l1, c1, l2, c2, e1, e2, e3, e4, e5, e6, b1, b2, b3, b4, b5, e7, e8, b6⟩ := mul_parts (SU.out.1.get hx) (SU.out.2.get hy) (sM.get hz) hc
          have hmul : ∀ W : World, Calls Tryd.prog 60 #[.int .u64 x, .int .u64 y] W fun e w' => e = .returned (.tuple #[.int .u64 (hi : Int), .int .u64 (lo : Int)]) ∧ w' = W := fun W => by
            rw [← e1, ← e2]
            exact mul64_any x y (SU.out.1.get hx) (SU.out.2.get hy) W
          have hadd1 : ∀ W : World, (callFunc 61 #[.int .u64 (lo : Int), .int .u64 (z : Int), .int .u64 0]).run Tryd.prog W = .ok (.value (.tuple #[.int .u64 (l1 : Int), .int .u64 (c1 : Int)])) W := fun W => by
            rw [← e3, ← e4]
            exact add64_call lo z 0 (by omega) W
          have hadd2 : ∀ W : World, (callFunc 61 #[.int .u64 (l1 : Int), .int .u64 (c : Int), .int .u64 0]).run Tryd.prog W = .ok (.value (.tuple #[.int .u64 (l2 : Int), .int .u64 (c2 : Int)])) W := fun W => by
            rw [← e5, ← e6]
            exact add64_call l1 c 0 (by omega) W
          have fz := free_at g5 (n + k)
          have cz := cell_at g5 (n + k)
          rw [wcells_get, hz] at cz
          have cx := cell_at ga n
          rw [wcells_get, hx] at cx
          have cy := cell_at gb k
          rw [wcells_get, hy] at cy
          have HQ := hid (And.intro hM (And.intro sM (And.intro vM (And.intro zM (And.intro g5 (And.intro ga (And.intro gb (And.intro g4 (And.intro hm (And.intro hc (And.intro e7 (And.intro e8 (And.intro hy (And.intro hz (And.intro b6 b5)))))))))))))))
          clear e1 e2 e3 e4 e5 e6 e7 e8 hM sM vM zM g5 ga gb g4 hm hc
          go_upto_region 9 with (fail)
          go_region_held3 (fun w' => w'.cell? ⟨ta, n, none⟩ = some (.int .u64 x) ∧ w'.cell? ⟨tb, k, none⟩ = some (.int .u64 y)) (exact ⟨cx, cy⟩) (first | (go_at_call 60; refine (hmul _).mono ?_; rintro e w' ⟨rfl, hw'⟩; subst hw'))
          have hw1 : IntKind.u64.wrap ((hi : Int) + (c1 : Int)) = (hi : Int) + (c1 : Int) := by rw [← Int.natCast_add]; exact wrap_small b4
          have hw2 : IntKind.u64.wrap ((hi : Int) + (c1 : Int) + (c2 : Int)) = (hi : Int) + (c1 : Int) + (c2 : Int) := by rw [← Int.natCast_add, ← Int.natCast_add]; exact wrap_small b5
          go_upto_region 14 with (first | simp only [hadd1] | simp only [hadd2])
          have nk8 : (n : Int) + (k : Int) < 8 := by omega
          have nk0 : (0 : Int) ≤ (n : Int) + (k : Int) := by omega
          go_wp2
          obtain ⟨hM, sM, vM, zM, g5, ga, gb, g4, hm, hc, e7, e8, hy, hz, b6, b5⟩ := HQ.out
          have hms := (Mod.refl [t5] wr.drew).setCell (p := ⟨t5, n + k, none⟩) (.inl (by simp)) (.int .u64 (l2 : Int))
          have ga : wr.drew.heap[ta]? = _ := ga
          have gb : wr.drew.heap[tb]? = _ := gb
          have g4 : wr.drew.heap[t4]? = _ := g4
          have g5 : wr.drew.heap[t5]? = _ := g5
          have gs := get_setCell_self g5 (n + k) (.int .u64 (l2 : Int))
          rw [wcells_set] at gs
          obtain ⟨-, hta, htb, ht4, ht5⟩ := HM.out
          go_roundg (gk - 1)
          case measure => omega
          case rel =>
            refine ⟨k + 1, hi + c1 + c2, M.set (n + k) l2, rfl, by omega, by rw [Int.natCast_add, Int.natCast_add], b5, by rw [List.length_set]; exact hM, sM.set _ b6, ?_, ?_, gs, hms.get ga (by rw [List.mem_singleton]; omega), hms.get gb (by rw [List.mem_singleton]; omega), hms.get g4 (by rw [List.mem_singleton]; omega), hm.drew.setCell (.inl (by simp)) _⟩
            · have h := mul_step (a := x) hz hy vM
              rw [e7, e8] at h
              exact h
            · intro j h1 h2
              rw [List.getElem?_set_ne (by omega)]
              exact zM j h1 h2
        · have k1 : ¬ (k : Int) < 4 := by omega
          obtain rfl : k = 4 := by omega
          have hz := zM (n + 4) (by omega) (by omega)
          have fz := free_at g5 (n + 4)
          have cz := cell_at g5 (n + 4)
          rw [wcells_get, hz] at cz
          have nk8 : (n : Int) + 4 < 8 := by omega
          have nk0 : (0 : Int) ≤ (n : Int) + 4 := by omega
          have HQ := hid (And.intro hM (And.intro sM (And.intro vM (And.intro zM (And.intro g5 (And.intro ga (And.intro gb (And.intro g4 (And.intro hm (And.intro hc hz))))))))))
          clear hM sM vM zM g5 ga gb g4 hm hc hz
          go_wp2
          obtain ⟨hM, sM, vM, zM, g5, ga, gb, g4, hm, hc, hz⟩ := HQ.out
          have hms := (Mod.refl [t5] wr).setCell (p := ⟨t5, n + 4, none⟩) (.inl (by simp)) (.int .u64 (c : Int))
          have gs := get_setCell_self g5 (n + 4) (.int .u64 (c : Int))
          rw [wcells_set] at gs
          obtain ⟨-, hta, htb, ht4, ht5⟩ := HM.out
          go_roundg (4 - (n + 1))
          case measure => omega
          case rel =>
            refine ⟨n + 1, M.set (n + 4) c, rfl, by omega, by rw [List.length_set]; exact hM, sM.set _ hc, ?_, ?_, gs, hms.get ga (by rw [List.mem_singleton]; omega), hms.get gb (by rw [List.mem_singleton]; omega), hms.get g4 (by rw [List.mem_singleton]; omega), hm.setCell (.inl (by simp)) _⟩
            · rw [mul_end hz vM, val_take_succ hx, Nat.add_mul, List.take_of_length_le (show V.length ≤ 4 by omega), Nat.mul_right_comm]
            · intro j h1 h2
              rw [List.getElem?_set_ne (by omega)]
              exact zM j (by omega) h2
    · have n1 : ¬ (n : Int) < 4 := by omega
      obtain rfl : n = 4 := by omega
      obtain ⟨l0, l1, l2, l3, l4, l5, l6, l7, rfl⟩ : ∃ a b c d e f g h, L = [a, b, c, d, e, f, g, h] := by
        match L, hL with
        | [a, b, c, d, e, f, g, h], _ => exact ⟨_, _, _, _, _, _, _, _, rfl⟩
      have c0 := cell_at g5 0
      have c1 := cell_at g5 1
      have c2 := cell_at g5 2
      have c3 := cell_at g5 3
      have c4 := cell_at g5 4
      have c5 := cell_at g5 5
      have c6 := cell_at g5 6
      have c7 := cell_at g5 7
      have d0 := cell_at g4 0
      have d1 := cell_at g4 1
      have d2 := cell_at g4 2
      have d3 := cell_at g4 3
      have d4 := cell_at g4 4
      have d5 := cell_at g4 5
      have d6 := cell_at g4 6
      have d7 := cell_at g4 7
      simp only [wcells_get] at c0 c1 c2 c3 c4 c5 c6 c7 d0 d1 d2 d3 d4 d5 d6 d7
      have f0 := free_at g4 0
      have f1 := free_at g4 1
      have f2 := free_at g4 2
      have f3 := free_at g4 3
      have f4 := free_at g4 4
      have f5 := free_at g4 5
      have f6 := free_at g4 6
      have f7 := free_at g4 7
      have HE := hid (And.intro sL (And.intro vL (And.intro hm (And.intro lu (And.intro hU hV)))))
      clear sL vL zL g5 ga gb hm hU hV lu lv hL
      go_wp2_with fail
      have q := set8_at g4 l0 l1 l2 l3 l4 l5 l6 l7
      have r0 := cell_at q 0
      have r1 := cell_at q 1
      have r2 := cell_at q 2
      have r3 := cell_at q 3
      have r4 := cell_at q 4
      have r5 := cell_at q 5
      have r6 := cell_at q 6
      have r7 := cell_at q 7
      clear c0 c1 c2 c3 c4 c5 c6 c7 d0 d1 d2 d3 d4 d5 d6 d7 f0 f1 f2 f3 f4 f5 f6 f7
      simp only [wcells_get] at r0 r1 r2 r3 r4 r5 r6 r7
      refine bodyPost_ret (v := wv [l0, l1, l2, l3, l4, l5, l6, l7]) ?_ rfl ?_
      · simp [results, Tryd.results47, go_sem, r0, r1, r2, r3, r4, r5, r6, r7, wv]
      · obtain ⟨sL, vL, hm, lu, hU, hV⟩ := HE.out
        obtain ⟨hm0, hta, htb, ht4, ht5⟩ := HM.out
        refine ⟨⟨_, rfl, sL, ?_, rfl⟩, ?_⟩
        · rw [vL, List.take_of_length_le (by omega), hU, hV]
        · have m := hm0.trans' hm (fun b hb => .inr (by rw [List.mem_singleton.1 hb]; omega))
          have hl : w.heap.size ≤ t4 := by omega
          exact (((((((m.setCell (p := ⟨t4, 0, none⟩) (.inr hl) _).setCell (p := ⟨t4, 1, none⟩) (.inr hl) _).setCell (p := ⟨t4, 2, none⟩) (.inr hl) _).setCell (p := ⟨t4, 3, none⟩) (.inr hl) _).setCell (p := ⟨t4, 4, none⟩) (.inr hl) _).setCell (p := ⟨t4, 5, none⟩) (.inr hl) _).setCell (p := ⟨t4, 6, none⟩) (.inr hl) _).setCell (p := ⟨t4, 7, none⟩) (.inr hl) _

theorem lmul {a b : Nat} (ha : a < NN) (hb : b < NN) (w : World) :
    Calls Tryd.prog 47 #[nv a, nv b] w fun e w' => e = .returned (wdv (a * b)) ∧ Mod [] w w' := by
  refine (lmul_words (parts a 4) (parts b 4) (parts_len _ _) (parts_len _ _) (parts_small _ _) (parts_small _ _) w).mono ?_
  rintro e w' ⟨⟨L, hL, sL, vL, rfl⟩, hm⟩
  refine ⟨?_, hm⟩
  rw [parts_num ha, parts_num hb] at vL
  rw [parts_of sL hL vL]
  rfl
end Go.Proofs.YtdgmnhiffoemmaaDoor
/-
  limb.size, limb.left. No statement of a claim stands here; each contract names what it asks.
-/
set_option linter.unusedSimpArgs false
namespace Go.Proofs.YtdgmnhiffoemmaaDoor
open Go Go.RowKit Go.ChangeMaps

/-- How many parts up to the highest one that is not nought. -/
def SizeIs (L : List Nat) (n : Nat) : Prop := n ≤ L.length ∧ (∀ j, n ≤ j → j < L.length → L[j]? = some 0) ∧ (n = 0 ∨ ∃ x, L[n - 1]? = some x ∧ x ≠ 0)

def SizeRel (L : List Nat) (W : World) (gk : Nat) (v : Value) (w : World) : Prop :=
  ∃ n : Nat, v = .int .i64 n ∧ gk = n ∧ n ≤ L.length ∧ (∀ j, n ≤ j → j < L.length → L[j]? = some 0) ∧ w = W

set_option maxRecDepth 100000 in
theorem size_any (L : List Nat) (hl : L.length ≤ 4) (g : Nat) (T : TypeId) (w : World) (h : w.heap[g]? = some (.cells (wcells L) T)) :
    Calls Tryd.prog 58 #[.slice (some ⟨g, 0, none⟩) L.length L.length] w fun e w' => ∃ n : Nat, e = .returned (.int .i64 n) ∧ SizeIs L n ∧ w' = w := by
  go_enter Tryd.func58, Tryd.ntmps58
  go_wp2
  go_loopg [3] L.length (fun gk v W' => SizeRel L w gk v W')
  case atStart => exact ⟨L.length, rfl, rfl, Nat.le_refl _, fun j h1 h2 => absurd h1 (by omega), rfl⟩
  case round =>
    obtain ⟨n, rfl, hgn, hn, hz, rfl⟩ := hrel
    by_cases hn0 : n = 0
    · subst hn0
      go_wp2
      refine bodyPost_ret (v := .int .i64 ((0 : Nat) : Int)) (by simp [results, Tryd.results58, go_sem]) rfl ⟨0, rfl, ⟨Nat.zero_le _, hz, .inl rfl⟩, rfl⟩
    · obtain ⟨x, hx⟩ : ∃ x, L[n - 1]? = some x := ⟨_, List.getElem?_eq_getElem (by omega)⟩
      have n1 : (0 : Int) < (n : Int) := by omega
      have cx := cell_at h (n - 1)
      rw [wcells_get, hx] at cx
      have hn2 : (0 : Int) ≤ (n : Int) - 1 := by omega
      have hn3 : (n : Int) - 1 < (L.length : Int) := by omega
      have hn4 : ((n : Int) - 1).toNat = n - 1 := by omega
      by_cases hx0 : x = 0
      · subst hx0
        go_wp2
        go_roundg (gk - 1)
        case measure => omega
        case rel =>
          refine ⟨n - 1, by rw [Int.natCast_sub (by omega)]; rfl, by omega, by omega, ?_, rfl⟩
          intro j h1 h2
          by_cases hj : j = n - 1
          · rw [hj]; exact hx
          · exact hz j (by omega) h2
      · have hx1 : ¬ (x : Int) = 0 := by omega
        go_wp2
        exact bodyPost_ret (v := .int .i64 (n : Int)) (by simp [results, Tryd.results58, go_sem]) rfl ⟨n, rfl, ⟨hn, hz, .inr ⟨x, hx, hx0⟩⟩, rfl⟩
end Go.Proofs.YtdgmnhiffoemmaaDoor
/-
  limb.left. No statement of a claim stands here; each contract names what it asks.
-/
set_option linter.unusedSimpArgs false
namespace Go.Proofs.YtdgmnhiffoemmaaDoor
open Go Go.RowKit Go.ChangeMaps

theorem make_parts (n : Nat) (hn : n ≤ 100) (w : World) : (Instr.makeSlice 81 (.int .i64 (n : Int)) (.int .i64 (n : Int))).run Tryd.prog w = .ok (.slice (some ⟨w.heap.size, 0, none⟩) n n) (w.alloc (.cells (wcells (List.replicate n 0)) 24)) := by
  obtain ⟨i, hi⟩ := Option.isSome_iff_exists.1 (show (Tryd.prog.info? 24).isSome = true by kernel_rfl)
  have h : (Tryd.prog.info? 24).map (fun i => (i.zero, i.size, i.bytes)) = some (some (.int .u64 0), 1, 8) := by kernel_rfl
  rw [hi] at h
  simp only [Option.map_some, Option.some.injEq, Prod.mk.injEq] at h
  obtain ⟨h1, h2, h3⟩ := h
  have hr := run_makeSlice (P := Tryd.prog) w 81 24 i (.int .u64 0) Tryd.underlying81 hi h1 .i64 .i64 n n (by omega) (by omega) (by rw [h2]; omega) (by rw [h3]; omega) (by omega)
  rw [hr, Int.toNat_natCast, h2, Nat.mul_one]
  have e : madeCells (Value.cells (.int .u64 0)) n = wcells (List.replicate n 0) := by
    apply Array.ext'
    have : (madeCells #[Value.int .u64 0] n).toList = _ := toList_madeCells_one _ n
    refine this.trans ?_
    simp [wcells]
  rw [e]

theorem BB_pow : BB = 2 ^ 64 := by decide
theorem BB_split {s : Nat} (hs : s < 64) : BB = 2 ^ (64 - s) * 2 ^ s := by
  rw [← Nat.pow_add, BB_pow]
  congr 1
  omega
theorem pow_le {s : Nat} (hs : s < 64) : 2 ^ s ≤ BB := by
  rw [BB_pow]
  exact Nat.pow_le_pow_right (by decide) (by omega)
theorem shift_parts {x y s : Nat} (hx : x < BB) (hs : s < 64) (hy : y < 2 ^ s) : y ||| x * 2 ^ s % BB = x * 2 ^ s % BB + y ∧ x * 2 ^ s % BB + y < BB ∧ x / 2 ^ (64 - s) = x * 2 ^ s / BB ∧ x * 2 ^ s / BB < 2 ^ s := by
  have hB := BB_split hs
  have hp : 0 < 2 ^ s := Nat.pow_pos (by decide)
  have hr : 0 < 2 ^ (64 - s) := Nat.pow_pos (by decide)
  have e1 : x * 2 ^ s % BB = x % 2 ^ (64 - s) * 2 ^ s := by rw [hB, Nat.mul_mod_mul_right]
  have e2 : x * 2 ^ s / BB = x / 2 ^ (64 - s) := by rw [hB, Nat.mul_div_mul_right _ _ hp]
  rw [e1, e2]
  refine ⟨?_, ?_, rfl, ?_⟩
  · rw [Nat.mul_comm, Nat.or_comm, Nat.two_pow_add_eq_or_of_lt hy]
  · have h1 := Nat.mod_lt x hr
    have h2 : (x % 2 ^ (64 - s) + 1) * 2 ^ s ≤ 2 ^ (64 - s) * 2 ^ s := Nat.mul_le_mul_right _ h1
    rw [Nat.succ_mul] at h2
    rw [hB]
    omega
  · rw [Nat.div_lt_iff_lt_mul hr, Nat.mul_comm, ← hB]
    exact hx
theorem wrap_shl (x s : Nat) : IntKind.u64.wrap ((x : Int) * 2 ^ s) = ((x * 2 ^ s % BB : Nat) : Int) := by
  rw [IntKind.wrap_u64]
  have : ((x * 2 ^ s : Nat) : Int) = (x : Int) * 2 ^ s := by simp only [Int.natCast_mul, Int.natCast_pow]; rfl
  rw [← this]
  unfold BB
  omega

/-- While a row is shifted. -/
def LeftRel (W : World) (go : Nat) (L : List Nat) (s : Nat) (gk : Nat) (v : Value) (w : World) : Prop :=
  ∃ (i : Nat) (O : List Nat), v = .int .i64 i ∧ gk + i = L.length ∧ O.length = L.length + 1 ∧ Small O ∧ val O = val (L.take i) * 2 ^ s ∧ (∀ j, i < j → j < O.length → O[j]? = some 0) ∧ (∃ y, O[i]? = some y ∧ y < 2 ^ s) ∧
    w.heap[go]? = some (.cells (wcells O) 24) ∧ Mod [go] W w

set_option maxRecDepth 100000 in
theorem left_any (L : List Nat) (hl : L.length ≤ 8) (sL : Small L) (g c : Nat) (T : TypeId) (C : List Nat) (hC : L = C.take L.length) (s : Nat) (hs : s < 64) (w : World) (h : w.heap[g]? = some (.cells (wcells C) T)) :
    Calls Tryd.prog 71 #[.slice (some ⟨g, 0, none⟩) L.length c, .int .u64 s] w fun e w' => ∃ (go : Nat) (O : List Nat), e = .returned (.slice (some ⟨go, 0, none⟩) (L.length + 1) (L.length + 1)) ∧
      O.length = L.length + 1 ∧ Small O ∧ val O = val L * 2 ^ s ∧ w'.heap[go]? = some (.cells (wcells O) 24) ∧ w.heap.size ≤ go ∧ Mod [] w w' := by
  have l1 : (0 : Int) ≤ (L.length : Int) + 1 := by omega
  have HC := hid (And.intro hC sL)
  clear hC sL
  have hmk : ∀ w, (Instr.makeSlice 81 (.int .i64 ((L.length : Int) + 1)) (.int .i64 ((L.length : Int) + 1))).run Tryd.prog w = .ok (.slice (some ⟨w.heap.size, 0, none⟩) (L.length + 1) (L.length + 1)) (w.alloc (.cells (wcells (List.replicate (L.length + 1) 0)) 24)) := fun w => make_parts (L.length + 1) (by omega) w
  go_enter Tryd.func71, Tryd.ntmps71
  go_wp2_with (simp only [hmk])
  refine wp_abs (fun W' => W'.heap[g]? = some (.cells (wcells C) T) ∧ W'.heap[w.heap.size]? = some (.cells (wcells (List.replicate (L.length + 1) 0)) 24) ∧ Mod [] w W') ⟨get_alloc h _, get_new _ _, (Mod.refl _ _).alloc _⟩ ?_
  rintro W ⟨hg, hgo, hm⟩
  obtain ⟨o, ho⟩ : ∃ t, t = w.heap.size := ⟨_, rfl⟩
  have hlt := lt_of_block h
  rw [← ho] at hgo hlt
  rw [← ho]
  have HM := hid (And.intro hm (And.intro ho hlt))
  clear hm ho h hlt
  go_loopg [14] L.length (fun gk v W' => LeftRel W o L s gk v W')
  case atStart =>
    refine ⟨0, List.replicate (L.length + 1) 0, rfl, rfl, by simp, Small.zeros _, ?_, ?_, ?_, hgo, Mod.refl _ _⟩
    · rw [val_zeros, List.take_zero, show val [] = 0 from rfl, Nat.zero_mul]
    · intro j h1 h2
      rw [List.length_replicate] at h2
      rw [List.getElem?_replicate, if_pos h2]
    · refine ⟨0, by rw [List.getElem?_replicate, if_pos (by omega)], Nat.pow_pos (by decide)⟩
  case round =>
    obtain ⟨i, O, rfl, hgi, hO, sO, vO, zO, ⟨y, hy, hys⟩, hgo, hm⟩ := hrel
    by_cases hi : i < L.length
    · have i1 : (i : Int) < (L.length : Int) := by omega
      have i0 : (0 : Int) ≤ (i : Int) := by omega
      obtain ⟨x, hx⟩ : ∃ x, L[i]? = some x := ⟨_, List.getElem?_eq_getElem hi⟩
      have hx2 : C[i]? = some x := by
        rw [HC.out.1, List.getElem?_take, if_pos hi] at hx
        exact hx
      have hg2 := hm.get hg (by rw [List.mem_singleton]; have := HM.out.2.2; omega)
      have cx := cell_at hg2 i
      rw [wcells_get, hx2] at cx
      have cy := cell_at hgo i
      rw [wcells_get, hy] at cy
      have fy := free_at hgo i
      have fz := free_at hgo (i + 1)
      have hz := zO (i + 1) (by omega) (by omega)
      have cz := cell_at hgo (i + 1)
      rw [wcells_get, hz] at cz
      have HQ := hid (And.intro hO (And.intro sO (And.intro vO (And.intro zO (And.intro hgo (And.intro hm (And.intro hx (And.intro hy (And.intro hz hys)))))))))
      clear hO sO vO zO hgo hm hg2
      have sx : x < BB := HC.out.2.get hx
      obtain ⟨ho1, ho2, ho3, ho4⟩ := shift_parts sx hs hys
      have hor : bits .or .u64 (y : Int) (IntKind.u64.wrap ((x : Int) * 2 ^ s)) = ((x * 2 ^ s % BB + y : Nat) : Int) := by
        rw [← ho1, wrap_shl]
        have hyb : y < BB := by omega
        have hmb := Nat.mod_lt (x * 2 ^ s) BB_pos
        unfold BB at hyb hmb ⊢
        exact bits_or_u64_nat _ _ hyb hmb
      have hshr : (x : Int) / 2 ^ (64 - s) = ((x * 2 ^ s / BB : Nat) : Int) := by
        rw [← ho3]
        simp only [Int.natCast_ediv, Int.natCast_pow]
        rfl
      have hq0 : s = 0 → x * 2 ^ s / BB = 0 := by
        rintro rfl
        rw [Nat.pow_zero, Nat.mul_one, Nat.div_eq_of_lt sx]
      have hstep := fun h1 h2 h3 => left_step (L := O) (l := L) (i := i) (x := x) (y := y) (s := 2 ^ s) hx h1 h2 h3
      generalize hzz : x * 2 ^ s % BB + y = z at *
      generalize hqq : x * 2 ^ s / BB = q at *
      have HZ := hid (And.intro hstep (And.intro ho2 (And.intro ho4 (And.intro sx (And.intro hi hgi)))))
      clear hzz hqq ho1 ho2 ho3 ho4 sx hstep
      by_cases hs0 : 0 < s
      · have s64 : (s : Int) ≤ 64 := by omega
        clear hq0
        go_wp2
        obtain ⟨hO, sO, vO, zO, hgo, hm, hx, hy, hz, hys⟩ := HQ.out
        obtain ⟨hstep, ho2, ho4, sx, hi, hgi⟩ := HZ.out
        have gs := get_setCell_self (get_setCell_self hgo i (.int .u64 (z : Int))) (i + 1) (.int .u64 (q : Int))
        rw [wcells_set, wcells_set] at gs
        go_roundg (gk - 1)
        case measure => omega
        case rel =>
          refine ⟨i + 1, (O.set i z).set (i + 1) q, rfl, by omega, by simp only [List.length_set]; exact hO, (sO.set _ ho2).set _ (Nat.lt_of_lt_of_le ho4 (pow_le hs)), hstep hy hz vO, ?_, ⟨q, ?_, ho4⟩, gs, (hm.setCell (.inl (by simp)) _).setCell (.inl (by simp)) _⟩
          · intro j h1 h2
            simp only [List.length_set] at h2
            rw [List.getElem?_set_ne (by omega), List.getElem?_set_ne (by omega)]
            exact zO j (by omega) h2
          · rw [List.getElem?_set_self (by rw [List.length_set]; omega)]
      · have s0 : s = 0 := by omega
        have hq := hq0 s0
        have HS := hid (And.intro s0 hq)
        clear hq0 s0 hq
        go_wp2
        obtain ⟨s0, hq⟩ := HS.out
        obtain ⟨hO, sO, vO, zO, hgo, hm, hx, hy, hz, hys⟩ := HQ.out
        obtain ⟨hstep, ho2, ho4, sx, hi, hgi⟩ := HZ.out
        have gs := get_setCell_self hgo i (.int .u64 (z : Int))
        rw [wcells_set] at gs
        have he : (O.set i z).set (i + 1) q = O.set i z := by
          apply List.ext_getElem?
          intro j
          by_cases hj : i + 1 = j
          · subst hj
            rw [List.getElem?_set_self (by rw [List.length_set]; omega), List.getElem?_set_ne (by omega), hz, hq]
          · rw [List.getElem?_set_ne hj]
        have hv := hstep hy hz vO
        rw [he] at hv
        go_roundg (gk - 1)
        case measure => omega
        case rel =>
          refine ⟨i + 1, O.set i z, rfl, by omega, by simp only [List.length_set]; exact hO, sO.set _ ho2, hv, ?_, ⟨0, ?_, Nat.pow_pos (by decide)⟩, gs, hm.setCell (.inl (by simp)) _⟩
          · intro j h1 h2
            simp only [List.length_set] at h2
            rw [List.getElem?_set_ne (by omega)]
            exact zO j (by omega) h2
          · rw [List.getElem?_set_ne (by omega)]
            exact hz
    · have i1 : ¬ (i : Int) < (L.length : Int) := by omega
      obtain rfl : i = L.length := by omega
      have HQ := hid (And.intro hO (And.intro sO (And.intro vO (And.intro hgo hm))))
      clear hO sO vO zO hgo hm hy hys
      go_wp2
      obtain ⟨hO, sO, vO, hgo, hm⟩ := HQ.out
      obtain ⟨hm0, ho, hlt⟩ := HM.out
      refine bodyPost_ret (v := .slice (some ⟨o, 0, none⟩) (L.length + 1) (L.length + 1)) (by simp [results, Tryd.results71, go_sem]) rfl ⟨o, rfl, O, hO, sO, ?_, hgo, by omega, hm0.trans' hm (fun b hb => .inr (by rw [List.mem_singleton.1 hb]; omega))⟩
      rw [vO, List.take_of_length_le (Nat.le_refl _)]
end Go.Proofs.YtdgmnhiffoemmaaDoor
/-
  limb.take. No statement of a claim stands here; each contract names what it asks.
-/
set_option linter.unusedSimpArgs false
namespace Go.Proofs.YtdgmnhiffoemmaaDoor
open Go Go.RowKit Go.ChangeMaps

theorem mid_get (P L R : List Nat) {j : Nat} (hj : j < L.length) : (P ++ L ++ R)[P.length + j]? = L[j]? := by
  rw [List.append_assoc, List.getElem?_append_right (by omega), Nat.add_sub_cancel_left, List.getElem?_append_left hj]
theorem mid_set (P L R : List Nat) {j : Nat} (hj : j < L.length) (z : Nat) : (P ++ L ++ R).set (P.length + j) z = P ++ L.set j z ++ R := by
  rw [List.append_assoc, List.set_append_right _ _ (by omega), Nat.add_sub_cancel_left, List.set_append_left _ _ hj, List.append_assoc]

theorem take_parts {q x c : Nat} (hq : q < BB) (hx : x < BB) (hc : c < BB) : ∃ hi lo l1 c1, q * x / BB = hi ∧ q * x % BB = lo ∧ (lo + c + 0) % BB = l1 ∧ (lo + c + 0) / BB = c1 ∧
    hi + c1 < BB ∧ (q * x + c) % BB = l1 ∧ (q * x + c) / BB = hi + c1 ∧ l1 < BB := by
  refine ⟨_, _, _, _, rfl, rfl, rfl, rfl, ?_⟩
  have h1 := Nat.div_add_mod (q * x) BB
  have h3 := Nat.div_add_mod (q * x % BB + c + 0) BB
  have h4 := Nat.mod_lt (q * x % BB + c + 0) BB_pos
  have h7 := carry_lt hq hx hc
  generalize q * x / BB = hi at *
  generalize q * x % BB = lo at *
  generalize (lo + c + 0) / BB = c1 at *
  generalize (lo + c + 0) % BB = l1 at *
  generalize q * x = D at *
  have hd : D + c = BB * (hi + c1) + l1 := by
    rw [Nat.mul_add]
    omega
  obtain ⟨e1, e2⟩ := div_unique hd h4
  rw [← e1] at h7
  exact ⟨h7, e2.symm, e1.symm, h4⟩

/-- While a multiple is taken away. -/
def TakeRel (W : World) (gl : Nat) (T : TypeId) (P L R M : List Nat) (q : Nat) (gk : Nat) (b c i : Value) (w : World) : Prop :=
  ∃ (j cn bn : Nat) (K : List Nat), i = .int .i64 j ∧ gk + j = M.length ∧ c = .int .u64 cn ∧ b = .int .u64 bn ∧ cn < BB ∧ bn ≤ 1 ∧ K.length = L.length ∧ Small K ∧ val K + q * val (M.take j) = val L + (cn + bn) * BB ^ j ∧
    w.heap[gl]? = some (.cells (wcells (P ++ K ++ R)) T) ∧ Mod [gl] W w

set_option maxRecDepth 100000 in
theorem take_any (P L R M : List Nat) (q : Nat) (hq : q < BB) (hL : L.length = M.length + 1) (sL : Small L) (sM : Small M) (hn : M.length ≤ 4) (gl cl : Nat) (T : TypeId) (gm cm : Nat) (T' : TypeId) (C : List Nat) (hC : M = C.take M.length) (w : World)
    (hgl : w.heap[gl]? = some (.cells (wcells (P ++ L ++ R)) T)) (hgm : w.heap[gm]? = some (.cells (wcells C) T')) (hne : gl ≠ gm) (hP : P.length + L.length + R.length ≤ 9) :
    Calls Tryd.prog 73 #[.slice (some ⟨gl, P.length, none⟩) (L.length + R.length) cl, .slice (some ⟨gm, 0, none⟩) M.length cm, .int .u64 q] w fun e w' => ∃ (K : List Nat) (b : Nat), e = .returned (.bool (b == 1)) ∧
      b ≤ 1 ∧ K.length = L.length ∧ Small K ∧ val K + q * val M = val L + b * BB ^ L.length ∧ w'.heap[gl]? = some (.cells (wcells (P ++ K ++ R)) T) ∧ Mod [gl] w w' := by
  have HC := hid (And.intro hC (And.intro sL sM))
  clear hC sL sM
  go_enter Tryd.func73, Tryd.ntmps73
  go_wp2
  go_loopg [7, 8, 17] M.length (fun gk b c i W' => TakeRel w gl T P L R M q gk b c i W')
  case atStart =>
    exact ⟨0, 0, 0, L, rfl, rfl, rfl, rfl, BB_pos, by omega, rfl, HC.out.2.1, by rw [List.take_zero, show val [] = 0 from rfl, Nat.mul_zero, Nat.zero_mul], hgl, Mod.refl _ _⟩
  case round =>
    obtain ⟨j, c, b, K, rfl, hgj, rfl, rfl, hc, hb, hK, sK, vK, hgl2, hm⟩ := hrel
    by_cases hj : j < M.length
    · have j1 : (j : Int) < (M.length : Int) := by omega
      have j0 : (0 : Int) ≤ (j : Int) := by omega
      obtain ⟨x, hx⟩ : ∃ x, M[j]? = some x := ⟨_, List.getElem?_eq_getElem hj⟩
      obtain ⟨y, hy⟩ : ∃ y, K[j]? = some y := ⟨_, List.getElem?_eq_getElem (by omega)⟩
      have hx2 : C[j]? = some x := by
        rw [HC.out.1, List.getElem?_take, if_pos hj] at hx
        exact hx
      have cx := cell_at (hm.get hgm (by rw [List.mem_singleton]; omega)) j
      rw [wcells_get, hx2] at cx
      have cy := cell_at hgl2 (P.length + j)
      rw [wcells_get, mid_get P K R (by omega), hy] at cy
      have fy := free_at hgl2 (P.length + j)
      have jl : (j : Int) < (L.length : Int) + (R.length : Int) := by omega
      obtain ⟨hi, lo, l1, c1, e1, e2, e3, e4, b5, e7, e8, b6⟩ := take_parts hq (HC.out.2.2.get hx) hc
      obtain ⟨z, hzz⟩ : ∃ z, z = (y + BB - l1 - b) % BB := ⟨_, rfl⟩
      obtain ⟨bo, hbo⟩ : ∃ b', b' = (if y < l1 + b then 1 else 0) := ⟨_, rfl⟩
      have hb1 : bo ≤ 1 := by rw [hbo]; split <;> omega
      have hzb : z < BB := by rw [hzz]; exact Nat.mod_lt _ BB_pos
      have hsub : ∀ W : World, (callFunc 75 #[.int .u64 y, .int .u64 l1, .int .u64 b]).run Tryd.prog W = .ok (.value (.tuple #[.int .u64 (z : Int), .int .u64 (bo : Int)])) W := fun W => by
        rw [hzz, hbo]
        exact sub64_call y l1 b hb W
      have hmul : ∀ W : World, Calls Tryd.prog 60 #[.int .u64 q, .int .u64 x] W fun e w' => e = .returned (.tuple #[.int .u64 (hi : Int), .int .u64 (lo : Int)]) ∧ w' = W := fun W => by
        rw [← e1, ← e2]
        exact mul64_any q x hq (HC.out.2.2.get hx) W
      have hadd : ∀ W : World, (callFunc 61 #[.int .u64 (lo : Int), .int .u64 (c : Int), .int .u64 0]).run Tryd.prog W = .ok (.value (.tuple #[.int .u64 (l1 : Int), .int .u64 (c1 : Int)])) W := fun W => by
        rw [← e3, ← e4]
        exact add64_call lo c 0 (by omega) W
      have hstep : val (K.set j z) + q * val (M.take (j + 1)) = val L + (hi + c1 + bo) * BB ^ (j + 1) := by
        have h := take_step hy (sK.get hy) hx hb vK
        rw [e7, e8, ← hzz, ← hbo] at h
        exact h
      have hw1 : IntKind.u64.wrap ((hi : Int) + (c1 : Int)) = (hi : Int) + (c1 : Int) := by rw [← Int.natCast_add]; exact wrap_small b5
      have HQ := hid (And.intro hK (And.intro sK (And.intro hgl2 (And.intro hm (And.intro hstep (And.intro b5 (And.intro hgj (And.intro hzb (And.intro hb1 hL)))))))))
      clear hzz hbo e1 e2 e3 e4 e7 e8 b5 b6 hstep hK sK hgl2 hm vK hb hc
      go_wp2_with (first | simp only [hadd] | simp only [hsub] | (go_at_call 60; refine (hmul _).mono ?_; rintro e w' ⟨rfl, hw'⟩; subst hw'))
      obtain ⟨hK, sK, hgl2, hm, hstep, b5, hgj, hzb, hb1, hL⟩ := HQ.out
      have gs := get_setCell_self hgl2 (P.length + j) (.int .u64 (z : Int))
      rw [wcells_set, mid_set P K R (by omega)] at gs
      go_roundg (gk - 1)
      case measure => omega
      case rel =>
        exact ⟨j + 1, hi + c1, bo, K.set j z, rfl, by omega, by rw [Int.natCast_add], rfl, b5, hb1, by rw [List.length_set]; exact hK, sK.set _ hzb, hstep, gs, hm.setCell (.inl (by simp)) _⟩
    · have j1 : ¬ (j : Int) < (M.length : Int) := by omega
      obtain rfl : j = M.length := by omega
      obtain ⟨y, hy⟩ : ∃ y, K[M.length]? = some y := ⟨_, List.getElem?_eq_getElem (by omega)⟩
      have cy := cell_at hgl2 (P.length + M.length)
      rw [wcells_get, mid_get P K R (by omega), hy] at cy
      have fy := free_at hgl2 (P.length + M.length)
      have jl : (M.length : Int) < (L.length : Int) + (R.length : Int) := by omega
      obtain ⟨z, hzz⟩ : ∃ z, z = (y + BB - c - b) % BB := ⟨_, rfl⟩
      obtain ⟨bo, hbo⟩ : ∃ b', b' = (if y < c + b then 1 else 0) := ⟨_, rfl⟩
      have hb1 : bo ≤ 1 := by rw [hbo]; split <;> omega
      have hzb : z < BB := by rw [hzz]; exact Nat.mod_lt _ BB_pos
      have hsub : ∀ W : World, (callFunc 75 #[.int .u64 y, .int .u64 c, .int .u64 b]).run Tryd.prog W = .ok (.value (.tuple #[.int .u64 (z : Int), .int .u64 (bo : Int)])) W := fun W => by
        rw [hzz, hbo]
        exact sub64_call y c b hb W
      have hstep : val (K.set M.length z) + q * val M = val L + bo * BB ^ (M.length + 1) := by
        rw [List.take_of_length_le (Nat.le_refl _)] at vK
        have h := take_end hy (sK.get hy) hc hb vK
        rw [← hzz, ← hbo] at h
        exact h
      have HQ := hid (And.intro hK (And.intro sK (And.intro hgl2 (And.intro hm (And.intro hstep (And.intro hzb (And.intro hb1 hL)))))))
      clear hzz hbo hstep hK sK hgl2 hm vK hb hc hL
      go_wp2_with (first | simp only [hsub])
      obtain ⟨hK, sK, hgl2, hm, hstep, hzb, hb1, hL⟩ := HQ.out
      have gs := get_setCell_self hgl2 (P.length + M.length) (.int .u64 (z : Int))
      rw [wcells_set, mid_set P K R (by omega)] at gs
      refine bodyPost_ret (v := .bool (bo == 1)) ?_ rfl ⟨K.set M.length z, bo, rfl, hb1, by rw [List.length_set]; exact hK, sK.set _ hzb, by rw [hL]; exact hstep, by rw [← List.append_assoc]; exact gs, hm.setCell (.inl (by simp)) _⟩
      have hk3 : bo = 0 ∨ bo = 1 := by omega
      rcases hk3 with h | h <;> subst h <;> simp [results, Tryd.results73, go_sem]
end Go.Proofs.YtdgmnhiffoemmaaDoor
