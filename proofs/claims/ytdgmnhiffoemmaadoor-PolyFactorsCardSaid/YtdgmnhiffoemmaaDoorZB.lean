/-
  PolyFactors, walked. No statement of a claim stands here; each contract names what it asks.
-/
import Derived.Test.YtdgmnhiffoemmaaDoorZB0
import Derived.Test.YtdgmnhiffoemmaaDoorYU
set_option linter.unusedSimpArgs false
namespace Go.Proofs.YtdgmnhiffoemmaaDoor
open Go Go.RowKit Go.ChangeMaps

theorem natRow_small {w : World} {g : Nat} {l : List Nat} (h : NatRow w g l) {i x : Nat} (hx : l[i]? = some x) (hB : x < BB) :
    w.cell? ⟨g, i * 4, none⟩ = some (.int .u64 (x : Int)) ∧ w.cell? ⟨g, i * 4 + 1, none⟩ = some (.int .u64 0) ∧ w.cell? ⟨g, i * 4 + 2, none⟩ = some (.int .u64 0) ∧ w.cell? ⟨g, i * 4 + 3, none⟩ = some (.int .u64 0) := h.cells hx (parts_one hB)
/-- A number's four cells, one part alone. -/
def Row1 (g i : Nat) (x : Nat) (w : World) : Prop := w.cell? ⟨g, i * 4, none⟩ = some (.int .u64 (x : Int)) ∧ w.cell? ⟨g, i * 4 + 1, none⟩ = some (.int .u64 0) ∧ w.cell? ⟨g, i * 4 + 2, none⟩ = some (.int .u64 0) ∧ w.cell? ⟨g, i * 4 + 3, none⟩ = some (.int .u64 0)
theorem Row1.mod {g i x : Nat} {w w' : World} {S : List Nat} (h : Row1 g i x w) (m : Mod S w w') (hn : g ∉ S) : Row1 g i x w' := ⟨m.cell h.1 hn, m.cell h.2.1 hn, m.cell h.2.2.1 hn, m.cell h.2.2.2 hn⟩

set_option maxRecDepth 100000 in
set_option maxHeartbeats 8000000 in
theorem factors_law (xs : List Int) (hxl : xs.length ≤ maxLen) (ax : Option Addr) (cx : Nat) (n which : Int) {at_ : Nat} (hat : at_ < NN) (w : World) (hx : IntsArg w ax xs) :
    Calls Tryd.prog 4 #[.slice ax xs.length cx, .int .i64 n, nv at_, .int .i64 which] w fun e w' => e = .returned (.bool true) ∧ Mod [] w w' := by
  obtain ⟨a0, a1, a2, a3, haa⟩ := nv_lit at_
  obtain ⟨hr1, hr2⟩ := among_in n 9 (by omega)
  obtain ⟨r, hr⟩ : ∃ r, among n 9 = r := ⟨_, rfl⟩
  rw [hr] at hr1 hr2
  obtain ⟨nn, hnn⟩ : ∃ nn : Nat, (nn : Int) = 1 + r := ⟨(1 + r).toNat, by omega⟩
  have n1 : 1 ≤ nn := by omega
  have n9 : nn ≤ 9 := by omega
  have hw : IntKind.i64.wrap (1 + r) = (nn : Int) := by rw [hnn]; exact IntWalk.i64_in _ (by omega)
  have CW : Hid (∀ W : World, _) := fun W => works_any W
  have cam := fun W => among_any n 9 W (by omega) (by omega)
  rw [hr] at cam
  have CAM := hid cam
  obtain ⟨hk1, hk2⟩ := among_in which nn (by omega)
  obtain ⟨kn, hkn⟩ : ∃ kn : Nat, among which nn = (kn : Int) := ⟨(among which nn).toNat, by omega⟩
  have hkl : kn < nn := by omega
  have cam2 := fun W => among_any which nn W (by omega) (by omega)
  rw [hkn] at cam2
  have CAM2 := hid cam2
  have CA : Hid (∀ (W : World) (h : IntsArg W ax xs), _) := fun W h => apart_any xs hxl ax cx nn (by omega) W h
  have CO : Hid (∀ W : World, _) := fun W => c_order W
  have CN1 : Hid (∀ W : World, Calls Tryd.prog 16 #[.int .i64 1] W fun e w' => e = .returned (one4 1) ∧ Mod [] W w') := fun W => c_nat (x := 1) (by omega) W
  have CF1 : Hid (∀ (ys : List Nat) (hys : ∀ x ∈ ys, x < 1000000) (hap : AllApart order ys) (hl : ys.length = nn) (g c : Nat) (W : World) (h : NatRow W g ys), Calls Tryd.prog 17 #[one4 581039633, nv at_, .slice (some ⟨g, 0, none⟩) nn c] W fun e w' =>
      (∃ (v : Value) (fs : List Nat), fs.length = nn ∧ (∀ (i f : Nat), fs[i]? = some f → FacOk order at_ ys i f) ∧ Nats W.heap.size w' v fs ∧ e = .returned (.tuple #[v, .int .i64 0])) ∧ Mod [] W w') :=
    fun ys hys hap hl g c W h => by rw [← hl]; exact c_factors hat ys hys hap (by omega) (by omega) g c W h
  have CF2 : Hid (∀ (ys : List Nat) (hys : ∀ x ∈ ys, x < 1000000) (hap : AllApart order ys) (hl : ys.length = nn) (k : Nat) (hk : ys[kn]? = some k) (g c : Nat) (W : World) (h : NatRow W g ys), Calls Tryd.prog 17 #[one4 581039633, one4 (k : Int), .slice (some ⟨g, 0, none⟩) nn c] W fun e w' =>
      (∃ (v : Value) (fs : List Nat), fs.length = nn ∧ (∀ (i f : Nat), fs[i]? = some f → FacOk order k ys i f) ∧ Nats W.heap.size w' v fs ∧ e = .returned (.tuple #[v, .int .i64 0])) ∧ Mod [] W w') :=
    fun ys hys hap hl k hk g c W h => by
      have hkB := hys k (List.mem_of_getElem? hk)
      rw [← hl, ← nv_one4B (x := k) (by unfold BB; omega)]
      exact c_factors (NN_big hkB) ys hys hap (by omega) (by omega) g c W h
  have HX := hid hx
  have HK := hid hkl
  have n3 : (nn : Int) ≤ 9 := by omega
  have n4 : (1 : Int) ≤ (nn : Int) := by omega
  rw [haa] at CF1
  rw [haa]
  unfold lit4 one4 at *
  clear hx haa hat hr hr1 hr2 hnn cam cam2 hk1 hk2 hkn hxl
  go_enter Tryd.func4, Tryd.ntmps4
  go_upto_region 1 with fail
  refine wp_abs (fun W => W.heap[w.heap.size]? = some (.cells (wcells [a0, a1, a2, a3]) 26) ∧ Mod [] w W) ⟨get_new _ _, (Mod.refl _ _).alloc _⟩ ?_
  generalize w.heap.size = t6 at *
  rintro W ⟨g6, hm0⟩
  have HB := hid (And.intro g6 hm0)
  clear g6 hm0
  go_upto_region 4 with (first
    | (go_at_call 8; refine (CW.out _).mono ?_; rintro e w1 ⟨rfl, hm1⟩; have H1 := hid hm1; clear hm1)
    | (go_at_call 15; refine (CAM.out _).mono ?_; rintro e w2 ⟨rfl, hw2⟩; subst hw2)
    | (go_at_call 12; refine (CA.out _ (HX.out.mod (HB.out.2.trans H1.out))).mono ?_; rintro e w4 ⟨⟨v4, l4, rfl, hv4, hl4, hd4⟩, hm4⟩; obtain ⟨gx, cx4, e4, -, hrx⟩ := hv4.intRow (by intro h; rw [h] at hl4; simp at hl4; omega) (fun x hx => Int.le_trans (by decide) (hd4.range x hx).1); rw [hl4] at e4; subst e4; have H4 := hid (And.intro hrx (And.intro hd4.small (And.intro hd4.apart (And.intro (show (l4.map Int.toNat).length = nn by rw [List.length_map]; exact hl4) (H1.out.trans hm4))))); generalize l4.map Int.toNat = ys at *; clear hv4 hl4 hd4 hm4 hrx))
  clear CW CAM CA HX H1 hw
  go_upto_block 0 with fail
  refine wp_abs (fun W => Nats w4.heap.size W (.slice (some ⟨w4.heap.size, 0, none⟩) 0 0) [] ∧ Mod [] w4 W) ⟨RowOf.empty (get_new _ _) (Nat.le_refl _), (Mod.refl _ _).alloc _⟩ ?_
  rintro W5 ⟨hv5, hm5⟩
  have H5 := hid (And.intro hv5 hm5)
  clear hv5 hm5
  go_wp2_with fail
  go_loopg [10, 11] nn (fun gk v i W' => ∃ j : Nat, i = .int .i64 j ∧ gk + j = nn ∧ Nats w4.heap.size W' v (ys.take j) ∧ Mod [] w4 W')
  case atStart => exact ⟨0, rfl, rfl, H5.out.1, H5.out.2⟩
  case round =>
    obtain ⟨j, rfl, hgj, hv, hm⟩ := hrel
    by_cases hj : j < nn
    · have j1 : (j : Int) < (nn : Int) := by omega
      have j0 : (0 : Int) ≤ (j : Int) := by omega
      have hlen := H4.out.2.2.2.1
      obtain ⟨y, hy⟩ : ∃ y, ys[j]? = some y := ⟨_, List.getElem?_eq_getElem (by omega)⟩
      have hyB := H4.out.2.1 y (List.mem_of_getElem? hy)
      have hcy := (H4.out.1.mod hm (by simp)).cell hy
      have htk : ys.take (j + 1) = ys.take j ++ [y] := by rw [List.take_add_one, hy]; simp
      have e4 : (encN y).toArray = #[.int .u64 (y : Int), .int .u64 0, .int .u64 0, .int .u64 0] := by rw [encN_lit (parts_one (show y < BB by unfold BB; omega))]; rfl
      have hpl : (ys.take j).length ≤ 5000 := by rw [List.length_take]; omega
      have cn := fun W => c_nat (x := y) (by omega) W
      unfold one4 at cn
      have CN := hid cn
      have elen : (ys.take j).length = j := by rw [List.length_take]; omega
      obtain ⟨av, kv, hvv⟩ := row_slJ hv.row
      rw [elen] at hvv
      subst hvv
      have HN := hid (And.intro hv (And.intro hm (And.intro htk (And.intro e4 (And.intro hpl hgj)))))
      clear hv hm htk e4 hpl hgj hy hyB cn hlen elen
      go_wp2_with (first
        | (go_at_call 16; refine (CN.out _).mono ?_; rintro e w5 ⟨rfl, hm5⟩; have hv := HN.out.1.mod hm5 (fun _ _ => by simp); have happ := RowOf.app elemN encN_len encN_one hv (Nat.le_trans HN.out.2.1.size hm5.size) y HN.out.2.2.2.2.1 (by omega); rw [HN.out.2.2.2.1] at happ; have HA := hid (And.intro happ (And.intro hm5 hv)); clear happ hm5 hv)
        | (at_builtin; refine wpList_app_run rfl _ _ 22 rfl _ _ rfl rfl _ HA.out.1 ?_; rintro v3 w6 ⟨h31, h32, h33⟩; have H6 := hid (And.intro h31 (And.intro h32 h33)); clear h31 h32 h33))
      obtain ⟨-, hm, htk, -, -, hgj⟩ := HN.out
      have hmE : Mod [] w4 w6 := (hm.trans HA.out.2.1).trans' H6.out.2.1 (fun k hk => .inr (HA.out.2.2.own k (by simpa using hk)))
      go_roundg (gk - 1)
      case measure => omega
      case rel => exact ⟨j + 1, rfl, by omega, by rw [htk]; exact H6.out.1, hmE⟩
    · have j1 : ¬ (j : Int) < (nn : Int) := by omega
      obtain rfl : nn = j := by omega
      have hlen := H4.out.2.2.2.1
      rw [List.take_of_length_le (by omega)] at hv
      obtain ⟨gm, cm, e10, -, -, hrow⟩ := hv.natRow (by intro h; rw [h] at hlen; simp at hlen; omega)
      rw [hlen] at e10
      subst e10
      have HR := hid (And.intro hrow (hm))
      clear hv hrow hm hlen hgj hj j1
      go_upto_region 9 with fail
      have hmE : Mod [] w wr := ((HB.out.2.trans H4.out.2.2.2.2).trans HR.out.2)
      have hS : wr.drew.heap[t6]? = some (.cells (wcells [a0, a1, a2, a3]) 26) := ((H4.out.2.2.2.2.trans HR.out.2).drew).get HB.out.1 (by simp)
      have hrow : NatRow wr.drew gm ys := HR.out.1.mod ((Mod.refl [] wr).drew) (by simp)
      have hmd := hmE.drew
      have HRD := hid (And.intro hrow hmd)
      clear hmE hrow hmd HR
      refine wp_region_N (fun w' : World => w'.heap[t6]? = some (.cells (wcells [a0, a1, a2, a3]) 26)) (fun i => true) (by kernel_rfl) ?_
      generalize wr.drew = wd at *
      have hM := Mod.refl [] wd
      refine regS 1 45 (v := ?_) hS rfl rfl (by kernel_rfl) (by kernel_rfl) (by kernel_rfl) (by kernel_rfl) (fun _ _ _ h => h) (by rfl) (fun w hSw => ?_) ?_; rotate_left; (have qc0 := cell_at hSw 0; have qc1 := cell_at hSw 1; have qc2 := cell_at hSw 2; have qc3 := cell_at hSw 3; simp only [wcells_get] at qc0 qc1 qc2 qc3; go_simp; first | done | with_reducible rfl); (try simp only [Act.put, List.setIfInBounds_toArray, List.set_cons_zero, List.set_cons_succ])
      refine regA 2 46 (v := ?_) rfl rfl (by kernel_rfl) (by kernel_rfl) (by kernel_rfl) (fun _ _ _ h => h) (by rfl) (fun w => ?_) ?_; rotate_left; (go_simp; first | done | with_reducible rfl); (try simp only [Act.put, List.setIfInBounds_toArray, List.set_cons_zero, List.set_cons_succ])
      clear hS
      refine regOnly 0 (by kernel_rfl) rfl (by rfl) (fun K hK => ?_)
      go_wp2_with (go_at_call 11; refine (CO.out _).mono ?_; rintro e wo ⟨rfl, hm⟩)
      refine hK.out _ _ (fun _ h => hm.get h (by simp)) ?_
      clear hK
      (try simp only [Act.put, List.setIfInBounds_toArray, List.set_cons_zero, List.set_cons_succ])
      have hM := hM.trans hm
      clear hm
      refine regOnly 3 (by kernel_rfl) rfl (by rfl) (fun K hK => ?_)
      go_wp2_with (go_at_call 17; refine (CF1.out ys H4.out.2.1 H4.out.2.2.1 H4.out.2.2.2.1 _ _ _ (HRD.out.1.mod hM (by simp))).mono ?_; rintro e w7 ⟨⟨vf, fs, hfl, hfo, hvf, rfl⟩, hm⟩)
      refine hK.out _ _ (fun _ h => hm.get h (by simp)) ?_
      clear hK
      (try simp only [Act.put, List.setIfInBounds_toArray, List.set_cons_zero, List.set_cons_succ])
      have hM := hM.trans hm
      clear hm
      obtain ⟨gf, cf, ef, -, -, hfrow⟩ := hvf.natRow (by intro h; rw [h] at hfl; simp at hfl; omega)
      rw [hfl] at ef
      subst ef
      have hfN : ∀ f ∈ fs, f < order := fun f hf => by
        obtain ⟨i, hi⟩ := List.mem_iff_getElem?.1 hf
        obtain ⟨xi, u, -, h1, -⟩ := hfo i f hi
        exact h1
      have hsum := factors_sum order_prim order_2 H4.out.2.2.1 (by rw [hfl]; exact H4.out.2.2.2.1.symm) hfo (by have := H4.out.2.2.2.1; omega)
      have CS : Hid (∀ (W : World) (h : NatRow W gf fs), Calls Tryd.prog 18 #[one4 581039633, .slice (some ⟨gf, 0, none⟩) nn cf] W fun e w' => e = .returned (.tuple #[one4 1, .int .i64 0]) ∧ Mod [] W w') :=
        fun W h => by rw [← hfl]; exact c_sum fs hfN hsum (by omega) gf cf W h
      unfold one4 at CS
      have HF := hid (And.intro hfrow hM)
      clear hvf hfl hfo hfN hsum hfrow hM
      refine regA 4 43 (v := ?_) rfl rfl (by kernel_rfl) (by kernel_rfl) (by kernel_rfl) (fun _ _ _ h => h) (by rfl) (fun w => ?_) ?_; rotate_left; (go_simp; first | done | with_reducible rfl); (try simp only [Act.put, List.setIfInBounds_toArray, List.set_cons_zero, List.set_cons_succ])
      refine regA 5 48 (v := ?_) rfl rfl (by kernel_rfl) (by kernel_rfl) (by kernel_rfl) (fun _ _ _ h => h) (by rfl) (fun w => ?_) ?_; rotate_left; (go_simp; first | done | with_reducible rfl); (try simp only [Act.put, List.setIfInBounds_toArray, List.set_cons_zero, List.set_cons_succ])
      refine regA 6 49 (v := ?_) rfl rfl (by kernel_rfl) (by kernel_rfl) (by kernel_rfl) (fun _ _ _ h => h) (by rfl) (fun w => ?_) ?_; rotate_left; (go_simp; first | done | with_reducible rfl); (try simp only [Act.put, List.setIfInBounds_toArray, List.set_cons_zero, List.set_cons_succ])
      refine regA 7 12 (v := ?_) rfl rfl (by kernel_rfl) (by kernel_rfl) (by kernel_rfl) (fun _ _ _ h => h) (by rfl) (fun w => ?_) ?_; rotate_left; (go_simp; first | done | with_reducible rfl); (try simp only [Act.put, List.setIfInBounds_toArray, List.set_cons_zero, List.set_cons_succ])
      refine regA 8 13 (v := ?_) rfl rfl (by kernel_rfl) (by kernel_rfl) (by kernel_rfl) (fun _ _ _ h => h) (by rfl) (fun w => ?_) ?_; rotate_left; (go_simp; first | done | with_reducible rfl); (try simp only [Act.put, List.setIfInBounds_toArray, List.set_cons_zero, List.set_cons_succ])
      refine regDone (by kernel_rfl) ?_ _
      go_upto_region 11 with (first
        | (go_at_call 11; refine (CO.out _).mono ?_; rintro e w8 ⟨rfl, hm⟩; have H8 := hid hm; clear hm)
        | (go_at_call 18; refine (CS.out _ (HF.out.1.mod H8.out (by simp))).mono ?_; rintro e w9 ⟨rfl, hm⟩; have H9 := hid (H8.out.trans hm); clear hm))
      refine wp_abs (fun W => W.heap[w9.heap.size]? = some (.cells (wcells [1, 0, 0, 0]) 26) ∧ Mod [] w7 W) ⟨get_new _ _, H9.out.alloc _⟩ ?_
      generalize w9.heap.size = t14 at *
      rintro W9 ⟨g14, hm9⟩
      have H10 := hid (And.intro g14 hm9)
      clear g14 hm9 H8 H9
      go_upto_region 12 with (go_at_call 15; refine (CAM2.out _).mono ?_; rintro e w10 ⟨rfl, hw2⟩; subst hw2)
      have hlen := H4.out.2.2.2.1
      have hkl := HK.out
      obtain ⟨k, hk⟩ : ∃ k, ys[kn]? = some k := ⟨_, List.getElem?_eq_getElem (by omega)⟩
      have hkB := H4.out.2.1 k (List.mem_of_getElem? hk)
      have k0 : (0 : Int) ≤ (kn : Int) := by omega
      have k1 : (kn : Int) < (nn : Int) := by omega
      have CFK : Hid (∀ (W : World) (h : NatRow W gm ys), _) := fun W h => CF2.out ys H4.out.2.1 H4.out.2.2.1 H4.out.2.2.2.1 k hk gm cm W h
      have hrow : NatRow W9.drew gm ys := HRD.out.1.mod ((HF.out.2.trans H10.out.2).drew) (by simp)
      have hS : Row1 gm kn k W9.drew := natRow_small hrow hk (by unfold BB; omega)
      have hmd : Mod [] w W9.drew := (HRD.out.2.trans (HF.out.2.trans H10.out.2)).drew
      have g14 : W9.drew.heap[t14]? = some (.cells (wcells [1, 0, 0, 0]) 26) := H10.out.1
      have HK2 := hid hk
      have HD2 := hid (And.intro hrow (And.intro hmd g14))
      clear hlen hkl hk hkB hrow hmd g14 H10 HF HRD
      refine wp_region_N (Row1 gm kn k) (fun i => true) (by kernel_rfl) ?_
      generalize W9.drew = we at *
      have hM := Mod.refl [] we
      refine regA 1 62 (v := ?_) rfl rfl (by kernel_rfl) (by kernel_rfl) (by kernel_rfl) (fun _ _ _ h => h) (by rfl) (fun w => ?_) ?_; rotate_left; (go_simp; first | done | with_reducible rfl); (try simp only [Act.put, List.setIfInBounds_toArray, List.set_cons_zero, List.set_cons_succ])
      refine regA 2 63 (v := ?_) rfl rfl (by kernel_rfl) (by kernel_rfl) (by kernel_rfl) (fun _ _ _ h => h) (by rfl) (fun w => ?_) ?_; rotate_left; (go_simp; first | done | with_reducible rfl); (try simp only [Act.put, List.setIfInBounds_toArray, List.set_cons_zero, List.set_cons_succ])
      refine regA 3 64 (v := .pointer (some ⟨gm, kn * 4, none⟩)) rfl rfl (by kernel_rfl) (by kernel_rfl) (by kernel_rfl) (fun _ _ _ h => h) (by rfl) (fun w => ?_) ?_
      · go_simp
      (try simp only [Act.put, List.setIfInBounds_toArray, List.set_cons_zero, List.set_cons_succ])
      refine regS 4 65 (v := ?_) hS rfl rfl (by kernel_rfl) (by kernel_rfl) (by kernel_rfl) (by kernel_rfl) (fun _ _ _ h => h) (by rfl) (fun w hSw => ?_) ?_; rotate_left; (obtain ⟨qc0, qc1, qc2, qc3⟩ := hSw; go_simp; first | done | with_reducible rfl); (try simp only [Act.put, List.setIfInBounds_toArray, List.set_cons_zero, List.set_cons_succ])
      refine regA 5 66 (v := ?_) rfl rfl (by kernel_rfl) (by kernel_rfl) (by kernel_rfl) (fun _ _ _ h => h) (by rfl) (fun w => ?_) ?_; rotate_left; (go_simp; first | done | with_reducible rfl); (try simp only [Act.put, List.setIfInBounds_toArray, List.set_cons_zero, List.set_cons_succ])
      clear hS
      refine regOnly 0 (by kernel_rfl) rfl (by rfl) (fun K hK => ?_)
      go_wp2_with (go_at_call 11; refine (CO.out _).mono ?_; rintro e wo ⟨rfl, hm⟩)
      refine hK.out _ _ (fun _ h => h.mod hm (by simp)) ?_
      clear hK
      (try simp only [Act.put, List.setIfInBounds_toArray, List.set_cons_zero, List.set_cons_succ])
      have hM := hM.trans hm
      clear hm
      refine regOnly 6 (by kernel_rfl) rfl (by rfl) (fun K hK => ?_)
      go_wp2_with (go_at_call 17; refine (CFK.out _ (HD2.out.1.mod hM (by simp))).mono ?_; rintro e w11 ⟨⟨vg, gs, hgl, hgo, hvg, rfl⟩, hm⟩)
      refine hK.out _ _ (fun _ h => h.mod hm (by simp)) ?_
      clear hK
      (try simp only [Act.put, List.setIfInBounds_toArray, List.set_cons_zero, List.set_cons_succ])
      have hM := hM.trans hm
      clear hm
      obtain ⟨gg, cg, eg, -, -, hgrow⟩ := hvg.natRow (by intro h; rw [h] at hgl; simp at hgl; omega)
      rw [hgl] at eg
      subst eg
      have HG := hid (And.intro hgrow (And.intro hgl hgo))
      have HMG := hid (And.intro (HD2.out.2.1.trans hM) (hM.get HD2.out.2.2 (by simp)))
      clear hvg hgl hgo hgrow hM
      refine regA 7 60 (v := ?_) rfl rfl (by kernel_rfl) (by kernel_rfl) (by kernel_rfl) (fun _ _ _ h => h) (by rfl) (fun w => ?_) ?_; rotate_left; (go_simp; first | done | with_reducible rfl); (try simp only [Act.put, List.setIfInBounds_toArray, List.set_cons_zero, List.set_cons_succ])
      refine regA 8 68 (v := ?_) rfl rfl (by kernel_rfl) (by kernel_rfl) (by kernel_rfl) (fun _ _ _ h => h) (by rfl) (fun w => ?_) ?_; rotate_left; (go_simp; first | done | with_reducible rfl); (try simp only [Act.put, List.setIfInBounds_toArray, List.set_cons_zero, List.set_cons_succ])
      refine regA 9 69 (v := ?_) rfl rfl (by kernel_rfl) (by kernel_rfl) (by kernel_rfl) (fun _ _ _ h => h) (by rfl) (fun w => ?_) ?_; rotate_left; (go_simp; first | done | with_reducible rfl); (try simp only [Act.put, List.setIfInBounds_toArray, List.set_cons_zero, List.set_cons_succ])
      refine regA 10 17 (v := ?_) rfl rfl (by kernel_rfl) (by kernel_rfl) (by kernel_rfl) (fun _ _ _ h => h) (by rfl) (fun w => ?_) ?_; rotate_left; (go_simp; first | done | with_reducible rfl); (try simp only [Act.put, List.setIfInBounds_toArray, List.set_cons_zero, List.set_cons_succ])
      refine regA 11 18 (v := ?_) rfl rfl (by kernel_rfl) (by kernel_rfl) (by kernel_rfl) (fun _ _ _ h => h) (by rfl) (fun w => ?_) ?_; rotate_left; (go_simp; first | done | with_reducible rfl); (try simp only [Act.put, List.setIfInBounds_toArray, List.set_cons_zero, List.set_cons_succ])
      refine regDone (by kernel_rfl) ?_ _
      go_upto_region 13 with fail
      have Q1 : ∀ W : World, (Op.equalIn 10000 26 (.agg #[.int .u64 1, .int .u64 0, .int .u64 0, .int .u64 0]) (.agg #[.int .u64 1, .int .u64 0, .int .u64 0, .int .u64 0])).run Tryd.prog W = .ok true W := fun W => q_same 1 (by decide) W
      have hS : w11.drew.heap[t14]? = some (.cells (wcells [1, 0, 0, 0]) 26) := HMG.out.2
      have HE := hid (And.intro ((HG.out.1.mod ((Mod.refl [] w11).drew) (by simp)) : NatRow w11.drew gg gs) HMG.out.1.drew)
      refine wp_region_N (fun w' : World => w'.heap[t14]? = some (.cells (wcells [1, 0, 0, 0]) 26)) (fun i => true) (by kernel_rfl) ?_
      generalize w11.drew = wf at *
      refine regA 0 70 (v := ?_) rfl rfl (by kernel_rfl) (by kernel_rfl) (by kernel_rfl) (fun _ _ _ h => h) (by rfl) (fun w => ?_) ?_; rotate_left; (go_simp; first | done | with_reducible rfl); (try simp only [Act.put, List.setIfInBounds_toArray, List.set_cons_zero, List.set_cons_succ])
      refine regA 1 71 (v := ?_) rfl rfl (by kernel_rfl) (by kernel_rfl) (by kernel_rfl) (fun _ _ _ h => h) (by rfl) (fun w => ?_) ?_; rotate_left; (go_simp; first | done | with_reducible rfl); (try simp only [Act.put, List.setIfInBounds_toArray, List.set_cons_zero, List.set_cons_succ])
      refine regA 2 72 (v := ?_) rfl rfl (by kernel_rfl) (by kernel_rfl) (by kernel_rfl) (fun _ _ _ h => h) (by rfl) (fun w => ?_) ?_; rotate_left; (go_simp; first | done | with_reducible rfl); (try simp only [Act.put, List.setIfInBounds_toArray, List.set_cons_zero, List.set_cons_succ])
      refine regA 3 73 (v := ?_) rfl rfl (by kernel_rfl) (by kernel_rfl) (by kernel_rfl) (fun _ _ _ h => h) (by rfl) (fun w => ?_) ?_; rotate_left; (go_simp; first | done | with_reducible rfl); (try simp only [Act.put, List.setIfInBounds_toArray, List.set_cons_zero, List.set_cons_succ])
      refine regA 4 74 (v := ?_) rfl rfl (by kernel_rfl) (by kernel_rfl) (by kernel_rfl) (fun _ _ _ h => h) (by rfl) (fun w => ?_) ?_; rotate_left; (go_simp; first | done | with_reducible rfl); (try simp only [Act.put, List.setIfInBounds_toArray, List.set_cons_zero, List.set_cons_succ])
      refine regA 5 75 (v := ?_) rfl rfl (by kernel_rfl) (by kernel_rfl) (by kernel_rfl) (fun _ _ _ h => h) (by rfl) (fun w => ?_) ?_; rotate_left; (go_simp; first | done | with_reducible rfl); (try simp only [Act.put, List.setIfInBounds_toArray, List.set_cons_zero, List.set_cons_succ])
      refine regA 6 76 (v := ?_) rfl rfl (by kernel_rfl) (by kernel_rfl) (by kernel_rfl) (fun _ _ _ h => h) (by rfl) (fun w => ?_) ?_; rotate_left; (go_simp; first | done | with_reducible rfl); (try simp only [Act.put, List.setIfInBounds_toArray, List.set_cons_zero, List.set_cons_succ])
      refine regA 7 77 (v := ?_) rfl rfl (by kernel_rfl) (by kernel_rfl) (by kernel_rfl) (fun _ _ _ h => h) (by rfl) (fun w => ?_) ?_; rotate_left; (go_simp; first | done | with_reducible rfl); (try simp only [Act.put, List.setIfInBounds_toArray, List.set_cons_zero, List.set_cons_succ])
      refine regA 8 78 (v := ?_) rfl rfl (by kernel_rfl) (by kernel_rfl) (by kernel_rfl) (fun _ _ _ h => h) (by rfl) (fun w => ?_) ?_; rotate_left; (go_simp; first | done | with_reducible rfl); (try simp only [Act.put, List.setIfInBounds_toArray, List.set_cons_zero, List.set_cons_succ])
      refine regA 9 79 (v := ?_) rfl rfl (by kernel_rfl) (by kernel_rfl) (by kernel_rfl) (fun _ _ _ h => h) (by rfl) (fun w => ?_) ?_; rotate_left; (go_simp; first | done | with_reducible rfl); (try simp only [Act.put, List.setIfInBounds_toArray, List.set_cons_zero, List.set_cons_succ])
      refine regA 10 80 (v := ?_) rfl rfl (by kernel_rfl) (by kernel_rfl) (by kernel_rfl) (fun _ _ _ h => h) (by rfl) (fun w => ?_) ?_; rotate_left; (go_simp; first | done | with_reducible rfl); (try simp only [Act.put, List.setIfInBounds_toArray, List.set_cons_zero, List.set_cons_succ])
      refine regA 11 81 (v := ?_) rfl rfl (by kernel_rfl) (by kernel_rfl) (by kernel_rfl) (fun _ _ _ h => h) (by rfl) (fun w => ?_) ?_; rotate_left; (go_simp; first | done | with_reducible rfl); (try simp only [Act.put, List.setIfInBounds_toArray, List.set_cons_zero, List.set_cons_succ])
      refine regA 12 82 (v := ?_) rfl rfl (by kernel_rfl) (by kernel_rfl) (by kernel_rfl) (fun _ _ _ h => h) (by rfl) (fun w => ?_) ?_; rotate_left; (go_simp; first | done | with_reducible rfl); (try simp only [Act.put, List.setIfInBounds_toArray, List.set_cons_zero, List.set_cons_succ])
      refine regA 13 83 (v := ?_) rfl rfl (by kernel_rfl) (by kernel_rfl) (by kernel_rfl) (fun _ _ _ h => h) (by rfl) (fun w => ?_) ?_; rotate_left; (go_simp; first | done | with_reducible rfl); (try simp only [Act.put, List.setIfInBounds_toArray, List.set_cons_zero, List.set_cons_succ])
      refine regA 14 84 (v := ?_) rfl rfl (by kernel_rfl) (by kernel_rfl) (by kernel_rfl) (fun _ _ _ h => h) (by rfl) (fun w => ?_) ?_; rotate_left; (go_simp; first | done | with_reducible rfl); (try simp only [Act.put, List.setIfInBounds_toArray, List.set_cons_zero, List.set_cons_succ])
      refine regA 15 85 (v := ?_) rfl rfl (by kernel_rfl) (by kernel_rfl) (by kernel_rfl) (fun _ _ _ h => h) (by rfl) (fun w => ?_) ?_; rotate_left; (go_simp; first | done | with_reducible rfl); (try simp only [Act.put, List.setIfInBounds_toArray, List.set_cons_zero, List.set_cons_succ])
      refine regA 16 86 (v := ?_) rfl rfl (by kernel_rfl) (by kernel_rfl) (by kernel_rfl) (fun _ _ _ h => h) (by rfl) (fun w => ?_) ?_; rotate_left; (go_simp; first | done | with_reducible rfl); (try simp only [Act.put, List.setIfInBounds_toArray, List.set_cons_zero, List.set_cons_succ])
      refine regA 17 87 (v := ?_) rfl rfl (by kernel_rfl) (by kernel_rfl) (by kernel_rfl) (fun _ _ _ h => h) (by rfl) (fun w => ?_) ?_; rotate_left; (go_simp; first | done | with_reducible rfl); (try simp only [Act.put, List.setIfInBounds_toArray, List.set_cons_zero, List.set_cons_succ])
      refine regA 18 88 (v := ?_) rfl rfl (by kernel_rfl) (by kernel_rfl) (by kernel_rfl) (fun _ _ _ h => h) (by rfl) (fun w => ?_) ?_; rotate_left; (go_simp; first | done | with_reducible rfl); (try simp only [Act.put, List.setIfInBounds_toArray, List.set_cons_zero, List.set_cons_succ])
      refine regA 19 89 (v := ?_) rfl rfl (by kernel_rfl) (by kernel_rfl) (by kernel_rfl) (fun _ _ _ h => h) (by rfl) (fun w => ?_) ?_; rotate_left; (go_simp; first | done | with_reducible rfl); (try simp only [Act.put, List.setIfInBounds_toArray, List.set_cons_zero, List.set_cons_succ])
      refine regA 20 90 (v := ?_) rfl rfl (by kernel_rfl) (by kernel_rfl) (by kernel_rfl) (fun _ _ _ h => h) (by rfl) (fun w => ?_) ?_; rotate_left; (go_simp; first | done | with_reducible rfl); (try simp only [Act.put, List.setIfInBounds_toArray, List.set_cons_zero, List.set_cons_succ])
      refine regS 21 91 (v := ?_) hS rfl rfl (by kernel_rfl) (by kernel_rfl) (by kernel_rfl) (by kernel_rfl) (fun _ _ _ h => h) (by rfl) (fun w hSw => ?_) ?_; rotate_left; (have qc0 := cell_at hSw 0; have qc1 := cell_at hSw 1; have qc2 := cell_at hSw 2; have qc3 := cell_at hSw 3; simp only [wcells_get] at qc0 qc1 qc2 qc3; go_simp; first | done | with_reducible rfl); (try simp only [Act.put, List.setIfInBounds_toArray, List.set_cons_zero, List.set_cons_succ])
      clear hS
      refine regOnlyG 22 (by kernel_rfl) rfl (by rfl) (fun K hK => ?_)
      go_wp2_with (go_at_call 16; refine (CN1.out _).mono ?_; rintro e w12 ⟨rfl, hm⟩)
      refine hK.out _ _ (fun _ h => hm.get h (by simp)) ?_
      clear hK
      (try simp only [Act.put, List.setIfInBounds_toArray, List.set_cons_zero, List.set_cons_succ])
      have H12 := hid (And.intro (HE.out.1.mod hm (by simp)) (HE.out.2.trans hm))
      clear hm
      refine regA 23 93 (v := ?_) rfl rfl (by kernel_rfl) (by kernel_rfl) (by kernel_rfl) (fun _ _ _ h => h) (by rfl) (fun w => ?_) ?_; rotate_left; (go_simp; first | done | with_reducible rfl); (try simp only [Act.put, List.setIfInBounds_toArray, List.set_cons_zero, List.set_cons_succ])
      refine regA 24 94 (v := ?_) rfl rfl (by kernel_rfl) (by kernel_rfl) (by kernel_rfl) (fun _ _ _ h => h) (by rfl) (fun w => ?_) ?_; rotate_left; (go_simp; first | done | with_reducible rfl); (try simp only [Act.put, List.setIfInBounds_toArray, List.set_cons_zero, List.set_cons_succ])
      refine regDone (by kernel_rfl) ?_ _
      clear Q1
      go_wp2_with fail
      go_loopg [19] nn (fun gk i W' => ∃ j : Nat, i = .int .i64 j ∧ gk + j = nn ∧ Mod [] w12 W')
      case atStart => exact ⟨0, rfl, rfl, Mod.refl _ _⟩
      case round =>
        obtain ⟨j, rfl, hgj, hm⟩ := hrel
        by_cases hj : j < nn
        · have j1 : (j : Int) < (nn : Int) := by omega
          have j0 : (0 : Int) ≤ (j : Int) := by omega
          obtain ⟨f, hf⟩ : ∃ f, gs[j]? = some f := ⟨_, List.getElem?_eq_getElem (by have := HG.out.2.1; omega)⟩
          have hfe := factors_at order_2 HK2.out (HG.out.2.2 j f hf)
          have hrow := H12.out.1.mod hm (by simp)
          have HN := hid (And.intro hm hgj)
          by_cases hjk : j = kn
          · rw [if_pos hjk] at hfe
            subst hfe
            subst hjk
            have hr1 : Row1 gg j 1 wr := natRow_small hrow hf (by unfold BB; decide)
            have HR1 := hid hr1
            clear hm hgj hrow hf hr1
            go_upto_region 19 with fail
            refine wp_abs (fun W => W.heap[wr.heap.size]? = some (.cells (wcells [0, 0, 0, 0]) 26) ∧ Mod [] wr W) ⟨get_new _ _, (Mod.refl _ _).alloc _⟩ ?_
            generalize hb : wr.heap.size = b at *
            rintro Wa ⟨ga, hma⟩
            have HA := hid (And.intro ga (And.intro hma (Nat.le_of_eq hb)))
            clear ga hma hb
            go_upto_region 21 with (go_at_call 16; refine (CN1.out _).mono ?_; rintro e wb ⟨rfl, hm⟩; have g20 := hm.get HA.out.1 (by simp); have bc0 := cell_at g20 0; have bc1 := cell_at g20 1; have bc2 := cell_at g20 2; have bc3 := cell_at g20 3; simp only [wcells_get] at bc0 bc1 bc2 bc3; have bf0 := free_at g20 0; have bf1 := free_at g20 1; have bf2 := free_at g20 2; have bf3 := free_at g20 3; have HB2 := hid (And.intro g20 (HA.out.2.1.trans hm)); clear hm g20)
            clear bc0 bc1 bc2 bc3
            clear bf0 bf1 bf2 bf3
            refine wp_abs (fun W => W.heap[b]? = some (.cells (wcells [1, 0, 0, 0]) 26) ∧ Mod [] wr W) ⟨set4_at HB2.out.1 1 0 0 0, set4_mod HA.out.2.2 HB2.out.2 1 0 0 0⟩ ?_
            rintro Wc ⟨gc, hmc⟩
            obtain ⟨x0, x1, x2, x3⟩ := HR1.out.mod hmc (by simp)
            have cc0 := cell_at gc 0; have cc1 := cell_at gc 1; have cc2 := cell_at gc 2; have cc3 := cell_at gc 3; simp only [wcells_get] at cc0 cc1 cc2 cc3
            have Q1 : ∀ W : World, (Op.equalIn 10000 26 (.agg #[.int .u64 1, .int .u64 0, .int .u64 0, .int .u64 0]) (.agg #[.int .u64 1, .int .u64 0, .int .u64 0, .int .u64 0])).run Tryd.prog W = .ok true W := fun W => q_same 1 (by decide) W
            have HC := hid hmc
            clear gc hmc HB2
            go_wp2_with fail
            go_quiet (fail)
            go_wp2_with fail
            go_roundg (gk - 1)
            case measure => have := HN.out.2; omega
            case rel => exact ⟨j + 1, rfl, by have := HN.out.2; omega, (HN.out.1.trans HC.out).drewN _⟩
          · rw [if_neg hjk] at hfe
            subst hfe
            have hr1 : Row1 gg j 0 wr := natRow_small hrow hf BB_pos
            have b1 : ¬ (j : Int) = (kn : Int) := by omega
            have HR1 := hid hr1
            clear hm hgj hrow hf hr1
            go_upto_region 21 with fail
            refine wp_abs (fun W => W.heap[wr.heap.size]? = some (.cells (wcells [0, 0, 0, 0]) 26) ∧ Mod [] wr W) ⟨get_new _ _, (Mod.refl _ _).alloc _⟩ ?_
            generalize wr.heap.size = b at *
            rintro Wc ⟨gc, hmc⟩
            obtain ⟨x0, x1, x2, x3⟩ := HR1.out.mod hmc (by simp)
            have cc0 := cell_at gc 0; have cc1 := cell_at gc 1; have cc2 := cell_at gc 2; have cc3 := cell_at gc 3; simp only [wcells_get] at cc0 cc1 cc2 cc3
            have Q1 : ∀ W : World, (Op.equalIn 10000 26 (.agg #[.int .u64 0, .int .u64 0, .int .u64 0, .int .u64 0]) (.agg #[.int .u64 0, .int .u64 0, .int .u64 0, .int .u64 0])).run Tryd.prog W = .ok true W := fun W => q_same 0 (by decide) W
            have HC := hid hmc
            clear gc hmc
            go_wp2_with fail
            go_quiet (fail)
            go_wp2_with fail
            go_roundg (gk - 1)
            case measure => have := HN.out.2; omega
            case rel => exact ⟨j + 1, rfl, by have := HN.out.2; omega, (HN.out.1.trans HC.out).drewN _⟩
        · have j1 : ¬ (j : Int) < (nn : Int) := by omega
          have HF := hid (H12.out.2.trans hm)
          clear hm hgj
          go_wp2_with fail
          exact bodyPost_ret (v := .bool true) (by simp [results, Tryd.results4, go_sem]) rfl ⟨rfl, HF.out⟩
end Go.Proofs.YtdgmnhiffoemmaaDoor
