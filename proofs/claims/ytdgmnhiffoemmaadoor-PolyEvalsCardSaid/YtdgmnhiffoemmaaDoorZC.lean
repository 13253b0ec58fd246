/-
  poly.Line, where all is right. No statement of a claim stands here; each contract names what it asks.
-/
import Derived.Test.YtdgmnhiffoemmaaDoorZC0
set_option linter.unusedSimpArgs false
namespace Go.Proofs.YtdgmnhiffoemmaaDoor
open Go Go.RowKit Go.ChangeMaps

/-- What a round's loads read. -/
def SatL (t13 t3 : Nat) (P Q : List Nat) (w : World) : Prop := w.heap[t13]? = some (.cells (wcells P) 51) ∧ w.heap[t3]? = some (.cells (wcells Q) 26)

/-- What Line answers. -/
def LineSays (ps : List (Nat × Nat)) (n : Nat) (e : Ending) : Prop :=
  ∃ b : Bool, e = .returned (.tuple #[.bool b, .int .i64 0]) ∧ (b = true → ∀ p ∈ ps.drop n, Comes p.1 (ps.take n) p.2) ∧ (b = false → ∃ p ∈ ps.drop n, ∃ y, Comes p.1 (ps.take n) y ∧ y ≠ p.2)

set_option maxRecDepth 100000 in
set_option maxHeartbeats 8000000 in
theorem pline (d : Nat) (hd : d < 256) (ps : List (Nat × Nat)) (hp : ∀ p ∈ ps, p.1 < 1000000 ∧ p.2 < order) (hap : AllApart order (ps.map Prod.fst)) (hl1 : 1 ≤ ps.length) (hl2 : ps.length ≤ 256) (n : Nat) (hn : n = min (d + 1) ps.length) (g c : Nat) (hc : ps.length ≤ c) (w : World) (hg : PtRow w g ps) :
    Calls Tryd.prog 25 #[one4 581039633, .int .i64 d, .slice (some ⟨g, 0, none⟩) ps.length c] w fun e w' => LineSays ps n e ∧ Mod [] w w' := by
  have cr := fun (b : Nat) (W : World) (hb : W.heap[b]? = some (.cells #[.int .i64 (ps.length : Int)] 3)) => pright order_NN' order_2 [ps.length] (by simp) b (by simp; omega) W hb
  rw [nv_order] at cr
  have hfl : ∀ x ∈ ps.map Prod.fst, x < 1000000 := fun x hx => by obtain ⟨p, hh, rfl⟩ := List.mem_map.1 hx; exact (hp p hh).1
  have cf : ∀ (gx cx : Nat) (W : World) (hW : NatRow W gx (ps.map Prod.fst)), Calls Tryd.prog 17 #[one4 581039633, one4 0, .slice (some ⟨gx, 0, none⟩) ps.length cx] W fun e w' => (∃ v : Value, e = .returned (.tuple #[v, .int .i64 0])) ∧ Mod [] W w' :=
    fun gx cx W hW => by have := c_facs0 (ps.map Prod.fst) hfl hap (by simp; omega) (by simp; omega) gx cx W hW; rwa [List.length_map] at this
  have cp := fun (W : World) (hW : PtRow W g ps) => pplaces ps hl2 g c W hW
  have hnl : n ≤ ps.length := by omega
  have htl : (ps.take n).length = n := by rw [List.length_take]; omega
  have cc : ∀ (x : Nat) (hx : x < 1000000) (W : World) (hW : PtRow W g ps), Calls Tryd.prog 13 #[one4 581039633, one4 (x : Int), .slice (some ⟨g, 0, none⟩) n c] W fun e w' => (e = .returned (.tuple #[one4 (cv x (ps.take n) : Int), .int .i64 0]) ∧ Comes x (ps.take n) (cv x (ps.take n))) ∧ Mod [] W w' :=
    fun x hx W hW => by
      have := c_comb hx (ps.take n) (fun p hh => hp p (List.mem_of_mem_take hh)) (by rw [List.map_take]; exact hap.take n) (by omega) (by omega) g c W (hW.take n)
      rwa [htl] at this
  obtain ⟨ip, hip⟩ := Option.isSome_iff_exists.1 (show (Tryd.prog.info? 51).isSome = true by kernel_rfl)
  have hips : ip.size = 8 := by
    obtain ⟨i, z, h1, h2, h3, h4, h5⟩ := elemP.info
    rw [hip] at h1
    cases h1
    exact h3
  obtain ⟨ad, c2, hsl, had⟩ := slice_fromA (P := Tryd.prog) Tryd.underlying29 hip g ps.length c n hnl hc
  rw [hips] at had
  have hst := fun W => slice_to (P := Tryd.prog) Tryd.underlying29 hip g ps.length c n (by omega) W
  have CR := hid cr
  have CF := hid cf
  have CP := hid cp
  have CC0 := hid cc
  have HSL := hid hsl
  have HST := hid hst
  have HG0 := hid hg
  have HP := hid (And.intro hp (And.intro hnl (And.intro hc had)))
  have kmin : min ((d : Int) + 1) (ps.length : Int) = (n : Int) := by omega
  have hw1 : IntKind.i64.wrap ((d : Int) + 1) = (d : Int) + 1 := IntWalk.i64_in _ (by omega)
  have d1 : ¬ (d : Int) < 0 := by omega
  have d2 : ¬ (256 : Int) ≤ (d : Int) := by omega
  have d3 : ¬ 256 ≤ d := by omega
  have n3 : (ps.length : Int) ≤ 256 := by omega
  have HN := hid (And.intro hn (And.intro hl1 (And.intro hl2 htl)))
  clear cr cf cp cc hsl hst hg hp hap hl1 hl2 hn hc hfl hnl htl had hd hip hips
  unfold one4 at *
  go_enter Tryd.func25, Tryd.ntmps25
  go_upto_region 1 with fail
  refine wp_abs (fun W => W.heap[w.heap.size]? = some (.cells (wcells [581039633, 0, 0, 0]) 26) ∧ Mod [] w W) ⟨get_new _ _, (Mod.refl _ _).alloc _⟩ ?_
  rintro W ⟨g3, hm⟩
  generalize w.heap.size = t3 at *
  have HM := hid (And.intro g3 hm)
  have qc0 := cell_at g3 0; have qc1 := cell_at g3 1; have qc2 := cell_at g3 2; have qc3 := cell_at g3 3; simp only [wcells_get] at qc0 qc1 qc2 qc3
  clear g3 hm
  go_upto_region 2 with (go_at_call 29; refine (CR.out _ _ (get_new _ _)).mono ?_; rintro e w1 ⟨rfl, hm⟩; have H1 := hid (((Mod.refl [] W).alloc _).trans hm); clear hm)
  clear qc0 qc1 qc2 qc3
  go_upto_region 4 with fail
  have hS : w1.drew.heap[t3]? = some (.cells (wcells [581039633, 0, 0, 0]) 26) := H1.out.drew.get HM.out.1 (by simp)
  have hM : Mod [] W w1.drew := H1.out.drew
  clear H1
  refine wp_region_N (fun w' : World => w'.heap[t3]? = some (.cells (wcells [581039633, 0, 0, 0]) 26)) (fun i => true) (by kernel_rfl) ?_
  generalize w1.drew = wq at *
  refine regS 0 34 (v := ?_) hS rfl rfl (by kernel_rfl) (by kernel_rfl) (by kernel_rfl) (by kernel_rfl) (fun _ _ _ h => h) (by rfl) (fun w hSw => ?_) ?_; rotate_left; (have qc0 := cell_at hSw 0; have qc1 := cell_at hSw 1; have qc2 := cell_at hSw 2; have qc3 := cell_at hSw 3; simp only [wcells_get] at qc0 qc1 qc2 qc3; go_simp; first | done | with_reducible rfl); (try simp only [Act.put, List.setIfInBounds_toArray, List.set_cons_zero, List.set_cons_succ])
  refine regA 1 35 (v := ?_) rfl rfl (by kernel_rfl) (by kernel_rfl) (by kernel_rfl) (fun _ _ _ h => h) (by rfl) (fun w => ?_) ?_; rotate_left; (go_simp; first | done | with_reducible rfl); (try simp only [Act.put, List.setIfInBounds_toArray, List.set_cons_zero, List.set_cons_succ])
  refine regA 2 36 (v := ?_) rfl rfl (by kernel_rfl) (by kernel_rfl) (by kernel_rfl) (fun _ _ _ h => h) (by rfl) (fun w => ?_) ?_; rotate_left; (go_simp; first | done | with_reducible rfl); (try simp only [Act.put, List.setIfInBounds_toArray, List.set_cons_zero, List.set_cons_succ])
  clear hS
  have CPW := hid (CP.out wq (HG0.out.mod (HM.out.2.trans hM) (by simp)))
  refine regOnly 3 (by kernel_rfl) rfl (by rfl) (fun K hK => ?_)
  go_wp2_with (go_at_call 32; refine CPW.out.mono ?_; rintro e w2 ⟨⟨v, hv, rfl⟩, hm⟩)
  refine hK.out _ _ (fun _ h => hm.get h (by simp)) ?_
  clear hK
  (try simp only [Act.put, List.setIfInBounds_toArray, List.set_cons_zero, List.set_cons_succ])
  have hM := hM.trans hm
  obtain ⟨gx, cx, rfl, -, -, hrx⟩ := Nats.natRow hv (by intro h; have := congrArg List.length h; rw [List.length_map] at this; have h2 : ps.length = 0 := this; have := HN.out.2.1; omega)
  have CFW := hid (CF.out gx cx w2 hrx)
  rw [List.length_map]
  clear hm hrx hv CPW
  refine regOnly 4 (by kernel_rfl) rfl (by rfl) (fun K hK => ?_)
  go_wp2_with (go_at_call 17; refine CFW.out.mono ?_; rintro e w3 ⟨⟨vf, rfl⟩, hm⟩)
  refine hK.out _ _ (fun _ h => hm.get h (by simp)) ?_
  clear hK
  (try simp only [Act.put, List.setIfInBounds_toArray, List.set_cons_zero, List.set_cons_succ])
  have H3 := hid (hM.trans hm)
  clear hm hM CFW
  refine regA 5 33 (v := ?_) rfl rfl (by kernel_rfl) (by kernel_rfl) (by kernel_rfl) (fun _ _ _ h => h) (by rfl) (fun w => ?_) ?_; rotate_left; (go_simp; first | done | with_reducible rfl); (try simp only [Act.put, List.setIfInBounds_toArray, List.set_cons_zero, List.set_cons_succ])
  refine regA 6 39 (v := ?_) rfl rfl (by kernel_rfl) (by kernel_rfl) (by kernel_rfl) (fun _ _ _ h => h) (by rfl) (fun w => ?_) ?_; rotate_left; (go_simp; first | done | with_reducible rfl); (try simp only [Act.put, List.setIfInBounds_toArray, List.set_cons_zero, List.set_cons_succ])
  refine regA 7 40 (v := ?_) rfl rfl (by kernel_rfl) (by kernel_rfl) (by kernel_rfl) (fun _ _ _ h => h) (by rfl) (fun w => ?_) ?_; rotate_left; (go_simp; first | done | with_reducible rfl); (try simp only [Act.put, List.setIfInBounds_toArray, List.set_cons_zero, List.set_cons_succ])
  refine regA 8 9 (v := ?_) rfl rfl (by kernel_rfl) (by kernel_rfl) (by kernel_rfl) (fun _ _ _ h => h) (by rfl) (fun w => ?_) ?_; rotate_left; (go_simp; first | done | with_reducible rfl); (try simp only [Act.put, List.setIfInBounds_toArray, List.set_cons_zero, List.set_cons_succ])
  refine regA 9 10 (v := ?_) rfl rfl (by kernel_rfl) (by kernel_rfl) (by kernel_rfl) (fun _ _ _ h => h) (by rfl) (fun w => ?_) ?_; rotate_left; (go_simp; first | done | with_reducible rfl); (try simp only [Act.put, List.setIfInBounds_toArray, List.set_cons_zero, List.set_cons_succ])
  refine regDone (by kernel_rfl) ?_ _
  have hsl := HSL.out
  go_wp2_with (first | simp only [kmin] | simp only [hsl])
  clear hsl
  obtain ⟨m, hm⟩ : ∃ m, ps.length - n = m := ⟨_, rfl⟩
  rw [hm]
  have m3 : (m : Int) ≤ 256 := by omega
  have HMM := hid hm
  clear hm kmin hw1 d1 d2 d3
  go_loopg [53] m (fun gk v W' => ∃ j : Nat, v = .int .i64 j ∧ gk + j = m ∧ (∀ i p, i < j → ps[n + i]? = some p → Comes p.1 (ps.take n) p.2) ∧ Mod [] w3 W')
  case atStart => exact ⟨0, rfl, rfl, fun i p h => absurd h (by omega), Mod.refl _ _⟩
  case round =>
    obtain ⟨j, rfl, hgj, hall, hm4⟩ := hrel
    by_cases hj : j < m
    · have j0 : (0 : Int) ≤ (j : Int) := by omega
      have j1 : (j : Int) < (m : Int) := by omega
      have hadr := HP.out.2.2.2 (by have := HMM.out; omega)
      subst hadr
      obtain ⟨⟨x, y⟩, hxy⟩ : ∃ p, ps[n + j]? = some p := ⟨_, List.getElem?_eq_getElem (by have := HMM.out; omega)⟩
      obtain ⟨hx, hy⟩ := HP.out.1 _ (List.mem_of_getElem? hxy)
      have hmW : Mod [] w wr := (HM.out.2.trans H3.out).trans hm4
      have hrow := HG0.out.mod hmW (by simp)
      obtain ⟨c0, c1, c2', c3, c4, c5, c6, c7⟩ := hrow.cells hxy (parts_one (BB_big hx)) (parts_one (order_BB hy))
      rw [Nat.add_mul] at c0 c1 c2' c3 c4 c5 c6 c7
      have CCX := hid (CC0.out x hx)
      obtain ⟨z, hz⟩ : ∃ z, cv x (ps.take n) = z := ⟨_, rfl⟩
      rw [hz] at CCX
      have CC : Hid (∀ (W : World) (hW : PtRow W g ps), _) := fun W hW => CCX.out W hW
      have cwi := fun W => c_widen1 (order_BB hy) W
      have cre := fun W => c_reduce1 hy W
      unfold one4 one8 at cwi cre
      have CWI := hid cwi
      have CRE := hid cre
      have HX := hid (And.intro hx (And.intro hy (And.intro hxy (And.intro hgj (And.intro hall hm4)))))
      have HR := hid (And.intro hrow hmW)
      clear hx hy hxy hgj hall hm4 hrow hmW hz cwi cre CCX HP
      go_upto_region 11 with fail
      refine wp_abs (fun W3 => W3.heap[wr.heap.size]? = some (.cells (wcells [x, 0, 0, 0, y, 0, 0, 0]) 51) ∧ Mod [] wr W3) ⟨get_new _ _, (Mod.refl _ _).alloc _⟩ ?_
      generalize wr.heap.size = t13 at *
      rintro W3 ⟨g13, hm3⟩
      clear c0 c1 c2' c3 c4 c5 c6 c7
      have g3 := (H3.out.trans (HX.out.2.2.2.2.2.trans hm3.drew)).get HM.out.1 (by simp)
      have hbx : SatL t13 t3 [x, 0, 0, 0, y, 0, 0, 0] [581039633, 0, 0, 0] W3.drew := ⟨g13, g3⟩
      have hrow := HR.out.1.mod hm3.drew (by simp)
      have hmw : Mod [] wr W3.drew := hm3.drew
      clear g13 hm3 g3
      refine wp_region_N (SatL t13 t3 [x, 0, 0, 0, y, 0, 0, 0] [581039633, 0, 0, 0]) (fun i => !(i == 11 || i == 12)) (by kernel_rfl) ?_
      generalize W3.drew = wq at *
      have HBX := hid hbx
      have HMW := hid hmw
      have HROW := hid hrow
      clear hbx hmw hrow
      apply merge1 (R := fun b14 W9 => Comes x (ps.take n) z ∧ W9.heap[b14]? = some (.cells (wcells [z, 0, 0, 0]) 26) ∧ Mod [] wq W9)
      · intro key
        have KEY := hid key
        clear key
        have hS := HBX.out
        have hst := HST.out
        refine regS 0 58 (v := ?_) hS rfl rfl (by kernel_rfl) (by kernel_rfl) (by kernel_rfl) (by kernel_rfl) (fun _ _ _ h => h) (by rfl) (fun w hSw => ?_) ?_; rotate_left; (have qc0 := cell_at hSw.2 0; have qc1 := cell_at hSw.2 1; have qc2 := cell_at hSw.2 2; have qc3 := cell_at hSw.2 3; simp only [wcells_get] at qc0 qc1 qc2 qc3; go_simp; first | done | with_reducible rfl); (try simp only [Act.put, List.setIfInBounds_toArray, List.set_cons_zero, List.set_cons_succ])
        refine regA 1 59 (v := .pointer (some ⟨t13, 0, none⟩)) rfl rfl (by kernel_rfl) (by kernel_rfl) (by kernel_rfl) (fun _ _ _ h => h) (by rfl) (fun w => ?_) ?_
        · go_simp
        (try simp only [Act.put, List.setIfInBounds_toArray, List.set_cons_zero, List.set_cons_succ])
        refine regS 2 60 (v := ?_) hS rfl rfl (by kernel_rfl) (by kernel_rfl) (by kernel_rfl) (by kernel_rfl) (fun _ _ _ h => h) (by rfl) (fun w hSw => ?_) ?_; rotate_left; (have qc0 := cell_at hSw.1 0; have qc1 := cell_at hSw.1 1; have qc2 := cell_at hSw.1 2; have qc3 := cell_at hSw.1 3; simp only [wcells_get] at qc0 qc1 qc2 qc3; go_simp; first | done | with_reducible rfl); (try simp only [Act.put, List.setIfInBounds_toArray, List.set_cons_zero, List.set_cons_succ])
        refine regA 3 61 (v := ?_) rfl rfl (by kernel_rfl) (by kernel_rfl) (by kernel_rfl) (fun _ _ _ h => h) (by rfl) (fun w => ?_) ?_; rotate_left; (go_simp; first | done | with_reducible rfl); (try simp only [Act.put, List.setIfInBounds_toArray, List.set_cons_zero, List.set_cons_succ])
        refine regA 4 62 (v := ?_) rfl rfl (by kernel_rfl) (by kernel_rfl) (by kernel_rfl) (fun _ _ _ h => h) (by rfl) (fun w => ?_) ?_; rotate_left; (go_simp; first | done | with_reducible rfl); (try simp only [Act.put, List.setIfInBounds_toArray, List.set_cons_zero, List.set_cons_succ])
        refine regA 5 63 (v := .slice (some ⟨g, 0, none⟩) n c) rfl rfl (by kernel_rfl) (by kernel_rfl) (by kernel_rfl) (fun _ _ _ h => h) (by rfl) (fun w => ?_) ?_
        · go_simp
        (try simp only [Act.put, List.setIfInBounds_toArray, List.set_cons_zero, List.set_cons_succ])
        clear hS hst
        have hM := Mod.refl [] wq
        refine regTwo 6 10 (by kernel_rfl) rfl (by rfl) rfl (by rfl) (fun K hK => ?_) (fun K hK => ?_)
        · go_wp2_with (go_at_call 13; refine (CC.out _ (HROW.out.mod hM (by simp))).mono ?_; rintro e wq1 ⟨⟨rfl, hcm⟩, hm⟩; have HCM := hid hcm; clear hcm)
          refine hK.out _ _ (fun _ h => ⟨hm.get h.1 (by simp), hm.get h.2 (by simp)⟩) ?_
          clear hK
          (try simp only [Act.put, List.setIfInBounds_toArray, List.set_cons_zero, List.set_cons_succ])
          have hM := hM.trans hm
          clear hm
          refine regA 7 57 (v := ?_) rfl rfl (by kernel_rfl) (by kernel_rfl) (by kernel_rfl) (fun _ _ _ h => h) (by rfl) (fun w => ?_) ?_; rotate_left; (go_simp; first | done | with_reducible rfl); (try simp only [Act.put, List.setIfInBounds_toArray, List.set_cons_zero, List.set_cons_succ])
          refine regA 8 65 (v := ?_) rfl rfl (by kernel_rfl) (by kernel_rfl) (by kernel_rfl) (fun _ _ _ h => h) (by rfl) (fun w => ?_) ?_; rotate_left; (go_simp; first | done | with_reducible rfl); (try simp only [Act.put, List.setIfInBounds_toArray, List.set_cons_zero, List.set_cons_succ])
          refine regA 9 66 (v := ?_) rfl rfl (by kernel_rfl) (by kernel_rfl) (by kernel_rfl) (fun _ _ _ h => h) (by rfl) (fun w => ?_) ?_; rotate_left; (go_simp; first | done | with_reducible rfl); (try simp only [Act.put, List.setIfInBounds_toArray, List.set_cons_zero, List.set_cons_succ])
          refine regOnly 10 (by kernel_rfl) rfl (by rfl) (fun K hK => ?_)
          go_wp2_with fail
          refine hK.out _ _ (fun _ h => ⟨get_alloc h.1 _, get_alloc h.2 _⟩) ?_
          clear hK
          (try simp only [Act.put, List.setIfInBounds_toArray, List.set_cons_zero, List.set_cons_succ])
          have gb14 : (wq1.alloc (.cells #[.int .u64 0, .int .u64 0, .int .u64 0, .int .u64 0] 26 (0, 0))).heap[wq1.heap.size]? = some (.cells (wcells [0, 0, 0, 0]) 26) := get_new wq1 _
          obtain ⟨b14, hb14⟩ : ∃ b, wq1.heap.size = b := ⟨_, rfl⟩
          have lb14 : wq.heap.size ≤ b14 := by rw [← hb14]; exact hM.size
          rw [hb14] at gb14 ⊢
          have hM : Mod [] wq (wq1.alloc (.cells #[.int .u64 0, .int .u64 0, .int .u64 0, .int .u64 0] 26 (0, 0))) := hM.alloc _
          generalize wq1.alloc (.cells #[.int .u64 0, .int .u64 0, .int .u64 0, .int .u64 0] 26 (0, 0)) = wq2 at *
          have nc0 := cell_at gb14 0; have nc1 := cell_at gb14 1; have nc2 := cell_at gb14 2; have nc3 := cell_at gb14 3; simp only [wcells_get] at nc0 nc1 nc2 nc3
          have nf0 := free_at gb14 0; have nf1 := free_at gb14 1; have nf2 := free_at gb14 2; have nf3 := free_at gb14 3
          have k3 := hid (set4_at gb14 z 0 0 0)
          have hM9 := hid (set4_mod lb14 hM z 0 0 0)
          clear gb14 hM
          refine regOnly 11 (by kernel_rfl) rfl (by rfl) (fun K hK => ?_)
          go_wp2_with fail
          refine hK.out _ _ (fun h _ => absurd h (by decide)) ?_
          clear hK
          (try simp only [Act.put, List.setIfInBounds_toArray, List.set_cons_zero, List.set_cons_succ])
          clear nc0 nc1 nc2 nc3
          clear nf0 nf1 nf2 nf3
          refine regA 12 15 (v := ?_) rfl rfl (by kernel_rfl) (by kernel_rfl) (by kernel_rfl) (fun _ _ _ h => h) (by rfl) (fun w => ?_) ?_; rotate_left; (go_simp; first | done | with_reducible rfl); (try simp only [Act.put, List.setIfInBounds_toArray, List.set_cons_zero, List.set_cons_succ])
          refine regAbs (fun W9 => Comes x (ps.take n) z ∧ W9.heap[b14]? = some (.cells (wcells [z, 0, 0, 0]) 26) ∧ Mod [] wq W9) ⟨HCM.out, k3.out, hM9.out⟩ ?_
          rintro W10 hR
          refine regDone (by kernel_rfl) ?_ _
          exact KEY.out b14 W10 hR
        · go_wp2_with fail
          refine hK.out _ _ (fun _ h => ⟨get_alloc h.1 _, get_alloc h.2 _⟩) ?_
          clear hK
          (try simp only [Act.put, List.setIfInBounds_toArray, List.set_cons_zero, List.set_cons_succ])
          have gb14 : (wq.alloc (.cells #[.int .u64 0, .int .u64 0, .int .u64 0, .int .u64 0] 26 (0, 0))).heap[wq.heap.size]? = some (.cells (wcells [0, 0, 0, 0]) 26) := get_new wq _
          obtain ⟨b14, hb14⟩ : ∃ b, wq.heap.size = b := ⟨_, rfl⟩
          have lb14 : wq.heap.size ≤ b14 := by rw [← hb14]; exact hM.size
          rw [hb14] at gb14 ⊢
          have hM : Mod [] wq (wq.alloc (.cells #[.int .u64 0, .int .u64 0, .int .u64 0, .int .u64 0] 26 (0, 0))) := hM.alloc _
          generalize wq.alloc (.cells #[.int .u64 0, .int .u64 0, .int .u64 0, .int .u64 0] 26 (0, 0)) = wq1 at *
          refine regOnly 6 (by kernel_rfl) rfl (by rfl) (fun K hK => ?_)
          go_wp2_with (go_at_call 13; refine (CC.out _ (HROW.out.mod hM (by simp))).mono ?_; rintro e wq2 ⟨⟨rfl, hcm⟩, hm⟩; have HCM := hid hcm; clear hcm)
          refine hK.out _ _ (fun _ h => ⟨hm.get h.1 (by simp), hm.get h.2 (by simp)⟩) ?_
          clear hK
          (try simp only [Act.put, List.setIfInBounds_toArray, List.set_cons_zero, List.set_cons_succ])
          have gb14 := hm.get gb14 (by simp)
          have hM := hM.trans hm
          clear hm
          refine regA 7 57 (v := ?_) rfl rfl (by kernel_rfl) (by kernel_rfl) (by kernel_rfl) (fun _ _ _ h => h) (by rfl) (fun w => ?_) ?_; rotate_left; (go_simp; first | done | with_reducible rfl); (try simp only [Act.put, List.setIfInBounds_toArray, List.set_cons_zero, List.set_cons_succ])
          refine regA 8 65 (v := ?_) rfl rfl (by kernel_rfl) (by kernel_rfl) (by kernel_rfl) (fun _ _ _ h => h) (by rfl) (fun w => ?_) ?_; rotate_left; (go_simp; first | done | with_reducible rfl); (try simp only [Act.put, List.setIfInBounds_toArray, List.set_cons_zero, List.set_cons_succ])
          refine regA 9 66 (v := ?_) rfl rfl (by kernel_rfl) (by kernel_rfl) (by kernel_rfl) (fun _ _ _ h => h) (by rfl) (fun w => ?_) ?_; rotate_left; (go_simp; first | done | with_reducible rfl); (try simp only [Act.put, List.setIfInBounds_toArray, List.set_cons_zero, List.set_cons_succ])
          have nc0 := cell_at gb14 0; have nc1 := cell_at gb14 1; have nc2 := cell_at gb14 2; have nc3 := cell_at gb14 3; simp only [wcells_get] at nc0 nc1 nc2 nc3
          have nf0 := free_at gb14 0; have nf1 := free_at gb14 1; have nf2 := free_at gb14 2; have nf3 := free_at gb14 3
          have k3 := hid (set4_at gb14 z 0 0 0)
          have hM9 := hid (set4_mod lb14 hM z 0 0 0)
          clear gb14 hM
          refine regOnly 11 (by kernel_rfl) rfl (by rfl) (fun K hK => ?_)
          go_wp2_with fail
          refine hK.out _ _ (fun h _ => absurd h (by decide)) ?_
          clear hK
          (try simp only [Act.put, List.setIfInBounds_toArray, List.set_cons_zero, List.set_cons_succ])
          clear nc0 nc1 nc2 nc3
          clear nf0 nf1 nf2 nf3
          refine regA 12 15 (v := ?_) rfl rfl (by kernel_rfl) (by kernel_rfl) (by kernel_rfl) (fun _ _ _ h => h) (by rfl) (fun w => ?_) ?_; rotate_left; (go_simp; first | done | with_reducible rfl); (try simp only [Act.put, List.setIfInBounds_toArray, List.set_cons_zero, List.set_cons_succ])
          refine regAbs (fun W9 => Comes x (ps.take n) z ∧ W9.heap[b14]? = some (.cells (wcells [z, 0, 0, 0]) 26) ∧ Mod [] wq W9) ⟨HCM.out, k3.out, hM9.out⟩ ?_
          rintro W10 hR
          refine regDone (by kernel_rfl) ?_ _
          exact KEY.out b14 W10 hR
      · rintro b14 W4 ⟨hcm, g14, hm5⟩
        have HC := hid (And.intro hcm (And.intro g14 (HMW.out.trans hm5)))
        have hbx : SatL t13 t3 [x, 0, 0, 0, y, 0, 0, 0] [581039633, 0, 0, 0] W4.drew := ⟨hm5.drew.get HBX.out.1 (by simp), hm5.drew.get HBX.out.2 (by simp)⟩
        clear hcm g14 hm5
        go_upto_region 12 with fail
        refine wp_region_N (SatL t13 t3 [x, 0, 0, 0, y, 0, 0, 0] [581039633, 0, 0, 0]) (fun i => !(i == 9 || i == 10)) (by kernel_rfl) ?_
        have g14 : W4.drew.heap[b14]? = some (.cells (wcells [z, 0, 0, 0]) 26) := HC.out.2.1
        have hmc := HC.out.2.2.drew
        generalize W4.drew = wr2 at *
        have HBX := hid hbx
        have HC2 := hid (And.intro g14 hmc)
        clear hbx g14 hmc
        apply merge1 (R := fun b16 W9 => W9.heap[b16]? = some (.cells (wcells [y, 0, 0, 0]) 26) ∧ Mod [] wr2 W9)
        · intro key
          have KEY := hid key
          clear key
          have hS := HBX.out
          refine regA 0 68 (v := .pointer (some ⟨t13, 4, none⟩)) rfl rfl (by kernel_rfl) (by kernel_rfl) (by kernel_rfl) (fun _ _ _ h => h) (by rfl) (fun w => ?_) ?_
          · go_simp
          (try simp only [Act.put, List.setIfInBounds_toArray, List.set_cons_zero, List.set_cons_succ])
          refine regS 1 69 (v := ?_) hS rfl rfl (by kernel_rfl) (by kernel_rfl) (by kernel_rfl) (by kernel_rfl) (fun _ _ _ h => h) (by rfl) (fun w hSw => ?_) ?_; rotate_left; (have qc0 := cell_at hSw.1 4; have qc1 := cell_at hSw.1 5; have qc2 := cell_at hSw.1 6; have qc3 := cell_at hSw.1 7; simp only [wcells_get] at qc0 qc1 qc2 qc3; go_simp; first | done | with_reducible rfl); (try simp only [Act.put, List.setIfInBounds_toArray, List.set_cons_zero, List.set_cons_succ])
          refine regS 3 71 (v := ?_) hS rfl rfl (by kernel_rfl) (by kernel_rfl) (by kernel_rfl) (by kernel_rfl) (fun _ _ _ h => h) (by rfl) (fun w hSw => ?_) ?_; rotate_left; (have qc0 := cell_at hSw.2 0; have qc1 := cell_at hSw.2 1; have qc2 := cell_at hSw.2 2; have qc3 := cell_at hSw.2 3; simp only [wcells_get] at qc0 qc1 qc2 qc3; go_simp; first | done | with_reducible rfl); (try simp only [Act.put, List.setIfInBounds_toArray, List.set_cons_zero, List.set_cons_succ])
          clear hS
          have hM := Mod.refl [] wr2
          refine regTwo 2 8 (by kernel_rfl) rfl (by rfl) rfl (by rfl) (fun K hK => ?_) (fun K hK => ?_)
          · go_wp2_with (go_at_call 41; refine (CWI.out _).mono ?_; rintro e wr21 ⟨rfl, hm⟩)
            refine hK.out _ _ (fun _ h => ⟨hm.get h.1 (by simp), hm.get h.2 (by simp)⟩) ?_
            clear hK
            (try simp only [Act.put, List.setIfInBounds_toArray, List.set_cons_zero, List.set_cons_succ])
            have hM := hM.trans hm
            clear hm
            refine regTwo 4 8 (by kernel_rfl) rfl (by rfl) rfl (by rfl) (fun K hK => ?_) (fun K hK => ?_)
            · go_wp2_with (go_at_call 40; refine (CRE.out _).mono ?_; rintro e wr22 ⟨rfl, hm⟩)
              refine hK.out _ _ (fun _ h => ⟨hm.get h.1 (by simp), hm.get h.2 (by simp)⟩) ?_
              clear hK
              (try simp only [Act.put, List.setIfInBounds_toArray, List.set_cons_zero, List.set_cons_succ])
              have hM := hM.trans hm
              clear hm
              refine regA 5 67 (v := ?_) rfl rfl (by kernel_rfl) (by kernel_rfl) (by kernel_rfl) (fun _ _ _ h => h) (by rfl) (fun w => ?_) ?_; rotate_left; (go_simp; first | done | with_reducible rfl); (try simp only [Act.put, List.setIfInBounds_toArray, List.set_cons_zero, List.set_cons_succ])
              refine regA 6 73 (v := ?_) rfl rfl (by kernel_rfl) (by kernel_rfl) (by kernel_rfl) (fun _ _ _ h => h) (by rfl) (fun w => ?_) ?_; rotate_left; (go_simp; first | done | with_reducible rfl); (try simp only [Act.put, List.setIfInBounds_toArray, List.set_cons_zero, List.set_cons_succ])
              refine regA 7 74 (v := ?_) rfl rfl (by kernel_rfl) (by kernel_rfl) (by kernel_rfl) (fun _ _ _ h => h) (by rfl) (fun w => ?_) ?_; rotate_left; (go_simp; first | done | with_reducible rfl); (try simp only [Act.put, List.setIfInBounds_toArray, List.set_cons_zero, List.set_cons_succ])
              refine regOnly 8 (by kernel_rfl) rfl (by rfl) (fun K hK => ?_)
              go_wp2_with fail
              refine hK.out _ _ (fun _ h => ⟨get_alloc h.1 _, get_alloc h.2 _⟩) ?_
              clear hK
              (try simp only [Act.put, List.setIfInBounds_toArray, List.set_cons_zero, List.set_cons_succ])
              have gb16 : (wr22.alloc (.cells #[.int .u64 0, .int .u64 0, .int .u64 0, .int .u64 0] 26 (0, 0))).heap[wr22.heap.size]? = some (.cells (wcells [0, 0, 0, 0]) 26) := get_new wr22 _
              obtain ⟨b16, hb16⟩ : ∃ b, wr22.heap.size = b := ⟨_, rfl⟩
              have lb16 : wr2.heap.size ≤ b16 := by rw [← hb16]; exact hM.size
              rw [hb16] at gb16 ⊢
              have hM : Mod [] wr2 (wr22.alloc (.cells #[.int .u64 0, .int .u64 0, .int .u64 0, .int .u64 0] 26 (0, 0))) := hM.alloc _
              generalize wr22.alloc (.cells #[.int .u64 0, .int .u64 0, .int .u64 0, .int .u64 0] 26 (0, 0)) = wr23 at *
              have nc0 := cell_at gb16 0; have nc1 := cell_at gb16 1; have nc2 := cell_at gb16 2; have nc3 := cell_at gb16 3; simp only [wcells_get] at nc0 nc1 nc2 nc3
              have nf0 := free_at gb16 0; have nf1 := free_at gb16 1; have nf2 := free_at gb16 2; have nf3 := free_at gb16 3
              have k3 := hid (set4_at gb16 y 0 0 0)
              have hM9 := hid (set4_mod lb16 hM y 0 0 0)
              clear gb16 hM
              refine regOnly 9 (by kernel_rfl) rfl (by rfl) (fun K hK => ?_)
              go_wp2_with fail
              refine hK.out _ _ (fun h _ => absurd h (by decide)) ?_
              clear hK
              (try simp only [Act.put, List.setIfInBounds_toArray, List.set_cons_zero, List.set_cons_succ])
              clear nc0 nc1 nc2 nc3
              clear nf0 nf1 nf2 nf3
              refine regA 10 17 (v := ?_) rfl rfl (by kernel_rfl) (by kernel_rfl) (by kernel_rfl) (fun _ _ _ h => h) (by rfl) (fun w => ?_) ?_; rotate_left; (go_simp; first | done | with_reducible rfl); (try simp only [Act.put, List.setIfInBounds_toArray, List.set_cons_zero, List.set_cons_succ])
              refine regAbs (fun W9 => W9.heap[b16]? = some (.cells (wcells [y, 0, 0, 0]) 26) ∧ Mod [] wr2 W9) ⟨k3.out, hM9.out⟩ ?_
              rintro W10 hR
              refine regDone (by kernel_rfl) ?_ _
              exact KEY.out b16 W10 hR
            · go_wp2_with fail
              refine hK.out _ _ (fun _ h => ⟨get_alloc h.1 _, get_alloc h.2 _⟩) ?_
              clear hK
              (try simp only [Act.put, List.setIfInBounds_toArray, List.set_cons_zero, List.set_cons_succ])
              have gb16 : (wr21.alloc (.cells #[.int .u64 0, .int .u64 0, .int .u64 0, .int .u64 0] 26 (0, 0))).heap[wr21.heap.size]? = some (.cells (wcells [0, 0, 0, 0]) 26) := get_new wr21 _
              obtain ⟨b16, hb16⟩ : ∃ b, wr21.heap.size = b := ⟨_, rfl⟩
              have lb16 : wr2.heap.size ≤ b16 := by rw [← hb16]; exact hM.size
              rw [hb16] at gb16 ⊢
              have hM : Mod [] wr2 (wr21.alloc (.cells #[.int .u64 0, .int .u64 0, .int .u64 0, .int .u64 0] 26 (0, 0))) := hM.alloc _
              generalize wr21.alloc (.cells #[.int .u64 0, .int .u64 0, .int .u64 0, .int .u64 0] 26 (0, 0)) = wr22 at *
              refine regOnly 4 (by kernel_rfl) rfl (by rfl) (fun K hK => ?_)
              go_wp2_with (go_at_call 40; refine (CRE.out _).mono ?_; rintro e wr23 ⟨rfl, hm⟩)
              refine hK.out _ _ (fun _ h => ⟨hm.get h.1 (by simp), hm.get h.2 (by simp)⟩) ?_
              clear hK
              (try simp only [Act.put, List.setIfInBounds_toArray, List.set_cons_zero, List.set_cons_succ])
              have gb16 := hm.get gb16 (by simp)
              have hM := hM.trans hm
              clear hm
              refine regA 5 67 (v := ?_) rfl rfl (by kernel_rfl) (by kernel_rfl) (by kernel_rfl) (fun _ _ _ h => h) (by rfl) (fun w => ?_) ?_; rotate_left; (go_simp; first | done | with_reducible rfl); (try simp only [Act.put, List.setIfInBounds_toArray, List.set_cons_zero, List.set_cons_succ])
              refine regA 6 73 (v := ?_) rfl rfl (by kernel_rfl) (by kernel_rfl) (by kernel_rfl) (fun _ _ _ h => h) (by rfl) (fun w => ?_) ?_; rotate_left; (go_simp; first | done | with_reducible rfl); (try simp only [Act.put, List.setIfInBounds_toArray, List.set_cons_zero, List.set_cons_succ])
              refine regA 7 74 (v := ?_) rfl rfl (by kernel_rfl) (by kernel_rfl) (by kernel_rfl) (fun _ _ _ h => h) (by rfl) (fun w => ?_) ?_; rotate_left; (go_simp; first | done | with_reducible rfl); (try simp only [Act.put, List.setIfInBounds_toArray, List.set_cons_zero, List.set_cons_succ])
              have nc0 := cell_at gb16 0; have nc1 := cell_at gb16 1; have nc2 := cell_at gb16 2; have nc3 := cell_at gb16 3; simp only [wcells_get] at nc0 nc1 nc2 nc3
              have nf0 := free_at gb16 0; have nf1 := free_at gb16 1; have nf2 := free_at gb16 2; have nf3 := free_at gb16 3
              have k3 := hid (set4_at gb16 y 0 0 0)
              have hM9 := hid (set4_mod lb16 hM y 0 0 0)
              clear gb16 hM
              refine regOnly 9 (by kernel_rfl) rfl (by rfl) (fun K hK => ?_)
              go_wp2_with fail
              refine hK.out _ _ (fun h _ => absurd h (by decide)) ?_
              clear hK
              (try simp only [Act.put, List.setIfInBounds_toArray, List.set_cons_zero, List.set_cons_succ])
              clear nc0 nc1 nc2 nc3
              clear nf0 nf1 nf2 nf3
              refine regA 10 17 (v := ?_) rfl rfl (by kernel_rfl) (by kernel_rfl) (by kernel_rfl) (fun _ _ _ h => h) (by rfl) (fun w => ?_) ?_; rotate_left; (go_simp; first | done | with_reducible rfl); (try simp only [Act.put, List.setIfInBounds_toArray, List.set_cons_zero, List.set_cons_succ])
              refine regAbs (fun W9 => W9.heap[b16]? = some (.cells (wcells [y, 0, 0, 0]) 26) ∧ Mod [] wr2 W9) ⟨k3.out, hM9.out⟩ ?_
              rintro W10 hR
              refine regDone (by kernel_rfl) ?_ _
              exact KEY.out b16 W10 hR
          · go_wp2_with fail
            refine hK.out _ _ (fun _ h => ⟨get_alloc h.1 _, get_alloc h.2 _⟩) ?_
            clear hK
            (try simp only [Act.put, List.setIfInBounds_toArray, List.set_cons_zero, List.set_cons_succ])
            have gb16 : (wr2.alloc (.cells #[.int .u64 0, .int .u64 0, .int .u64 0, .int .u64 0] 26 (0, 0))).heap[wr2.heap.size]? = some (.cells (wcells [0, 0, 0, 0]) 26) := get_new wr2 _
            obtain ⟨b16, hb16⟩ : ∃ b, wr2.heap.size = b := ⟨_, rfl⟩
            have lb16 : wr2.heap.size ≤ b16 := by rw [← hb16]; exact hM.size
            rw [hb16] at gb16 ⊢
            have hM : Mod [] wr2 (wr2.alloc (.cells #[.int .u64 0, .int .u64 0, .int .u64 0, .int .u64 0] 26 (0, 0))) := hM.alloc _
            generalize wr2.alloc (.cells #[.int .u64 0, .int .u64 0, .int .u64 0, .int .u64 0] 26 (0, 0)) = wr21 at *
            refine regOnly 2 (by kernel_rfl) rfl (by rfl) (fun K hK => ?_)
            go_wp2_with (go_at_call 41; refine (CWI.out _).mono ?_; rintro e wr22 ⟨rfl, hm⟩)
            refine hK.out _ _ (fun _ h => ⟨hm.get h.1 (by simp), hm.get h.2 (by simp)⟩) ?_
            clear hK
            (try simp only [Act.put, List.setIfInBounds_toArray, List.set_cons_zero, List.set_cons_succ])
            have gb16 := hm.get gb16 (by simp)
            have hM := hM.trans hm
            clear hm
            refine regOnly 4 (by kernel_rfl) rfl (by rfl) (fun K hK => ?_)
            go_wp2_with (go_at_call 40; refine (CRE.out _).mono ?_; rintro e wr23 ⟨rfl, hm⟩)
            refine hK.out _ _ (fun _ h => ⟨hm.get h.1 (by simp), hm.get h.2 (by simp)⟩) ?_
            clear hK
            (try simp only [Act.put, List.setIfInBounds_toArray, List.set_cons_zero, List.set_cons_succ])
            have gb16 := hm.get gb16 (by simp)
            have hM := hM.trans hm
            clear hm
            refine regA 5 67 (v := ?_) rfl rfl (by kernel_rfl) (by kernel_rfl) (by kernel_rfl) (fun _ _ _ h => h) (by rfl) (fun w => ?_) ?_; rotate_left; (go_simp; first | done | with_reducible rfl); (try simp only [Act.put, List.setIfInBounds_toArray, List.set_cons_zero, List.set_cons_succ])
            refine regA 6 73 (v := ?_) rfl rfl (by kernel_rfl) (by kernel_rfl) (by kernel_rfl) (fun _ _ _ h => h) (by rfl) (fun w => ?_) ?_; rotate_left; (go_simp; first | done | with_reducible rfl); (try simp only [Act.put, List.setIfInBounds_toArray, List.set_cons_zero, List.set_cons_succ])
            refine regA 7 74 (v := ?_) rfl rfl (by kernel_rfl) (by kernel_rfl) (by kernel_rfl) (fun _ _ _ h => h) (by rfl) (fun w => ?_) ?_; rotate_left; (go_simp; first | done | with_reducible rfl); (try simp only [Act.put, List.setIfInBounds_toArray, List.set_cons_zero, List.set_cons_succ])
            have nc0 := cell_at gb16 0; have nc1 := cell_at gb16 1; have nc2 := cell_at gb16 2; have nc3 := cell_at gb16 3; simp only [wcells_get] at nc0 nc1 nc2 nc3
            have nf0 := free_at gb16 0; have nf1 := free_at gb16 1; have nf2 := free_at gb16 2; have nf3 := free_at gb16 3
            have k3 := hid (set4_at gb16 y 0 0 0)
            have hM9 := hid (set4_mod lb16 hM y 0 0 0)
            clear gb16 hM
            refine regOnly 9 (by kernel_rfl) rfl (by rfl) (fun K hK => ?_)
            go_wp2_with fail
            refine hK.out _ _ (fun h _ => absurd h (by decide)) ?_
            clear hK
            (try simp only [Act.put, List.setIfInBounds_toArray, List.set_cons_zero, List.set_cons_succ])
            clear nc0 nc1 nc2 nc3
            clear nf0 nf1 nf2 nf3
            refine regA 10 17 (v := ?_) rfl rfl (by kernel_rfl) (by kernel_rfl) (by kernel_rfl) (fun _ _ _ h => h) (by rfl) (fun w => ?_) ?_; rotate_left; (go_simp; first | done | with_reducible rfl); (try simp only [Act.put, List.setIfInBounds_toArray, List.set_cons_zero, List.set_cons_succ])
            refine regAbs (fun W9 => W9.heap[b16]? = some (.cells (wcells [y, 0, 0, 0]) 26) ∧ Mod [] wr2 W9) ⟨k3.out, hM9.out⟩ ?_
            rintro W10 hR
            refine regDone (by kernel_rfl) ?_ _
            exact KEY.out b16 W10 hR
        · rintro b16 W5 ⟨g16, hm6⟩
          have g14 := hm6.get HC2.out.1 (by simp)
          have hq : ∀ W : World, (Op.equalIn 10000 26 (.agg #[.int .u64 (z : Int), .int .u64 0, .int .u64 0, .int .u64 0]) (.agg #[.int .u64 (y : Int), .int .u64 0, .int .u64 0, .int .u64 0])).run Tryd.prog W = .ok (decide (z = y)) W := fun W => by
            have h := equalIn_nv (a := z) (b := y) (order_NN HC.out.1.1) (order_NN HX.out.2.1) W
            rw [nv_one4B (order_BB HC.out.1.1), nv_one4B (order_BB HX.out.2.1)] at h
            exact h
          have ac0 := cell_at g14 0; have ac1 := cell_at g14 1; have ac2 := cell_at g14 2; have ac3 := cell_at g14 3; simp only [wcells_get] at ac0 ac1 ac2 ac3
          have bc0 := cell_at g16 0; have bc1 := cell_at g16 1; have bc2 := cell_at g16 2; have bc3 := cell_at g16 3; simp only [wcells_get] at bc0 bc1 bc2 bc3
          have HF := hid (HC2.out.2.trans hm6)
          clear g14 g16 hm6
          by_cases hzy : z = y
          · have Q : ∀ W : World, (Op.equalIn 10000 26 (.agg #[.int .u64 (z : Int), .int .u64 0, .int .u64 0, .int .u64 0]) (.agg #[.int .u64 (y : Int), .int .u64 0, .int .u64 0, .int .u64 0])).run Tryd.prog W = .ok true W := fun W => by rw [hq W, decide_eq_true hzy]
            have HZ := hid hzy
            clear hq hzy
            go_wp2_with (simp only [Q])
            obtain ⟨hx, hy, hxy, hgj, hall, hm4⟩ := HX.out
            go_roundg (gk - 1)
            case measure => omega
            case rel =>
              refine ⟨j + 1, by go_num, by omega, fun i p hi hip => ?_, hm4.trans HF.out⟩
              by_cases hij : i = j
              · subst hij
                rw [hxy] at hip
                cases hip
                have := HC.out.1
                rw [HZ.out] at this
                exact this
              · exact hall i p (by omega) hip
          · have Q : ∀ W : World, (Op.equalIn 10000 26 (.agg #[.int .u64 (z : Int), .int .u64 0, .int .u64 0, .int .u64 0]) (.agg #[.int .u64 (y : Int), .int .u64 0, .int .u64 0, .int .u64 0])).run Tryd.prog W = .ok false W := fun W => by rw [hq W, decide_eq_false hzy]
            have HZ := hid hzy
            clear hq hzy
            go_wp2_with (simp only [Q])
            refine bodyPost_ret (v := .tuple #[.bool false, .int .i64 0]) (by simp [results, Tryd.results25, go_sem]) rfl ⟨⟨false, rfl, fun h => (by cases h), fun _ => ?_⟩, HR.out.2.trans HF.out⟩
            obtain ⟨hx, hy, hxy, hgj, hall, hm4⟩ := HX.out
            refine ⟨(x, y), List.mem_of_getElem? (i := j) (by rw [List.getElem?_drop]; exact hxy), z, HC.out.1, HZ.out⟩
    · have j1 : ¬ (j : Int) < (m : Int) := by omega
      have HF := hid (And.intro hall ((HM.out.2.trans H3.out).trans hm4))
      have HJ : Hid (j = m) := by show j = m; omega
      clear hall hm4 hgj
      go_wp2_with fail
      refine bodyPost_ret (v := .tuple #[.bool true, .int .i64 0]) (by simp [results, Tryd.results25, go_sem]) rfl ⟨⟨true, rfl, fun _ p hpm => ?_, fun h => (by cases h)⟩, HF.out.2⟩
      obtain ⟨i, hi⟩ := List.mem_iff_getElem?.1 hpm
      rw [List.getElem?_drop] at hi
      have := (List.getElem?_eq_some_iff.1 hi).1
      exact HF.out.1 i p (by have := HJ.out; have := HMM.out; omega) hi
end Go.Proofs.YtdgmnhiffoemmaaDoor
