/-
  PolySums, walked. No statement of a claim stands here; each contract names what it asks.
-/
import Derived.Test.YtdgmnhiffoemmaaDoorZF0
import Derived.Test.YtdgmnhiffoemmaaDoorZD
import Derived.Test.YtdgmnhiffoemmaaDoorYU
set_option linter.unusedSimpArgs false
namespace Go.Proofs.YtdgmnhiffoemmaaDoor
open Go Go.RowKit Go.ChangeMaps

set_option maxRecDepth 100000 in
set_option maxHeartbeats 8000000 in
theorem sums_law (l1 : List Nat) (hl1 : l1.length ≤ maxLen) (hN1 : ∀ n ∈ l1, n < NN) (a1 : Option Addr) (c1 : Nat) (hc1 : l1.length ≤ c1) (hn1 : a1 = none → l1 = [] ∧ c1 = 0)
    (l2 : List Nat) (hl2 : l2.length ≤ maxLen) (hN2 : ∀ n ∈ l2, n < NN) (a2 : Option Addr) (c2 : Nat) (hc2 : l2.length ≤ c2) (hn2 : a2 = none → l2 = [] ∧ c2 = 0)
    (xs : List Int) (hxl : xs.length ≤ maxLen) (ax : Option Addr) (cx : Nat) (w : World) (h1 : NatsArg w a1 l1) (h2 : NatsArg w a2 l2) (hx : IntsArg w ax xs) :
    Calls Tryd.prog 7 #[.slice a1 l1.length c1, .slice a2 l2.length c2, .slice ax xs.length cx] w fun e w' => e = .returned (.bool true) ∧ Mod [] w w' := by
  have CW : Hid (∀ W : World, _) := fun W => works_any W
  have CF1 : Hid (∀ (W : World) (h : NatsArg W a1 l1), _) := fun W h => few_any l1 hl1 a1 c1 hc1 hn1 W h
  have CF2 : Hid (∀ (W : World) (h : NatsArg W a2 l2), _) := fun W h => few_any l2 hl2 a2 c2 hc2 hn2 W h
  have CA6 : Hid (∀ (W : World) (h : IntsArg W ax xs), Calls Tryd.prog 12 #[.slice ax xs.length cx, .int .i64 6] W fun e w' => (∃ (v : Value) (l : List Int), e = .returned v ∧ Ints W.heap.size w' v l ∧ l.length = 6 ∧ Diff 6 l) ∧ Mod [] W w') := fun W h => apart_any xs hxl ax cx 6 (by omega) W h
  have CO : Hid (∀ W : World, _) := fun W => c_order W
  have CPT : Hid (∀ (p : List Nat) (hl : ∀ n ∈ p, n < NN) (hl1 : 1 ≤ p.length) (hl2 : p.length ≤ 256) (g c : Nat) (xs : List Nat) (hxs : ∀ x ∈ xs, x < 1000000) (hn : xs.length = 6) (gx cx : Nat) (W : World) (h : NatRow W g p) (hx : IntRow W gx xs),
      Calls Tryd.prog 10 #[one4 581039633, .slice (some ⟨g, 0, none⟩) p.length c, .slice (some ⟨gx, 0, none⟩) 6 cx] W fun e w' =>
      (∃ (v : Value) (ps : List (Nat × Nat)), OnPoly order p xs ps ∧ Pts W.heap.size w' v ps ∧ e = .returned (.tuple #[v, .int .i64 0])) ∧ Mod [] W w') :=
    fun p h1 h2 h3 g c xs hxs hn gx cx W h hx => by
      have hc := c_points p h1 h2 h3 g c xs hxs (by omega) gx cx W h hx
      rwa [hn] at hc
  have HX := hid (And.intro h1 (And.intro h2 hx))
  have HN1 : Hid ((∀ n ∈ l1.take 12, n < NN) ∧ (l1.take 12).length ≤ 12) := ⟨fun n hn => hN1 n (List.mem_of_mem_take hn), by rw [List.length_take]; omega⟩
  have HN2 : Hid ((∀ n ∈ l2.take 12, n < NN) ∧ (l2.take 12).length ≤ 12) := ⟨fun n hn => hN2 n (List.mem_of_mem_take hn), by rw [List.length_take]; omega⟩
  unfold one4 at CO CPT
  clear h1 h2 hx hN1 hN2 hl1 hl2 hxl hn1 hn2 hc1 hc2
  go_enter Tryd.func7, Tryd.ntmps7
  go_upto_region 4 with (first
    | (go_at_call 8; refine (CW.out _).mono ?_; rintro e w1 ⟨rfl, hm1⟩; have H1 := hid hm1; clear hm1)
    | (go_at_call 9; refine (CF1.out _ (HX.out.1.mod H1.out)).mono ?_; rintro e w2 ⟨⟨v, rfl, hv⟩, hm2⟩; have H2 := hid (And.intro hv (And.intro (H1.out.trans hm2) hm2)); clear hm2 CF1 hv)
    | (go_at_call 9; refine (CF2.out _ (HX.out.2.1.mod H2.out.2.1)).mono ?_; rintro e w3 ⟨⟨v2, rfl, hv2⟩, hm3⟩; have H3 := hid (And.intro hv2 (And.intro (H2.out.2.1.trans hm3) hm3)); clear hm3 CF2 hv2))
  obtain ⟨b1, d1, rfl⟩ := row_sl H2.out.1.row
  obtain ⟨b2, d2, rfl⟩ := row_sl H3.out.1.row
  generalize l1.take 12 = pa at *
  generalize l2.take 12 = pb at *
  clear CW H1
  by_cases hpa : pa = []
  · subst hpa
    have HF := hid H3.out.2.1
    clear H2 H3
    go_wp2_with fail
    exact bodyPost_ret (v := .bool true) (by simp [results, Tryd.results7, go_sem]) rfl ⟨rfl, HF.out⟩
  have hla : 1 ≤ pa.length := List.length_pos_iff.2 hpa
  have n3a : ((pa.length : Int) == 0) = false := by simp; omega
  have n4a : pa.length ≠ 0 := by omega
  by_cases hpb : pb = []
  · subst hpb
    have HF := hid H3.out.2.1
    clear H2 H3 hla
    go_wp2_with fail
    exact bodyPost_ret (v := .bool true) (by simp [results, Tryd.results7, go_sem]) rfl ⟨rfl, HF.out⟩
  have hlb : 1 ≤ pb.length := List.length_pos_iff.2 hpb
  have n3b : ((pb.length : Int) == 0) = false := by simp; omega
  have n4b : pb.length ≠ 0 := by omega
  obtain ⟨ga, ca, ea, -, -, hra⟩ := H2.out.1.natRow hpa
  obtain ⟨gb, cb, eb, -, -, hrb⟩ := H3.out.1.natRow hpb
  cases ea
  cases eb
  obtain ⟨n, hn⟩ : ∃ n, max pa.length pb.length = n := ⟨_, rfl⟩
  have hn12 : n ≤ 12 ∧ 1 ≤ n ∧ pa.length ≤ n ∧ pb.length ≤ n := by have := HN1.out.2; have := HN2.out.2; omega
  have CADD : Hid (∀ (W : World) (hA : NatRow W ga pa) (hB : NatRow W gb pb), Calls Tryd.prog 22 #[one4 581039633, .slice (some ⟨ga, 0, none⟩) pa.length d1, .slice (some ⟨gb, 0, none⟩) pb.length d2] W fun e w' =>
      (∃ g, e = .returned (.tuple #[.slice (some ⟨g, 0, none⟩) n n, .int .i64 0]) ∧ W.heap.size ≤ g ∧ NatRow w' g (stg order n pa pb 2)) ∧ Mod [] W w') := fun W hA hB => by
    have hh := c_add pa pb HN1.out.1 HN2.out.1 hla (by omega) hlb (by omega) ga d1 gb d2 W hA hB
    unfold AddSays at hh
    rwa [hn] at hh
  unfold one4 at CADD
  have HR := hid (And.intro (hra.mod H3.out.2.2 (by simp)) (And.intro hrb H3.out.2.1))
  have kmax : max (pa.length : Int) (pb.length : Int) = (n : Int) := by omega
  obtain ⟨d, hd⟩ : ∃ d, n = d + 1 := ⟨n - 1, by omega⟩
  have hw2 : IntKind.i64.wrap ((n : Int) - 1) = (d : Int) := by rw [show (n : Int) - 1 = (d : Int) by omega]; exact IntWalk.i64_in _ (by omega)
  have HNN := hid (And.intro hn12 (And.intro hd (And.intro hla hlb)))
  have m1 : (pa.length : Int) ≤ 12 := by omega
  have m2 : (pb.length : Int) ≤ 12 := by omega
  clear hra hrb H2 H3 hn12 hn hd hla hlb hpa hpb
  go_upto_region 7 with (first
    | (go_at_call 11; refine (CO.out _).mono ?_; rintro e wo ⟨rfl, hm⟩; have HO := hid hm; clear hm)
    | (go_at_call 22; refine (CADD.out _ (HR.out.1.mod HO.out (by simp)) (HR.out.2.1.mod HO.out (by simp))).mono ?_; rintro e w5 ⟨⟨gc, rfl, -, hrc⟩, hm⟩; have H5 := hid (And.intro hrc (HO.out.trans hm)); clear hm hrc))
  have HR2 := hid (And.intro (HR.out.1.mod H5.out.2 (by simp)) (And.intro (HR.out.2.1.mod H5.out.2 (by simp)) (And.intro H5.out.1 (HR.out.2.2.trans H5.out.2))))
  clear HR H5 CADD HO
  go_upto_region 8 with (go_at_call 12; refine (CA6.out _ (HX.out.2.2.mod HR2.out.2.2.2)).mono ?_; rintro e w6 ⟨⟨v4, l4, rfl, hv4, hl4, hd4⟩, hm4⟩; obtain ⟨gx, cx4, e4, -, hrx⟩ := hv4.intRow (by intro h; rw [h] at hl4; simp at hl4) (fun x hx => Int.le_trans (by decide) (hd4.range x hx).1); rw [hl4] at e4; subst e4; have H6 := hid (And.intro hrx hm4); have HI6 := hid (And.intro (show (l4.map Int.toNat).length = 6 by rw [List.length_map]; exact hl4) (And.intro hd4.small hd4.apart)); generalize l4.map Int.toNat = ys at *; clear hv4 hl4 hd4 hm4 hrx)
  have hsl := stg_len order n pa pb 2
  have hsN := stg_small (n := n) pa pb
  obtain ⟨st, hst⟩ : ∃ st, stg order n pa pb 2 = st := ⟨_, rfl⟩
  rw [hst] at hsl hsN HR2
  have CPa : Hid (∀ (W : World) (h : NatRow W ga pa) (hx : IntRow W gx ys), _) := fun W h hx => CPT.out pa HN1.out.1 HNN.out.2.2.1 (by have := HN1.out.2; omega) ga d1 ys HI6.out.2.1 HI6.out.1 gx cx4 W h hx
  have CPb : Hid (∀ (W : World) (h : NatRow W gb pb) (hx : IntRow W gx ys), _) := fun W h hx => CPT.out pb HN2.out.1 HNN.out.2.2.2 (by have := HN2.out.2; omega) gb d2 ys HI6.out.2.1 HI6.out.1 gx cx4 W h hx
  have cpc := fun (W : World) (h : NatRow W gc st) (hx : IntRow W gx ys) => CPT.out st hsN (by have := HNN.out.1; omega) (by have := HNN.out.1; omega) gc n ys HI6.out.2.1 HI6.out.1 gx cx4 W h hx
  rw [hsl] at cpc
  have CPc := hid cpc
  have HS := hid (And.intro hst hsl)
  have HI := hid (And.intro H6.out.1 (And.intro (HR2.out.1.mod H6.out.2 (by simp)) (And.intro (HR2.out.2.1.mod H6.out.2 (by simp)) (And.intro (HR2.out.2.2.1.mod H6.out.2 (by simp)) (HR2.out.2.2.2.trans H6.out.2)))))
  clear cpc hsl hsN hst H6 HR2 CPT CA6 HX
  go_upto_region 9 with (first
    | (go_at_call 11; refine (CO.out _).mono ?_; rintro e wo ⟨rfl, hm⟩; have HO := hid hm; clear hm)
    | (go_at_call 10; refine (CPa.out _ (HI.out.2.1.mod HO.out (by simp)) (HI.out.1.mod HO.out (by simp))).mono ?_; rintro e w7 ⟨⟨v7, p1, hon, hv, rfl⟩, hm⟩; obtain ⟨g1, k1, e5, -, hc5, hpr⟩ := Pts.blk hv (by intro h; have h1 := hon.1; rw [h, HI6.out.1] at h1; simp at h1); rw [hon.1, HI6.out.1] at e5; subst e5; have H7 := hid (And.intro hon (And.intro hpr.row (And.intro (HO.out.trans hm) (show 6 ≤ k1 by rw [hon.1, HI6.out.1] at hc5; exact hc5)))); clear hon hpr hv hm hc5))
  have HI := hid (And.intro (HI.out.1.mod H7.out.2.2.1 (by simp)) (And.intro (HI.out.2.2.1.mod H7.out.2.2.1 (by simp)) (And.intro (HI.out.2.2.2.1.mod H7.out.2.2.1 (by simp)) (And.intro H7.out.2.1 (HI.out.2.2.2.2.trans H7.out.2.2.1)))))
  clear CPa HO
  go_upto_region 10 with (first
    | (go_at_call 11; refine (CO.out _).mono ?_; rintro e wo ⟨rfl, hm⟩; have HO := hid hm; clear hm)
    | (go_at_call 10; refine (CPb.out _ (HI.out.2.1.mod HO.out (by simp)) (HI.out.1.mod HO.out (by simp))).mono ?_; rintro e w8 ⟨⟨v8, p2, hon, hv, rfl⟩, hm⟩; obtain ⟨g2, k2, e5, -, hc5, hpr⟩ := Pts.blk hv (by intro h; have h1 := hon.1; rw [h, HI6.out.1] at h1; simp at h1); rw [hon.1, HI6.out.1] at e5; subst e5; have H8 := hid (And.intro hon (And.intro hpr.row (And.intro (HO.out.trans hm) (show 6 ≤ k2 by rw [hon.1, HI6.out.1] at hc5; exact hc5)))); clear hon hpr hv hm hc5))
  have HI := hid (And.intro (HI.out.1.mod H8.out.2.2.1 (by simp)) (And.intro (HI.out.2.2.1.mod H8.out.2.2.1 (by simp)) (And.intro (HI.out.2.2.2.1.mod H8.out.2.2.1 (by simp)) (And.intro H8.out.2.1 (HI.out.2.2.2.2.trans H8.out.2.2.1)))))
  clear CPb HO
  go_upto_region 11 with (first
    | (go_at_call 11; refine (CO.out _).mono ?_; rintro e wo ⟨rfl, hm⟩; have HO := hid hm; clear hm)
    | (go_at_call 10; refine (CPc.out _ (HI.out.2.1.mod HO.out (by simp)) (HI.out.1.mod HO.out (by simp))).mono ?_; rintro e w9 ⟨⟨v9, p3, hon, hv, rfl⟩, hm⟩; obtain ⟨g3, k3, e5, -, hc5, hpr⟩ := Pts.blk hv (by intro h; have h1 := hon.1; rw [h, HI6.out.1] at h1; simp at h1); rw [hon.1, HI6.out.1] at e5; subst e5; have H9 := hid (And.intro hon (And.intro hpr.row (And.intro (HO.out.trans hm) (show 6 ≤ k3 by rw [hon.1, HI6.out.1] at hc5; exact hc5)))); clear hon hpr hv hm hc5))
  have HI := hid (And.intro (HI.out.2.2.1.mod H9.out.2.2.1 (by simp)) (And.intro (HI.out.2.2.2.1.mod H9.out.2.2.1 (by simp)) (And.intro H9.out.2.1 (HI.out.2.2.2.2.trans H9.out.2.2.1))))
  clear CPc HO
  go_wp2_with fail
  go_loopg [16] 6 (fun gk v W' => ∃ j : Nat, v = .int .i64 j ∧ gk + j = 6 ∧ Mod [] w9 W')
  case atStart => exact ⟨0, rfl, rfl, Mod.refl _ _⟩
  case round =>
    obtain ⟨i, rfl, hgi, hm⟩ := hrel
    by_cases hi : i < 6
    · have i0 : (0 : Int) ≤ (i : Int) := by omega
      have i1 : (i : Int) < 6 := by omega
      have e6 := HI6.out.1
      obtain ⟨⟨x1, y1⟩, q1⟩ : ∃ q, p1[i]? = some q := ⟨_, List.getElem?_eq_getElem (by have := H7.out.1.1; omega)⟩
      obtain ⟨⟨x2, y2⟩, q2⟩ : ∃ q, p2[i]? = some q := ⟨_, List.getElem?_eq_getElem (by have := H8.out.1.1; omega)⟩
      obtain ⟨⟨x3, y3⟩, q3⟩ : ∃ q, p3[i]? = some q := ⟨_, List.getElem?_eq_getElem (by have := H9.out.1.1; omega)⟩
      obtain ⟨r1, s1, -⟩ := H7.out.1.2 i _ q1
      obtain ⟨r2, s2, -⟩ := H8.out.1.2 i _ q2
      obtain ⟨r3, s3, -⟩ := H9.out.1.2 i _ q3
      have hon3 := H9.out.1
      rw [← HS.out.1] at hon3
      have hsum := sums_at HNN.out.1.2.2.1 HNN.out.1.2.2.2 H7.out.1 H8.out.1 hon3 q1 q2 q3
      have cam := fun W => c_addmod s1 s2 W
      simp only [hsum] at cam
      have u1 := HI.out.1.rowY q1 (BB_big (HI6.out.2.1 _ (List.mem_of_getElem? r1))) (order_BB s1)
      have u2 := HI.out.2.1.rowY q2 (BB_big (HI6.out.2.1 _ (List.mem_of_getElem? r2))) (order_BB s2)
      have u3 := HI.out.2.2.1.rowY q3 (BB_big (HI6.out.2.1 _ (List.mem_of_getElem? r3))) (order_BB s3)
      have qsame := fun W => q_sameB (order_BB s3) W
      unfold one4 at cam qsame
      have CAM := hid cam
      have QS := hid qsame
      have HN := hid (And.intro hm (And.intro hgi (u3.mod hm (by simp))))
      have hbx := And.intro (u1.mod hm.drew (by simp)) (u2.mod hm.drew (by simp))
      have HBX0 := hid hbx
      clear hm hgi q1 q2 q3 r1 r2 r3 s1 s2 s3 hon3 hsum cam u1 u2 u3 qsame e6 hbx
      go_upto_region 16 with fail
      refine wp_region_N (fun w' => RowY g1 i y1 w' ∧ RowY g2 i y2 w') (fun i => !(i == 16 || i == 17)) (by kernel_rfl) ?_
      have hmw : Mod [] wr wr.drew := (Mod.refl _ _).drew
      have hu3 := HN.out.2.2.mod hmw (by simp)
      generalize wr.drew = wq at *
      have HMW := hid (And.intro hmw hu3)
      clear hmw hu3
      apply merge1 (R := fun b17 W9 => W9.heap[b17]? = some (.cells (wcells [y3, 0, 0, 0]) 26) ∧ Mod [] wq W9)
      · intro key
        have KEY := hid key
        clear key
        have hS := HBX0.out
        refine regA 0 91 (v := ?_) rfl rfl (by kernel_rfl) (by kernel_rfl) (by kernel_rfl) (fun _ _ _ h => h) (by rfl) (fun w => ?_) ?_; rotate_left; (go_simp; first | done | with_reducible rfl); (try simp only [Act.put, List.setIfInBounds_toArray, List.set_cons_zero, List.set_cons_succ])
        refine regA 1 92 (v := ?_) rfl rfl (by kernel_rfl) (by kernel_rfl) (by kernel_rfl) (fun _ _ _ h => h) (by rfl) (fun w => ?_) ?_; rotate_left; (go_simp; first | done | with_reducible rfl); (try simp only [Act.put, List.setIfInBounds_toArray, List.set_cons_zero, List.set_cons_succ])
        refine regA 2 93 (v := .pointer (some ⟨g1, i * 8, none⟩)) rfl rfl (by kernel_rfl) (by kernel_rfl) (by kernel_rfl) (fun _ _ _ h => h) (by rfl) (fun w => ?_) ?_
        · go_simp
        (try simp only [Act.put, List.setIfInBounds_toArray, List.set_cons_zero, List.set_cons_succ])
        refine regA 3 94 (v := .pointer (some ⟨g1, i * 8 + 4, none⟩)) rfl rfl (by kernel_rfl) (by kernel_rfl) (by kernel_rfl) (fun _ _ _ h => h) (by rfl) (fun w => ?_) ?_
        · go_simp
        (try simp only [Act.put, List.setIfInBounds_toArray, List.set_cons_zero, List.set_cons_succ])
        refine regS 4 95 (v := .agg #[.int .u64 (y1 : Int), .int .u64 0, .int .u64 0, .int .u64 0]) hS rfl rfl (by kernel_rfl) (by kernel_rfl) (by kernel_rfl) (by kernel_rfl) (fun _ _ _ h => h) (by rfl) (fun w hSw => ?_) ?_; (obtain ⟨qc0, qc1, qc2, qc3, qd1, qd2, qd3⟩ := hSw.1; go_simp); (try simp only [Act.put, List.setIfInBounds_toArray, List.set_cons_zero, List.set_cons_succ])
        refine regA 5 96 (v := ?_) rfl rfl (by kernel_rfl) (by kernel_rfl) (by kernel_rfl) (fun _ _ _ h => h) (by rfl) (fun w => ?_) ?_; rotate_left; (go_simp; first | done | with_reducible rfl); (try simp only [Act.put, List.setIfInBounds_toArray, List.set_cons_zero, List.set_cons_succ])
        refine regA 6 97 (v := ?_) rfl rfl (by kernel_rfl) (by kernel_rfl) (by kernel_rfl) (fun _ _ _ h => h) (by rfl) (fun w => ?_) ?_; rotate_left; (go_simp; first | done | with_reducible rfl); (try simp only [Act.put, List.setIfInBounds_toArray, List.set_cons_zero, List.set_cons_succ])
        refine regA 7 98 (v := .pointer (some ⟨g2, i * 8, none⟩)) rfl rfl (by kernel_rfl) (by kernel_rfl) (by kernel_rfl) (fun _ _ _ h => h) (by rfl) (fun w => ?_) ?_
        · go_simp
        (try simp only [Act.put, List.setIfInBounds_toArray, List.set_cons_zero, List.set_cons_succ])
        refine regA 8 99 (v := .pointer (some ⟨g2, i * 8 + 4, none⟩)) rfl rfl (by kernel_rfl) (by kernel_rfl) (by kernel_rfl) (fun _ _ _ h => h) (by rfl) (fun w => ?_) ?_
        · go_simp
        (try simp only [Act.put, List.setIfInBounds_toArray, List.set_cons_zero, List.set_cons_succ])
        refine regS 9 100 (v := .agg #[.int .u64 (y2 : Int), .int .u64 0, .int .u64 0, .int .u64 0]) hS rfl rfl (by kernel_rfl) (by kernel_rfl) (by kernel_rfl) (by kernel_rfl) (fun _ _ _ h => h) (by rfl) (fun w hSw => ?_) ?_; (obtain ⟨qc0, qc1, qc2, qc3, qd1, qd2, qd3⟩ := hSw.2; go_simp); (try simp only [Act.put, List.setIfInBounds_toArray, List.set_cons_zero, List.set_cons_succ])
        clear hS
        have hM := Mod.refl [] wq
        refine regTwo 10 15 (by kernel_rfl) rfl (by rfl) rfl (by rfl) (fun K hK => ?_) (fun K hK => ?_)
        · go_wp2_with (go_at_call 11; refine (CO.out _).mono ?_; rintro e wq1 ⟨rfl, hm⟩)
          refine hK.out _ _ (fun _ h => ⟨h.1.mod hm (by simp), h.2.mod hm (by simp)⟩) ?_
          clear hK
          (try simp only [Act.put, List.setIfInBounds_toArray, List.set_cons_zero, List.set_cons_succ])
          have hM := hM.trans hm
          clear hm
          refine regTwo 11 15 (by kernel_rfl) rfl (by rfl) rfl (by rfl) (fun K hK => ?_) (fun K hK => ?_)
          · go_wp2_with (go_at_call 26; refine (CAM.out _).mono ?_; rintro e wq2 ⟨rfl, hm⟩)
            refine hK.out _ _ (fun _ h => ⟨h.1.mod hm (by simp), h.2.mod hm (by simp)⟩) ?_
            clear hK
            (try simp only [Act.put, List.setIfInBounds_toArray, List.set_cons_zero, List.set_cons_succ])
            have hM := hM.trans hm
            clear hm
            refine regA 12 90 (v := ?_) rfl rfl (by kernel_rfl) (by kernel_rfl) (by kernel_rfl) (fun _ _ _ h => h) (by rfl) (fun w => ?_) ?_; rotate_left; (go_simp; first | done | with_reducible rfl); (try simp only [Act.put, List.setIfInBounds_toArray, List.set_cons_zero, List.set_cons_succ])
            refine regA 13 103 (v := ?_) rfl rfl (by kernel_rfl) (by kernel_rfl) (by kernel_rfl) (fun _ _ _ h => h) (by rfl) (fun w => ?_) ?_; rotate_left; (go_simp; first | done | with_reducible rfl); (try simp only [Act.put, List.setIfInBounds_toArray, List.set_cons_zero, List.set_cons_succ])
            refine regA 14 104 (v := ?_) rfl rfl (by kernel_rfl) (by kernel_rfl) (by kernel_rfl) (fun _ _ _ h => h) (by rfl) (fun w => ?_) ?_; rotate_left; (go_simp; first | done | with_reducible rfl); (try simp only [Act.put, List.setIfInBounds_toArray, List.set_cons_zero, List.set_cons_succ])
            refine regOnly 15 (by kernel_rfl) rfl (by rfl) (fun K hK => ?_)
            go_wp2_with fail
            refine hK.out _ _ (fun _ h => ⟨h.1.mod ((Mod.refl [] _).alloc _) (by simp), h.2.mod ((Mod.refl [] _).alloc _) (by simp)⟩) ?_
            clear hK
            (try simp only [Act.put, List.setIfInBounds_toArray, List.set_cons_zero, List.set_cons_succ])
            have gb17 : (wq2.alloc (.cells #[.int .u64 0, .int .u64 0, .int .u64 0, .int .u64 0] 26 (0, 0))).heap[wq2.heap.size]? = some (.cells (wcells [0, 0, 0, 0]) 26) := get_new wq2 _
            obtain ⟨b17, hb17⟩ : ∃ b, wq2.heap.size = b := ⟨_, rfl⟩
            have lb17 : wq.heap.size ≤ b17 := by rw [← hb17]; exact hM.size
            rw [hb17] at gb17 ⊢
            have hM : Mod [] wq (wq2.alloc (.cells #[.int .u64 0, .int .u64 0, .int .u64 0, .int .u64 0] 26 (0, 0))) := hM.alloc _
            generalize wq2.alloc (.cells #[.int .u64 0, .int .u64 0, .int .u64 0, .int .u64 0] 26 (0, 0)) = wq3 at *
            have nc0 := cell_at gb17 0; have nc1 := cell_at gb17 1; have nc2 := cell_at gb17 2; have nc3 := cell_at gb17 3; simp only [wcells_get] at nc0 nc1 nc2 nc3
            have nf0 := free_at gb17 0; have nf1 := free_at gb17 1; have nf2 := free_at gb17 2; have nf3 := free_at gb17 3
            have k3 := hid (set4_at gb17 y3 0 0 0)
            have hM9 := hid (set4_mod lb17 hM y3 0 0 0)
            clear gb17 hM
            refine regOnly 16 (by kernel_rfl) rfl (by rfl) (fun K hK => ?_)
            go_wp2_with fail
            refine hK.out _ _ (fun h _ => absurd h (by decide)) ?_
            clear hK
            (try simp only [Act.put, List.setIfInBounds_toArray, List.set_cons_zero, List.set_cons_succ])
            clear nc0 nc1 nc2 nc3
            clear nf0 nf1 nf2 nf3
            refine regA 17 18 (v := ?_) rfl rfl (by kernel_rfl) (by kernel_rfl) (by kernel_rfl) (fun _ _ _ h => h) (by rfl) (fun w => ?_) ?_; rotate_left; (go_simp; first | done | with_reducible rfl); (try simp only [Act.put, List.setIfInBounds_toArray, List.set_cons_zero, List.set_cons_succ])
            refine regAbs (fun W9 => W9.heap[b17]? = some (.cells (wcells [y3, 0, 0, 0]) 26) ∧ Mod [] wq W9) ⟨k3.out, hM9.out⟩ ?_
            rintro W10 hR
            refine regDone (by kernel_rfl) ?_ _
            exact KEY.out b17 W10 hR
          · go_wp2_with fail
            refine hK.out _ _ (fun _ h => ⟨h.1.mod ((Mod.refl [] _).alloc _) (by simp), h.2.mod ((Mod.refl [] _).alloc _) (by simp)⟩) ?_
            clear hK
            (try simp only [Act.put, List.setIfInBounds_toArray, List.set_cons_zero, List.set_cons_succ])
            have gb17 : (wq1.alloc (.cells #[.int .u64 0, .int .u64 0, .int .u64 0, .int .u64 0] 26 (0, 0))).heap[wq1.heap.size]? = some (.cells (wcells [0, 0, 0, 0]) 26) := get_new wq1 _
            obtain ⟨b17, hb17⟩ : ∃ b, wq1.heap.size = b := ⟨_, rfl⟩
            have lb17 : wq.heap.size ≤ b17 := by rw [← hb17]; exact hM.size
            rw [hb17] at gb17 ⊢
            have hM : Mod [] wq (wq1.alloc (.cells #[.int .u64 0, .int .u64 0, .int .u64 0, .int .u64 0] 26 (0, 0))) := hM.alloc _
            generalize wq1.alloc (.cells #[.int .u64 0, .int .u64 0, .int .u64 0, .int .u64 0] 26 (0, 0)) = wq2 at *
            refine regOnly 11 (by kernel_rfl) rfl (by rfl) (fun K hK => ?_)
            go_wp2_with (go_at_call 26; refine (CAM.out _).mono ?_; rintro e wq3 ⟨rfl, hm⟩)
            refine hK.out _ _ (fun _ h => ⟨h.1.mod hm (by simp), h.2.mod hm (by simp)⟩) ?_
            clear hK
            (try simp only [Act.put, List.setIfInBounds_toArray, List.set_cons_zero, List.set_cons_succ])
            have gb17 := hm.get gb17 (by simp)
            have hM := hM.trans hm
            clear hm
            refine regA 12 90 (v := ?_) rfl rfl (by kernel_rfl) (by kernel_rfl) (by kernel_rfl) (fun _ _ _ h => h) (by rfl) (fun w => ?_) ?_; rotate_left; (go_simp; first | done | with_reducible rfl); (try simp only [Act.put, List.setIfInBounds_toArray, List.set_cons_zero, List.set_cons_succ])
            refine regA 13 103 (v := ?_) rfl rfl (by kernel_rfl) (by kernel_rfl) (by kernel_rfl) (fun _ _ _ h => h) (by rfl) (fun w => ?_) ?_; rotate_left; (go_simp; first | done | with_reducible rfl); (try simp only [Act.put, List.setIfInBounds_toArray, List.set_cons_zero, List.set_cons_succ])
            refine regA 14 104 (v := ?_) rfl rfl (by kernel_rfl) (by kernel_rfl) (by kernel_rfl) (fun _ _ _ h => h) (by rfl) (fun w => ?_) ?_; rotate_left; (go_simp; first | done | with_reducible rfl); (try simp only [Act.put, List.setIfInBounds_toArray, List.set_cons_zero, List.set_cons_succ])
            have nc0 := cell_at gb17 0; have nc1 := cell_at gb17 1; have nc2 := cell_at gb17 2; have nc3 := cell_at gb17 3; simp only [wcells_get] at nc0 nc1 nc2 nc3
            have nf0 := free_at gb17 0; have nf1 := free_at gb17 1; have nf2 := free_at gb17 2; have nf3 := free_at gb17 3
            have k3 := hid (set4_at gb17 y3 0 0 0)
            have hM9 := hid (set4_mod lb17 hM y3 0 0 0)
            clear gb17 hM
            refine regOnly 16 (by kernel_rfl) rfl (by rfl) (fun K hK => ?_)
            go_wp2_with fail
            refine hK.out _ _ (fun h _ => absurd h (by decide)) ?_
            clear hK
            (try simp only [Act.put, List.setIfInBounds_toArray, List.set_cons_zero, List.set_cons_succ])
            clear nc0 nc1 nc2 nc3
            clear nf0 nf1 nf2 nf3
            refine regA 17 18 (v := ?_) rfl rfl (by kernel_rfl) (by kernel_rfl) (by kernel_rfl) (fun _ _ _ h => h) (by rfl) (fun w => ?_) ?_; rotate_left; (go_simp; first | done | with_reducible rfl); (try simp only [Act.put, List.setIfInBounds_toArray, List.set_cons_zero, List.set_cons_succ])
            refine regAbs (fun W9 => W9.heap[b17]? = some (.cells (wcells [y3, 0, 0, 0]) 26) ∧ Mod [] wq W9) ⟨k3.out, hM9.out⟩ ?_
            rintro W10 hR
            refine regDone (by kernel_rfl) ?_ _
            exact KEY.out b17 W10 hR
        · go_wp2_with fail
          refine hK.out _ _ (fun _ h => ⟨h.1.mod ((Mod.refl [] _).alloc _) (by simp), h.2.mod ((Mod.refl [] _).alloc _) (by simp)⟩) ?_
          clear hK
          (try simp only [Act.put, List.setIfInBounds_toArray, List.set_cons_zero, List.set_cons_succ])
          have gb17 : (wq.alloc (.cells #[.int .u64 0, .int .u64 0, .int .u64 0, .int .u64 0] 26 (0, 0))).heap[wq.heap.size]? = some (.cells (wcells [0, 0, 0, 0]) 26) := get_new wq _
          obtain ⟨b17, hb17⟩ : ∃ b, wq.heap.size = b := ⟨_, rfl⟩
          have lb17 : wq.heap.size ≤ b17 := by rw [← hb17]; exact hM.size
          rw [hb17] at gb17 ⊢
          have hM : Mod [] wq (wq.alloc (.cells #[.int .u64 0, .int .u64 0, .int .u64 0, .int .u64 0] 26 (0, 0))) := hM.alloc _
          generalize wq.alloc (.cells #[.int .u64 0, .int .u64 0, .int .u64 0, .int .u64 0] 26 (0, 0)) = wq1 at *
          refine regOnly 10 (by kernel_rfl) rfl (by rfl) (fun K hK => ?_)
          go_wp2_with (go_at_call 11; refine (CO.out _).mono ?_; rintro e wq2 ⟨rfl, hm⟩)
          refine hK.out _ _ (fun _ h => ⟨h.1.mod hm (by simp), h.2.mod hm (by simp)⟩) ?_
          clear hK
          (try simp only [Act.put, List.setIfInBounds_toArray, List.set_cons_zero, List.set_cons_succ])
          have gb17 := hm.get gb17 (by simp)
          have hM := hM.trans hm
          clear hm
          refine regOnly 11 (by kernel_rfl) rfl (by rfl) (fun K hK => ?_)
          go_wp2_with (go_at_call 26; refine (CAM.out _).mono ?_; rintro e wq3 ⟨rfl, hm⟩)
          refine hK.out _ _ (fun _ h => ⟨h.1.mod hm (by simp), h.2.mod hm (by simp)⟩) ?_
          clear hK
          (try simp only [Act.put, List.setIfInBounds_toArray, List.set_cons_zero, List.set_cons_succ])
          have gb17 := hm.get gb17 (by simp)
          have hM := hM.trans hm
          clear hm
          refine regA 12 90 (v := ?_) rfl rfl (by kernel_rfl) (by kernel_rfl) (by kernel_rfl) (fun _ _ _ h => h) (by rfl) (fun w => ?_) ?_; rotate_left; (go_simp; first | done | with_reducible rfl); (try simp only [Act.put, List.setIfInBounds_toArray, List.set_cons_zero, List.set_cons_succ])
          refine regA 13 103 (v := ?_) rfl rfl (by kernel_rfl) (by kernel_rfl) (by kernel_rfl) (fun _ _ _ h => h) (by rfl) (fun w => ?_) ?_; rotate_left; (go_simp; first | done | with_reducible rfl); (try simp only [Act.put, List.setIfInBounds_toArray, List.set_cons_zero, List.set_cons_succ])
          refine regA 14 104 (v := ?_) rfl rfl (by kernel_rfl) (by kernel_rfl) (by kernel_rfl) (fun _ _ _ h => h) (by rfl) (fun w => ?_) ?_; rotate_left; (go_simp; first | done | with_reducible rfl); (try simp only [Act.put, List.setIfInBounds_toArray, List.set_cons_zero, List.set_cons_succ])
          have nc0 := cell_at gb17 0; have nc1 := cell_at gb17 1; have nc2 := cell_at gb17 2; have nc3 := cell_at gb17 3; simp only [wcells_get] at nc0 nc1 nc2 nc3
          have nf0 := free_at gb17 0; have nf1 := free_at gb17 1; have nf2 := free_at gb17 2; have nf3 := free_at gb17 3
          have k3 := hid (set4_at gb17 y3 0 0 0)
          have hM9 := hid (set4_mod lb17 hM y3 0 0 0)
          clear gb17 hM
          refine regOnly 16 (by kernel_rfl) rfl (by rfl) (fun K hK => ?_)
          go_wp2_with fail
          refine hK.out _ _ (fun h _ => absurd h (by decide)) ?_
          clear hK
          (try simp only [Act.put, List.setIfInBounds_toArray, List.set_cons_zero, List.set_cons_succ])
          clear nc0 nc1 nc2 nc3
          clear nf0 nf1 nf2 nf3
          refine regA 17 18 (v := ?_) rfl rfl (by kernel_rfl) (by kernel_rfl) (by kernel_rfl) (fun _ _ _ h => h) (by rfl) (fun w => ?_) ?_; rotate_left; (go_simp; first | done | with_reducible rfl); (try simp only [Act.put, List.setIfInBounds_toArray, List.set_cons_zero, List.set_cons_succ])
          refine regAbs (fun W9 => W9.heap[b17]? = some (.cells (wcells [y3, 0, 0, 0]) 26) ∧ Mod [] wq W9) ⟨k3.out, hM9.out⟩ ?_
          rintro W10 hR
          refine regDone (by kernel_rfl) ?_ _
          exact KEY.out b17 W10 hR
      · rintro b17 W9 ⟨g17, hm9⟩
        obtain ⟨t0, t1, t2, t3, t4, t5, t6⟩ := HMW.out.2.mod hm9 (by simp)
        have Q := QS.out
        have zc0 := cell_at g17 0; have zc1 := cell_at g17 1; have zc2 := cell_at g17 2; have zc3 := cell_at g17 3; simp only [wcells_get] at zc0 zc1 zc2 zc3
        have HE := hid (HMW.out.1.trans hm9)
        clear g17 hm9
        go_wp2_with fail
        go_quiet (fail)
        go_wp2_with fail
        go_roundg (gk - 1)
        case measure => have := HN.out.2.1; omega
        case rel => exact ⟨i + 1, by go_num, by have := HN.out.2.1; omega, (HN.out.1.trans HE.out).drewN _⟩
    · have i1 : ¬ (i : Int) < 6 := by omega
      have hfst := H9.out.1.fst
      have hl3 : p3.length = 6 := by rw [H9.out.1.1]; exact HI6.out.1
      have hap3 : AllApart order (p3.map Prod.fst) := by rw [hfst]; exact HI6.out.2.2
      have cl := fun (W : World) (hW : PtRow W g3 p3) => pline d (by have := HNN.out; omega) p3 (fun q hq => by
        obtain ⟨i, hi⟩ := List.mem_iff_getElem?.1 hq
        obtain ⟨h1, h2, -⟩ := H9.out.1.2 i q hi
        exact ⟨HI6.out.2.1 _ (List.mem_of_getElem? h1), h2⟩) hap3 (by omega) (by omega) (min (d + 1) p3.length) rfl g3 k3 (by rw [hl3]; exact H9.out.2.2.2) W hW
      have ht : ∀ e, LineSays p3 (min (d + 1) p3.length) e → e = .returned (.tuple #[.bool true, .int .i64 0]) := fun e he => line_true H9.out.1 hap3 (by omega) (by
        have hsl := HS.out.2
        have hdn := HNN.out.2.1
        by_cases h6 : 6 ≤ n
        · left
          rw [List.drop_eq_nil_of_le (by omega)]
        · right
          omega) he
      rw [hl3] at cl ht
      unfold one4 at cl
      have CL := hid cl
      have HT := hid ht
      have HF := hid (And.intro (HI.out.2.2.1.mod hm (by simp)) (HI.out.2.2.2.trans hm))
      clear cl ht hfst hl3 hap3 hm hgi
      go_wp2_with (first
        | (go_at_call 11; refine (CO.out _).mono ?_; rintro e wo ⟨rfl, hm⟩; have HO := hid hm; clear hm)
        | simp only [kmax]
        | (go_at_call 25; refine (CL.out _ (HF.out.1.mod HO.out (by simp))).mono ?_; rintro e w12 ⟨hsays, hm⟩; obtain rfl := HT.out _ hsays; have HG := hid ((HF.out.2.trans HO.out).trans hm); clear hm hsays))
      exact bodyPost_ret (v := .bool true) (by simp [results, Tryd.results7, go_sem]) rfl ⟨rfl, HG.out⟩
end Go.Proofs.YtdgmnhiffoemmaaDoor
