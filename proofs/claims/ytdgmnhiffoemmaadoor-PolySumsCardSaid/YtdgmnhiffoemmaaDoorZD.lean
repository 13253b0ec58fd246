/-
  PolyTurned, walked. No statement of a claim stands here; each contract names what it asks.
-/
import Derived.Test.YtdgmnhiffoemmaaDoorZD0
import Derived.Test.YtdgmnhiffoemmaaDoorYU
set_option linter.unusedSimpArgs false
namespace Go.Proofs.YtdgmnhiffoemmaaDoor
open Go Go.RowKit Go.ChangeMaps

/-- A point's second number, one part alone. -/
def RowY (g k y : Nat) (w : World) : Prop := w.cell? ⟨g, k * 8 + 4, none⟩ = some (.int .u64 (y : Int)) ∧ w.cell? ⟨g, k * 8 + 4 + 1, none⟩ = some (.int .u64 0) ∧ w.cell? ⟨g, k * 8 + 4 + 2, none⟩ = some (.int .u64 0) ∧ w.cell? ⟨g, k * 8 + 4 + 3, none⟩ = some (.int .u64 0) ∧
  w.cell? ⟨g, k * 8 + 5, none⟩ = some (.int .u64 0) ∧ w.cell? ⟨g, k * 8 + 6, none⟩ = some (.int .u64 0) ∧ w.cell? ⟨g, k * 8 + 7, none⟩ = some (.int .u64 0)
theorem RowY.mod {g k y : Nat} {w w' : World} {S : List Nat} (h : RowY g k y w) (m : Mod S w w') (hn : g ∉ S) : RowY g k y w' :=
  ⟨m.cell h.1 hn, m.cell h.2.1 hn, m.cell h.2.2.1 hn, m.cell h.2.2.2.1 hn, m.cell h.2.2.2.2.1 hn, m.cell h.2.2.2.2.2.1 hn, m.cell h.2.2.2.2.2.2 hn⟩
theorem PtRow.rowY {w : World} {g : Nat} {ps : List (Nat × Nat)} (h : PtRow w g ps) {k x y : Nat} (hk : ps[k]? = some (x, y)) (hx : x < BB) (hy : y < BB) : RowY g k y w := by
  obtain ⟨-, -, -, -, h4, h5, h6, h7⟩ := h.cells hk (parts_one hx) (parts_one hy)
  exact ⟨h4, h5, h6, h7, h5, h6, h7⟩

set_option maxRecDepth 100000 in
set_option maxHeartbeats 8000000 in
theorem turned_law (l : List Nat) (hll : l.length ≤ maxLen) (hlN : ∀ n ∈ l, n < NN) (a : Option Addr) (c : Nat) (hc : l.length ≤ c) (hn : a = none → l = [] ∧ c = 0)
    (xs : List Int) (hxl : xs.length ≤ maxLen) (ax : Option Addr) (cx : Nat) (which : Int) {u : Nat} (hu : u < BB) (w : World) (h : NatsArg w a l) (hx : IntsArg w ax xs) :
    Calls Tryd.prog 6 #[.slice a l.length c, .slice ax xs.length cx, .int .i64 which, .int .u64 u] w fun e w' => e = .returned (.bool true) ∧ Mod [] w w' := by
  have CW : Hid (∀ W : World, _) := fun W => works_any W
  have CF : Hid (∀ (W : World) (h : NatsArg W a l), _) := fun W h => few_any l hll a c hc hn W h
  have CA : Hid (∀ (n : Nat) (hn : n ≤ 13) (W : World) (h : IntsArg W ax xs), _) := fun n hn W h => apart_any xs hxl ax cx n hn W h
  have CO : Hid (∀ W : World, _) := fun W => c_order W
  have CPT0 : Hid (∀ (p : List Nat) (hl : ∀ n ∈ p, n < NN) (hl1 : 1 ≤ p.length) (hl2 : p.length ≤ 256) (m : Nat) (hm : m ≤ 256) (g c : Nat) (xs : List Nat) (hxs : ∀ x ∈ xs, x < 1000000) (hn : xs.length = m) (gx cx : Nat) (W : World) (h : NatRow W g p) (hx : IntRow W gx xs),
      Calls Tryd.prog 10 #[one4 581039633, .slice (some ⟨g, 0, none⟩) p.length c, .slice (some ⟨gx, 0, none⟩) m cx] W fun e w' =>
      (∃ (v : Value) (ps : List (Nat × Nat)), OnPoly order p xs ps ∧ Pts W.heap.size w' v ps ∧ e = .returned (.tuple #[v, .int .i64 0])) ∧ Mod [] W w') :=
    fun p h1 h2 h3 m hm g c xs hxs hn gx cx W h hx => by
      have hc := c_points p h1 h2 h3 g c xs hxs (by omega) gx cx W h hx
      rwa [hn] at hc
  have cad : ∀ (y : Nat) (hy : y < order) (W : World), Calls Tryd.prog 26 #[one4 (y : Int), one4 (u : Int), one4 581039633] W fun e w' => e = .returned (.tuple #[one4 (((y + u) % order : Nat) : Int), .int .i64 0]) ∧ Mod [] W w' :=
    fun y hy W => by
      have hh := rmadd (a := y) (b := u) (m := order) (order_NN hy) (Nat.lt_trans hu BB_NN) order_NN' (by have := order_2; omega) W
      rwa [nv_order, nv_one4B (order_BB hy), nv_one4B hu, nv_one4B (order_BB (Nat.mod_lt _ (by have := order_2; omega)))] at hh
  have cwd : ∀ W : World, Calls Tryd.prog 28 #[one4 (u : Int)] W fun e w' => e = .returned (one8 (u : Int)) ∧ Mod [] W w' := fun W => by
    have hh := rwiden (Nat.lt_trans hu BB_NN) W
    rwa [nv_one4B hu, wdv_one hu] at hh
  have crd : ∀ W : World, Calls Tryd.prog 27 #[one8 (u : Int), one4 581039633] W fun e w' => e = .returned (.tuple #[one4 ((u % order : Nat) : Int), .int .i64 0]) ∧ Mod [] W w' := fun W => by
    have hh := rreduce (a := u) (m := order) (Nat.lt_of_lt_of_le (Nat.lt_trans hu BB_NN) NN_le) order_NN' (by have := order_2; omega) W
    rwa [nv_order, wdv_one hu, nv_one4B (order_BB (Nat.mod_lt _ (by have := order_2; omega)))] at hh
  have CAD := hid cad
  have CWD := hid cwd
  have CRD := hid crd
  have HX := hid (And.intro h hx)
  have HN : Hid ((∀ n ∈ l.take 12, n < NN) ∧ (l.take 12).length ≤ 12) := ⟨fun n hn => hlN n (List.mem_of_mem_take hn), by rw [List.length_take]; omega⟩
  have hmx : l.length ≤ 9223372036854775807 := hll
  unfold one4 one8 at *
  clear h hx hlN hll hxl hn hc hu cad cwd crd
  go_enter Tryd.func6, Tryd.ntmps6
  go_upto_region 4 with (first
    | (go_at_call 8; refine (CW.out _).mono ?_; rintro e w1 ⟨rfl, hm1⟩; have H1 := hid hm1; clear hm1)
    | (go_at_call 9; refine (CF.out _ (HX.out.1.mod H1.out)).mono ?_; rintro e w2 ⟨⟨v, rfl, hv⟩, hm2⟩; have H2 := hid (H1.out.trans hm2); clear hm2))
  obtain ⟨a2, c2, rfl⟩ := row_sl hv.row
  generalize hp : l.take 12 = p at *
  clear hp CF CW
  by_cases hp0 : p = []
  · subst hp0
    clear hv
    go_wp2_with fail
    exact bodyPost_ret (v := .bool true) (by simp [results, Tryd.results6, go_sem]) rfl ⟨rfl, H2.out⟩
  · have hpl : 1 ≤ p.length := List.length_pos_iff.2 hp0
    obtain ⟨g, c3, e3, -, -, hrow⟩ := hv.natRow hp0
    cases e3
    have hp12 := HN.out.2
    obtain ⟨m, hm⟩ : ∃ m, p.length + 1 = m := ⟨_, rfl⟩
    obtain ⟨d, hd⟩ : ∃ d, p.length = d + 1 := ⟨p.length - 1, by omega⟩
    have hw1 : IntKind.i64.wrap ((p.length : Int) + 1) = (m : Int) := by rw [← hm]; exact IntWalk.i64_in _ (by omega)
    have hw2 : IntKind.i64.wrap ((p.length : Int) - 1) = (d : Int) := by rw [show (p.length : Int) - 1 = (d : Int) by omega]; exact IntWalk.i64_in _ (by omega)
    have CA2 : Hid (∀ (W : World) (h : IntsArg W ax xs), _) := fun W h => CA.out m (by omega) W h
    have CPT : Hid (∀ (g c : Nat) (xs : List Nat) (hxs : ∀ x ∈ xs, x < 1000000) (hn : xs.length = m) (gx cx : Nat) (W : World) (h : NatRow W g p) (hx : IntRow W gx xs), _) := fun g c xs hxs hn gx cx W h hx => CPT0.out p HN.out.1 hpl (by omega) m (by omega) g c xs hxs hn gx cx W h hx
    have CL : Hid (∀ (ps : List (Nat × Nat)) (hps : ∀ q ∈ ps, q.1 < 1000000 ∧ q.2 < order) (hap : AllApart order (ps.map Prod.fst)) (hlen : ps.length = m) (g c : Nat) (hc : m ≤ c) (W : World) (hg : PtRow W g ps), Calls Tryd.prog 25 #[one4 581039633, .int .i64 d, .slice (some ⟨g, 0, none⟩) m c] W fun e w' => LineSays ps p.length e ∧ Mod [] W w') :=
      fun ps hps hap hlen g c hc W hg => by
        have hh := pline d (by omega) ps hps hap (by omega) (by omega) p.length (by omega) g c (by omega) W hg
        rwa [hlen] at hh
    obtain ⟨hk1, hk2⟩ := among_in which m (by omega)
    obtain ⟨kn, hkn⟩ : ∃ kn : Nat, among which m = (kn : Int) := ⟨(among which m).toNat, by omega⟩
    have hkl : kn < m := by omega
    have cam2 := fun W => among_any which m W (by omega) (by omega)
    rw [hkn] at cam2
    have CAM2 := hid cam2
    have HRW := hid hrow
    have HK := hid (And.intro hkl (And.intro hm hd))
    have n1 : (p.length : Int) ≤ 12 := by omega
    have n2 : 1 ≤ (p.length : Int) := by omega
    have n3 : ((p.length : Int) == 0) = false := by simp; omega
    have hp0' : p.length ≠ 0 := by omega
    unfold one4 at CL CPT
    clear hv hrow CA CPT0 HN hp12 hp0 hk1 hk2 hkn hkl cam2 hm hd
    go_upto_region 7 with (first
      | (go_at_call 11; refine (CO.out _).mono ?_; rintro e w3 ⟨rfl, hm3⟩; have H3 := hid hm3; clear hm3)
      | (go_at_call 12; refine (CA2.out _ ((HX.out.2.mod H2.out).mod H3.out)).mono ?_; rintro e w4 ⟨⟨v4, l4, rfl, hv4, hl4, hd4⟩, hm4⟩; obtain ⟨gx, cx4, e4, -, hrx⟩ := hv4.intRow (by intro h; rw [h] at hl4; simp at hl4; have := HK.out; omega) (fun x hx => Int.le_trans (by decide) (hd4.range x hx).1); rw [hl4] at e4; subst e4; have H4 := hid (And.intro hrx (And.intro hd4.small (And.intro hd4.apart (And.intro (show (l4.map Int.toNat).length = m by rw [List.length_map]; exact hl4) (H3.out.trans hm4))))); generalize l4.map Int.toNat = ys at *; clear hv4 hl4 hd4 hm4 hrx)
      | (go_at_call 10; refine (CPT.out _ _ ys H4.out.2.1 H4.out.2.2.2.1 _ _ _ (HRW.out.mod H4.out.2.2.2.2 (by simp)) H4.out.1).mono ?_; rintro e w5 ⟨⟨v5, ps, hon, hv5, rfl⟩, hm5⟩; obtain ⟨g5, c5, e5, hB5, hc5, hpr⟩ := Pts.blk hv5 (by intro h; have h1 := hon.1; rw [h, H4.out.2.2.2.1] at h1; simp at h1; have := HK.out; omega); rw [hon.1, H4.out.2.2.2.1] at e5; subst e5; have H5 := hid (And.intro hon (And.intro hpr (And.intro (H2.out.trans (H4.out.2.2.2.2.trans hm5)) (And.intro (show w.heap.size ≤ g5 from Nat.le_trans (H2.out.trans H4.out.2.2.2.2).size hB5) (show m ≤ c5 by rw [hon.1, H4.out.2.2.2.1] at hc5; exact hc5))))); clear hon hpr hm5 hv5 hB5 hc5))
    have hfst := H5.out.1.fst
    have hpl5 : ps.length = m := by rw [H5.out.1.1]; exact H4.out.2.2.2.1
    have hps5 : ∀ q ∈ ps, q.1 < 1000000 ∧ q.2 < order := fun q hq => by
      obtain ⟨i, hi⟩ := List.mem_iff_getElem?.1 hq
      obtain ⟨h1, h2, -⟩ := H5.out.1.2 i q hi
      exact ⟨H4.out.2.1 _ (List.mem_of_getElem? h1), h2⟩
    have hap5 : AllApart order (ps.map Prod.fst) := by rw [hfst]; exact H4.out.2.2.1
    obtain ⟨⟨x, y⟩, hk⟩ : ∃ q, ps[kn]? = some q := ⟨_, List.getElem?_eq_getElem (by have := HK.out; omega)⟩
    have hxy := hps5 _ (List.mem_of_getElem? hk)
    have CADY := hid (CAD.out y hxy.2)
    obtain ⟨y', hy'⟩ : ∃ y', (y + u) % order = y' := ⟨_, rfl⟩
    rw [hy'] at CADY
    have CL1 : Hid (∀ (W : World) (hg : PtRow W g5 ps), _) := fun W hg => CL.out ps hps5 hap5 hpl5 g5 c5 H5.out.2.2.2.2 W hg
    have hy'o : y' < order := by rw [← hy']; exact Nat.mod_lt _ (by have := order_2; omega)
    have CL2 : Hid (∀ (W : World) (hg : PtRow W g5 (ps.set kn (x, y'))), _) := fun W hg => CL.out (ps.set kn (x, y')) (fun q hq => by
      rcases List.mem_or_eq_of_mem_set hq with h1 | h1
      · exact hps5 q h1
      · rw [h1]; exact ⟨hxy.1, hy'o⟩) (by rw [map_set_fst hk]; exact hap5) (by rw [List.length_set]; exact hpl5) g5 c5 H5.out.2.2.2.2 W hg
    have HT1 : Hid (∀ e, LineSays ps p.length e → e = .returned (.tuple #[.bool true, .int .i64 0])) := fun e he => line_true H5.out.1 hap5 (by have := HK.out; omega) (.inr (Nat.le_refl _)) he
    have HT2 : Hid (∀ e, LineSays (ps.set kn (x, y')) p.length e → e = .returned (.tuple #[.bool (decide (u % order = 0)), .int .i64 0])) := fun e he => by
      rw [← hy'] at he
      exact line_turned H5.out.1 hap5 (by have := HK.out; omega) (Nat.le_refl _) hk he
    have HY := hid (And.intro hk (And.intro (order_BB hy'o) (And.intro (BB_big hxy.1) (order_BB hxy.2))))
    have k0 : (0 : Int) ≤ (kn : Int) := by omega
    have k1 : (kn : Int) < (m : Int) := by have := HK.out; omega
    clear CPT CA2 H3 H4 HRW hfst hpl5 hps5 hap5 hk hxy hy' hy'o CL CAD
    go_upto_region 10 with (first
      | (go_at_call 11; refine (CO.out _).mono ?_; rintro e w6 ⟨rfl, hm6⟩; have H6 := hid hm6; clear hm6)
      | (go_at_call 25; refine (CL1.out _ (H5.out.2.1.mod H6.out (by simp)).row).mono ?_; rintro e w7 ⟨hsays, hm7⟩; obtain rfl := HT1.out _ hsays; have H7 := hid (H6.out.trans hm7); clear hm7 hsays))
    go_upto_region 11 with (go_at_call 15; refine (CAM2.out _).mono ?_; rintro e w8 ⟨rfl, hw8⟩; subst hw8)
    have hblk := H5.out.2.1.mod H7.out.drew (by simp)
    have hS : RowY g5 kn y w7.drew := hblk.row.rowY HY.out.1 HY.out.2.2.1 HY.out.2.2.2
    have hmd := H5.out.2.2.1.trans H7.out.drew
    have HB := hid (And.intro hblk hmd)
    clear hblk hmd H6 H7 HT1 CL1
    refine wp_region_N (RowY g5 kn y) (fun i => !(i == 16)) (by kernel_rfl) ?_
    generalize w7.drew = wd at *
    have hM := Mod.refl [] wd
    refine regA 0 56 (v := ?_) rfl rfl (by kernel_rfl) (by kernel_rfl) (by kernel_rfl) (fun _ _ _ h => h) (by rfl) (fun w => ?_) ?_; rotate_left; (go_simp; first | done | with_reducible rfl); (try simp only [Act.put, List.setIfInBounds_toArray, List.set_cons_zero, List.set_cons_succ])
    refine regA 1 57 (v := ?_) rfl rfl (by kernel_rfl) (by kernel_rfl) (by kernel_rfl) (fun _ _ _ h => h) (by rfl) (fun w => ?_) ?_; rotate_left; (go_simp; first | done | with_reducible rfl); (try simp only [Act.put, List.setIfInBounds_toArray, List.set_cons_zero, List.set_cons_succ])
    refine regA 2 58 (v := ?_) rfl rfl (by kernel_rfl) (by kernel_rfl) (by kernel_rfl) (fun _ _ _ h => h) (by rfl) (fun w => ?_) ?_; rotate_left; (go_simp; first | done | with_reducible rfl); (try simp only [Act.put, List.setIfInBounds_toArray, List.set_cons_zero, List.set_cons_succ])
    refine regA 3 59 (v := ?_) rfl rfl (by kernel_rfl) (by kernel_rfl) (by kernel_rfl) (fun _ _ _ h => h) (by rfl) (fun w => ?_) ?_; rotate_left; (go_simp; first | done | with_reducible rfl); (try simp only [Act.put, List.setIfInBounds_toArray, List.set_cons_zero, List.set_cons_succ])
    refine regA 4 60 (v := .pointer (some ⟨g5, kn * 8, none⟩)) rfl rfl (by kernel_rfl) (by kernel_rfl) (by kernel_rfl) (fun _ _ _ h => h) (by rfl) (fun w => ?_) ?_
    · go_simp
    (try simp only [Act.put, List.setIfInBounds_toArray, List.set_cons_zero, List.set_cons_succ])
    refine regA 5 61 (v := .pointer (some ⟨g5, kn * 8 + 4, none⟩)) rfl rfl (by kernel_rfl) (by kernel_rfl) (by kernel_rfl) (fun _ _ _ h => h) (by rfl) (fun w => ?_) ?_
    · go_simp
    (try simp only [Act.put, List.setIfInBounds_toArray, List.set_cons_zero, List.set_cons_succ])
    refine regS 6 62 (v := .agg #[.int .u64 (y : Int), .int .u64 0, .int .u64 0, .int .u64 0]) hS rfl rfl (by kernel_rfl) (by kernel_rfl) (by kernel_rfl) (by kernel_rfl) (fun _ _ _ h => h) (by rfl) (fun w hSw => ?_) ?_; (obtain ⟨qc0, qc1, qc2, qc3, qd1, qd2, qd3⟩ := hSw; go_simp); (try simp only [Act.put, List.setIfInBounds_toArray, List.set_cons_zero, List.set_cons_succ])
    refine regA 7 63 (v := ?_) rfl rfl (by kernel_rfl) (by kernel_rfl) (by kernel_rfl) (fun _ _ _ h => h) (by rfl) (fun w => ?_) ?_; rotate_left; (go_simp; first | done | with_reducible rfl); (try simp only [Act.put, List.setIfInBounds_toArray, List.set_cons_zero, List.set_cons_succ])
    refine regA 8 64 (v := ?_) rfl rfl (by kernel_rfl) (by kernel_rfl) (by kernel_rfl) (fun _ _ _ h => h) (by rfl) (fun w => ?_) ?_; rotate_left; (go_simp; first | done | with_reducible rfl); (try simp only [Act.put, List.setIfInBounds_toArray, List.set_cons_zero, List.set_cons_succ])
    clear hS
    refine regOnly 9 (by kernel_rfl) rfl (by rfl) (fun K hK => ?_)
    go_wp2_with (go_at_call 11; refine (CO.out _).mono ?_; rintro e wo ⟨rfl, hm⟩)
    refine hK.out _ _ (fun _ h => h.mod hm (by simp)) ?_
    clear hK
    (try simp only [Act.put, List.setIfInBounds_toArray, List.set_cons_zero, List.set_cons_succ])
    have hM := hM.trans hm
    clear hm
    refine regOnly 10 (by kernel_rfl) rfl (by rfl) (fun K hK => ?_)
    go_wp2_with (go_at_call 26; refine (CADY.out _).mono ?_; rintro e wa ⟨rfl, hm⟩)
    refine hK.out _ _ (fun _ h => h.mod hm (by simp)) ?_
    clear hK
    (try simp only [Act.put, List.setIfInBounds_toArray, List.set_cons_zero, List.set_cons_succ])
    have hM := hM.trans hm
    clear hm
    refine regA 11 55 (v := ?_) rfl rfl (by kernel_rfl) (by kernel_rfl) (by kernel_rfl) (fun _ _ _ h => h) (by rfl) (fun w => ?_) ?_; rotate_left; (go_simp; first | done | with_reducible rfl); (try simp only [Act.put, List.setIfInBounds_toArray, List.set_cons_zero, List.set_cons_succ])
    refine regA 12 67 (v := ?_) rfl rfl (by kernel_rfl) (by kernel_rfl) (by kernel_rfl) (fun _ _ _ h => h) (by rfl) (fun w => ?_) ?_; rotate_left; (go_simp; first | done | with_reducible rfl); (try simp only [Act.put, List.setIfInBounds_toArray, List.set_cons_zero, List.set_cons_succ])
    refine regA 13 68 (v := ?_) rfl rfl (by kernel_rfl) (by kernel_rfl) (by kernel_rfl) (fun _ _ _ h => h) (by rfl) (fun w => ?_) ?_; rotate_left; (go_simp; first | done | with_reducible rfl); (try simp only [Act.put, List.setIfInBounds_toArray, List.set_cons_zero, List.set_cons_succ])
    refine regA 14 69 (v := .pointer (some ⟨g5, kn * 8, none⟩)) rfl rfl (by kernel_rfl) (by kernel_rfl) (by kernel_rfl) (fun _ _ _ h => h) (by rfl) (fun w => ?_) ?_
    · go_simp
    (try simp only [Act.put, List.setIfInBounds_toArray, List.set_cons_zero, List.set_cons_succ])
    refine regA 15 70 (v := .pointer (some ⟨g5, kn * 8 + 4, none⟩)) rfl rfl (by kernel_rfl) (by kernel_rfl) (by kernel_rfl) (fun _ _ _ h => h) (by rfl) (fun w => ?_) ?_
    · go_simp
    (try simp only [Act.put, List.setIfInBounds_toArray, List.set_cons_zero, List.set_cons_succ])
    have hblk := HB.out.1.mod hM (by simp)
    obtain ⟨s0, s1, s2, s3, t1, t2, t3⟩ := hblk.row.rowY HY.out.1 HY.out.2.2.1 HY.out.2.2.2
    have f0 := hblk.free (kn * 8 + 4)
    have f1 := hblk.free (kn * 8 + 4 + 1)
    have f2 := hblk.free (kn * 8 + 4 + 2)
    have f3 := hblk.free (kn * 8 + 4 + 3)
    have f5 := hblk.free (kn * 8 + 5)
    have f6 := hblk.free (kn * 8 + 6)
    have f7 := hblk.free (kn * 8 + 7)
    have hset := hid (hblk.setY HY.out.1 HY.out.2.2.1 HY.out.2.2.2 HY.out.2.1)
    have hmw := HB.out.2.trans hM
    have hgl := H5.out.2.2.2.1
    have hmset := hid ((((hmw.setCell (p := ⟨g5, kn * 8 + 4, none⟩) (.inr hgl) (.int .u64 (y' : Int))).setCell (p := ⟨g5, kn * 8 + 4 + 1, none⟩) (.inr hgl) (.int .u64 0)).setCell (p := ⟨g5, kn * 8 + 4 + 2, none⟩) (.inr hgl) (.int .u64 0)).setCell (p := ⟨g5, kn * 8 + 4 + 3, none⟩) (.inr hgl) (.int .u64 0))
    clear hblk hM hmw hgl
    refine regOnly 16 (by kernel_rfl) rfl (by rfl) (fun K hK => ?_)
    go_wp2_with fail
    refine hK.out _ _ (fun h _ => absurd h (by decide)) ?_
    clear hK
    (try simp only [Act.put, List.setIfInBounds_toArray, List.set_cons_zero, List.set_cons_succ])
    refine regAbs (fun W9 => PtBlk W9 g5 (ps.set kn (x, y')) ∧ Mod [] w W9) ⟨hset.out, hmset.out⟩ ?_
    clear s0 s1 s2 s3 t1 t2 t3 f0 f1 f2 f3 f5 f6 f7 hset hmset
    rintro W9 ⟨hb9, hm9⟩
    have H9 := hid (And.intro hb9 hm9)
    clear hb9 hm9
    refine regDone (by kernel_rfl) ?_ _
    go_upto_region 13 with (first
      | (go_at_call 11; refine (CO.out _).mono ?_; rintro e w10 ⟨rfl, hm10⟩; have H10 := hid hm10; clear hm10)
      | (go_at_call 25; refine (CL2.out _ (H9.out.1.mod H10.out (by simp)).row).mono ?_; rintro e w11 ⟨hsays, hm11⟩; obtain rfl := HT2.out _ hsays; have H11 := hid ((H9.out.2.trans H10.out).trans hm11); clear hm11 hsays))
    obtain ⟨r, hr⟩ : ∃ r, u % order = r := ⟨_, rfl⟩
    rw [hr] at CRD ⊢
    have hro : r < order := by rw [← hr]; exact Nat.mod_lt _ (by have := order_2; omega)
    clear HT2 CL2 hr
    go_upto_region 14 with (first
      | (go_at_call 28; refine (CWD.out _).mono ?_; rintro e w12 ⟨rfl, hm12⟩; have H12 := hid (H11.out.trans hm12); clear hm12)
      | (go_at_call 11; refine (CO.out _).mono ?_; rintro e w13 ⟨rfl, hm13⟩; have H13 := hid (H12.out.trans hm13); clear hm13)
      | (go_at_call 27; refine (CRD.out _).mono ?_; rintro e w14 ⟨rfl, hm14⟩; have H14 := hid (H13.out.trans hm14); clear hm14))
    refine wp_abs (fun W => W.heap[w14.heap.size]? = some (.cells (wcells [r, 0, 0, 0]) 26) ∧ Mod [] w W) ⟨get_new _ _, H14.out.alloc _⟩ ?_
    generalize w14.heap.size = t16 at *
    rintro W15 ⟨g16, hm15⟩
    have hq : ∀ W : World, (Op.equalIn 10000 26 (.agg #[.int .u64 (r : Int), .int .u64 0, .int .u64 0, .int .u64 0]) (.agg #[.int .u64 0, .int .u64 0, .int .u64 0, .int .u64 0])).run Tryd.prog W = .ok (decide (r = 0)) W := fun W => by
      have hh := equalIn_nv (a := r) (b := 0) (order_NN hro) NN_pos W
      rw [nv_one4B (order_BB hro), nv_one4B BB_pos] at hh
      exact hh
    have zc0 := cell_at g16 0; have zc1 := cell_at g16 1; have zc2 := cell_at g16 2; have zc3 := cell_at g16 3; simp only [wcells_get] at zc0 zc1 zc2 zc3
    have HF := hid hm15
    clear g16 hm15 hro
    by_cases hr0 : r = 0
    · have Q : ∀ W : World, (Op.equalIn 10000 26 (.agg #[.int .u64 (r : Int), .int .u64 0, .int .u64 0, .int .u64 0]) (.agg #[.int .u64 0, .int .u64 0, .int .u64 0, .int .u64 0])).run Tryd.prog W = .ok true W := fun W => by rw [hq W, decide_eq_true hr0]
      rw [decide_eq_true hr0]
      clear hq hr0
      go_wp2_with (simp only [Q])
      exact bodyPost_ret (v := .bool true) (by simp [results, Tryd.results6, go_sem]) rfl ⟨rfl, HF.out⟩
    · have Q : ∀ W : World, (Op.equalIn 10000 26 (.agg #[.int .u64 (r : Int), .int .u64 0, .int .u64 0, .int .u64 0]) (.agg #[.int .u64 0, .int .u64 0, .int .u64 0, .int .u64 0])).run Tryd.prog W = .ok false W := fun W => by rw [hq W, decide_eq_false hr0]
      rw [decide_eq_false hr0]
      clear hq hr0
      go_wp2_with (simp only [Q])
      exact bodyPost_ret (v := .bool true) (by simp [results, Tryd.results6, go_sem]) rfl ⟨rfl, HF.out⟩
end Go.Proofs.YtdgmnhiffoemmaaDoor
