/-
  The reference's Divide. No statement of a claim stands here; each contract names what it asks.
-/
import Derived.Test.YtdgmnhiffoemmaaDoorZ3
import Derived.Test.YtdgmnhiffoemmaaDoorGD
import Derived.Test.YtdgmnhiffoemmaaDoorGF
import Derived.Test.YtdgmnhiffoemmaaDoorYI
import Derived.Test.YtdgmnhiffoemmaaDoorYG
import Derived.Test.YtdgmnhiffoemmaaDoorGA
set_option linter.unusedSimpArgs false
namespace Go.Proofs.YtdgmnhiffoemmaaDoor
open Go Go.RowKit Go.ChangeMaps

theorem and_pow (x s : Nat) : x &&& 2 ^ s = if x / 2 ^ s % 2 = 1 then 2 ^ s else 0 := by
  apply Nat.eq_of_testBit_eq
  intro i
  rw [Nat.testBit_and, Nat.testBit_two_pow]
  by_cases h : x / 2 ^ s % 2 = 1
  · rw [if_pos h, Nat.testBit_two_pow]
    by_cases e : s = i
    · subst e
      simp [Nat.testBit_eq_decide_div_mod_eq, h]
    · simp [e]
  · rw [if_neg h, Nat.zero_testBit]
    by_cases e : s = i
    · subst e
      simp [Nat.testBit_eq_decide_div_mod_eq, h]
    · simp [e]
theorem NN_even : NN % 2 = 0 := by
  rw [NN_eq, show (4 : Nat) = 3 + 1 from rfl, Nat.pow_succ]
  generalize BB ^ 3 = A
  unfold BB
  omega
theorem parts_succ {n p0 p1 p2 p3 : Nat} (he : n % 2 = 0) (hp : parts n 4 = [p0, p1, p2, p3]) : p0 + 1 < BB ∧ parts (n + 1) 4 = [p0 + 1, p1, p2, p3] := by
  have h2 : (n + 1) % BB = n % BB + 1 ∧ (n + 1) / BB = n / BB ∧ n % BB + 1 < BB := by
    unfold BB
    omega
  simp only [parts, List.cons.injEq, and_true] at hp ⊢
  rw [h2.1, h2.2.1]
  obtain ⟨rfl, rfl, rfl, rfl⟩ := hp
  exact ⟨h2.2.2, rfl, rfl, rfl, rfl⟩
/-- While a number is divided, part by part. -/
def RDivRel (U : List Nat) (m : Nat) (W : World) (tq tr : Nat) (gk : Nat) (b k : Value) (w : World) : Prop :=
  ∃ (Q : List Nat) (r : Nat) (bg : Bool), k = .int .i64 ((gk : Int) - 1) ∧ gk ≤ 8 ∧ b = .bool bg ∧ RD U Q m gk r ∧ (bg = false → val (U.drop gk) = 0 ∧ r = 0) ∧
    w.heap[tq]? = some (.cells (wcells Q) 60) ∧ w.heap[tr]? = some (.cells (wcells (parts r 4)) 26) ∧ Mod [tq, tr] W w
/-- What a round's first loads read. -/
def DivS (tw tm : Nat) (U : List Nat) (m0 m1 m2 m3 : Nat) (w : World) : Prop := w.heap[tw]? = some (.cells (wcells U) 60) ∧ w.heap[tm]? = some (.cells (wcells [m0, m1, m2, m3]) 26)

/-- While a part is divided, bit by bit. -/
def BitRel (U : List Nat) (m k x : Nat) (W : World) (tq tr : Nat) (gk : Nat) (tv : Value) (w : World) : Prop :=
  ∃ (Q : List Nat) (q r : Nat), tv = .int .u64 ((2 ^ gk / 2 : Nat) : Int) ∧ gk ≤ 64 ∧ RB U Q m k x gk q r ∧
    w.heap[tq]? = some (.cells (wcells Q) 60) ∧ w.heap[tr]? = some (.cells (wcells (parts r 4)) 26) ∧ Mod [tq, tr] W w
theorem half_64 : (2 ^ 64 / 2 : Nat) = 9223372036854775808 := by decide
theorem half_succ (s : Nat) : 2 ^ (s + 1) / 2 = 2 ^ s := by rw [Nat.pow_succ, Nat.mul_div_cancel _ (by decide)]
/-- The rest doubled, and a bit more: what the program has of it. -/
theorem bit_num {r m b : Nat} (hr : r < m) (hm : m < NN) (hb : b ≤ 1) : (r + r) % NN % 2 = 0 ∧ (r + r) % NN + b < NN ∧
    (NN ≤ r + r → m ≤ 2 * r + b ∧ ((r + r) % NN + b + NN - m) % NN = 2 * r + b - m) ∧
    (¬ NN ≤ r + r → (r + r) % NN + b = 2 * r + b ∧ (m ≤ 2 * r + b → ((r + r) % NN + b + NN - m) % NN = 2 * r + b - m)) := by
  have he := NN_even
  generalize NN = N at *
  by_cases h : N ≤ r + r
  · have e : (r + r) % N = r + r - N := by rw [Nat.mod_eq_sub_mod h, Nat.mod_eq_of_lt (by omega)]
    rw [e]
    refine ⟨by omega, by omega, fun _ => ⟨by omega, ?_⟩, fun h2 => absurd h h2⟩
    rw [Nat.mod_eq_of_lt (by omega)]
    omega
  · have e : (r + r) % N = r + r := Nat.mod_eq_of_lt (by omega)
    rw [e]
    refine ⟨by omega, by omega, fun h2 => absurd h2 h, fun _ => ⟨by omega, fun h3 => ?_⟩⟩
    rw [show r + r + b + N - m = (2 * r + b - m) + N by omega, Nat.add_mod_right, Nat.mod_eq_of_lt (by omega)]

/-- What the last loads read. -/
def EndS (tq tr : Nat) (Q R : List Nat) (w : World) : Prop := w.heap[tq]? = some (.cells (wcells Q) 60) ∧ w.heap[tr]? = some (.cells (wcells R) 26)

set_option maxRecDepth 100000 in
set_option maxHeartbeats 4000000 in
theorem rdiv {a m : Nat} (ha : a < WW) (hm : m < NN) (h0 : m ≠ 0) (w : World) :
    Calls Tryd.prog 43 #[wdv a, nv m] w fun e w' => e = .returned (.tuple #[wdv (a / m), nv (a % m), .int .i64 0]) ∧ Mod [] w w' := by
  have qz := fun W => equalIn_nv hm NN_pos W
  rw [nv_small BB_pos, show ((0 : Nat) : Int) = 0 from rfl] at qz
  simp only [decide_eq_false h0] at qz
  obtain ⟨m0, m1, m2, m3, hml, pm⟩ := nv_words m
  obtain ⟨u0, u1, u2, u3, u4, u5, u6, u7, hul⟩ : ∃ b0 b1 b2 b3 b4 b5 b6 b7, parts a 8 = [b0, b1, b2, b3, b4, b5, b6, b7] := ⟨_, _, _, _, _, _, _, _, rfl⟩
  have CC : Hid (∀ (x : Nat) (hx : x < BB) (W : World), Calls Tryd.prog 54 #[.agg #[.int .u64 (x : Int), .int .u64 0, .int .u64 0, .int .u64 0], nv m] W fun e w' => e = .returned (.int .i64 (if x < m then -1 else if m < x then 1 else 0)) ∧ Mod [] W w') := fun x hx W => by
    have h := rcmp (a := x) (b := m) (Nat.lt_trans hx BB_NN) hm W
    rwa [nv_small hx] at h
  have CM : Hid (∀ (x : Nat) (hx : x < NN) (W : World), _) := fun x hx W => rcmp (a := x) (b := m) hx hm W
  have CS : Hid (∀ (x : Nat) (hx : x < NN) (W : World), _) := fun x hx W => rsub (a := x) (b := m) hx hm W
  have HU : Hid (Small [u0, u1, u2, u3, u4, u5, u6, u7] ∧ val [u0, u1, u2, u3, u4, u5, u6, u7] = a) := by rw [← hul]; exact ⟨parts_small _ _, parts_wide ha⟩
  have HN := hid (And.intro hm (And.intro h0 pm))
  unfold wdv at *
  rw [hml] at CC CM CS qz
  rw [hml]
  rw [hul]
  rw [wv_lit] at *
  obtain ⟨RQ, hRQ⟩ : ∃ v, wv (parts (a / m) 8) = v := ⟨_, rfl⟩
  obtain ⟨RR, hRR⟩ : ∃ v, nv (a % m) = v := ⟨_, rfl⟩
  rw [hRQ, hRR]
  have HRES := hid (And.intro hRQ hRR)
  clear hRQ hRR hml hul pm ha hm h0
  unfold lit4 wv at *
  go_enter Tryd.func43, Tryd.ntmps43
  go_upto_block 0 with (simp only [qz])
  refine wp_abs (fun W => W.heap[w.heap.size]? = some (.cells (wcells [u0, u1, u2, u3, u4, u5, u6, u7]) 60) ∧ W.heap[w.heap.size + 1]? = some (.cells (wcells [m0, m1, m2, m3]) 26) ∧ W.heap[w.heap.size + 1 + 1]? = some (.cells (wcells (List.replicate 8 0)) 60) ∧ W.heap[w.heap.size + 1 + 1 + 1]? = some (.cells (wcells [0, 0, 0, 0]) 26) ∧
    W.heap[w.heap.size + 1 + 1 + 1 + 1]? = some (.cells (wcells (List.replicate 8 0)) 60) ∧ W.heap[w.heap.size + 1 + 1 + 1 + 1 + 1]? = some (.cells (wcells [0, 0, 0, 0]) 26) ∧ Mod [] w W) (six_new w _ _ _ _ _ _) ?_
  rintro W ⟨gw, gm, g4, g5, gq, gr, hm⟩
  generalize htw : w.heap.size = tw at *
  generalize htm : tw + 1 = tm at *
  generalize ht4 : tm + 1 = t4 at *
  generalize ht5 : t4 + 1 = t5 at *
  generalize htq : t5 + 1 = tq at *
  generalize htr : tq + 1 = tr at *
  have HM : Hid (Mod [] w W ∧ w.heap.size ≤ tw ∧ tw < tm ∧ tm < t4 ∧ t4 < t5 ∧ t5 < tq ∧ tq < tr) := ⟨hm, by omega, by omega, by omega, by omega, by omega, by omega⟩
  have HG := hid (And.intro gw (And.intro gm (And.intro g4 (And.intro g5 (And.intro gq gr)))))
  clear hm gw gm g4 g5 gq gr htw htm ht4 ht5 htq htr
  have lu : [u0, u1, u2, u3, u4, u5, u6, u7].length = 8 := rfl
  generalize [u0, u1, u2, u3, u4, u5, u6, u7] = U at *
  go_wp2_with fail
  go_loopg [9, 10] 8 (fun gk b k W' => RDivRel U m W tq tr gk b k W')
  case atStart =>
    refine ⟨List.replicate 8 0, 0, false, rfl, Nat.le_refl _, rfl, RD.start lu (by have := HN.out.2.1; omega), fun _ => ⟨by rw [List.drop_eq_nil_of_le (by omega)]; rfl, rfl⟩, HG.out.2.2.2.2.1, ?_, Mod.refl _ _⟩
    rw [show parts 0 4 = [0, 0, 0, 0] by simp [parts]]
    exact HG.out.2.2.2.2.2
  case round =>
    obtain ⟨Q, r, bg, rfl, hgk, rfl, hrd, hbg, gq, gr, hm2⟩ := hrel
    by_cases hg0 : gk = 0
    · subst hg0
      obtain ⟨vq, vr⟩ := hrd.fin
      rw [HU.out.2] at vq vr
      have hRQ := HRES.out.1
      have hRR := HRES.out.2
      have hQ8 := hrd.len
      rw [← parts_of hrd.small hQ8 vq] at hRQ
      rw [← vr] at hRR
      obtain ⟨q0, q1, q2, q3, q4, q5, q6, q7, rfl⟩ : ∃ b0 b1 b2 b3 b4 b5 b6 b7, Q = [b0, b1, b2, b3, b4, b5, b6, b7] := by
        match Q, hQ8 with
        | [b0, b1, b2, b3, b4, b5, b6, b7], _ => exact ⟨_, _, _, _, _, _, _, _, rfl⟩
      obtain ⟨r0, r1, r2, r3, hr, pr⟩ := nv_words r
      rw [wv_lit] at hr
      unfold lit4 at hr
      rw [hr] at hRR
      rw [pr] at gr
      have g4 : wr.heap[t4]? = some (.cells (wcells [0, 0, 0, 0, 0, 0, 0, 0]) 60) := hm2.get HG.out.2.2.1 (by have := HM.out; simp only [List.mem_cons, List.not_mem_nil, or_false]; omega)
      have g5 := hm2.get HG.out.2.2.2.1 (by have := HM.out; simp only [List.mem_cons, List.not_mem_nil, or_false]; omega)
      have HMM := hid (HM.out.1.trans' hm2 (fun b hb => .inr (by have := HM.out; simp only [List.mem_cons, List.not_mem_nil, or_false] at hb; omega)))
      have HS := hid (And.intro gq (And.intro gr (And.intro g4 g5)))
      subst hRR
      have hRQ2 : RQ = .agg #[.int .u64 (q0 : Int), .int .u64 (q1 : Int), .int .u64 (q2 : Int), .int .u64 (q3 : Int), .int .u64 (q4 : Int), .int .u64 (q5 : Int), .int .u64 (q6 : Int), .int .u64 (q7 : Int)] := hRQ.symm
      subst hRQ2
      clear hrd hbg gq gr hm2 g4 g5 vq vr hQ8 hr pr HRES hRQ hgk qz
      rw [show ((0 : Nat) : Int) - 1 = -1 by omega]
      go_upto_region 23 with fail
      have hS : EndS tq tr [q0, q1, q2, q3, q4, q5, q6, q7] [r0, r1, r2, r3] wr.drew := ⟨HS.out.1, HS.out.2.1⟩
      have g4 : wr.drew.heap[t4]? = some (.cells (wcells [0, 0, 0, 0, 0, 0, 0, 0]) 60) := HS.out.2.2.1
      have g5 : wr.drew.heap[t5]? = some (.cells (wcells [0, 0, 0, 0]) 26) := HS.out.2.2.2
      have HM2 := hid HMM.out.drew
      clear HS HMM
      refine wp_region_N (EndS tq tr [q0, q1, q2, q3, q4, q5, q6, q7] [r0, r1, r2, r3]) (fun i => true) (by kernel_rfl) ?_
      generalize wr.drew = wd at *
      refine regS 0 84 (v := ?_) hS rfl rfl (by kernel_rfl) (by kernel_rfl) (by kernel_rfl) (by kernel_rfl) (fun _ _ _ h => h) (by rfl) (fun w hSw => ?_) ?_; rotate_left; (have qc0 := cell_at hSw.1 0; have qc1 := cell_at hSw.1 1; have qc2 := cell_at hSw.1 2; have qc3 := cell_at hSw.1 3; have qc4 := cell_at hSw.1 4; have qc5 := cell_at hSw.1 5; have qc6 := cell_at hSw.1 6; have qc7 := cell_at hSw.1 7; simp only [wcells_get] at qc0 qc1 qc2 qc3 qc4 qc5 qc6 qc7; go_simp; first | done | with_reducible rfl); (try simp only [Act.put, List.setIfInBounds_toArray, List.set_cons_zero, List.set_cons_succ])
      refine regS 1 85 (v := ?_) hS rfl rfl (by kernel_rfl) (by kernel_rfl) (by kernel_rfl) (by kernel_rfl) (fun _ _ _ h => h) (by rfl) (fun w hSw => ?_) ?_; rotate_left; (have qc0 := cell_at hSw.2 0; have qc1 := cell_at hSw.2 1; have qc2 := cell_at hSw.2 2; have qc3 := cell_at hSw.2 3; simp only [wcells_get] at qc0 qc1 qc2 qc3; go_simp; first | done | with_reducible rfl); (try simp only [Act.put, List.setIfInBounds_toArray, List.set_cons_zero, List.set_cons_succ])
      clear hS
      have k5 := hid (set8_keep (b := t4) g5 (by have := HM.out; omega) q0 q1 q2 q3 q4 q5 q6 q7)
      have k4 := hid (set8_at g4 q0 q1 q2 q3 q4 q5 q6 q7)
      have km := hid (set8_mod (b := t4) (by have := HM.out; omega) HM2.out q0 q1 q2 q3 q4 q5 q6 q7)
      have nc0 := cell_at g4 0; have nc1 := cell_at g4 1; have nc2 := cell_at g4 2; have nc3 := cell_at g4 3; have nc4 := cell_at g4 4; have nc5 := cell_at g4 5; have nc6 := cell_at g4 6; have nc7 := cell_at g4 7; simp only [wcells_get] at nc0 nc1 nc2 nc3 nc4 nc5 nc6 nc7
      have nf0 := free_at g4 0; have nf1 := free_at g4 1; have nf2 := free_at g4 2; have nf3 := free_at g4 3; have nf4 := free_at g4 4; have nf5 := free_at g4 5; have nf6 := free_at g4 6; have nf7 := free_at g4 7
      clear g4 g5 HM2
      refine regOnly 2 (by kernel_rfl) rfl (by rfl) (fun K hK => ?_)
      go_wp2_with fail
      refine hK.out _ _ (fun _ h => ⟨set8_keep h.1 (by have := HM.out; omega) q0 q1 q2 q3 q4 q5 q6 q7, set8_keep h.2 (by have := HM.out; omega) q0 q1 q2 q3 q4 q5 q6 q7⟩) ?_
      clear hK
      (try simp only [Act.put, List.setIfInBounds_toArray, List.set_cons_zero, List.set_cons_succ])
      clear nc0 nc1 nc2 nc3 nc4 nc5 nc6 nc7
      clear nf0 nf1 nf2 nf3 nf4 nf5 nf6 nf7
      refine regAbs (fun W9 => W9.heap[t4]? = some (.cells (wcells [q0, q1, q2, q3, q4, q5, q6, q7]) 60) ∧ W9.heap[t5]? = some (.cells (wcells [0, 0, 0, 0]) 26) ∧ Mod [] w W9) ⟨k4.out, k5.out, km.out⟩ ?_
      clear k4 k5 km
      rintro W9 ⟨g4, g5, hm9⟩
      have k4 := hid (set4_keep (b := t5) g4 (by have := HM.out; omega) r0 r1 r2 r3)
      have k5 := hid (set4_at g5 r0 r1 r2 r3)
      have km := hid (set4_mod (b := t5) (by have := HM.out; omega) hm9 r0 r1 r2 r3)
      have nc0 := cell_at g5 0; have nc1 := cell_at g5 1; have nc2 := cell_at g5 2; have nc3 := cell_at g5 3; simp only [wcells_get] at nc0 nc1 nc2 nc3
      have nf0 := free_at g5 0; have nf1 := free_at g5 1; have nf2 := free_at g5 2; have nf3 := free_at g5 3
      clear g4 g5 hm9
      refine regOnly 3 (by kernel_rfl) rfl (by rfl) (fun K hK => ?_)
      go_wp2_with fail
      refine hK.out _ _ (fun _ h => ⟨set4_keep h.1 (by have := HM.out; omega) r0 r1 r2 r3, set4_keep h.2 (by have := HM.out; omega) r0 r1 r2 r3⟩) ?_
      clear hK
      (try simp only [Act.put, List.setIfInBounds_toArray, List.set_cons_zero, List.set_cons_succ])
      clear nc0 nc1 nc2 nc3
      clear nf0 nf1 nf2 nf3
      refine regA 4 6 (v := ?_) rfl rfl (by kernel_rfl) (by kernel_rfl) (by kernel_rfl) (fun _ _ _ h => h) (by rfl) (fun w => ?_) ?_; rotate_left; (go_simp; first | done | with_reducible rfl); (try simp only [Act.put, List.setIfInBounds_toArray, List.set_cons_zero, List.set_cons_succ])
      refine regAbs (fun W9 => W9.heap[t4]? = some (.cells (wcells [q0, q1, q2, q3, q4, q5, q6, q7]) 60) ∧ W9.heap[t5]? = some (.cells (wcells [r0, r1, r2, r3]) 26) ∧ Mod [] w W9) ⟨k4.out, k5.out, km.out⟩ ?_
      clear k4 k5 km
      rintro W10 ⟨g4, g5, hm9⟩
      refine regDone (by kernel_rfl) ?_ _
      have dc0 := cell_at g4 0; have dc1 := cell_at g4 1; have dc2 := cell_at g4 2; have dc3 := cell_at g4 3; have dc4 := cell_at g4 4; have dc5 := cell_at g4 5; have dc6 := cell_at g4 6; have dc7 := cell_at g4 7; simp only [wcells_get] at dc0 dc1 dc2 dc3 dc4 dc5 dc6 dc7
      have ec0 := cell_at g5 0; have ec1 := cell_at g5 1; have ec2 := cell_at g5 2; have ec3 := cell_at g5 3; simp only [wcells_get] at ec0 ec1 ec2 ec3
      have HF := hid hm9
      clear g4 g5 hm9
      go_wp2_with fail
      exact bodyPost_ret (v := .tuple #[.agg #[.int .u64 (q0 : Int), .int .u64 (q1 : Int), .int .u64 (q2 : Int), .int .u64 (q3 : Int), .int .u64 (q4 : Int), .int .u64 (q5 : Int), .int .u64 (q6 : Int), .int .u64 (q7 : Int)], .agg #[.int .u64 (r0 : Int), .int .u64 (r1 : Int), .int .u64 (r2 : Int), .int .u64 (r3 : Int)], .int .i64 0])
        (by simp [results, Tryd.results43, go_sem, dc0, dc1, dc2, dc3, dc4, dc5, dc6, dc7, ec0, ec1, ec2, ec3]) rfl ⟨rfl, HF.out⟩
    · obtain ⟨k, rfl⟩ : ∃ k, gk = k + 1 := ⟨gk - 1, by omega⟩
      rw [show ((k + 1 : Nat) : Int) - 1 = (k : Int) by omega]
      obtain ⟨x, hx⟩ : ∃ x, U[k]? = some x := ⟨_, List.getElem?_eq_getElem (by omega)⟩
      have hxB := HU.out.1.get hx
      have k0 : (0 : Int) ≤ (k : Int) := by omega
      have k1 : (k : Int) < 8 := by omega
      have gw := hm2.get HG.out.1 (by have := HM.out; simp only [List.mem_cons, List.not_mem_nil, or_false]; omega)
      have gm := hm2.get HG.out.2.1 (by have := HM.out; simp only [List.mem_cons, List.not_mem_nil, or_false]; omega)
      have HR := hid (And.intro hrd (And.intro hbg (And.intro gq (And.intro gr (And.intro hm2 (And.intro gw gm))))))
      have HKX := hid hx
      have HXB := hid hxB
      clear hrd hbg gq gr hm2 gw gm hx hxB hgk hg0
      go_upto_region 9 with fail
      go_cut [35] (fun s w' => s = .bool (decide (bg = false ∧ x < m)) ∧ Mod [] wr w')
      case first =>
        have hS : DivS tw tm U m0 m1 m2 m3 wr.drew := ⟨HR.out.2.2.2.2.2.1, HR.out.2.2.2.2.2.2⟩
        have hM : Mod [] wr wr.drew := (Mod.refl _ _).drew
        refine wp_region_N (DivS tw tm U m0 m1 m2 m3) (fun i => true) (by kernel_rfl) ?_
        generalize wr.drew = wd at *
        cases bg with
        | true =>
          refine regA 0 25 (v := ?_) rfl rfl (by kernel_rfl) (by kernel_rfl) (by kernel_rfl) (fun _ _ _ h => h) (by rfl) (fun w => ?_) ?_; rotate_left; (go_simp; first | done | with_reducible rfl); (try simp only [Act.put, List.setIfInBounds_toArray, List.set_cons_zero, List.set_cons_succ])
          refine regA 1 26 (v := ?_) rfl rfl (by kernel_rfl) (by kernel_rfl) (by kernel_rfl) (fun _ _ _ h => h) (by rfl) (fun w => ?_) ?_; rotate_left; (go_simp; first | done | with_reducible rfl); (try simp only [Act.put, List.setIfInBounds_toArray, List.set_cons_zero, List.set_cons_succ])
          refine regA 2 27 (v := ?_) rfl rfl (by kernel_rfl) (by kernel_rfl) (by kernel_rfl) (fun _ _ _ h => h) (by rfl) (fun w => ?_) ?_; rotate_left; (go_simp; first | done | with_reducible rfl); (try simp only [Act.put, List.setIfInBounds_toArray, List.set_cons_zero, List.set_cons_succ])
          refine regU 3 28 rfl rfl (by kernel_rfl) (by kernel_rfl) (by kernel_rfl) (fun _ _ _ h => h) (by rfl) ?_; (try simp only [Act.put, List.setIfInBounds_toArray, List.set_cons_zero, List.set_cons_succ])
          refine regU 4 29 rfl rfl (by kernel_rfl) (by kernel_rfl) (by kernel_rfl) (fun _ _ _ h => h) (by rfl) ?_; (try simp only [Act.put, List.setIfInBounds_toArray, List.set_cons_zero, List.set_cons_succ])
          refine regU 5 30 rfl rfl (by kernel_rfl) (by kernel_rfl) (by kernel_rfl) (fun _ _ _ h => h) (by rfl) ?_; (try simp only [Act.put, List.setIfInBounds_toArray, List.set_cons_zero, List.set_cons_succ])
          refine regU 6 31 rfl rfl (by kernel_rfl) (by kernel_rfl) (by kernel_rfl) (fun _ _ _ h => h) (by rfl) ?_; (try simp only [Act.put, List.setIfInBounds_toArray, List.set_cons_zero, List.set_cons_succ])
          refine regU 7 32 rfl rfl (by kernel_rfl) (by kernel_rfl) (by kernel_rfl) (fun _ _ _ h => h) (by rfl) ?_; (try simp only [Act.put, List.setIfInBounds_toArray, List.set_cons_zero, List.set_cons_succ])
          refine regU 8 33 rfl rfl (by kernel_rfl) (by kernel_rfl) (by kernel_rfl) (fun _ _ _ h => h) (by rfl) ?_; (try simp only [Act.put, List.setIfInBounds_toArray, List.set_cons_zero, List.set_cons_succ])
          refine regU 9 34 rfl rfl (by kernel_rfl) (by kernel_rfl) (by kernel_rfl) (fun _ _ _ h => h) (by rfl) ?_; (try simp only [Act.put, List.setIfInBounds_toArray, List.set_cons_zero, List.set_cons_succ])
          refine regA 10 35 (v := ?_) rfl rfl (by kernel_rfl) (by kernel_rfl) (by kernel_rfl) (fun _ _ _ h => h) (by rfl) (fun w => ?_) ?_; rotate_left; (go_simp; first | done | with_reducible rfl); (try simp only [Act.put, List.setIfInBounds_toArray, List.set_cons_zero, List.set_cons_succ])
          refine regDone (by kernel_rfl) ?_ _
          go_wp2_with fail
          go_meet
          exact ⟨by simp, hM⟩
        | false =>
          obtain ⟨c, hcc, hcd⟩ : ∃ c : Int, (if x < m then (-1 : Int) else if m < x then 1 else 0) = c ∧ (c < 0 ↔ x < m) := ⟨_, rfl, by
            by_cases h : x < m
            · simp [h]
            · rw [if_neg h]
              by_cases h2 : m < x <;> simp [h, h2]⟩
          have ccx := CC.out x HXB.out
          rw [hcc] at ccx
          have CCX := hid ccx
          have HCD := hid hcd
          clear hcc hcd ccx
          refine regA 0 25 (v := ?_) rfl rfl (by kernel_rfl) (by kernel_rfl) (by kernel_rfl) (fun _ _ _ h => h) (by rfl) (fun w => ?_) ?_; rotate_left; (go_simp; first | done | with_reducible rfl); (try simp only [Act.put, List.setIfInBounds_toArray, List.set_cons_zero, List.set_cons_succ])
          refine regA 1 26 (v := ?_) rfl rfl (by kernel_rfl) (by kernel_rfl) (by kernel_rfl) (fun _ _ _ h => h) (by rfl) (fun w => ?_) ?_; rotate_left; (go_simp; first | done | with_reducible rfl); (try simp only [Act.put, List.setIfInBounds_toArray, List.set_cons_zero, List.set_cons_succ])
          refine regA 2 27 (v := ?_) rfl rfl (by kernel_rfl) (by kernel_rfl) (by kernel_rfl) (fun _ _ _ h => h) (by rfl) (fun w => ?_) ?_; rotate_left; (go_simp; first | done | with_reducible rfl); (try simp only [Act.put, List.setIfInBounds_toArray, List.set_cons_zero, List.set_cons_succ])
          refine regA 3 28 (v := ?_) rfl rfl (by kernel_rfl) (by kernel_rfl) (by kernel_rfl) (fun _ _ _ h => h) (by rfl) (fun w => ?_) ?_; rotate_left; (go_simp; first | done | with_reducible rfl); (try simp only [Act.put, List.setIfInBounds_toArray, List.set_cons_zero, List.set_cons_succ])
          refine regA 4 29 (v := .pointer (some ⟨tw, k, none⟩)) rfl rfl (by kernel_rfl) (by kernel_rfl) (by kernel_rfl) (fun _ _ _ h => h) (by rfl) (fun w => ?_) ?_
          · go_simp
          (try simp only [Act.put, List.setIfInBounds_toArray, List.set_cons_zero, List.set_cons_succ])
          refine regS 5 30 (v := ?_) hS rfl rfl (by kernel_rfl) (by kernel_rfl) (by kernel_rfl) (by kernel_rfl) (fun _ _ _ h => h) (by rfl) (fun w hSw => ?_) ?_; rotate_left; (have qc0 := cell_at hSw.1 k; rw [wcells_get, HKX.out] at qc0; go_simp; first | done | with_reducible rfl); (try simp only [Act.put, List.setIfInBounds_toArray, List.set_cons_zero, List.set_cons_succ])
          refine regA 6 31 (v := ?_) rfl rfl (by kernel_rfl) (by kernel_rfl) (by kernel_rfl) (fun _ _ _ h => h) (by rfl) (fun w => ?_) ?_; rotate_left; (go_simp; first | done | with_reducible rfl); (try simp only [Act.put, List.setIfInBounds_toArray, List.set_cons_zero, List.set_cons_succ])
          refine regS 7 32 (v := ?_) hS rfl rfl (by kernel_rfl) (by kernel_rfl) (by kernel_rfl) (by kernel_rfl) (fun _ _ _ h => h) (by rfl) (fun w hSw => ?_) ?_; rotate_left; (have qc0 := cell_at hSw.2 0; have qc1 := cell_at hSw.2 1; have qc2 := cell_at hSw.2 2; have qc3 := cell_at hSw.2 3; simp only [wcells_get] at qc0 qc1 qc2 qc3; go_simp; first | done | with_reducible rfl); (try simp only [Act.put, List.setIfInBounds_toArray, List.set_cons_zero, List.set_cons_succ])
          clear hS
          refine regOnlyG 8 (by kernel_rfl) rfl (by rfl) (fun K hK => ?_)
          go_wp2_with (go_at_call 54; refine (CCX.out _).mono ?_; rintro e w5 ⟨rfl, hm⟩)
          refine hK.out _ _ (fun _ h => ⟨hm.get h.1 (by simp), hm.get h.2 (by simp)⟩) ?_
          clear hK
          (try simp only [Act.put, List.setIfInBounds_toArray, List.set_cons_zero, List.set_cons_succ])
          have hM := hM.trans hm
          clear hm
          refine regA 9 34 (v := ?_) rfl rfl (by kernel_rfl) (by kernel_rfl) (by kernel_rfl) (fun _ _ _ h => h) (by rfl) (fun w => ?_) ?_; rotate_left; (go_simp; first | done | with_reducible rfl); (try simp only [Act.put, List.setIfInBounds_toArray, List.set_cons_zero, List.set_cons_succ])
          refine regA 10 35 (v := ?_) rfl rfl (by kernel_rfl) (by kernel_rfl) (by kernel_rfl) (fun _ _ _ h => h) (by rfl) (fun w => ?_) ?_; rotate_left; (go_simp; first | done | with_reducible rfl); (try simp only [Act.put, List.setIfInBounds_toArray, List.set_cons_zero, List.set_cons_succ])
          refine regDone (by kernel_rfl) ?_ _
          go_wp2_with fail
          go_meet
          exact ⟨by simp [HCD.out], hM⟩
      case rest =>
        obtain ⟨rfl, hmc⟩ := hcut
        obtain ⟨hrd, hbg, gq, gr, hm2, gw, gm⟩ := HR.out
        obtain ⟨r0, r1, r2, r3, hr, pr⟩ := nv_words r
        have gq := hmc.get gq (by simp)
        have gr := hmc.get gr (by simp)
        have gw := hmc.get gw (by simp)
        have gm := hmc.get gm (by simp)
        have hm2 := hm2.trans (hmc.mono (by simp))
        rw [pr] at gr
        clear hmc HR
        by_cases hc : bg = false ∧ x < m
        · have d35 : decide (bg = false ∧ x < m) = true := decide_eq_true hc
          obtain ⟨hz, -⟩ := hbg hc.1
          have hsk := hrd.skip hz HKX.out hc.2
          have cw := cell_at gw k
          rw [wcells_get, HKX.out] at cw
          simp only [Option.map_some] at cw
          have rc0 := cell_at gr 0; have rc1 := cell_at gr 1; have rc2 := cell_at gr 2; have rc3 := cell_at gr 3; simp only [wcells_get] at rc0 rc1 rc2 rc3
          have rf0 := free_at gr 0; have rf1 := free_at gr 1; have rf2 := free_at gr 2; have rf3 := free_at gr 3
          have HK := hid hsk
          have HW := hid (And.intro gq (And.intro gr (And.intro gw hm2)))
          clear hrd hbg gq gr hm2 gw gm hz hsk hc pr hr
          rw [d35]
          go_upto_region 11 with fail
          refine wp_abs (fun W' => W'.heap[tq]? = some (.cells (wcells Q) 60) ∧ W'.heap[tr]? = some (.cells (wcells [x, 0, 0, 0]) 26) ∧ W'.heap[tw]? = some (.cells (wcells U) 60) ∧ Mod [tq, tr] W W')
            ⟨set4_keep HW.out.1 (by have := HM.out; omega) x 0 0 0, set4_at HW.out.2.1 x 0 0 0, set4_keep HW.out.2.2.1 (by have := HM.out; omega) x 0 0 0, set4_modS' (by simp) HW.out.2.2.2 x 0 0 0⟩ ?_
          clear rc0 rc1 rc2 rc3
          clear rf0 rf1 rf2 rf3
          clear cw HW
          rintro W5 ⟨gq, gr, gw, hm5⟩
          have cw := cell_at gw k
          rw [wcells_get, HKX.out] at cw
          simp only [Option.map_some] at cw
          have HW := hid (And.intro gq (And.intro gr hm5))
          clear gq gr gw hm5
          go_wp2_with fail
          go_roundg k
          case measure => omega
          case rel =>
            refine ⟨Q, x, _, rfl, by omega, rfl, HK.out.1, fun h => ?_, HW.out.1, ?_, HW.out.2.2⟩
            · have : x = 0 := by simpa using h
              exact ⟨by rw [HK.out.2, this], this⟩
            · rw [parts_one HXB.out]
              exact HW.out.2.1
        · have d35 : decide (bg = false ∧ x < m) = false := decide_eq_false hc
          have HI := hid (And.intro (RB.start hrd HXB.out) (And.intro gq (And.intro gr (And.intro pr hm2))))
          clear hrd hbg gq gr hm2 gw gm hc pr hr
          rw [d35]
          go_wp2_with fail
          go_loopg [11] 64 (fun gk tv W' => BitRel U m k x W tq tr gk tv W')
          case atStart =>
            obtain ⟨h1, h2, h3, h4, h5⟩ := HI.out
            exact ⟨Q, 0, r, by rw [half_64]; rfl, Nat.le_refl _, h1, h2, by rw [h4]; exact h3, h5⟩
          case round =>
            obtain ⟨Q, q, r, rfl, hgk, hrb, gq, gr, hm⟩ := hrel
            by_cases hg0 : gk = 0
            · subst hg0
              have HE := hid (And.intro (hrb.done HKX.out) (And.intro gq (And.intro gr hm)))
              clear hrb gq gr hm hgk
              rw [show ((2 ^ 0 / 2 : Nat) : Int) = 0 from rfl]
              go_wp2_with fail
              go_roundg k
              case measure => omega
              case rel =>
                obtain ⟨h1, h2, h3, h4⟩ := HE.out
                exact ⟨Q, r, true, rfl, by omega, rfl, h1, fun h => (by cases h), h2, h3, h4⟩
            · obtain ⟨s, rfl⟩ : ∃ s, gk = s + 1 := ⟨gk - 1, by omega⟩
              have hs64 : s < 64 := by omega
              rw [half_succ]
              obtain ⟨hfit, hnot⟩ := hrb.step hs64
              have hqlt := hrb.qlt hs64
              have hqk := hrb.at_
              have hand := bits_and_u64_nat x (2 ^ s) (by have := HXB.out; unfold BB at this; omega) (by have h3 : 2 ^ s < BB := Nat.lt_of_le_of_lt (Nat.le_add_left _ _) hqlt; rwa [show BB = 18446744073709551616 from rfl] at h3)
              rw [and_pow] at hand
              have hP0 : 0 < 2 ^ s := Nat.pos_of_ne_zero (by simp)
              have hrm := hrb.lt
              obtain ⟨b, hb⟩ : ∃ b, x / 2 ^ s % 2 = b := ⟨_, rfl⟩
              have hb1 : b ≤ 1 := by omega
              rw [hb] at hfit hnot hand
              obtain ⟨P, hP⟩ : ∃ P, 2 ^ s = P := ⟨_, rfl⟩
              rw [hP] at hfit hand hqlt hP0
              rw [hP]
              have hmN := HN.out.1
              obtain ⟨e2, lt2, hov, hno⟩ := bit_num hrm hmN hb1
              have hrN : r < NN := Nat.lt_trans hrm hmN
              have ca := fun W => radd hrN hrN W
              obtain ⟨r0, r1, r2, r3, hr, pr⟩ := nv_words r
              obtain ⟨p0, p1, p2, p3, hp, pp⟩ := nv_words ((r + r) % NN)
              rw [wv_lit] at hr hp
              unfold lit4 at hr hp
              rw [hr, hp] at ca
              rw [pr] at gr
              have gw := hm.get HG.out.1 (by have := HM.out; simp only [List.mem_cons, List.not_mem_nil, or_false]; omega)
              have gm := hm.get HG.out.2.1 (by have := HM.out; simp only [List.mem_cons, List.not_mem_nil, or_false]; omega)
              have cw := cell_at gw k
              rw [wcells_get, HKX.out] at cw
              simp only [Option.map_some] at cw
              have p1' : (0 : Int) < (P : Int) := by omega
              have CA := hid ca
              have HAND := hid hand
              have HT := hid (And.intro hfit (And.intro hnot (And.intro hov (And.intro hno (And.intro e2 (And.intro lt2 (And.intro pp (And.intro hqlt (And.intro hqk (And.intro hb1 (And.intro hP hgk)))))))))))
              have HW := hid (And.intro gq (And.intro gr (And.intro gw (And.intro gm hm))))
              have rc0 := cell_at gr 0; have rc1 := cell_at gr 1; have rc2 := cell_at gr 2; have rc3 := cell_at gr 3; simp only [wcells_get] at rc0 rc1 rc2 rc3
              clear ca hand hfit hnot hov hno e2 lt2 pp hqlt hqk hb1 hb hrb gq gr gw gm hm hr hp pr hrm hmN hrN hg0 hgk hP hP0 qz
              go_upto_region 16 with (go_at_call 42; refine (CA.out _).mono ?_; rintro e w5 ⟨rfl, hm5⟩; have H5 := hid hm5; clear hm5)
              refine wp_abs (fun W' => W'.heap[tq]? = some (.cells (wcells Q) 60) ∧ W'.heap[tr]? = some (.cells (wcells [r0, r1, r2, r3]) 26) ∧ W'.heap[tw]? = some (.cells (wcells U) 60) ∧ W'.heap[tm]? = some (.cells (wcells [m0, m1, m2, m3]) 26) ∧ W'.heap[w5.heap.size]? = some (.cells (wcells [p0, p1, p2, p3]) 26) ∧ Mod [tq, tr] W W')
                ⟨get_alloc (H5.out.get HW.out.1 (by simp)) _, get_alloc (H5.out.get HW.out.2.1 (by simp)) _, get_alloc (H5.out.get HW.out.2.2.1 (by simp)) _, get_alloc (H5.out.get HW.out.2.2.2.1 (by simp)) _, get_new _ _, (HW.out.2.2.2.2.trans (H5.out.mono (by simp))).alloc _⟩ ?_
              have hlt : tr < w5.heap.size ∧ W.heap.size ≤ w5.heap.size := ⟨Nat.lt_of_lt_of_le (lt_of_block HW.out.2.1) H5.out.size, Nat.le_trans HW.out.2.2.2.2.size H5.out.size⟩
              clear rc0 rc1 rc2 rc3
              clear cw HW H5
              generalize w5.heap.size = td at *
              have HLT := hid hlt
              clear hlt
              rintro W6 ⟨gq, gr, gw, gm, gd, hm6⟩
              have cw := cell_at gw k
              rw [wcells_get, HKX.out] at cw
              simp only [Option.map_some] at cw
              have HW := hid (And.intro gq (And.intro gr (And.intro gm (And.intro gd hm6))))
              clear gq gr gw gm gd hm6
              go_upto_if 57 with fail
              go_cut [] (fun w' => w'.heap[td]? = some (.cells (wcells (parts ((r + r) % NN + b) 4)) 26) ∧ Mod [td] W6 w')
              case first =>
                have hand := HAND.out
                have hb1 := HT.out.2.2.2.2.2.2.2.2.2.1
                have hb2 : b = 0 ∨ b = 1 := by omega
                rcases hb2 with rfl | rfl
                · rw [if_neg (by decide)] at hand
                  go_wp2_with fail
                  go_meet
                  exact ⟨by rw [Nat.add_zero, HT.out.2.2.2.2.2.2.1]; exact HW.out.2.2.2.1, Mod.refl _ _⟩
                · rw [if_pos rfl] at hand
                  have hP1 : ¬ (P : Int) = 0 := by omega
                  obtain ⟨l0, l1⟩ := parts_succ HT.out.2.2.2.2.1 HT.out.2.2.2.2.2.2.1
                  have hw1 : IntKind.u64.wrap ((p0 : Int) + 1) = ((p0 + 1 : Nat) : Int) := by rw [show (p0 : Int) + 1 = ((p0 + 1 : Nat) : Int) from rfl]; exact wrap_small l0
                  have cd := cell_at HW.out.2.2.2.1 0
                  have fd := free_at HW.out.2.2.2.1 0
                  simp only [wcells_get] at cd
                  have HL := hid l1
                  clear hb1 l0 l1
                  go_wp2_with fail
                  go_meet
                  refine ⟨?_, (Mod.refl _ _).setCell (.inl (by simp)) _⟩
                  have q := get_setCell_self HW.out.2.2.2.1 0 (.int .u64 ((p0 + 1 : Nat) : Int))
                  rw [wcells_set] at q
                  rw [HL.out]
                  exact q
              case rest =>
                obtain ⟨gd, hmd⟩ := hcut
                obtain ⟨gq, gr, gm, -, hm6⟩ := HW.out
                have gq := hmd.get gq (by have := HLT.out; have := HM.out; rw [List.mem_singleton]; omega)
                have gr := hmd.get gr (by have := HLT.out; rw [List.mem_singleton]; omega)
                have gm := hmd.get gm (by have := HLT.out; have := HM.out; rw [List.mem_singleton]; omega)
                have hm7 := hm6.trans' hmd (fun b hb => .inr (by rw [List.mem_singleton.1 hb]; exact HLT.out.2))
                obtain ⟨hfit, hnot, hov, hno, -, lt2, -, hqlt, hqk, hb1, hP, hgk⟩ := HT.out
                generalize (r + r) % NN + b = y at *
                obtain ⟨y0, y1, y2, y3, hy, py⟩ := nv_words y
                rw [wv_lit] at hy
                unfold lit4 at hy
                rw [py] at gd
                have cy := CM.out y lt2
                have cs := CS.out y lt2
                obtain ⟨z, hz⟩ : ∃ z, (y + NN - m) % NN = z := ⟨_, rfl⟩
                obtain ⟨z0, z1, z2, z3, hzz, pz⟩ := nv_words z
                rw [wv_lit] at hzz
                unfold lit4 at hzz
                rw [hz] at cs hov hno
                rw [hy] at cy cs
                rw [hzz] at cs
                obtain ⟨c, hcc, hcd⟩ : ∃ c : Int, (if y < m then (-1 : Int) else if m < y then 1 else 0) = c ∧ (0 ≤ c ↔ m ≤ y) := ⟨_, rfl, by
                  by_cases h : y < m
                  · rw [if_pos h]; simp; omega
                  · rw [if_neg h]
                    by_cases h2 : m < y
                    · rw [if_pos h2]; simp; omega
                    · rw [if_neg h2]; simp; omega⟩
                rw [hcc] at cy
                have CY := hid cy
                have CSY := hid cs
                have HCD := hid hcd
                obtain ⟨ov, hovd⟩ : ∃ ov, decide (NN ≤ r + r) = ov := ⟨_, rfl⟩
                rw [hovd]
                have hyb : ov = false → y = 2 * r + b := fun h => (hno (by rw [h] at hovd; exact of_decide_eq_false hovd)).1
                have hyt : ov = true → m ≤ 2 * r + b := fun h => (hov (by rw [h] at hovd; exact of_decide_eq_true hovd)).1
                have hyz : m ≤ 2 * r + b → z = 2 * r + b - m := fun h => by
                  by_cases h3 : NN ≤ r + r
                  · exact (hov h3).2
                  · exact (hno h3).2 h
                have hwq : IntKind.u64.wrap ((q : Int) + (P : Int)) = ((q + P : Nat) : Int) := by rw [show (q : Int) + (P : Int) = ((q + P : Nat) : Int) from rfl]; exact wrap_small hqlt
                have HY := hid (And.intro hfit (And.intro hnot (And.intro hyb (And.intro hyt (And.intro hyz (And.intro pz (And.intro py (And.intro hqk (And.intro hP hgk)))))))))
                have HWQ := hid hwq
                have HPB := hid (wrap_small (show P / 2 < BB by omega))
                have HW := hid (And.intro gq (And.intro gr (And.intro gm hm7)))
                have dc0 := cell_at gd 0; have dc1 := cell_at gd 1; have dc2 := cell_at gd 2; have dc3 := cell_at gd 3; simp only [wcells_get] at dc0 dc1 dc2 dc3
                have rc0 := cell_at gr 0; have rc1 := cell_at gr 1; have rc2 := cell_at gr 2; have rc3 := cell_at gr 3; simp only [wcells_get] at rc0 rc1 rc2 rc3
                have rf0 := free_at gr 0; have rf1 := free_at gr 1; have rf2 := free_at gr 2; have rf3 := free_at gr 3
                clear gq gr gm gd hmd hm6 hm7 hfit hnot hov hno lt2 hqlt hqk hb1 hP hgk hy py cy cs hz hzz pz hcc hcd hovd hyb hyt hyz hwq HT HAND CA
                go_upto_region 19 with fail
                refine wp_abs (fun W' => W'.heap[tq]? = some (.cells (wcells Q) 60) ∧ W'.heap[tr]? = some (.cells (wcells [y0, y1, y2, y3]) 26) ∧ W'.heap[tm]? = some (.cells (wcells [m0, m1, m2, m3]) 26) ∧ Mod [tq, tr] W W')
                  ⟨set4_keep HW.out.1 (by have := HM.out; omega) y0 y1 y2 y3, set4_at HW.out.2.1 y0 y1 y2 y3, set4_keep HW.out.2.2.1 (by have := HM.out; omega) y0 y1 y2 y3, set4_modS' (by simp) HW.out.2.2.2 y0 y1 y2 y3⟩ ?_
                clear rc0 rc1 rc2 rc3
                clear rf0 rf1 rf2 rf3
                clear dc0 dc1 dc2 dc3
                clear HW
                rintro W7 ⟨gq, gr, gm, hm7⟩
                have HW := hid (And.intro gq (And.intro gr (And.intro gm hm7)))
                have rc0 := cell_at gr 0; have rc1 := cell_at gr 1; have rc2 := cell_at gr 2; have rc3 := cell_at gr 3; simp only [wcells_get] at rc0 rc1 rc2 rc3
                have mc0 := cell_at gm 0; have mc1 := cell_at gm 1; have mc2 := cell_at gm 2; have mc3 := cell_at gm 3; simp only [wcells_get] at mc0 mc1 mc2 mc3
                clear gq gr gm hm7
                go_cut [69] (fun v w' => v = .bool (decide (m ≤ 2 * r + b)) ∧ Mod [] W7 w')
                case first =>
                  cases ov with
                  | true =>
                    go_wp2_with fail
                    go_meet
                    exact ⟨by rw [decide_eq_true (HY.out.2.2.2.1 (by simp))], Mod.refl _ _⟩
                  | false =>
                    go_wp2_with (go_at_call 54; refine (CY.out _).mono ?_; rintro e w8 ⟨rfl, hm8⟩; have H8 := hid hm8; clear hm8)
                    go_meet
                    refine ⟨?_, H8.out⟩
                    have h1 := HY.out.2.2.1 (by simp)
                    have h2 := HCD.out
                    rw [h1] at h2
                    simp [h2]
                case rest =>
                  obtain ⟨rfl, hm8⟩ := hcut
                  obtain ⟨gq, gr, gm, hm7⟩ := HW.out
                  have gq := hm8.get gq (by simp)
                  have gr := hm8.get gr (by simp)
                  have gm := hm8.get gm (by simp)
                  have hm9 := hm7.trans (hm8.mono (by simp))
                  have HH : Hid (((P : Int) / 2) = ((P / 2 : Nat) : Int) ∧ (P : Int).tdiv 2 = ((P / 2 : Nat) : Int)) := ⟨by omega, by rw [Int.tdiv_eq_ediv_of_nonneg (by omega)]; omega⟩
                  by_cases hf : m ≤ 2 * r + b
                  · have hz := HY.out.2.2.2.2.1 hf
                    have hrb := HY.out.1 hf
                    rw [decide_eq_true hf]
                    have HV := hid (And.intro hz hrb)
                    have HW := hid (And.intro gq (And.intro gr hm9))
                    have rc0 := cell_at gr 0; have rc1 := cell_at gr 1; have rc2 := cell_at gr 2; have rc3 := cell_at gr 3; simp only [wcells_get] at rc0 rc1 rc2 rc3
                    have rf0 := free_at gr 0; have rf1 := free_at gr 1; have rf2 := free_at gr 2; have rf3 := free_at gr 3
                    have mc0 := cell_at gm 0; have mc1 := cell_at gm 1; have mc2 := cell_at gm 2; have mc3 := cell_at gm 3; simp only [wcells_get] at mc0 mc1 mc2 mc3
                    clear gq gr gm hm7 hm8 hm9 hf hz hrb
                    go_upto_region 21 with (go_at_call 57; refine (CSY.out _).mono ?_; rintro e w9 ⟨rfl, hm⟩; have H9 := hid hm; have g9 := hm.get HW.out.2.1 (by simp); have rc0 := cell_at g9 0; have rc1 := cell_at g9 1; have rc2 := cell_at g9 2; have rc3 := cell_at g9 3; simp only [wcells_get] at rc0 rc1 rc2 rc3; have rf0 := free_at g9 0; have rf1 := free_at g9 1; have rf2 := free_at g9 2; have rf3 := free_at g9 3; clear hm g9)
                    refine wp_abs (fun W' => W'.heap[tq]? = some (.cells (wcells Q) 60) ∧ W'.heap[tr]? = some (.cells (wcells [z0, z1, z2, z3]) 26) ∧ Mod [tq, tr] W W')
                      ⟨set4_keep (H9.out.get HW.out.1 (by simp)) (by have := HM.out; omega) z0 z1 z2 z3, set4_at (H9.out.get HW.out.2.1 (by simp)) z0 z1 z2 z3, set4_modS' (by simp) (HW.out.2.2.trans (H9.out.mono (by simp))) z0 z1 z2 z3⟩ ?_
                    clear rc0 rc1 rc2 rc3
                    clear rf0 rf1 rf2 rf3
                    clear mc0 mc1 mc2 mc3
                    clear HW H9
                    rintro W8 ⟨gq, gr, hm⟩
                    have cq := cell_at gq k
                    have fq := free_at gq k
                    rw [wcells_get, HY.out.2.2.2.2.2.2.2.1] at cq
                    simp only [Option.map_some] at cq
                    have hwq := HWQ.out
                    have HW := hid (And.intro gq (And.intro gr hm))
                    clear gq gr hm
                    go_wp2_with fail
                    obtain ⟨gq, gr, hm⟩ := HW.out
                    have gs := get_setCell_self gq k (.int .u64 ((q + P : Nat) : Int))
                    rw [wcells_set] at gs
                    go_roundg s
                    case measure => omega
                    case rel =>
                      obtain ⟨hz, hrb⟩ := HV.out
                      obtain ⟨-, -, -, -, -, pz, py, hqk, hP, hgk⟩ := HY.out
                      refine ⟨Q.set k (q + P), q + P, z, ?_, by omega, by rw [hz, ← hP]; rw [← hP] at hrb; exact hrb, gs, ?_, hm.setCell (.inl (by simp)) _⟩
                      · rw [hP]; rw [HH.out.1, HPB.out]
                      · rw [pz]; exact get_setCell gr (by have := HM.out; show tr ≠ tq; omega) _
                  · have hy := HY.out.2.2.1
                    have hrb := HY.out.2.1 hf
                    rw [decide_eq_false hf]
                    have hov : ov = false := by
                      cases ov with
                      | false => rfl
                      | true => exact absurd (HY.out.2.2.2.1 (by simp)) hf
                    have hy2 := hy hov
                    have HV := hid (And.intro hy2 hrb)
                    have HW := hid (And.intro gq (And.intro gr hm9))
                    clear gq gr gm hm7 hm8 hm9 hf hrb hy hov hy2
                    go_wp2_with fail
                    go_roundg s
                    case measure => omega
                    case rel =>
                      obtain ⟨hy2, hrb⟩ := HV.out
                      obtain ⟨-, -, -, -, -, pz, py, hqk, hP, hgk⟩ := HY.out
                      refine ⟨Q, q, y, ?_, by omega, by rw [hy2]; exact hrb, HW.out.1, by rw [py]; exact HW.out.2.1, HW.out.2.2⟩
                      rw [hP]; rw [HH.out.1, HPB.out]
end Go.Proofs.YtdgmnhiffoemmaaDoor
