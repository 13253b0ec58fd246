/-
  poly.Add, where all is right. No statement of a claim stands here; each contract names what it asks.
-/
import Derived.Test.YtdgmnhiffoemmaaDoorZD0
import Derived.Laws.OwnMore
set_option linter.unusedSimpArgs false
namespace Go.Proofs.YtdgmnhiffoemmaaDoor
open Go Go.RowKit Go.ChangeMaps

/-- A row of numbers that may be written. -/
def NatBlk (w : World) (g : Nat) (l : List Nat) : Prop :=
  ∃ (cur : Array Value) (T : TypeId), w.heap[g]? = some (.cells cur T) ∧ ∀ i n, l[i]? = some n → ∀ j y, (parts n 4)[j]? = some y → cur[i * 4 + j]? = some (.int .u64 (y : Int))
theorem NatBlk.row {w : World} {g : Nat} {l : List Nat} (h : NatBlk w g l) : NatRow w g l := by
  obtain ⟨cur, T, hg, hc⟩ := h
  exact ⟨cur, T, _, hg, hc⟩
theorem NatBlk.mod {S : List Nat} {w w' : World} {g : Nat} {l : List Nat} (h : NatBlk w g l) (m : Mod S w w') (hn : g ∉ S) : NatBlk w' g l := by
  obtain ⟨cur, T, hg, hc⟩ := h
  exact ⟨cur, T, m.get hg hn, hc⟩
theorem NatBlk.free {w : World} {g : Nat} {l : List Nat} (h : NatBlk w g l) (o : Nat) : w.frozen? ⟨g, o, none⟩ = false := by
  obtain ⟨cur, T, hg, hc⟩ := h
  exact free_at hg o
theorem NatBlk.set {w : World} {g : Nat} {l : List Nat} (h : NatBlk w g l) {k n s s0 s1 s2 s3 : Nat} (hk : l[k]? = some n) (hs : parts s 4 = [s0, s1, s2, s3]) :
    NatBlk ((((w.setCell ⟨g, k * 4, none⟩ (.int .u64 (s0 : Int))).setCell ⟨g, k * 4 + 1, none⟩ (.int .u64 (s1 : Int))).setCell ⟨g, k * 4 + 2, none⟩ (.int .u64 (s2 : Int))).setCell ⟨g, k * 4 + 3, none⟩ (.int .u64 (s3 : Int))) g (l.set k s) := by
  obtain ⟨cur, T, hg, hc⟩ := h
  have q := get_setCell_self (get_setCell_self (get_setCell_self (get_setCell_self hg (k * 4) (.int .u64 (s0 : Int))) (k * 4 + 1) (.int .u64 (s1 : Int))) (k * 4 + 2) (.int .u64 (s2 : Int))) (k * 4 + 3) (.int .u64 (s3 : Int))
  refine ⟨_, T, q, fun i p hi j u hu => ?_⟩
  have hkl := (List.getElem?_eq_some_iff.1 hk).1
  obtain ⟨u3, hu3⟩ : ∃ u3, (parts n 4)[3]? = some u3 := ⟨_, List.getElem?_eq_getElem (by rw [parts_len]; decide)⟩
  have hsz : k * 4 + 3 < cur.size := (Array.getElem?_eq_some_iff.1 (hc k n hk 3 u3 hu3)).1
  rw [set4_get cur (k * 4) _ _ _ _ hsz]
  have hj : j < 4 := by have := (List.getElem?_eq_some_iff.1 hu).1; rwa [parts_len] at this
  by_cases hik : i = k
  · subst hik
    rw [List.getElem?_set_self hkl] at hi
    cases hi
    rw [hs] at hu
    match j, hj, hu with
    | 0, _, hu => simp at hu; subst hu; rw [if_pos (by omega)]
    | 1, _, hu => simp at hu; subst hu; rw [if_neg (by omega), if_pos (by omega)]
    | 2, _, hu => simp at hu; subst hu; rw [if_neg (by omega), if_neg (by omega), if_pos (by omega)]
    | 3, _, hu => simp at hu; subst hu; rw [if_neg (by omega), if_neg (by omega), if_neg (by omega), if_pos (by omega)]
  · rw [List.getElem?_set_ne (by omega)] at hi
    rw [if_neg (by omega), if_neg (by omega), if_neg (by omega), if_neg (by omega)]
    exact hc i p hi j u hu

theorem make_nats (n : Nat) (hn : n ≤ 256) (w : World) :
    ∃ w', (Instr.makeSlice 22 (.int .i64 (n : Int)) (.int .i64 (n : Int))).run Tryd.prog w = .ok (.slice (some ⟨w.heap.size, 0, none⟩) n n) w' ∧ NatBlk w' w.heap.size (List.replicate n 0) ∧ Mod [] w w' := by
  have hI : (Tryd.prog.info? 26).map (fun i => (i.zero, i.size, i.bytes)) = some (some (.agg #[.int .u64 0, .int .u64 0, .int .u64 0, .int .u64 0]), 4, 32) := by kernel_rfl
  cases hi : Tryd.prog.info? 26 with
  | none => rw [hi] at hI; cases hI
  | some i =>
    rw [hi] at hI
    simp only [Option.map_some, Option.some.injEq, Prod.mk.injEq] at hI
    obtain ⟨w', hr, hown, hgr⟩ := run_makeSlice_full (P := Tryd.prog) w 0 22 26 i _ 4 Tryd.underlying22 hi hI.1 hI.2.1 .i64 .i64 n (by omega) (by rw [hI.2.2]; omega) (by unfold maxLen; omega) (Nat.zero_le _)
    refine ⟨w', hr, ?_, (Mod.refl _ _).grown hgr (fun k hk => by cases hk)⟩
    rcases hown.2 with ⟨h0, _⟩ | ⟨g, cap, cur, h0, -, hg, -, -, hsz, hx⟩
    · cases h0
    · cases h0
      refine ⟨cur, _, hg, fun k x hk j y hy => ?_⟩
      have hkn : k < n := by have := (List.getElem?_eq_some_iff.1 hk).1; simpa using this
      have hj : j < 4 := by have := (List.getElem?_eq_some_iff.1 hy).1; rwa [parts_len] at this
      have hx0 : x = 0 := by rw [List.getElem?_replicate, if_pos hkn] at hk; exact (Option.some.inj hk).symm
      subst hx0
      have hy0 : y = 0 := by
        have hp : parts 0 4 = [0, 0, 0, 0] := by simp [parts]
        rw [hp] at hy
        rw [zeros_get hj] at hy
        exact (Option.some.inj hy).symm
      subst hy0
      have h1 : (cur.toList.take (n * 4))[k * 4 + j]? = (madeCells (Value.cells (.agg #[.int .u64 0, .int .u64 0, .int .u64 0, .int .u64 0])) (n * 4)).toList[k * 4 + j]? := by rw [hx]
      rw [List.getElem?_take, if_pos (by omega)] at h1
      simp only [Array.getElem?_toList] at h1
      rw [h1]
      have hlt : k * 4 + j < n * 4 := by omega
      have e4 : (k * 4 + j) % 4 = j := by omega
      have hz : ∀ j, j < 4 → (#[Value.int .u64 0, .int .u64 0, .int .u64 0, .int .u64 0] : Array Value)[j]! = .int .u64 0 := fun j hj => by
        match j, hj with
        | 0, _ => rfl
        | 1, _ => rfl
        | 2, _ => rfl
        | 3, _ => rfl
      have hh := hz j hj
      rw [← e4] at hh
      simp only [madeCells, Array.getElem?_map, Value.cells]
      rw [Array.getElem?_eq_getElem (by simpa using hlt)]
      simp only [Option.map_some, Array.getElem_range]
      exact congrArg some hh

/-- A row added into another. -/
def addInto (q : Nat) (o l : List Nat) : List Nat := (List.range o.length).map fun i => if i < l.length then (o.getD i 0 + l.getD i 0) % q else o.getD i 0
theorem addInto_len (q : Nat) (o l : List Nat) : (addInto q o l).length = o.length := by simp [addInto]
theorem addInto_in {q : Nat} {o l : List Nat} {i x y : Nat} (hx : o[i]? = some x) (hy : l[i]? = some y) : (addInto q o l)[i]? = some ((x + y) % q) := by
  have h1 := (List.getElem?_eq_some_iff.1 hx).1
  have h2 := (List.getElem?_eq_some_iff.1 hy).1
  rw [addInto, List.getElem?_map, List.getElem?_range h1]
  have e2 : l[i] = y := (List.getElem?_eq_some_iff.1 hy).2
  simp [h2, List.getD_eq_getElem?_getD, hx, e2]
theorem addInto_out {q : Nat} {o l : List Nat} {i : Nat} (h : l.length ≤ i) : (addInto q o l)[i]? = o[i]? := by
  rcases hx : o[i]? with _ | x
  · have := List.getElem?_eq_none_iff.1 hx
    rw [List.getElem?_eq_none (by rw [addInto_len]; exact this)]
  · have h1 := (List.getElem?_eq_some_iff.1 hx).1
    rw [addInto, List.getElem?_map, List.getElem?_range h1]
    have h3 : ¬ i < l.length := by omega
    simp [h3, List.getD_eq_getElem?_getD, hx]
theorem addInto_done {q : Nat} {o l : List Nat} (h : l.length ≤ o.length) : (addInto q o l).take l.length ++ o.drop l.length = addInto q o l := by
  apply List.ext_getElem?
  intro i
  by_cases hi : i < l.length
  · rw [List.getElem?_append_left (by rw [List.length_take, addInto_len]; omega), List.getElem?_take, if_pos hi]
  · rw [List.getElem?_append_right (by rw [List.length_take, addInto_len]; omega), List.length_take, addInto_len, List.getElem?_drop, addInto_out (by omega)]
    congr 1
    omega
theorem addInto_lt {q : Nat} (hq : 0 < q) {o l : List Nat} {B : Nat} (hB : q ≤ B) (ho : ∀ n ∈ o, n < B) : ∀ n ∈ addInto q o l, n < B := by
  intro n hn
  obtain ⟨i, hi⟩ := List.mem_iff_getElem?.1 hn
  have hil : i < o.length := by have := (List.getElem?_eq_some_iff.1 hi).1; rwa [addInto_len] at this
  obtain ⟨x, hx⟩ : ∃ x, o[i]? = some x := ⟨_, List.getElem?_eq_getElem hil⟩
  by_cases h : i < l.length
  · obtain ⟨y, hy⟩ : ∃ y, l[i]? = some y := ⟨_, List.getElem?_eq_getElem h⟩
    rw [addInto_in hx hy] at hi
    cases hi
    exact Nat.lt_of_lt_of_le (Nat.mod_lt _ hq) hB
  · rw [addInto_out (by omega)] at hi
    exact ho n (List.mem_of_getElem? hi)
/-- Stage by stage. -/
def stg (q n : Nat) (a b : List Nat) : Nat → List Nat
  | 0 => List.replicate n 0
  | 1 => addInto q (List.replicate n 0) a
  | _ => addInto q (addInto q (List.replicate n 0) a) b
theorem stg_len (q n : Nat) (a b : List Nat) : ∀ j, (stg q n a b j).length = n
  | 0 => by simp [stg]
  | 1 => by simp [stg, addInto_len]
  | _ + 2 => by simp [stg, addInto_len]
theorem stg_lt {q n : Nat} (hq : 0 < q) (hN : q ≤ NN) (a b : List Nat) : ∀ j, ∀ x ∈ stg q n a b j, x < NN
  | 0 => fun x hx => by rw [(List.mem_replicate.1 hx).2]; exact NN_pos
  | 1 => addInto_lt hq hN (stg_lt hq hN a b 0)
  | _ + 2 => addInto_lt hq hN (stg_lt hq hN a b 1)

theorem natRow_two {W2 a b : World} {g9 gl : Nat} {l : List Nat} (h : NatRow a gl l) (ha : Mod [g9] W2 a) (hb : Mod [g9] W2 b) (hl : gl < g9) (hw : gl < W2.heap.size) : NatRow b gl l := by
  obtain ⟨cur, T, f, hg, hc⟩ := h
  have h1 := ha.block gl hw (by rw [List.mem_singleton]; omega)
  have h2 := hb.block gl hw (by rw [List.mem_singleton]; omega)
  exact ⟨cur, T, f, by rw [h2, ← h1]; exact hg, hc⟩
/-- What Add answers. -/
def AddSays (q : Nat) (a b : List Nat) (B : Nat) (e : Ending) (w' : World) : Prop :=
  ∃ g, e = .returned (.tuple #[.slice (some ⟨g, 0, none⟩) (max a.length b.length) (max a.length b.length), .int .i64 0]) ∧ B ≤ g ∧ NatRow w' g (stg q (max a.length b.length) a b 2)

set_option maxRecDepth 100000 in
set_option maxHeartbeats 8000000 in
theorem padd {q : Nat} (hq : q < NN) (h2 : 2 ≤ q) (la lb : List Nat) (hla : ∀ n ∈ la, n < NN) (hlb : ∀ n ∈ lb, n < NN) (ha1 : 1 ≤ la.length) (ha2 : la.length ≤ 256) (hb1 : 1 ≤ lb.length) (hb2 : lb.length ≤ 256) (ga ca gb cb : Nat) (w : World) (hga : NatRow w ga la) (hgb : NatRow w gb lb) :
    Calls Tryd.prog 22 #[nv q, .slice (some ⟨ga, 0, none⟩) la.length ca, .slice (some ⟨gb, 0, none⟩) lb.length cb] w fun e w' => AddSays q la lb w.heap.size e w' ∧ Mod [] w w' := by
  have cr := fun (b : Nat) (W : World) (hb : W.heap[b]? = some (.cells #[.int .i64 (la.length : Int), .int .i64 (lb.length : Int)] 3)) => pright hq h2 [la.length, lb.length] (by simp) b (by simp; omega) W hb
  have hq0 : q ≠ 0 := by omega
  have CA0 : Hid (∀ (x y : Nat) (hx : x < NN) (hy : y < NN) (W : World), _) := fun x y hx hy W => madd (a := x) (b := y) (m := q) hx hy hq hq0 W
  obtain ⟨z0, z1, z2, z3, hz, pz⟩ := nv_words q
  rw [wv_lit] at hz
  unfold lit4 at hz
  rw [hz] at cr CA0
  rw [hz]
  obtain ⟨n, hn⟩ : ∃ n, max la.length lb.length = n := ⟨_, rfl⟩
  have kmax : max (la.length : Int) (lb.length : Int) = (n : Int) := by omega
  have hn256 : n ≤ 256 := by omega
  have HL := hid (And.intro hla (And.intro hlb (And.intro hga (And.intro hgb (And.intro hq (And.intro h2 (And.intro hn (show la.length ≤ n ∧ lb.length ≤ n by omega))))))))
  have CR := hid cr
  have l1 : (la.length : Int) ≤ 256 := by omega
  have l2 : (lb.length : Int) ≤ 256 := by omega
  clear cr hz pz hq h2 hla hlb hga hgb hn hq0 ha1 ha2 hb1 hb2
  go_enter Tryd.func22, Tryd.ntmps22
  go_upto_region 1 with fail
  refine wp_abs (fun W => W.heap[w.heap.size]? = some (.cells (wcells [z0, z1, z2, z3]) 26) ∧ Mod [] w W) ⟨get_new _ _, (Mod.refl _ _).alloc _⟩ ?_
  rintro W ⟨g3, hm⟩
  generalize ht3 : w.heap.size = t3 at *
  have HM := hid (And.intro g3 (And.intro hm ht3))
  have qc0 := cell_at g3 0; have qc1 := cell_at g3 1; have qc2 := cell_at g3 2; have qc3 := cell_at g3 3; simp only [wcells_get] at qc0 qc1 qc2 qc3
  clear g3 hm ht3
  go_upto_region 4 with (go_at_call 29; refine (CR.out _ _ (get_new _ _)).mono ?_; rintro e w1 ⟨rfl, hm⟩; have H1 := hid (((Mod.refl [] W).alloc _).trans hm); clear hm)
  clear qc0 qc1 qc2 qc3
  clear CR
  obtain ⟨wm, hmk, hblk, hmm⟩ := make_nats n hn256 w1
  have HB0 := hid (And.intro hblk (H1.out.trans hmm))
  clear hblk hmm
  go_upto_region 5 with (first | simp only [kmax] | simp only [hmk])
  clear hmk kmax
  have hg9 : t3 < w1.heap.size ∧ w.heap.size ≤ w1.heap.size ∧ ga < w1.heap.size ∧ gb < w1.heap.size := ⟨Nat.lt_of_lt_of_le (lt_of_block HM.out.1) H1.out.size, Nat.le_trans HM.out.2.1.size H1.out.size, Nat.lt_of_lt_of_le HL.out.2.2.1.lt (Nat.le_trans HM.out.2.1.size H1.out.size), Nat.lt_of_lt_of_le HL.out.2.2.2.1.lt (Nat.le_trans HM.out.2.1.size H1.out.size)⟩
  generalize w1.heap.size = g9 at *
  have HG9 := hid hg9
  clear hg9 H1
  go_upto_block 0 with fail
  refine wp_abs (fun W2 => W2.heap[wm.heap.size]? = some (.cells #[.slice (some ⟨ga, 0, none⟩) la.length ca, .slice (some ⟨gb, 0, none⟩) lb.length cb] 22) ∧ Mod [] wm W2) ⟨get_new _ _, (Mod.refl _ _).alloc _⟩ ?_
  have hb5 : g9 < wm.heap.size := lt_of_block HB0.out.1.choose_spec.choose_spec.1
  generalize wm.heap.size = b5 at *
  rintro W2 ⟨g5, hm5⟩
  have HB := hid (And.intro g5 (And.intro (HB0.out.1.mod hm5 (by simp)) (And.intro (HB0.out.2.trans hm5) hb5)))
  clear g5 hm5 hb5 HB0
  go_wp2_with fail
  go_loopg [34] 2 (fun gk v W' => ∃ j : Nat, v = .int .i64 j ∧ gk + j = 2 ∧ NatBlk W' g9 (stg q n la lb j) ∧ Mod [g9] W2 W')
  case atStart => exact ⟨0, rfl, rfl, HB.out.2.1, Mod.refl _ _⟩
  case round =>
    obtain ⟨j, rfl, hgj, hbl, hm⟩ := hrel
    by_cases hj : j < 2
    · have j1 : (j : Int) < 2 := by omega
      have j0 : (0 : Int) ≤ (j : Int) := by omega
      have hg9m : ∀ k, k < g9 → k ∉ [g9] := fun k hk => by rw [List.mem_singleton]; omega
      have g5 := hm.get HB.out.1 (by have := HB.out.2.2.2; rw [List.mem_singleton]; omega)
      have hmW : Mod [g9] w wr := ((HM.out.2.1.trans HB.out.2.2.1).mono (by simp)).trans hm
      have hrw : ∃ gl ll cl, wr.cell? ⟨b5, j, none⟩ = some (.slice (some ⟨gl, 0, none⟩) (List.length ll) cl) ∧ NatRow wr gl ll ∧ gl < g9 ∧ (∀ x ∈ ll, x < NN) ∧ ll.length ≤ n ∧ stg q n la lb (j + 1) = addInto q (stg q n la lb j) ll := by
        have hj2 : j = 0 ∨ j = 1 := by omega
        rcases hj2 with rfl | rfl
        · exact ⟨ga, la, ca, by rw [cell_at g5]; rfl, HL.out.2.2.1.mod hmW (hg9m _ HG9.out.2.2.1), HG9.out.2.2.1, HL.out.1, HL.out.2.2.2.2.2.2.2.1, rfl⟩
        · exact ⟨gb, lb, cb, by rw [cell_at g5]; rfl, HL.out.2.2.2.1.mod hmW (hg9m _ HG9.out.2.2.2), HG9.out.2.2.2, HL.out.2.1, HL.out.2.2.2.2.2.2.2.2, rfl⟩
      obtain ⟨gl, ll, cl, hcl, hrow, hgl, hlN, hln, hst⟩ := hrw
      obtain ⟨o, ho⟩ : ∃ o, stg q n la lb j = o := ⟨_, rfl⟩
      have hol : o.length = n := by rw [← ho]; exact stg_len ..
      have hoN : ∀ x ∈ o, x < NN := by rw [← ho]; exact stg_lt (by have := HL.out.2.2.2.2.2.1; omega) (by have := HL.out.2.2.2.2.1; omega) la lb j
      rw [ho] at hbl hst
      have n9 : (ll.length : Int) ≤ 256 := by omega
      have HR := hid (And.intro hrow (And.intro hgl (And.intro hlN (And.intro hln (And.intro hst (And.intro hol (And.intro hoN (And.intro hgj (And.intro hbl hm)))))))))
      clear hrow hgl hlN hln hst hol hoN hgj hbl hm hmW g5 ho hg9m
      go_wp2_with fail
      go_loopg [40] ll.length (fun gk v W' => ∃ i : Nat, v = .int .i64 i ∧ gk + i = ll.length ∧ NatBlk W' g9 ((addInto q o ll).take i ++ o.drop i) ∧ Mod [g9] W2 W')
      case atStart =>
        obtain ⟨-, -, -, -, -, -, -, -, hbl, hm⟩ := HR.out
        exact ⟨0, rfl, rfl, by rw [List.take_zero, List.drop_zero, List.nil_append]; exact hbl, hm⟩
      case round =>
        obtain ⟨i, rfl, hgi, hbl, hm⟩ := hrel
        by_cases hi : i < ll.length
        · have i1 : (i : Int) < (ll.length : Int) := by omega
          have i0 : (0 : Int) ≤ (i : Int) := by omega
          have hin : (i : Int) < (n : Int) := by have := HR.out.2.2.2.1; omega
          obtain ⟨y, hy⟩ : ∃ y, ll[i]? = some y := ⟨_, List.getElem?_eq_getElem hi⟩
          obtain ⟨x, hx⟩ : ∃ x, o[i]? = some x := ⟨_, List.getElem?_eq_getElem (by have := HR.out.2.2.2.1; have := HR.out.2.2.2.2.2.1; omega)⟩
          have hai := addInto_in (q := q) hx hy
          have hmg := mix_get (O := addInto q o ll) (by rw [addInto_len]; have := HR.out.2.2.2.1; have := HR.out.2.2.2.2.2.1; omega) hx
          have hms := mix_set hai hx
          obtain ⟨s, hs⟩ : ∃ s, (x + y) % q = s := ⟨_, rfl⟩
          have ca := fun W => CA0.out x y (HR.out.2.2.2.2.2.2.1 x (List.mem_of_getElem? hx)) (HR.out.2.2.1 y (List.mem_of_getElem? hy)) W
          rw [hs] at ca hms
          obtain ⟨x0, x1, x2, x3, hxx, px⟩ := nv_words x
          obtain ⟨y0, y1, y2, y3, hyy, py⟩ := nv_words y
          obtain ⟨s0, s1, s2, s3, hss, ps⟩ := nv_words s
          rw [wv_lit] at hxx hyy hss
          unfold lit4 at hxx hyy hss
          rw [hxx, hyy, hss] at ca
          have CA := hid ca
          have hmR : Mod [g9] wr wr := Mod.refl _ _
          have hrow : NatRow wr gl ll := by
            have hmW2 := HR.out.2.2.2.2.2.2.2.2.2
            exact natRow_two HR.out.1 hmW2 hm HR.out.2.1 (Nat.lt_of_lt_of_le (Nat.lt_trans HR.out.2.1 HB.out.2.2.2) (Nat.le_of_lt (lt_of_block HB.out.1)))
          obtain ⟨c0, c1, c2, c3⟩ := hrow.cells hy py
          have HN := hid (And.intro hbl (And.intro hm (And.intro hmg (And.intro hms (And.intro ps (And.intro px hgi))))))
          clear hbl hm hmg hms ps px hgi hy hx hai hs ca hxx hyy hss py hrow hmR
          go_upto_region 11 with fail
          refine wp_abs (fun W3 => W3.heap[wr.heap.size]? = some (.cells (wcells [y0, y1, y2, y3]) 26) ∧ Mod [] wr W3) ⟨get_new _ _, (Mod.refl _ _).alloc _⟩ ?_
          generalize wr.heap.size = t13 at *
          rintro W3 ⟨g13, hm3⟩
          clear c0 c1 c2 c3
          have hmW3 : Mod [g9] W2 W3 := HN.out.2.1.trans (hm3.mono (by simp))
          have hbl := HN.out.1.mod hm3 (by simp)
          have g3 : W3.heap[t3]? = some (.cells (wcells [z0, z1, z2, z3]) 26) := hmW3.get (HB.out.2.2.1.get HM.out.1 (by simp)) (by have := HG9.out; rw [List.mem_singleton]; omega)
          have hcl := hbl.row.cells HN.out.2.2.1 HN.out.2.2.2.2.2.1
          have hS : SatV t13 t3 g9 i [y0, y1, y2, y3] [z0, z1, z2, z3] x0 x1 x2 x3 W3.drew := ⟨g13, g3, hcl⟩
          have HD := hid (And.intro (hbl.mod ((Mod.refl [] W3).drew) (by simp)) hmW3.drew)
          clear g13 g3 hcl hbl hmW3 hm3
          refine wp_region_N (SatV t13 t3 g9 i [y0, y1, y2, y3] [z0, z1, z2, z3] x0 x1 x2 x3) (fun i => !(i == 13)) (by kernel_rfl) ?_
          generalize W3.drew = wd at *
          have hM := Mod.refl [] wd
          refine regA 0 46 (v := ?_) rfl rfl (by kernel_rfl) (by kernel_rfl) (by kernel_rfl) (fun _ _ _ h => h) (by rfl) (fun w => ?_) ?_; rotate_left; (go_simp; first | done | with_reducible rfl); (try simp only [Act.put, List.setIfInBounds_toArray, List.set_cons_zero, List.set_cons_succ])
          refine regA 1 47 (v := ?_) rfl rfl (by kernel_rfl) (by kernel_rfl) (by kernel_rfl) (fun _ _ _ h => h) (by rfl) (fun w => ?_) ?_; rotate_left; (go_simp; first | done | with_reducible rfl); (try simp only [Act.put, List.setIfInBounds_toArray, List.set_cons_zero, List.set_cons_succ])
          refine regA 2 48 (v := ?_) rfl rfl (by kernel_rfl) (by kernel_rfl) (by kernel_rfl) (fun _ _ _ h => h) (by rfl) (fun w => ?_) ?_; rotate_left; (go_simp; first | done | with_reducible rfl); (try simp only [Act.put, List.setIfInBounds_toArray, List.set_cons_zero, List.set_cons_succ])
          refine regA 3 49 (v := ?_) rfl rfl (by kernel_rfl) (by kernel_rfl) (by kernel_rfl) (fun _ _ _ h => h) (by rfl) (fun w => ?_) ?_; rotate_left; (go_simp; first | done | with_reducible rfl); (try simp only [Act.put, List.setIfInBounds_toArray, List.set_cons_zero, List.set_cons_succ])
          refine regA 4 50 (v := .pointer (some ⟨g9, i * 4, none⟩)) rfl rfl (by kernel_rfl) (by kernel_rfl) (by kernel_rfl) (fun _ _ _ h => h) (by rfl) (fun w => ?_) ?_
          · go_simp
          (try simp only [Act.put, List.setIfInBounds_toArray, List.set_cons_zero, List.set_cons_succ])
          refine regS 5 51 (v := ?_) hS rfl rfl (by kernel_rfl) (by kernel_rfl) (by kernel_rfl) (by kernel_rfl) (fun _ _ _ h => h) (by rfl) (fun w hSw => ?_) ?_; rotate_left; (obtain ⟨qc0, qc1, qc2, qc3⟩ := hSw.2.2; go_simp; first | done | with_reducible rfl); (try simp only [Act.put, List.setIfInBounds_toArray, List.set_cons_zero, List.set_cons_succ])
          refine regS 6 52 (v := ?_) hS rfl rfl (by kernel_rfl) (by kernel_rfl) (by kernel_rfl) (by kernel_rfl) (fun _ _ _ h => h) (by rfl) (fun w hSw => ?_) ?_; rotate_left; (have qc0 := cell_at hSw.1 0; have qc1 := cell_at hSw.1 1; have qc2 := cell_at hSw.1 2; have qc3 := cell_at hSw.1 3; simp only [wcells_get] at qc0 qc1 qc2 qc3; go_simp; first | done | with_reducible rfl); (try simp only [Act.put, List.setIfInBounds_toArray, List.set_cons_zero, List.set_cons_succ])
          refine regS 7 53 (v := ?_) hS rfl rfl (by kernel_rfl) (by kernel_rfl) (by kernel_rfl) (by kernel_rfl) (fun _ _ _ h => h) (by rfl) (fun w hSw => ?_) ?_; rotate_left; (have qc0 := cell_at hSw.2.1 0; have qc1 := cell_at hSw.2.1 1; have qc2 := cell_at hSw.2.1 2; have qc3 := cell_at hSw.2.1 3; simp only [wcells_get] at qc0 qc1 qc2 qc3; go_simp; first | done | with_reducible rfl); (try simp only [Act.put, List.setIfInBounds_toArray, List.set_cons_zero, List.set_cons_succ])
          clear hS
          refine regOnly 8 (by kernel_rfl) rfl (by rfl) (fun K hK => ?_)
          go_wp2_with (go_at_call 34; refine (CA.out _).mono ?_; rintro e w5 ⟨rfl, hm⟩)
          refine hK.out _ _ (fun _ h => ⟨hm.get h.1 (by simp), hm.get h.2.1 (by simp), hm.cell h.2.2.1 (by simp), hm.cell h.2.2.2.1 (by simp), hm.cell h.2.2.2.2.1 (by simp), hm.cell h.2.2.2.2.2 (by simp)⟩) ?_
          clear hK
          (try simp only [Act.put, List.setIfInBounds_toArray, List.set_cons_zero, List.set_cons_succ])
          have hM := hM.trans hm
          clear hm
          refine regA 9 45 (v := ?_) rfl rfl (by kernel_rfl) (by kernel_rfl) (by kernel_rfl) (fun _ _ _ h => h) (by rfl) (fun w => ?_) ?_; rotate_left; (go_simp; first | done | with_reducible rfl); (try simp only [Act.put, List.setIfInBounds_toArray, List.set_cons_zero, List.set_cons_succ])
          refine regA 10 55 (v := ?_) rfl rfl (by kernel_rfl) (by kernel_rfl) (by kernel_rfl) (fun _ _ _ h => h) (by rfl) (fun w => ?_) ?_; rotate_left; (go_simp; first | done | with_reducible rfl); (try simp only [Act.put, List.setIfInBounds_toArray, List.set_cons_zero, List.set_cons_succ])
          refine regA 11 56 (v := ?_) rfl rfl (by kernel_rfl) (by kernel_rfl) (by kernel_rfl) (fun _ _ _ h => h) (by rfl) (fun w => ?_) ?_; rotate_left; (go_simp; first | done | with_reducible rfl); (try simp only [Act.put, List.setIfInBounds_toArray, List.set_cons_zero, List.set_cons_succ])
          refine regA 12 57 (v := .pointer (some ⟨g9, i * 4, none⟩)) rfl rfl (by kernel_rfl) (by kernel_rfl) (by kernel_rfl) (fun _ _ _ h => h) (by rfl) (fun w => ?_) ?_
          · go_simp
          (try simp only [Act.put, List.setIfInBounds_toArray, List.set_cons_zero, List.set_cons_succ])
          have hbl := HD.out.1.mod hM (by simp)
          obtain ⟨q0, q1, q2, q3⟩ := hbl.row.cells HN.out.2.2.1 HN.out.2.2.2.2.2.1
          have f0 := hbl.free (i * 4)
          have f1 := hbl.free (i * 4 + 1)
          have f2 := hbl.free (i * 4 + 2)
          have f3 := hbl.free (i * 4 + 3)
          have hset := hbl.set HN.out.2.2.1 HN.out.2.2.2.2.1
          rw [HN.out.2.2.2.1] at hset
          have HSE := hid hset
          have hmS := hid ((((HD.out.2.trans (hM.mono (by simp))).setCell (p := ⟨g9, i * 4, none⟩) (.inl (by simp)) (.int .u64 (s0 : Int))).setCell (p := ⟨g9, i * 4 + 1, none⟩) (.inl (by simp)) (.int .u64 (s1 : Int))).setCell (p := ⟨g9, i * 4 + 2, none⟩) (.inl (by simp)) (.int .u64 (s2 : Int)) |>.setCell (p := ⟨g9, i * 4 + 3, none⟩) (.inl (by simp)) (.int .u64 (s3 : Int)))
          clear hbl hM hset
          refine regOnly 13 (by kernel_rfl) rfl (by rfl) (fun K hK => ?_)
          go_wp2_with fail
          refine hK.out _ _ (fun h _ => absurd h (by decide)) ?_
          clear hK
          (try simp only [Act.put, List.setIfInBounds_toArray, List.set_cons_zero, List.set_cons_succ])
          refine regAbs (fun W9 => NatBlk W9 g9 ((addInto q o ll).take (i + 1) ++ o.drop (i + 1)) ∧ Mod [g9] W2 W9) ⟨HSE.out, hmS.out⟩ ?_
          clear q0 q1 q2 q3 f0 f1 f2 f3 HSE hmS
          rintro W9 ⟨hb9, hm9⟩
          have H9 := hid (And.intro hb9 hm9)
          clear hb9 hm9
          refine regDone (by kernel_rfl) ?_ _
          go_wp2_with fail
          go_roundg (gk - 1)
          case measure => have := HN.out.2.2.2.2.2.2; omega
          case rel => exact ⟨i + 1, by go_num, by have := HN.out.2.2.2.2.2.2; omega, H9.out.1, H9.out.2⟩
        · have i1 : ¬ (i : Int) < (ll.length : Int) := by omega
          obtain rfl : i = ll.length := by omega
          have hdn := addInto_done (q := q) (o := o) (l := ll) (by have := HR.out.2.2.2.1; have := HR.out.2.2.2.2.2.1; omega)
          rw [hdn] at hbl
          have HE := hid (And.intro hbl hm)
          clear hbl hm hdn hgi
          go_wp2_with fail
          go_roundg (1 - j)
          case measure => have := HR.out.2.2.2.2.2.2.2.1; omega
          case rel => exact ⟨j + 1, by go_num, by have := HR.out.2.2.2.2.2.2.2.1; omega, by rw [HR.out.2.2.2.2.1]; exact HE.out.1, HE.out.2⟩
    · have j1 : ¬ (j : Int) < 2 := by omega
      obtain rfl : j = 2 := by omega
      have HE := hid (And.intro hbl ((HM.out.2.1.trans HB.out.2.2.1).trans' hm (fun b hb => .inr (by rw [List.mem_singleton.1 hb]; exact HG9.out.2.1))))
      clear hbl hm hgj
      go_wp2_with fail
      have hnn := HL.out.2.2.2.2.2.2.1
      refine bodyPost_ret (v := .tuple #[.slice (some ⟨g9, 0, none⟩) n n, .int .i64 0]) (by simp [results, Tryd.results22, go_sem]) rfl ⟨⟨g9, by rw [hnn], by rw [HM.out.2.2]; exact Nat.le_of_lt HG9.out.1, by rw [hnn]; exact HE.out.1.row⟩, HE.out.2⟩
end Go.Proofs.YtdgmnhiffoemmaaDoor
