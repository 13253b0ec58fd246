/-
  limb.Divide. No statement of a claim stands here; each contract names what it asks.
-/
import Derived.Test.YtdgmnhiffoemmaaDoorY7
import Derived.Test.YtdgmnhiffoemmaaDoorY8
set_option linter.unusedSimpArgs false
namespace Go.Proofs.YtdgmnhiffoemmaaDoor
open Go Go.RowKit Go.ChangeMaps

theorem size4 (a b c d g : Nat) (w : World) (h : w.heap[g]? = some (.cells (wcells [a, b, c, d]) 26)) :
    Calls Tryd.prog 58 #[.slice (some ⟨g, 0, none⟩) 4 4] w fun e w' => ∃ n : Nat, e = .returned (.int .i64 n) ∧ SizeIs [a, b, c, d] n ∧ w' = w :=
  size_any [a, b, c, d] (by simp) g _ w h

theorem six_new (w : World) (A B C D E F : Obj) : ((((((w.alloc A).alloc B).alloc C).alloc D).alloc E).alloc F).heap[w.heap.size]? = some A ∧ ((((((w.alloc A).alloc B).alloc C).alloc D).alloc E).alloc F).heap[w.heap.size + 1]? = some B ∧
    ((((((w.alloc A).alloc B).alloc C).alloc D).alloc E).alloc F).heap[w.heap.size + 1 + 1]? = some C ∧ ((((((w.alloc A).alloc B).alloc C).alloc D).alloc E).alloc F).heap[w.heap.size + 1 + 1 + 1]? = some D ∧
    ((((((w.alloc A).alloc B).alloc C).alloc D).alloc E).alloc F).heap[w.heap.size + 1 + 1 + 1 + 1]? = some E ∧ ((((((w.alloc A).alloc B).alloc C).alloc D).alloc E).alloc F).heap[w.heap.size + 1 + 1 + 1 + 1 + 1]? = some F ∧
    Mod [] w ((((((w.alloc A).alloc B).alloc C).alloc D).alloc E).alloc F) := by
  obtain ⟨h1, h2, h3, h4, h5⟩ := four_new w A B C D
  obtain ⟨k1, k2, k3, k4, k5⟩ := four_new ((w.alloc A).alloc B) C D E F
  have e1 : ((w.alloc A).alloc B).heap.size = w.heap.size + 1 + 1 := by
    rw [show ((w.alloc A).alloc B).heap.size = (w.alloc A).heap.size + 1 from Array.size_push _, show (w.alloc A).heap.size = w.heap.size + 1 from Array.size_push _]
  rw [e1] at k1 k2 k3 k4
  exact ⟨get_alloc (get_alloc h1 _) _, get_alloc (get_alloc h2 _) _, k1, k2, k3, k4, (h5.alloc _).alloc _⟩

theorem val_zero {l : List Nat} (h : ∀ x ∈ l, x = 0) : val l = 0 := by
  induction l with
  | nil => rfl
  | cons x l ih => rw [val, h x (.head _), ih (fun y hy => h y (.tail _ hy)), Nat.mul_zero]
theorem SizeIs.take {L : List Nat} {n : Nat} (h : SizeIs L n) : val L = val (L.take n) := by
  have h1 := val_split L n h.1
  rw [val_zero (l := L.drop n), Nat.mul_zero, Nat.add_zero] at h1
  · exact h1
  · intro x hx
    obtain ⟨j, hj⟩ := List.getElem?_of_mem hx
    rw [List.getElem?_drop] at hj
    have hlt := (List.getElem?_eq_some_iff.1 hj).1
    rw [h.2.1 (n + j) (by omega) hlt] at hj
    exact (Option.some.inj hj).symm


/-- What the loads read. -/
def Sat3 (p q r : Addr) (x y z : Nat) (w : World) : Prop := w.cell? p = some (.int .u64 x) ∧ w.cell? q = some (.int .u64 y) ∧ w.cell? r = some (.int .u64 z)
/-- The divisor, shifted. -/
theorem norm_top {M O : List Nat} {n t s : Nat} (hs : s < 64) (hM : M.length = n) (hn : 1 ≤ n) (sM : Small M) (ht : M[n - 1]? = some t) (hsb : t * 2 ^ s < BB) (hO : O.length = n + 1) (sO : Small O) (vO : val O = val M * 2 ^ s) :
    val (O.take n) = val M * 2 ^ s ∧ ∃ td, (O.take n)[n - 1]? = some td ∧ t * 2 ^ s ≤ td := by
  have hp : 0 < 2 ^ s := Nat.pow_pos (by decide)
  have h1 := val_split M (n - 1) (by omega)
  have h2 := val_lt (sM.take (n - 1))
  rw [List.length_take, Nat.min_eq_left (by omega)] at h2
  have hlt := (List.getElem?_eq_some_iff.1 ht).1
  rw [List.drop_eq_getElem_cons hlt, (List.getElem?_eq_some_iff.1 ht).2, List.drop_eq_nil_of_le (by omega)] at h1
  rw [show val (t :: []) = t by rw [val, val, Nat.mul_zero, Nat.add_zero]] at h1
  have h3 : (t + 1) * 2 ^ s ≤ BB := by
    have hB := BB_split hs
    rw [hB] at hsb ⊢
    exact Nat.mul_le_mul_right _ (Nat.lt_of_mul_lt_mul_right hsb)
  have h4 : val M * 2 ^ s < BB ^ n := by
    have e1 : val M < BB ^ (n - 1) * (t + 1) := by
      rw [h1, Nat.mul_add, Nat.mul_one]
      omega
    have e2 : val M * 2 ^ s < BB ^ (n - 1) * (t + 1) * 2 ^ s := Nat.mul_lt_mul_of_pos_right e1 hp
    have e3 : BB ^ (n - 1) * (t + 1) * 2 ^ s ≤ BB ^ (n - 1) * BB := by
      rw [Nat.mul_assoc]
      exact Nat.mul_le_mul_left _ h3
    rw [← Nat.pow_succ, show (n - 1).succ = n by omega] at e3
    omega
  have h5 := val_split O n (by omega)
  have h6 : val (O.drop n) = 0 := by
    apply Nat.eq_zero_of_not_pos
    intro hpos
    have : BB ^ n * 1 ≤ BB ^ n * val (O.drop n) := Nat.mul_le_mul_left _ hpos
    omega
  rw [h6, Nat.mul_zero, Nat.add_zero, vO] at h5
  refine ⟨h5.symm, ?_⟩
  have hOt : (O.take n).length = n := by rw [List.length_take]; omega
  obtain ⟨td, htd⟩ : ∃ td, (O.take n)[n - 1]? = some td := ⟨_, List.getElem?_eq_getElem (by omega)⟩
  refine ⟨td, htd, ?_⟩
  have k1 := val_split (O.take n) (n - 1) (by omega)
  have k2 := val_lt ((sO.take n).take (n - 1))
  rw [List.length_take (l := O.take n), Nat.min_eq_left (by omega)] at k2
  have hlt2 := (List.getElem?_eq_some_iff.1 htd).1
  rw [List.drop_eq_getElem_cons hlt2, (List.getElem?_eq_some_iff.1 htd).2, List.drop_eq_nil_of_le (by omega)] at k1
  rw [show val (td :: []) = td by rw [val, val, Nat.mul_zero, Nat.add_zero], ← h5] at k1
  have k3 : BB ^ (n - 1) * (t * 2 ^ s) < BB ^ (n - 1) * (td + 1) := by
    have e1 : BB ^ (n - 1) * t * 2 ^ s ≤ val M * 2 ^ s := Nat.mul_le_mul_right _ (by omega)
    rw [Nat.mul_assoc] at e1
    rw [Nat.mul_add, Nat.mul_one]
    omega
  have := Nat.lt_of_mul_lt_mul_left k3
  omega

/-- While the places are gone through. -/
def DivRel (W : World) (tq go2 n D N : Nat) (gk : Nat) (v : Value) (w : World) : Prop :=
  ∃ A B : List Nat, v = .int .i64 ((gk : Int) - 1) ∧ gk + n ≤ 9 ∧ A.length = 9 ∧ Small A ∧ B.length = 8 ∧ Small B ∧ N = D * val B + val A ∧ val A < D * BB ^ gk ∧ (∀ j, j < gk → j < 8 → B[j]? = some 0) ∧
    w.heap[go2]? = some (.cells (wcells A) 24) ∧ w.heap[tq]? = some (.cells (wcells B) 60) ∧ Mod [go2, tq] W w

/-- While the divisor is given back. -/
def OverRel (W : World) (go2 n D V : Nat) (P R : List Nat) (gk : Nat) (xv ov : Value) (w : World) : Prop :=
  ∃ (x o : Nat) (K : List Nat), xv = .int .u64 x ∧ ov = .bool (o == 1) ∧ gk = x ∧ x < BB ∧ K.length = n + 1 ∧ Small K ∧ Tried V D (BB ^ (n + 1)) x (val K) o ∧
    w.heap[go2]? = some (.cells (wcells (P ++ K ++ R)) 24) ∧ Mod [go2] W w

/-- A part of the rest: what two parts come to, shifted down. -/
theorem right_part {x y s : Nat} (hx : x < BB) (hy : y < BB) (hs0 : 0 < s) (hs : s < 64) : x / 2 ^ s ||| y * 2 ^ (64 - s) % BB = x / 2 ^ s + y % 2 ^ s * 2 ^ (64 - s) ∧ x / 2 ^ s + y % 2 ^ s * 2 ^ (64 - s) < BB ∧ x / 2 ^ s < BB := by
  have hB := BB_split hs
  have h1 : x / 2 ^ s < 2 ^ (64 - s) := by
    rw [Nat.div_lt_iff_lt_mul (Nat.pow_pos (by decide)), ← hB]
    exact hx
  obtain ⟨e1, e2, -, -⟩ := shift_parts hy (show 64 - s < 64 by omega) h1
  have e3 : y * 2 ^ (64 - s) % BB = y % 2 ^ s * 2 ^ (64 - s) := by
    rw [hB, Nat.mul_comm (2 ^ (64 - s)), Nat.mul_mod_mul_right]
  rw [e1, e3, Nat.add_comm]
  rw [e3, Nat.add_comm] at e2
  exact ⟨rfl, e2, Nat.lt_of_le_of_lt (Nat.div_le_self _ _) hx⟩

/-- While the rest is shifted down. -/
def RestRel (W : World) (tr n s : Nat) (A : List Nat) (gk : Nat) (v : Value) (w : World) : Prop :=
  ∃ (j x : Nat) (Rw : List Nat), v = .int .i64 j ∧ gk + j = n ∧ Rw.length = 4 ∧ Small Rw ∧ (∀ k, j ≤ k → k < 4 → Rw[k]? = some 0) ∧ A[j]? = some x ∧ val Rw * 2 ^ s + 0 = val (A.take j) + x % 2 ^ s * BB ^ j ∧
    w.heap[tr]? = some (.cells (wcells Rw) 26) ∧ Mod [tr] W w

/-- What the last loads read. -/
def SatR (tq tr : Nat) (B Rw : List Nat) (w : World) : Prop := w.heap[tq]? = some (.cells (wcells B) 60) ∧ w.heap[tr]? = some (.cells (wcells Rw) 26)

/-- What stands before the places are gone through. -/
structure DivW (w0 : World) (tq tr t4 t5 go1 go2 : Nat) (O1 O2 : List Nat) (w : World) : Prop where
  q : w.heap[tq]? = some (.cells (wcells [0, 0, 0, 0, 0, 0, 0, 0]) 60)
  r : w.heap[tr]? = some (.cells (wcells [0, 0, 0, 0]) 26)
  f4 : w.heap[t4]? = some (.cells (wcells [0, 0, 0, 0, 0, 0, 0, 0]) 60)
  f5 : w.heap[t5]? = some (.cells (wcells [0, 0, 0, 0]) 26)
  d : w.heap[go1]? = some (.cells (wcells O1) 24)
  l : w.heap[go2]? = some (.cells (wcells O2) 24)
  mod : Mod [] w0 w
  lt : w0.heap.size ≤ t4 ∧ t4 < t5 ∧ t5 < tq ∧ tq < tr ∧ tr < go1 ∧ go1 < go2

set_option maxRecDepth 100000 in
set_option maxHeartbeats 4000000 in
theorem ldiv_words (u v : List Nat) (hu : u.length = 8) (hv : v.length = 4) (su : Small u) (sv : Small v) (hv0 : val v ≠ 0) (w : World) :
    Calls Tryd.prog 56 #[wv u, wv v] w fun e w' => (∃ Q R : List Nat, Q.length = 8 ∧ Small Q ∧ R.length = 4 ∧ Small R ∧ val Q = val u / val v ∧ val R = val u % val v ∧ e = .returned (.tuple #[wv Q, wv R, .int .i64 0])) ∧ Mod [] w w' := by
  obtain ⟨u0, u1, u2, u3, u4, u5, u6, u7, rfl⟩ : ∃ a b c d e f g h, u = [a, b, c, d, e, f, g, h] := by
    match u, hu with
    | [a, b, c, d, e, f, g, h], _ => exact ⟨_, _, _, _, _, _, _, _, rfl⟩
  obtain ⟨v0, v1, v2, v3, rfl⟩ : ∃ a b c d, v = [a, b, c, d] := by
    match v, hv with
    | [a, b, c, d], _ => exact ⟨_, _, _, _, rfl⟩
  clear hu hv
  have SU := hid (And.intro su (And.intro sv hv0))
  clear su sv hv0
  unfold wv
  go_enter Tryd.func56, Tryd.ntmps56
  go_upto_region 3 with fail
  refine wp_abs (fun W' => W'.heap[w.heap.size]? = some (.cells (wcells [u0, u1, u2, u3, u4, u5, u6, u7]) 60) ∧ W'.heap[w.heap.size + 1]? = some (.cells (wcells [v0, v1, v2, v3]) 26) ∧ W'.heap[w.heap.size + 1 + 1]? = some (.cells (wcells [0, 0, 0, 0, 0, 0, 0, 0]) 60) ∧ W'.heap[w.heap.size + 1 + 1 + 1]? = some (.cells (wcells [0, 0, 0, 0]) 26) ∧ W'.heap[w.heap.size + 1 + 1 + 1 + 1]? = some (.cells (wcells [0, 0, 0, 0, 0, 0, 0, 0]) 60) ∧ W'.heap[w.heap.size + 1 + 1 + 1 + 1 + 1]? = some (.cells (wcells [0, 0, 0, 0]) 26) ∧ Mod [] w W') (six_new w _ _ _ _ _ _) ?_
  rintro W ⟨ga, gb, g4, g5, gq, gr, hm⟩
  obtain ⟨ta, hta⟩ : ∃ t, t = w.heap.size := ⟨_, rfl⟩
  obtain ⟨tb, htb⟩ : ∃ t, t = ta + 1 := ⟨_, rfl⟩
  obtain ⟨t4, ht4⟩ : ∃ t, t = tb + 1 := ⟨_, rfl⟩
  obtain ⟨t5, ht5⟩ : ∃ t, t = t4 + 1 := ⟨_, rfl⟩
  obtain ⟨tq, htq⟩ : ∃ t, t = t5 + 1 := ⟨_, rfl⟩
  obtain ⟨tr, htr⟩ : ∃ t, t = tq + 1 := ⟨_, rfl⟩
  rw [← hta] at ga gb g4 g5 gq gr
  rw [← hta]
  rw [← htb] at gb g4 g5 gq gr
  rw [← htb]
  rw [← ht4] at g4 g5 gq gr
  rw [← ht4]
  rw [← ht5] at g5 gq gr
  rw [← ht5]
  rw [← htq] at gq gr
  rw [← htq]
  rw [← htr] at gr
  rw [← htr]
  have HM := hid (And.intro hm (And.intro hta (And.intro htb (And.intro ht4 (And.intro ht5 (And.intro htq htr))))))
  have HG := hid (And.intro ga (And.intro gb (And.intro g4 (And.intro g5 (And.intro gq gr)))))
  clear hm hta htb ht4 ht5 htq htr ga gb g4 g5 gq gr
  have hsize := size4 v0 v1 v2 v3 tb W HG.out.2.1
  have HS := hid hsize
  clear hsize
  go_upto_region 4 with (go_at_call 58; refine HS.out.mono ?_; rintro e w' ⟨n, rfl, hsz, hw'⟩; subst hw'; have HN := hid hsz; clear hsz)
  obtain ⟨t, hn4, hn1, ht, ht0, hvt⟩ : ∃ t, n ≤ 4 ∧ 1 ≤ n ∧ [v0, v1, v2, v3][n - 1]? = some t ∧ t ≠ 0 ∧ val [v0, v1, v2, v3] = val ([v0, v1, v2, v3].take n) := by
    have h1 := HN.out.take
    rcases HN.out.2.2 with h | ⟨t, h, h0⟩
    · exfalso
      rw [h, List.take_zero] at h1
      exact SU.out.2.2 h1
    · refine ⟨t, HN.out.1, ?_, h, h0, h1⟩
      cases n with
      | zero => exact absurd h1 SU.out.2.2
      | succ n => omega
  have htb' := SU.out.2.1.get ht
  obtain ⟨s, hs, hlz, hsb, hst⟩ := lead_facts htb' ht0
  have hlead : ∀ W : World, Calls Tryd.prog 70 #[.int .u64 t] W fun e w' => e = .returned (.int .i64 (s : Int)) ∧ w' = W := fun W => by
    rw [← hlz]
    exact lead64_any t htb' W
  have hleft1 : ∀ W1 : World, Mod [] w' W1 → Calls Tryd.prog 71 #[.slice (some ⟨tb, 0, none⟩) n 4, .int .u64 s] W1 fun e w2 => ∃ (go : Nat) (O : List Nat), e = .returned (.slice (some ⟨go, 0, none⟩) (n + 1) (n + 1)) ∧
      O.length = n + 1 ∧ Small O ∧ val O = val ([v0, v1, v2, v3].take n) * 2 ^ s ∧ w2.heap[go]? = some (.cells (wcells O) 24) ∧ W1.heap.size ≤ go ∧ Mod [] W1 w2 := by
    intro W1 hW1
    have hl : ([v0, v1, v2, v3].take n).length = n := by rw [List.length_take]; exact Nat.min_eq_left hn4
    have h := left_any ([v0, v1, v2, v3].take n) (by omega) (SU.out.2.1.take n) tb 4 26 [v0, v1, v2, v3] (by rw [hl]) s hs W1 (hW1.get HG.out.2.1 (by simp))
    rw [hl] at h
    exact h
  have hleft2 : ∀ W1 : World, Mod [] w' W1 → Calls Tryd.prog 71 #[.slice (some ⟨ta, 0, none⟩) 8 8, .int .u64 s] W1 fun e w2 => ∃ (go : Nat) (O : List Nat), e = .returned (.slice (some ⟨go, 0, none⟩) 9 9) ∧
      O.length = 9 ∧ Small O ∧ val O = val [u0, u1, u2, u3, u4, u5, u6, u7] * 2 ^ s ∧ w2.heap[go]? = some (.cells (wcells O) 24) ∧ W1.heap.size ≤ go ∧ Mod [] W1 w2 := by
    intro W1 hW1
    exact left_any [u0, u1, u2, u3, u4, u5, u6, u7] (by simp) SU.out.1 ta 8 60 [u0, u1, u2, u3, u4, u5, u6, u7] rfl s hs W1 (hW1.get HG.out.1 (by simp))
  have cn := cell_at HG.out.2.1 (n - 1)
  rw [wcells_get, ht] at cn
  have HV := hid (And.intro hn4 (And.intro hn1 (And.intro ht (And.intro ht0 (And.intro hvt (And.intro hs (And.intro hsb hst)))))))
  have HL1 := hid hleft1
  have HL2 := hid hleft2
  have n0 : ¬ (n : Int) = 0 := by omega
  have n1 : (0 : Int) ≤ (n : Int) - 1 := by omega
  have n2 : (n : Int) - 1 < 4 := by omega
  have n3 : ((n : Int) - 1).toNat = n - 1 := by omega
  have n4 : (n : Int) ≤ 4 := by omega
  clear hleft1 hleft2 hvt ht0 ht hsb hst hlz htb'
  go_upto_region 7 with (go_at_call 70; refine (hlead _).mono ?_; rintro e w2 ⟨rfl, hw2⟩; obtain rfl : w' = w2 := hw2.symm)
  obtain ⟨i24, hi24⟩ := Option.isSome_iff_exists.1 (show (Tryd.prog.info? 24).isSome = true by kernel_rfl)
  have cS := fun g w => slice_to (P := Tryd.prog) Tryd.underlying81 hi24 g (n + 1) (n + 1) n (by omega) w
  refine wp_region_N (fun _ => True) (fun _ => true) (by kernel_rfl) ?_
  have HW := hid (Mod.refl [] w').drew
  generalize w'.drew = wd at *
  refine regA 0 30 (v := ?_) rfl rfl (by kernel_rfl) (by kernel_rfl) (by kernel_rfl) (fun _ _ _ h => h) (by rfl) (fun w => ?_) ?_; rotate_left; (go_simp; first | done | with_reducible rfl); (try simp only [Act.put, List.setIfInBounds_toArray, List.set_cons_zero, List.set_cons_succ])
  refine regA 1 31 (v := ?_) rfl rfl (by kernel_rfl) (by kernel_rfl) (by kernel_rfl) (fun _ _ _ h => h) (by rfl) (fun w => ?_) ?_; rotate_left; (go_simp; first | done | with_reducible rfl); (try simp only [Act.put, List.setIfInBounds_toArray, List.set_cons_zero, List.set_cons_succ])
  refine regA 2 32 (v := ?_) rfl rfl (by kernel_rfl) (by kernel_rfl) (by kernel_rfl) (fun _ _ _ h => h) (by rfl) (fun w => ?_) ?_; rotate_left; (go_simp; first | done | with_reducible rfl); (try simp only [Act.put, List.setIfInBounds_toArray, List.set_cons_zero, List.set_cons_succ])
  refine regA 4 34 (v := ?_) rfl rfl (by kernel_rfl) (by kernel_rfl) (by kernel_rfl) (fun _ _ _ h => h) (by rfl) (fun w => ?_) ?_; rotate_left; (go_simp; first | done | with_reducible rfl); (try simp only [Act.put, List.setIfInBounds_toArray, List.set_cons_zero, List.set_cons_succ])
  refine regA 6 36 (v := ?_) rfl rfl (by kernel_rfl) (by kernel_rfl) (by kernel_rfl) (fun _ _ _ h => h) (by rfl) (fun w => ?_) ?_; rotate_left; (go_simp; first | done | with_reducible rfl); (try simp only [Act.put, List.setIfInBounds_toArray, List.set_cons_zero, List.set_cons_succ])
  refine regA 7 37 (v := ?_) rfl rfl (by kernel_rfl) (by kernel_rfl) (by kernel_rfl) (fun _ _ _ h => h) (by rfl) (fun w => ?_) ?_; rotate_left; (go_simp; first | done | with_reducible rfl); (try simp only [Act.put, List.setIfInBounds_toArray, List.set_cons_zero, List.set_cons_succ])
  refine regOnly 3 (by kernel_rfl) rfl (by rfl) (fun K hK => ?_)
  go_wp2_with (go_at_call 71; refine (HL1.out _ HW.out).mono ?_; rintro e W3 ⟨go1, O1, rfl, hO1, sO1, vO1, gO1, lt1, hm1⟩; have H1 := hid (And.intro hO1 (And.intro sO1 (And.intro vO1 (And.intro gO1 (And.intro lt1 hm1))))); clear hO1 sO1 vO1 gO1 lt1 hm1)
  refine hK.out _ _ (fun _ h => h) ?_
  clear hK
  (try simp only [Act.put, List.setIfInBounds_toArray, List.set_cons_zero, List.set_cons_succ])
  refine regA 5 35 (v := .slice (some ⟨go1, 0, none⟩) n (n + 1)) rfl rfl (by kernel_rfl) (by kernel_rfl) (by kernel_rfl) (fun _ _ _ h => h) (by rfl) (fun w => ?_) ?_
  · go_simp
  (try simp only [Act.put, List.setIfInBounds_toArray, List.set_cons_zero, List.set_cons_succ])
  refine regOnly 8 (by kernel_rfl) rfl (by rfl) (fun K hK => ?_)
  go_wp2_with (go_at_call 71; refine (HL2.out _ (HW.out.trans H1.out.2.2.2.2.2)).mono ?_; rintro e W4 ⟨go2, O2, rfl, hO2, sO2, vO2, gO2, lt2, hm2⟩; have H2 := hid (And.intro hO2 (And.intro sO2 (And.intro vO2 (And.intro gO2 (And.intro lt2 hm2))))); clear hO2 sO2 vO2 gO2 lt2 hm2)
  refine hK.out _ _ (fun _ h => h) ?_
  clear hK
  (try simp only [Act.put, List.setIfInBounds_toArray, List.set_cons_zero, List.set_cons_succ])
  refine regA 9 11 (v := ?_) rfl rfl (by kernel_rfl) (by kernel_rfl) (by kernel_rfl) (fun _ _ _ h => h) (by rfl) (fun w => ?_) ?_; rotate_left; (go_simp; first | done | with_reducible rfl); (try simp only [Act.put, List.setIfInBounds_toArray, List.set_cons_zero, List.set_cons_succ])
  refine regA 10 12 (v := ?_) rfl rfl (by kernel_rfl) (by kernel_rfl) (by kernel_rfl) (fun _ _ _ h => h) (by rfl) (fun w => ?_) ?_; rotate_left; (go_simp; first | done | with_reducible rfl); (try simp only [Act.put, List.setIfInBounds_toArray, List.set_cons_zero, List.set_cons_succ])
  refine regDone (by kernel_rfl) ?_ _
  go_upto_block 0 with fail
  have hdw : DivW w tq tr t4 t5 go1 go2 O1 O2 W4 := by
    have h4 := (HW.out.trans H1.out.2.2.2.2.2).trans H2.out.2.2.2.2.2
    obtain ⟨ga, gb, g4, g5, gq, gr⟩ := HG.out
    have l1 := lt_of_block H1.out.2.2.2.1
    have l2 := lt_of_block gr
    have l3 := HW.out.size
    obtain ⟨hm, hta, htb, ht4, ht5, htq, htr⟩ := HM.out
    exact ⟨h4.get gq (by simp), h4.get gr (by simp), h4.get g4 (by simp), h4.get g5 (by simp), H2.out.2.2.2.2.2.get H1.out.2.2.2.1 (by simp), H2.out.2.2.2.1, hm.trans h4, by
      have := H1.out.2.2.2.2.1
      have := H2.out.2.2.2.2.1
      omega⟩
  have HDW := hid hdw
  obtain ⟨M, hM⟩ : ∃ M, M = O1.take n := ⟨_, rfl⟩
  have hnt := norm_top hs (by rw [List.length_take]; exact Nat.min_eq_left hn4) hn1 (SU.out.2.1.take n) (by rw [List.getElem?_take, if_pos (by omega)]; exact HV.out.2.2.1) HV.out.2.2.2.2.2.2.1 H1.out.1 H1.out.2.1 H1.out.2.2.1
  rw [← hM, ← HV.out.2.2.2.2.1] at hnt
  obtain ⟨vM, td, htd, htdl⟩ := hnt
  have hML : M.length = n := by rw [hM, List.length_take, H1.out.1]; omega
  have sM : Small M := by rw [hM]; exact H1.out.2.1.take n
  have hD0 : 0 < val M := Nat.lt_of_lt_of_le (Nat.mul_pos (Nat.pow_pos BB_pos) (by have := HV.out.2.2.2.2.2.2.2; omega)) (top_le htd)
  have hDn : val M ≤ BB ^ n := by have := val_lt sM; rw [hML] at this; omega
  have hst := div_start (w := val [u0, u1, u2, u3, u4, u5, u6, u7]) (val_lt SU.out.1) hs hn1 (by omega) (top_le htd) (by have := HV.out.2.2.2.2.2.2.2; omega)
  have HP := hid (And.intro hML (And.intro sM (And.intro hD0 (And.intro hDn (And.intro hst (And.intro htd (And.intro htdl (And.intro vM hM))))))))
  clear hdw vM htd htdl hML sM hD0 hDn hst hM HS HN HL1 HL2 hlead cn cS hi24 n3
  go_wp2_with fail
  go_loopg [13] (9 - n) (fun gk v W' => DivRel W4 tq go2 n (val M) (val [u0, u1, u2, u3, u4, u5, u6, u7] * 2 ^ s) gk v W')
  case atStart =>
    refine ⟨O2, [0, 0, 0, 0, 0, 0, 0, 0], by rw [show ((9 - n : Nat) : Int) - 1 = 8 - (n : Int) by omega], by omega, H2.out.1, H2.out.2.1, rfl, Small.zeros 8, ?_, ?_, ?_, HDW.out.l, HDW.out.q, Mod.refl _ _⟩
    · rw [show val [0, 0, 0, 0, 0, 0, 0, 0] = 0 from val_zeros 8, Nat.mul_zero, Nat.zero_add]
      exact H2.out.2.2.1.symm
    · rw [H2.out.2.2.1]
      exact HP.out.2.2.2.2.1
    · intro j h1 h2
      have : [0, 0, 0, 0, 0, 0, 0, 0] = List.replicate 8 0 := rfl
      rw [this, List.getElem?_replicate, if_pos h2]
  case round =>
    obtain ⟨A, B, rfl, hgn, hA, sA, hB, sB, hN, hlt, zB, hgo, hgq, hm⟩ := hrel
    by_cases hg0 : gk = 0
    · subst hg0
      rw [show ((0 : Nat) : Int) - 1 = -1 by omega]
      obtain ⟨hML, sM, hD0, hDn, hst, htd, htdl, vM, hM⟩ := HP.out
      rw [Nat.pow_zero, Nat.mul_one] at hlt
      obtain ⟨qB, rA⟩ := div_unique hN hlt
      have HAN := hid (Nat.lt_of_lt_of_le hlt hDn)
      have hp2 : 0 < 2 ^ s := Nat.pow_pos (by decide)
      rw [vM, Nat.mul_div_mul_right _ _ hp2] at qB
      rw [vM, Nat.mul_mod_mul_right] at rA
      obtain ⟨a0, ha0⟩ : ∃ a0, A[0]? = some a0 := ⟨_, List.getElem?_eq_getElem (by omega)⟩
      obtain ⟨an, han⟩ : ∃ an, A[n]? = some an := ⟨_, List.getElem?_eq_getElem (by omega)⟩
      have han0 : an = 0 := by
        have h1 := top_le han
        apply Nat.eq_zero_of_not_pos
        intro hpos
        have : BB ^ n * 1 ≤ BB ^ n * an := Nat.mul_le_mul_left _ hpos
        omega
      have ha00 : a0 % 2 ^ s = 0 := by
        have h1 := val_split A 1 (by omega)
        rw [val_take_succ (i := 0) ha0, List.take_zero, Nat.pow_zero, Nat.pow_one, show val [] = 0 from rfl, Nat.zero_add, Nat.mul_one, rA, BB_split hs] at h1
        have h2 := congrArg (· % 2 ^ s) h1
        simp only [Nat.mul_mod_left] at h2
        rw [Nat.mul_right_comm, Nat.add_mul_mod_self_right] at h2
        exact h2.symm
      have hgr : wr.heap[tr]? = some (.cells (wcells [0, 0, 0, 0]) 26) := hm.get HDW.out.r (by have := HDW.out.lt; simp only [List.mem_cons, List.not_mem_nil, or_false]; omega)
      have HI := hid (And.intro hA (And.intro sA (And.intro hB (And.intro sB (And.intro hgo (And.intro hgq (And.intro hm (And.intro qB (And.intro rA (And.intro han (And.intro han0 hgr)))))))))))
      clear hgn hA sA hB sB hN hlt zB hgo hgq hm qB rA han han0 hgr hML sM hD0 hDn hst htd htdl vM hM HP
      go_wp2_with fail
      go_loopg [96] n (fun gk v W' => RestRel wr tr n s A gk v W')
      case atStart =>
        refine ⟨0, a0, [0, 0, 0, 0], rfl, rfl, rfl, Small.zeros 4, ?_, ha0, ?_, HI.out.2.2.2.2.2.2.2.2.2.2.2, Mod.refl _ _⟩
        · intro k h1 h2
          have : [0, 0, 0, 0] = List.replicate 4 0 := rfl
          rw [this, List.getElem?_replicate, if_pos h2]
        · rw [ha00, List.take_zero, show val [] = 0 from rfl, show val [0, 0, 0, 0] = 0 from val_zeros 4, Nat.zero_mul, Nat.zero_mul]
      case round =>
        obtain ⟨j, x, Rw, rfl, hgj, hRw, sRw, zRw, hx, vRw, hgr, hmr⟩ := hrel
        by_cases hj : j < n
        · have j1 : (j : Int) < (n : Int) := by omega
          have j0 : (0 : Int) ≤ (j : Int) := by omega
          have j4 : (j : Int) < 4 := by omega
          have j9 : (j : Int) < 9 := by omega
          have j10 : (j : Int) + 1 < 9 := by omega
          have j11 : (0 : Int) ≤ (j : Int) + 1 := by omega
          obtain ⟨y, hy⟩ : ∃ y, A[j + 1]? = some y := ⟨_, List.getElem?_eq_getElem (by have := HI.out.1; omega)⟩
          have sx : x < BB := HI.out.2.1.get hx
          have sy : y < BB := HI.out.2.1.get hy
          have hz := zRw j (Nat.le_refl _) (by omega)
          have fz := free_at hgr j
          have cz := cell_at hgr j
          rw [wcells_get, hz] at cz
          have hgo := hmr.get HI.out.2.2.2.2.1 (by have := HDW.out.lt; rw [List.mem_singleton]; omega)
          have cx := cell_at hgo j
          rw [wcells_get, hx] at cx
          have cy := cell_at hgo (j + 1)
          rw [wcells_get, hy] at cy
          have hstep := right_step (x := x) (y := y) (S := 2 ^ s) (T := 2 ^ (64 - s)) (BB_split hs).symm hx hz vRw
          have hshr : (x : Int) / 2 ^ s = ((x / 2 ^ s : Nat) : Int) := by
            simp only [Int.natCast_ediv, Int.natCast_pow]
            rfl
          by_cases hs0 : 0 < s
          · obtain ⟨o1, o2, o3⟩ := right_part sx sy hs0 hs
            have hor : bits .or .u64 ((x / 2 ^ s : Nat) : Int) (IntKind.u64.wrap ((y : Int) * 2 ^ (64 - s))) = ((x / 2 ^ s + y % 2 ^ s * 2 ^ (64 - s) : Nat) : Int) := by
              rw [← o1, wrap_shl]
              have hmb := Nat.mod_lt (y * 2 ^ (64 - s)) BB_pos
              unfold BB at o3 hmb ⊢
              exact bits_or_u64_nat _ _ o3 hmb
            generalize x / 2 ^ s + y % 2 ^ s * 2 ^ (64 - s) = z at *
            generalize x / 2 ^ s = xr at *
            have gs := get_setCell_self hgr j (.int .u64 (xr : Int))
            rw [wcells_set] at gs
            have HQ := hid (And.intro hgj (And.intro hRw (And.intro sRw (And.intro zRw (And.intro hy (And.intro hstep (And.intro o2 (And.intro hmr gs))))))))
            clear hgj hRw sRw zRw vRw hstep o1 o2 o3 hgr hmr gs hgo sx sy hx hy hz
            go_upto_region 24 with fail
            have gs := HQ.out.2.2.2.2.2.2.2.2
            have cr := cell_at gs j
            rw [wcells_get, List.getElem?_set_self (by have := HQ.out.2.1; omega)] at cr
            have fr := free_at gs j
            have cy2 : (wr.setCell ⟨tr, j, none⟩ (.int .u64 (xr : Int))).cell? ⟨go2, j + 1, none⟩ = some (.int .u64 (y : Int)) := by
              have := get_setCell (p := ⟨tr, j, none⟩) (HQ.out.2.2.2.2.2.2.2.1.get HI.out.2.2.2.2.1 (by have := HDW.out.lt; rw [List.mem_singleton]; omega)) (by have := HDW.out.lt; show go2 ≠ tr; omega) (.int .u64 (xr : Int))
              rw [cell_at this, wcells_get, HQ.out.2.2.2.2.1]
              rfl
            have hm7 := hid (HQ.out.2.2.2.2.2.2.2.1.setCell (p := ⟨tr, j, none⟩) (.inl (by simp)) (.int .u64 (xr : Int)))
            generalize wr.setCell ⟨tr, j, none⟩ (.int .u64 (xr : Int)) = W7 at *
            have hS : Sat3 ⟨tr, j, none⟩ ⟨go2, j + 1, none⟩ ⟨go2, j + 1, none⟩ xr y y W7.drew := ⟨cr, cy2, cy2⟩
            have j12 : ((j : Int) + 1).toNat = j + 1 := by omega
            have j13 : IntKind.i64.wrap ((j : Int) + 1) = (j : Int) + 1 := IntWalk.i64_in _ (by omega)
            have j14 : (s : Int) ≤ 64 := by omega
            have j15 : IntKind.u64.wrap (64 - (s : Int)) = 64 - (s : Int) := by rw [IntKind.wrap_u64]; omega
            have j16 : (64 - (s : Int)).toNat = 64 - s := by omega
            refine wp_region_N (Sat3 ⟨tr, j, none⟩ ⟨go2, j + 1, none⟩ ⟨go2, j + 1, none⟩ xr y y) (fun i => !(i == 13)) (by kernel_rfl) ?_
            refine regA 0 109 (v := ?_) rfl rfl (by kernel_rfl) (by kernel_rfl) (by kernel_rfl) (fun _ _ _ h => h) (by rfl) (fun w => ?_) ?_; rotate_left; (go_simp; first | done | with_reducible rfl); (try simp only [Act.put, List.setIfInBounds_toArray, List.set_cons_zero, List.set_cons_succ])
            refine regA 1 110 (v := .pointer (some ⟨tr, j, none⟩)) rfl rfl (by kernel_rfl) (by kernel_rfl) (by kernel_rfl) (fun _ _ _ h => h) (by rfl) (fun w => ?_) ?_
            · go_simp
            (try simp only [Act.put, List.setIfInBounds_toArray, List.set_cons_zero, List.set_cons_succ])
            refine regS 2 111 (v := ?_) hS rfl rfl (by kernel_rfl) (by kernel_rfl) (by kernel_rfl) (by kernel_rfl) (fun _ _ _ h => h) (by rfl) (fun w hSw => ?_) ?_; rotate_left; (simp only [Sat3] at hSw; go_simp; first | done | with_reducible rfl); (try simp only [Act.put, List.setIfInBounds_toArray, List.set_cons_zero, List.set_cons_succ])
            refine regA 3 112 (v := ?_) rfl rfl (by kernel_rfl) (by kernel_rfl) (by kernel_rfl) (fun _ _ _ h => h) (by rfl) (fun w => ?_) ?_; rotate_left; (go_simp; first | done | with_reducible rfl); (try simp only [Act.put, List.setIfInBounds_toArray, List.set_cons_zero, List.set_cons_succ])
            refine regA 4 113 (v := ?_) rfl rfl (by kernel_rfl) (by kernel_rfl) (by kernel_rfl) (fun _ _ _ h => h) (by rfl) (fun w => ?_) ?_; rotate_left; (go_simp; first | done | with_reducible rfl); (try simp only [Act.put, List.setIfInBounds_toArray, List.set_cons_zero, List.set_cons_succ])
            refine regA 5 114 (v := ?_) rfl rfl (by kernel_rfl) (by kernel_rfl) (by kernel_rfl) (fun _ _ _ h => h) (by rfl) (fun w => ?_) ?_; rotate_left; (go_simp; first | done | with_reducible rfl); (try simp only [Act.put, List.setIfInBounds_toArray, List.set_cons_zero, List.set_cons_succ])
            refine regA 6 115 (v := .pointer (some ⟨go2, j + 1, none⟩)) rfl rfl (by kernel_rfl) (by kernel_rfl) (by kernel_rfl) (fun _ _ _ h => h) (by rfl) (fun w => ?_) ?_
            · go_simp
            (try simp only [Act.put, List.setIfInBounds_toArray, List.set_cons_zero, List.set_cons_succ])
            refine regS 7 116 (v := ?_) hS rfl rfl (by kernel_rfl) (by kernel_rfl) (by kernel_rfl) (by kernel_rfl) (fun _ _ _ h => h) (by rfl) (fun w hSw => ?_) ?_; rotate_left; (simp only [Sat3] at hSw; go_simp; first | done | with_reducible rfl); (try simp only [Act.put, List.setIfInBounds_toArray, List.set_cons_zero, List.set_cons_succ])
            refine regA 8 117 (v := ?_) rfl rfl (by kernel_rfl) (by kernel_rfl) (by kernel_rfl) (fun _ _ _ h => h) (by rfl) (fun w => ?_) ?_; rotate_left; (go_simp; first | done | with_reducible rfl); (try simp only [Act.put, List.setIfInBounds_toArray, List.set_cons_zero, List.set_cons_succ])
            refine regA 9 118 (v := ?_) rfl rfl (by kernel_rfl) (by kernel_rfl) (by kernel_rfl) (fun _ _ _ h => h) (by rfl) (fun w => ?_) ?_; rotate_left; (go_simp; first | done | with_reducible rfl); (try simp only [Act.put, List.setIfInBounds_toArray, List.set_cons_zero, List.set_cons_succ])
            refine regA 10 119 (v := ?_) rfl rfl (by kernel_rfl) (by kernel_rfl) (by kernel_rfl) (fun _ _ _ h => h) (by rfl) (fun w => ?_) ?_; rotate_left; (go_simp; first | done | with_reducible rfl); (try simp only [Act.put, List.setIfInBounds_toArray, List.set_cons_zero, List.set_cons_succ])
            refine regA 11 120 (v := ?_) rfl rfl (by kernel_rfl) (by kernel_rfl) (by kernel_rfl) (fun _ _ _ h => h) (by rfl) (fun w => ?_) ?_; rotate_left; (go_simp; first | done | with_reducible rfl); (try simp only [Act.put, List.setIfInBounds_toArray, List.set_cons_zero, List.set_cons_succ])
            refine regA 12 121 (v := .pointer (some ⟨tr, j, none⟩)) rfl rfl (by kernel_rfl) (by kernel_rfl) (by kernel_rfl) (fun _ _ _ h => h) (by rfl) (fun w => ?_) ?_
            · go_simp
            (try simp only [Act.put, List.setIfInBounds_toArray, List.set_cons_zero, List.set_cons_succ])
            clear hS
            refine regOnly 13 (by kernel_rfl) rfl (by rfl) (fun K hK => ?_)
            go_wp2_with fail
            refine hK.out _ _ (fun h _ => absurd h (by decide)) ?_
            clear hK
            (try simp only [Act.put, List.setIfInBounds_toArray, List.set_cons_zero, List.set_cons_succ])
            refine regDone (by kernel_rfl) ?_ _
            go_wp2_with fail
            obtain ⟨hgj, hRw, sRw, zRw, hy, hstep, o2, hmr, gs⟩ := HQ.out
            have gs2 := get_setCell_self (show W7.drew.heap[tr]? = _ from gs) j (.int .u64 (z : Int))
            rw [wcells_set, List.set_set] at gs2
            go_roundg (gk - 1)
            case measure => omega
            case rel =>
              refine ⟨j + 1, y, Rw.set j z, rfl, by omega, by rw [List.length_set]; exact hRw, sRw.set _ o2, ?_, hy, hstep, gs2, hm7.out.drew.setCell (.inl (by simp)) _⟩
              intro k h1 h2
              rw [List.getElem?_set_ne (by omega)]
              exact zRw k (by omega) h2
          · have s0 : s = 0 := by omega
            have hxx : x / 2 ^ s + y % 2 ^ s * 2 ^ (64 - s) = x / 2 ^ s := by rw [s0, Nat.pow_zero, Nat.mod_one, Nat.zero_mul, Nat.add_zero]
            rw [hxx] at hstep
            have o3 : x / 2 ^ s < BB := Nat.lt_of_le_of_lt (Nat.div_le_self _ _) sx
            clear hxx s0
            generalize x / 2 ^ s = xr at *
            have gs := get_setCell_self hgr j (.int .u64 (xr : Int))
            rw [wcells_set] at gs
            have HQ := hid (And.intro hgj (And.intro hRw (And.intro sRw (And.intro zRw (And.intro hy (And.intro hstep (And.intro o3 (And.intro hmr gs))))))))
            clear hgj hRw sRw zRw vRw hstep o3 hgr hmr gs hgo sx sy hx hy hz
            go_wp2_with fail
            obtain ⟨hgj, hRw, sRw, zRw, hy, hstep, o2, hmr, gs⟩ := HQ.out
            go_roundg (gk - 1)
            case measure => omega
            case rel =>
              refine ⟨j + 1, y, Rw.set j xr, rfl, by omega, by rw [List.length_set]; exact hRw, sRw.set _ o2, ?_, hy, hstep, gs, hmr.setCell (.inl (by simp)) _⟩
              intro k h1 h2
              rw [List.getElem?_set_ne (by omega)]
              exact zRw k (by omega) h2
        · have j1 : ¬ (j : Int) < (n : Int) := by omega
          obtain rfl : j = n := by omega
          obtain ⟨hA, sA, hB, sB, hgo, hgq, hm, qB, rA, han, han0, -⟩ := HI.out
          have hxn : x = 0 := by
            rw [hx] at han
            rw [Option.some.inj han]
            exact han0
          have hgq2 := hmr.get hgq (by have := HDW.out.lt; rw [List.mem_singleton]; omega)
          have hg4 := hmr.get (hm.get HDW.out.f4 (by have := HDW.out.lt; simp only [List.mem_cons, List.not_mem_nil, or_false]; omega)) (by have := HDW.out.lt; rw [List.mem_singleton]; omega)
          have hg5 := hmr.get (hm.get HDW.out.f5 (by have := HDW.out.lt; simp only [List.mem_cons, List.not_mem_nil, or_false]; omega)) (by have := HDW.out.lt; rw [List.mem_singleton]; omega)
          have vR : val Rw = val [u0, u1, u2, u3, u4, u5, u6, u7] % val [v0, v1, v2, v3] := by
            have h1 := val_split A j (by omega)
            have h2 : val (A.drop j) = 0 := by
              apply Nat.eq_zero_of_not_pos
              intro hpos
              have h3 : BB ^ j * 1 ≤ BB ^ j * val (A.drop j) := Nat.mul_le_mul_left _ hpos
              have := HAN.out
              omega
            rw [h2, Nat.mul_zero, Nat.add_zero] at h1
            rw [hxn, Nat.zero_mod, Nat.zero_mul, Nat.add_zero, Nat.add_zero, ← h1, rA] at vRw
            exact Nat.eq_of_mul_eq_mul_right hp2 vRw
          have hmW : Mod [go2, tq, tr] W4 wr := (hm.mono (S' := [go2, tq, tr]) (fun b hb => .inl (by simp only [List.mem_cons, List.not_mem_nil, or_false] at hb ⊢; omega))).trans (hmr.mono (S' := [go2, tq, tr]) (fun b hb => .inl (by rw [List.mem_singleton.1 hb]; simp)))
          obtain ⟨b0, b1, b2, b3, b4, b5, b6, b7, rfl⟩ : ∃ a b c d e f g h, B = [a, b, c, d, e, f, g, h] := by
            match B, hB with
            | [a, b, c, d, e, f, g, h], _ => exact ⟨_, _, _, _, _, _, _, _, rfl⟩
          obtain ⟨r0, r1, r2, r3, rfl⟩ : ∃ a b c d, Rw = [a, b, c, d] := by
            match Rw, hRw with
            | [a, b, c, d], _ => exact ⟨_, _, _, _, rfl⟩
          have HE := hid (And.intro sB (And.intro sRw (And.intro qB (And.intro vR (And.intro hmW (And.intro hg4 hg5))))))
          have hS : SatR tq tr [b0, b1, b2, b3, b4, b5, b6, b7] [r0, r1, r2, r3] wr.drew := ⟨hgq2, hgr⟩
          clear hA sA hB sB hgo hgq hm qB rA han han0 hxn hgq2 hg4 hg5 vR hmW hRw sRw zRw hx vRw hgr hmr hgj HI HAN
          go_upto_region 26 with fail
          have hg4 : wr.drew.heap[t4]? = _ := HE.out.2.2.2.2.2.1
          have hg5 : wr.drew.heap[t5]? = _ := HE.out.2.2.2.2.2.2
          have hmW : Mod [go2, tq, tr] W4 wr.drew := HE.out.2.2.2.2.1.drew
          refine wp_region_N (SatR tq tr [b0, b1, b2, b3, b4, b5, b6, b7] [r0, r1, r2, r3]) (fun i => !(i == 3 || i == 4)) (by kernel_rfl) ?_
          generalize wr.drew = wz at *
          refine regS 0 123 (v := wv [b0, b1, b2, b3, b4, b5, b6, b7]) hS rfl rfl (by kernel_rfl) (by kernel_rfl) (by kernel_rfl) (by kernel_rfl) (fun _ _ _ h => h) (by rfl) (fun w hSw => ?_) ?_
          · have c0 := cell_at hSw.1 0
            have c1 := cell_at hSw.1 1
            have c2 := cell_at hSw.1 2
            have c3 := cell_at hSw.1 3
            have c4 := cell_at hSw.1 4
            have c5 := cell_at hSw.1 5
            have c6 := cell_at hSw.1 6
            have c7 := cell_at hSw.1 7
            simp only [wcells_get] at c0 c1 c2 c3 c4 c5 c6 c7
            clear hSw
            simp only [wv]
            go_simp
          (try simp only [Act.put, List.setIfInBounds_toArray, List.set_cons_zero, List.set_cons_succ])
          refine regS 1 124 (v := wv [r0, r1, r2, r3]) hS rfl rfl (by kernel_rfl) (by kernel_rfl) (by kernel_rfl) (by kernel_rfl) (fun _ _ _ h => h) (by rfl) (fun w hSw => ?_) ?_
          · have c0 := cell_at hSw.2 0
            have c1 := cell_at hSw.2 1
            have c2 := cell_at hSw.2 2
            have c3 := cell_at hSw.2 3
            simp only [wcells_get] at c0 c1 c2 c3
            clear hSw
            simp only [wv]
            go_simp
          (try simp only [Act.put, List.setIfInBounds_toArray, List.set_cons_zero, List.set_cons_succ])
          have d0 := cell_at hg4 0
          have d1 := cell_at hg4 1
          have d2 := cell_at hg4 2
          have d3 := cell_at hg4 3
          have d4 := cell_at hg4 4
          have d5 := cell_at hg4 5
          have d6 := cell_at hg4 6
          have d7 := cell_at hg4 7
          simp only [wcells_get] at d0 d1 d2 d3 d4 d5 d6 d7
          have f0 := free_at hg4 0
          have f1 := free_at hg4 1
          have f2 := free_at hg4 2
          have f3 := free_at hg4 3
          have f4 := free_at hg4 4
          have f5 := free_at hg4 5
          have f6 := free_at hg4 6
          have f7 := free_at hg4 7
          have hne : tq ≠ t4 ∧ tr ≠ t4 ∧ t5 ≠ t4 ∧ t4 ≠ t5 := by have := HDW.out.lt; omega
          have HN2 := hid (And.intro hg4 (And.intro hg5 (And.intro hmW (And.intro hS hne))))
          clear hg4 hg5 hmW hS hne
          unfold wv
          refine regOnly 2 (by kernel_rfl) rfl (by rfl) (fun K hK => ?_)
          go_wp2_with fail
          refine hK.out _ _ (fun _ h => ?_) ?_
          · have n1 := HN2.out.2.2.2.2.1
            have n2 := HN2.out.2.2.2.2.2.1
            obtain ⟨h1, h2⟩ := h
            exact ⟨get_setCell (p := ⟨t4, 7, none⟩) (get_setCell (p := ⟨t4, 6, none⟩) (get_setCell (p := ⟨t4, 5, none⟩) (get_setCell (p := ⟨t4, 4, none⟩) (get_setCell (p := ⟨t4, 3, none⟩) (get_setCell (p := ⟨t4, 2, none⟩) (get_setCell (p := ⟨t4, 1, none⟩) (get_setCell (p := ⟨t4, 0, none⟩) (h1) (n1) _) (n1) _) (n1) _) (n1) _) (n1) _) (n1) _) (n1) _) (n1) _, get_setCell (p := ⟨t4, 7, none⟩) (get_setCell (p := ⟨t4, 6, none⟩) (get_setCell (p := ⟨t4, 5, none⟩) (get_setCell (p := ⟨t4, 4, none⟩) (get_setCell (p := ⟨t4, 3, none⟩) (get_setCell (p := ⟨t4, 2, none⟩) (get_setCell (p := ⟨t4, 1, none⟩) (get_setCell (p := ⟨t4, 0, none⟩) (h2) (n2) _) (n2) _) (n2) _) (n2) _) (n2) _) (n2) _) (n2) _) (n2) _⟩
          clear hK
          (try simp only [Act.put, List.setIfInBounds_toArray, List.set_cons_zero, List.set_cons_succ])
          clear d0 d1 d2 d3 d4 d5 d6 d7 f0 f1 f2 f3 f4 f5 f6 f7
          refine regAbs (fun W => W.heap[t4]? = some (.cells (wcells [b0, b1, b2, b3, b4, b5, b6, b7]) 60) ∧ W.heap[t5]? = some (.cells (wcells [0, 0, 0, 0]) 26) ∧ Mod [go2, tq, tr, t4] W4 W) ⟨set8_at HN2.out.1 b0 b1 b2 b3 b4 b5 b6 b7, get_setCell (p := ⟨t4, 7, none⟩) (get_setCell (p := ⟨t4, 6, none⟩) (get_setCell (p := ⟨t4, 5, none⟩) (get_setCell (p := ⟨t4, 4, none⟩) (get_setCell (p := ⟨t4, 3, none⟩) (get_setCell (p := ⟨t4, 2, none⟩) (get_setCell (p := ⟨t4, 1, none⟩) (get_setCell (p := ⟨t4, 0, none⟩) (HN2.out.2.1) (HN2.out.2.2.2.2.2.2.1) _) (HN2.out.2.2.2.2.2.2.1) _) (HN2.out.2.2.2.2.2.2.1) _) (HN2.out.2.2.2.2.2.2.1) _) (HN2.out.2.2.2.2.2.2.1) _) (HN2.out.2.2.2.2.2.2.1) _) (HN2.out.2.2.2.2.2.2.1) _) (HN2.out.2.2.2.2.2.2.1) _, (((((((((HN2.out.2.2.1.mono (S' := [go2, tq, tr, t4]) (fun b hb => .inl (by simp only [List.mem_cons, List.not_mem_nil, or_false] at hb ⊢; omega))).setCell (p := ⟨t4, 0, none⟩) (.inl (by simp)) _).setCell (p := ⟨t4, 1, none⟩) (.inl (by simp)) _).setCell (p := ⟨t4, 2, none⟩) (.inl (by simp)) _).setCell (p := ⟨t4, 3, none⟩) (.inl (by simp)) _).setCell (p := ⟨t4, 4, none⟩) (.inl (by simp)) _).setCell (p := ⟨t4, 5, none⟩) (.inl (by simp)) _).setCell (p := ⟨t4, 6, none⟩) (.inl (by simp)) _).setCell (p := ⟨t4, 7, none⟩) (.inl (by simp)) _)⟩ ?_
          rintro W9 ⟨hg4, hg5, hmW⟩
          have d0 := cell_at hg5 0
          have d1 := cell_at hg5 1
          have d2 := cell_at hg5 2
          have d3 := cell_at hg5 3
          simp only [wcells_get] at d0 d1 d2 d3
          have f0 := free_at hg5 0
          have f1 := free_at hg5 1
          have f2 := free_at hg5 2
          have f3 := free_at hg5 3
          have HN3 := hid (And.intro hg4 (And.intro hg5 hmW))
          clear hg4 hg5 hmW
          refine regOnly 3 (by kernel_rfl) rfl (by rfl) (fun K hK => ?_)
          go_wp2_with fail
          refine hK.out _ _ (fun h _ => absurd h (by decide)) ?_
          clear hK
          (try simp only [Act.put, List.setIfInBounds_toArray, List.set_cons_zero, List.set_cons_succ])
          clear d0 d1 d2 d3 f0 f1 f2 f3
          refine regAbs (fun W => W.heap[t4]? = some (.cells (wcells [b0, b1, b2, b3, b4, b5, b6, b7]) 60) ∧ W.heap[t5]? = some (.cells (wcells [r0, r1, r2, r3]) 26) ∧ Mod [go2, tq, tr, t4, t5] W4 W) ⟨get_setCell (p := ⟨t5, 3, none⟩) (get_setCell (p := ⟨t5, 2, none⟩) (get_setCell (p := ⟨t5, 1, none⟩) (get_setCell (p := ⟨t5, 0, none⟩) (HN3.out.1) (HN2.out.2.2.2.2.2.2.2) _) (HN2.out.2.2.2.2.2.2.2) _) (HN2.out.2.2.2.2.2.2.2) _) (HN2.out.2.2.2.2.2.2.2) _, set4_at HN3.out.2.1 r0 r1 r2 r3, (((((HN3.out.2.2.mono (S' := [go2, tq, tr, t4, t5]) (fun b hb => .inl (by simp only [List.mem_cons, List.not_mem_nil, or_false] at hb ⊢; omega))).setCell (p := ⟨t5, 0, none⟩) (.inl (by simp)) _).setCell (p := ⟨t5, 1, none⟩) (.inl (by simp)) _).setCell (p := ⟨t5, 2, none⟩) (.inl (by simp)) _).setCell (p := ⟨t5, 3, none⟩) (.inl (by simp)) _)⟩ ?_
          rintro W10 ⟨hg4, hg5, hmW⟩
          refine regA 4 6 (v := ?_) rfl rfl (by kernel_rfl) (by kernel_rfl) (by kernel_rfl) (fun _ _ _ h => h) (by rfl) (fun w => ?_) ?_; rotate_left; (go_simp; first | done | with_reducible rfl); (try simp only [Act.put, List.setIfInBounds_toArray, List.set_cons_zero, List.set_cons_succ])
          refine regDone (by kernel_rfl) ?_ _
          have d0 := cell_at hg4 0
          have d1 := cell_at hg4 1
          have d2 := cell_at hg4 2
          have d3 := cell_at hg4 3
          have d4 := cell_at hg4 4
          have d5 := cell_at hg4 5
          have d6 := cell_at hg4 6
          have d7 := cell_at hg4 7
          have f0 := cell_at hg5 0
          have f1 := cell_at hg5 1
          have f2 := cell_at hg5 2
          have f3 := cell_at hg5 3
          simp only [wcells_get] at d0 d1 d2 d3 d4 d5 d6 d7 f0 f1 f2 f3
          have HN4 := hid (And.intro hg4 (And.intro hg5 hmW))
          clear hg4 hg5 hmW
          go_wp2_with fail
          refine bodyPost_ret (v := .tuple #[wv [b0, b1, b2, b3, b4, b5, b6, b7], wv [r0, r1, r2, r3], .int .i64 0]) ?_ rfl ?_
          · simp [results, Tryd.results56, go_sem, d0, d1, d2, d3, d4, d5, d6, d7, f0, f1, f2, f3, wv]
          · obtain ⟨sB, sRw, qB, vR, -⟩ := HE.out
            refine ⟨⟨_, _, rfl, sB, rfl, sRw, qB, vR, rfl⟩, ?_⟩
            exact HDW.out.mod.trans' HN4.out.2.2 (fun b hb => .inr (by have := HDW.out.lt; simp only [List.mem_cons, List.not_mem_nil, or_false] at hb; omega))
    · obtain ⟨i, rfl⟩ : ∃ i, gk = i + 1 := ⟨gk - 1, by omega⟩
      have i0 : (0 : Int) ≤ (i : Int) := by omega
      have ie : ((i + 1 : Nat) : Int) - 1 = (i : Int) := by omega
      rw [ie]
      clear ie hg0
      obtain ⟨hML, sM, hD0, hDn, hst, htd, htdl, vM, hM⟩ := HP.out
      obtain ⟨hR0, hV, hval, hlow⟩ := div_place (n := n) sA (by omega) hDn hlt
      have hL : ((A.drop i).take (n + 1)).length = n + 1 := by rw [List.length_take, List.length_drop]; omega
      obtain ⟨hh, e1⟩ : ∃ x, ((A.drop i).take (n + 1))[n - 1 + 1]? = some x := ⟨_, List.getElem?_eq_getElem (by omega)⟩
      obtain ⟨lw, e2⟩ : ∃ x, ((A.drop i).take (n + 1))[n - 1]? = some x := ⟨_, List.getElem?_eq_getElem (by omega)⟩
      have sL : Small ((A.drop i).take (n + 1)) := (sA.drop i).take (n + 1)
      have hge := guess_ge sL (by omega) e1 e2 htd (by have := HV.out.2.2.2.2.2.2.2; omega) hV
      have f1 : A[i + n]? = some hh := by
        rw [List.getElem?_take, if_pos (by omega), List.getElem?_drop, show i + (n - 1 + 1) = i + n by omega] at e1
        exact e1
      have f2 : A[i + n - 1]? = some lw := by
        rw [List.getElem?_take, if_pos (by omega), List.getElem?_drop, show i + (n - 1) = i + n - 1 by omega] at e2
        exact e2
      have f3 : O1[n - 1]? = some td := by
        rw [hM, List.getElem?_take, if_pos (by omega)] at htd
        exact htd
      have hguess := guess_any hh lw td (sL.get e1) (sL.get e2) (sM.get htd)
      generalize hx0 : (if td ≤ hh then BB - 1 else (hh * BB + lw) / td) = x0 at hge hguess
      have c1 := cell_at hgo (i + n)
      rw [wcells_get, f1] at c1
      have c2 := cell_at hgo (i + n - 1)
      rw [wcells_get, f2] at c2
      have c3 := cell_at (hm.get HDW.out.d (by have := HDW.out.lt; simp only [List.mem_cons, List.not_mem_nil, or_false]; omega)) (n - 1)
      rw [wcells_get, f3] at c3
      have x0b : x0 < BB := by
        rw [← hx0]
        have h1 := sL.get e2
        have h2 := sL.get e1
        split
        · have := BB_pos; omega
        · rw [Nat.div_lt_iff_lt_mul (by have := HV.out.2.2.2.2.2.2.2; omega)]
          have h3 : (hh + 1) * BB ≤ td * BB := Nat.mul_le_mul_right BB (by omega)
          rw [Nat.add_mul, Nat.one_mul] at h3
          rw [Nat.mul_comm BB]
          omega
      have HI := hid (And.intro hgn (And.intro hA (And.intro sA (And.intro hB (And.intro sB (And.intro hN (And.intro hlt (And.intro zB (And.intro hgo (And.intro hgq (And.intro hm (And.intro hR0 (And.intro hV (And.intro hval (And.intro hlow (And.intro hL (And.intro sL (And.intro hge x0b))))))))))))))))))
      have HGU := hid hguess
      have b1 : (i : Int) + (n : Int) < 9 := by omega
      have b2 : (0 : Int) ≤ (i : Int) + (n : Int) := by omega
      have b3 : (0 : Int) ≤ (i : Int) + (n : Int) - 1 := by omega
      have b4 : (i : Int) + (n : Int) - 1 < 9 := by omega
      have b5 : ((i : Int) + (n : Int) - 1).toNat = i + n - 1 := by omega
      have b6 : (n : Int) - 1 < (n : Int) := by omega
      clear hx0 hgn hA sA hB sB hN hlt zB hgo hgq hm hR0 hV hval hlow hL sL hge x0b hguess e1 e2 f1 f2 f3 hML sM hD0 hDn hst htd htdl vM hM
      go_upto_region 11 with fail
      have b7 : IntKind.i64.wrap ((i : Int) + (n : Int)) = (i : Int) + (n : Int) := IntWalk.i64_in _ (by omega)
      have b8 : IntKind.i64.wrap ((i : Int) + (n : Int) - 1) = (i : Int) + (n : Int) - 1 := IntWalk.i64_in _ (by omega)
      have b9 : IntKind.i64.wrap ((n : Int) - 1) = (n : Int) - 1 := IntWalk.i64_in _ (by omega)
      have b10 : ((i : Int) + (n : Int)).toNat = i + n := by omega
      have b11 : ((n : Int) - 1).toNat = n - 1 := by omega
      have hS : Sat3 ⟨go2, i + n, none⟩ ⟨go2, i + n - 1, none⟩ ⟨go1, n - 1, none⟩ hh lw td wr.drew := ⟨c1, c2, c3⟩
      refine wp_region_N (Sat3 ⟨go2, i + n, none⟩ ⟨go2, i + n - 1, none⟩ ⟨go1, n - 1, none⟩ hh lw td) (fun i => !(i == 18)) (by kernel_rfl) ?_
      refine regA 0 45 (v := ?_) rfl rfl (by kernel_rfl) (by kernel_rfl) (by kernel_rfl) (fun _ _ _ h => h) (by rfl) (fun w => ?_) ?_; rotate_left; (go_simp; first | done | with_reducible rfl); (try simp only [Act.put, List.setIfInBounds_toArray, List.set_cons_zero, List.set_cons_succ])
      refine regA 1 46 (v := ?_) rfl rfl (by kernel_rfl) (by kernel_rfl) (by kernel_rfl) (fun _ _ _ h => h) (by rfl) (fun w => ?_) ?_; rotate_left; (go_simp; first | done | with_reducible rfl); (try simp only [Act.put, List.setIfInBounds_toArray, List.set_cons_zero, List.set_cons_succ])
      refine regA 2 47 (v := ?_) rfl rfl (by kernel_rfl) (by kernel_rfl) (by kernel_rfl) (fun _ _ _ h => h) (by rfl) (fun w => ?_) ?_; rotate_left; (go_simp; first | done | with_reducible rfl); (try simp only [Act.put, List.setIfInBounds_toArray, List.set_cons_zero, List.set_cons_succ])
      refine regA 3 48 (v := ?_) rfl rfl (by kernel_rfl) (by kernel_rfl) (by kernel_rfl) (fun _ _ _ h => h) (by rfl) (fun w => ?_) ?_; rotate_left; (go_simp; first | done | with_reducible rfl); (try simp only [Act.put, List.setIfInBounds_toArray, List.set_cons_zero, List.set_cons_succ])
      refine regA 4 49 (v := .pointer (some ⟨go2, i + n, none⟩)) rfl rfl (by kernel_rfl) (by kernel_rfl) (by kernel_rfl) (fun _ _ _ h => h) (by rfl) (fun w => ?_) ?_
      · go_simp
      (try simp only [Act.put, List.setIfInBounds_toArray, List.set_cons_zero, List.set_cons_succ])
      refine regS 5 50 (v := ?_) hS rfl rfl (by kernel_rfl) (by kernel_rfl) (by kernel_rfl) (by kernel_rfl) (fun _ _ _ h => h) (by rfl) (fun w hSw => ?_) ?_; rotate_left; (simp only [Sat3] at hSw; go_simp; first | done | with_reducible rfl); (try simp only [Act.put, List.setIfInBounds_toArray, List.set_cons_zero, List.set_cons_succ])
      refine regA 6 51 (v := ?_) rfl rfl (by kernel_rfl) (by kernel_rfl) (by kernel_rfl) (fun _ _ _ h => h) (by rfl) (fun w => ?_) ?_; rotate_left; (go_simp; first | done | with_reducible rfl); (try simp only [Act.put, List.setIfInBounds_toArray, List.set_cons_zero, List.set_cons_succ])
      refine regA 7 52 (v := ?_) rfl rfl (by kernel_rfl) (by kernel_rfl) (by kernel_rfl) (fun _ _ _ h => h) (by rfl) (fun w => ?_) ?_; rotate_left; (go_simp; first | done | with_reducible rfl); (try simp only [Act.put, List.setIfInBounds_toArray, List.set_cons_zero, List.set_cons_succ])
      refine regA 8 53 (v := ?_) rfl rfl (by kernel_rfl) (by kernel_rfl) (by kernel_rfl) (fun _ _ _ h => h) (by rfl) (fun w => ?_) ?_; rotate_left; (go_simp; first | done | with_reducible rfl); (try simp only [Act.put, List.setIfInBounds_toArray, List.set_cons_zero, List.set_cons_succ])
      refine regA 9 54 (v := ?_) rfl rfl (by kernel_rfl) (by kernel_rfl) (by kernel_rfl) (fun _ _ _ h => h) (by rfl) (fun w => ?_) ?_; rotate_left; (go_simp; first | done | with_reducible rfl); (try simp only [Act.put, List.setIfInBounds_toArray, List.set_cons_zero, List.set_cons_succ])
      refine regA 10 55 (v := ?_) rfl rfl (by kernel_rfl) (by kernel_rfl) (by kernel_rfl) (fun _ _ _ h => h) (by rfl) (fun w => ?_) ?_; rotate_left; (go_simp; first | done | with_reducible rfl); (try simp only [Act.put, List.setIfInBounds_toArray, List.set_cons_zero, List.set_cons_succ])
      refine regA 11 56 (v := .pointer (some ⟨go2, i + n - 1, none⟩)) rfl rfl (by kernel_rfl) (by kernel_rfl) (by kernel_rfl) (fun _ _ _ h => h) (by rfl) (fun w => ?_) ?_
      · go_simp
        intro hc
        omega
      (try simp only [Act.put, List.setIfInBounds_toArray, List.set_cons_zero, List.set_cons_succ])
      refine regS 12 57 (v := ?_) hS rfl rfl (by kernel_rfl) (by kernel_rfl) (by kernel_rfl) (by kernel_rfl) (fun _ _ _ h => h) (by rfl) (fun w hSw => ?_) ?_; rotate_left; (simp only [Sat3] at hSw; go_simp; first | done | with_reducible rfl); (try simp only [Act.put, List.setIfInBounds_toArray, List.set_cons_zero, List.set_cons_succ])
      refine regA 13 58 (v := ?_) rfl rfl (by kernel_rfl) (by kernel_rfl) (by kernel_rfl) (fun _ _ _ h => h) (by rfl) (fun w => ?_) ?_; rotate_left; (go_simp; first | done | with_reducible rfl); (try simp only [Act.put, List.setIfInBounds_toArray, List.set_cons_zero, List.set_cons_succ])
      refine regA 14 59 (v := ?_) rfl rfl (by kernel_rfl) (by kernel_rfl) (by kernel_rfl) (fun _ _ _ h => h) (by rfl) (fun w => ?_) ?_; rotate_left; (go_simp; first | done | with_reducible rfl); (try simp only [Act.put, List.setIfInBounds_toArray, List.set_cons_zero, List.set_cons_succ])
      refine regA 15 60 (v := ?_) rfl rfl (by kernel_rfl) (by kernel_rfl) (by kernel_rfl) (fun _ _ _ h => h) (by rfl) (fun w => ?_) ?_; rotate_left; (go_simp; first | done | with_reducible rfl); (try simp only [Act.put, List.setIfInBounds_toArray, List.set_cons_zero, List.set_cons_succ])
      refine regA 16 61 (v := .pointer (some ⟨go1, n - 1, none⟩)) rfl rfl (by kernel_rfl) (by kernel_rfl) (by kernel_rfl) (fun _ _ _ h => h) (by rfl) (fun w => ?_) ?_
      · go_simp
        intro hc
        omega
      (try simp only [Act.put, List.setIfInBounds_toArray, List.set_cons_zero, List.set_cons_succ])
      refine regS 17 62 (v := ?_) hS rfl rfl (by kernel_rfl) (by kernel_rfl) (by kernel_rfl) (by kernel_rfl) (fun _ _ _ h => h) (by rfl) (fun w hSw => ?_) ?_; rotate_left; (simp only [Sat3] at hSw; go_simp; first | done | with_reducible rfl); (try simp only [Act.put, List.setIfInBounds_toArray, List.set_cons_zero, List.set_cons_succ])
      clear hS
      refine regOnly 18 (by kernel_rfl) rfl (by rfl) (fun K hK => ?_)
      go_wp2_with (go_at_call 72; refine (HGU.out _).mono ?_; rintro e wg ⟨rfl, hmg⟩; have HMG := hid hmg; clear hmg)
      refine hK.out _ _ (fun h _ => absurd h (by decide)) ?_
      clear hK
      (try simp only [Act.put, List.setIfInBounds_toArray, List.set_cons_zero, List.set_cons_succ])
      refine regA 19 14 (v := ?_) rfl rfl (by kernel_rfl) (by kernel_rfl) (by kernel_rfl) (fun _ _ _ h => h) (by rfl) (fun w => ?_) ?_; rotate_left; (go_simp; first | done | with_reducible rfl); (try simp only [Act.put, List.setIfInBounds_toArray, List.set_cons_zero, List.set_cons_succ])
      refine regDone (by kernel_rfl) ?_ _
      obtain ⟨hgn, hA, sA, hB, sB, hN, hlt, zB, hgo, hgq, hm, hR0, hV, hval, hlow, hL, sL, hge, x0b⟩ := HI.out
      have hmg := HMG.out
      have hgo2 : wg.heap[go2]? = some (.cells (wcells A) 24) := hmg.get (show wr.drew.heap[go2]? = _ from hgo) (by simp)
      have hPl : (A.take i).length = i := by rw [List.length_take]; omega
      have hRl : (A.drop (i + (n + 1))).length = 9 - (i + (n + 1)) := by rw [List.length_drop, hA]
      have e9 : (A.take i).length + ((A.drop i).take (n + 1)).length + (A.drop (i + (n + 1))).length ≤ 9 := by omega
      have hcut := cut3 A i (n + 1)
      have ht1 := take_any (A.take i) ((A.drop i).take (n + 1)) (A.drop (i + (n + 1))) M x0 x0b (by rw [hL, HP.out.1]) sL HP.out.2.1 (by rw [HP.out.1]; exact hn4) go2 (9 - i) 24 go1 (n + 1) 24 O1 (by rw [HP.out.1]; exact HP.out.2.2.2.2.2.2.2.2) wg
        (by rw [← hcut]; exact hgo2) (hmg.get (show wr.drew.heap[go1]? = _ from hm.get HDW.out.d (by have := HDW.out.lt; simp only [List.mem_cons, List.not_mem_nil, or_false]; omega)) (by simp)) (by have := HDW.out.lt; omega) e9
      rw [hPl, hL, hRl, HP.out.1, show n + 1 + (9 - (i + (n + 1))) = 9 - i by omega] at ht1
      have HT1 := hid ht1
      have hmW : Mod [go2, tq] W4 wg := hm.drew.trans (hmg.mono (by simp))
      have HJ := hid (And.intro hgo2 (And.intro hmW (And.intro hPl (And.intro hRl (And.intro e9 hcut)))))
      clear hgn hA sA hB sB hN hlt zB hgo hgq hm hR0 hV hval hlow hL sL hge x0b hmg hgo2 hPl hRl e9 hcut ht1 hmW
      have b12 : (i : Int) ≤ 9 := by omega
      go_upto_block 2 with (go_at_call 73; refine HT1.out.mono ?_; rintro e w5 ⟨K0, o, rfl, hh1⟩; have HK := hid hh1; clear hh1)
      go_wp2_with fail
      obtain ⟨P, hP⟩ : ∃ P, P = A.take i := ⟨_, rfl⟩
      obtain ⟨R, hR⟩ : ∃ R, R = A.drop (i + (n + 1)) := ⟨_, rfl⟩
      obtain ⟨V, hV⟩ : ∃ V, V = val ((A.drop i).take (n + 1)) := ⟨_, rfl⟩
      have HPR := hid (And.intro hP (And.intro hR hV))
      rw [← hP, ← hR, ← hV] at HK
      have hRl := HJ.out.2.2.2.1
      have hPl := HJ.out.2.2.1
      rw [← hP] at hPl
      rw [← hR] at hRl
      have htried : Tried V (val M) (BB ^ (n + 1)) x0 (val K0) o := by
        obtain ⟨h1, h2, h3, h4, -⟩ := HK.out
        refine ⟨by rw [Nat.mul_comm (BB ^ (n + 1))]; exact h4, by rw [hV]; exact HI.out.2.2.2.2.2.2.2.2.2.2.2.2.2.2.2.2.2.1, h1, ?_⟩
        have := val_lt h3
        rw [h2] at this
        exact this
      have x0b : x0 < BB := HI.out.2.2.2.2.2.2.2.2.2.2.2.2.2.2.2.2.2.2
      clear hP hR hV HT1
      go_loopg [14, 15] x0 (fun gk xv ov W' => OverRel wg go2 n (val M) V P R gk xv ov W')
      case atStart =>
        exact ⟨x0, o, K0, rfl, rfl, rfl, x0b, HK.out.2.1, HK.out.2.2.1, htried, HK.out.2.2.2.2.1, HK.out.2.2.2.2.2⟩
      case round =>
        obtain ⟨x, oo, K1, rfl, rfl, hgx, hxb, hK1, sK1, htr, hgo, hmo⟩ := hrel
        have hoo : oo = 0 ∨ oo = 1 := by have := htr.one; omega
        rcases hoo with rfl | rfl
        · have hmq : Mod [go2, tq] W4 wr := HJ.out.2.1.trans' hmo (fun b hb => .inl (by rw [List.mem_singleton.1 hb]; simp))
          have hgq : wr.heap[tq]? = some (.cells (wcells B) 60) := hmo.get (HMG.out.get HI.out.2.2.2.2.2.2.2.2.2.1 (by simp)) (by have := HDW.out.lt; rw [List.mem_singleton]; omega)
          have fq := free_at hgq i
          have cq := cell_at hgq i
          have hBi := HI.out.2.2.2.2.2.2.2.1 i (by omega) (by have := HI.out.1; omega)
          rw [wcells_get, hBi] at cq
          have i8 : (i : Int) < 8 := by have := HI.out.1; omega
          have HX := hid (And.intro hgx (And.intro hxb (And.intro htr (And.intro hmq (And.intro hgo (And.intro hgq hBi))))))
          clear hgx hxb htr hmq hgo hgq hmo hBi
          go_wp2_with fail
          obtain ⟨hgx, hxb, htr, hmq, hgo, hgq, hBi⟩ := HX.out
          obtain ⟨hgn, hA, sA, hB, sB, hN, hlt, zB, -, -, -, hR0, hV, hval, hlow, -, -, -, -⟩ := HI.out
          obtain ⟨hPP, hRR, hVV⟩ := HPR.out
          obtain ⟨d1, d2⟩ := htr.done HP.out.2.2.1
          rw [← hVV] at hval
          obtain ⟨n1', n2'⟩ := div_next (n := n) (by omega) HP.out.2.2.1 hN hBi hR0 hval hlow hK1 d2
          rw [← hPP, ← hRR, ← d1] at n1'
          rw [← hPP, ← hRR] at n2'
          have gs := get_setCell_self hgq i (.int .u64 (x : Int))
          rw [wcells_set] at gs
          go_roundg i
          case measure => omega
          case rel =>
            refine ⟨P ++ K1 ++ R, B.set i x, rfl, by omega, by rw [List.length_append, List.length_append, hPl, hK1, hRl]; omega, ?_, by rw [List.length_set]; exact hB, sB.set _ hxb, n1', n2', ?_, get_setCell hgo (by have := HDW.out.lt; show go2 ≠ tq; omega) _, gs, hmq.setCell (.inl (by simp)) _⟩
            · rw [hPP, hRR]
              exact ((sA.take i).append sK1).append (sA.drop _)
            · intro j h1 h2
              rw [List.getElem?_set_ne (by omega)]
              exact zB j (by omega) h2
        · obtain ⟨hx1, -⟩ := htr.more HP.out.2.2.1
          obtain ⟨t0, ht0⟩ : ∃ t0, K1[n]? = some t0 := ⟨_, List.getElem?_eq_getElem (by omega)⟩
          have ct := cell_at hgo (i + n)
          have hmid := mid_get P K1 R (j := n) (by omega)
          rw [hPl] at hmid
          rw [wcells_get, hmid, ht0] at ct
          have hg1 := give_any P K1 R M t0 (by rw [hK1, HP.out.1]) sK1 HP.out.2.1 (by rw [HP.out.1]; exact hn4) (by rw [HP.out.1]; exact ht0) go2 (9 - i) 24 go1 (n + 1) 24 O1 (by rw [HP.out.1]; exact HP.out.2.2.2.2.2.2.2.2) wr hgo
            ((HJ.out.2.1.trans' hmo (fun b hb => .inl (by rw [List.mem_singleton.1 hb]; simp))).get HDW.out.d (by have := HDW.out.lt; simp only [List.mem_cons, List.not_mem_nil, or_false]; omega)) (by have := HDW.out.lt; omega) (by omega)
          rw [hPl, hK1, hRl, HP.out.1, show n + 1 + (9 - (i + (n + 1))) = 9 - i by omega] at hg1
          have hwx : IntKind.u64.wrap ((x : Int) - 1) = ((x - 1 : Nat) : Int) := by rw [show (x : Int) - 1 = ((x - 1 : Nat) : Int) by omega]; exact wrap_small (by omega)
          have HT2 := hid hg1
          have HX := hid (And.intro hgx (And.intro hxb (And.intro hx1 (And.intro htr (And.intro hmo hgo)))))
          clear hgx hxb hx1 htr hmo hgo hg1 hmid
          go_wp2_with (go_at_call 74; refine HT2.out.mono ?_; rintro e w6 ⟨rfl, K2, o2, t2, hh2⟩; have ct2 := cell_at hh2.2.2.2.2.2.2.1 (i + n); have hmid2 := mid_get P K2 R (j := n) (by have := hh2.2.1; omega); rw [hPl, hh2.2.2.2.2.1] at hmid2; rw [wcells_get, hmid2] at ct2; clear hmid2; have HK2 := hid hh2; clear hh2)
          obtain ⟨hgx, hxb, hx1, htr, hmo, hgo⟩ := HX.out
          obtain ⟨k1, k2, k3, k4, k5, k6, k7, k8⟩ := HK2.out
          go_roundg (x - 1)
          case measure => omega
          case rel =>
            refine ⟨x - 1, 1 - o2, K2, rfl, ?_, rfl, by omega, k2, k3, htr.give HP.out.2.2.1 (by rw [Nat.mul_comm (BB ^ (n + 1))]; exact k4) k1 (by have := val_lt k3; rw [k2] at this; exact this), k7, hmo.trans k8⟩
            congr 1
            rw [Bool.eq_iff_iff, decide_eq_true_eq, beq_iff_eq]
            omega
end Go.Proofs.YtdgmnhiffoemmaaDoor
