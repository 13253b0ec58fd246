/-
  limb.guess, limb.give. No statement of a claim stands here; each contract names what it asks.
-/
import Derived.Test.YtdgmnhiffoemmaaDoorY6
set_option linter.unusedSimpArgs false
namespace Go.Proofs.YtdgmnhiffoemmaaDoor
open Go Go.RowKit Go.ChangeMaps

set_option maxRecDepth 100000 in
theorem guess_any (hi lo y : Nat) (hhi : hi < BB) (hlo : lo < BB) (hy : y < BB) (w : World) :
    Calls Tryd.prog 72 #[.int .u64 hi, .int .u64 lo, .int .u64 y] w fun e w' => e = .returned (.int .u64 ((if y ≤ hi then BB - 1 else (hi * BB + lo) / y : Nat) : Int)) ∧ Mod [] w w' := by
  by_cases hc : y ≤ hi
  · have hc1 : (y : Int) ≤ (hi : Int) := by omega
    rw [if_pos hc]
    go_enter Tryd.func72, Tryd.ntmps72
    go_wp2
    exact bodyPost_ret (v := .int .u64 18446744073709551615) (by simp [results, Tryd.results72, go_sem]) rfl ⟨rfl, Mod.refl _ _⟩
  · have hc1 : ¬ (y : Int) ≤ (hi : Int) := by omega
    rw [if_neg hc]
    have hdiv := fun W => div64_any hi lo y (by omega) hlo hy W
    obtain ⟨Q, hQ⟩ : ∃ Q, Q = (hi * BB + lo) / y := ⟨_, rfl⟩
    rw [← hQ] at hdiv ⊢
    clear hQ
    go_enter Tryd.func72, Tryd.ntmps72
    go_wp2_with (first | (go_at_call 79; refine (hdiv _).mono ?_; rintro e w' ⟨r, rfl, hm⟩; have HM := hid hm; clear hm))
    exact bodyPost_ret (v := .int .u64 (Q : Int)) (by simp [results, Tryd.results72, go_sem]) rfl ⟨rfl, HM.out⟩

/-- A giving back's step. -/
theorem give_step {K M : List Nat} {i y x c V : Nat} (hy : K[i]? = some y) (hx : M[i]? = some x) (h : val K + c * BB ^ i = V + val (M.take i)) :
    val (K.set i ((y + x + c) % BB)) + (y + x + c) / BB * BB ^ (i + 1) = V + val (M.take (i + 1)) := by
  have h1 := val_set (x := (y + x + c) % BB) hy
  have hd := Nat.div_add_mod (y + x + c) BB
  rw [val_take_succ hx, mul_pow]
  have e1 := congrArg (fun n => n * BB ^ i) hd
  simp only [Nat.add_mul] at e1
  generalize (y + x + c) % BB = z at *
  generalize (y + x + c) / BB = q at *
  omega
theorem give_end {K : List Nat} {n t c V m : Nat} (ht : K[n]? = some t) (h : val K + c * BB ^ n = V + m) : val (K.set n ((t + c) % BB)) + (t + c) / BB * BB ^ (n + 1) = V + m := by
  have h1 := val_set (x := (t + c) % BB) ht
  have hd := Nat.div_add_mod (t + c) BB
  rw [mul_pow]
  have e1 := congrArg (fun n' => n' * BB ^ n) hd
  simp only [Nat.add_mul] at e1
  generalize (t + c) % BB = z at *
  generalize (t + c) / BB = q at *
  omega

/-- While a row is given back. -/
def GiveRel (W : World) (gl : Nat) (T : TypeId) (P L R M : List Nat) (gk : Nat) (c i : Value) (w : World) : Prop :=
  ∃ (j cn : Nat) (K : List Nat), i = .int .i64 j ∧ gk + j = M.length ∧ c = .int .u64 cn ∧ cn ≤ 1 ∧ K.length = L.length ∧ Small K ∧ val K + cn * BB ^ j = val L + val (M.take j) ∧ (∀ k, j ≤ k → K[k]? = L[k]?) ∧
    w.heap[gl]? = some (.cells (wcells (P ++ K ++ R)) T) ∧ Mod [gl] W w

set_option maxRecDepth 100000 in
theorem give_any (P L R M : List Nat) (t : Nat) (hL : L.length = M.length + 1) (sL : Small L) (sM : Small M) (hn : M.length ≤ 4) (ht : L[M.length]? = some t) (gl cl : Nat) (T : TypeId) (gm cm : Nat) (T' : TypeId) (C : List Nat) (hC : M = C.take M.length) (w : World)
    (hgl : w.heap[gl]? = some (.cells (wcells (P ++ L ++ R)) T)) (hgm : w.heap[gm]? = some (.cells (wcells C) T')) (hne : gl ≠ gm) (hP : P.length + L.length + R.length ≤ 9) :
    Calls Tryd.prog 74 #[.slice (some ⟨gl, P.length, none⟩) (L.length + R.length) cl, .slice (some ⟨gm, 0, none⟩) M.length cm] w fun e w' => e = .returned (.tuple #[]) ∧ ∃ (K : List Nat) (o t' : Nat),
      o ≤ 1 ∧ K.length = L.length ∧ Small K ∧ val K + o * BB ^ L.length = val L + val M ∧ K[M.length]? = some t' ∧ (o = 0 ↔ t ≤ t') ∧ w'.heap[gl]? = some (.cells (wcells (P ++ K ++ R)) T) ∧ Mod [gl] w w' := by
  have HC := hid (And.intro hC (And.intro sL (And.intro sM ht)))
  clear hC sL sM ht
  go_enter Tryd.func74, Tryd.ntmps74
  go_wp2
  go_loopg [4, 9] M.length (fun gk c i W' => GiveRel w gl T P L R M gk c i W')
  case atStart =>
    exact ⟨0, 0, L, rfl, rfl, rfl, by omega, rfl, HC.out.2.1, by rw [List.take_zero, show val [] = 0 from rfl, Nat.zero_mul], fun _ _ => rfl, hgl, Mod.refl _ _⟩
  case round =>
    obtain ⟨j, c, K, rfl, hgj, rfl, hc, hK, sK, vK, tK, hgl2, hm⟩ := hrel
    by_cases hj : j < M.length
    · have j1 : (j : Int) < (M.length : Int) := by omega
      have j0 : (0 : Int) ≤ (j : Int) := by omega
      obtain ⟨x, hx⟩ : ∃ x, M[j]? = some x := ⟨_, List.getElem?_eq_getElem hj⟩
      obtain ⟨y, hy⟩ : ∃ y, K[j]? = some y := ⟨_, List.getElem?_eq_getElem (by omega)⟩
      have hx2 : C[j]? = some x := by
        rw [HC.out.1, List.getElem?_take, if_pos hj] at hx
        exact hx
      have cx := cell_at (hm.get hgm (by rw [List.mem_singleton]; omega)) j
      rw [wcells_get, hx2] at cx
      have cy := cell_at hgl2 (P.length + j)
      rw [wcells_get, mid_get P K R (by omega), hy] at cy
      have fy := free_at hgl2 (P.length + j)
      have jl : (j : Int) < (L.length : Int) + (R.length : Int) := by omega
      obtain ⟨z, hzz⟩ : ∃ z, z = (y + x + c) % BB := ⟨_, rfl⟩
      obtain ⟨co, hco⟩ : ∃ b', b' = (y + x + c) / BB := ⟨_, rfl⟩
      have hadd : ∀ W : World, (callFunc 61 #[.int .u64 (y : Int), .int .u64 (x : Int), .int .u64 (c : Int)]).run Tryd.prog W = .ok (.value (.tuple #[.int .u64 (z : Int), .int .u64 (co : Int)])) W := fun W => by
        rw [hzz, hco]
        exact add64_call y x c hc W
      have hstep := give_step hy hx vK
      have hco1 : co ≤ 1 := by rw [hco]; exact carry1 (sK.get hy) (HC.out.2.2.1.get hx) hc
      have hzb : z < BB := by rw [hzz]; exact Nat.mod_lt _ BB_pos
      rw [← hzz, ← hco] at hstep
      have HQ := hid (And.intro hK (And.intro sK (And.intro hgl2 (And.intro hm (And.intro hstep (And.intro tK (And.intro hgj (And.intro hzb (And.intro hco1 hL)))))))))
      clear hzz hco hstep hK sK hgl2 hm vK hc tK
      go_wp2_with (simp only [hadd])
      obtain ⟨hK, sK, hgl2, hm, hstep, tK, hgj, hzb, hco1, hL⟩ := HQ.out
      have gs := get_setCell_self hgl2 (P.length + j) (.int .u64 (z : Int))
      rw [wcells_set, mid_set P K R (by omega)] at gs
      go_roundg (gk - 1)
      case measure => omega
      case rel =>
        exact ⟨j + 1, co, K.set j z, rfl, by omega, rfl, hco1, by rw [List.length_set]; exact hK, sK.set _ hzb, hstep, fun k hk => by rw [List.getElem?_set_ne (by omega)]; exact tK k (by omega), gs, hm.setCell (.inl (by simp)) _⟩
    · have j1 : ¬ (j : Int) < (M.length : Int) := by omega
      obtain rfl : j = M.length := by omega
      have hy := tK M.length (Nat.le_refl _)
      rw [HC.out.2.2.2] at hy
      have cy := cell_at hgl2 (P.length + M.length)
      rw [wcells_get, mid_get P K R (by omega), hy] at cy
      have fy := free_at hgl2 (P.length + M.length)
      have jl : (M.length : Int) < (L.length : Int) + (R.length : Int) := by omega
      have j0 : (0 : Int) ≤ (M.length : Int) := by omega
      have htb : t < BB := sK.get hy
      obtain ⟨z, hzz⟩ : ∃ z, z = (t + c) % BB := ⟨_, rfl⟩
      obtain ⟨o, ho⟩ : ∃ o, o = (t + c) / BB := ⟨_, rfl⟩
      have hw : IntKind.u64.wrap ((t : Int) + (c : Int)) = (z : Int) := by rw [← Int.natCast_add]; exact wrap_nat hzz.symm
      have hzb : z < BB := by rw [hzz]; exact Nat.mod_lt _ BB_pos
      rw [List.take_of_length_le (Nat.le_refl _)] at vK
      have hend := give_end hy vK
      have hov : o ≤ 1 ∧ (o = 0 ↔ t ≤ z) := by
        rw [ho, hzz]
        unfold BB at htb ⊢
        omega
      rw [← hzz, ← ho] at hend
      have HQ := hid (And.intro hK (And.intro sK (And.intro hgl2 (And.intro hm (And.intro hend (And.intro hzb (And.intro hov (And.intro hy hL))))))))
      clear hzz ho hend hK sK hgl2 hm vK hc hL hov tK
      go_wp2
      obtain ⟨hK, sK, hgl2, hm, hend, hzb, hov, hy, hL⟩ := HQ.out
      have gs := get_setCell_self hgl2 (P.length + M.length) (.int .u64 (z : Int))
      rw [wcells_set, mid_set P K R (by omega)] at gs
      refine bodyPost_end (v := .tuple #[]) (by simp [results, Tryd.results74, go_sem]) rfl ⟨rfl, K.set M.length z, o, hov.1, by rw [List.length_set]; exact hK, sK.set _ hzb, by rw [hL]; exact hend, z, by rw [List.getElem?_set_self (by omega)], hov.2, by rw [← List.append_assoc]; exact gs, hm.setCell (.inl (by simp)) _⟩
end Go.Proofs.YtdgmnhiffoemmaaDoor
