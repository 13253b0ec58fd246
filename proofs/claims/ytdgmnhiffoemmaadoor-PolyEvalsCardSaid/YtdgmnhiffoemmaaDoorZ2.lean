/-
  The reference's Compare. No statement of a claim stands here; each contract names what it asks.
-/
import Derived.Test.YtdgmnhiffoemmaaDoorGC
import Derived.Test.YtdgmnhiffoemmaaDoorGB
import Derived.Test.YtdgmnhiffoemmaaDoorGA
import Derived.Deep.CutBlock
import Derived.Deep.QuietTactic
import Derived.BigQuiet
import Derived.Deep.LoopGhost
set_option linter.unusedSimpArgs false
namespace Go.Proofs.YtdgmnhiffoemmaaDoor
open Go Go.RowKit Go.ChangeMaps

theorem cmp_lt {U V : List Nat} {i x y : Nat} (hU : U[i]? = some x) (hV : V[i]? = some y) (sU : Small U) (hd : U.drop (i + 1) = V.drop (i + 1)) (hl : x < y) : val U < val V := by
  have h1 := val_append (U.take i) (U.drop i)
  have h2 := val_append (V.take i) (V.drop i)
  rw [List.take_append_drop] at h1 h2
  have hi := (List.getElem?_eq_some_iff.1 hU).1
  have hj := (List.getElem?_eq_some_iff.1 hV).1
  have e1 : (U.take i).length = i := by rw [List.length_take]; omega
  have e2 : (V.take i).length = i := by rw [List.length_take]; omega
  have h3 := val_lt (sU.take i)
  rw [e1] at h1 h3
  rw [e2] at h2
  rw [val_drop hU, hd] at h1
  rw [val_drop hV] at h2
  have h4 : BB ^ i * (x + BB * val (V.drop (i + 1))) + BB ^ i ≤ BB ^ i * (y + BB * val (V.drop (i + 1))) := by
    rw [← Nat.mul_succ]
    exact Nat.mul_le_mul_left _ (by omega)
  omega

def CmpRel (U V : List Nat) (W : World) (gk : Nat) (v : Value) (w : World) : Prop :=
  v = .int .i64 ((gk : Int) - 1) ∧ gk ≤ 4 ∧ U.drop gk = V.drop gk ∧ Mod [] W w

set_option maxRecDepth 100000 in
theorem rcmp_words (U V : List Nat) (hU : U.length = 4) (hV : V.length = 4) (sU : Small U) (sV : Small V) (w : World) :
    Calls Tryd.prog 54 #[wv U, wv V] w fun e w' => e = .returned (.int .i64 (if val U < val V then -1 else if val V < val U then 1 else 0)) ∧ Mod [] w w' := by
  obtain ⟨u0, u1, u2, u3, rfl⟩ : ∃ a b c d, U = [a, b, c, d] := by
    match U, hU with
    | [a, b, c, d], _ => exact ⟨_, _, _, _, rfl⟩
  obtain ⟨v0, v1, v2, v3, rfl⟩ : ∃ a b c d, V = [a, b, c, d] := by
    match V, hV with
    | [a, b, c, d], _ => exact ⟨_, _, _, _, rfl⟩
  have SU := hid (And.intro sU sV)
  clear hU hV sU sV
  obtain ⟨r, hr⟩ : ∃ r : Int, (if val [u0, u1, u2, u3] < val [v0, v1, v2, v3] then -1 else if val [v0, v1, v2, v3] < val [u0, u1, u2, u3] then 1 else 0) = r := ⟨_, rfl⟩
  rw [hr]
  have HR := hid hr
  clear hr
  unfold wv
  go_enter Tryd.func54, Tryd.ntmps54
  go_upto_block 0 with fail
  refine wp_abs (fun W => W.heap[w.heap.size]? = some (.cells (wcells [u0, u1, u2, u3]) 26) ∧ W.heap[w.heap.size + 1]? = some (.cells (wcells [v0, v1, v2, v3]) 26) ∧ Mod [] w W)
    ⟨get_alloc (get_new w _) _, by
      have h := get_new (w.alloc (.cells (wcells [u0, u1, u2, u3]) 26)) (.cells (wcells [v0, v1, v2, v3]) 26)
      have e : (w.alloc (.cells (wcells [u0, u1, u2, u3]) 26)).heap.size = w.heap.size + 1 := Array.size_push _
      rwa [e] at h, ((Mod.refl _ _).alloc _).alloc _⟩ ?_
  rintro W ⟨gu, gv, hm⟩
  generalize w.heap.size + 1 = tv at *
  generalize w.heap.size = tu at *
  have HM := hid hm
  have HG := hid (And.intro gu gv)
  clear hm gu gv
  have lu : [u0, u1, u2, u3].length = 4 := rfl
  have lv : [v0, v1, v2, v3].length = 4 := rfl
  generalize [u0, u1, u2, u3] = U at *
  generalize [v0, v1, v2, v3] = V at *
  go_wp2_with fail
  go_loopg [5] 4 (fun gk v W' => CmpRel U V W gk v W')
  case atStart => exact ⟨rfl, Nat.le_refl _, by rw [List.drop_eq_nil_of_le (by omega), List.drop_eq_nil_of_le (by omega)], Mod.refl _ _⟩
  case round =>
    obtain ⟨rfl, hgk, hd, hm2⟩ := hrel
    by_cases hg0 : gk = 0
    · subst hg0
      rw [List.drop_zero, List.drop_zero] at hd
      have hc : r = 0 := by rw [← HR.out, hd]; simp
      subst hc
      have HM2 := hid (HM.out.trans hm2)
      clear hd hm2 hgk
      rw [show ((0 : Nat) : Int) - 1 = -1 by omega]
      go_wp2_with fail
      exact bodyPost_ret (v := .int .i64 0) (by simp [results, Tryd.results54, go_sem]) rfl ⟨rfl, HM2.out⟩
    · obtain ⟨i, rfl⟩ : ∃ i, gk = i + 1 := ⟨gk - 1, by omega⟩
      rw [show ((i + 1 : Nat) : Int) - 1 = (i : Int) by omega]
      obtain ⟨x, hx⟩ : ∃ x, U[i]? = some x := ⟨_, List.getElem?_eq_getElem (by omega)⟩
      obtain ⟨y, hy⟩ : ∃ y, V[i]? = some y := ⟨_, List.getElem?_eq_getElem (by omega)⟩
      have cx := cell_at (hm2.get HG.out.1 (by simp)) i
      have cy := cell_at (hm2.get HG.out.2 (by simp)) i
      rw [wcells_get, hx] at cx
      rw [wcells_get, hy] at cy
      simp only [Option.map_some] at cx cy
      have i0 : (0 : Int) ≤ (i : Int) := by omega
      have i1 : (i : Int) < 4 := by omega
      have HM2 := hid hm2
      clear hm2
      by_cases hxy : x < y
      · have b1 : (x : Int) < (y : Int) := by omega
        have hc : r = -1 := by rw [← HR.out, if_pos (cmp_lt hx hy SU.out.1 hd hxy)]
        subst hc
        clear hd hxy hx hy hgk
        go_wp2_with fail
        go_quiet (fail)
        go_wp2_with fail
        exact bodyPost_ret (v := .int .i64 (-1)) (by simp [results, Tryd.results54, go_sem]) rfl ⟨rfl, (HM.out.trans HM2.out).drewN _⟩
      · by_cases hyx : y < x
        · have b1 : ¬ (x : Int) < (y : Int) := by omega
          have b2 : (y : Int) < (x : Int) := by omega
          have hc : r = 1 := by
            have := cmp_lt hy hx SU.out.2 hd.symm hyx
            rw [← HR.out, if_neg (by omega), if_pos this]
          subst hc
          clear hd hxy hx hy hgk hyx
          go_wp2_with fail
          go_quiet (fail)
          have cxq : (wr.drewN nq).cell? ⟨tu, i, none⟩ = some (.int .u64 (x : Int)) := cx
          have cyq : (wr.drewN nq).cell? ⟨tv, i, none⟩ = some (.int .u64 (y : Int)) := cy
          have HMq := hid ((HM.out.trans HM2.out).drewN nq)
          clear cx cy HM2
          generalize wr.drewN nq = wq at *
          go_wp2_with fail
          go_quiet (fail)
          go_wp2_with fail
          exact bodyPost_ret (v := .int .i64 1) (by simp [results, Tryd.results54, go_sem]) rfl ⟨rfl, HMq.out.drewN _⟩
        · obtain rfl : x = y := by omega
          have HD := hid (show U.drop i = V.drop i by rw [drop_at hx, drop_at hy, hd])
          have HI := hid hgk
          have b1 : ¬ (x : Int) < (x : Int) := by omega
          clear hd hxy hx hy hyx hgk
          go_wp2_with fail
          go_quiet (fail)
          have cxq : (wr.drewN nq).cell? ⟨tu, i, none⟩ = some (.int .u64 (x : Int)) := cx
          have cyq : (wr.drewN nq).cell? ⟨tv, i, none⟩ = some (.int .u64 (x : Int)) := cy
          have HMq := hid (HM2.out.drewN nq)
          clear cx cy HM2
          generalize wr.drewN nq = wq at *
          go_wp2_with fail
          go_quiet (fail)
          go_wp2_with fail
          go_roundg i
          case measure => omega
          case rel => exact ⟨rfl, by have := HI.out; omega, HD.out, HMq.out.drewN _⟩

theorem rcmp {a b : Nat} (ha : a < NN) (hb : b < NN) (w : World) :
    Calls Tryd.prog 54 #[nv a, nv b] w fun e w' => e = .returned (.int .i64 (if a < b then -1 else if b < a then 1 else 0)) ∧ Mod [] w w' := by
  have h := rcmp_words (parts a 4) (parts b 4) (parts_len _ _) (parts_len _ _) (parts_small _ _) (parts_small _ _) w
  rwa [parts_num ha, parts_num hb] at h
end Go.Proofs.YtdgmnhiffoemmaaDoor
