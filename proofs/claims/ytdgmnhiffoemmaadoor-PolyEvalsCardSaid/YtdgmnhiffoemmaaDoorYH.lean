/-
  limb.Length (whether it is less than 2), poly.right (where all is right). No statement of a claim stands here; each contract names what it asks.
-/
import Derived.Test.YtdgmnhiffoemmaaDoorGD
set_option linter.unusedSimpArgs false
namespace Go.Proofs.YtdgmnhiffoemmaaDoor
open Go Go.RowKit Go.ChangeMaps

theorem len64_any (x : Nat) (hx : x < BB) (w : World) : Calls Tryd.prog 59 #[.int .u64 x] w fun e w' => e = .returned (.int .i64 (Lib.bitLen x : Int)) ∧ w' = w := by
  have h1 : (x : Int) ≤ 18446744073709551615 := by unfold BB at hx; omega
  exact Any.bits_Len64 Go.Proofs.YtdgmnhiffoemmaaDoor.len64A (x : Int) w (by omega) h1
theorem bitLen_two {x : Nat} (hx : x < BB) (h0 : x ≠ 0) : 1 ≤ Lib.bitLen x ∧ Lib.bitLen x ≤ 64 ∧ (Lib.bitLen x < 2 ↔ x < 2) := by
  obtain ⟨s, hs, hlz, -, -⟩ := lead_facts hx h0
  have hx2 : x < 2 ^ 64 := by rw [← BB_pow]; exact hx
  obtain ⟨h1, h2, h3⟩ := Lib.bitLenAux_bounds 64 x hx2 h0
  refine ⟨h1, by omega, ?_⟩
  unfold Lib.bitLen
  generalize Lib.bitLenAux 64 x = k at *
  constructor
  · intro h
    obtain rfl : k = 1 := by omega
    simpa using h3
  · intro h
    by_cases hk : k < 2
    · exact hk
    · have : 2 ^ 1 ≤ 2 ^ (k - 1) := Nat.pow_le_pow_right (by decide) (by omega)
      omega

set_option maxRecDepth 100000 in
theorem llength {q : Nat} (hq : q < NN) (w : World) : Calls Tryd.prog 46 #[nv q] w fun e w' => (∃ k : Nat, e = .returned (.int .i64 k) ∧ (k < 2 ↔ q < 2)) ∧ Mod [] w w' := by
  obtain ⟨x0, x1, x2, x3, hx, px⟩ := nv_words q
  have hv : val [x0, x1, x2, x3] = q := by rw [← px]; exact parts_num hq
  have sx : Small [x0, x1, x2, x3] := by rw [← px]; exact parts_small _ _
  rw [hx]
  clear hx px
  unfold wv
  have HX := hid (And.intro hv sx)
  clear hv sx hq
  go_enter Tryd.func46, Tryd.ntmps46
  go_upto_region 1 with fail
  refine wp_abs (fun W => W.heap[w.heap.size]? = some (.cells (wcells [x0, x1, x2, x3]) 26) ∧ Mod [] w W) ⟨get_new _ _, (Mod.refl _ _).alloc _⟩ ?_
  generalize w.heap.size = ta at *
  rintro W ⟨gx, hm⟩
  have hs := hid (size4 x0 x1 x2 x3 ta W gx)
  have HM := hid (And.intro gx hm)
  clear gx hm
  go_upto_region 2 with (go_at_call 58; refine hs.out.mono ?_; rintro e w' ⟨n, rfl, hsz, hw'⟩; subst hw'; have HN := hid hsz; clear hsz)
  by_cases hn0 : n = 0
  · subst hn0
    go_wp2_with fail
    have h1 := HN.out.take
    rw [List.take_zero, HX.out.1] at h1
    have h2 : val [] = 0 := rfl
    exact bodyPost_ret (v := .int .i64 ((0 : Nat) : Int)) (by simp [results, Tryd.results46, go_sem]) rfl ⟨⟨0, rfl, by omega⟩, HM.out.2⟩
  · obtain ⟨hn4, -, hn⟩ := HN.out
    obtain ⟨x, hx, hx0⟩ := hn.resolve_left hn0
    clear hn
    have hn4 : n ≤ 4 := hn4
    have xb := HX.out.2.get hx
    obtain ⟨b1, b2, b3⟩ := bitLen_two xb hx0
    have hlen := hid (fun W => len64_any x xb W)
    have hval := HN.out.take
    rw [HX.out.1] at hval
    have htop : (64 * (n - 1) + Lib.bitLen x < 2 ↔ q < 2) := by
      by_cases h1 : n = 1
      · subst h1
        rw [val_take_succ (i := 0) hx, List.take_zero, Nat.pow_zero, show val [] = 0 from rfl] at hval
        have : q = x := by omega
        rw [this]
        omega
      · have h2 : BB ^ (n - 1) * x ≤ q := by
          have := top_le hx
          rw [HX.out.1] at this
          exact this
        have h3 : BB ^ 1 ≤ BB ^ (n - 1) := Nat.pow_le_pow_right BB_pos (by omega)
        have h4 : BB ^ (n - 1) * 1 ≤ BB ^ (n - 1) * x := Nat.mul_le_mul_left _ (Nat.pos_of_ne_zero hx0)
        have h5 : 2 ≤ BB := by unfold BB; decide
        rw [Nat.pow_one] at h3
        omega
    have n0 : ¬ (n : Int) = 0 := by omega
    have cx := cell_at HM.out.1 (n - 1)
    rw [wcells_get, hx] at cx
    have n1 : (0 : Int) ≤ (n : Int) - 1 := by omega
    have n2 : (n : Int) - 1 < 4 := by omega
    have n3 : ((n : Int) - 1).toNat = n - 1 := by omega
    have HT := hid htop
    generalize hbl : Lib.bitLen x = bl at *
    have n5 : IntKind.i64.wrap (64 * ((n : Int) - 1) + (bl : Int)) = ((64 * (n - 1) + bl : Nat) : Int) := by
      rw [IntWalk.i64_in _ (by omega)]
      omega
    have n6 : IntKind.i64.wrap (64 * ((n : Int) - 1)) = 64 * ((n : Int) - 1) := IntWalk.i64_in _ (by omega)
    generalize 64 * (n - 1) + bl = kk at *
    clear htop hval b3 hx hx0 xb hbl
    go_wp2_with (go_at_call 59; refine (hlen.out _).mono ?_; rintro e w2 ⟨rfl, hw2⟩; obtain rfl : w' = w2 := hw2.symm)
    exact bodyPost_ret (v := .int .i64 (kk : Int)) (by simp [results, Tryd.results46, go_sem]) rfl ⟨⟨kk, rfl, HT.out⟩, HM.out.2⟩

/-- While the counts are looked at. -/
def RightRel (W : World) (n : Nat) (gk : Nat) (v : Value) (w : World) : Prop := ∃ i : Nat, v = .int .i64 i ∧ gk + i = n ∧ w = W

set_option maxRecDepth 100000 in
theorem pright {q : Nat} (hq : q < NN) (h2 : 2 ≤ q) (ns : List Nat) (hl : ns.length ≤ 8) (g : Nat) (hn : ∀ n ∈ ns, 1 ≤ n ∧ n ≤ 256) (w : World) (hg : w.heap[g]? = some (.cells (ns.map fun (n : Nat) => Value.int .i64 (n : Int)).toArray 3)) :
    Calls Tryd.prog 29 #[nv q, .slice (some ⟨g, 0, none⟩) ns.length ns.length] w fun e w' => e = .returned (.int .i64 0) ∧ Mod [] w w' := by
  have cl : ∀ W : World, Calls Tryd.prog 46 #[nv q] W fun e w' => (∃ k : Nat, e = .returned (.int .i64 k) ∧ ¬ (k : Int) < 2) ∧ Mod [] W w' := fun W => by
    refine (llength hq W).mono ?_
    rintro e w' ⟨⟨k, he, hk⟩, hm⟩
    exact ⟨⟨k, he, by omega⟩, hm⟩
  obtain ⟨x0, x1, x2, x3, hx⟩ := nv_lit q
  rw [hx] at cl
  rw [hx]
  clear hx
  unfold lit4 at *
  have CL := hid cl
  have HG := hid (And.intro hg hn)
  clear cl hg h2 hq hn
  go_enter Tryd.func29, Tryd.ntmps29
  go_upto_region 3 with (go_at_call 46; refine (CL.out _).mono ?_; rintro e w1 ⟨⟨k, rfl, hk⟩, hm⟩; have HM := hid hm; clear hm)
  have hg1 := hid (HM.out.get (get_alloc HG.out.1 _) (by simp))
  have hm1 := hid (((Mod.refl [] w).alloc _).trans HM.out)
  clear HM
  go_wp2_with fail
  go_loopg [12] ns.length (fun gk v W' => RightRel w1 ns.length gk v W')
  case atStart => exact ⟨0, rfl, rfl, rfl⟩
  case round =>
    obtain ⟨i, rfl, hgi, rfl⟩ := hrel
    by_cases hi : i < ns.length
    · obtain ⟨n, hni⟩ : ∃ n, ns[i]? = some n := ⟨_, List.getElem?_eq_getElem hi⟩
      obtain ⟨hb1, hb2⟩ := HG.out.2 n (List.mem_of_getElem? hni)
      have ci := cell_at hg1.out i
      rw [List.getElem?_toArray, List.getElem?_map, hni] at ci
      have i1 : (i : Int) < (ns.length : Int) := by omega
      have i0 : (0 : Int) ≤ (i : Int) := by omega
      have n1 : ¬ (n : Int) < 1 := by omega
      have n2 : ¬ (256 : Int) < (n : Int) := by omega
      go_wp2_with fail
      go_roundg (gk - 1)
      case measure => omega
      case rel => exact ⟨i + 1, rfl, by omega, rfl⟩
    · have i1 : ¬ (i : Int) < (ns.length : Int) := by omega
      go_wp2_with fail
      exact bodyPost_ret (v := .int .i64 0) (by simp [results, Tryd.results29, go_sem]) rfl ⟨rfl, hm1.out⟩
end Go.Proofs.YtdgmnhiffoemmaaDoor
