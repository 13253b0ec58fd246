/-
  base.SameNats. No statement of a claim stands here; each contract names what it asks.
-/
import Derived.Test.YtdgmnhiffoemmaaDoorYU
import Derived.Test.YtdgmnhiffoemmaaDoorZI
set_option linter.unusedSimpArgs false
namespace Go.Proofs.YtdgmnhiffoemmaaDoor
open Go Go.RowKit Go.ChangeMaps

set_option maxRecDepth 100000 in
set_option maxHeartbeats 1000000 in
theorem same_nats (l : List Nat) (hl : ∀ n ∈ l, n < NN) (hll : l.length ≤ 256) (a b : Option Addr) (ca cb : Nat) (w : World) (ha : NatsArg w a l) (hb : NatsArg w b l) :
    Calls Tryd.prog 24 #[.slice a l.length ca, .slice b l.length cb] w fun e w' => e = .returned (.bool true) ∧ Mod [] w w' := by
  have HA := hid (And.intro ha (And.intro hb hl))
  have n3 : (l.length : Int) ≤ 256 := by omega
  clear ha hb hl
  go_enter Tryd.func24, Tryd.ntmps24
  go_wp2_with fail
  go_loopg [5] l.length (fun gk v W' => ∃ j : Nat, v = .int .i64 j ∧ gk + j = l.length ∧ Mod [] w W')
  case atStart => exact ⟨0, rfl, rfl, Mod.refl _ _⟩
  case round =>
    obtain ⟨j, rfl, hgj, hm⟩ := hrel
    by_cases hj : j < l.length
    · have j1 : (j : Int) < (l.length : Int) := by omega
      have j0 : (0 : Int) ≤ (j : Int) := by omega
      obtain ⟨n, hn⟩ : ∃ n, l[j]? = some n := ⟨_, List.getElem?_eq_getElem hj⟩
      obtain ⟨b1, o1, e1, h1⟩ := (NatsArg.mod HA.out.1 hm) j n hn
      obtain ⟨b2, o2, e2, h2⟩ := (NatsArg.mod HA.out.2.1 hm) j n hn
      subst e1
      subst e2
      obtain ⟨c0, c1, c2, c3, hc, pc⟩ := nv_words n
      have hq := fun W => equalIn_nv (HA.out.2.2 n (List.mem_of_getElem? hn)) (HA.out.2.2 n (List.mem_of_getElem? hn)) W
      simp only [decide_eq_true_eq, decide_true] at hq
      rw [hc, wv_lit] at hq
      unfold lit4 at hq
      rw [encN_lit pc] at h1 h2
      have p0 : wr.cell? ⟨b1, o1 + j * 4, none⟩ = some (.int .u64 (c0 : Int)) := h1 0 _ rfl
      have p1 : wr.cell? ⟨b1, o1 + j * 4 + 1, none⟩ = some (.int .u64 (c1 : Int)) := h1 1 _ rfl
      have p2 : wr.cell? ⟨b1, o1 + j * 4 + 2, none⟩ = some (.int .u64 (c2 : Int)) := h1 2 _ rfl
      have p3 : wr.cell? ⟨b1, o1 + j * 4 + 3, none⟩ = some (.int .u64 (c3 : Int)) := h1 3 _ rfl
      have q0 : wr.cell? ⟨b2, o2 + j * 4, none⟩ = some (.int .u64 (c0 : Int)) := h2 0 _ rfl
      have q1 : wr.cell? ⟨b2, o2 + j * 4 + 1, none⟩ = some (.int .u64 (c1 : Int)) := h2 1 _ rfl
      have q2 : wr.cell? ⟨b2, o2 + j * 4 + 2, none⟩ = some (.int .u64 (c2 : Int)) := h2 2 _ rfl
      have q3 : wr.cell? ⟨b2, o2 + j * 4 + 3, none⟩ = some (.int .u64 (c3 : Int)) := h2 3 _ rfl
      have HN := hid (And.intro hm hgj)
      clear hm hgj hn h1 h2 hc pc
      go_wp2_with fail
      go_quiet (fail)
      go_wp2_with fail
      go_roundg (gk - 1)
      case measure => have := HN.out.2; omega
      case rel => exact ⟨j + 1, by go_num, by have := HN.out.2; omega, HN.out.1.drewN _⟩
    · have j1 : ¬ (j : Int) < (l.length : Int) := by omega
      have HF := hid hm
      clear hm hgj
      go_wp2_with fail
      exact bodyPost_ret (v := .bool true) (by simp [results, Tryd.results24, go_sem]) rfl ⟨rfl, HF.out⟩
end Go.Proofs.YtdgmnhiffoemmaaDoor
/-
  base.Ints. No statement of a claim stands here; each contract names what it asks.
-/
set_option linter.unusedSimpArgs false
namespace Go.Proofs.YtdgmnhiffoemmaaDoor
open Go Go.RowKit Go.ChangeMaps

theorem flatI (l : List Int) : l.flatMap encI = l.map fun (x : Int) => Value.int .i64 x := by
  induction l with
  | nil => rfl
  | cons x l ih => rw [List.flatMap_cons, ih]; rfl
theorem flat_ints {w : World} {ad : Addr} {l : List Int} (h : IntsArg w (some ad) l) : ∀ (j : Nat) (u : Value), (l.flatMap encI)[j]? = some u → w.cell? (ad.add j) = some u := by
  intro j u hu
  rw [flatI, List.getElem?_map] at hu
  rcases hx : l[j]? with _ | x
  · rw [hx] at hu; cases hu
  · rw [hx] at hu
    obtain rfl : Value.int .i64 x = u := by simpa using hu
    obtain ⟨b, o, e, hc⟩ := h j x hx
    cases e
    rw [Addr.add_lit]
    exact hc

set_option maxRecDepth 100000 in
set_option maxHeartbeats 1000000 in
theorem ints_any (l : List Int) (hl : l.length ≤ 256) (a : Option Addr) (c : Nat) (hn : a = none → l = [] ∧ c = 0) (w : World) (h : IntsArg w a l) :
    Calls Tryd.prog 20 #[.slice a l.length c] w fun e w' => (∃ v : Value, e = .returned v ∧ Ints w.heap.size w' v l) ∧ Mod [] w w' := by
  have hown : ∀ W : World, (W.alloc (.cells #[] 3)).ownsRow 0 3 1 (.slice (some ⟨W.heap.size, 0, none⟩) 0 0) 0 [] := fun W =>
    ⟨rfl, .inr ⟨W.heap.size, 0, #[], rfl, Nat.zero_le _, get_new _ _, Nat.le_refl _, by unfold maxLen; omega, by simp, by simp⟩⟩
  cases a with
  | none =>
    obtain ⟨rfl, rfl⟩ := hn rfl
    obtain ⟨i, z, h1, h2, h3, h4, h5⟩ := elemI.info
    have hap := run_append_owned_none (P := Tryd.prog) (w := w.alloc (.cells #[] 3)) 0 23 23 3 i 1 Tryd.underlying23 h1 (.slice (some ⟨w.heap.size, 0, none⟩) 0 0) 0 [] (hown w)
    have hm : Mod [] w (w.alloc (.cells #[] 3)) := (Mod.refl _ _).alloc _
    have HA : ∃ v' w', (Builtin.append_ #[23, 23] 23 #[.slice (some ⟨w.heap.size, 0, none⟩) 0 0, .slice none 0 0]).run Tryd.prog (w.alloc (.cells #[] 3)) = .ok v' w' ∧ (Ints w.heap.size w' v' [] ∧ Mod [] w w') :=
      ⟨_, _, hap, ⟨hown w, fun k hk => by cases hk; exact Nat.le_refl _⟩, hm⟩
    have HAH := hid HA
    clear HA hap hm hown h1 h2 h3 h4 h5
    go_enter Tryd.func20, Tryd.ntmps20
    go_wp2_with (at_builtin; refine wpList_app_run rfl _ _ 23 rfl _ _ rfl rfl _ HAH.out ?_; rintro v3 w4 ⟨h31, h32⟩; have H4 := hid (And.intro h31 h32); clear h31 h32)
    exact bodyPost_ret (v := v3) (by simp [results, Tryd.results20, go_sem]) rfl ⟨⟨v3, rfl, H4.out.1⟩, H4.out.2⟩
  | some ad =>
    have hh : IntsArg (w.alloc (.cells #[] 3)) (some ad) l := IntsArg.mod h ((Mod.refl [] w).alloc _)
    obtain ⟨i, z, h1, h2, h3, h4, h5⟩ := elemI.info
    obtain ⟨v', w', hr, ho, hm, hb, -⟩ := run_app (P := Tryd.prog) (w.alloc (.cells #[] 3)) 23 23 3 i z 1 8 elemI.under h1 h2 h3 h4 h5 (by decide) (.slice (some ⟨w.heap.size, 0, none⟩) 0 0) 0 [] (hown w) ad l.length c (l.flatMap encI) (by rw [flatI]; simp) (flat_ints hh)
      (fun u hu => by obtain ⟨n, -, hnu⟩ := List.mem_flatMap.1 hu; exact encI_one n u hnu) (by unfold maxLen; omega) (by omega)
    have HA : ∃ v' w', (Builtin.append_ #[23, 23] 23 #[.slice (some ⟨w.heap.size, 0, none⟩) 0 0, .slice (some ad) l.length c]).run Tryd.prog (w.alloc (.cells #[] 3)) = .ok v' w' ∧ (Ints w.heap.size w' v' l ∧ Mod [] w w') := by
      refine ⟨v', w', hr, ⟨?_, fun k' hk' => ?_⟩, ((Mod.refl [] w).alloc _).trans' hm (fun x hx => .inr (by simp [Value.ownBlock] at hx; omega))⟩
      · simpa using ho
      · rcases hb k' hk' with e | e
        · cases e; exact Nat.le_refl _
        · rw [e]; exact Nat.le_trans (Nat.le_succ _) (by rw [show (w.alloc (.cells #[] 3)).heap.size = w.heap.size + 1 from Array.size_push _]; omega)
    have HAH := hid HA
    clear HA hr ho hm hb hh hown h1 h2 h3 h4 h5 h
    go_enter Tryd.func20, Tryd.ntmps20
    go_wp2_with (at_builtin; refine wpList_app_run rfl _ _ 23 rfl _ _ rfl rfl _ HAH.out ?_; rintro v3 w4 ⟨h31, h32⟩; have H4 := hid (And.intro h31 h32); clear h31 h32)
    exact bodyPost_ret (v := v3) (by simp [results, Tryd.results20, go_sem]) rfl ⟨⟨v3, rfl, H4.out.1⟩, H4.out.2⟩
end Go.Proofs.YtdgmnhiffoemmaaDoor
