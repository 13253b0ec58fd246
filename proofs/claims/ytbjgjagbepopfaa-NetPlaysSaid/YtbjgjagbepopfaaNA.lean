/-
  A net, walked: Oldest. No statement of a claim stands here; each contract names what it asks.
-/
import Derived.Test.YtbjgjagbepopfaaN9
set_option linter.unusedSimpArgs false
namespace Go.Proofs.Ytbjgjagbepopfaa
open Go Go.RowKit Go.ChangeMaps

theorem cells1 (w : World) (x : Int) : ∀ (i : Nat) (y : Int), [x][i]? = some y → (w.alloc (.cells #[.int .i64 x] 3)).cell? ⟨w.heap.size, i, none⟩ = some (.int .i64 y) := fun i y hi => by
  rw [cell_at (get_new w (.cells #[.int .i64 x] 3))]
  match i, hi with
  | 0, hi => cases hi; rfl
  | i + 1, hi => simp at hi
theorem cells2 (w : World) (x z : Int) : ∀ (i : Nat) (y : Int), [x, z][i]? = some y → (w.alloc (.cells #[.int .i64 x, .int .i64 z] 3)).cell? ⟨w.heap.size, i, none⟩ = some (.int .i64 y) := fun i y hi => by
  rw [cell_at (get_new w (.cells #[.int .i64 x, .int .i64 z] 3))]
  match i, hi with
  | 0, hi => cases hi; rfl
  | 1, hi => cases hi; rfl
  | i + 2, hi => simp at hi
theorem among1 (w : World) (p : Loc) (s : NetS) (x : Int) (h : NetAt w p s) :
    Calls Try.prog 34 #[.pointer (some ⟨p.x, 0, none⟩), .slice (some ⟨w.heap.size, 0, none⟩) 1 1] (w.alloc (.cells #[.int .i64 x] 3)) fun e w' => e = .returned (.int .i64 (if s.party x then 0 else 2)) ∧ w' = w.alloc (.cells #[.int .i64 x] 3) := by
  have hc := (h.mod0 (Mod.alloc (Mod.refl [] w) (.cells #[.int .i64 x] 3))).all
  have := among_net (w.alloc (.cells #[.int .i64 x] 3)) p.x p.bw s.parties w.heap.size 1 [x] (by simp) hc.1 hc.2.2.2.2.2.2.1 (cells1 w x)
  rw [show amongN s.parties [x] = if s.party x then 0 else 2 from by simp [amongN, NetS.party]] at this
  exact this
theorem among2 (w : World) (p : Loc) (s : NetS) (x z : Int) (h : NetAt w p s) :
    Calls Try.prog 34 #[.pointer (some ⟨p.x, 0, none⟩), .slice (some ⟨w.heap.size, 0, none⟩) 2 2] (w.alloc (.cells #[.int .i64 x, .int .i64 z] 3)) fun e w' => e = .returned (.int .i64 (if s.party x && s.party z then 0 else 2)) ∧ w' = w.alloc (.cells #[.int .i64 x, .int .i64 z] 3) := by
  have hc := (h.mod0 (Mod.alloc (Mod.refl [] w) (.cells #[.int .i64 x, .int .i64 z] 3))).all
  have := among_net (w.alloc (.cells #[.int .i64 x, .int .i64 z] 3)) p.x p.bw s.parties w.heap.size 2 [x, z] (by simp) hc.1 hc.2.2.2.2.2.2.1 (cells2 w x z)
  rw [show amongN s.parties [x, z] = if s.party x && s.party z then 0 else 2 from by simp [amongN, NetS.party]] at this
  exact this

def oldL (s : NetS) (l : List Int) : Int × Int :=
  match l.find? (fun k => (s.free k).isSome) with
  | none => (0, 300)
  | some k => (k, 0)

set_option maxRecDepth 20000 in
set_option maxHeartbeats 2000000 in
theorem oldest_any (w : World) (p : Loc) (s : NetS) (tp : Int) (h : NetAt w p s) (ho : s.Ok) (hb : s.sent ≤ 1000000) :
    Calls Try.prog 14 #[.pointer (some ⟨p.x, 0, none⟩), .int .i64 tp] w fun e w' => e = .returned (.tuple #[.int .i64 (s.oldest tp).1, .int .i64 (s.oldest tp).2]) ∧ Mod [] w w' := by
  have ham := among1 w p s tp h
  have hm0 : Mod [] w (w.alloc (.cells #[.int .i64 tp] 3)) := Mod.alloc (Mod.refl _ _) _
  have hwt := waiting_any _ p s tp (h.mod0 hm0) ho hb
  have H := hid h
  have HO := hid ho
  have HA := hid ham
  have HW := hid hwt
  have HM := hid hm0
  clear h ho ham hwt hm0
  cases hp : s.party tp with
  | false =>
    have hold : s.oldest tp = (0, 2) := by unfold NetS.oldest; rw [hp]; rfl
    have HD := hid hold
    rw [hp] at HA
    clear hold hp
    go_enter Try.func14, Try.ntmps14
    go_wp2_with (first
      | (go_at_call 34; refine HA.out.mono ?_; rintro e w' ⟨rfl, hw'⟩; subst hw'; simp only [Bool.false_eq_true, if_false]))
    go_ret2
    exact ⟨by rw [HD.out]; rfl, HM.out⟩
  | true =>
    have hold : s.oldest tp = oldL s (s.waiting tp) := by unfold NetS.oldest oldL; rw [hp]; rfl
    have HD := hid hold
    rw [hp] at HA
    clear hold hp
    go_enter Try.func14, Try.ntmps14
    go_wp2_with (first
      | (go_at_call 34; refine HA.out.mono ?_; rintro e w' ⟨rfl, hw'⟩; subst hw'; simp only [if_true])
      | (go_at_call 16; refine HW.out.mono ?_; rintro e w2 ⟨v, rfl, hv, hm2⟩; obtain ⟨a0, k0, rfl⟩ := row_slice hv.row; have H2 := hid (And.intro hv hm2); clear hv hm2))
    have hlen : (s.waiting tp).length ≤ 5000 := by
      have h1 := waitL_len s.way tp
      have := HO.out.fits
      have := HO.out.room
      unfold NetS.waiting
      unfold waitL at h1
      omega
    generalize s.waiting tp = L at *
    go_loopg [22] L.length (fun gk i W' => ∃ j : Nat, i = nat j ∧ gk + j = L.length ∧ oldL s (L.drop j) = oldL s L ∧ IntsAt (w.alloc (.cells #[.int .i64 tp] 3)).heap.size W' (.slice a0 L.length k0) L ∧ Mod [] w W')
    case atStart => exact ⟨0, rfl, by omega, rfl, H2.out.1, HM.out.trans H2.out.2⟩
    case round =>
      obtain ⟨j, rfl, hj, hq, hv, hm⟩ := hrel
      by_cases hjn : j < L.length
      · obtain ⟨ky, he⟩ : ∃ e, L[j]? = some e := ⟨_, List.getElem?_eq_getElem hjn⟩
        obtain ⟨g, c', e0, hcells⟩ := row_pos hv.row (by omega)
        cases e0
        have x0 := hcells j (.int .i64 ky) (by simp [intCells, he])
        have hd : L.drop j = ky :: L.drop (j + 1) := by rw [List.drop_eq_getElem_cons hjn]; rw [(List.getElem?_eq_some_iff.1 he).2]
        rw [hd] at hq
        have j0 : (0 : Int) ≤ (j : Int) := Int.natCast_nonneg _
        have j1 : (j : Int) < (L.length : Int) := by omega
        have hfr := free_any wr p s ky (H.out.mod0 hm)
        cases hf : s.free ky with
        | none =>
          rw [hf] at hfr
          have hq' : oldL s (L.drop (j + 1)) = oldL s L := by
            rw [← hq]; unfold oldL; simp [List.find?_cons, hf]
          have HF := hid hfr
          have HV := hid (And.intro hv hm)
          have HQ := hid hq'
          clear hq hq' hf hfr hv hm hd he hcells H2
          go_wp2_with (first
            | (go_at_call 36; refine HF.out.mono ?_; rintro e w1 ⟨rfl, hm1⟩; simp only [freeV, Msg.v, Msg.zero, Option.getD_none, Option.isSome_none]; have HM1 := hid hm1; clear hm1))
          go_roundg (gk - 1)
          case measure => omega
          case rel => exact ⟨j + 1, by go_num, by omega, HQ.out, (HV.out.1.mod HM1.out (fun _ _ => by simp)).mod (S := []) ((Mod.refl _ _).alloc _) (fun _ _ => by simp), (HV.out.2.trans HM1.out).alloc _⟩
        | some m =>
          rw [hf] at hfr
          have hq' : oldL s L = (ky, 0) := by
            rw [← hq]; unfold oldL; simp [List.find?_cons, hf]
          have HF := hid hfr
          have HV := hid (And.intro hv hm)
          have HQ := hid hq'
          clear hq hq' hf hfr hv hm hd he hcells H2
          go_wp2_with (first
            | (go_at_call 36; refine HF.out.mono ?_; rintro e w1 ⟨rfl, hm1⟩; simp only [freeV, Msg.v, Option.getD_some, Option.isSome_some]; have HM1 := hid hm1; clear hm1))
          go_ret2
          exact ⟨by rw [HD.out, HQ.out]; rfl, (HV.out.2.trans HM1.out).alloc _⟩
      · have hd : L.drop j = [] := List.drop_eq_nil_of_le (by omega)
        have hq' : oldL s L = (0, 300) := by rw [← hq, hd]; rfl
        have j1 : ¬ (j : Int) < (L.length : Int) := by omega
        have HV := hid (And.intro hv hm)
        have HQ := hid hq'
        clear hq hq' hv hm hd H2
        go_wp2_with fail
        go_ret2
        exact ⟨by rw [HD.out, HQ.out]; rfl, HV.out.2⟩
end Go.Proofs.Ytbjgjagbepopfaa
