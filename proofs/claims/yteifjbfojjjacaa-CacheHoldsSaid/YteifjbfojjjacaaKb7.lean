/-
  The reference's credential cache, walked: Put whatever comes, Drop. No statement of a claim stands here; each contract names what it asks.
-/
import Derived.Test.YteifjbfojjjacaaKb6
set_option linter.unusedSimpArgs false
namespace Go.Proofs.Yteifjbfojjjacaa
open Go Go.RowKit Go.ChangeMaps

/-- Put (21.2), as the reference puts. -/
def rputS (room : Int) (l : Tks) (kv' : Value) (t : TkS) : Tks := if t.timesOk then roomy room (gone l t.client t.service) ++ [(kv', t)] else l

theorem rput_bad (w : World) (y : Nat) (t : TkS) (kv : Value) (hb : t.timesOk = false) :
    Calls Try.prog 25 #[.pointer (some ⟨y, 0, none⟩), .agg (t.cells kv).toArray] w fun e w' => e = .returned (.int .i64 2) ∧ Mod [] w w' := by
  obtain ⟨client, service, key, from_, until_, renew, flags⟩ := t
  simp only [TkS.cells, TkS.timesOk] at *
  have hbx := get_new w (.cells #[.string client, .string service, kv, .int .i64 from_, .int .i64 until_, .int .i64 renew, .int .i64 flags] 50)
  have b3 := cell_at hbx 3
  have b4 := cell_at hbx 4
  simp only [List.getElem?_toArray, List.getElem?_cons_zero, List.getElem?_cons_succ] at b3 b4
  cases h1 : timeOk from_ with
  | false =>
    have H1 := hid h1
    clear hb hbx h1
    go_enter Try.func25, Try.ntmps25
    go_wp2_with (first
      | (go_at_call 32; refine (rtime_any _ _).mono ?_; rw [H1.out]; rintro e w' ⟨rfl, rfl⟩))
    go_ret
    exact ⟨rfl, (by repeat' (first | exact Mod.refl _ _ | assumption | refine Mod.drewN ?_ _ | refine Mod.drew ?_ | refine Mod.alloc ?_ _ | refine Mod.setCell ?_ (by simp) _ | refine Mod.setBlock ?_ (by simp) _))⟩
  | true =>
    rw [h1, Bool.true_and] at hb
    have H1 := hid h1
    have H2 := hid hb
    clear hb hbx h1
    go_enter Try.func25, Try.ntmps25
    go_wp2_with (first
      | (go_at_call 32; refine (rtime_any _ _).mono ?_; (first | rw [H1.out] | rw [H2.out]); rintro e w' ⟨rfl, rfl⟩))
    go_ret
    exact ⟨rfl, (by repeat' (first | exact Mod.refl _ _ | assumption | refine Mod.drewN ?_ _ | refine Mod.drew ?_ | refine Mod.alloc ?_ _ | refine Mod.setCell ?_ (by simp) _ | refine Mod.setBlock ?_ (by simp) _))⟩

theorem rput_any (w : World) (y : Nat) (v : Value) (room : Int) (l : Tks) (t : TkS) (kv : Value) (h : RHeldAt w y v room l) (hlen : l.length ≤ 1000) (hr0 : 0 < room) (hkl : t.key.length ≤ 140737488355328)
    (hkm : ∀ w', Mod (y :: v.ownBlock.toList) w w' → KeyIn w' kv t.key) :
    Calls Try.prog 25 #[.pointer (some ⟨y, 0, none⟩), .agg (t.cells kv).toArray] w fun e w' => e = .returned (.int .i64 (putE t)) ∧ ∃ kv' v', RHeldAt w' y v' room (rputS room l kv' t) ∧ Mod (y :: v.ownBlock.toList) w w' ∧ ∀ q, v'.ownBlock = some q → v.ownBlock = some q ∨ w.heap.size ≤ q := by
  cases hb : t.timesOk with
  | false =>
    refine (rput_bad w y t kv hb).mono ?_
    rintro e w' ⟨rfl, hm⟩
    refine ⟨by unfold putE; rw [hb]; rfl, .slice none 0 0, v, ?_, hm.mono (by simp), fun q hq => .inl hq⟩
    unfold rputS
    rw [hb]
    exact h.mod0 hm
  | true =>
    have hb2 := hb
    simp only [TkS.timesOk, Bool.and_eq_true] at hb2
    refine (rput_ok w y v room l t kv h hlen hr0 hkl hb2.1 hb2.2 hkm).mono ?_
    rintro e w' ⟨rfl, kv', v', h1, h2⟩
    refine ⟨by unfold putE; rw [hb]; rfl, kv', v', ?_, h2⟩
    unfold rputS
    rw [hb, if_pos rfl]
    exact h1

/-- While those that did not end are gathered. -/
structure GathT (w W : World) (v : Value) (m : Tks) : Prop where
  row : W.ownsRow 0 50 7 v m.length (tkCells m)
  mod : Mod [] w W
  own : ∀ k, v.ownBlock = some k → w.heap.size ≤ k
theorem GathT.more {w W : World} {v : Value} {m : Tks} (h : GathT w W v m) (kv : Value) (t : TkS) (hkv : ∃ a n c, kv = .slice a n c) (hl : m.length ≤ 1000) :
    ∃ v' w', (Builtin.append_ #[46, 46] 46 #[v, .slice (some ⟨W.heap.size, 0, none⟩) 1 1]).run Try.prog (W.alloc (.cells (t.cells kv).toArray 50)) = .ok v' w' ∧ GathT w w' v' (m ++ [(kv, t)]) := by
  obtain ⟨a, n, c, rfl⟩ := hkv
  obtain ⟨v', w', hrun, ho, hm', hk', -⟩ := elemTk.app (W.alloc (.cells (t.cells (.slice a n c)).toArray 50)) 46 v m.length _ (row_mod h.row (Mod.alloc (Mod.refl [] W) _) (by simp)) W.heap.size 1 _ _ _ (get_new W _) rfl (by
    intro u hu
    simp only [TkS.cells, List.mem_cons, List.not_mem_nil, or_false, List.toList_toArray] at hu
    rcases hu with rfl | rfl | rfl | rfl | rfl | rfl | rfl <;> rfl) (by unfold maxLen; omega) (by omega)
  refine ⟨v', w', hrun, ⟨?_, (h.mod.alloc _).trans' hm' (fun x hx => .inr (h.own x (by simpa using hx))), fun k hk => ?_⟩⟩
  · rw [tkCells_append, List.length_append]
    simpa [tkCells] using ho
  · rcases hk' k hk with h3 | h3
    · exact h.own k h3
    · have := h.mod.size
      simp at h3; omega

theorem rdrop_bad (w : World) (y : Nat) (now : Int) (ht : timeOk now = false) :
    Calls Try.prog 27 #[.pointer (some ⟨y, 0, none⟩), .int .i64 now] w fun e w' => e = .returned (.tuple #[.int .i64 0, .int .i64 2]) ∧ w' = w := by
  have HT := hid ht
  clear ht
  go_enter Try.func27, Try.ntmps27
  go_wp2_with (first
    | (go_at_call 32; refine (rtime_any _ _).mono ?_; rw [HT.out]; rintro e w' ⟨rfl, rfl⟩))
  go_ret2
  exact ⟨rfl, rfl⟩

theorem keepS_snoc {l : Tks} {now : Int} {j : Nat} {p : Value × TkS} (hp : l[j]? = some p) : keepS (l.take (j + 1)) now = if p.2.until_ < now then keepS (l.take j) now else keepS (l.take j) now ++ [p] := by
  rw [List.take_add_one, hp]
  simp only [keepS, Option.toList_some, List.filter_append, List.filter_cons, List.filter_nil]
  by_cases h : p.2.until_ < now <;> simp [h]

set_option maxRecDepth 20000 in
set_option maxHeartbeats 4000000 in
theorem rdrop_ok (w : World) (y : Nat) (v : Value) (room : Int) (l : Tks) (now : Int) (h : RHeldAt w y v room l) (hlen : l.length ≤ 1000) (ht : timeOk now = true) :
    Calls Try.prog 27 #[.pointer (some ⟨y, 0, none⟩), .int .i64 now] w fun e w' => e = .returned (.tuple #[.int .i64 ((l.length : Int) - ((keepS l now).length : Int)), .int .i64 0]) ∧ ∃ v', RHeldAt w' y v' room (keepS l now) ∧ Mod [y] w w' ∧ ∀ q, v'.ownBlock = some q → w.heap.size ≤ q := by
  have HT := hid ht
  have H := hid h
  have HLEN := hid hlen
  obtain ⟨a, cc, rfl⟩ := row_slice h.row
  clear ht h hlen
  go_enter Try.func27, Try.ntmps27
  go_wp2_with (first
    | (go_at_call 32; refine (rtime_any _ _).mono ?_; rw [HT.out]; rintro e w' ⟨rfl, rfl⟩))
  go_loopg [6, 7] l.length (fun gk pv iv W' => ∃ (j : Nat) (m : Tks), iv = .int .i64 (j : Int) ∧ gk + j = l.length ∧ m = keepS (l.take j) now ∧ m.length ≤ j ∧ GathT w W' pv m)
  case atStart =>
    refine ⟨0, [], rfl, rfl, rfl, Nat.le_refl _, ⟨⟨rfl, .inr ⟨w.heap.size, 0, #[], rfl, Nat.zero_le _, get_new w _, Nat.le_refl _, by unfold maxLen; omega, rfl, rfl⟩⟩, Mod.alloc (Mod.refl _ _) _, fun k hk => ?_⟩⟩
    cases hk; exact Nat.le_refl _
  case round =>
    obtain ⟨j, m, rfl, hj, hm, hml, hG⟩ := hrel
    obtain ⟨ma, mc, rfl⟩ := row_slice hG.row
    have hY := H.out.mod0 hG.mod
    have c1 : wr.cell? ⟨y, 1, none⟩ = some (.slice a l.length cc) := cell_at hY.cells 1
    have HJ := hid (And.intro hj hml)
    have HMM := hid hm
    have HG := hid hG
    have j0 : (0 : Int) ≤ (j : Int) := Int.natCast_nonneg _
    by_cases hjn : j < l.length
    · have hp : l[j]? = some l[j] := List.getElem?_eq_getElem hjn
      generalize l[j] = p at hp
      obtain ⟨g, c', hg, hcell⟩ := row_pos hY.row (by omega)
      cases hg
      have hstep := keepS_snoc (now := now) hp
      obtain ⟨kv, client, service, key, from_, until_, renew, flags⟩ := p
      obtain ⟨ka, kn, kc, hkv⟩ := hY.kv _ (List.mem_of_getElem? hp)
      dsimp only at hkv hstep
      subst hkv
      have ht := tk_at hp
      have e0 := hcell _ _ (ht 0 _ rfl)
      have e1 := hcell _ _ (ht 1 _ rfl)
      have e2 := hcell _ _ (ht 2 _ rfl)
      have e3 := hcell _ _ (ht 3 _ rfl)
      have e4 := hcell _ _ (ht 4 _ rfl)
      have e5 := hcell _ _ (ht 5 _ rfl)
      have e6 := hcell _ _ (ht 6 _ rfl)
      dsimp only at e0 e1 e2 e3 e4 e5 e6
      rw [Nat.add_zero] at e0
      have j1 : (j : Int) < (l.length : Int) := by omega
      have d1 : decide ((j : Int) < (l.length : Int)) = true := by rw [decide_eq_true_eq]; omega
      have d2 : decide (j < l.length) = true := by rw [decide_eq_true_eq]; omega
      have hj100 : j < 1000 := by have := HLEN.out; omega
      have HST := hid hstep
      clear hp ht hcell hG hY hj hml hm hjn hstep
      by_cases hu : until_ < now
      · have d4 : decide (now ≤ until_) = false := by rw [decide_eq_false_iff_not]; omega
        have HU := hid hu
        clear hu
        go_wp2_with fail
        go_roundg (gk - 1)
        case measure => have := HJ.out; omega
        case rel => exact ⟨j + 1, m, by go_num, by have := HJ.out; omega, by rw [HST.out, if_pos HU.out]; exact HMM.out, by have := HJ.out; omega, HG.out⟩
      · have d4 : decide (now ≤ until_) = true := by rw [decide_eq_true_eq]; omega
        have HU := hid hu
        have hmore := HG.out.more (.slice ka kn kc) ⟨client, service, key, from_, until_, renew, flags⟩ ⟨_, _, _, rfl⟩ (by have := HJ.out; omega)
        simp only [TkS.cells] at hmore
        have HMO := hid hmore
        clear hu hmore
        go_wp2_with (first
          | (at_builtin; refine wpList_app_run rfl _ _ 46 rfl (.slice ma m.length mc) _ rfl rfl _ HMO.out ?_; rintro v7 w7 h7; have HG7 := hid h7; clear h7))
        go_roundg (gk - 1)
        case measure => have := HJ.out; omega
        case rel => exact ⟨j + 1, _, by go_num, by have := HJ.out; omega, by rw [HST.out, if_neg (by have := HU.out; omega), ← HMM.out], by have := HJ.out; simp; omega, HG7.out⟩
    · have d1 : decide ((j : Int) < (l.length : Int)) = false := by rw [decide_eq_false_iff_not]; omega
      have d2 : decide (j < l.length) = false := by rw [decide_eq_false_iff_not]; omega
      rw [List.take_of_length_le (by omega)] at hm
      have hml2 : m.length ≤ l.length := by rw [hm]; exact List.length_filter_le _ _
      have hwr : IntKind.i64.wrap ((l.length : Int) - (m.length : Int)) = (l.length : Int) - (m.length : Int) := IntWalk.i64_in _ (by have := HLEN.out; omega)
      have f1 : wr.frozen? ⟨y, 1, none⟩ = false := free_at hY.cells 1
      have HM2 := hid hm
      clear hm hG hY hj hml hjn HMM hml2
      go_wp2_with fail
      go_ret2
      have := H.out.turn HG.out.mod (v' := .slice ma m.length mc) (l' := m) HG.out.row (fun p hp => by rw [HM2.out] at hp; exact (List.mem_filter.1 hp).1)
      rw [← HM2.out]
      exact ⟨rfl, _, this.1, this.2, HG.out.own⟩

theorem rdrop_any (w : World) (y : Nat) (v : Value) (room : Int) (l : Tks) (now : Int) (h : RHeldAt w y v room l) (hlen : l.length ≤ 1000) :
    Calls Try.prog 27 #[.pointer (some ⟨y, 0, none⟩), .int .i64 now] w fun e w' => e = .returned (.tuple #[.int .i64 (dropN l now), .int .i64 (dropE now)]) ∧ ∃ v', RHeldAt w' y v' room (dropS l now) ∧ Mod [y] w w' ∧ ∀ q, v'.ownBlock = some q → v.ownBlock = some q ∨ w.heap.size ≤ q := by
  cases ht : timeOk now with
  | false =>
    refine (rdrop_bad w y now ht).mono ?_
    rintro e w' ⟨rfl, rfl⟩
    refine ⟨by simp [dropN, dropE, ht], v, ?_, Mod.refl _ _, fun _ h => .inl h⟩
    simp only [dropS, ht]
    exact h
  | true =>
    refine (rdrop_ok w y v room l now h hlen ht).mono ?_
    rintro e w' ⟨rfl, v', hh, hm, hv⟩
    refine ⟨by simp [dropN, dropE, ht], v', ?_, hm, fun q hq => .inr (hv q hq)⟩
    simp only [dropS, ht, if_true]
    exact hh
end Go.Proofs.Yteifjbfojjjacaa
