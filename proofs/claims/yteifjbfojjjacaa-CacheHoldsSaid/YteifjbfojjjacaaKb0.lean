/-
  A credential cache: clear of many tickets, one ticket stored into a row, the first that ended. No statement of a claim stands here; each contract names what it asks.
-/
import Derived.Test.YteifjbfojjjacaaKaD
set_option linter.unusedSimpArgs false
namespace Go.Proofs.Yteifjbfojjjacaa
open Go Go.RowKit Go.ChangeMaps

theorem zeroTk_one (m : Nat) : ∀ u ∈ (Builtin.zeroCells (Value.agg #[.string ⟨#[]⟩, .string ⟨#[]⟩, .slice none 0 0, .int .i64 0, .int .i64 0, .int .i64 0, .int .i64 0]).cells m).toList, u.oneCell' = true := by
  intro u hu
  have hz : (Value.agg #[.string ⟨#[]⟩, .string ⟨#[]⟩, .slice none 0 0, .int .i64 0, .int .i64 0, .int .i64 0, .int .i64 0]).cells = #[.string ⟨#[]⟩, .string ⟨#[]⟩, .slice none 0 0, .int .i64 0, .int .i64 0, .int .i64 0, .int .i64 0] := by kernel_rfl
  rw [hz] at hu
  simp only [Builtin.zeroCells, Array.toList_map, List.mem_map, Array.toList_range, List.mem_range] at hu
  obtain ⟨i, _, rfl⟩ := hu
  have h7 : i % 7 < 7 := Nat.mod_lt _ (by omega)
  show ((#[.string ⟨#[]⟩, .string ⟨#[]⟩, .slice none 0 0, .int .i64 0, .int .i64 0, .int .i64 0, .int .i64 0] : Array Value)[i % 7]!).oneCell' = true
  generalize i % 7 = k at h7
  match k, h7 with
  | 0, _ => rfl
  | 1, _ => rfl
  | 2, _ => rfl
  | 3, _ => rfl
  | 4, _ => rfl
  | 5, _ => rfl
  | 6, _ => rfl

/-- clear of the last tickets of a row that has become shorter. -/
theorem clear_tks (w : World) (ty : TypeId) (g n cap c m : Nat) (l : Tks) (hn : n = l.length + m) (hr : w.ownsRow 0 50 7 (.slice (some ⟨g, 0, none⟩) l.length cap) l.length (tkCells l)) (hc : n ≤ cap) :
    ∃ w', (Builtin.clear_ #[46] ty #[.slice (some ⟨g, l.length * 7, none⟩) m c]).run Try.prog w = .ok (.tuple #[]) w' ∧ w'.ownsRow 0 50 7 (.slice (some ⟨g, 0, none⟩) l.length cap) l.length (tkCells l) ∧ Mod [g] w w' := by
  rcases Nat.eq_zero_or_pos m with rfl | hm
  · refine ⟨w, ?_, hr, Mod.refl _ _⟩
    have hu := fun w => run_underlying Try.underlying46 w
    simp [Builtin.clear_, hu]
  rcases hr.2 with ⟨h, _⟩ | ⟨g', cap', cur, h, hb, hg, hnc, hcm, hcs, htake⟩
  · simp at h
  · simp only [Value.slice.injEq, Option.some.injEq, Addr.mk.injEq, and_true, true_and] at h
    obtain ⟨rfl, rfl⟩ := h
    obtain ⟨Z, hZ⟩ : ∃ Z, Z = (Builtin.zeroCells (Value.agg #[.string ⟨#[]⟩, .string ⟨#[]⟩, .slice none 0 0, .int .i64 0, .int .i64 0, .int .i64 0, .int .i64 0]).cells m).toList := ⟨_, rfl⟩
    have hZl : Z.length = m * 7 := by
      rw [hZ, Array.length_toList, size_zeroCells]
      rfl
    have hst := run_storeCells_at Try.prog g (l.length * 7) 50 Z 0 cur w hg (by rw [hZl]; omega) (by rw [hZ]; exact zeroTk_one m)
    obtain ⟨cs, hcs2⟩ : ∃ cs, cs = (List.take (l.length * 7 + 0) cur.toList ++ Z ++ List.drop (l.length * 7 + 0 + Z.length) cur.toList).toArray := ⟨_, rfl⟩
    rw [← hcs2] at hst
    have hsz : cs.size = cap * 7 := by
      rw [hcs2]
      simp only [hZl, List.size_toArray, List.length_append, List.length_take, List.length_drop, Array.length_toList]
      omega
    have htk : cs.toList.take (l.length * 7) = tkCells l := by
      rw [hcs2, List.toList_toArray, List.append_assoc, List.take_append_of_le_length (by simp; omega), List.take_take, Nat.min_eq_left (by omega)]
      exact htake
    refine ⟨w.setRow g cs, ?_, ⟨hr.1, .inr ⟨g, cap, cs, rfl, hb, setRow_heap w g cur cs 50 _ hg, hnc, hcm, hsz, htk⟩⟩, ⟨rfl, rfl, rfl, by simp [World.setRow], fun k _ hk => setRow_other w g k cs (by simpa using hk)⟩⟩
    have hu := fun w => run_underlying Try.underlying46 w
    obtain ⟨m', rfl⟩ : ∃ m', m = m' + 1 := ⟨m - 1, by omega⟩
    simp [Builtin.clear_, hu, zTk, ← hZ, hst]

theorem tk_set : ∀ (m : Tks) (i : Nat) (q : Value × TkS), i < m.length →
    ((((((((tkCells m).set (i * 7) (.string q.2.client)).set (i * 7 + 1) (.string q.2.service)).set (i * 7 + 2) q.1).set (i * 7 + 3) (.int .i64 q.2.from_)).set (i * 7 + 4) (.int .i64 q.2.until_)).set (i * 7 + 5) (.int .i64 q.2.renew)).set (i * 7 + 6) (.int .i64 q.2.flags)) = tkCells (m.set i q)
  | [], i, q, h => by simp at h
  | x :: m, 0, q, _ => by simp [tkCells, TkS.cells]
  | x :: m, i + 1, q, h => by
    have ih := tk_set m i q (by simpa using h)
    have e : (i + 1) * 7 = i * 7 + 7 := by omega
    rw [e]
    simp only [tkCells, List.flatMap_cons, TkS.cells, List.set_cons_succ, List.cons_append, List.nil_append] at ih ⊢
    rw [ih]

/-- One ticket is stored into a row. -/
theorem row_put {w : World} {g cap : Nat} {m : Tks} (hr : w.ownsRow 0 50 7 (.slice (some ⟨g, 0, none⟩) m.length cap) m.length (tkCells m)) (i : Nat) (hi : i < m.length) (kv : Value) (t : TkS) :
    (((((((w.setCell ⟨g, i * 7, none⟩ (.string t.client)).setCell ⟨g, i * 7 + 1, none⟩ (.string t.service)).setCell ⟨g, i * 7 + 2, none⟩ kv).setCell ⟨g, i * 7 + 3, none⟩ (.int .i64 t.from_)).setCell ⟨g, i * 7 + 4, none⟩ (.int .i64 t.until_)).setCell ⟨g, i * 7 + 5, none⟩ (.int .i64 t.renew)).setCell ⟨g, i * 7 + 6, none⟩ (.int .i64 t.flags)).ownsRow 0 50 7 (.slice (some ⟨g, 0, none⟩) m.length cap) m.length (tkCells (m.set i (kv, t))) ∧
    Mod [g] w (((((((w.setCell ⟨g, i * 7, none⟩ (.string t.client)).setCell ⟨g, i * 7 + 1, none⟩ (.string t.service)).setCell ⟨g, i * 7 + 2, none⟩ kv).setCell ⟨g, i * 7 + 3, none⟩ (.int .i64 t.from_)).setCell ⟨g, i * 7 + 4, none⟩ (.int .i64 t.until_)).setCell ⟨g, i * 7 + 5, none⟩ (.int .i64 t.renew)).setCell ⟨g, i * 7 + 6, none⟩ (.int .i64 t.flags)) := by
  refine ⟨?_, Mod.setCell (Mod.setCell (Mod.setCell (Mod.setCell (Mod.setCell (Mod.setCell (Mod.setCell (Mod.refl _ _) (by simp) _) (by simp) _) (by simp) _) (by simp) _) (by simp) _) (by simp) _) (by simp) _⟩
  rcases hr.2 with ⟨h, _⟩ | ⟨g', cap', cur, h, hb, hg, hnc, hcm, hcs, htake⟩
  · simp at h
  · simp only [Value.slice.injEq, Option.some.injEq, Addr.mk.injEq, and_true, true_and] at h
    obtain ⟨rfl, rfl⟩ := h
    have hh := get_setCell_self (get_setCell_self (get_setCell_self (get_setCell_self (get_setCell_self (get_setCell_self (get_setCell_self hg (i * 7) (.string t.client)) (i * 7 + 1) (.string t.service)) (i * 7 + 2) kv) (i * 7 + 3) (.int .i64 t.from_)) (i * 7 + 4) (.int .i64 t.until_)) (i * 7 + 5) (.int .i64 t.renew)) (i * 7 + 6) (.int .i64 t.flags)
    refine ⟨by rw [tkCells_len, List.length_set], .inr ⟨g, cap, _, rfl, hb, hh, hnc, hcm, by simp [hcs], ?_⟩⟩
    have := tk_set m i (kv, t) hi
    rw [← this, ← htake]
    simp only [Array.toList_setIfInBounds, List.take_set]

theorem dropfn_any (w : World) (t : TkS) (kv : Value) (now : Int) (bn : Nat) (hc : w.cell? ⟨bn, 0, none⟩ = some (.int .i64 now)) :
    Calls Try.prog 43 #[.agg (t.cells kv).toArray, .pointer (some ⟨bn, 0, none⟩)] w fun e w' => e = .returned (.bool (decide (t.until_ < now))) ∧ Mod [] w w' := by
  obtain ⟨client, service, key, from_, until_, renew, flags⟩ := t
  simp only [TkS.cells]
  have hc' := (Mod.alloc (Mod.refl [] w) (.cells #[.string client, .string service, kv, .int .i64 from_, .int .i64 until_, .int .i64 renew, .int .i64 flags] 50)).cell hc (by simp)
  go_enter Try.func43, Try.ntmps43
  go_wp2_with fail
  go_ret
  exact ⟨rfl, (by repeat' (first | exact Mod.refl _ _ | assumption | refine Mod.drewN ?_ _ | refine Mod.drew ?_ | refine Mod.alloc ?_ _ | refine Mod.setCell ?_ (by simp) _ | refine Mod.setBlock ?_ (by simp) _))⟩

def endS (l : Tks) (now : Int) : Int := match l.findIdx? (fun p => decide (p.2.until_ < now)) with | some i => (i : Int) | none => -1

theorem didx_any (w : World) (l : Tks) (v : Value) (now : Int) (bn : Nat) (hr : w.ownsRow 0 50 7 v l.length (tkCells l)) (hl : l.length ≤ 1000) (hc : w.cell? ⟨bn, 0, none⟩ = some (.int .i64 now)) :
    Calls Try.prog 46 #[v, .func (.func 43) #[] #[.pointer (some ⟨bn, 0, none⟩)]] w fun e w' => e = .returned (.int .i64 (endS l now)) ∧ Mod [] w w' := by
  obtain ⟨a, cc, rfl⟩ := row_slice hr
  have H := hid hr
  have HL := hid hl
  have HC := hid hc
  clear hr hl hc
  go_enter Try.func46, Try.ntmps46
  go_wp2_with fail
  go_loopg [8] l.length (fun gk i W' => ∃ j : Nat, i = .int .i64 (j : Int) ∧ gk + j = l.length ∧ (∀ p ∈ l.take j, decide (p.2.until_ < now) = false) ∧ Mod [] w W')
  case atStart => exact ⟨0, rfl, rfl, by simp, Mod.refl _ _⟩
  case round =>
    obtain ⟨j, rfl, hj, hall, hm⟩ := hrel
    have HA := hid hall
    clear hall
    by_cases hjn : j < l.length
    · have hp : l[j]? = some l[j] := List.getElem?_eq_getElem hjn
      generalize l[j] = p at hp
      obtain ⟨g, c', hg, hcell⟩ := row_pos (row_mod H.out hm (by simp)) (by omega)
      cases hg
      obtain ⟨kv, t⟩ := p
      have ht := tk_at hp
      have e0 := hcell _ _ (ht 0 _ rfl)
      have e1 := hcell _ _ (ht 1 _ rfl)
      have e2 := hcell _ _ (ht 2 _ rfl)
      have e3 := hcell _ _ (ht 3 _ rfl)
      have e4 := hcell _ _ (ht 4 _ rfl)
      have e5 := hcell _ _ (ht 5 _ rfl)
      have e6 := hcell _ _ (ht 6 _ rfl)
      dsimp only at e0 e1 e2 e3 e4 e5 e6
      rw [Nat.add_zero] at e0
      have j0 : (0 : Int) ≤ (j : Int) := Int.natCast_nonneg _
      have j1 : (j : Int) < (l.length : Int) := by omega
      have d1 : decide ((j : Int) < (l.length : Int)) = true := by rw [decide_eq_true_eq]; omega
      have d2 : decide (j < l.length) = true := by rw [decide_eq_true_eq]; omega
      have hj100 : j < 1000 := by have := HL.out; omega
      have HP := hid hp
      have hfn := dropfn_any wr t kv now bn (hm.cell HC.out (by simp))
      simp only [TkS.cells] at hfn
      have HM := hid hm
      clear hp ht hcell hm
      cases ht : decide (t.until_ < now) with
      | false =>
        rw [ht] at hfn
        have HT := hid ht
        have HFN := hid hfn
        clear ht hfn
        go_wp2_with (first
          | (go_at_call 43; refine HFN.out.mono ?_; rintro e w' ⟨rfl, hm'⟩; have HM' := hid hm'; clear hm'))
        go_roundg (gk - 1)
        case measure => omega
        case rel => exact ⟨j + 1, by go_num, by omega, fun x hx => by
          rw [List.take_add_one, HP.out] at hx
          rcases List.mem_append.1 hx with hx | hx
          · exact HA.out x hx
          · simp at hx; rw [hx]; exact HT.out, HM.out.trans HM'.out⟩
      | true =>
        rw [ht] at hfn
        have HT := hid ht
        have HFN := hid hfn
        clear ht hfn
        go_wp2_with (first
          | (go_at_call 43; refine HFN.out.mono ?_; rintro e w' ⟨rfl, hm'⟩; have HM' := hid hm'; clear hm'))
        go_ret
        refine ⟨?_, HM.out.trans HM'.out⟩
        have hidx : l.findIdx? (fun p => decide (p.2.until_ < now)) = some j := by
          rw [List.findIdx?_eq_some_iff_getElem]
          refine ⟨hjn, ?_, fun i hi => ?_⟩
          · have := HP.out
            rw [List.getElem?_eq_getElem hjn, Option.some.injEq] at this
            rw [this]; exact HT.out
          · have := HA.out l[i] (List.mem_take_iff_getElem.2 ⟨i, by omega, rfl⟩)
            rw [this]; simp
        simp only [endS, hidx]
        rfl
    · have d1 : decide ((j : Int) < (l.length : Int)) = false := by rw [decide_eq_false_iff_not]; omega
      have d2 : decide (j < l.length) = false := by rw [decide_eq_false_iff_not]; omega
      go_wp2_with fail
      go_ret
      refine ⟨?_, hm⟩
      have hidx : l.findIdx? (fun p => decide (p.2.until_ < now)) = none := by
        rw [List.findIdx?_eq_none_iff]
        exact fun x hx => HA.out x (by rw [List.take_of_length_le (by omega)]; exact hx)
      simp only [endS, hidx]
      rfl
end Go.Proofs.Yteifjbfojjjacaa
