/-
  The reference's credential cache, walked: Find, Drop. No statement of a claim stands here; each contract names what it asks.
-/
import Derived.Test.YteifjbfojjjacaaKb3
import Derived.Deep.DeepCutAuto
set_option linter.unusedSimpArgs false
namespace Go.Proofs.Yteifjbfojjjacaa
open Go Go.RowKit Go.ChangeMaps

def TkS.hit (t : TkS) (c s : ByteArray) (now : Int) : Bool := t.is c s && (decide (t.from_ ≤ now) && decide (now ≤ t.until_))
/-- Find (21.2), as the reference looks. -/
def rfindS (l : Tks) (c s : ByteArray) (now : Int) : TkS × Int :=
  if timeOk now then match l.find? (fun p => p.2.hit c s now) with
    | some p => (p.2, 0)
    | none => (noTk, 5)
  else (noTk, 2)

def RFindPost (w : World) (r : TkS × Int) (e : Ending) (w' : World) : Prop := ∃ kv', e = .returned (.tuple #[.agg (r.1.cells kv').toArray, .int .i64 r.2]) ∧ KeyIn w' kv' r.1.key ∧ Mod [] w w'
theorem RFindPost.mk {w : World} {r : TkS × Int} {t : TkS} {k : Int} (h : r = (t, k)) {kv : Value} {w' : World} (hk : KeyIn w' kv t.key) (hm : Mod [] w w') : RFindPost w r (.returned (.tuple #[.agg #[.string t.client, .string t.service, kv, .int .i64 t.from_, .int .i64 t.until_, .int .i64 t.renew, .int .i64 t.flags], .int .i64 k])) w' := ⟨kv, by rw [h]; rfl, by rw [h]; exact hk, hm⟩
set_option maxRecDepth 20000 in
set_option maxHeartbeats 4000000 in
theorem rfind_any (w : World) (y : Nat) (v : Value) (room : Int) (l : Tks) (c s : ByteArray) (now : Int) (h : RHeldAt w y v room l) (hlen : l.length ≤ 1000) :
    Calls Try.prog 28 #[.pointer (some ⟨y, 0, none⟩), .string c, .string s, .int .i64 now] w (RFindPost w (rfindS l c s now)) := by
  obtain ⟨vt, hvt⟩ : ∃ b, b = timeOk now := ⟨_, rfl⟩
  have HVT := hid hvt
  have HH := hid h
  have HLEN := hid hlen
  have hR0 := get_new w (.cells #[.string ⟨#[]⟩, .string ⟨#[]⟩, .slice none 0 0, .int .i64 0, .int .i64 0, .int .i64 0, .int .i64 0] 50)
  have hM0 : Mod [] w (w.alloc (.cells #[.string ⟨#[]⟩, .string ⟨#[]⟩, .slice none 0 0, .int .i64 0, .int .i64 0, .int .i64 0, .int .i64 0] 50)) := Mod.alloc (Mod.refl _ _) _
  have HR0 := hid hR0
  have HM0 := hid hM0
  obtain ⟨a, cc, rfl⟩ := row_slice h.row
  clear h hlen hR0 hM0 hvt
  cases vt with
  | false =>
    have HR3 := HR0
    have HS := hid (show rfindS l c s now = (noTk, 2) by unfold rfindS; rw [← HVT.out]; rfl)
    have r0 : (w.alloc (.cells #[.string ⟨#[]⟩, .string ⟨#[]⟩, .slice none 0 0, .int .i64 0, .int .i64 0, .int .i64 0, .int .i64 0] 50)).cell? ⟨w.heap.size, 0, none⟩ = some (.string ⟨#[]⟩) := cell_at HR3.out 0
    go_enter Try.func28, Try.ntmps28
    go_wp2_with (first
      | (go_at_call 32; refine (rtime_any _ _).mono ?_; rw [← HVT.out]; rintro e w' ⟨rfl, rfl⟩))
    refine bodyPost_ret (v := .tuple #[.agg #[.string ⟨#[]⟩, .string ⟨#[]⟩, .slice none 0 0, .int .i64 0, .int .i64 0, .int .i64 0, .int .i64 0], .int .i64 2]) (by simp [results, Try.results28, go_sem]) rfl ?_
    rw [HS.out]
    exact RFindPost.mk rfl (.inl ⟨rfl, rfl⟩) HM0.out
  | true =>
    go_enter Try.func28, Try.ntmps28
    go_wp2_with (first
      | (go_at_call 32; refine (rtime_any _ _).mono ?_; rw [← HVT.out]; rintro e w' ⟨rfl, rfl⟩))
    generalize hwz : (w.alloc (.cells #[.string ⟨#[]⟩, .string ⟨#[]⟩, .slice none 0 0, .int .i64 0, .int .i64 0, .int .i64 0, .int .i64 0] 50)) = wz at *
    clear hwz
    go_loopg [10] l.length (fun gk iv W' => ∃ j : Nat, iv = .int .i64 (j : Int) ∧ gk + j = l.length ∧ (∀ p ∈ l.take j, p.2.hit c s now = false) ∧ Mod [] wz W')
    case atStart => exact ⟨0, rfl, rfl, by simp, Mod.refl _ _⟩
    case round =>
      obtain ⟨j, rfl, hj, hall, hm⟩ := hrel
      have hY := (HH.out.mod0 (HM0.out.trans hm))
      have c1 : wr.cell? ⟨y, 1, none⟩ = some (.slice a l.length cc) := cell_at hY.cells 1
      have HA := hid hall
      have HJ := hid hj
      have j0 : (0 : Int) ≤ (j : Int) := Int.natCast_nonneg _
      by_cases hjn : j < l.length
      · have hp : l[j]? = some l[j] := List.getElem?_eq_getElem hjn
        generalize l[j] = p at hp
        obtain ⟨g, c', hg, hcell⟩ := row_pos hY.row (by omega)
        cases hg
        obtain ⟨kv, client, service, key, from_, until_, renew, flags⟩ := p
        have hkv := hY.keys _ (List.mem_of_getElem? hp)
        dsimp only at hkv
        obtain ⟨ka, kc, rfl⟩ := row_slice hkv
        have ht := tk_at hp
        have e0 := hcell _ _ (ht 0 _ rfl)
        have e1 := hcell _ _ (ht 1 _ rfl)
        have e2 := hcell _ _ (ht 2 _ rfl)
        have e3 := hcell _ _ (ht 3 _ rfl)
        have e4 := hcell _ _ (ht 4 _ rfl)
        have e5 := hcell _ _ (ht 5 _ rfl)
        have e6 := hcell _ _ (ht 6 _ rfl)
        dsimp only at e0 e1 e2 e3 e4 e5 e6
        rw [Nat.add_zero] at e0
        have j1 : (j : Int) < (l.length : Int) := by omega
        have d1 : decide ((j : Int) < (l.length : Int)) = true := by rw [decide_eq_true_eq]; omega
        have d2 : decide (j < l.length) = true := by rw [decide_eq_true_eq]; omega
        have hj100 : j < 1000 := by have := HLEN.out; omega
        have HP := hid hp
        have HM := hid hm
        have HKV := hid hkv
        have HY := hid hY
        have hq1 := chars_eq client c
        have hq2 := chars_eq service s
        clear hp ht hcell hm hkv hY hall hj hjn
        have hhit : (⟨client, service, key, from_, until_, renew, flags⟩ : TkS).hit c s now = (decide (client = c) && decide (service = s) && (decide (from_ ≤ now) && decide (now ≤ until_))) := rfl
        cases h1 : decide (client = c) with
        | false =>
          rw [h1] at hq1
          have HT := hid (show (⟨client, service, key, from_, until_, renew, flags⟩ : TkS).hit c s now = false by rw [hhit, h1]; rfl)
          clear hhit h1
          go_wp2_with fail
          go_roundg (gk - 1)
          case measure => have := HJ.out; omega
          case rel => exact ⟨j + 1, by go_num, by have := HJ.out; omega, fun x hx => by
            rw [List.take_add_one, HP.out] at hx
            rcases List.mem_append.1 hx with hx | hx
            · exact HA.out x hx
            · simp at hx; rw [hx]; exact HT.out, HM.out.trans (Mod.alloc (Mod.refl _ _) _)⟩
        | true =>
          rw [h1] at hq1
          cases h2 : decide (service = s) with
          | false =>
            rw [h2] at hq2
            have HT := hid (show (⟨client, service, key, from_, until_, renew, flags⟩ : TkS).hit c s now = false by rw [hhit, h1, h2]; rfl)
            clear hhit h1 h2
            go_wp2_with fail
            go_roundg (gk - 1)
            case measure => have := HJ.out; omega
            case rel => exact ⟨j + 1, by go_num, by have := HJ.out; omega, fun x hx => by
              rw [List.take_add_one, HP.out] at hx
              rcases List.mem_append.1 hx with hx | hx
              · exact HA.out x hx
              · simp at hx; rw [hx]; exact HT.out, HM.out.trans (Mod.alloc (Mod.refl _ _) _)⟩
          | true =>
            rw [h2] at hq2
            cases h3 : decide (from_ ≤ now) with
            | false =>
              have HT := hid (show (⟨client, service, key, from_, until_, renew, flags⟩ : TkS).hit c s now = false by rw [hhit, h1, h2, h3]; rfl)
              clear hhit h1 h2
              go_wp2_with fail
              go_roundg (gk - 1)
              case measure => have := HJ.out; omega
              case rel => exact ⟨j + 1, by go_num, by have := HJ.out; omega, fun x hx => by
                rw [List.take_add_one, HP.out] at hx
                rcases List.mem_append.1 hx with hx | hx
                · exact HA.out x hx
                · simp at hx; rw [hx]; exact HT.out, HM.out.trans (Mod.alloc (Mod.refl _ _) _)⟩
            | true =>
              cases h4 : decide (now ≤ until_) with
              | false =>
                have HT := hid (show (⟨client, service, key, from_, until_, renew, flags⟩ : TkS).hit c s now = false by rw [hhit, h1, h2, h3, h4]; rfl)
                clear hhit h1 h2
                go_wp2_with fail
                go_roundg (gk - 1)
                case measure => have := HJ.out; omega
                case rel => exact ⟨j + 1, by go_num, by have := HJ.out; omega, fun x hx => by
                  rw [List.take_add_one, HP.out] at hx
                  rcases List.mem_append.1 hx with hx | hx
                  · exact HA.out x hx
                  · simp at hx; rw [hx]; exact HT.out, HM.out.trans (Mod.alloc (Mod.refl _ _) _)⟩
              | true =>
                have HT := hid (show (⟨client, service, key, from_, until_, renew, flags⟩ : TkS).hit c s now = true by rw [hhit, h1, h2, h3, h4]; rfl)
                clear hhit h1 h2
                go_upto_region 7 with fail
                have hBa := get_new wr (.cells #[.string client, .string service, .slice ka key.length kc, .int .i64 from_, .int .i64 until_, .int .i64 renew, .int .i64 flags] 50)
                have hma := Mod.alloc (Mod.refl [] wr) (.cells #[.string client, .string service, .slice ka key.length kc, .int .i64 from_, .int .i64 until_, .int .i64 renew, .int .i64 flags] 50)
                generalize (wr.alloc (.cells #[.string client, .string service, .slice ka key.length kc, .int .i64 from_, .int .i64 until_, .int .i64 renew, .int .i64 flags] 50)) = Wa at *
                have HR3 := hid ((HM.out.trans hma).get HR0.out (by simp))
                have HKA := hid (HKV.out.mod0 hma)
                have HMA := hid ((HM0.out.trans HM.out).trans hma)
                have t0 := cell_at hBa 0
                have t1 := cell_at hBa 1
                have t2 := cell_at hBa 2
                have t3 := cell_at hBa 3
                have t4 := cell_at hBa 4
                have t5 := cell_at hBa 5
                have t6 := cell_at hBa 6
                simp only [List.getElem?_toArray, List.getElem?_cons_zero, List.getElem?_cons_succ] at t0 t1 t2 t3 t4 t5 t6
                clear e0 e1 e2 e3 e4 e5 e6 c1 hBa hma
                have r0 : Wa.cell? ⟨w.heap.size, 0, none⟩ = some (.string ⟨#[]⟩) := cell_at HR3.out 0
                have r1 : Wa.cell? ⟨w.heap.size, 1, none⟩ = some (.string ⟨#[]⟩) := cell_at HR3.out 1
                have r2 : Wa.cell? ⟨w.heap.size, 2, none⟩ = some (.slice none 0 0) := cell_at HR3.out 2
                have r3 : Wa.cell? ⟨w.heap.size, 3, none⟩ = some (.int .i64 0) := cell_at HR3.out 3
                have r4 : Wa.cell? ⟨w.heap.size, 4, none⟩ = some (.int .i64 0) := cell_at HR3.out 4
                have r5 : Wa.cell? ⟨w.heap.size, 5, none⟩ = some (.int .i64 0) := cell_at HR3.out 5
                have r6 : Wa.cell? ⟨w.heap.size, 6, none⟩ = some (.int .i64 0) := cell_at HR3.out 6
                have rf : ∀ i, Wa.frozen? ⟨w.heap.size, i, none⟩ = false := free_at HR3.out
                go_wp2_with fail
                have hm8 : Mod [w.heap.size] Wa (((((((Wa.setCell ⟨w.heap.size, 0, none⟩ (.string client)).setCell ⟨w.heap.size, 1, none⟩ (.string service)).setCell ⟨w.heap.size, 2, none⟩ (.slice ka key.length kc)).setCell ⟨w.heap.size, 3, none⟩ (.int .i64 from_)).setCell ⟨w.heap.size, 4, none⟩ (.int .i64 until_)).setCell ⟨w.heap.size, 5, none⟩ (.int .i64 renew)).setCell ⟨w.heap.size, 6, none⟩ (.int .i64 flags)) := (Mod.setCell (Mod.setCell (Mod.setCell (Mod.setCell (Mod.setCell (Mod.setCell (Mod.setCell (Mod.refl _ _) (by simp) _) (by simp) _) (by simp) _) (by simp) _) (by simp) _) (by simp) _) (by simp) _)
                have hR8 := (get_setCell_self (get_setCell_self (get_setCell_self (get_setCell_self (get_setCell_self (get_setCell_self (get_setCell_self HR3.out 0 (.string client)) 1 (.string service)) 2 (.slice ka key.length kc)) 3 (.int .i64 from_)) 4 (.int .i64 until_)) 5 (.int .i64 renew)) 6 (.int .i64 flags))
                simp only [List.setIfInBounds_toArray, List.set_cons_zero, List.set_cons_succ] at hR8
                generalize (((((((Wa.setCell ⟨w.heap.size, 0, none⟩ (.string client)).setCell ⟨w.heap.size, 1, none⟩ (.string service)).setCell ⟨w.heap.size, 2, none⟩ (.slice ka key.length kc)).setCell ⟨w.heap.size, 3, none⟩ (.int .i64 from_)).setCell ⟨w.heap.size, 4, none⟩ (.int .i64 until_)).setCell ⟨w.heap.size, 5, none⟩ (.int .i64 renew)).setCell ⟨w.heap.size, 6, none⟩ (.int .i64 flags)) = W8 at *
                clear r0 r1 r2 r3 r4 r5 r6 rf
                have q0 := cell_at hR8 0
                have q1 := cell_at hR8 1
                have q2 := cell_at hR8 2
                have q3 := cell_at hR8 3
                have q4 := cell_at hR8 4
                have q5 := cell_at hR8 5
                have q6 := cell_at hR8 6
                simp only [List.getElem?_toArray, List.getElem?_cons_zero, List.getElem?_cons_succ] at q0 q1 q2 q3 q4 q5 q6
                have hfind : l.find? (fun p => p.2.hit c s now) = some (.slice ka key.length kc, ⟨client, service, key, from_, until_, renew, flags⟩) := by
                  have hp := HP.out
                  obtain ⟨hjl, hje⟩ := List.getElem?_eq_some_iff.1 hp
                  rw [List.find?_eq_some_iff_getElem]
                  refine ⟨HT.out, j, hjl, hje, fun i hi => ?_⟩
                  have := HA.out l[i] (List.mem_take_iff_getElem.2 ⟨i, by omega, rfl⟩)
                  rw [this]; rfl
                refine bodyPost_ret (v := .tuple #[.agg #[.string client, .string service, .slice ka key.length kc, .int .i64 from_, .int .i64 until_, .int .i64 renew, .int .i64 flags], .int .i64 0]) (by simp [results, Try.results28, go_sem, q0, q1, q2, q3, q4, q5, q6]) rfl ?_
                refine RFindPost.mk (t := ⟨client, service, key, from_, until_, renew, flags⟩) (by unfold rfindS; rw [← HVT.out, if_pos rfl, hfind]) ?_ ?_
                · exact KeyOwn.in_ (row_mod HKA.out hm8 (KeyOwn.apart HKA.out (fun b hb => ⟨_, _, (List.mem_singleton.1 hb) ▸ HR3.out, by decide⟩)))
                · exact HMA.out.trans' hm8 (fun x hx => .inr (Nat.le_of_eq (List.mem_singleton.1 hx).symm))
      · have d1 : decide ((j : Int) < (l.length : Int)) = false := by rw [decide_eq_false_iff_not]; omega
        have d2 : decide (j < l.length) = false := by rw [decide_eq_false_iff_not]; omega
        have hfind : l.find? (fun p => p.2.hit c s now) = none := by
          rw [List.find?_eq_none]
          intro x hx
          rw [HA.out x (by rw [List.take_of_length_le (by omega)]; exact hx)]
          simp
        have HR3 := hid (hm.get HR0.out (by simp))
        have HM := hid hm
        have HFD := hid hfind
        clear hm hY hall hj hfind
        have r0 : wr.cell? ⟨w.heap.size, 0, none⟩ = some (.string ⟨#[]⟩) := cell_at HR3.out 0
        have r1 : wr.cell? ⟨w.heap.size, 1, none⟩ = some (.string ⟨#[]⟩) := cell_at HR3.out 1
        have r2 : wr.cell? ⟨w.heap.size, 2, none⟩ = some (.slice none 0 0) := cell_at HR3.out 2
        have r3 : wr.cell? ⟨w.heap.size, 3, none⟩ = some (.int .i64 0) := cell_at HR3.out 3
        have r4 : wr.cell? ⟨w.heap.size, 4, none⟩ = some (.int .i64 0) := cell_at HR3.out 4
        have r5 : wr.cell? ⟨w.heap.size, 5, none⟩ = some (.int .i64 0) := cell_at HR3.out 5
        have r6 : wr.cell? ⟨w.heap.size, 6, none⟩ = some (.int .i64 0) := cell_at HR3.out 6
        have rf : ∀ i, wr.frozen? ⟨w.heap.size, i, none⟩ = false := free_at HR3.out
        go_wp2_with fail
        have hm8 : Mod [w.heap.size] wr (((((((wr.setCell ⟨w.heap.size, 0, none⟩ (.string ⟨#[]⟩)).setCell ⟨w.heap.size, 1, none⟩ (.string ⟨#[]⟩)).setCell ⟨w.heap.size, 2, none⟩ (.slice none 0 0)).setCell ⟨w.heap.size, 3, none⟩ (.int .i64 0)).setCell ⟨w.heap.size, 4, none⟩ (.int .i64 0)).setCell ⟨w.heap.size, 5, none⟩ (.int .i64 0)).setCell ⟨w.heap.size, 6, none⟩ (.int .i64 0)) := (Mod.setCell (Mod.setCell (Mod.setCell (Mod.setCell (Mod.setCell (Mod.setCell (Mod.setCell (Mod.refl _ _) (by simp) _) (by simp) _) (by simp) _) (by simp) _) (by simp) _) (by simp) _) (by simp) _)
        have hR8 := (get_setCell_self (get_setCell_self (get_setCell_self (get_setCell_self (get_setCell_self (get_setCell_self (get_setCell_self HR3.out 0 (.string ⟨#[]⟩)) 1 (.string ⟨#[]⟩)) 2 (.slice none 0 0)) 3 (.int .i64 0)) 4 (.int .i64 0)) 5 (.int .i64 0)) 6 (.int .i64 0))
        simp only [List.setIfInBounds_toArray, List.set_cons_zero, List.set_cons_succ] at hR8
        generalize (((((((wr.setCell ⟨w.heap.size, 0, none⟩ (.string ⟨#[]⟩)).setCell ⟨w.heap.size, 1, none⟩ (.string ⟨#[]⟩)).setCell ⟨w.heap.size, 2, none⟩ (.slice none 0 0)).setCell ⟨w.heap.size, 3, none⟩ (.int .i64 0)).setCell ⟨w.heap.size, 4, none⟩ (.int .i64 0)).setCell ⟨w.heap.size, 5, none⟩ (.int .i64 0)).setCell ⟨w.heap.size, 6, none⟩ (.int .i64 0)) = W8 at *
        clear r0 r1 r2 r3 r4 r5 r6 rf
        have q0 := cell_at hR8 0
        have q1 := cell_at hR8 1
        have q2 := cell_at hR8 2
        have q3 := cell_at hR8 3
        have q4 := cell_at hR8 4
        have q5 := cell_at hR8 5
        have q6 := cell_at hR8 6
        simp only [List.getElem?_toArray, List.getElem?_cons_zero, List.getElem?_cons_succ] at q0 q1 q2 q3 q4 q5 q6
        refine bodyPost_ret (v := .tuple #[.agg #[.string ⟨#[]⟩, .string ⟨#[]⟩, .slice none 0 0, .int .i64 0, .int .i64 0, .int .i64 0, .int .i64 0], .int .i64 5]) (by simp [results, Try.results28, go_sem, q0, q1, q2, q3, q4, q5, q6]) rfl ?_
        refine RFindPost.mk (t := noTk) (by unfold rfindS; rw [← HVT.out, if_pos rfl, HFD.out]) (.inl ⟨rfl, rfl⟩) ?_
        exact (HM0.out.trans HM.out).trans' hm8 (fun x hx => .inr (Nat.le_of_eq (List.mem_singleton.1 hx).symm))
end Go.Proofs.Yteifjbfojjjacaa
