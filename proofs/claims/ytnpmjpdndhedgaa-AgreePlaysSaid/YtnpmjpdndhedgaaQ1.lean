/-
  The reference's node of an agreement, walked: proposal, count. No statement of a claim stands here; each contract names what it asks.
-/
import Derived.Test.YtnpmjpdndhedgaaQ0
set_option linter.unusedSimpArgs false
namespace Go.Proofs.Ytnpmjpdndhedgaa
open Go Go.RowKit Go.ChangeMaps

theorem propL_cons (m : Msg) (L : List Msg) (r : Int) : propL (m :: L) r = if m.kind = 1 ∧ m.round = r then some m.val else propL L r := by
  unfold propL
  by_cases h1 : m.kind = 1 <;> by_cases h2 : m.round = r <;> simp [List.find?_cons, h1, h2]
theorem cntL_cons (x : Msg) (L : List Msg) (m : Msg) : cntL (x :: L) m = cntL L m + (if x.kind = m.kind ∧ x.round = m.round ∧ x.val = m.val then 1 else 0) := by
  unfold cntL
  by_cases h1 : x.kind = m.kind <;> by_cases h2 : x.round = m.round <;> by_cases h3 : x.val = m.val <;> simp [List.countP_cons, h1, h2, h3]

set_option maxRecDepth 20000 in
set_option maxHeartbeats 1000000 in
theorem prop_any (w : World) (b : Nat) (vL : Value) (s : NodeS) (L : List Msg) (r : Int) (h : RefAt w b vL s L) (hl : L.length ≤ 1000) :
    Calls Try.prog 38 #[.pointer (some ⟨b, 0, none⟩), .int .i64 r] w fun e w' => e = .returned (lkV (propL L r)) ∧ w' = w := by
  obtain ⟨c0, c1, c2, c3, c4, c5, c6, c7, c8, c9, hf⟩ := h.all
  obtain ⟨aL, kL, rfl⟩ := row_slice h.row
  have H := hid h
  clear h c0 c1 c2 c3 c5 c6 c7 c8 c9 hf
  go_enter Try.func38, Try.ntmps38
  go_wp2_with fail
  go_loopg [6] L.length (fun gk i W' => ∃ (j : Nat), i = nat j ∧ gk + j = L.length ∧ propL (L.drop j) r = propL L r ∧ W' = w)
  case atStart => exact ⟨0, rfl, by omega, rfl, rfl⟩
  case round =>
    obtain ⟨j, rfl, hj, hp, rfl⟩ := hrel
    by_cases hjn : j < L.length
    · obtain ⟨m, hm⟩ : ∃ m, L[j]? = some m := ⟨_, List.getElem?_eq_getElem hjn⟩
      obtain ⟨g, c', e, -⟩ := row_pos H.out.row (by omega)
      cases e
      obtain ⟨x0, x1, x2, x3⟩ := ref_msg H.out.row hm
      have hd : L.drop j = m :: L.drop (j + 1) := by rw [List.drop_eq_getElem_cons hjn]; rw [(List.getElem?_eq_some_iff.1 hm).2]
      rw [hd, propL_cons] at hp
      have j0 : (0 : Int) ≤ (j : Int) := Int.natCast_nonneg _
      have j1 : (j : Int) < (L.length : Int) := by omega
      have HP := hid hp
      clear hp hd hm
      by_cases k1 : m.kind = 1
      · rw [k1] at x0
        by_cases k2 : m.round = r
        · rw [k2] at x2
          have hq : propL L r = some m.val := by rw [← HP.out, if_pos ⟨k1, k2⟩]
          have HQ := hid hq
          clear hq k1 k2 HP
          go_wp2_with fail
          go_ret2
          exact ⟨by rw [HQ.out]; rfl, rfl⟩
        · have k2' : (m.round == r) = false := by simpa using k2
          have hq : propL (L.drop (j + 1)) r = propL L r := by rw [← HP.out, if_neg (fun h => k2 h.2)]
          have HQ := hid hq
          clear hq k1 HP
          go_wp2_with fail
          go_roundg (gk - 1)
          case measure => omega
          case rel => exact ⟨j + 1, by go_num, by omega, HQ.out, rfl⟩
      · have k1' : (m.kind == 1) = false := by simpa using k1
        have hq : propL (L.drop (j + 1)) r = propL L r := by rw [← HP.out, if_neg (fun h => k1 h.1)]
        have HQ := hid hq
        clear hq HP
        go_wp2_with fail
        go_roundg (gk - 1)
        case measure => omega
        case rel => exact ⟨j + 1, by go_num, by omega, HQ.out, rfl⟩
    · have hd : L.drop j = [] := List.drop_eq_nil_of_le (by omega)
      have hq : propL L r = none := by rw [← hp, hd]; rfl
      have j1 : ¬ (j : Int) < (L.length : Int) := by omega
      have HQ := hid hq
      clear hq hd hp
      go_wp2_with fail
      go_ret2
      exact ⟨by rw [HQ.out]; rfl, rfl⟩

set_option maxRecDepth 20000 in
set_option maxHeartbeats 2000000 in
theorem count_any (w : World) (b : Nat) (vL : Value) (s : NodeS) (L : List Msg) (m : Msg) (h : RefAt w b vL s L) (hl : L.length ≤ 1000) :
    Calls Try.prog 35 #[.pointer (some ⟨b, 0, none⟩), .agg m.cells.toArray] w fun e w' => e = .returned (nat (cntL L m)) ∧ Mod [] w w' := by
  have hnew := get_new w (.cells #[.int .i64 m.kind, .int .i64 m.from_, .int .i64 m.round, .string m.val] 59)
  have hma : Mod [] w (w.alloc (.cells #[.int .i64 m.kind, .int .i64 m.from_, .int .i64 m.round, .string m.val] 59)) := Mod.alloc (Mod.refl _ _) _
  have h1 := h.mod0 hma
  obtain ⟨aL, kL, rfl⟩ := row_slice h.row
  have H := hid h1
  have HN := hid (And.intro hnew hma)
  clear h hnew hma h1
  simp only [Msg.cells]
  go_enter Try.func35, Try.ntmps35
  go_wp2_with fail
  generalize (w.alloc (.cells #[.int .i64 m.kind, .int .i64 m.from_, .int .i64 m.round, .string m.val] 59)) = W1 at *
  go_loopg [5, 6] L.length (fun gk n i W' => ∃ (j n' : Nat), i = nat j ∧ n = nat n' ∧ gk + j = L.length ∧ n' + cntL (L.drop j) m = cntL L m ∧ Mod [] W1 W')
  case atStart => exact ⟨0, 0, rfl, rfl, by omega, by simp, Mod.refl _ _⟩
  case round =>
    obtain ⟨j, n', rfl, rfl, hj, hn, hM⟩ := hrel
    have hR := H.out.mod0 hM
    have hle : cntL L m ≤ 1000 := Nat.le_trans List.countP_le_length hl
    have c4 := hR.all.2.2.2.2.1
    have HM := hid hM
    by_cases hjn : j < L.length
    · obtain ⟨x, hx⟩ : ∃ m, L[j]? = some m := ⟨_, List.getElem?_eq_getElem hjn⟩
      obtain ⟨g, c', e, -⟩ := row_pos hR.row (by omega)
      cases e
      obtain ⟨x0, x1, x2, x3⟩ := ref_msg hR.row hx
      have hd : L.drop j = x :: L.drop (j + 1) := by rw [List.drop_eq_getElem_cons hjn]; rw [(List.getElem?_eq_some_iff.1 hx).2]
      rw [hd, cntL_cons] at hn
      have hB := hM.get HN.out.1 (by simp)
      have b0 : wr.cell? ⟨w.heap.size, 0, none⟩ = some (.int .i64 m.kind) := cell_at hB 0
      have b2 : wr.cell? ⟨w.heap.size, 2, none⟩ = some (.int .i64 m.round) := cell_at hB 2
      have b3 : wr.cell? ⟨w.heap.size, 3, none⟩ = some (.string m.val) := cell_at hB 3
      have j0 : (0 : Int) ≤ (j : Int) := Int.natCast_nonneg _
      have j1 : (j : Int) < (L.length : Int) := by omega
      have n0 : n' ≤ 1000 := by omega
      have HN' := hid hn
      clear hn hd hx hM hR hB
      by_cases k1 : x.kind = m.kind
      · rw [k1] at x0
        by_cases k2 : x.round = m.round
        · rw [k2] at x2
          obtain ⟨q, hq⟩ : ∃ q, decide (x.val = m.val) = q := ⟨_, rfl⟩
          have hq1 : (x.val.toList == m.val.toList) = q := by rw [chars_eq, hq]
          cases q with
          | true =>
            have hq2 : (n' + 1) + cntL (L.drop (j + 1)) m = cntL L m := by have := HN'.out; rw [if_pos ⟨k1, k2, by simpa using hq⟩] at this; omega
            have HQ := hid hq2
            clear hq2 k1 k2 HN' hq
            go_wp2_with fail; go_quiet (fail)
            go_wp2_with fail
            go_roundg (gk - 1)
            case measure => omega
            case rel => exact ⟨j + 1, n' + 1, by go_num, by go_num, by omega, HQ.out, HM.out.drewN _⟩
          | false =>
            have hq2 : n' + cntL (L.drop (j + 1)) m = cntL L m := by have := HN'.out; rw [if_neg (fun h => by simp [h.2.2] at hq)] at this; omega
            have HQ := hid hq2
            clear hq2 k1 k2 HN' hq
            go_wp2_with fail; go_quiet (fail)
            go_wp2_with fail
            go_roundg (gk - 1)
            case measure => omega
            case rel => exact ⟨j + 1, n', by go_num, rfl, by omega, HQ.out, HM.out.drewN _⟩
        · have k2' : (x.round == m.round) = false := by simpa using k2
          have hq2 : n' + cntL (L.drop (j + 1)) m = cntL L m := by have := HN'.out; rw [if_neg (fun h => k2 h.2.1)] at this; omega
          have HQ := hid hq2
          clear hq2 k1 HN'
          go_wp2_with fail; go_quiet (fail)
          go_wp2_with fail
          go_roundg (gk - 1)
          case measure => omega
          case rel => exact ⟨j + 1, n', by go_num, rfl, by omega, HQ.out, HM.out.drewN _⟩
      · have k1' : (x.kind == m.kind) = false := by simpa using k1
        have hq2 : n' + cntL (L.drop (j + 1)) m = cntL L m := by have := HN'.out; rw [if_neg (fun h => k1 h.1)] at this; omega
        have HQ := hid hq2
        clear hq2 HN'
        go_wp2_with fail; go_quiet (fail)
        go_wp2_with fail
        go_roundg (gk - 1)
        case measure => omega
        case rel => exact ⟨j + 1, n', by go_num, rfl, by omega, HQ.out, HM.out.drewN _⟩
    · have hd : L.drop j = [] := List.drop_eq_nil_of_le (by omega)
      have hq : cntL L m = n' := by rw [← hn, hd]; simp [cntL]
      have j1 : ¬ (j : Int) < (L.length : Int) := by omega
      have HQ := hid hq
      clear hq hd hn hM hR
      go_wp2_with fail
      go_ret
      exact ⟨by rw [HQ.out]; rfl, HN.out.2.trans HM.out⟩
end Go.Proofs.Ytnpmjpdndhedgaa
