/-
  A credential cache, walked: slices.DeleteFunc of those that ended, Drop. No statement of a claim stands here; each contract names what it asks.
-/
import Derived.Test.YteifjbfojjjacaaKb0
set_option linter.unusedSimpArgs false
namespace Go.Proofs.Yteifjbfojjjacaa
open Go Go.RowKit Go.ChangeMaps

/-- s[k:] of a row, where k < cap. -/
theorem slice_tail {P : Program} {t e : TypeId} (ht : P.underlying t = some (.slice e)) {i : TypeInfo} (hi : P.info? e = some i) (g n cap k : Nat) (h1 : k ≤ n) (hk : k < cap) (w : World) :
    (Instr.slice t (.slice (some ⟨g, 0, none⟩) n cap) (some (.int .i64 (k : Int))) none none).run P w = .ok (.slice (some ⟨g, k * i.size, none⟩) (n - k) (cap - k)) w := by
  have hne : cap ≠ k := by omega
  have h2 : ∀ w : World, (Instr.sliceBound (.int .i64 (k : Int)) n .sliceB).run P w = .ok k w := fun w => by rw [run_sliceBound _ _ _ _ _ (by omega) (by omega)]; simp
  simp [Instr.slice, run_underlying ht, Instr.sliceBounds, h2, sizeOf, typeInfo, hi, hne, Addr.add_lit]

def keepS (l : Tks) (now : Int) : Tks := l.filter fun p => !decide (p.2.until_ < now)

/-- While those that ended go: the row reads as m. -/
structure Going (l : Tks) (now : Int) (i j : Nat) (m : Tks) : Prop where
  len : m.length = l.length
  head : m.take i = keepS (l.take j) now
  tail : m.drop j = l.drop j
  lt : i < j
  mem : ∀ q ∈ m, q ∈ l
theorem Going.skip {l : Tks} {now : Int} {i j : Nat} {m : Tks} (h : Going l now i j m) {p : Value × TkS} (hp : l[j]? = some p) (hd : decide (p.2.until_ < now) = true) : Going l now i (j + 1) m := by
  refine ⟨h.len, ?_, ?_, Nat.lt_succ_of_lt h.lt, h.mem⟩
  · rw [List.take_add_one, hp, h.head]
    simp [keepS, hd]
  · have := congrArg (List.drop 1) h.tail
    rwa [List.drop_drop, List.drop_drop] at this
theorem Going.keep {l : Tks} {now : Int} {i j : Nat} {m : Tks} (h : Going l now i j m) {p : Value × TkS} (hp : l[j]? = some p) (hd : decide (p.2.until_ < now) = false) : Going l now (i + 1) (j + 1) (m.set i p) := by
  have hj : j < l.length := (List.getElem?_eq_some_iff.1 hp).1
  have hlt := h.lt
  have hlen := h.len
  refine ⟨by rw [List.length_set, h.len], ?_, ?_, by omega, fun q hq => ?_⟩
  · have e1 : l.take (j + 1) = l.take j ++ [p] := by rw [List.take_add_one, hp]; rfl
    have e2 : (m.set i p).take (i + 1) = m.take i ++ [p] := by
      rw [List.take_add_one, List.getElem?_set_self (by omega), List.take_set, List.set_eq_of_length_le (by simp; omega)]; rfl
    have e3 : keepS [p] now = [p] := by simp only [keepS, List.filter_cons, hd, Bool.not_false, if_true, List.filter_nil]
    rw [e1, e2, h.head]
    unfold keepS at e3 ⊢
    rw [List.filter_append, e3]
  · rw [List.drop_set_of_lt (by omega)]
    have := congrArg (List.drop 1) h.tail
    rwa [List.drop_drop, List.drop_drop] at this
  · rcases List.mem_or_eq_of_mem_set hq with hq | rfl
    · exact h.mem q hq
    · exact List.mem_of_getElem? hp
theorem Going.at {l : Tks} {now : Int} {i j : Nat} {m : Tks} (h : Going l now i j m) {p : Value × TkS} (hp : l[j]? = some p) : m[j]? = some p := by
  have := congrArg (fun x : Tks => x[0]?) h.tail
  simpa [hp] using this

theorem endS_cases (l : Tks) (now : Int) : (endS l now = -1 ∧ keepS l now = l) ∨ ∃ k : Nat, k < l.length ∧ endS l now = (k : Int) ∧ Going l now k (k + 1) l := by
  unfold endS
  cases h : l.findIdx? (fun p => decide (p.2.until_ < now)) with
  | none =>
    left
    rw [List.findIdx?_eq_none_iff] at h
    exact ⟨rfl, List.filter_eq_self.2 fun p hp => by rw [h p hp]; rfl⟩
  | some k =>
    right
    rw [List.findIdx?_eq_some_iff_getElem] at h
    obtain ⟨hk, h1, h2⟩ := h
    refine ⟨k, hk, rfl, ⟨rfl, ?_, rfl, by omega, fun _ h => h⟩⟩
    rw [List.take_add_one, List.getElem?_eq_getElem hk]
    have e1 : keepS (l.take k) now = l.take k := List.filter_eq_self.2 fun p hp => by
      obtain ⟨i, hi, rfl⟩ := List.mem_take_iff_getElem.1 hp
      have := h2 i (by omega)
      simpa using this
    have e2 : keepS [l[k]] now = [] := by simpa [keepS] using h1
    show l.take k = keepS (l.take k ++ [l[k]]) now
    unfold keepS at e1 e2 ⊢
    rw [List.filter_append, e1, e2, List.append_nil]

set_option maxRecDepth 20000 in
set_option maxHeartbeats 4000000 in
theorem delfn_any (w : World) (g cap : Nat) (l : Tks) (now : Int) (bn : Nat) (hr : w.ownsRow 0 50 7 (.slice (some ⟨g, 0, none⟩) l.length cap) l.length (tkCells l)) (hl : l.length ≤ 1000) (hc : w.heap[bn]? = some (.cells #[.int .i64 now] 3 (0, 0))) (hkv : ∀ p ∈ l, ∃ a n c, p.1 = .slice a n c)
    (k : Nat) (hk : k < l.length) (he : endS l now = (k : Int)) (hg : Going l now k (k + 1) l) :
    Calls Try.prog 42 #[.slice (some ⟨g, 0, none⟩) l.length cap, .func (.func 43) #[] #[.pointer (some ⟨bn, 0, none⟩)]] w fun e w' => e = .returned (.slice (some ⟨g, 0, none⟩) (keepS l now).length cap) ∧ w'.ownsRow 0 50 7 (.slice (some ⟨g, 0, none⟩) (keepS l now).length cap) (keepS l now).length (tkCells (keepS l now)) ∧ Mod [g] w w' := by
  have hdx := didx_any w l _ now bn hr hl (cell_at hc 0)
  rw [he] at hdx
  have hgn : bn ≠ g := by
    obtain ⟨c, hcc⟩ := row_block hr (k := g) rfl
    exact ne_ty hc hcc (by decide)
  have HDX := hid hdx
  have HR := hid hr
  have HC := hid hc
  have HG := hid hg
  have HKV := hid hkv
  have HL := hid hl
  have HGN := hid hgn
  have k0 : (0 : Int) ≤ (k : Int) := Int.natCast_nonneg _
  have kne : ((k : Int) == -1) = false := by rw [beq_eq_false_iff_ne]; omega
  have s1 : IntKind.i64.wrap ((k : Int) + 1) = ((k + 1 : Nat) : Int) := by rw [IntWalk.i64_in _ (by omega)]; rfl
  clear hdx hr hc hg hkv hgn he
  go_enter Try.func42, Try.ntmps42
  go_wp2_with (first
    | (go_at_call 46; refine HDX.out.mono ?_; rintro e w1 ⟨rfl, hm1⟩; have HM1 := hid hm1; clear hm1))
  go_loopg [5, 6] (l.length - (k + 1)) (fun gk iv jv W' => ∃ (i j : Nat) (m : Tks), iv = .int .i64 (i : Int) ∧ jv = .int .i64 (j : Int) ∧ gk + j = l.length ∧ Going l now i j m ∧ W'.ownsRow 0 50 7 (.slice (some ⟨g, 0, none⟩) m.length cap) m.length (tkCells m) ∧ Mod [g] w W')
  case atStart => exact ⟨k, k + 1, l, rfl, rfl, by omega, HG.out, row_mod HR.out HM1.out (by simp), HM1.out.mono (by simp)⟩
  case round =>
    obtain ⟨i, j, m, rfl, rfl, hj, hgo, hrow, hm⟩ := hrel
    have j0 : (0 : Int) ≤ (j : Int) := Int.natCast_nonneg _
    have i0 : (0 : Int) ≤ (i : Int) := Int.natCast_nonneg _
    have hij := hgo.lt
    have hml := hgo.len
    have HGO := hid hgo
    by_cases hjn : j < l.length
    · have hp : l[j]? = some l[j] := List.getElem?_eq_getElem hjn
      generalize l[j] = p at hp
      have hpm := hgo.at hp
      obtain ⟨g', c', hg', hcell⟩ := row_pos hrow (by omega)
      cases hg'
      obtain ⟨kv, t⟩ := p
      obtain ⟨ka, kn, kc, hkv1⟩ := HKV.out _ (List.mem_of_getElem? hp)
      dsimp only at hkv1
      subst hkv1
      have ht := tk_at hpm
      have e0 := hcell _ _ (ht 0 _ rfl)
      have e1 := hcell _ _ (ht 1 _ rfl)
      have e2 := hcell _ _ (ht 2 _ rfl)
      have e3 := hcell _ _ (ht 3 _ rfl)
      have e4 := hcell _ _ (ht 4 _ rfl)
      have e5 := hcell _ _ (ht 5 _ rfl)
      have e6 := hcell _ _ (ht 6 _ rfl)
      obtain ⟨client, service, key, from_, until_, renew, flags⟩ := t
      dsimp only at e0 e1 e2 e3 e4 e5 e6
      rw [Nat.add_zero] at e0
      have j1 : (j : Int) < (l.length : Int) := by omega
      have i1 : (i : Int) < (l.length : Int) := by omega
      have d1 : decide ((j : Int) < (l.length : Int)) = true := by rw [decide_eq_true_eq]; omega
      have d2 : decide (j < l.length) = true := by rw [decide_eq_true_eq]; omega
      have hj100 : j < 1000 := by have := HL.out; omega
      have HP := hid hp
      have hfn := dropfn_any (wr.alloc (.cells #[.string client, .string service, .slice ka kn kc, .int .i64 from_, .int .i64 until_, .int .i64 renew, .int .i64 flags] 50)) ⟨client, service, key, from_, until_, renew, flags⟩ (.slice ka kn kc) now bn (((hm.trans (Mod.alloc (Mod.refl _ _) _)).get HC.out (by simpa using HGN.out) |> fun h => cell_at h 0))
      simp only [TkS.cells] at hfn
      have HROW := hid hrow
      have HM := hid hm
      have HJ := hid hj
      have HML := hid hml
      clear hp hpm ht hcell hm hrow hgo hj hml
      cases ht : decide (until_ < now) with
      | true =>
        rw [ht] at hfn
        have HT := hid ht
        have HFN := hid hfn
        clear ht hfn
        go_wp2_with (first
          | (go_at_call 43; refine HFN.out.mono ?_; rintro e w' ⟨rfl, hm'⟩; have HM' := hid ((Mod.alloc (Mod.refl [] wr) (.cells #[.string client, .string service, .slice ka kn kc, .int .i64 from_, .int .i64 until_, .int .i64 renew, .int .i64 flags] 50)).trans hm'); clear hm'))
        go_roundg (gk - 1)
        case measure => have := HJ.out; omega
        case rel => exact ⟨i, j + 1, m, rfl, by go_num, by have := HJ.out; omega, HGO.out.skip HP.out HT.out, row_mod HROW.out HM'.out (by simp), HM.out.trans (HM'.out.mono (by simp))⟩
      | false =>
        rw [ht] at hfn
        have HT := hid ht
        have HFN := hid hfn
        clear ht hfn
        go_wp2_with (first
          | (go_at_call 43; refine HFN.out.mono ?_; rintro e w' ⟨rfl, hm'⟩; have hmm := (Mod.alloc (Mod.refl [] wr) (.cells #[.string client, .string service, .slice ka kn kc, .int .i64 from_, .int .i64 until_, .int .i64 renew, .int .i64 flags] 50)).trans hm'; have HM' := hid hmm; have hBB := hm'.get (get_new wr (.cells #[.string client, .string service, .slice ka kn kc, .int .i64 from_, .int .i64 until_, .int .i64 renew, .int .i64 flags] 50)) (by simp); have r0 := cell_at hBB 0; have r1 := cell_at hBB 1; have r2 := cell_at hBB 2; have r3 := cell_at hBB 3; have r4 := cell_at hBB 4; have r5 := cell_at hBB 5; have r6 := cell_at hBB 6; simp only [List.getElem?_toArray, List.getElem?_cons_zero, List.getElem?_cons_succ] at r0 r1 r2 r3 r4 r5 r6; have hrow2 := row_mod HROW.out HM'.out (by simp); have hFZ : ∀ o, w'.frozen? ⟨g, o, none⟩ = false := fun o => (by obtain ⟨cq, hcq⟩ := row_block hrow2 (k := g) rfl; exact free_at hcq o); have hpi : ∃ pi, m[i]? = some pi := ⟨_, List.getElem?_eq_getElem (by have := HML.out; omega)⟩; obtain ⟨⟨kvi, ti⟩, hpi⟩ := hpi; obtain ⟨gq, cq, hgq, hcq⟩ := row_pos hrow2 (by have := HML.out; omega); cases hgq; have hti := tk_at hpi; have s0 := hcq _ _ (hti 0 _ rfl); have s1 := hcq _ _ (hti 1 _ rfl); have s2 := hcq _ _ (hti 2 _ rfl); have s3 := hcq _ _ (hti 3 _ rfl); have s4 := hcq _ _ (hti 4 _ rfl); have s5 := hcq _ _ (hti 5 _ rfl); have s6 := hcq _ _ (hti 6 _ rfl); dsimp only at s0 s1 s2 s3 s4 s5 s6; rw [Nat.add_zero] at s0; have HROW2 := hid hrow2; clear hm' hmm hBB hrow2 hpi hcq hti))
        obtain ⟨W7, hW7⟩ : ∃ W7, W7 = (((((((w'.setCell ⟨g, i * 7, none⟩ (.string client)).setCell ⟨g, i * 7 + 1, none⟩ (.string service)).setCell ⟨g, i * 7 + 2, none⟩ (.slice ka kn kc)).setCell ⟨g, i * 7 + 3, none⟩ (.int .i64 from_)).setCell ⟨g, i * 7 + 4, none⟩ (.int .i64 until_)).setCell ⟨g, i * 7 + 5, none⟩ (.int .i64 renew)).setCell ⟨g, i * 7 + 6, none⟩ (.int .i64 flags)) := ⟨_, rfl⟩
        have hput := row_put HROW2.out i (by have := HML.out; omega) (.slice ka kn kc) ⟨client, service, key, from_, until_, renew, flags⟩
        dsimp only at hput
        rw [← hW7] at hput ⊢
        clear hW7 e0 e1 e2 e3 e4 e5 e6 r0 r1 r2 r3 r4 r5 r6 s0 s1 s2 s3 s4 s5 s6
        go_roundg (gk - 1)
        case measure => have := HJ.out; omega
        case rel => exact ⟨i + 1, j + 1, _, by go_num, by go_num, by have := HJ.out; omega, HGO.out.keep HP.out HT.out, by rw [List.length_set]; exact hput.1, (HM.out.trans (HM'.out.mono (by simp))).trans hput.2⟩
    · have d1 : decide ((j : Int) < (l.length : Int)) = false := by rw [decide_eq_false_iff_not]; omega
      have d2 : decide (j < l.length) = false := by rw [decide_eq_false_iff_not]; omega
      have hkl : keepS l now = m.take i := by
        rw [hgo.head, List.take_of_length_le (by omega)]
      have hil : (m.take i).length = i := by rw [List.length_take]; omega
      rcases hrow.2 with ⟨h, _⟩ | ⟨g', cap', cur, h, hb, hg, hnc, hcm, hcs, htake⟩
      · simp at h
      simp only [Value.slice.injEq, Option.some.injEq, Addr.mk.injEq, and_true, true_and] at h
      obtain ⟨rfl, rfl⟩ := h
      have hrow2 : wr.ownsRow 0 50 7 (.slice (some ⟨g, 0, none⟩) (m.take i).length cap) (m.take i).length (tkCells (m.take i)) := by
        refine ⟨by rw [tkCells_len], .inr ⟨g, cap, cur, rfl, hb, hg, by omega, hcm, hcs, ?_⟩⟩
        rw [← tkCells_take, ← htake, List.take_take, Nat.min_eq_left (by omega), hil]
      obtain ⟨w8, hcl, hrow8, hm8⟩ := clear_tks wr 0 g l.length cap (cap - i) (l.length - i) (m.take i) (by omega) hrow2 (by omega)
      rw [hil] at hcl hrow8
      obtain ⟨it, z, hit, hz, hsz, hby, hzs⟩ := elemTk.info
      have hs2 := slice_to (P := Try.prog) elemTk.under hit g l.length cap i (by omega)
      have hs4 := slice_tail (P := Try.prog) elemTk.under hit g l.length cap i (by omega) (by omega)
      rw [hsz] at hs4
      have H8 := hid (And.intro hrow8 (hm.trans hm8))
      have HKL := hid (And.intro hkl hil)
      clear hrow8 hm8 hm hrow hrow2 hgo htake hcs hcm hz hby hzs hit hg hkl hil
      go_wp2_with fail
      go_ret
      rw [HKL.out.1, HKL.out.2]
      exact ⟨rfl, H8.out.1, H8.out.2⟩
end Go.Proofs.Yteifjbfojjjacaa
