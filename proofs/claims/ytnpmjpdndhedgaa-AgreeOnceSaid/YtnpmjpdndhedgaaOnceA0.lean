/-
  AgreeOnce, walked. No statement of a claim stands here; each contract names what it asks.
-/
import Derived.Test.YtnpmjpdndhedgaaSame0
set_option linter.unusedSimpArgs false
namespace Go.Proofs.Ytnpmjpdndhedgaa
open Go Go.RowKit Go.ChangeMaps

/-- What is asked of the row of messages. -/
structure Onces (n : Nat) (H : List Msg) : Prop where
  pos : 0 < n
  ldr : ∀ m ∈ H, m.kind = 1 → m.from_ = m.round % n + 1
  rnd : ∀ m ∈ H, 0 ≤ m.round ∧ m.round ≤ 63
  com : ∀ m ∈ H, m.kind = 3 → m.val ≠ ⟨#[]⟩
  uniq : ∀ (i k : Nat) (a b : Msg), k < i → H[i]? = some a → H[k]? = some b → ¬ (a.kind = b.kind ∧ a.from_ = b.from_ ∧ a.round = b.round)

theorem nodup_get {α β : Type} {f : α → β} {l : List α} (h : (l.map f).Nodup) {i k : Nat} {a b : α} (hik : k < i) (ha : l[i]? = some a) (hb : l[k]? = some b) : f a ≠ f b := by
  induction l generalizing i k with
  | nil => simp at ha
  | cons x l ih =>
    simp only [List.map_cons, List.nodup_cons, List.mem_map, not_exists, not_and] at h
    obtain ⟨i, rfl⟩ : ∃ j, i = j + 1 := ⟨i - 1, by omega⟩
    rw [List.getElem?_cons_succ] at ha
    cases k with
    | zero =>
      simp only [List.getElem?_cons_zero, Option.some.injEq] at hb
      subst hb
      exact h.1 a (List.mem_of_getElem? ha)
    | succ k =>
      rw [List.getElem?_cons_succ] at hb
      exact ih h.2 (by omega) ha hb
theorem WInv.onces {L : LawS} (h : WInv L) (ok : LOk L) : Onces L.n L.all := by
  refine ⟨by have := h.inv.nums.gn; have := h.inv.nums.tg; omega, h.inv.ldr, fun m hm => ⟨h.inv.rnd0 m hm, ?_⟩, fun m hm hk => (h.inv.com m hm hk).1, fun i k a b hik ha hb e => ?_⟩
  · obtain ⟨j, s, hs, _, hsent⟩ := h.inv.sent m hm
    have h1 := h.inv.rnd j s hs _ hsent
    have h2 := (ok.nodes s (List.mem_of_getElem? hs)).r1
    have h1 : m.round ≤ s.round := h1
    omega
  · exact nodup_get h.inv.uniq hik ha hb (by rw [e.1, e.2.1, e.2.2])

theorem msg_at {W : World} {g : Nat} {n c : Nat} {l : List Msg} (h : W.ownsRow 0 39 4 (.slice (some ⟨g, 0, none⟩) n c) n (msgCells l)) {j : Nat} {m : Msg} (hj : l[j]? = some m) :
    W.cell? ⟨g, j * 4, none⟩ = some (.int .i64 m.kind) ∧ W.cell? ⟨g, j * 4 + 1, none⟩ = some (.int .i64 m.from_) ∧ W.cell? ⟨g, j * 4 + 2, none⟩ = some (.int .i64 m.round) ∧ W.cell? ⟨g, j * 4 + 3, none⟩ = some (.string m.val) := by
  have hq : ∀ (q : Nat) (u : Value), m.cells[q]? = some u → W.cell? ⟨g, j * 4 + q, none⟩ = some u := fun q u hu => by
    have := h.cells (g := g) rfl (j * 4 + q) u (msgCells_at hj hu)
    rwa [Addr.add_lit, Nat.zero_add] at this
  exact ⟨hq 0 _ rfl, hq 1 _ rfl, hq 2 _ rfl, hq 3 _ rfl⟩

set_option maxRecDepth 20000 in
set_option maxHeartbeats 2000000 in
theorem once_any (W : World) (t : Int) (ai : Option Addr) (ci : Nat) (ins : List ByteArray) (am : Option Addr) (cm : Nat) (moves : List MoveS) (hI : StrsAt W ai ins) (hci : ins.length ≤ ci) (_ : ci ≤ maxLen) (hai : ai = none → ci = 0) (hM : MovesAt W am moves) (hlm : moves.length ≤ maxLen) :
    Calls Try.prog 6 #[.int .i64 t, .slice ai ins.length ci, .slice am moves.length cm] W fun e W' => e = .returned (.bool true) ∧ Mod [] W W' := by
  have hr : 0 ≤ among t 3 ∧ among t 3 < 3 := ⟨Int.emod_nonneg _ (by omega), Int.emod_lt_of_pos _ (by omega)⟩
  obtain ⟨tn, htn⟩ : ∃ k : Nat, (k : Int) = among t 3 := ⟨(among t 3).toNat, by omega⟩
  have ht2 : tn ≤ 2 := by omega
  obtain ⟨m8, hm8⟩ : ∃ k : Nat, k = min ins.length 8 := ⟨_, rfl⟩
  have c1 : (if (8 : Int) < (ins.length : Int) then (8 : Int) else (ins.length : Int)) = (m8 : Int) := by split <;> omega
  have c2 : (if 8 < ins.length then (8 : Int) else (ins.length : Int)) = (m8 : Int) := by split <;> omega
  obtain ⟨is, his, hzs, hss, hys⟩ := info_parts infoStr
  have hsl := fun w => slice_hi (P := Try.prog) Try.underlying22 his ai ins.length ci m8 (by omega) hai w
  have hmade := made_eight W tn tn m8 ai ci ins hI hm8 ht2 (Nat.le_refl _)
  obtain ⟨L, hL⟩ : ∃ L, L = madeL tn tn (ins.take 8) := ⟨_, rfl⟩
  rw [← hL] at hmade
  have hwin : WInv L := by rw [hL]; exact madeL_win tn tn _ (Nat.le_refl _)
  have hok : LOk L := by rw [hL]; exact madeL_ok tn tn _ ht2 (Nat.le_refl _)
  have hfit : Fits L 7 := by rw [hL]; exact (madeL_fits tn tn _ ht2 (Nat.le_refl _)).le (by omega)
  have hsm := madeL_same tn tn (ins.take 8)
  rw [← hL] at hsm
  have hplay := fun w1 w2 lw (h : LawAny w1 w2 lw L) (hm : Mod [] W w1) => play_any w1 w2 lw L am cm moves true h hok hfit (by omega) (hM.mod0 hm) hlm (by omega) (by omega)
  rw [(hwin.play true (moves.take 200)).1] at hplay
  have hwin2 := (hwin.play true (moves.take 200)).2
  have hok2 := playN_ok true (moves.take 200) hok
  have hfit2 : Fits (playN true (moves.take 200) L).2 207 := (playN_fits true (moves.take 200) hok hfit).le (by simp; omega)
  have hn100 : (playN true (moves.take 200) L).2.n ≤ 100 := playN_keep true (fun L => L.n ≤ 100) (fun L m h => by rw [(moveS_same true L m).1]; exact h) _ L (by omega)
  generalize (playN true (moves.take 200) L).2 = L2 at *
  have honce := hwin2.onces hok2
  have hlen : L2.all.length ≤ 1000 := by have := hfit2.2; omega
  have HTN := hid htn
  have HMADE := hid hmade
  have HPLAY := hid hplay
  have HO := hid honce
  clear htn hm8 hmade hL hwin hok hfit hsm hplay hwin2 hok2 hfit2 honce hI hM
  go_enter Try.func6, Try.ntmps6
  go_wp2_with (first
    | (go_at_call 8; refine (works_any W).mono ?_; rintro e w1 ⟨rfl, hm1⟩; have HW1 := hid hm1; clear hm1)
    | (go_at_call 9; refine (among_any _ _ _ (by omega) (by omega)).mono ?_; rintro e w' ⟨rfl, rfl⟩; rw [← HTN.out])
    | (go_at_call 10; refine (HMADE.out _ HW1.out).mono ?_; rintro e w2 ⟨lw, rfl, h2⟩; have H2 := hid (And.intro h2 HW1.out); clear h2)
    | (go_at_call 11; refine (HPLAY.out _ _ _ H2.out.1 H2.out.2).mono ?_; rintro e w3 ⟨rfl, h3⟩; have H3 := hid (And.intro h3 H2.out.2); clear h3))
  go_loopg [8] (L2.all.length) (fun gk i W' => ∃ (j : Nat), i = nat j ∧ gk + j = L2.all.length ∧ LawAny w1 W' lw L2)
  case atStart => exact ⟨0, rfl, rfl, H3.out.1⟩
  case round =>
    obtain ⟨j, rfl, hj, hLA⟩ := hrel
    have HLA := hid hLA
    obtain ⟨vn, vt, vw, va, pl, hI⟩ := hLA
    have l0 : wr.cell? ⟨lw, 0, none⟩ = some (nat L2.n) := by rw [cell_at hI.law.cells]; rfl
    have l6 : wr.cell? ⟨lw, 6, none⟩ = some va := by rw [cell_at hI.law.cells]; rfl
    obtain ⟨a6, c6, rfl⟩ := row_slice hI.law.all
    by_cases hjn : j < L2.all.length
    · obtain ⟨m, hm⟩ : ∃ m, L2.all[j]? = some m := ⟨_, List.getElem?_eq_getElem hjn⟩
      obtain ⟨g6, c6', he6, -⟩ := row_pos hI.law.all (by omega)
      cases he6
      obtain ⟨x0, x1, x2, x3⟩ := msg_at hI.law.all hm
      have hmem := List.mem_of_getElem? hm
      have hldr := HO.out.ldr m hmem
      have hrnd := HO.out.rnd m hmem
      have hcom := HO.out.com m hmem
      have hpos := HO.out.pos
      have j0 : (0 : Int) ≤ (j : Int) := Int.natCast_nonneg _
      have j1 : (j : Int) < (L2.all.length : Int) := by omega
      have HM := hid hm
      have HI := hid hI
      have HF := hid (And.intro hldr (And.intro hrnd hcom))
      have hn0 : ((L2.n : Int) == 0) = false := by rw [beq_eq_false_iff_ne]; omega
      clear hm hI hmem hldr hcom
      have hnew := get_new wr (.cells #[.int .i64 m.kind, .int .i64 m.from_, .int .i64 m.round, .string m.val] 39)
      have hma : Mod [] wr (wr.alloc (.cells #[.int .i64 m.kind, .int .i64 m.from_, .int .i64 m.round, .string m.val] 39)) := Mod.alloc (Mod.refl _ _) _
      have HN := hid (And.intro hnew hma)
      clear hnew hma
      go_upto_region 12 with fail
      clear x0 x1 x2 x3 l6
      generalize (wr.alloc _) = W1 at *
      have HI1 := hid (HI.out.mod0 HN.out.2)
      go_cut [70] (fun v wx => v = .bool false ∧ LawIn w1 wx lw vn vt vw (Value.slice (some { block := g6, off := 0 }) L2.all.length c6) pl L2 ∧ wx.heap[wr.heap.size]? = some (.cells m.cells.toArray 39 (0, 0)))
      case first =>
        have b0 : W1.cell? ⟨wr.heap.size, 0, none⟩ = some (.int .i64 m.kind) := cell_at HN.out.1 0
        have b1 : W1.cell? ⟨wr.heap.size, 1, none⟩ = some (.int .i64 m.from_) := cell_at HN.out.1 1
        have b2 : W1.cell? ⟨wr.heap.size, 2, none⟩ = some (.int .i64 m.round) := cell_at HN.out.1 2
        have b3 : W1.cell? ⟨wr.heap.size, 3, none⟩ = some (.string m.val) := cell_at HN.out.1 3
        have l0 : W1.cell? ⟨lw, 0, none⟩ = some (nat L2.n) := by rw [cell_at HI1.out.law.cells]; rfl
        by_cases k1 : m.kind = 1
        · have e1 : Int.tmod m.round (L2.n : Int) = m.round % L2.n := Int.tmod_eq_emod_of_nonneg hrnd.1
          have e2 : 0 ≤ m.round % (L2.n : Int) ∧ m.round % (L2.n : Int) < L2.n := ⟨Int.emod_nonneg _ (by omega), Int.emod_lt_of_pos _ (by omega)⟩
          have e3 : IntKind.i64.wrap (m.round % (L2.n : Int)) = m.round % L2.n := IntWalk.i64_in _ (by omega)
          have e4 : IntKind.i64.wrap (m.round % (L2.n : Int) + 1) = m.round % L2.n + 1 := IntWalk.i64_in _ (by omega)
          rw [HF.out.1 k1] at b1
          rw [k1] at b0
          generalize m.round % (L2.n : Int) = q at *
          have hn1 : (L2.n : Int) ≤ 100 := by omega
          have l0' : W1.cell? ⟨lw, 0, none⟩ = some (.int .i64 (L2.n : Int)) := l0
          clear l0
          have hn2 : ¬ (L2.n : Int) = 0 := by omega
          generalize (L2.n : Int) = N at *
          clear k1
          go_quiet (fail)
          go_wp2_with fail
          go_meet
          exact ⟨rfl, HI1.out.mod0 ((Mod.refl _ _).drewN _), HN.out.1⟩
        · have d1 : (m.kind == 1) = false := by simpa using k1
          by_cases k3 : m.kind = 3
          · obtain ⟨e1, e2⟩ := emp_false (HF.out.2.2 k3)
            rw [k3] at b0
            clear k1 k3 d1
            go_quiet (fail)
            go_wp2_with fail
            go_meet
            exact ⟨rfl, HI1.out.mod0 ((Mod.refl _ _).drewN _), HN.out.1⟩
          · have d3 : (m.kind == 3) = false := by simpa using k3
            clear k1 k3
            go_quiet (fail)
            go_wp2_with fail
            go_meet
            exact ⟨rfl, HI1.out.mod0 ((Mod.refl _ _).drewN _), HN.out.1⟩
      case rest =>
      obtain ⟨rfl, hI2, hB2⟩ := hcut
      clear HN
      generalize wr.heap.size = mb at *
      have HI2 := hid hI2
      have HB2 := hid hB2
      clear hI2 hB2 HI1 HI l0
      go_wp2_with fail
      go_loopg [10] j (fun gk i W' => ∃ (k : Nat), i = nat k ∧ gk + k = j ∧ LawIn w1 W' lw vn vt vw (Value.slice (some { block := g6, off := 0 }) L2.all.length c6) pl L2 ∧ W'.heap[mb]? = some (.cells m.cells.toArray 39 (0, 0)))
      case atStart => exact ⟨0, rfl, by omega, HI2.out, HB2.out⟩
      case round =>
        obtain ⟨k, rfl, hk, hI3, hB3⟩ := hrel
        by_cases hkj : k < j
        · obtain ⟨m2, hm2⟩ : ∃ m, L2.all[k]? = some m := ⟨_, List.getElem?_eq_getElem (by omega)⟩
          obtain ⟨x0, x1, x2, x3⟩ := msg_at hI3.law.all hm2
          have l6 : wr.cell? ⟨lw, 6, none⟩ = some (Value.slice (some { block := g6, off := 0 }) L2.all.length c6) := by rw [cell_at hI3.law.cells]; rfl
          have hu := HO.out.uniq j k m m2 hkj HM.out hm2
          have k0 : (0 : Int) ≤ (k : Int) := Int.natCast_nonneg _
          have k1 : (k : Int) < (L2.all.length : Int) := by omega
          have k2 : (k : Int) < (j : Int) := by omega
          have hnew := get_new wr (.cells #[.int .i64 m2.kind, .int .i64 m2.from_, .int .i64 m2.round, .string m2.val] 39)
          have hma : Mod [] wr (wr.alloc (.cells #[.int .i64 m2.kind, .int .i64 m2.from_, .int .i64 m2.round, .string m2.val] 39)) := Mod.alloc (Mod.refl _ _) _
          have HU := hid hu
          have HI3 := hid hI3
          have HB3 := hid hB3
          have HN := hid (And.intro hnew hma)
          clear hu hI3 hB3 hnew hma hm2
          go_upto_region 18 with fail
          generalize (wr.alloc _) = W2 at *
          have b0 : W2.cell? ⟨mb, 0, none⟩ = some (.int .i64 m.kind) := cell_at (HN.out.2.get HB3.out (by simp)) 0
          have b1 : W2.cell? ⟨mb, 1, none⟩ = some (.int .i64 m.from_) := cell_at (HN.out.2.get HB3.out (by simp)) 1
          have b2 : W2.cell? ⟨mb, 2, none⟩ = some (.int .i64 m.round) := cell_at (HN.out.2.get HB3.out (by simp)) 2
          have d0 : W2.cell? ⟨wr.heap.size, 0, none⟩ = some (.int .i64 m2.kind) := cell_at HN.out.1 0
          have d1 : W2.cell? ⟨wr.heap.size, 1, none⟩ = some (.int .i64 m2.from_) := cell_at HN.out.1 1
          have d2 : W2.cell? ⟨wr.heap.size, 2, none⟩ = some (.int .i64 m2.round) := cell_at HN.out.1 2
          clear x0 x1 x2 x3 l6
          by_cases q1 : m.kind = m2.kind
          · rw [← q1] at d0
            by_cases q2 : m.from_ = m2.from_
            · rw [← q2] at d1
              have q3 : ¬ m.round = m2.round := fun h => HU.out ⟨q1, q2, h⟩
              have q3' : (m.round == m2.round) = false := by simpa using q3
              clear q1 q2
              go_wp2_with fail
              go_roundg (gk - 1)
              case measure => omega
              case rel => exact ⟨k + 1, by go_num, by omega, HI3.out.mod0 HN.out.2, HN.out.2.get HB3.out (by simp)⟩
            · have q2' : (m.from_ == m2.from_) = false := by simpa using q2
              clear q1
              go_wp2_with fail
              go_roundg (gk - 1)
              case measure => omega
              case rel => exact ⟨k + 1, by go_num, by omega, HI3.out.mod0 HN.out.2, HN.out.2.get HB3.out (by simp)⟩
          · have q1' : (m.kind == m2.kind) = false := by simpa using q1
            go_wp2_with fail
            go_roundg (gk - 1)
            case measure => omega
            case rel => exact ⟨k + 1, by go_num, by omega, HI3.out.mod0 HN.out.2, HN.out.2.get HB3.out (by simp)⟩
        · have k2 : decide ((k : Int) < (j : Int)) = false := decide_eq_false (by omega)
          have HI3 := hid hI3
          clear hI3 hB3
          go_wp2_with fail
          go_roundg (L2.all.length - (j + 1))
          case measure => omega
          case rel => exact ⟨j + 1, by go_num, by omega, ⟨_, _, _, _, _, HI3.out⟩⟩
    · have j2 : decide ((j : Int) < (L2.all.length : Int)) = false := decide_eq_false (by omega)
      clear hI
      go_wp2_with fail
      go_ret
      exact ⟨rfl, H3.out.2.trans HLA.out.old⟩
end Go.Proofs.Ytnpmjpdndhedgaa
