/-
  The reference's node of an agreement, walked: votes. No statement of a claim stands here; each contract names what it asks.
-/
import Derived.Test.YtnpmjpdndhedgaaQ1
set_option linter.unusedSimpArgs false
namespace Go.Proofs.Ytnpmjpdndhedgaa
open Go Go.RowKit Go.ChangeMaps

/-- What a call of the reference's node leaves: the node, what it hands back; only its own block has changed. -/
def RPost (w : World) (b : Nat) (vL : Value) (L : List Msg) (r : NodeS × List Msg) (e : Ending) (w' : World) : Prop :=
  ∃ v, e = .returned v ∧ RefAt w' b vL r.1 L ∧ RMsgs w.heap.size w' v r.2 ∧ Mod [b] w w'

/-- What the loads of 'votes' read. -/
def VotSat (b B : Nat) (s : NodeS) (from_ : Int) (k : Nat) (val : ByteArray) (w' : World) : Prop :=
  w'.cell? ⟨B, 0, none⟩ = some (.int .i64 2) ∧ w'.cell? ⟨B, 1, none⟩ = some (.int .i64 from_) ∧ w'.cell? ⟨B, 2, none⟩ = some (.int .i64 (k : Int)) ∧ w'.cell? ⟨B, 3, none⟩ = some (.string val) ∧ w'.cell? ⟨b, 0, none⟩ = some (.int .i64 s.n) ∧ w'.cell? ⟨b, 1, none⟩ = some (.int .i64 s.t)
theorem VotSat.mod {b B : Nat} {s : NodeS} {from_ : Int} {k : Nat} {val : ByteArray} {w w' : World} {S : List Nat} (h : VotSat b B s from_ k val w) (m : Mod S w w') (h1 : b ∉ S) (h2 : B ∉ S) : VotSat b B s from_ k val w' :=
  ⟨m.cell h.1 h2, m.cell h.2.1 h2, m.cell h.2.2.1 h2, m.cell h.2.2.2.1 h2, m.cell h.2.2.2.2.1 h1, m.cell h.2.2.2.2.2 h1⟩

/-- What the loads of the message read. -/
def MsgSat (B : Nat) (k : Nat) (val : ByteArray) (w' : World) : Prop := w'.cell? ⟨B, 2, none⟩ = some (.int .i64 (k : Int)) ∧ w'.cell? ⟨B, 3, none⟩ = some (.string val)
theorem MsgSat.mod {B k : Nat} {val : ByteArray} {w w' : World} {S : List Nat} (h : MsgSat B k val w) (m : Mod S w w') (h2 : B ∉ S) : MsgSat B k val w' := ⟨m.cell h.1 h2, m.cell h.2 h2⟩

theorem sayS_here (s : NodeS) (k : Int) (v : ByteArray) (hs : s.sent (k, s.round) = true) : sayS s k v = (s, []) := by unfold sayS; rw [if_pos hs]
theorem sayS_new (s : NodeS) (k : Int) (v : ByteArray) (hs : s.sent (k, s.round) = false) : sayS s k v = ({ s with sent := upd s.sent (k, s.round) true }, [⟨k, s.me, s.round, v⟩]) := by unfold sayS; rw [if_neg (by simp [hs])]

set_option maxRecDepth 20000 in
set_option maxHeartbeats 4000000 in
theorem votes_any0 (w : World) (b : Nat) (vL : Value) (s : NodeS) (L : List Msg) (from_ : Int) (k : Nat) (val : ByteArray) (h : RefAt w b vL s L) (ho : NOk s) (he : LE s L) (hl : L.length ≤ 1000) (hk63 : k < 64) :
    Calls Try.prog 32 #[.pointer (some ⟨b, 0, none⟩), .agg #[.int .i64 2, .int .i64 from_, .int .i64 (k : Int), .string val]] w (RPost w b vL L (wonS s k val)) := by
  have hnew := get_new w (.cells #[.int .i64 2, .int .i64 from_, .int .i64 (k : Int), .string val] 59)
  have hma : Mod [] w (w.alloc (.cells #[.int .i64 2, .int .i64 from_, .int .i64 (k : Int), .string val] 59)) := Mod.alloc (Mod.refl _ _) _
  have h1 := h.mod0 hma
  have hcnt : cntL L ⟨2, from_, k, val⟩ = cnt (s.hd (2, k)) val := he.cnt _
  have hcount := fun W (hm : Mod [] (w.alloc (.cells #[.int .i64 2, .int .i64 from_, .int .i64 (k : Int), .string val] 59)) W) => count_any W b vL s L ⟨2, from_, k, val⟩ (h1.mod0 hm) hl
  rw [hcnt] at hcount
  simp only [Msg.cells] at hcount
  have hle : cnt (s.hd (2, k)) val ≤ 16 := Nat.le_trans (cnt_le _ _) (ho.few _)
  have hnt : IntKind.i64.wrap (s.n - s.t) = s.n - s.t := IntWalk.i64_in _ (by have := ho.n0; have := ho.n1; have := ho.t0; have := ho.t1; omega)
  have hk0 : (0 : Int) ≤ (k : Int) := Int.natCast_nonneg _
  have hk1 : (k : Int) < 64 := by omega
  have H := hid h1
  have HN := hid (And.intro hnew hma)
  have HC := hid hcount
  clear h hnew hma h1 hcount hcnt
  go_enter Try.func32, Try.ntmps32
  go_wp2_with fail
  generalize (w.alloc (.cells #[.int .i64 2, .int .i64 from_, .int .i64 (k : Int), .string val] 59)) = W1 at *
  obtain ⟨c0, c1, c2, c3, c4, c5, c6, c7, c8, c9, hf⟩ := H.out.all
  have b0 : W1.cell? ⟨w.heap.size, 0, none⟩ = some (.int .i64 2) := cell_at HN.out.1 0
  have b1 : W1.cell? ⟨w.heap.size, 1, none⟩ = some (.int .i64 from_) := cell_at HN.out.1 1
  have b2 : W1.cell? ⟨w.heap.size, 2, none⟩ = some (.int .i64 (k : Int)) := cell_at HN.out.1 2
  have b3 : W1.cell? ⟨w.heap.size, 3, none⟩ = some (.string val) := cell_at HN.out.1 3
  by_cases hv : val = ⟨#[]⟩
  · have hw : wonS s k val = (s, []) := by unfold wonS; rw [if_pos (.inl hv)]
    rw [hv] at b3
    have HW := hid hw
    clear hw hv
    go_quiet (fail)
    go_wp2_with fail
    go_ret
    exact ⟨_, rfl, by rw [HW.out]; exact H.out.mod0 ((Mod.refl _ _).drewN _), by rw [HW.out]; exact RMsgs.nil _ _, (HN.out.2.mono (by simp)).drewN _⟩
  obtain ⟨e1, e2⟩ := emp_false hv
  obtain ⟨C, hC⟩ : ∃ C : Nat, C = cnt (s.hd (2, k)) val := ⟨_, rfl⟩
  rw [← hC] at HC hle
  have hw : wonS s k val = if (C : Int) < s.n - s.t then (s, []) else if s.round ≠ k then (lockS s k val, []) else sayS (lockS s k val) 3 val := by
    unfold wonS
    rw [← hC]
    simp [hv]
  have HW := hid hw
  clear hw hv hC
  obtain ⟨cb, hcb⟩ : ∃ cb, decide ((C : Int) < s.n - s.t) = cb := ⟨_, rfl⟩
  refine wp_region_N (VotSat b w.heap.size s from_ k val) (fun _ => true) (by kernel_rfl) ?_
  have hS : VotSat b w.heap.size s from_ k val W1.drew := ⟨b0, b1, b2, b3, c0, c1⟩
  refine regA 0 5 (v := ?_) rfl rfl (by kernel_rfl) (by kernel_rfl) (by kernel_rfl) (fun _ _ _ h => h) (by rfl) (fun w => ?_) ?_; rotate_left; (go_simp; first | done | with_reducible rfl); (try simp only [Act.put, List.setIfInBounds_toArray, List.set_cons_zero, List.set_cons_succ])
  refine regS 1 6 (v := ?_) hS rfl rfl (by kernel_rfl) (by kernel_rfl) (by kernel_rfl) (by kernel_rfl) (fun _ _ _ h => h) (by rfl) (fun w hSw => ?_) ?_; rotate_left; (simp only [VotSat, MsgSat] at hSw; go_simp; first | done | with_reducible rfl); (try simp only [Act.put, List.setIfInBounds_toArray, List.set_cons_zero, List.set_cons_succ])
  refine regA 2 7 (v := ?_) rfl rfl (by kernel_rfl) (by kernel_rfl) (by kernel_rfl) (fun _ _ _ h => h) (by rfl) (fun w => ?_) ?_; rotate_left; (go_simp; first | done | with_reducible rfl); (try simp only [Act.put, List.setIfInBounds_toArray, List.set_cons_zero, List.set_cons_succ])
  refine regA 3 8 (v := ?_) rfl rfl (by kernel_rfl) (by kernel_rfl) (by kernel_rfl) (fun _ _ _ h => h) (by rfl) (fun w => ?_) ?_; rotate_left; (go_simp; first | done | with_reducible rfl); (try simp only [Act.put, List.setIfInBounds_toArray, List.set_cons_zero, List.set_cons_succ])
  refine regA 4 9 (v := ?_) rfl rfl (by kernel_rfl) (by kernel_rfl) (by kernel_rfl) (fun _ _ _ h => h) (by rfl) (fun w => ?_) ?_; rotate_left; (go_simp; first | done | with_reducible rfl); (try simp only [Act.put, List.setIfInBounds_toArray, List.set_cons_zero, List.set_cons_succ])
  refine regS 5 10 (v := ?_) hS rfl rfl (by kernel_rfl) (by kernel_rfl) (by kernel_rfl) (by kernel_rfl) (fun _ _ _ h => h) (by rfl) (fun w hSw => ?_) ?_; rotate_left; (simp only [VotSat, MsgSat] at hSw; go_simp; first | done | with_reducible rfl); (try simp only [Act.put, List.setIfInBounds_toArray, List.set_cons_zero, List.set_cons_succ])
  refine regA 7 12 (v := ?_) rfl rfl (by kernel_rfl) (by kernel_rfl) (by kernel_rfl) (fun _ _ _ h => h) (by rfl) (fun w => ?_) ?_; rotate_left; (go_simp; first | done | with_reducible rfl); (try simp only [Act.put, List.setIfInBounds_toArray, List.set_cons_zero, List.set_cons_succ])
  refine regA 8 13 (v := ?_) rfl rfl (by kernel_rfl) (by kernel_rfl) (by kernel_rfl) (fun _ _ _ h => h) (by rfl) (fun w => ?_) ?_; rotate_left; (go_simp; first | done | with_reducible rfl); (try simp only [Act.put, List.setIfInBounds_toArray, List.set_cons_zero, List.set_cons_succ])
  refine regA 9 14 (v := ?_) rfl rfl (by kernel_rfl) (by kernel_rfl) (by kernel_rfl) (fun _ _ _ h => h) (by rfl) (fun w => ?_) ?_; rotate_left; (go_simp; first | done | with_reducible rfl); (try simp only [Act.put, List.setIfInBounds_toArray, List.set_cons_zero, List.set_cons_succ])
  refine regS 10 15 (v := ?_) hS rfl rfl (by kernel_rfl) (by kernel_rfl) (by kernel_rfl) (by kernel_rfl) (fun _ _ _ h => h) (by rfl) (fun w hSw => ?_) ?_; rotate_left; (simp only [VotSat, MsgSat] at hSw; go_simp; first | done | with_reducible rfl); (try simp only [Act.put, List.setIfInBounds_toArray, List.set_cons_zero, List.set_cons_succ])
  refine regA 11 16 (v := ?_) rfl rfl (by kernel_rfl) (by kernel_rfl) (by kernel_rfl) (fun _ _ _ h => h) (by rfl) (fun w => ?_) ?_; rotate_left; (go_simp; first | done | with_reducible rfl); (try simp only [Act.put, List.setIfInBounds_toArray, List.set_cons_zero, List.set_cons_succ])
  refine regA 12 17 (v := ?_) rfl rfl (by kernel_rfl) (by kernel_rfl) (by kernel_rfl) (fun _ _ _ h => h) (by rfl) (fun w => ?_) ?_; rotate_left; (go_simp; first | done | with_reducible rfl); (try simp only [Act.put, List.setIfInBounds_toArray, List.set_cons_zero, List.set_cons_succ])
  refine regA 13 18 (v := ?_) rfl rfl (by kernel_rfl) (by kernel_rfl) (by kernel_rfl) (fun _ _ _ h => h) (by rfl) (fun w => ?_) ?_; rotate_left; (go_simp; first | done | with_reducible rfl); (try simp only [Act.put, List.setIfInBounds_toArray, List.set_cons_zero, List.set_cons_succ])
  refine regS 14 19 (v := ?_) hS rfl rfl (by kernel_rfl) (by kernel_rfl) (by kernel_rfl) (by kernel_rfl) (fun _ _ _ h => h) (by rfl) (fun w hSw => ?_) ?_; rotate_left; (simp only [VotSat, MsgSat] at hSw; go_simp; first | done | with_reducible rfl); (try simp only [Act.put, List.setIfInBounds_toArray, List.set_cons_zero, List.set_cons_succ])
  refine regA 15 20 (v := ?_) rfl rfl (by kernel_rfl) (by kernel_rfl) (by kernel_rfl) (fun _ _ _ h => h) (by rfl) (fun w => ?_) ?_; rotate_left; (go_simp; first | done | with_reducible rfl); (try simp only [Act.put, List.setIfInBounds_toArray, List.set_cons_zero, List.set_cons_succ])
  refine regOnlyG 6 (by kernel_rfl) rfl (by rfl) (fun K hK => ?_)
  go_wp2_with (first
    | (go_at_call 35; refine (HC.out _ (Mod.refl [] W1).drew).mono ?_; rintro e W2 ⟨rfl, hm2⟩; have HM2 := hid (And.intro ((Mod.refl [] W1).drew.trans hm2) hm2); clear hm2))
  refine hK.out _ _ (fun _ hS => hS.mod HM2.out.2 (by simp) (by simp)) ?_
  clear hK
  (try simp only [Act.put, List.setIfInBounds_toArray, List.set_cons_zero, List.set_cons_succ])
  refine regA 16 21 (v := ?_) rfl rfl (by kernel_rfl) (by kernel_rfl) (by kernel_rfl) (fun _ _ _ h => h) (by rfl) (fun w => ?_) ?_; rotate_left; (go_simp; first | done | with_reducible rfl); (try simp only [Act.put, List.setIfInBounds_toArray, List.set_cons_zero, List.set_cons_succ])
  refine regA 17 22 (v := ?_) rfl rfl (by kernel_rfl) (by kernel_rfl) (by kernel_rfl) (fun _ _ _ h => h) (by rfl) (fun w => ?_) ?_; rotate_left; (go_simp; first | done | with_reducible rfl); (try simp only [Act.put, List.setIfInBounds_toArray, List.set_cons_zero, List.set_cons_succ])
  refine regDone (by kernel_rfl) ?_ _
  have HR2 := hid (H.out.mod0 HM2.out.1)
  have HB2 := hid (And.intro (HM2.out.1.get HN.out.1 (by simp)) (HN.out.2.trans HM2.out.1))
  clear hS c0 c1 c2 c3 c4 c5 c6 c7 c8 c9 hf b0 b1 b2 b3
  cases cb with
  | true =>
    have hw : wonS s k val = (s, []) := by rw [HW.out, if_pos (by simpa using hcb)]
    have HW2 := hid hw
    clear hw
    go_wp2_with fail
    go_ret
    exact ⟨_, rfl, by rw [HW2.out]; exact HR2.out, by rw [HW2.out]; exact RMsgs.nil _ _, HB2.out.2.mono (by simp)⟩
  | false =>
    have hw : wonS s k val = if s.round ≠ k then (lockS s k val, []) else sayS (lockS s k val) 3 val := by rw [HW.out, if_neg (by simpa using hcb)]
    have HW2 := hid hw
    obtain ⟨lb, hlb⟩ : ∃ lb, decide (s.lr < k) = lb := ⟨_, rfl⟩
    clear hw HW hcb HC H HN HM2
    obtain ⟨c0, c1, c2, c3, c4, c5, c6, c7, c8, c9, hf⟩ := HR2.out.all
    have b2 : W2.cell? ⟨w.heap.size, 2, none⟩ = some (.int .i64 (k : Int)) := cell_at HB2.out.1 2
    have b3 : W2.cell? ⟨w.heap.size, 3, none⟩ = some (.string val) := cell_at HB2.out.1 3
    go_wp2_with fail
    go_quiet (fail)
    go_upto_if 29 with fail
    go_cut [3] (fun q wx => q = .pointer (some ⟨w.heap.size, 0, none⟩) ∧ RefAt wx b vL (lockS s k val) L ∧ Mod [b] w wx ∧ wx.heap[w.heap.size]? = some (.cells #[.int .i64 2, .int .i64 from_, .int .i64 (k : Int), .string val] 59 (0, 0)))
    case first =>
      cases lb with
      | false =>
        have hlk : lockS s k val = s := by unfold lockS; rw [if_neg (by simpa using hlb)]
        have HLK := hid hlk
        clear hlk hlb
        go_wp2_with fail
        go_meet
        exact ⟨rfl, by rw [HLK.out]; exact HR2.out.mod0 ((Mod.refl _ _).drewN _), (HB2.out.2.mono (by simp)).drewN _, HB2.out.1⟩
      | true =>
        have hlk : lockS s k val = { s with lv := val, lr := k } := by unfold lockS; rw [if_pos (by simpa using hlb)]
        have HLK := hid hlk
        clear hlk hlb
        go_wp2_with fail
        have hbB : w.heap.size ∉ [b] := fun h => ne_ty HB2.out.1 HR2.out.cells (by decide) (by simpa using h)
        have HBB := hid hbB
        clear hbB
        generalize hW3 : (W2.drewN _) = W3 at *
        have hR3 : RefAt W3 b vL s L := by rw [← hW3]; exact HR2.out.mod0 ((Mod.refl _ _).drewN _)
        have hB3 : W3.heap[w.heap.size]? = some (.cells #[.int .i64 2, .int .i64 from_, .int .i64 (k : Int), .string val] 59 (0, 0)) := by rw [← hW3]; exact HB2.out.1
        have hM3 : Mod [] w W3 := by rw [← hW3]; exact HB2.out.2.drewN _
        clear hW3 c0 c1 c2 c3 c4 c5 c6 c7 c8 c9 hf b2 b3
        obtain ⟨-, -, -, -, -, -, c6, c7, -, -, hf⟩ := hR3.all
        have H3 := hid (And.intro hR3 (And.intro hB3 hM3))
        clear hR3 hB3 hM3
        refine wp_region_N (MsgSat w.heap.size k val) (fun j => !(j == 11)) (by kernel_rfl) ?_
        have hS : MsgSat w.heap.size k val W3.drew := ⟨cell_at H3.out.2.1 2, cell_at H3.out.2.1 3⟩
        refine regA 0 30 (v := ?_) rfl rfl (by kernel_rfl) (by kernel_rfl) (by kernel_rfl) (fun _ _ _ h => h) (by rfl) (fun w => ?_) ?_; rotate_left; (go_simp; first | done | with_reducible rfl); (try simp only [Act.put, List.setIfInBounds_toArray, List.set_cons_zero, List.set_cons_succ])
        refine regA 1 31 (v := ?_) rfl rfl (by kernel_rfl) (by kernel_rfl) (by kernel_rfl) (fun _ _ _ h => h) (by rfl) (fun w => ?_) ?_; rotate_left; (go_simp; first | done | with_reducible rfl); (try simp only [Act.put, List.setIfInBounds_toArray, List.set_cons_zero, List.set_cons_succ])
        refine regA 2 32 (v := ?_) rfl rfl (by kernel_rfl) (by kernel_rfl) (by kernel_rfl) (fun _ _ _ h => h) (by rfl) (fun w => ?_) ?_; rotate_left; (go_simp; first | done | with_reducible rfl); (try simp only [Act.put, List.setIfInBounds_toArray, List.set_cons_zero, List.set_cons_succ])
        refine regS 3 33 (v := ?_) hS rfl rfl (by kernel_rfl) (by kernel_rfl) (by kernel_rfl) (by kernel_rfl) (fun _ _ _ h => h) (by rfl) (fun w hSw => ?_) ?_; rotate_left; (simp only [VotSat, MsgSat] at hSw; go_simp; first | done | with_reducible rfl); (try simp only [Act.put, List.setIfInBounds_toArray, List.set_cons_zero, List.set_cons_succ])
        refine regA 4 34 (v := ?_) rfl rfl (by kernel_rfl) (by kernel_rfl) (by kernel_rfl) (fun _ _ _ h => h) (by rfl) (fun w => ?_) ?_; rotate_left; (go_simp; first | done | with_reducible rfl); (try simp only [Act.put, List.setIfInBounds_toArray, List.set_cons_zero, List.set_cons_succ])
        refine regS 5 35 (v := ?_) hS rfl rfl (by kernel_rfl) (by kernel_rfl) (by kernel_rfl) (by kernel_rfl) (fun _ _ _ h => h) (by rfl) (fun w hSw => ?_) ?_; rotate_left; (simp only [VotSat, MsgSat] at hSw; go_simp; first | done | with_reducible rfl); (try simp only [Act.put, List.setIfInBounds_toArray, List.set_cons_zero, List.set_cons_succ])
        refine regA 6 36 (v := ?_) rfl rfl (by kernel_rfl) (by kernel_rfl) (by kernel_rfl) (fun _ _ _ h => h) (by rfl) (fun w => ?_) ?_; rotate_left; (go_simp; first | done | with_reducible rfl); (try simp only [Act.put, List.setIfInBounds_toArray, List.set_cons_zero, List.set_cons_succ])
        refine regA 7 37 (v := ?_) rfl rfl (by kernel_rfl) (by kernel_rfl) (by kernel_rfl) (fun _ _ _ h => h) (by rfl) (fun w => ?_) ?_; rotate_left; (go_simp; first | done | with_reducible rfl); (try simp only [Act.put, List.setIfInBounds_toArray, List.set_cons_zero, List.set_cons_succ])
        refine regOnly 8 (by kernel_rfl) rfl rfl (fun K hK => ?_)
        go_simp
        refine hK.out _ _ (fun _ _ => hS.mod (Mod.setCell (Mod.refl [b] _) (by simp) _) HBB.out) ?_
        clear hK
        (try simp only [Act.put, List.setIfInBounds_toArray, List.set_cons_zero, List.set_cons_succ])
        refine regAbs (fun W' => RefAt W' b vL { s with lv := val } L ∧ Mod [b] W3 W') ⟨(H3.out.1.mod0 (Mod.refl _ _).drew).set 6 _ _ rfl, (by repeat' (first | exact Mod.refl _ _ | assumption | refine Mod.drewN ?_ _ | refine Mod.drew ?_ | refine Mod.alloc ?_ _ | refine Mod.setCell ?_ (by simp) _ | refine Mod.setBlock ?_ (by simp) _))⟩ ?_
        rintro W4 ⟨hR4, hM4⟩
        clear c6 c7 hf
        obtain ⟨-, -, -, -, -, -, c6, c7, -, -, hf⟩ := hR4.all
        refine regA 9 38 (v := ?_) rfl rfl (by kernel_rfl) (by kernel_rfl) (by kernel_rfl) (fun _ _ _ h => h) (by rfl) (fun w => ?_) ?_; rotate_left; (go_simp; first | done | with_reducible rfl); (try simp only [Act.put, List.setIfInBounds_toArray, List.set_cons_zero, List.set_cons_succ])
        refine regA 10 39 (v := ?_) rfl rfl (by kernel_rfl) (by kernel_rfl) (by kernel_rfl) (fun _ _ _ h => h) (by rfl) (fun w => ?_) ?_; rotate_left; (go_simp; first | done | with_reducible rfl); (try simp only [Act.put, List.setIfInBounds_toArray, List.set_cons_zero, List.set_cons_succ])
        refine regOnly 11 (by kernel_rfl) rfl rfl (fun K hK => ?_)
        go_simp
        refine hK.out _ _ (fun h => by simp at h) ?_
        clear hK
        (try simp only [Act.put, List.setIfInBounds_toArray, List.set_cons_zero, List.set_cons_succ])
        refine regDone (by kernel_rfl) ?_ _
        go_wp2_with fail
        go_meet
        refine ⟨rfl, by rw [HLK.out]; exact hR4.set 7 _ _ rfl, ?_, ?_⟩
        · exact ((H3.out.2.2.mono (by simp)).trans hM4).setCell (by simp) _
        · exact Mod.get ((Mod.setCell hM4 (by simp) _ : Mod [b] W3 _)) H3.out.2.1 HBB.out
    case rest =>
    obtain ⟨rfl, hR5, hM5, hB5⟩ := hcut
    clear c0 c1 c2 c3 c4 c5 c6 c7 c8 c9 hf b2 b3 hlb HR2 HB2
    obtain ⟨g1, g2, g3, g4, g5, g6, g7, g8, g9⟩ := lockS_hd s k val
    generalize hs1 : lockS s k val = s1 at *
    obtain ⟨-, -, c2, -, -, c5, -, -, -, -, hf⟩ := hR5.all
    have a3 := (hR5.arrs hk63).2.1
    rw [g3] at c5
    rw [g6] at c2
    rw [g2] at a3
    have b2 : wc.cell? ⟨w.heap.size, 2, none⟩ = some (.int .i64 (k : Int)) := cell_at hB5 2
    have b3 : wc.cell? ⟨w.heap.size, 3, none⟩ = some (.string val) := cell_at hB5 3
    have HR5 := hid hR5
    have HB5 := hid (And.intro hB5 hM5)
    have HG := hid (And.intro g2 (And.intro g3 g6))
    clear hR5 hB5 hM5 g1 g2 g3 g4 g5 g6 g7 g8 g9 hs1
    by_cases hrr : s.round = k
    · have hw : wonS s k val = sayS s1 3 val := by rw [HW2.out, if_neg (by simpa using hrr)]
      rw [hrr] at c5
      have hsr : s1.round = k := by rw [HG.out.2.1]; exact hrr
      cases hq : s.sent (3, (k : Int)) with
      | true =>
        have hw3 : wonS s k val = (s1, []) := by rw [hw, sayS_here _ _ _ (by rw [HG.out.1, hsr]; exact hq)]
        have HW3 := hid hw3
        rw [hq] at a3
        clear hw hw3 hq hrr hsr HW2
        go_wp2_with fail
        go_quiet (fail)
        go_wp2_with fail
        go_ret
        exact ⟨_, rfl, by rw [HW3.out]; exact HR5.out.mod0 ((Mod.refl _ _).drewN _), by rw [HW3.out]; exact RMsgs.nil _ _, HB5.out.2.drewN _⟩
      | false =>
        have hw3 : wonS s k val = ({ s1 with sent := upd s1.sent (3, (k : Int)) true }, [⟨3, s.me, k, val⟩]) := by
          rw [hw, sayS_new _ _ _ (by rw [HG.out.1, hsr]; exact hq), hsr, HG.out.2.2]
        have HW3 := hid hw3
        rw [hq] at a3
        clear hw hw3 hq hrr hsr HW2
        go_wp2_with fail
        go_quiet (fail)
        go_wp2_with fail
        have hbB : w.heap.size ∉ [b] := fun h => ne_ty HB5.out.1 HR5.out.cells (by decide) (by simpa using h)
        have HBB := hid hbB
        clear hbB
        generalize hW3 : (wc.drewN _) = W3 at *
        have hR3 : RefAt W3 b vL s1 L := by rw [← hW3]; exact HR5.out.mod0 ((Mod.refl _ _).drewN _)
        have hB3 : W3.heap[w.heap.size]? = some (.cells #[.int .i64 2, .int .i64 from_, .int .i64 (k : Int), .string val] 59 (0, 0)) := by rw [← hW3]; exact HB5.out.1
        have hM3 : Mod [b] w W3 := by rw [← hW3]; exact HB5.out.2.drewN _
        clear hW3 c2 c5 a3 b2 b3 hf
        have a3 := (hR3.arrs hk63).2.1
        have hf := hR3.all.2.2.2.2.2.2.2.2.2.2
        have H3 := hid (And.intro hR3 (And.intro hB3 hM3))
        clear hR3 hB3 hM3
        refine wp_region_N (MsgSat w.heap.size k val) (fun j => !(j == 6)) (by kernel_rfl) ?_
        have hS : MsgSat w.heap.size k val W3.drew := ⟨cell_at H3.out.2.1 2, cell_at H3.out.2.1 3⟩
        refine regA 0 57 (v := ?_) rfl rfl (by kernel_rfl) (by kernel_rfl) (by kernel_rfl) (fun _ _ _ h => h) (by rfl) (fun w => ?_) ?_; rotate_left; (go_simp; first | done | with_reducible rfl); (try simp only [Act.put, List.setIfInBounds_toArray, List.set_cons_zero, List.set_cons_succ])
        refine regA 1 58 (v := ?_) rfl rfl (by kernel_rfl) (by kernel_rfl) (by kernel_rfl) (fun _ _ _ h => h) (by rfl) (fun w => ?_) ?_; rotate_left; (go_simp; first | done | with_reducible rfl); (try simp only [Act.put, List.setIfInBounds_toArray, List.set_cons_zero, List.set_cons_succ])
        refine regS 2 59 (v := ?_) hS rfl rfl (by kernel_rfl) (by kernel_rfl) (by kernel_rfl) (by kernel_rfl) (fun _ _ _ h => h) (by rfl) (fun w hSw => ?_) ?_; rotate_left; (simp only [VotSat, MsgSat] at hSw; go_simp; first | done | with_reducible rfl); (try simp only [Act.put, List.setIfInBounds_toArray, List.set_cons_zero, List.set_cons_succ])
        refine regA 3 60 (v := ?_) rfl rfl (by kernel_rfl) (by kernel_rfl) (by kernel_rfl) (fun _ _ _ h => h) (by rfl) (fun w => ?_) ?_; rotate_left; (go_simp; first | done | with_reducible rfl); (try simp only [Act.put, List.setIfInBounds_toArray, List.set_cons_zero, List.set_cons_succ])
        refine regA 4 61 (v := ?_) rfl rfl (by kernel_rfl) (by kernel_rfl) (by kernel_rfl) (fun _ _ _ h => h) (by rfl) (fun w => ?_) ?_; rotate_left; (go_simp; first | done | with_reducible rfl); (try simp only [Act.put, List.setIfInBounds_toArray, List.set_cons_zero, List.set_cons_succ])
        refine regA 5 62 (v := ?_) rfl rfl (by kernel_rfl) (by kernel_rfl) (by kernel_rfl) (fun _ _ _ h => h) (by rfl) (fun w => ?_) ?_; rotate_left; (go_simp; first | done | with_reducible rfl); (try simp only [Act.put, List.setIfInBounds_toArray, List.set_cons_zero, List.set_cons_succ])
        refine regOnly 6 (by kernel_rfl) rfl rfl (fun K hK => ?_)
        go_simp
        refine hK.out _ _ (fun h => by simp at h) ?_
        clear hK
        (try simp only [Act.put, List.setIfInBounds_toArray, List.set_cons_zero, List.set_cons_succ])
        refine regDone (by kernel_rfl) ?_ _
        go_wp2_with fail
        refine wp_abs (fun W' => RefAt W' b vL { s1 with sent := upd s1.sent (3, (k : Int)) true } L ∧ Mod [b] w W' ∧ W'.heap[w.heap.size]? = some (.cells #[.int .i64 2, .int .i64 from_, .int .i64 (k : Int), .string val] 59 (0, 0))) ⟨?_, ?_, ?_⟩ ?_
        · exact (H3.out.1.mod0 (Mod.refl _ _).drew).set _ _ _ (set_arr3 s1 vL hk63)
        · exact H3.out.2.2.drew.setCell (by simp) _
        · exact Mod.get ((Mod.setCell (Mod.refl _ _).drew (by simp) _ : Mod [b] W3 _)) H3.out.2.1 HBB.out
        clear a3 hf hS H3
        rintro W4 ⟨hR4, hM4, hB4⟩
        have c2 := hR4.all.2.2.1
        have hme : ({ s1 with sent := upd s1.sent (3, (k : Int)) true } : NodeS).me = s.me := HG.out.2.2
        rw [hme] at c2
        have H4 := hid (And.intro hR4 (And.intro hM4 hB4))
        clear hR4 hM4 hB4 hme
        refine wp_region_N (fun w' => MsgSat w.heap.size k val w' ∧ w'.cell? ⟨b, 2, none⟩ = some (.int .i64 s.me)) (fun _ => true) (by kernel_rfl) ?_
        have hS : MsgSat w.heap.size k val W4.drew ∧ W4.drew.cell? ⟨b, 2, none⟩ = some (.int .i64 s.me) := ⟨⟨cell_at H4.out.2.2 2, cell_at H4.out.2.2 3⟩, c2⟩
        refine regA 0 63 (v := ?_) rfl rfl (by kernel_rfl) (by kernel_rfl) (by kernel_rfl) (fun _ _ _ h => h) (by rfl) (fun w => ?_) ?_; rotate_left; (go_simp; first | done | with_reducible rfl); (try simp only [Act.put, List.setIfInBounds_toArray, List.set_cons_zero, List.set_cons_succ])
        refine regA 1 64 (v := ?_) rfl rfl (by kernel_rfl) (by kernel_rfl) (by kernel_rfl) (fun _ _ _ h => h) (by rfl) (fun w => ?_) ?_; rotate_left; (go_simp; first | done | with_reducible rfl); (try simp only [Act.put, List.setIfInBounds_toArray, List.set_cons_zero, List.set_cons_succ])
        refine regA 2 65 (v := ?_) rfl rfl (by kernel_rfl) (by kernel_rfl) (by kernel_rfl) (fun _ _ _ h => h) (by rfl) (fun w => ?_) ?_; rotate_left; (go_simp; first | done | with_reducible rfl); (try simp only [Act.put, List.setIfInBounds_toArray, List.set_cons_zero, List.set_cons_succ])
        refine regS 3 66 (v := ?_) hS rfl rfl (by kernel_rfl) (by kernel_rfl) (by kernel_rfl) (by kernel_rfl) (fun _ _ _ h => h) (by rfl) (fun w hSw => ?_) ?_; rotate_left; (simp only [VotSat, MsgSat] at hSw; go_simp; first | done | with_reducible rfl); (try simp only [Act.put, List.setIfInBounds_toArray, List.set_cons_zero, List.set_cons_succ])
        refine regA 4 67 (v := ?_) rfl rfl (by kernel_rfl) (by kernel_rfl) (by kernel_rfl) (fun _ _ _ h => h) (by rfl) (fun w => ?_) ?_; rotate_left; (go_simp; first | done | with_reducible rfl); (try simp only [Act.put, List.setIfInBounds_toArray, List.set_cons_zero, List.set_cons_succ])
        refine regS 5 68 (v := ?_) hS rfl rfl (by kernel_rfl) (by kernel_rfl) (by kernel_rfl) (by kernel_rfl) (fun _ _ _ h => h) (by rfl) (fun w hSw => ?_) ?_; rotate_left; (simp only [VotSat, MsgSat] at hSw; go_simp; first | done | with_reducible rfl); (try simp only [Act.put, List.setIfInBounds_toArray, List.set_cons_zero, List.set_cons_succ])
        refine regA 6 69 (v := ?_) rfl rfl (by kernel_rfl) (by kernel_rfl) (by kernel_rfl) (fun _ _ _ h => h) (by rfl) (fun w => ?_) ?_; rotate_left; (go_simp; first | done | with_reducible rfl); (try simp only [Act.put, List.setIfInBounds_toArray, List.set_cons_zero, List.set_cons_succ])
        refine regS 7 70 (v := ?_) hS rfl rfl (by kernel_rfl) (by kernel_rfl) (by kernel_rfl) (by kernel_rfl) (fun _ _ _ h => h) (by rfl) (fun w hSw => ?_) ?_; rotate_left; (simp only [VotSat, MsgSat] at hSw; go_simp; first | done | with_reducible rfl); (try simp only [Act.put, List.setIfInBounds_toArray, List.set_cons_zero, List.set_cons_succ])
        refine regA 8 71 (v := ?_) rfl rfl (by kernel_rfl) (by kernel_rfl) (by kernel_rfl) (fun _ _ _ h => h) (by rfl) (fun w => ?_) ?_; rotate_left; (go_simp; first | done | with_reducible rfl); (try simp only [Act.put, List.setIfInBounds_toArray, List.set_cons_zero, List.set_cons_succ])
        refine regOnly 9 (by kernel_rfl) rfl (by rfl) (fun K hK => ?_)
        go_wp2_with fail
        have hma := Mod.alloc (Mod.refl [] W4.drew) (.cells #[.int .i64 3, .int .i64 s.me, .int .i64 (k : Int), .string val] 59)
        have hnb := get_new W4.drew (.cells #[.int .i64 3, .int .i64 s.me, .int .i64 (k : Int), .string val] 59)
        have H5 := hid (And.intro ((Mod.refl [] W4).drew.trans hma) hnb)
        refine hK.out _ _ (fun _ _ => ⟨hS.1.mod hma (by simp), hma.cell hS.2 (by simp)⟩) ?_
        clear hK hS c2 hma hnb
        (try simp only [Act.put, List.setIfInBounds_toArray, List.set_cons_zero, List.set_cons_succ])
        refine regOnly 10 (by kernel_rfl) rfl (by rfl) (fun K hK => ?_)
        go_wp2_with fail
        refine hK.out _ _ (fun _ h => h) ?_
        clear hK
        (try simp only [Act.put, List.setIfInBounds_toArray, List.set_cons_zero, List.set_cons_succ])
        refine regDone (by kernel_rfl) ?_ _
        go_wp2_with fail
        go_ret
        exact ⟨_, rfl, by rw [HW3.out]; exact H4.out.1.mod0 H5.out.1, by rw [HW3.out]; exact RMsgs.one H5.out.2 H4.out.2.1.size, H4.out.2.1.trans (H5.out.1.mono (by simp))⟩
    · have hw3 : wonS s k val = (s1, []) := by rw [HW2.out, if_pos (by simpa using hrr)]
      have HW3 := hid hw3
      have hrr' : (s.round == (k : Int)) = false := by simpa using hrr
      clear hw3 HW2
      go_wp2_with fail
      go_quiet (fail)
      go_wp2_with fail
      go_ret
      exact ⟨_, rfl, by rw [HW3.out]; exact HR5.out.mod0 ((Mod.refl _ _).drewN _), by rw [HW3.out]; exact RMsgs.nil _ _, HB5.out.2.drewN _⟩

theorem votes_any (w : World) (b : Nat) (vL : Value) (s : NodeS) (L : List Msg) (m : Msg) (h : RefAt w b vL s L) (ho : NOk s) (he : LE s L) (hl : L.length ≤ 1000) (hk : m.kind = 2) (hr : 0 ≤ m.round) (hr2 : m.round ≤ 63) :
    Calls Try.prog 32 #[.pointer (some ⟨b, 0, none⟩), .agg m.cells.toArray] w (RPost w b vL L (wonS s m.round m.val)) := by
  obtain ⟨kind, from_, round, val⟩ := m
  dsimp only at hk hr hr2
  subst hk
  obtain ⟨k, rfl⟩ : ∃ k : Nat, round = (k : Int) := ⟨round.toNat, by omega⟩
  exact votes_any0 w b vL s L from_ k val h ho he hl (by omega)
end Go.Proofs.Ytnpmjpdndhedgaa
