/-
  NetMakes, walked. No statement of a claim stands here; each contract names what it asks.
-/
import Derived.Test.YtbjgjagbepopfaaNY
import Derived.Test.YtbjgjagbepopfaaRegG
import Derived.Deep.CutBlock
set_option linter.unusedSimpArgs false
namespace Go.Proofs.Ytbjgjagbepopfaa
open Go Go.RowKit Go.ChangeMaps


theorem short_call (w : World) (m : Msg) (hm : m.body.size ≤ maxLen) :
    Calls Try.prog 11 #[.agg #[.int .i64 m.frm, .int .i64 m.to, .int .i64 m.kind, .string m.body]] w fun e w' => e = .returned (.agg #[.int .i64 m.frm, .int .i64 m.to, .int .i64 m.kind, .string (shortB m.body)]) ∧ Mod [] w w' :=
  short_any w m hm

/-- The net, what was sent and what was taken, in memory. -/
structure MadeAt (w : World) (p : Loc) (vh vt : Value) (s : NetS) (had : List Msg) (taken : List Int) (j : Nat) (W : World) : Prop where
  made : Made s had taken
  net : NetAt W p s
  hads : MsgsAt w.heap.size W vh had
  took : IntsAt w.heap.size W vt taken
  ne : ∀ k, vh.ownBlock = some k → vt.ownBlock ≠ some k
  mod : Mod [] w W
  n1 : s.sent ≤ j
  n2 : had.length ≤ j + 1
  n3 : taken.length ≤ j
theorem IntsAt.not_foot {B : Nat} {w : World} {v : Value} {l : List Int} (h : IntsAt B w v l) {p : Loc} {s : NetS} (hn : NetAt w p s) (k : Nat) (hk : v.ownBlock = some k) : k ∉ p.foot := by
  obtain ⟨c, hc⟩ := row_block h.row hk
  exact hn.ne hc (by decide)
theorem MadeAt.mod0 {w : World} {p : Loc} {vh vt : Value} {s : NetS} {had : List Msg} {taken : List Int} {j : Nat} {W W' : World} (h : MadeAt w p vh vt s had taken j W) (m : Mod [] W W') : MadeAt w p vh vt s had taken j W' :=
  ⟨h.made, h.net.mod0 m, h.hads.mod0 m, h.took.mod m (fun _ _ => by simp), h.ne, h.mod.trans m, h.n1, h.n2, h.n3⟩
theorem MadeAt.call {w : World} {p : Loc} {vh vt : Value} {s s' : NetS} {had : List Msg} {taken : List Int} {j : Nat} {W W' : World} (h : MadeAt w p vh vt s had taken j W) (hf : ∀ k ∈ p.foot, w.heap.size ≤ k) (hn : NetAt W' p s') (m : Mod p.foot W W') :
    MsgsAt w.heap.size W' vh had ∧ IntsAt w.heap.size W' vt taken ∧ Mod [] w W' :=
  ⟨h.hads.mod m (h.hads.not_foot h.net), h.took.mod m (h.took.not_foot h.net), h.mod.trans' m (fun x hx => .inr (hf x hx))⟩
theorem IntsAt.new {B : Nat} (w : World) (h : B ≤ w.heap.size) : IntsAt B (w.alloc (.cells #[] 3)) (.slice (some ⟨w.heap.size, 0, none⟩) 0 0) [] :=
  ⟨World.ownsRow_made w #[] 0 (Nat.zero_le _) (Nat.zero_le _) rfl, fun k hk => by cases hk; exact h⟩
theorem sent_put (s : NetS) (m : Msg) : (s.put m).1.sent ≤ s.sent + 1 := by
  unfold NetS.put
  split
  · dsimp only; omega
  · dsimp only; omega
theorem sent_send (s : NetS) (m : Msg) : (s.send m).1.sent ≤ s.sent + 1 := by
  have := sent_put s m
  unfold NetS.send
  repeat' split
  all_goals first
    | exact this
    | (dsimp only; omega)
theorem sent_copy (s : NetS) (k : Int) : (s.copy k).1.sent ≤ s.sent + 1 := by
  unfold NetS.copy
  split
  · dsimp only; omega
  · exact sent_put s _
theorem sent_take (s : NetS) (k : Int) : (s.take k).1.sent ≤ s.sent + 1 := by
  unfold NetS.take
  split
  · dsimp only; omega
  · show s.sent ≤ s.sent + 1; omega
/-- The number that an act names: from 1 to what was sent. -/
theorem max_cases (n : Nat) (h : 1 ≤ n) : ∃ q : Int, q = max 1 ((n : Int) - 1) ∧ 1 ≤ q ∧ q ≤ n := ⟨_, rfl, by omega, by omega⟩

set_option maxRecDepth 20000 in
set_option maxHeartbeats 4000000 in
theorem makes_any (w : World) (a : Option Addr) (c : Nat) (l : List ActS) (hl : RowsAt 8 w a (l.map ActS.cells)) (hlen : l.length ≤ maxLen) :
    Calls Try.prog 4 #[.slice a l.length c] w fun e w' => e = .returned (.bool true) ∧ Mod [] w w' := by
  have hlz : l.length ≤ 9223372036854775807 := by unfold maxLen at hlen; omega
  have HL := hid hl
  clear hl hlen
  go_enter Try.func4, Try.ntmps4
  go_upto_region 6 with (first
    | (go_at_call 9; refine (works_any _).mono ?_; rintro e w1 ⟨rfl, hm1⟩; have H1 := hid hm1; clear hm1)
    | (go_at_call 10; refine (make_yes 4 50 w1 (by omega) (by omega) (by omega) (by omega)).mono ?_; rintro e w2 ⟨p, rfl, hn2, hm2, hf2⟩; have H2 := hid (And.intro hn2 (And.intro (H1.out.trans hm2) (fun k hk => Nat.le_trans H1.out.size (hf2 k hk)))); clear hn2 hm2 hf2 H1))
  have HF := hid H2.out.2.2
  go_wp2_with fail
  have h3 : MadeAt w p (.slice (some ⟨w2.heap.size, 0, none⟩) 1 1) (.slice (some ⟨w2.heap.size + 1, 0, none⟩) 0 0) (newNet 4 50) [Msg.zero] [] 0 ((w2.alloc zeroObj).alloc (.cells #[] 3)) := by
    have hm := H2.out.2.1
    have e1 : MsgsAt w.heap.size (w2.alloc zeroObj) (.slice (some ⟨w2.heap.size, 0, none⟩) 1 1) [Msg.zero] :=
      ⟨⟨rfl, .inr ⟨w2.heap.size, 1, #[.int .i64 0, .int .i64 0, .int .i64 0, .string ⟨#[]⟩], rfl, Nat.zero_le _, get_new w2 _, Nat.le_refl _, by unfold maxLen; omega, rfl, rfl⟩⟩, fun k hk => by cases hk; exact hm.size⟩
    have e2 := IntsAt.new (w2.alloc zeroObj) (B := w.heap.size) (by have := hm.size; simp; omega)
    rw [World.size_alloc] at e2
    refine ⟨Made.made _ (newNet_ok (by omega) (by omega) (by omega) (by omega)) rfl rfl rfl rfl rfl, (H2.out.1.mod0 ((Mod.refl _ _).alloc _)).mod0 ((Mod.refl _ _).alloc _), e1.mod0 ((Mod.refl _ _).alloc _), e2, ?_, (hm.alloc _).alloc _, by decide, by decide, by decide⟩
    intro k hk hk2
    cases hk
    simp [Value.ownBlock] at hk2
  have H3 := hid h3
  clear h3 H2
  go_loopg [5, 6, 7] (min l.length 100) (fun gk vh vt i W' => ∃ (j : Nat) (s : NetS) (had : List Msg) (taken : List Int), i = nat j ∧ gk + j = min l.length 100 ∧ MadeAt w p vh vt s had taken j W')
  case atStart => exact ⟨0, newNet 4 50, [Msg.zero], [], rfl, rfl, H3.out⟩
  case round =>
    obtain ⟨j, s, had, taken, rfl, hj, hA⟩ := hrel
    obtain ⟨av, kv, rfl⟩ := row_slice hA.hads.row
    obtain ⟨at_, kt, rfl⟩ := row_slice hA.took.row
    go_upto_region 9 with fail
    go_cut [35] (fun vv wx => vv = .bool (decide (j < l.length ∧ j < 100)) ∧ wx = wr)
    case first =>
      clear hA hj
      have j0 : (0 : Int) ≤ (j : Int) := Int.natCast_nonneg _
      by_cases hj1 : j < l.length
      · have j1 : (j : Int) < (l.length : Int) := by omega
        by_cases hj2 : j < 100
        · have j2 : decide ((j : Int) < 100) = true := decide_eq_true (by omega)
          have e1 : decide (j < l.length ∧ j < 100) = true := decide_eq_true ⟨hj1, hj2⟩
          have E1 := hid e1
          clear e1
          go_wp2_with fail
          go_meet
          exact ⟨by rw [E1.out], rfl⟩
        · have j2 : decide ((j : Int) < 100) = false := decide_eq_false (by omega)
          have e1 : decide (j < l.length ∧ j < 100) = false := decide_eq_false (fun h => hj2 h.2)
          have E1 := hid e1
          clear e1
          go_wp2_with fail
          go_meet
          exact ⟨by rw [E1.out], rfl⟩
      · have j1 : ¬ (j : Int) < (l.length : Int) := by omega
        have e1 : decide (j < l.length ∧ j < 100) = false := decide_eq_false (fun h => hj1 h.1)
        have E1 := hid e1
        clear e1
        go_wp2_with fail
        go_meet
        exact ⟨by rw [E1.out], rfl⟩
    case rest =>
    obtain ⟨hcv, hcw⟩ := hcut
    subst hcw
    by_cases hjn : j < l.length ∧ j < 100
    · rw [decide_eq_true hjn] at hcv
      subst hcv
      obtain ⟨hj1, hj2⟩ := hjn
      obtain ⟨x, hmj⟩ : ∃ e, l[j]? = some e := ⟨_, List.getElem?_eq_getElem hj1⟩
      obtain ⟨mb, mo, rfl, hmb, hmc⟩ := HL.out.cell j x.cells (by rw [List.getElem?_map, hmj]; rfl)
      have hsz := x.small
      obtain ⟨do_, xn, xt, xon, m, hsm⟩ := x
      dsimp only at hsz
      have hm := hA.mod
      have m0 : wc.cell? ⟨mb, mo + j * 8, none⟩ = some (.int .i64 do_) := hm.cell (hmc 0 _ rfl) (by simp)
      have m1 : wc.cell? ⟨mb, mo + j * 8 + 1, none⟩ = some (.int .i64 xn) := hm.cell (hmc 1 _ rfl) (by simp)
      have m2 : wc.cell? ⟨mb, mo + j * 8 + 2, none⟩ = some (.int .i64 xt) := hm.cell (hmc 2 _ rfl) (by simp)
      have m3 : wc.cell? ⟨mb, mo + j * 8 + 3, none⟩ = some (.bool xon) := hm.cell (hmc 3 _ rfl) (by simp)
      have m4 : wc.cell? ⟨mb, mo + j * 8 + 4, none⟩ = some (.int .i64 m.frm) := hm.cell (hmc 4 _ rfl) (by simp)
      have m5 : wc.cell? ⟨mb, mo + j * 8 + 5, none⟩ = some (.int .i64 m.to) := hm.cell (hmc 5 _ rfl) (by simp)
      have m6 : wc.cell? ⟨mb, mo + j * 8 + 6, none⟩ = some (.int .i64 m.kind) := hm.cell (hmc 6 _ rfl) (by simp)
      have m7 : wc.cell? ⟨mb, mo + j * 8 + 7, none⟩ = some (.string m.body) := hm.cell (hmc 7 _ rfl) (by simp)
      have j0 : (0 : Int) ≤ (j : Int) := Int.natCast_nonneg _
      have j1 : (j : Int) < (l.length : Int) := by omega
      have hl1 : 1 ≤ (had.length : Int) := by have := hA.made.last; have := hA.made.ok.last; omega
      have hl2 : (had.length : Int) ≤ 101 := by have := hA.n2; omega
      have hl3 : (taken.length : Int) ≤ 100 := by have := hA.n3; omega
      have HS := hid hA
      have HJ := hid (And.intro hj hj2)
      clear hA hmb hmc hj hj2 hmj hm H3
      go_upto_region 12 with fail
      have ha3 := get_new wc (.cells #[.int .i64 do_, .int .i64 xn, .int .i64 xt, .bool xon, .int .i64 m.frm, .int .i64 m.to, .int .i64 m.kind, .string m.body] 42 (0, 0))
      have hm3 := (Mod.refl [] wc).alloc (.cells #[.int .i64 do_, .int .i64 xn, .int .i64 xt, .bool xon, .int .i64 m.frm, .int .i64 m.to, .int .i64 m.kind, .string m.body] 42 (0, 0))
      have hba : wc.heap.size ≤ wc.heap.size := Nat.le_refl _
      clear m0 m1 m2 m3 m4 m5 m6 m7
      generalize wc.alloc (.cells #[.int .i64 do_, .int .i64 xn, .int .i64 xt, .bool xon, .int .i64 m.frm, .int .i64 m.to, .int .i64 m.kind, .string m.body] 42 (0, 0)) = w3 at *
      generalize hbb : wc.heap.size = ba at ha3
      have HBA := hid hbb
      clear hba
      have b4 := cell_at ha3 4
      have b5 := cell_at ha3 5
      have b6 := cell_at ha3 6
      have b7 := cell_at ha3 7
      have HW3 := hid (And.intro ha3 hm3)
      clear ha3 hm3
      clear hbb
      go_upto_region 13 with (first
        | (go_at_call 11; refine (short_call w3 m hsz).mono ?_; rintro e w4 ⟨rfl, hm4⟩; have H4 := hid hm4; clear hm4))
      have hg5 := get_new w4 (.cells #[.int .i64 m.frm, .int .i64 m.to, .int .i64 m.kind, .string (shortB m.body)] 29 (0, 0))
      have ha5 := get_alloc (H4.out.get HW3.out.1 (by simp)) (.cells #[.int .i64 m.frm, .int .i64 m.to, .int .i64 m.kind, .string (shortB m.body)] 29 (0, 0))
      have hm5 := (HW3.out.2.trans H4.out).alloc (.cells #[.int .i64 m.frm, .int .i64 m.to, .int .i64 m.kind, .string (shortB m.body)] 29 (0, 0))
      have hb5 : wc.heap.size ≤ w4.heap.size := Nat.le_trans HW3.out.2.size H4.out.size
      have hne5 : w4.heap.size ≠ ba := by have h1 := lt_of_block (H4.out.get HW3.out.1 (by simp)); omega
      clear H4 b4 b5 b6 b7 HW3
      generalize (w4.alloc (.cells #[.int .i64 m.frm, .int .i64 m.to, .int .i64 m.kind, .string (shortB m.body)] 29 (0, 0))) = w5 at *
      generalize w4.heap.size = b at *
      clear w4
      have H5 := hid (And.intro hg5 (And.intro hm5 (And.intro hb5 (And.intro ha5 hne5))))
      have a3 := among_in m.frm 4 (by omega)
      have a4 := among_in m.to 4 (by omega)
      have a9 := among_in m.kind 9 (by omega)
      refine wp_region_N (fun w' => w'.cell? ⟨b, 0, none⟩ = some (.int .i64 m.frm) ∧ w'.cell? ⟨b, 1, none⟩ = some (.int .i64 m.to) ∧ w'.cell? ⟨b, 2, none⟩ = some (.int .i64 m.kind)) (fun i => !(i == 12 || i == 14 || i == 16)) (by kernel_rfl) ?_
      have hS : (fun w' : World => w'.cell? ⟨b, 0, none⟩ = some (.int .i64 m.frm) ∧ w'.cell? ⟨b, 1, none⟩ = some (.int .i64 m.to) ∧ w'.cell? ⟨b, 2, none⟩ = some (.int .i64 m.kind)) w5.drew := ⟨cell_at hg5 0, cell_at hg5 1, cell_at hg5 2⟩
      clear hg5 hm5 hb5 ha5 hne5
      refine regA 0 45 (v := ?_) rfl rfl (by kernel_rfl) (by kernel_rfl) (by kernel_rfl) (fun _ _ _ h => h) (by rfl) (fun w => ?_) ?_; rotate_left; (go_simp; first | done | with_reducible rfl); (try simp only [Act.put, List.setIfInBounds_toArray, List.set_cons_zero, List.set_cons_succ])
      refine regS 1 46 (v := ?_) hS rfl rfl (by kernel_rfl) (by kernel_rfl) (by kernel_rfl) (by kernel_rfl) (fun _ _ _ h => h) (by rfl) (fun w hSw => ?_) ?_; rotate_left; (go_simp; first | done | with_reducible rfl); (try simp only [Act.put, List.setIfInBounds_toArray, List.set_cons_zero, List.set_cons_succ])
      refine regA 4 49 (v := ?_) rfl rfl (by kernel_rfl) (by kernel_rfl) (by kernel_rfl) (fun _ _ _ h => h) (by rfl) (fun w => ?_) ?_; rotate_left; (go_simp; first | done | with_reducible rfl); (try simp only [Act.put, List.setIfInBounds_toArray, List.set_cons_zero, List.set_cons_succ])
      refine regS 5 50 (v := ?_) hS rfl rfl (by kernel_rfl) (by kernel_rfl) (by kernel_rfl) (by kernel_rfl) (fun _ _ _ h => h) (by rfl) (fun w hSw => ?_) ?_; rotate_left; (go_simp; first | done | with_reducible rfl); (try simp only [Act.put, List.setIfInBounds_toArray, List.set_cons_zero, List.set_cons_succ])
      refine regA 8 53 (v := ?_) rfl rfl (by kernel_rfl) (by kernel_rfl) (by kernel_rfl) (fun _ _ _ h => h) (by rfl) (fun w => ?_) ?_; rotate_left; (go_simp; first | done | with_reducible rfl); (try simp only [Act.put, List.setIfInBounds_toArray, List.set_cons_zero, List.set_cons_succ])
      refine regS 9 54 (v := ?_) hS rfl rfl (by kernel_rfl) (by kernel_rfl) (by kernel_rfl) (by kernel_rfl) (fun _ _ _ h => h) (by rfl) (fun w hSw => ?_) ?_; rotate_left; (go_simp; first | done | with_reducible rfl); (try simp only [Act.put, List.setIfInBounds_toArray, List.set_cons_zero, List.set_cons_succ])
      refine regOnly 2 (by kernel_rfl) rfl (by rfl) (fun K hK => ?_)
      go_wp2_with (first | (go_at_call 12; refine (among_any _ _ _ (by omega) (by omega)).mono ?_; rintro e w' ⟨rfl, rfl⟩))
      refine hK.out _ _ (fun _ h => h) ?_
      clear hK
      (try simp only [Act.put, List.setIfInBounds_toArray, List.set_cons_zero, List.set_cons_succ])
      refine regA 3 48 (v := .int .i64 (1 + among m.frm 4)) rfl rfl (by kernel_rfl) (by kernel_rfl) (by kernel_rfl) (fun _ _ _ h => h) (by rfl) (fun w => ?_) ?_
      · go_simp
        exact IntWalk.i64_in _ (by omega)
      (try simp only [Act.put, List.setIfInBounds_toArray, List.set_cons_zero, List.set_cons_succ])
      refine regA 11 56 (v := ?_) rfl rfl (by kernel_rfl) (by kernel_rfl) (by kernel_rfl) (fun _ _ _ h => h) (by rfl) (fun w => ?_) ?_; rotate_left; (go_simp; first | done | with_reducible rfl); (try simp only [Act.put, List.setIfInBounds_toArray, List.set_cons_zero, List.set_cons_succ])
      refine regOnly 6 (by kernel_rfl) rfl (by rfl) (fun K hK => ?_)
      go_wp2_with (first | (go_at_call 12; refine (among_any _ _ _ (by omega) (by omega)).mono ?_; rintro e w' ⟨rfl, rfl⟩))
      refine hK.out _ _ (fun _ h => h) ?_
      clear hK
      (try simp only [Act.put, List.setIfInBounds_toArray, List.set_cons_zero, List.set_cons_succ])
      refine regA 7 52 (v := .int .i64 (1 + among m.to 4)) rfl rfl (by kernel_rfl) (by kernel_rfl) (by kernel_rfl) (fun _ _ _ h => h) (by rfl) (fun w => ?_) ?_
      · go_simp
        exact IntWalk.i64_in _ (by omega)
      (try simp only [Act.put, List.setIfInBounds_toArray, List.set_cons_zero, List.set_cons_succ])
      refine regOnly 10 (by kernel_rfl) rfl (by rfl) (fun K hK => ?_)
      go_wp2_with (first | (go_at_call 12; refine (among_any _ _ _ (by omega) (by omega)).mono ?_; rintro e w' ⟨rfl, rfl⟩))
      refine hK.out _ _ (fun _ h => h) ?_
      clear hK
      (try simp only [Act.put, List.setIfInBounds_toArray, List.set_cons_zero, List.set_cons_succ])
      have hg5 : w5.drew.heap[b]? = _ := H5.out.1
      have hm5 := H5.out.2.1.drew
      have hb5 := H5.out.2.2.1
      have ha5 : w5.drew.heap[ba]? = _ := H5.out.2.2.2.1
      have hne5 := H5.out.2.2.2.2
      clear hS H5
      generalize w5.drew = w5d at *
      have f0 := free_at hg5 0
      have f1 := free_at hg5 1
      have f2 := free_at hg5 2
      have c0 := cell_at hg5 0
      have c1 := cell_at hg5 1
      have c2 := cell_at hg5 2
      have H5 := hid (And.intro hg5 (And.intro hm5 (And.intro hb5 (And.intro ha5 hne5))))
      clear hg5 hm5 hb5 ha5 hne5
      refine regOnly 12 (by kernel_rfl) rfl (by rfl) (fun K hK => ?_)
      go_wp2_with fail
      refine hK.out _ _ (fun h _ => absurd h (by decide)) ?_
      clear hK
      (try simp only [Act.put, List.setIfInBounds_toArray, List.set_cons_zero, List.set_cons_succ])
      refine regA 13 57 (v := ?_) rfl rfl (by kernel_rfl) (by kernel_rfl) (by kernel_rfl) (fun _ _ _ h => h) (by rfl) (fun w => ?_) ?_; rotate_left; (go_simp; first | done | with_reducible rfl); (try simp only [Act.put, List.setIfInBounds_toArray, List.set_cons_zero, List.set_cons_succ])
      refine regOnly 14 (by kernel_rfl) rfl (by rfl) (fun K hK => ?_)
      go_wp2_with fail
      refine hK.out _ _ (fun h _ => absurd h (by decide)) ?_
      clear hK
      (try simp only [Act.put, List.setIfInBounds_toArray, List.set_cons_zero, List.set_cons_succ])
      refine regA 15 58 (v := ?_) rfl rfl (by kernel_rfl) (by kernel_rfl) (by kernel_rfl) (fun _ _ _ h => h) (by rfl) (fun w => ?_) ?_; rotate_left; (go_simp; first | done | with_reducible rfl); (try simp only [Act.put, List.setIfInBounds_toArray, List.set_cons_zero, List.set_cons_succ])
      refine regOnly 16 (by kernel_rfl) rfl (by rfl) (fun K hK => ?_)
      go_wp2_with fail
      refine hK.out _ _ (fun h _ => absurd h (by decide)) ?_
      clear hK
      (try simp only [Act.put, List.setIfInBounds_toArray, List.set_cons_zero, List.set_cons_succ])
      refine regDone (by kernel_rfl) ?_ _
      clear f0 f1 f2 c0 c1 c2
      have hq := get_setCell_self (get_setCell_self (get_setCell_self (w := w5d) H5.out.1 0 (.int .i64 (1 + among m.frm 4))) 1 (.int .i64 (1 + among m.to 4))) 2 (.int .i64 (among m.kind 9))
      have hm6 := ((H5.out.2.1.setCell (p := ⟨b, 0, none⟩) (.inr H5.out.2.2.1) (.int .i64 (1 + among m.frm 4))).setCell (p := ⟨b, 1, none⟩) (.inr H5.out.2.2.1) (.int .i64 (1 + among m.to 4))).setCell (p := ⟨b, 2, none⟩) (.inr H5.out.2.2.1) (.int .i64 (among m.kind 9))
      have ha6 := get_setCell (get_setCell (get_setCell H5.out.2.2.2.1 (p := ⟨b, 0, none⟩) (fun e => H5.out.2.2.2.2 e.symm) (.int .i64 (1 + among m.frm 4))) (p := ⟨b, 1, none⟩) (fun e => H5.out.2.2.2.2 e.symm) (.int .i64 (1 + among m.to 4))) (p := ⟨b, 2, none⟩) (fun e => H5.out.2.2.2.2 e.symm) (.int .i64 (among m.kind 9))
      rw [show (((#[Value.int IntKind.i64 m.frm, Value.int IntKind.i64 m.to, Value.int IntKind.i64 m.kind, Value.string (shortB m.body)].setIfInBounds 0 (Value.int IntKind.i64 (1 + among m.frm 4))).setIfInBounds 1 (Value.int IntKind.i64 (1 + among m.to 4))).setIfInBounds 2 (Value.int IntKind.i64 (among m.kind 9))) = #[Value.int IntKind.i64 (1 + among m.frm 4), Value.int IntKind.i64 (1 + among m.to 4), Value.int IntKind.i64 (among m.kind 9), Value.string (shortB m.body)] from rfl] at hq
      generalize (((w5d.setCell ⟨b, 0, none⟩ (.int .i64 (1 + among m.frm 4))).setCell ⟨b, 1, none⟩ (.int .i64 (1 + among m.to 4))).setCell ⟨b, 2, none⟩ (.int .i64 (among m.kind 9))) = w6 at *
      clear H5
      obtain ⟨M, hM⟩ : ∃ M : Msg, M = ⟨1 + among m.frm 4, 1 + among m.to 4, among m.kind 9, shortB m.body⟩ := ⟨_, rfl⟩
      have hM0 : M.frm = 1 + among m.frm 4 ∧ M.to = 1 + among m.to 4 ∧ M.kind = among m.kind 9 ∧ M.body = shortB m.body := by rw [hM]; exact ⟨rfl, rfl, rfl, rfl⟩
      rw [← hM0.1, ← hM0.2.1, ← hM0.2.2.1, ← hM0.2.2.2] at hq
      clear hM0 hM a3 a4 a9
      have ad := among_in do_ 4 (by omega)
      have an := among_in xn (max 1 ((had.length : Int) - 1)) (by omega)
      have b0 := cell_at ha6 0
      have b1 := cell_at ha6 1
      have H6 := hid (And.intro (HS.out.mod0 hm6) hq)
      clear hm6 hq ha6 HS
      go_upto_block 2 with (first | (go_at_call 12; refine (among_any _ _ _ (by omega) (by omega)).mono ?_; rintro e w' ⟨rfl, rfl⟩))
      generalize among do_ 4 = D at *
      obtain ⟨KK, hKK⟩ : ∃ KK, KK = 1 + among xn (max 1 ((had.length : Int) - 1)) := ⟨_, rfl⟩
      have hK1 : 1 ≤ KK := by omega
      rw [← hKK]
      have hg6 := H6.out.2
      have g0 := cell_at hg6 0
      have g1 := cell_at hg6 1
      have g2 := cell_at hg6 2
      have g3 := cell_at hg6 3
      clear hKK an b0 b1 hg6
      have hA := H6.out.1
      have hsum : s.sent ≤ 1000000 := by have := hA.n1; have := HJ.out.2; omega
      have hD : D = 0 ∨ D = 1 ∨ D = 2 ∨ D = 3 := by omega
      have hsend := send_any w6 p s M hA.net hA.made.ok hsum
      unfold Msg.v NumPost at hsend
      have hks := hA.made.send M
      have hcopy := copy_any w6 p s KK hA.net hA.made.ok hsum
      unfold NumPost at hcopy
      have hkc := hA.made.copy KK
      have htake := take_any w6 p s KK hA.net hA.made.ok hsum
      unfold MsgPost at htake
      have hkt := hA.made.take KK
      have hss : (s.send M).1.sent ≤ j + 1 := by have := hA.n1; have := sent_send s M; omega
      have hsc : (s.copy KK).1.sent ≤ j + 1 := by have := hA.n1; have := sent_copy s KK; omega
      have hst : (s.take KK).1.sent ≤ j + 1 := by have := hA.n1; have := sent_take s KK; omega
      generalize s.send M = r at hsend hks hss
      obtain ⟨s1, k1, e1⟩ := r
      generalize s.copy KK = r at hcopy hkc hsc
      obtain ⟨s2, k2, e2⟩ := r
      generalize s.take KK = r at htake hkt hst
      obtain ⟨s3, m3, e3⟩ := r
      dsimp only at hsend hks hcopy hkc htake hkt hss hsc hst
      dsimp only [Msg.v] at htake
      have HSE := hid (And.intro hsend (And.intro hks hss))
      have HCO := hid (And.intro hcopy (And.intro hkc hsc))
      have HTA := hid (And.intro htake (And.intro hkt hst))
      clear hA hsum hsend hks hcopy hkc htake hkt hss hsc hst ad
      rcases hD with hd | hd | hd | hd
      all_goals subst hd
      iterate 2
        · clear HCO HTA
          rcases HSE.out.2.1 with ⟨h0, hk, hmd⟩ | ⟨h0, hs1⟩
          · have HMD := hid hmd
            subst h0
            subst hk
            clear hmd
            go_upto_region 24 with (first
              | (go_at_call 13; refine HSE.out.1.mono ?_; rintro e w7 ⟨rfl, hn7, hm7⟩; have H7 := hid (And.intro hn7 hm7); clear hn7 hm7))
            have hA := H6.out.1
            have hg7 := H7.out.2.get H6.out.2 (hA.net.ne H6.out.2 (by decide))
            clear g0 g1 g2 g3
            have g0 := cell_at hg7 0
            have g1 := cell_at hg7 1
            have g2 := cell_at hg7 2
            have g3 := cell_at hg7 3
            obtain ⟨c1, c2, c3⟩ := hA.call HF.out H7.out.1 H7.out.2
            have happ := c1.app c3.size M (by have := hA.n2; have := HJ.out.2; omega)
            have HAP := hid happ
            have HC := hid (And.intro c1 (And.intro c2 (And.intro c3 hA)))
            clear hA hg7 c1 c2 c3 happ
            go_wp2_with (first
              | (at_builtin; refine wpList_app_run rfl _ _ 22 rfl _ _ rfl rfl _ HAP.out ?_; rintro v8 w8 ⟨h81, h82, h83⟩; have H8 := hid (And.intro h81 (And.intro h82 h83)); clear h81 h82 h83))
            go_roundg (gk - 1)
            case measure => have := HJ.out; omega
            case rel =>
              obtain ⟨c1, c2, c3, hA⟩ := HC.out
              obtain ⟨h81, h82, h83⟩ := H8.out
              refine ⟨j + 1, s1, had ++ [M], taken, by go_num, by have := HJ.out; omega, HMD.out, H7.out.1.mod h82 (fun b hb hm => c1.not_foot H7.out.1 b (by simpa using hm) hb), h81, c2.mod h82 (fun k hk hm => hA.ne k (by simpa using hm) hk), fun k hk hk2 => ?_, c3.trans' h82 (fun x hx => .inr (c1.own x (by simpa using hx))), HSE.out.2.2, by rw [List.length_append]; have := hA.n2; simp; omega, by have := hA.n3; omega⟩
              rcases h83 k hk with h1 | h1
              · exact hA.ne k h1 hk2
              · have := lt_of_block (row_block c2.row hk2).choose_spec
                omega
          · have h0' : (e1 == 0) = false := by simpa using h0
            have HS1 := hid hs1
            clear h0 hs1
            go_wp2_with (first
              | (go_at_call 13; refine HSE.out.1.mono ?_; rintro e w7 ⟨rfl, hn7, hm7⟩; have H7 := hid (And.intro hn7 hm7); clear hn7 hm7))
            go_roundg (gk - 1)
            case measure => have := HJ.out; omega
            case rel =>
              have hA := H6.out.1
              obtain ⟨c1, c2, c3⟩ := hA.call HF.out H7.out.1 H7.out.2
              exact ⟨j + 1, s1, had, taken, by go_num, by have := HJ.out; omega, HS1.out ▸ hA.made, H7.out.1, c1, c2, hA.ne, c3, HSE.out.2.2, by have := hA.n2; omega, by have := hA.n3; omega⟩
      · clear HSE HTA g0 g1 g2 g3
        rcases HCO.out.2.1 with ⟨h0, hk, hnt, hk0, mk, hmk, hmd⟩ | ⟨h0, hs1⟩
        · obtain ⟨kn, rfl⟩ := Int.eq_ofNat_of_zero_le hk0
          rw [Int.toNat_natCast] at hmk
          have HMD := hid hmd
          have HNT := hid hnt
          have HMK := hid hmk
          subst h0
          subst hk
          have hkl : (kn : Int) < (had.length : Int) := by have := (List.getElem?_eq_some_iff.1 hmk).1; omega
          clear hmd hnt hmk hk0
          go_upto_region 30 with (first
            | (go_at_call 17; refine HCO.out.1.mono ?_; rintro e w7 ⟨rfl, hn7, hm7⟩; have H7 := hid (And.intro hn7 hm7); clear hn7 hm7))
          have hA := H6.out.1
          obtain ⟨c1, c2, c3⟩ := hA.call HF.out H7.out.1 H7.out.2
          have happ := c1.app c3.size mk (by have := hA.n2; have := HJ.out.2; omega)
          obtain ⟨gh, ch, eh, hch⟩ := c1.at HMK.out
          cases eh
          have y0 : w7.cell? ⟨gh, kn * 4, none⟩ = some (.int .i64 mk.frm) := hch 0 _ rfl
          have y1 : w7.cell? ⟨gh, kn * 4 + 1, none⟩ = some (.int .i64 mk.to) := hch 1 _ rfl
          have y2 : w7.cell? ⟨gh, kn * 4 + 2, none⟩ = some (.int .i64 mk.kind) := hch 2 _ rfl
          have y3 : w7.cell? ⟨gh, kn * 4 + 3, none⟩ = some (.string mk.body) := hch 3 _ rfl
          have hhas := has_any w7 w.heap.size _ taken (kn : Int) c2 (by have := hA.n3; have := HJ.out.2; omega)
          rw [decide_eq_false HNT.out] at hhas
          have HHAS := hid hhas
          have HAP := hid happ
          have HC := hid (And.intro c1 (And.intro c2 (And.intro c3 hA)))
          clear hA c1 c2 c3 happ hch hhas
          go_wp2_with (first
            | (go_at_call 18; refine HHAS.out.mono ?_; rintro e w' ⟨rfl, hw'⟩; subst hw')
            | (at_builtin; refine wpList_app_run rfl _ _ 22 rfl _ _ rfl rfl _ HAP.out ?_; rintro v8 w8 ⟨h81, h82, h83⟩; have H8 := hid (And.intro h81 (And.intro h82 h83)); clear h81 h82 h83))
          go_roundg (gk - 1)
          case measure => have := HJ.out; omega
          case rel =>
            obtain ⟨c1, c2, c3, hA⟩ := HC.out
            obtain ⟨h81, h82, h83⟩ := H8.out
            refine ⟨j + 1, s2, had ++ [mk], taken, by go_num, by have := HJ.out; omega, HMD.out, H7.out.1.mod h82 (fun b hb hm => c1.not_foot H7.out.1 b (by simpa using hm) hb), h81, c2.mod h82 (fun k hk hm => hA.ne k (by simpa using hm) hk), fun k hk hk2 => ?_, c3.trans' h82 (fun x hx => .inr (c1.own x (by simpa using hx))), HCO.out.2.2, by rw [List.length_append]; have := hA.n2; simp; omega, by have := hA.n3; omega⟩
            rcases h83 k hk with h1 | h1
            · exact hA.ne k h1 hk2
            · have := lt_of_block (row_block c2.row hk2).choose_spec
              omega
        · have h0' : (e2 == 0) = false := by simpa using h0
          have HS1 := hid hs1
          clear h0 hs1
          go_wp2_with (first
            | (go_at_call 17; refine HCO.out.1.mono ?_; rintro e w7 ⟨rfl, hn7, hm7⟩; have H7 := hid (And.intro hn7 hm7); clear hn7 hm7))
          go_roundg (gk - 1)
          case measure => have := HJ.out; omega
          case rel =>
            have hA := H6.out.1
            obtain ⟨c1, c2, c3⟩ := hA.call HF.out H7.out.1 H7.out.2
            exact ⟨j + 1, s2, had, taken, by go_num, by have := HJ.out; omega, HS1.out ▸ hA.made, H7.out.1, c1, c2, hA.ne, c3, HCO.out.2.2, by have := hA.n2; omega, by have := hA.n3; omega⟩
      · clear HSE HCO g0 g1 g2 g3
        rcases HTA.out.2.1 with ⟨h0, hnt, hk0, hmk, hmd⟩ | ⟨h0, hs1⟩
        · obtain ⟨kn, rfl⟩ := Int.eq_ofNat_of_zero_le hk0
          rw [Int.toNat_natCast] at hmk
          have HMD := hid hmd
          have HNT := hid hnt
          have HMK := hid hmk
          subst h0
          have hkl : (kn : Int) < (had.length : Int) := by have := (List.getElem?_eq_some_iff.1 hmk).1; omega
          clear hmd hnt hmk hk0
          go_upto_region 17 with (first
            | (go_at_call 15; refine HTA.out.1.mono ?_; rintro e w7 ⟨rfl, hn7, hm7⟩; have H7 := hid (And.intro hn7 hm7); clear hn7 hm7))
          have hA := H6.out.1
          obtain ⟨c1', c2', c3'⟩ := hA.call HF.out H7.out.1 H7.out.2
          have c1 := c1'.mod0 ((Mod.refl _ _).alloc (msgObj m3))
          have c2 := c2'.mod (S := []) ((Mod.refl _ _).alloc (msgObj m3)) (fun _ _ => by simp)
          have c3 := c3'.alloc (msgObj m3)
          have cn := H7.out.1.mod0 ((Mod.refl _ _).alloc (msgObj m3))
          have hg8 := get_new w7 (msgObj m3)
          unfold msgObj at c1 c2 c3 cn hg8
          clear c1' c2' c3' H7
          generalize (w7.alloc (.cells #[.int .i64 m3.frm, .int .i64 m3.to, .int .i64 m3.kind, .string m3.body] 29 (0, 0))) = w8 at *
          generalize w7.heap.size = gm at *
          clear w7
          obtain ⟨gh, ch, eh, hch⟩ := c1.at HMK.out
          cases eh
          have hneq := msg_neq m3 m3
          rw [Msg.same_self] at hneq
          unfold Msg.v at hneq
          have HC := hid (And.intro c1 (And.intro c2 (And.intro c3 (And.intro hA cn))))
          have HG8 := hid hg8
          have HCH := hid hch
          clear c1 c2 c3 cn hA hg8 hch
          go_upto_region 18 with fail
          refine wp_region_N (fun w' => (∀ (k : Nat) (u : Value), m3.cells[k]? = some u → w'.cell? ⟨gm, k, none⟩ = some u) ∧ ∀ (k : Nat) (u : Value), m3.cells[k]? = some u → w'.cell? ⟨gh, kn * 4 + k, none⟩ = some u) (fun _ => true) (by kernel_rfl) ?_
          have hS : (fun w' : World => (∀ (k : Nat) (u : Value), m3.cells[k]? = some u → w'.cell? ⟨gm, k, none⟩ = some u) ∧ ∀ (k : Nat) (u : Value), m3.cells[k]? = some u → w'.cell? ⟨gh, kn * 4 + k, none⟩ = some u) w8.drew := ⟨fun k u hu => (cell_at (w := w8) HG8.out k).trans (by rw [← hu]; simp [Msg.cells]), HCH.out⟩
          refine regA 0 78 (v := ?_) rfl rfl (by kernel_rfl) (by kernel_rfl) (by kernel_rfl) (fun _ _ _ h => h) (by rfl) (fun w => ?_) ?_; rotate_left; (go_simp; first | done | with_reducible rfl); (try simp only [Act.put, List.setIfInBounds_toArray, List.set_cons_zero, List.set_cons_succ])
          refine regA 1 79 (v := ?_) rfl rfl (by kernel_rfl) (by kernel_rfl) (by kernel_rfl) (fun _ _ _ h => h) (by rfl) (fun w => ?_) ?_; rotate_left; (go_simp; first | done | with_reducible rfl); (try simp only [Act.put, List.setIfInBounds_toArray, List.set_cons_zero, List.set_cons_succ])
          refine regA 2 80 (v := ?_) rfl rfl (by kernel_rfl) (by kernel_rfl) (by kernel_rfl) (fun _ _ _ h => h) (by rfl) (fun w => ?_) ?_; rotate_left; (go_simp; first | done | with_reducible rfl); (try simp only [Act.put, List.setIfInBounds_toArray, List.set_cons_zero, List.set_cons_succ])
          refine regA 3 81 (v := .bool false) rfl rfl (by kernel_rfl) (by kernel_rfl) (by kernel_rfl) (fun _ _ _ h => h) (by rfl) (fun w => ?_) ?_
          · go_simp
            omega
          (try simp only [Act.put, List.setIfInBounds_toArray, List.set_cons_zero, List.set_cons_succ])
          refine regA 4 82 (v := ?_) rfl rfl (by kernel_rfl) (by kernel_rfl) (by kernel_rfl) (fun _ _ _ h => h) (by rfl) (fun w => ?_) ?_; rotate_left; (go_simp; first | done | with_reducible rfl); (try simp only [Act.put, List.setIfInBounds_toArray, List.set_cons_zero, List.set_cons_succ])
          refine regS 5 83 (v := .agg #[.int .i64 m3.frm, .int .i64 m3.to, .int .i64 m3.kind, .string m3.body]) hS rfl rfl (by kernel_rfl) (by kernel_rfl) (by kernel_rfl) (by kernel_rfl) (fun _ _ _ h => h) (by rfl) (fun w hSw => ?_) ?_
          · have y0 : w.cell? ⟨gm, 0, none⟩ = some (.int .i64 m3.frm) := hSw.1 0 _ rfl
            have y1 : w.cell? ⟨gm, 1, none⟩ = some (.int .i64 m3.to) := hSw.1 1 _ rfl
            have y2 : w.cell? ⟨gm, 2, none⟩ = some (.int .i64 m3.kind) := hSw.1 2 _ rfl
            have y3 : w.cell? ⟨gm, 3, none⟩ = some (.string m3.body) := hSw.1 3 _ rfl
            go_simp
          (try simp only [Act.put, List.setIfInBounds_toArray, List.set_cons_zero, List.set_cons_succ])
          refine regA 6 84 (v := ?_) rfl rfl (by kernel_rfl) (by kernel_rfl) (by kernel_rfl) (fun _ _ _ h => h) (by rfl) (fun w => ?_) ?_; rotate_left; (go_simp; first | done | with_reducible rfl); (try simp only [Act.put, List.setIfInBounds_toArray, List.set_cons_zero, List.set_cons_succ])
          refine regA 7 85 (v := ?_) rfl rfl (by kernel_rfl) (by kernel_rfl) (by kernel_rfl) (fun _ _ _ h => h) (by rfl) (fun w => ?_) ?_; rotate_left; (go_simp; first | done | with_reducible rfl); (try simp only [Act.put, List.setIfInBounds_toArray, List.set_cons_zero, List.set_cons_succ])
          refine regA 8 86 (v := ?_) rfl rfl (by kernel_rfl) (by kernel_rfl) (by kernel_rfl) (fun _ _ _ h => h) (by rfl) (fun w => ?_) ?_; rotate_left; (go_simp; first | done | with_reducible rfl); (try simp only [Act.put, List.setIfInBounds_toArray, List.set_cons_zero, List.set_cons_succ])
          refine regS 9 87 (v := .agg #[.int .i64 m3.frm, .int .i64 m3.to, .int .i64 m3.kind, .string m3.body]) hS rfl rfl (by kernel_rfl) (by kernel_rfl) (by kernel_rfl) (by kernel_rfl) (fun _ _ _ h => h) (by rfl) (fun w hSw => ?_) ?_
          · have y0 : w.cell? ⟨gh, kn * 4, none⟩ = some (.int .i64 m3.frm) := hSw.2 0 _ rfl
            have y1 : w.cell? ⟨gh, kn * 4 + 1, none⟩ = some (.int .i64 m3.to) := hSw.2 1 _ rfl
            have y2 : w.cell? ⟨gh, kn * 4 + 2, none⟩ = some (.int .i64 m3.kind) := hSw.2 2 _ rfl
            have y3 : w.cell? ⟨gh, kn * 4 + 3, none⟩ = some (.string m3.body) := hSw.2 3 _ rfl
            go_simp
          (try simp only [Act.put, List.setIfInBounds_toArray, List.set_cons_zero, List.set_cons_succ])
          refine regA 10 88 (v := .bool false) rfl rfl (by kernel_rfl) (by kernel_rfl) (by kernel_rfl) (fun _ _ _ h => h) (by rfl) (fun w => ?_) ?_
          · have hq := hneq w
            go_simp
          (try simp only [Act.put, List.setIfInBounds_toArray, List.set_cons_zero, List.set_cons_succ])
          refine regA 11 89 (v := ?_) rfl rfl (by kernel_rfl) (by kernel_rfl) (by kernel_rfl) (fun _ _ _ h => h) (by rfl) (fun w => ?_) ?_; rotate_left; (go_simp; first | done | with_reducible rfl); (try simp only [Act.put, List.setIfInBounds_toArray, List.set_cons_zero, List.set_cons_succ])
          refine regA 12 90 (v := ?_) rfl rfl (by kernel_rfl) (by kernel_rfl) (by kernel_rfl) (fun _ _ _ h => h) (by rfl) (fun w => ?_) ?_; rotate_left; (go_simp; first | done | with_reducible rfl); (try simp only [Act.put, List.setIfInBounds_toArray, List.set_cons_zero, List.set_cons_succ])
          refine regA 13 91 (v := ?_) rfl rfl (by kernel_rfl) (by kernel_rfl) (by kernel_rfl) (fun _ _ _ h => h) (by rfl) (fun w => ?_) ?_; rotate_left; (go_simp; first | done | with_reducible rfl); (try simp only [Act.put, List.setIfInBounds_toArray, List.set_cons_zero, List.set_cons_succ])
          refine regA 14 92 (v := ?_) rfl rfl (by kernel_rfl) (by kernel_rfl) (by kernel_rfl) (fun _ _ _ h => h) (by rfl) (fun w => ?_) ?_; rotate_left; (go_simp; first | done | with_reducible rfl); (try simp only [Act.put, List.setIfInBounds_toArray, List.set_cons_zero, List.set_cons_succ])
          have hhas := has_any w8.drew w.heap.size _ taken (kn : Int) (HC.out.2.1.mod (S := []) (Mod.refl _ _).drew (fun _ _ => by simp)) (by have := HC.out.2.2.2.1.n3; have := HJ.out.2; omega)
          rw [decide_eq_false HNT.out] at hhas
          have HHAS := hid hhas
          clear hhas
          refine regOnlyG 15 (by kernel_rfl) rfl (by rfl) (fun K hK => ?_)
          go_wp2_with (first
            | (go_at_call 18; refine HHAS.out.mono ?_; rintro e w' ⟨rfl, hw'⟩; subst hw'))
          refine hK.out _ _ (fun _ h => h) ?_
          clear hK hneq
          (try simp only [Act.put, List.setIfInBounds_toArray, List.set_cons_zero, List.set_cons_succ])
          refine regA 16 94 (v := ?_) rfl rfl (by kernel_rfl) (by kernel_rfl) (by kernel_rfl) (fun _ _ _ h => h) (by rfl) (fun w => ?_) ?_; rotate_left; (go_simp; first | done | with_reducible rfl); (try simp only [Act.put, List.setIfInBounds_toArray, List.set_cons_zero, List.set_cons_succ])
          refine regDone (by kernel_rfl) ?_ _
          clear hS
          have happ := (HC.out.2.1.mod (S := []) ((Mod.refl _ w8).drew) (fun _ _ => by simp)).app (w := w8.drew) (HC.out.2.2.1.size) (kn : Int) (by have := HC.out.2.2.2.1.n3; have := HJ.out.2; omega)
          have HC9 := hid (And.intro (HC.out.1.mod0 ((Mod.refl _ _).drew)) (And.intro (HC.out.2.1.mod (S := []) ((Mod.refl _ w8).drew) (fun _ _ => by simp)) (And.intro HC.out.2.2.1.drew (And.intro HC.out.2.2.2.1 (HC.out.2.2.2.2.mod0 ((Mod.refl _ _).drew))))))
          have HAP := hid happ
          clear happ HC HG8 HCH HHAS
          generalize w8.drew = w9 at *
          go_wp2_with (first
            | (at_builtin; refine wpList_app_run rfl _ _ 37 rfl _ _ rfl rfl _ HAP.out ?_; rintro v8 wa ⟨h81, h82, h83⟩; have H8 := hid (And.intro h81 (And.intro h82 h83)); clear h81 h82 h83))
          go_roundg (gk - 1)
          case measure => have := HJ.out; omega
          case rel =>
            obtain ⟨c1, c2, c3, hA, cn⟩ := HC9.out
            obtain ⟨h81, h82, h83⟩ := H8.out
            refine ⟨j + 1, s3, had, taken ++ [(kn : Int)], by go_num, by have := HJ.out; omega, HMD.out, cn.mod h82 (fun b hb hm => c2.not_foot cn b (by simpa using hm) hb), c1.mod h82 (fun k hk hm => hA.ne k hk (by simpa using hm)), h81, fun k hk hk2 => ?_, c3.trans' h82 (fun x hx => .inr (c2.own x (by simpa using hx))), HTA.out.2.2, by have := hA.n2; omega, by rw [List.length_append]; have := hA.n3; simp; omega⟩
            rcases h83 k hk2 with h1 | h1
            · exact hA.ne k hk h1
            · have := lt_of_block (row_block c1.row hk).choose_spec
              omega
        · have h0' : (e3 == 0) = false := by simpa using h0
          have HS1 := hid hs1
          clear h0 hs1
          go_wp2_with (first
            | (go_at_call 15; refine HTA.out.1.mono ?_; rintro e w7 ⟨rfl, hn7, hm7⟩; have H7 := hid (And.intro hn7 hm7); clear hn7 hm7))
          go_roundg (gk - 1)
          case measure => have := HJ.out; omega
          case rel =>
            have hA := H6.out.1
            obtain ⟨c1, c2, c3⟩ := hA.call HF.out H7.out.1 H7.out.2
            exact ⟨j + 1, s3, had, taken, by go_num, by have := HJ.out; omega, HS1.out ▸ hA.made, H7.out.1.mod0 ((Mod.refl _ _).alloc _), c1.mod0 ((Mod.refl _ _).alloc _), c2.mod (S := []) ((Mod.refl _ _).alloc _) (fun _ _ => by simp), hA.ne, c3.alloc _, HTA.out.2.2, by have := hA.n2; omega, by have := hA.n3; omega⟩
    · rw [decide_eq_false hjn] at hcv
      subst hcv
      have HM := hid hA.mod
      clear hA hj hjn H3
      go_wp2_with fail
      go_ret
      exact ⟨rfl, HM.out⟩
end Go.Proofs.Ytbjgjagbepopfaa
