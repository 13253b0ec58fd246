/-
  NetOrders, walked. No statement of a claim stands here; each contract names what it asks.
-/
import Derived.Test.YtbjgjagbepopfaaNQ
set_option linter.unusedSimpArgs false
namespace Go.Proofs.Ytbjgjagbepopfaa
open Go Go.RowKit Go.ChangeMaps


theorem short_call (w : World) (m : Msg) (hm : m.body.size ≤ maxLen) :
    Calls Try.prog 11 #[.agg #[.int .i64 m.frm, .int .i64 m.to, .int .i64 m.kind, .string m.body]] w fun e w' => e = .returned (.agg #[.int .i64 m.frm, .int .i64 m.to, .int .i64 m.kind, .string (shortB m.body)]) ∧ Mod [] w w' :=
  short_any w m hm

/-- The statement's message. -/
def ordM (m : Msg) : Msg := ⟨1 + among m.frm 3, 2, among m.kind 9, shortB m.body⟩

def OrdRel (w : World) (p : Loc) (l : List MsgW) (gk : Nat) (vs vg i : Value) (W' : World) : Prop :=
  ∃ (j : Nat) (s : NetS) (sent : List Msg) (g : Nat), i = nat j ∧ gk + j = min l.length 60 ∧ Ord s sent g ∧ sent.length ≤ j ∧ NetAt W' p s ∧ MsgsAt w.heap.size W' vs sent ∧ MsgsAt w.heap.size W' vg (sent.take g) ∧ (∀ k, vs.ownBlock = some k → vg.ownBlock ≠ some k) ∧ Mod [] w W'

theorem MsgsAt.new {B : Nat} (w : World) (h : B ≤ w.heap.size) : MsgsAt B (w.alloc (.cells #[] 29)) (.slice (some ⟨w.heap.size, 0, none⟩) 0 0) [] :=
  ⟨World.ownsRow_made w #[] 0 (Nat.zero_le _) (Nat.zero_le _) rfl, fun k hk => by cases hk; exact h⟩

set_option maxRecDepth 20000 in
set_option maxHeartbeats 4000000 in
theorem orders_any (w : World) (every : Int) (a : Option Addr) (c : Nat) (l : List MsgW) (hl : RowsAt 4 w a (l.map fun m => m.1.cells)) (hlen : l.length ≤ maxLen) :
    Calls Try.prog 3 #[.slice a l.length c, .int .i64 every] w fun e w' => e = .returned (.bool true) ∧ Mod [] w w' := by
  have hlz : l.length ≤ 9223372036854775807 := by unfold maxLen at hlen; omega
  have HL := hid hl
  clear hl hlen
  go_enter Try.func3, Try.ntmps3
  go_upto_region 6 with (first
    | (go_at_call 9; refine (works_any _).mono ?_; rintro e w1 ⟨rfl, hm1⟩; have H1 := hid hm1; clear hm1)
    | (go_at_call 10; refine (make_yes 3 200 w1 (by omega) (by omega) (by omega) (by omega)).mono ?_; rintro e w2 ⟨p, rfl, hn2, hm2, hf2⟩; have H2 := hid (And.intro hn2 (And.intro (H1.out.trans hm2) (fun k hk => Nat.le_trans H1.out.size (hf2 k hk)))); clear hn2 hm2 hf2 H1))
  go_wp2_with fail
  have h3 : OrdRel w p l (min l.length 60) (.slice (some ⟨w2.heap.size, 0, none⟩) 0 0) (.slice (some ⟨w2.heap.size + 1, 0, none⟩) 0 0) (nat 0) ((w2.alloc (.cells #[] 29)).alloc (.cells #[] 29)) := by
    have hm := H2.out.2.1
    have e1 := MsgsAt.new w2 hm.size
    have e2 := MsgsAt.new (w2.alloc (.cells #[] 29)) (B := w.heap.size) (by have := hm.size; simp; omega)
    rw [World.size_alloc] at e2
    refine ⟨0, newNet 3 200, [], 0, rfl, rfl, made_ord _ (newNet_ok (by omega) (by omega) (by omega) (by omega)) rfl rfl rfl rfl rfl rfl rfl, Nat.zero_le _, (H2.out.1.mod0 ((Mod.refl _ _).alloc _)).mod0 ((Mod.refl _ _).alloc _), e1.mod0 ((Mod.refl _ _).alloc _), e2, ?_, (hm.alloc _).alloc _⟩
    intro k hk hk2
    cases hk
    simp [Value.ownBlock] at hk2
  have H3 := hid h3
  have HF := hid H2.out.2.2
  clear h3 H2
  go_loopg [7, 8, 9] (min l.length 60) (fun gk vs vg i W' => OrdRel w p l gk vs vg i W')
  case atStart => exact H3.out
  case round =>
    obtain ⟨j, s, sent, g, rfl, hj, ho, hsl, hn, hvs, hvg, hne, hm⟩ := hrel
    go_upto_region 9 with fail
    go_cut [35] (fun vv wx => vv = .bool (decide (j < l.length ∧ j < 60)) ∧ wx = wr)
    case first =>
      clear ho hn hvs hvg hne hm hj hsl
      have j0 : (0 : Int) ≤ (j : Int) := Int.natCast_nonneg _
      by_cases hj1 : j < l.length
      · have j1 : (j : Int) < (l.length : Int) := by omega
        by_cases hj2 : j < 60
        · have j2 : decide ((j : Int) < 60) = true := decide_eq_true (by omega)
          have e1 : decide (j < l.length ∧ j < 60) = true := decide_eq_true ⟨hj1, hj2⟩
          have E1 := hid e1
          clear e1
          go_wp2_with fail
          go_meet
          exact ⟨by rw [E1.out], rfl⟩
        · have j2 : decide ((j : Int) < 60) = false := decide_eq_false (by omega)
          have e1 : decide (j < l.length ∧ j < 60) = false := decide_eq_false (fun h => hj2 h.2)
          have E1 := hid e1
          clear e1
          go_wp2_with fail
          go_meet
          exact ⟨by rw [E1.out], rfl⟩
      · have j1 : ¬ (j : Int) < (l.length : Int) := by omega
        have e1 : decide (j < l.length ∧ j < 60) = false := decide_eq_false (fun h => hj1 h.1)
        have E1 := hid e1
        clear e1
        go_wp2_with fail
        go_meet
        exact ⟨by rw [E1.out], rfl⟩
    case rest =>
    obtain ⟨hcv, hcw⟩ := hcut
    subst hcw
    by_cases hjn : j < l.length ∧ j < 60
    · rw [decide_eq_true hjn] at hcv
      subst hcv
      obtain ⟨hj1, hj2⟩ := hjn
      obtain ⟨m, hmj⟩ : ∃ e, l[j]? = some e := ⟨_, List.getElem?_eq_getElem hj1⟩
      obtain ⟨mb, mo, rfl, hmb, hmc⟩ := HL.out.cell j m.1.cells (by rw [List.getElem?_map, hmj]; rfl)
      have hsz := m.2
      generalize m.1 = m at *
      have m0 : wc.cell? ⟨mb, mo + j * 4, none⟩ = some (.int .i64 m.frm) := hm.cell (hmc 0 _ rfl) (by simp)
      have m1 : wc.cell? ⟨mb, mo + j * 4 + 1, none⟩ = some (.int .i64 m.to) := hm.cell (hmc 1 _ rfl) (by simp)
      have m2 : wc.cell? ⟨mb, mo + j * 4 + 2, none⟩ = some (.int .i64 m.kind) := hm.cell (hmc 2 _ rfl) (by simp)
      have m3 : wc.cell? ⟨mb, mo + j * 4 + 3, none⟩ = some (.string m.body) := hm.cell (hmc 3 _ rfl) (by simp)
      have j0 : (0 : Int) ≤ (j : Int) := Int.natCast_nonneg _
      have j1 : (j : Int) < (l.length : Int) := by omega
      have j2 : decide ((j : Int) < 60) = true := decide_eq_true (by omega)
      have HS := hid (And.intro ho (And.intro hsl (And.intro hn (And.intro hvs (And.intro hvg (And.intro hne hm))))))
      have HJ := hid (And.intro hj hj2)
      clear ho hsl hn hvs hvg hne hmb hmc hj hj2 hmj hm
      go_upto_region 12 with (first
        | (go_at_call 11; refine (short_call wc m hsz).mono ?_; rintro e w4 ⟨rfl, hm4⟩; have H4 := hid hm4; clear hm4))
      have hg5 := get_new w4 (.cells #[.int .i64 m.frm, .int .i64 m.to, .int .i64 m.kind, .string (shortB m.body)] 29)
      have hm5 := H4.out.alloc (.cells #[.int .i64 m.frm, .int .i64 m.to, .int .i64 m.kind, .string (shortB m.body)] 29)
      have hb5 := H4.out.size
      clear H4 m0 m1 m2 m3 j1 j2
      generalize (w4.alloc (.cells #[.int .i64 m.frm, .int .i64 m.to, .int .i64 m.kind, .string (shortB m.body)] 29)) = w5 at *
      generalize w4.heap.size = b at *
      clear w4
      have H5 := hid (And.intro hg5 (And.intro hm5 hb5))
      refine wp_region_N (fun w' => w'.cell? ⟨b, 0, none⟩ = some (.int .i64 m.frm) ∧ w'.cell? ⟨b, 2, none⟩ = some (.int .i64 m.kind)) (fun i => !(i == 8 || i == 10 || i == 12)) (by kernel_rfl) ?_
      have hS : (fun w' : World => w'.cell? ⟨b, 0, none⟩ = some (.int .i64 m.frm) ∧ w'.cell? ⟨b, 2, none⟩ = some (.int .i64 m.kind)) w5.drew := ⟨cell_at hg5 0, cell_at hg5 2⟩
      have a3 := among_in m.frm 3 (by omega)
      have a9 := among_in m.kind 9 (by omega)
      clear hg5 hm5 hb5
      refine regA 0 43 (v := ?_) rfl rfl (by kernel_rfl) (by kernel_rfl) (by kernel_rfl) (fun _ _ _ h => h) (by rfl) (fun w => ?_) ?_; rotate_left; (go_simp; first | done | with_reducible rfl); (try simp only [Act.put, List.setIfInBounds_toArray, List.set_cons_zero, List.set_cons_succ])
      refine regS 1 44 (v := ?_) hS rfl rfl (by kernel_rfl) (by kernel_rfl) (by kernel_rfl) (by kernel_rfl) (fun _ _ _ h => h) (by rfl) (fun w hSw => ?_) ?_; rotate_left; (go_simp; first | done | with_reducible rfl); (try simp only [Act.put, List.setIfInBounds_toArray, List.set_cons_zero, List.set_cons_succ])
      refine regA 4 47 (v := ?_) rfl rfl (by kernel_rfl) (by kernel_rfl) (by kernel_rfl) (fun _ _ _ h => h) (by rfl) (fun w => ?_) ?_; rotate_left; (go_simp; first | done | with_reducible rfl); (try simp only [Act.put, List.setIfInBounds_toArray, List.set_cons_zero, List.set_cons_succ])
      refine regS 5 48 (v := ?_) hS rfl rfl (by kernel_rfl) (by kernel_rfl) (by kernel_rfl) (by kernel_rfl) (fun _ _ _ h => h) (by rfl) (fun w hSw => ?_) ?_; rotate_left; (go_simp; first | done | with_reducible rfl); (try simp only [Act.put, List.setIfInBounds_toArray, List.set_cons_zero, List.set_cons_succ])
      refine regOnly 2 (by kernel_rfl) rfl (by rfl) (fun K hK => ?_)
      go_wp2_with (first | (go_at_call 12; refine (among_any _ _ _ (by omega) (by omega)).mono ?_; rintro e w' ⟨rfl, rfl⟩))
      refine hK.out _ _ (fun _ h => h) ?_
      clear hK
      (try simp only [Act.put, List.setIfInBounds_toArray, List.set_cons_zero, List.set_cons_succ])
      refine regA 3 46 (v := .int .i64 (1 + among m.frm 3)) rfl rfl (by kernel_rfl) (by kernel_rfl) (by kernel_rfl) (fun _ _ _ h => h) (by rfl) (fun w => ?_) ?_
      · go_simp
        exact IntWalk.i64_in _ (by omega)
      (try simp only [Act.put, List.setIfInBounds_toArray, List.set_cons_zero, List.set_cons_succ])
      refine regA 7 50 (v := ?_) rfl rfl (by kernel_rfl) (by kernel_rfl) (by kernel_rfl) (fun _ _ _ h => h) (by rfl) (fun w => ?_) ?_; rotate_left; (go_simp; first | done | with_reducible rfl); (try simp only [Act.put, List.setIfInBounds_toArray, List.set_cons_zero, List.set_cons_succ])
      refine regOnly 6 (by kernel_rfl) rfl (by rfl) (fun K hK => ?_)
      go_wp2_with (first | (go_at_call 12; refine (among_any _ _ _ (by omega) (by omega)).mono ?_; rintro e w' ⟨rfl, rfl⟩))
      refine hK.out _ _ (fun _ h => h) ?_
      clear hK
      (try simp only [Act.put, List.setIfInBounds_toArray, List.set_cons_zero, List.set_cons_succ])
      have hg5 : w5.drew.heap[b]? = _ := H5.out.1
      have hm5 := H5.out.2.1.drew
      have hb5 := H5.out.2.2
      clear hS H5
      generalize w5.drew = w5d at *
      have f0 := free_at hg5 0
      have f1 := free_at hg5 1
      have f2 := free_at hg5 2
      have c0 := cell_at hg5 0
      have c1 := cell_at hg5 1
      have c2 := cell_at hg5 2
      have H5 := hid (And.intro hg5 (And.intro hm5 hb5))
      clear hg5 hm5 hb5
      refine regOnly 8 (by kernel_rfl) rfl (by rfl) (fun K hK => ?_)
      go_wp2_with fail
      refine hK.out _ _ (fun h _ => absurd h (by decide)) ?_
      clear hK
      (try simp only [Act.put, List.setIfInBounds_toArray, List.set_cons_zero, List.set_cons_succ])
      refine regA 9 51 (v := ?_) rfl rfl (by kernel_rfl) (by kernel_rfl) (by kernel_rfl) (fun _ _ _ h => h) (by rfl) (fun w => ?_) ?_; rotate_left; (go_simp; first | done | with_reducible rfl); (try simp only [Act.put, List.setIfInBounds_toArray, List.set_cons_zero, List.set_cons_succ])
      refine regOnly 10 (by kernel_rfl) rfl (by rfl) (fun K hK => ?_)
      go_wp2_with fail
      refine hK.out _ _ (fun h _ => absurd h (by decide)) ?_
      clear hK
      (try simp only [Act.put, List.setIfInBounds_toArray, List.set_cons_zero, List.set_cons_succ])
      refine regA 11 52 (v := ?_) rfl rfl (by kernel_rfl) (by kernel_rfl) (by kernel_rfl) (fun _ _ _ h => h) (by rfl) (fun w => ?_) ?_; rotate_left; (go_simp; first | done | with_reducible rfl); (try simp only [Act.put, List.setIfInBounds_toArray, List.set_cons_zero, List.set_cons_succ])
      refine regOnly 12 (by kernel_rfl) rfl (by rfl) (fun K hK => ?_)
      go_wp2_with fail
      refine hK.out _ _ (fun h _ => absurd h (by decide)) ?_
      clear hK
      (try simp only [Act.put, List.setIfInBounds_toArray, List.set_cons_zero, List.set_cons_succ])
      refine regDone (by kernel_rfl) ?_ _
      clear f0 f1 f2 c0 c1 c2
      have hq := get_setCell_self (get_setCell_self (get_setCell_self (w := w5d) H5.out.1 0 (.int .i64 (1 + among m.frm 3))) 1 (.int .i64 2)) 2 (.int .i64 (among m.kind 9))
      have hm6 := ((H5.out.2.1.setCell (p := ⟨b, 0, none⟩) (.inr H5.out.2.2) (.int .i64 (1 + among m.frm 3))).setCell (p := ⟨b, 1, none⟩) (.inr H5.out.2.2) (.int .i64 2)).setCell (p := ⟨b, 2, none⟩) (.inr H5.out.2.2) (.int .i64 (among m.kind 9))
      rw [show (((#[Value.int IntKind.i64 m.frm, .int .i64 m.to, .int .i64 m.kind, .string (shortB m.body)].setIfInBounds 0 (.int .i64 (1 + among m.frm 3))).setIfInBounds 1 (.int .i64 2)).setIfInBounds 2 (.int .i64 (among m.kind 9))) = #[.int .i64 (1 + among m.frm 3), .int .i64 2, .int .i64 (among m.kind 9), .string (shortB m.body)] from rfl] at hq
      generalize (((w5d.setCell ⟨b, 0, none⟩ (.int .i64 (1 + among m.frm 3))).setCell ⟨b, 1, none⟩ (.int .i64 2)).setCell ⟨b, 2, none⟩ (.int .i64 (among m.kind 9))) = w6 at *
      clear H5
      obtain ⟨M, hM⟩ : ∃ M : Msg, M = ordM m := ⟨_, rfl⟩
      have hM0 : M.frm = 1 + among m.frm 3 ∧ M.to = 2 ∧ M.kind = among m.kind 9 ∧ M.body = shortB m.body := by rw [hM]; exact ⟨rfl, rfl, rfl, rfl⟩
      have hMp : M.to = 2 ∧ (1 ≤ M.frm ∧ M.frm ≤ 3) ∧ 0 ≤ M.kind := ⟨hM0.2.1, by omega, by omega⟩
      rw [← hM0.1, ← hM0.2.2.1, ← hM0.2.2.2] at hq
      have hq' : w6.heap[b]? = some (msgObj M) := by rw [hq]; unfold msgObj; rw [hM0.2.1]
      clear hq hM0 hM a3 a9
      have g0 := cell_at hq' 0
      have g1 := cell_at hq' 1
      have g2 := cell_at hq' 2
      have g3 := cell_at hq' 3
      have hn6 := HS.out.2.2.1.mod0 hm6
      have hsum : s.sent ≤ 1000000 := by have := HS.out.1.sum; have := HS.out.2.1; have := HJ.out.2; omega
      have hsend := send_any w6 p s M hn6 HS.out.1.ok hsum
      have HMP := hid hMp.1
      unfold Msg.v NumPost at hsend
      have hord := HS.out.1.send hMp.1 hMp.2.1 hMp.2.2
      generalize s.send M = r at hsend hord
      obtain ⟨s1, k1, e1⟩ := r
      dsimp only at hsend hord
      have HSE := hid hsend
      have HO := hid hord
      have H6 := hid (And.intro hm6 hq')
      clear hsend hord hm6 hq' hn6 hsum hMp
      go_upto_if 60 with (first
        | (go_at_call 13; refine HSE.out.mono ?_; rintro e w7 ⟨rfl, hn7, hm7⟩; have H7 := hid (And.intro hn7 hm7); clear hn7 hm7))
      have hg7 := H7.out.2.get H6.out.2 (HS.out.2.2.1.mod0 H6.out.1 |>.ne H6.out.2 (by decide))
      have g0 := cell_at hg7 0
      have g1 := cell_at hg7 1
      have g2 := cell_at hg7 2
      have g3 := cell_at hg7 3
      have HG7 := hid hg7
      clear hg7
      go_cut [7] (fun sv wx => ∃ (s' : NetS) (sent' : List Msg), Ord s' sent' g ∧ sent'.length ≤ j + 1 ∧ NetAt wx p s' ∧ MsgsAt w.heap.size wx sv sent' ∧ MsgsAt w.heap.size wx u8 (sent'.take g) ∧ (∀ k, sv.ownBlock = some k → u8.ownBlock ≠ some k) ∧ Mod [] w wx)
      case first =>
        obtain ⟨ho, hsl, hn, hvs, hvg, hne, hm⟩ := HS.out
        have hm6 : Mod [] w w6 := hm.trans H6.out.1
        have hm7 : Mod [] w w7 := hm6.trans' H7.out.2 (fun x hx => .inr (HF.out x hx))
        have hvs7 := (hvs.mod0 H6.out.1).mod H7.out.2 (hvs.mod0 H6.out.1 |>.not_foot (hn.mod0 H6.out.1))
        have hvg7 := (hvg.mod0 H6.out.1).mod H7.out.2 (hvg.mod0 H6.out.1 |>.not_foot (hn.mod0 H6.out.1))
        have hle := ho.le
        rcases HO.out with ⟨h0, ho1⟩ | ⟨h0, hs1⟩
        · subst h0
          have happ := hvs7.app hm7.size M (by have := HJ.out.2; omega)
          obtain ⟨av, kv, rfl⟩ := row_slice hvs7.row
          have HA := hid happ
          have HX := hid (And.intro ho1 (And.intro hsl (And.intro hvs7 (And.intro hvg7 (And.intro hne (And.intro hm7 hle))))))
          clear ho ho1 hsl hn hvs hvg hne hm hm6 hm7 hvs7 hvg7 happ hle
          go_wp2_with (first
            | (at_builtin; refine wpList_app_run rfl _ _ 22 rfl _ _ rfl rfl _ HA.out ?_; rintro v8 w8 ⟨h81, h82, h83⟩; have H8 := hid (And.intro h81 (And.intro h82 h83)); clear h81 h82 h83))
          go_meet
          obtain ⟨ho1, hsl, hvs7, hvg7, hne, hm7, hle⟩ := HX.out
          obtain ⟨h81, h82, h83⟩ := H8.out
          refine ⟨s1, sent ++ [M], ho1, by rw [List.length_append]; simp; omega, H7.out.1.mod h82 (fun b hb hm => hvs7.not_foot H7.out.1 b (by simpa using hm) hb), h81, ?_, ?_, hm7.trans' h82 (fun x hx => .inr (hvs7.own x (by simpa using hx)))⟩
          · rw [List.take_append_of_le_length hle]
            exact hvg7.mod h82 (fun k hk hm => hne k (by simpa using hm) hk)
          · intro k hk hk2
            rcases h83 k hk with h1 | h1
            · exact hne k h1 hk2
            · have := lt_of_block (row_block hvg7.row hk2).choose_spec
              omega
        · have HX := hid (And.intro ho (And.intro hsl (And.intro hvs7 (And.intro hvg7 (And.intro hne hm7)))))
          have h0' : (e1 == 0) = false := by simpa using h0
          clear ho hsl hn hvs hvg hne hm hm6 hm7 hvs7 hvg7 hle h0
          go_wp2_with fail
          go_meet
          obtain ⟨ho, hsl, hvs7, hvg7, hne, hm7⟩ := HX.out
          exact ⟨s1, sent, hs1 ▸ ho, by omega, H7.out.1, hvs7, hvg7, hne, hm7⟩
      case rest =>
        clear HSE HO H6 H7 HS HG7 HMP g0 g1 g2 g3
        obtain ⟨s2, sent2, ho, hsl, hn, hvs, hvg, hne, hm⟩ := hcut
        have HS := hid (And.intro ho (And.intro hsl (And.intro hn (And.intro hvs (And.intro hvg (And.intro hne hm))))))
        clear ho hsl hn hvs hvg hne hm
        have a5 := among_in every 5 (by omega)
        go_upto_region 16 with fail
        go_cut [70] (fun vv wx => ∃ bb, vv = .bool bb ∧ wx = wc)
        case first =>
          go_wp2_with (first | (go_at_call 12; refine (among_any _ _ _ (by omega) (by omega)).mono ?_; rintro e w' ⟨rfl, rfl⟩))
          go_meet
          exact ⟨_, rfl, rfl⟩
        case rest =>
          obtain ⟨bb, rfl, hwc⟩ := hcut
          subst hwc
          clear a5
          have hsum : s2.sent ≤ 1000000 := by have := HS.out.1.sum; have := HS.out.2.1; have := HJ.out.2; omega
          cases bb with
          | false =>
            go_wp2_with fail
            go_roundg (gk - 1)
            case measure => have := HJ.out; omega
            case rel =>
              exact ⟨j + 1, s2, sent2, g, by go_num, by have := HJ.out; omega, HS.out⟩
          | true =>
            have hold := fun W (hm : Mod [] wc W) => oldest_any W p s2 2 (HS.out.2.2.1.mod0 hm) HS.out.1.ok hsum
            have htake := fun W (hm : Mod [] wc W) k => take_any W p s2 k (HS.out.2.2.1.mod0 hm) HS.out.1.ok hsum
            have ht := HS.out.1.take
            rcases ht with ⟨ho1, ht1⟩ | ⟨m1, hg1, ho1, ht1, ho2⟩
            · have htk := fun W hm => htake W hm 0
              unfold MsgPost at htk
              rw [ho1] at hold
              rw [ht1] at htk
              dsimp only [Msg.v, Msg.zero] at htk
              have HOL := hid hold
              have HTK := hid htk
              clear hold htake ho1 ht1 htk hsum
              go_wp2_with (first
                | (go_at_call 14; refine (HOL.out _ (Mod.refl _ _)).mono ?_; rintro e w9 ⟨rfl, hm9⟩; have H9 := hid hm9; clear hm9)
                | (go_at_call 15; refine (HTK.out _ H9.out).mono ?_; rintro e wa ⟨rfl, hna, hma⟩; have HA := hid (And.intro hna hma); clear hna hma))
              go_roundg (gk - 1)
              case measure => have := HJ.out; omega
              case rel =>
                obtain ⟨ho, hsl, hn, hvs, hvg, hne, hm⟩ := HS.out
                have hm9 := H9.out
                have hma : Mod p.foot wc wa := (hm9.mono (by simp)).trans HA.out.2
                refine ⟨j + 1, s2, sent2, g, by go_num, by have := HJ.out; omega, ho, hsl, HA.out.1.mod0 ((Mod.refl _ _).alloc _), (hvs.mod hma (hvs.not_foot hn)).mod0 ((Mod.refl _ _).alloc _), (hvg.mod hma (hvg.not_foot hn)).mod0 ((Mod.refl _ _).alloc _), hne, (hm.trans' hma (fun x hx => .inr (HF.out x hx))).alloc _⟩
            · obtain ⟨kk, hkk⟩ : ∃ kk : Int, kk = ((g + 1 : Nat) : Int) := ⟨_, rfl⟩
              rw [← hkk] at ho1 ht1 ho2
              have htk := fun W hm => htake W hm kk
              unfold MsgPost at htk
              rw [ho1] at hold
              rw [ht1] at htk
              generalize (s2.take kk).1 = s3 at htk ho2
              dsimp only [Msg.v] at htk
              have HOL := hid hold
              have HTK := hid htk
              have HO2 := hid (And.intro ho2 hg1)
              obtain ⟨ag, cg, hu8⟩ := HS.out.2.2.2.2.1.form
              rw [List.length_take, Nat.min_eq_left HS.out.1.le] at hu8
              subst hu8
              clear hold htake ho1 ht1 htk hsum ho2 hg1 hkk
              go_upto_region 19 with (first
                | (go_at_call 14; refine (HOL.out _ (Mod.refl _ _)).mono ?_; rintro e w9 ⟨rfl, hm9⟩; have H9 := hid hm9; clear hm9)
                | (go_at_call 15; refine (HTK.out _ H9.out).mono ?_; rintro e wa ⟨rfl, hna, hma⟩; have HA := hid (And.intro hna hma); clear hna hma))
              obtain ⟨ho, hsl, hn, hvs, hvg, hne, hm⟩ := HS.out
              have hma : Mod p.foot wc wa := (H9.out.mono (by simp)).trans HA.out.2
              have hnb := HA.out.1.mod0 ((Mod.refl _ _).alloc (msgObj m1))
              have hvsb := (hvs.mod hma (hvs.not_foot hn)).mod0 ((Mod.refl _ _).alloc (msgObj m1))
              have hvgb := (hvg.mod hma (hvg.not_foot hn)).mod0 ((Mod.refl _ _).alloc (msgObj m1))
              have hmb := (hm.trans' hma (fun x hx => .inr (HF.out x hx))).alloc (msgObj m1)
              have hgb := get_new wa (msgObj m1)
              have happ := hvgb.app hmb.size m1 (by have := HJ.out.2; rw [List.length_take]; omega)
              have HX := hid (And.intro hsl (And.intro hnb (And.intro hvsb (And.intro hvgb (And.intro hne hmb)))))
              have HAP := hid happ
              clear ho hsl hn hvs hvg hne hm hma hnb hvsb hvgb hmb happ HS H9 HA HOL HTK
              unfold msgObj at HAP HX hgb
              generalize (wa.alloc (.cells #[.int .i64 m1.frm, .int .i64 m1.to, .int .i64 m1.kind, .string m1.body] 29 (0, 0))) = wb at *
              generalize wa.heap.size = gb at *
              have g0 := cell_at hgb 0
              have g1 := cell_at hgb 1
              have g2 := cell_at hgb 2
              have g3 := cell_at hgb 3
              clear hgb
              go_wp2_with (first
                | (at_builtin; refine wpList_app_run rfl _ _ 22 rfl _ _ rfl rfl _ HAP.out ?_; rintro v8 w8 ⟨h81, h82, h83⟩; have H8 := hid (And.intro h81 (And.intro h82 h83)); clear h81 h82 h83))
              go_roundg (gk - 1)
              case measure => have := HJ.out; omega
              case rel =>
                obtain ⟨hsl, hnb, hvsb, hvgb, hne, hmb⟩ := HX.out
                obtain ⟨h81, h82, h83⟩ := H8.out
                have htk : sent2.take (g + 1) = sent2.take g ++ [m1] := by rw [List.take_add_one, HO2.out.2]; rfl
                refine ⟨j + 1, s3, sent2, g + 1, by go_num, by have := HJ.out; omega, HO2.out.1, hsl, hnb.mod h82 (fun b hb hm => hvgb.not_foot hnb b (by simpa using hm) hb), hvsb.mod h82 (fun k hk hm => hne k hk (by simpa using hm)), by rw [htk]; exact h81, ?_, hmb.trans' h82 (fun x hx => .inr (hvgb.own x (by simpa using hx)))⟩
                intro k hk hk2
                rcases h83 k hk2 with h1 | h1
                · exact hne k hk h1
                · have := lt_of_block (row_block hvsb.row hk).choose_spec
                  omega
    · rw [decide_eq_false hjn] at hcv
      subst hcv
      have hj60 : j ≤ 60 := by omega
      clear H3 HL hj hjn
      obtain ⟨av, kv, rfl⟩ := row_slice hvs.row
      obtain ⟨ag, cg, hu8⟩ := hvg.form
      have hle := ho.le
      rw [List.length_take, Nat.min_eq_left hle] at hu8
      subst hu8
      have hwl := ho.wait_len
      have hsum : s.sent ≤ 1000000 := by have := ho.sum; omega
      have hwt := fun W hm => waiting_any W p s 2 (hn.mod0 (w' := W) hm) ho.ok hsum
      have HX := hid (And.intro ho (And.intro hn (And.intro hvs (And.intro hvg (And.intro hm hsl)))))
      have HWT := hid hwt
      have HWL := hid hwl
      clear ho hn hvs hvg hm hsl hne hwt hwl hsum
      go_wp2_with fail
      go_loopg [17] g (fun gk i W' => ∃ i' : Nat, i = nat i' ∧ gk + i' = g ∧ Mod [] wc W')
      case atStart => exact ⟨0, rfl, by omega, Mod.refl _ _⟩
      case round =>
        obtain ⟨i, rfl, hi, hm⟩ := hrel
        by_cases hig : i < g
        · have i0 : (0 : Int) ≤ (i : Int) := Int.natCast_nonneg _
          have i1 : (i : Int) < (g : Int) := by omega
          obtain ⟨mi, hmi⟩ : ∃ mi, sent[i]? = some mi := ⟨_, List.getElem?_eq_getElem (by omega)⟩
          have hmg : (sent.take g)[i]? = some mi := by rw [List.getElem?_take, if_pos hig]; exact hmi
          obtain ⟨gs, cs, es, hcs⟩ := (HX.out.2.2.1.mod0 hm).at hmi
          obtain ⟨gg, cg', eg, hcg⟩ := (HX.out.2.2.2.1.mod0 hm).at hmg
          cases es
          rw [List.length_take, Nat.min_eq_left hle] at eg
          cases eg
          have i2 : (i : Int) < (sent.length : Int) := by omega
          have i3 : (i : Int) ≤ 60 := by have := HX.out.2.2.2.2.2; omega
          have hneq := msg_neq mi mi
          rw [Msg.same_self] at hneq
          unfold Msg.v at hneq
          have HM := hid hm
          have HI := hid hi
          clear hm hi hle hmi hmg hig
          go_upto_region 26 with fail
          refine wp_region_N (fun w' => (∀ (k : Nat) (u : Value), mi.cells[k]? = some u → w'.cell? ⟨gs, i * 4 + k, none⟩ = some u) ∧ ∀ (k : Nat) (u : Value), mi.cells[k]? = some u → w'.cell? ⟨gg, i * 4 + k, none⟩ = some u) (fun _ => true) (by kernel_rfl) ?_
          have hS : (fun w' : World => (∀ (k : Nat) (u : Value), mi.cells[k]? = some u → w'.cell? ⟨gs, i * 4 + k, none⟩ = some u) ∧ ∀ (k : Nat) (u : Value), mi.cells[k]? = some u → w'.cell? ⟨gg, i * 4 + k, none⟩ = some u) wr.drew := ⟨hcs, hcg⟩
          clear hcs hcg
          refine regA 0 103 (v := ?_) rfl rfl (by kernel_rfl) (by kernel_rfl) (by kernel_rfl) (fun _ _ _ h => h) (by rfl) (fun w => ?_) ?_; rotate_left; (go_simp; first | done | with_reducible rfl); (try simp only [Act.put, List.setIfInBounds_toArray, List.set_cons_zero, List.set_cons_succ])
          refine regA 1 104 (v := ?_) rfl rfl (by kernel_rfl) (by kernel_rfl) (by kernel_rfl) (fun _ _ _ h => h) (by rfl) (fun w => ?_) ?_; rotate_left; (go_simp; first | done | with_reducible rfl); (try simp only [Act.put, List.setIfInBounds_toArray, List.set_cons_zero, List.set_cons_succ])
          refine regA 2 105 (v := ?_) rfl rfl (by kernel_rfl) (by kernel_rfl) (by kernel_rfl) (fun _ _ _ h => h) (by rfl) (fun w => ?_) ?_; rotate_left; (go_simp; first | done | with_reducible rfl); (try simp only [Act.put, List.setIfInBounds_toArray, List.set_cons_zero, List.set_cons_succ])
          refine regS 3 106 (v := .agg #[.int .i64 mi.frm, .int .i64 mi.to, .int .i64 mi.kind, .string mi.body]) hS rfl rfl (by kernel_rfl) (by kernel_rfl) (by kernel_rfl) (by kernel_rfl) (fun _ _ _ h => h) (by rfl) (fun w hSw => ?_) ?_
          · have y0 : w.cell? ⟨gg, i * 4, none⟩ = some (.int .i64 mi.frm) := hSw.2 0 _ rfl
            have y1 : w.cell? ⟨gg, i * 4 + 1, none⟩ = some (.int .i64 mi.to) := hSw.2 1 _ rfl
            have y2 : w.cell? ⟨gg, i * 4 + 2, none⟩ = some (.int .i64 mi.kind) := hSw.2 2 _ rfl
            have y3 : w.cell? ⟨gg, i * 4 + 3, none⟩ = some (.string mi.body) := hSw.2 3 _ rfl
            go_simp
          (try simp only [Act.put, List.setIfInBounds_toArray, List.set_cons_zero, List.set_cons_succ])
          refine regA 4 107 (v := ?_) rfl rfl (by kernel_rfl) (by kernel_rfl) (by kernel_rfl) (fun _ _ _ h => h) (by rfl) (fun w => ?_) ?_; rotate_left; (go_simp; first | done | with_reducible rfl); (try simp only [Act.put, List.setIfInBounds_toArray, List.set_cons_zero, List.set_cons_succ])
          refine regA 5 108 (v := ?_) rfl rfl (by kernel_rfl) (by kernel_rfl) (by kernel_rfl) (fun _ _ _ h => h) (by rfl) (fun w => ?_) ?_; rotate_left; (go_simp; first | done | with_reducible rfl); (try simp only [Act.put, List.setIfInBounds_toArray, List.set_cons_zero, List.set_cons_succ])
          refine regA 6 109 (v := ?_) rfl rfl (by kernel_rfl) (by kernel_rfl) (by kernel_rfl) (fun _ _ _ h => h) (by rfl) (fun w => ?_) ?_; rotate_left; (go_simp; first | done | with_reducible rfl); (try simp only [Act.put, List.setIfInBounds_toArray, List.set_cons_zero, List.set_cons_succ])
          refine regS 7 110 (v := .agg #[.int .i64 mi.frm, .int .i64 mi.to, .int .i64 mi.kind, .string mi.body]) hS rfl rfl (by kernel_rfl) (by kernel_rfl) (by kernel_rfl) (by kernel_rfl) (fun _ _ _ h => h) (by rfl) (fun w hSw => ?_) ?_
          · have y0 : w.cell? ⟨gs, i * 4, none⟩ = some (.int .i64 mi.frm) := hSw.1 0 _ rfl
            have y1 : w.cell? ⟨gs, i * 4 + 1, none⟩ = some (.int .i64 mi.to) := hSw.1 1 _ rfl
            have y2 : w.cell? ⟨gs, i * 4 + 2, none⟩ = some (.int .i64 mi.kind) := hSw.1 2 _ rfl
            have y3 : w.cell? ⟨gs, i * 4 + 3, none⟩ = some (.string mi.body) := hSw.1 3 _ rfl
            go_simp
          (try simp only [Act.put, List.setIfInBounds_toArray, List.set_cons_zero, List.set_cons_succ])
          refine regA 8 111 (v := .bool false) rfl rfl (by kernel_rfl) (by kernel_rfl) (by kernel_rfl) (fun _ _ _ h => h) (by rfl) (fun w => ?_) ?_
          · have hq := hneq w
            go_simp
          (try simp only [Act.put, List.setIfInBounds_toArray, List.set_cons_zero, List.set_cons_succ])
          refine regDone (by kernel_rfl) ?_ _
          clear hS hneq
          go_wp2_with fail
          go_roundg (gk - 1)
          case measure => have := HI.out; omega
          case rel => exact ⟨i + 1, by go_num, by have := HI.out; omega, HM.out.drew⟩
        · have i1 : ¬ (i : Int) < (g : Int) := by omega
          have HM := hid hm
          obtain ⟨q, hq⟩ : ∃ q, q = sent.length - g := ⟨_, rfl⟩
          rw [← hq] at HWL
          have HQ := hid (show (g : Int) + (q : Int) = (sent.length : Int) from by omega)
          have q1 : (g : Int) ≤ 60 := by have := HX.out.2.2.2.2.2; omega
          have q2 : (q : Int) ≤ 60 := by have := HX.out.2.2.2.2.2; omega
          clear hm hq hle hj60 hi hig
          go_wp2_with (first
            | (go_at_call 16; refine (HWT.out _ HM.out).mono ?_; rintro e w9 ⟨v, rfl, hv9, hm9⟩; obtain ⟨a9, c9, rfl⟩ := row_slice hv9.row; have H9 := hid hm9; clear hv9 hm9; simp only [HWL.out]))
          go_ret
          exact ⟨by first | (show Ending.returned (.bool _) = _; rw [HQ.out, beq_self_eq_true]), HX.out.2.2.2.2.1.trans (HM.out.trans H9.out)⟩
end Go.Proofs.Ytbjgjagbepopfaa
