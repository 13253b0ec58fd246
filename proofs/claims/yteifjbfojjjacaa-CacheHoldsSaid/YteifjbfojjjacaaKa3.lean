/-
  A replay cache, walked: See. No statement of a claim stands here; each contract names what it asks.
-/
import Derived.Test.YteifjbfojjjacaaKa2
set_option linter.unusedSimpArgs false
namespace Go.Proofs.Yteifjbfojjjacaa
open Go Go.RowKit Go.ChangeMaps

theorem run_len_op {α β : Type} {f : α → Value} {g : β → Value} {P : Program} {oi : Oper} {ev : Operand → Value} {w : World} {t kt et : TypeId} {b c : Nat} {l : List (α × β × Nat)} (s : Operand) (ho : oi.op = .call { callee := .builtin .len, args := #[s], argTypes := #[t] })
    (ht : P.underlying t = some (.map kt et)) (hs : ev s = .map (some b)) (hb : w.heap[b]? = some (mapObj f g l c)) : (execOp ev oi).run P w = .ok (.value (.int .i64 (l.length : Int))) w := by
  have hr := run_len_map (P := P) (ty := oi.type) ht hb
  simp [execOp, ho, resolve, invoke, builtin, hs, hr, Result.andThen]


def SeePost (w : World) (x b : Nat) (s : RepS) (id : ByteArray) (time now : Int) (e : Ending) (w' : World) : Prop :=
  e = .returned (.tuple #[.int .i64 (seeS s id time now).2.1, .int .i64 (seeS s id time now).2.2]) ∧ RepAt w' x b (seeS s id time now).1 ∧ Mod [b] w w'

theorem see_post {w W : World} {x b : Nat} {s s' : RepS} {id : ByteArray} {time now k e : Int} (hs : seeS s id time now = (s', k, e)) (h : RepAt W x b s') (hm : Mod [b] w W) :
    SeePost w x b s id time now (.returned (.tuple #[.int .i64 k, .int .i64 e])) W := ⟨by rw [hs], by rw [hs]; exact h, hm⟩

/-- While old ones are let go. -/
def SweepAt (w : World) (x b : Nat) (s : RepS) (now : Int) (r gk : Nat) (wr : World) : Prop :=
  ∃ L left : Seen, gk = left.length ∧ Sweep s.l (fresh now s.window) L left ∧ IterAt wr r b s.clk L left ∧ RepAt wr x b { s with l := L } ∧ Mod [b] w wr ∧ w.heap.size ≤ r

set_option maxHeartbeats 800000 in
theorem see_any (w : World) (x b : Nat) (s : RepS) (id : ByteArray) (time now : Int) (h : RepAt w x b s) (ho : ROk s) :
    Calls Try.prog 12 #[.pointer (some ⟨x, 0, none⟩), .string id, .int .i64 time, .int .i64 now] w (SeePost w x b s id time now) := by
  have c2 : w.cell? ⟨x, 2, none⟩ = some (.map (some b)) := cell_at h.cells 2
  have HR := hid h
  have HO := hid ho
  clear h ho
  by_cases h1 : 4096 < id.size
  · have d1 : decide ((4096 : Int) < (id.size : Int)) = true := by simp; omega
    have HS := hid (show seeS s id time now = (s, 0, 3) by simp [seeS, h1])
    clear h1
    go_enter Try.func12, Try.ntmps12
    go_wp2_with (first | (go_at_call 33; refine (ris_some _ _ b c2).mono ?_; rintro e w' ⟨rfl, rfl⟩))
    go_ret2
    exact see_post HS.out HR.out (Mod.refl _ _)
  · have d1 : decide ((4096 : Int) < (id.size : Int)) = false := by simp; omega
    cases h2 : (timeOk time && timeOk now) with
    | false =>
      have HS := hid (show seeS s id time now = (s, 0, 2) by simp only [seeS, if_neg h1, h2, if_true])
      have H2 := hid h2
      clear h1 h2
      go_enter Try.func12, Try.ntmps12
      go_wp2_with (first
        | (go_at_call 33; refine (ris_some _ _ b c2).mono ?_; rintro e w' ⟨rfl, rfl⟩)
        | (go_at_call 30; refine (times2 _ time now).mono ?_; rw [H2.out]; rintro e w' ⟨rfl, rfl⟩))
      go_ret2
      exact see_post HS.out (HR.out.mod (Mod.alloc (Mod.refl [] _) _) (by simp) (by simp)) (by repeat' (first | exact Mod.refl _ _ | assumption | refine Mod.drewN ?_ _ | refine Mod.drew ?_ | refine Mod.alloc ?_ _ | refine Mod.setCell ?_ (by simp) _ | refine Mod.setBlock ?_ (by simp) _))
    | true =>
      have hS : seeS s id time now = if (look (kept s now) id).isSome then ({ s with l := kept s now }, 34, 0) else if ((kept s now).length : Int) = s.room then ({ s with l := kept s now }, 60, 0) else ({ s with l := kept s now ++ [(id, time, s.clk)], clk := s.clk + 1 }, 0, 0) := by
        simp only [seeS, if_neg h1, h2, Bool.true_eq_false, if_false]
      have HS := hid hS
      have H2 := hid h2
      have hnow : 0 ≤ now ∧ now ≤ 1099511627776 := by
        simp only [timeOk, Bool.and_eq_true, decide_eq_true_eq] at h2; exact h2.2
      clear h1 h2 hS
      go_enter Try.func12, Try.ntmps12
      have HMA := hid (HR.out.mod (Mod.alloc (Mod.refl [] w) (.cells #[.int .i64 time, .int .i64 now] 3)) (by simp) (by simp))
      have hma := HMA.out.map
      have c2a : (w.alloc (.cells #[.int .i64 time, .int .i64 now] 3)).cell? ⟨x, 2, none⟩ = some (.map (some b)) := cell_at HMA.out.cells 2
      go_wp2_with (first
        | (go_at_call 33; refine (ris_some _ _ b c2).mono ?_; rintro e w' ⟨rfl, rfl⟩)
        | (go_at_call 30; refine (times2 _ time now).mono ?_; rw [H2.out]; rintro e w' ⟨rfl, rfl⟩)
        | (at_range; refine wpList_range_at rfl _ _ _ rfl Try.underlying65 b s.clk s.l rfl hma ?_; intro w2 hi2 hm2 hb2 hs2))
      have hb0 := lt_of_block HR.out.map
      have hx0 := lt_of_block HR.out.cells
      have hm3 : Mod [b] w' w2 := ((Mod.alloc (Mod.refl [] w') _).trans hm2).mono (by simp)
      have hR2 : RepAt w2 x b s := HMA.out.mod hm2 (by simp) (by simp)
      have hrw : w'.heap.size ≤ (w'.alloc (.cells #[.int .i64 time, .int .i64 now] 3)).heap.size := by simp
      clear hma c2a c2 hs2 HMA hm2 hb2
      generalize (w'.alloc (.cells #[.int .i64 time, .int .i64 now] 3)).heap.size = r at *
      have HST := hid (show SweepAt w' x b s now r s.l.length w2 from ⟨s.l, s.l, rfl, Sweep.begin HO.out.keys HO.out.borns, hi2, hR2, hm3, hrw⟩)
      clear hi2 hR2 hm3
      go_frame
      go_loopg [] s.l.length (fun gk wr => SweepAt w' x b s now r gk wr)
      case atStart => exact HST.out
      case round =>
        obtain ⟨L, left, rfl, hsw, hit, hRL, hmr, hr⟩ := hrel
        have hne : b ≠ r := by omega
        have hnx : x ≠ r := by omega
        have HSW := hid hsw
        have HRL := hid hRL
        have HMR := hid hmr
        have c1 : wr.cell? ⟨x, 1, none⟩ = some (.int .i64 s.window) := cell_at hRL.cells 1
        have c2 : wr.cell? ⟨x, 2, none⟩ = some (.map (some b)) := cell_at hRL.cells 2
        have HLT := hid (fun e (he : e ∈ L) => HO.out.lt e (hsw.lsub e he))
        have hmap := hRL.map
        clear hsw hRL hmr
        go_wp2_with (first
          | (at_next; refine wpList_next_at rfl _ rfl r b s.clk L left rfl hmap HLT.out HSW.out.borns HSW.out.sub hne hit ?_ ?_))
        · intro hl
          subst hl
          have hend : L = kept s now := HSW.out.end_
          have c0 : wr.cell? ⟨x, 0, none⟩ = some (.int .i64 s.room) := cell_at HRL.out.cells 0
          have hS := HS.out
          rw [← hend] at hS
          have HS' := hid hS
          have hlen : (L.length : Int) ≤ s.room := by rw [hend]; exact (kept_ok HO.out now).len
          have hr2 := HO.out.r2
          have hlm := run_len_map (P := Try.prog) (ty := 3) Try.underlying65 hmap
          clear hend hS HS HSW HLT hit
          cases hlk : look L id with
          | some v =>
            rw [hlk] at HS'
            have HLK := hid hlk
            clear hlk
            go_wp2_with (first
              | (go_at_call 15; refine (rhas_any _ x b _ id HRL.out).mono ?_; dsimp only; rw [HLK.out]; rintro e w5 ⟨rfl, rfl⟩; simp only [Option.isSome_some]))
            go_ret2
            exact see_post (HS'.out.trans (if_pos rfl)) HRL.out HMR.out
          | none =>
            rw [hlk] at HS'
            have HLK := hid hlk
            clear hlk
            by_cases hfull : (L.length : Int) = s.room
            · have d5 : ((L.length : Int) == s.room) = true := by simpa using hfull
              have HFU := hid hfull
              clear hfull
              go_wp2_with (first
                | (go_at_call 15; refine (rhas_any _ x b _ id HRL.out).mono ?_; dsimp only; rw [HLK.out]; rintro e w5 ⟨rfl, rfl⟩; simp only [Option.isSome_none]))
              refine wp_region_N (fun w' => w'.cell? ⟨x, 2, none⟩ = some (.map (some b)) ∧ w'.cell? ⟨x, 0, none⟩ = some (.int .i64 s.room) ∧ w'.heap[b]? = some (seenObj L s.clk)) (fun _ => true) (by kernel_rfl) ?_
              have hS : (fun w' : World => w'.cell? ⟨x, 2, none⟩ = some (.map (some b)) ∧ w'.cell? ⟨x, 0, none⟩ = some (.int .i64 s.room) ∧ w'.heap[b]? = some (seenObj L s.clk)) w5.drew := ⟨c2, c0, hmap⟩
              refine regA 0 54 (v := ?_) rfl rfl (by kernel_rfl) (by kernel_rfl) (by kernel_rfl) (fun _ _ _ h => h) (by rfl) (fun w => ?_) ?_; rotate_left; (go_simp; first | done | with_reducible rfl); (try simp only [Act.put, List.setIfInBounds_toArray, List.set_cons_zero, List.set_cons_succ])
              refine regA 1 55 (v := ?_) rfl rfl (by kernel_rfl) (by kernel_rfl) (by kernel_rfl) (fun _ _ _ h => h) (by rfl) (fun w => ?_) ?_; rotate_left; (go_simp; first | done | with_reducible rfl); (try simp only [Act.put, List.setIfInBounds_toArray, List.set_cons_zero, List.set_cons_succ])
              refine regA 2 56 (v := ?_) rfl rfl (by kernel_rfl) (by kernel_rfl) (by kernel_rfl) (fun _ _ _ h => h) (by rfl) (fun w => ?_) ?_; rotate_left; (go_simp; first | done | with_reducible rfl); (try simp only [Act.put, List.setIfInBounds_toArray, List.set_cons_zero, List.set_cons_succ])
              refine regS 3 57 (v := ?_) hS rfl rfl (by kernel_rfl) (by kernel_rfl) (by kernel_rfl) (by kernel_rfl) (fun _ _ _ h => h) (by rfl) (fun w hSw => ?_) ?_; rotate_left; (go_simp; first | done | with_reducible rfl); (try simp only [Act.put, List.setIfInBounds_toArray, List.set_cons_zero, List.set_cons_succ])
              refine regS 4 58 (v := .int .i64 (L.length : Int)) hS rfl rfl (by kernel_rfl) (by kernel_rfl) (by kernel_rfl) (by kernel_rfl) (fun _ _ _ h => h) (by rfl) (fun w hSw => ?_) ?_; exact run_len_op _ rfl Try.underlying65 rfl hSw.2.2; (try simp only [Act.put, List.setIfInBounds_toArray, List.set_cons_zero, List.set_cons_succ])
              refine regA 5 59 (v := ?_) rfl rfl (by kernel_rfl) (by kernel_rfl) (by kernel_rfl) (fun _ _ _ h => h) (by rfl) (fun w => ?_) ?_; rotate_left; (go_simp; first | done | with_reducible rfl); (try simp only [Act.put, List.setIfInBounds_toArray, List.set_cons_zero, List.set_cons_succ])
              refine regA 6 60 (v := ?_) rfl rfl (by kernel_rfl) (by kernel_rfl) (by kernel_rfl) (fun _ _ _ h => h) (by rfl) (fun w => ?_) ?_; rotate_left; (go_simp; first | done | with_reducible rfl); (try simp only [Act.put, List.setIfInBounds_toArray, List.set_cons_zero, List.set_cons_succ])
              refine regA 7 61 (v := ?_) rfl rfl (by kernel_rfl) (by kernel_rfl) (by kernel_rfl) (fun _ _ _ h => h) (by rfl) (fun w => ?_) ?_; rotate_left; (go_simp; first | done | with_reducible rfl); (try simp only [Act.put, List.setIfInBounds_toArray, List.set_cons_zero, List.set_cons_succ])
              refine regS 8 62 (v := ?_) hS rfl rfl (by kernel_rfl) (by kernel_rfl) (by kernel_rfl) (by kernel_rfl) (fun _ _ _ h => h) (by rfl) (fun w hSw => ?_) ?_; rotate_left; (go_simp; first | done | with_reducible rfl); (try simp only [Act.put, List.setIfInBounds_toArray, List.set_cons_zero, List.set_cons_succ])
              refine regA 9 63 (v := ?_) rfl rfl (by kernel_rfl) (by kernel_rfl) (by kernel_rfl) (fun _ _ _ h => h) (by rfl) (fun w => ?_) ?_; rotate_left; (go_simp; first | done | with_reducible rfl); (try simp only [Act.put, List.setIfInBounds_toArray, List.set_cons_zero, List.set_cons_succ])
              refine regA 10 53 (v := ?_) rfl rfl (by kernel_rfl) (by kernel_rfl) (by kernel_rfl) (fun _ _ _ h => h) (by rfl) (fun w => ?_) ?_; rotate_left; (go_simp; first | done | with_reducible rfl); (try simp only [Act.put, List.setIfInBounds_toArray, List.set_cons_zero, List.set_cons_succ])
              refine regDone (by kernel_rfl) ?_ _
              go_wp2_with fail
              go_ret2
              exact see_post ((HS'.out.trans (if_neg (by simp))).trans (if_pos HFU.out)) (HRL.out.mod (Mod.refl [] _).drew (by simp) (by simp)) HMR.out.drew
            · have d5 : ((L.length : Int) == s.room) = false := by simpa using hfull
              have HFU := hid hfull
              clear hfull
              go_wp2_with (first
                | (go_at_call 15; refine (rhas_any _ x b _ id HRL.out).mono ?_; dsimp only; rw [HLK.out]; rintro e w5 ⟨rfl, rfl⟩; simp only [Option.isSome_none]))
              refine wp_region_N (fun w' => w'.cell? ⟨x, 2, none⟩ = some (.map (some b)) ∧ w'.cell? ⟨x, 0, none⟩ = some (.int .i64 s.room) ∧ w'.heap[b]? = some (seenObj L s.clk)) (fun _ => true) (by kernel_rfl) ?_
              have hS : (fun w' : World => w'.cell? ⟨x, 2, none⟩ = some (.map (some b)) ∧ w'.cell? ⟨x, 0, none⟩ = some (.int .i64 s.room) ∧ w'.heap[b]? = some (seenObj L s.clk)) w5.drew := ⟨c2, c0, hmap⟩
              refine regA 0 54 (v := ?_) rfl rfl (by kernel_rfl) (by kernel_rfl) (by kernel_rfl) (fun _ _ _ h => h) (by rfl) (fun w => ?_) ?_; rotate_left; (go_simp; first | done | with_reducible rfl); (try simp only [Act.put, List.setIfInBounds_toArray, List.set_cons_zero, List.set_cons_succ])
              refine regA 1 55 (v := ?_) rfl rfl (by kernel_rfl) (by kernel_rfl) (by kernel_rfl) (fun _ _ _ h => h) (by rfl) (fun w => ?_) ?_; rotate_left; (go_simp; first | done | with_reducible rfl); (try simp only [Act.put, List.setIfInBounds_toArray, List.set_cons_zero, List.set_cons_succ])
              refine regA 2 56 (v := ?_) rfl rfl (by kernel_rfl) (by kernel_rfl) (by kernel_rfl) (fun _ _ _ h => h) (by rfl) (fun w => ?_) ?_; rotate_left; (go_simp; first | done | with_reducible rfl); (try simp only [Act.put, List.setIfInBounds_toArray, List.set_cons_zero, List.set_cons_succ])
              refine regS 3 57 (v := ?_) hS rfl rfl (by kernel_rfl) (by kernel_rfl) (by kernel_rfl) (by kernel_rfl) (fun _ _ _ h => h) (by rfl) (fun w hSw => ?_) ?_; rotate_left; (go_simp; first | done | with_reducible rfl); (try simp only [Act.put, List.setIfInBounds_toArray, List.set_cons_zero, List.set_cons_succ])
              refine regS 4 58 (v := .int .i64 (L.length : Int)) hS rfl rfl (by kernel_rfl) (by kernel_rfl) (by kernel_rfl) (by kernel_rfl) (fun _ _ _ h => h) (by rfl) (fun w hSw => ?_) ?_; exact run_len_op _ rfl Try.underlying65 rfl hSw.2.2; (try simp only [Act.put, List.setIfInBounds_toArray, List.set_cons_zero, List.set_cons_succ])
              refine regA 5 59 (v := ?_) rfl rfl (by kernel_rfl) (by kernel_rfl) (by kernel_rfl) (fun _ _ _ h => h) (by rfl) (fun w => ?_) ?_; rotate_left; (go_simp; first | done | with_reducible rfl); (try simp only [Act.put, List.setIfInBounds_toArray, List.set_cons_zero, List.set_cons_succ])
              refine regA 6 60 (v := ?_) rfl rfl (by kernel_rfl) (by kernel_rfl) (by kernel_rfl) (fun _ _ _ h => h) (by rfl) (fun w => ?_) ?_; rotate_left; (go_simp; first | done | with_reducible rfl); (try simp only [Act.put, List.setIfInBounds_toArray, List.set_cons_zero, List.set_cons_succ])
              refine regA 7 61 (v := ?_) rfl rfl (by kernel_rfl) (by kernel_rfl) (by kernel_rfl) (fun _ _ _ h => h) (by rfl) (fun w => ?_) ?_; rotate_left; (go_simp; first | done | with_reducible rfl); (try simp only [Act.put, List.setIfInBounds_toArray, List.set_cons_zero, List.set_cons_succ])
              refine regS 8 62 (v := ?_) hS rfl rfl (by kernel_rfl) (by kernel_rfl) (by kernel_rfl) (by kernel_rfl) (fun _ _ _ h => h) (by rfl) (fun w hSw => ?_) ?_; rotate_left; (go_simp; first | done | with_reducible rfl); (try simp only [Act.put, List.setIfInBounds_toArray, List.set_cons_zero, List.set_cons_succ])
              refine regA 9 63 (v := ?_) rfl rfl (by kernel_rfl) (by kernel_rfl) (by kernel_rfl) (fun _ _ _ h => h) (by rfl) (fun w => ?_) ?_; rotate_left; (go_simp; first | done | with_reducible rfl); (try simp only [Act.put, List.setIfInBounds_toArray, List.set_cons_zero, List.set_cons_succ])
              refine regA 10 53 (v := ?_) rfl rfl (by kernel_rfl) (by kernel_rfl) (by kernel_rfl) (fun _ _ _ h => h) (by rfl) (fun w => ?_) ?_; rotate_left; (go_simp; first | done | with_reducible rfl); (try simp only [Act.put, List.setIfInBounds_toArray, List.set_cons_zero, List.set_cons_succ])
              refine regDone (by kernel_rfl) ?_ _
              go_wp2_with (first
                | (at_mapUpdate; refine wpList_put_new kStr rfl _ _ _ _ _ rfl Try.underlying65 b s.clk L id time rfl rfl rfl hmap HLK.out ?_; intro w6 hb6 hm6 hs6))
              go_ret2
              exact see_post ((HS'.out.trans (if_neg (by simp))).trans (if_neg HFU.out)) ⟨hm6.get HRL.out.cells (by simpa using HR.out.ne), hb6⟩ (HMR.out.drew.trans hm6)
        · intro ek ev eb w3 he hon hm3 hs3 hb3 hent
          have hx3 : x ∉ [r] := by simpa using hnx
          have c1' := hm3.cell c1 hx3
          have c2' := hm3.cell c2 hx3
          have hRL3 := HRL.out.mod hm3 hx3 (by simpa using hne)
          have HR3 := hid hRL3
          have sw : IntKind.i64.wrap (now - s.window) = now - s.window := IntWalk.i64_in _ (by have := HO.out.w0; have := HO.out.w1; omega)
          have hlt : (left.filter fun y => y.2.2 != eb).length < left.length := List.length_filter_lt_length_iff_exists.2 ⟨_, he, by simp⟩
          have HM3 := hid (HMR.out.trans' hm3 (by simp; omega) : Mod [b] w' w3)
          have HON := hid hon
          have HE := hid he
          clear hRL3 hm3 hon he c1 c2 hmap hit
          by_cases hf : ev < now - s.window
          · have d7 : decide (ev < now - s.window) = true := by simpa using hf
            have hok : fresh now s.window (ek, ev, eb) = false := by simp only [fresh, decide_eq_false_iff_not]; omega
            have HD := hid (HSW.out.drop HE.out hok)
            clear hf hok
            obtain ⟨ob, hob⟩ : ∃ o, o = mapObj .string (.int .i64) (L.filter fun e => decide (e.1 ≠ ek)) s.clk := ⟨_, rfl⟩
            have hdel := run_drop (P := Try.prog) (ty := 0) (kt' := 9) kStr Try.underlying65 hb3 ek HSW.out.keys
            rw [← hob] at hdel
            have HOB := hid hob
            clear hob
            go_wp2_with fail
            go_roundg (left.filter fun y => y.2.2 != eb).length
            case measure => exact hlt
            case rel =>
              have hmb : Mod [b] w3 (setBlock w3 b ob) := (Mod.refl _ _).setBlock (by simp) _
              exact ⟨_, _, rfl, HD.out.1, ((HON.out.mod hmb (by simpa using hne.symm)).at).dropped HD.out.2, ⟨hmb.get HR3.out.cells (by simpa using HR.out.ne), (get_setBlock_self hb3 ob).trans (by rw [HOB.out])⟩, HM3.out.trans hmb, hr⟩
          · have d7 : decide (ev < now - s.window) = false := by simpa using hf
            have hok : fresh now s.window (ek, ev, eb) = true := by simp only [fresh, decide_eq_true_eq]; omega
            have HD := hid (HSW.out.keep HE.out hok)
            clear hf hok
            go_wp2_with fail
            go_roundg (left.filter fun y => y.2.2 != eb).length
            case measure => exact hlt
            case rel => exact ⟨L, _, rfl, HD.out, HON.out.at, HR3.out, HM3.out, hr⟩
end Go.Proofs.Yteifjbfojjjacaa
