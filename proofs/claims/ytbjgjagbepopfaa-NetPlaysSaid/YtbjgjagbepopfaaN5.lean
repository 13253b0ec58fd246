/-
  A net, walked: free. No statement of a claim stands here; each contract names what it asks.
-/
import Derived.Test.YtbjgjagbepopfaaN4
set_option linter.unusedSimpArgs false
namespace Go.Proofs.Ytbjgjagbepopfaa
open Go Go.RowKit Go.ChangeMaps


theorem set4 {W : World} {b : Nat} {x0 x1 x2 x3 : Value} {T : TypeId} (hb : W.heap[b]? = some (.cells #[x0, x1, x2, x3] T (0, 0))) (u0 u1 u2 u3 : Value) :
    ((((W.setCell ⟨b, 0, none⟩ u0).setCell ⟨b, 1, none⟩ u1).setCell ⟨b, 2, none⟩ u2).setCell ⟨b, 3, none⟩ u3).heap[b]? = some (.cells #[u0, u1, u2, u3] T (0, 0)) :=
  get_setCell_self (get_setCell_self (get_setCell_self (get_setCell_self hb 0 u0) 1 u1) 2 u2) 3 u3
theorem mod4 {S : List Nat} {w W : World} {b : Nat} (h : Mod S w W) (hb : b ∈ S ∨ w.heap.size ≤ b) (u0 u1 u2 u3 : Value) : Mod S w ((((W.setCell ⟨b, 0, none⟩ u0).setCell ⟨b, 1, none⟩ u1).setCell ⟨b, 2, none⟩ u2).setCell ⟨b, 3, none⟩ u3) :=
  (((h.setCell hb _).setCell hb _).setCell hb _).setCell hb _

/-- What the loads of 'free' read. -/
def FreeSat (p : Loc) (g : Nat) (m : Msg) (w' : World) : Prop :=
  w'.cell? ⟨p.x, 7, none⟩ = some (.map (some p.bc)) ∧ w'.cell? ⟨g, 0, none⟩ = some (.int .i64 m.frm) ∧ w'.cell? ⟨g, 1, none⟩ = some (.int .i64 m.to) ∧ w'.cell? ⟨g, 2, none⟩ = some (.int .i64 m.kind) ∧ w'.cell? ⟨g, 3, none⟩ = some (.string m.body)

def freeV (o : Option Msg) : Value := .tuple #[(o.getD Msg.zero).v, .bool o.isSome]

set_option maxRecDepth 20000 in
set_option maxHeartbeats 2000000 in
theorem free_any (w : World) (p : Loc) (s : NetS) (k : Int) (h : NetAt w p s) :
    Calls Try.prog 36 #[.pointer (some ⟨p.x, 0, none⟩), .int .i64 k] w fun e w' => e = .returned (freeV (s.free k)) ∧ Mod [] w w' := by
  have hl := way_look (w.alloc (.cells #[.int .i64 0, .int .i64 0, .int .i64 0, .string ⟨#[]⟩] 29)) p.bw s.cw s.way k (get_alloc h.way _)
  have hn1 := h.mod0 (Mod.alloc (Mod.refl _ _) (.cells #[.int .i64 0, .int .i64 0, .int .i64 0, .string ⟨#[]⟩] 29))
  obtain ⟨-, -, -, -, -, -, c6, -, -, -⟩ := hn1.all
  have H := hid h
  clear hn1
  clear h
  cases hk : look s.way k with
  | none =>
    have e1 : s.free k = none := by unfold NetS.free; rw [hk]; rfl
    rw [hk] at hl
    have HE := hid e1
    clear e1 hk
    simp only [wayV, Msg.v, Msg.zero, Option.getD_none, Option.isSome_none] at hl
    go_enter Try.func36, Try.ntmps36
    go_wp2_with fail
    refine bodyPost_ret (v := .tuple #[.agg #[.int .i64 0, .int .i64 0, .int .i64 0, .string ⟨#[]⟩], .bool false]) (by simp [results, Try.results36, go_sem]) rfl ⟨by rw [HE.out]; rfl, ((Mod.refl _ _).alloc _).alloc _⟩
  | some m =>
    rw [hk] at hl
    simp only [wayV, Msg.v, Option.getD_some, Option.isSome_some] at hl
    go_enter Try.func36, Try.ntmps36
    have hn2 := H.out.mod0 (((Mod.refl [] w).alloc (.cells #[.int .i64 0, .int .i64 0, .int .i64 0, .string ⟨#[]⟩] 29)).alloc (.cells #[.int .i64 m.frm, .int .i64 m.to, .int .i64 m.kind, .string m.body] 29))
    have hm2 := (((Mod.refl [] w).alloc (.cells #[.int .i64 0, .int .i64 0, .int .i64 0, .string ⟨#[]⟩] 29)).alloc (.cells #[.int .i64 m.frm, .int .i64 m.to, .int .i64 m.kind, .string m.body] 29))
    have hg2 := get_new (w.alloc (.cells #[.int .i64 0, .int .i64 0, .int .i64 0, .string ⟨#[]⟩] 29)) (.cells #[.int .i64 m.frm, .int .i64 m.to, .int .i64 m.kind, .string m.body] 29)
    have hz2 := get_alloc (get_new w (.cells #[.int .i64 0, .int .i64 0, .int .i64 0, .string ⟨#[]⟩] 29)) (.cells #[.int .i64 m.frm, .int .i64 m.to, .int .i64 m.kind, .string m.body] 29)
    rw [show (w.alloc (.cells #[.int .i64 0, .int .i64 0, .int .i64 0, .string ⟨#[]⟩] 29)).heap.size = w.heap.size + 1 from by simp] at hg2
    have HW := hid (And.intro hn2 (And.intro hm2 (And.intro hg2 hz2)))
    have HK := hid hk
    clear hn2 hm2 hg2 hz2 hk
    go_wp2_with fail
    generalize ((w.alloc (.cells #[.int .i64 0, .int .i64 0, .int .i64 0, .string ⟨#[]⟩] 29)).alloc (.cells #[.int .i64 m.frm, .int .i64 m.to, .int .i64 m.kind, .string m.body] 29)) = W2 at *
    clear hl c6
    obtain ⟨hn2, hm2, hg2, hz2⟩ := HW.out
    refine wp_region_N (fun w' => FreeSat p (w.heap.size + 1) m w' ∧ w'.heap[p.bc]? = some (cutsObj s.cuts s.cc)) (fun _ => true) (by kernel_rfl) ?_
    have hS : FreeSat p (w.heap.size + 1) m W2.drew ∧ W2.drew.heap[p.bc]? = some (cutsObj s.cuts s.cc) := ⟨⟨hn2.all.2.2.2.2.2.2.2.1, cell_at hg2 0, cell_at hg2 1, cell_at hg2 2, cell_at hg2 3⟩, hn2.cuts⟩
    refine regA 0 21 (v := ?_) rfl rfl (by kernel_rfl) (by kernel_rfl) (by kernel_rfl) (fun _ _ _ h => h) (by rfl) (fun w => ?_) ?_; rotate_left; (go_simp; first | done | with_reducible rfl); (try simp only [Act.put, List.setIfInBounds_toArray, List.set_cons_zero, List.set_cons_succ])
    refine regA 1 22 (v := ?_) rfl rfl (by kernel_rfl) (by kernel_rfl) (by kernel_rfl) (fun _ _ _ h => h) (by rfl) (fun w => ?_) ?_; rotate_left; (go_simp; first | done | with_reducible rfl); (try simp only [Act.put, List.setIfInBounds_toArray, List.set_cons_zero, List.set_cons_succ])
    refine regA 2 23 (v := ?_) rfl rfl (by kernel_rfl) (by kernel_rfl) (by kernel_rfl) (fun _ _ _ h => h) (by rfl) (fun w => ?_) ?_; rotate_left; (go_simp; first | done | with_reducible rfl); (try simp only [Act.put, List.setIfInBounds_toArray, List.set_cons_zero, List.set_cons_succ])
    refine regS 3 24 (v := ?_) hS rfl rfl (by kernel_rfl) (by kernel_rfl) (by kernel_rfl) (by kernel_rfl) (fun _ _ _ h => h) (by rfl) (fun w hSw => ?_) ?_; rotate_left; (simp only [FreeSat] at hSw; go_simp; first | done | with_reducible rfl); (try simp only [Act.put, List.setIfInBounds_toArray, List.set_cons_zero, List.set_cons_succ])
    refine regA 4 25 (v := ?_) rfl rfl (by kernel_rfl) (by kernel_rfl) (by kernel_rfl) (fun _ _ _ h => h) (by rfl) (fun w => ?_) ?_; rotate_left; (go_simp; first | done | with_reducible rfl); (try simp only [Act.put, List.setIfInBounds_toArray, List.set_cons_zero, List.set_cons_succ])
    refine regS 5 26 (v := ?_) hS rfl rfl (by kernel_rfl) (by kernel_rfl) (by kernel_rfl) (by kernel_rfl) (fun _ _ _ h => h) (by rfl) (fun w hSw => ?_) ?_; rotate_left; (simp only [FreeSat] at hSw; go_simp; first | done | with_reducible rfl); (try simp only [Act.put, List.setIfInBounds_toArray, List.set_cons_zero, List.set_cons_succ])
    refine regA 6 27 (v := ?_) rfl rfl (by kernel_rfl) (by kernel_rfl) (by kernel_rfl) (fun _ _ _ h => h) (by rfl) (fun w => ?_) ?_; rotate_left; (go_simp; first | done | with_reducible rfl); (try simp only [Act.put, List.setIfInBounds_toArray, List.set_cons_zero, List.set_cons_succ])
    refine regS 7 28 (v := ?_) hS rfl rfl (by kernel_rfl) (by kernel_rfl) (by kernel_rfl) (by kernel_rfl) (fun _ _ _ h => h) (by rfl) (fun w hSw => ?_) ?_; rotate_left; (simp only [FreeSat] at hSw; go_simp; first | done | with_reducible rfl); (try simp only [Act.put, List.setIfInBounds_toArray, List.set_cons_zero, List.set_cons_succ])
    refine regA 8 29 (v := seatV (m.frm, m.to)) rfl rfl (by kernel_rfl) (by kernel_rfl) (by kernel_rfl) (fun _ _ _ h => h) (by rfl) (fun w => ?_) ?_
    · unfold seatV
      go_simp
    (try simp only [Act.put, List.setIfInBounds_toArray, List.set_cons_zero, List.set_cons_succ])
    refine regS 9 30 (v := .bool (s.cut (m.frm, m.to))) hS rfl rfl (by kernel_rfl) (by kernel_rfl) (by kernel_rfl) (by kernel_rfl) (fun _ _ _ h => h) (by rfl) (fun w hSw => look_op _ _ _ _ rfl _ (cut_look _ _ _ _ (m.frm, m.to) hSw.2)) ?_
    (try simp only [Act.put, List.setIfInBounds_toArray, List.set_cons_zero, List.set_cons_succ])
    refine regA 10 20 (v := ?_) rfl rfl (by kernel_rfl) (by kernel_rfl) (by kernel_rfl) (fun _ _ _ h => h) (by rfl) (fun w => ?_) ?_; rotate_left; (go_simp; first | done | with_reducible rfl); (try simp only [Act.put, List.setIfInBounds_toArray, List.set_cons_zero, List.set_cons_succ])
    refine regDone (by kernel_rfl) ?_ _
    clear hS
    have hg3 : W2.drew.heap[w.heap.size + 1]? = some (.cells #[.int .i64 m.frm, .int .i64 m.to, .int .i64 m.kind, .string m.body] 29 (0, 0)) := hg2
    have hz3 : W2.drew.heap[w.heap.size]? = some (.cells #[.int .i64 0, .int .i64 0, .int .i64 0, .string ⟨#[]⟩] 29 (0, 0)) := hz2
    have hm3 := hm2.drew
    clear hn2 hm2 hg2 hz2 HW
    generalize W2.drew = W3 at *
    clear W2
    have g0 := cell_at hg3 0
    have g1 := cell_at hg3 1
    have g2 := cell_at hg3 2
    have g3 := cell_at hg3 3
    have z0 := cell_at hz3 0
    have z1 := cell_at hz3 1
    have z2 := cell_at hz3 2
    have z3 := cell_at hz3 3
    have f0 := free_at hz3 0
    have f1 := free_at hz3 1
    have f2 := free_at hz3 2
    have f3 := free_at hz3 3
    have HW := hid (And.intro hm3 (And.intro hg3 hz3))
    clear hm3 hg3 hz3
    cases hc : s.cut (m.frm, m.to) with
    | true =>
      have e1 : s.free k = none := by unfold NetS.free; rw [HK.out]; simp [hc]
      have HE := hid e1
      clear e1 hc
      go_wp2_with fail
      have hq := set4 HW.out.2.2 (.int .i64 0) (.int .i64 0) (.int .i64 0) (.string ⟨#[]⟩)
      have hm := mod4 HW.out.1 (.inr (Nat.le_refl _)) (.int .i64 0) (.int .i64 0) (.int .i64 0) (.string ⟨#[]⟩)
      generalize ((((W3.setCell ⟨w.heap.size, 0, none⟩ (.int .i64 0)).setCell ⟨w.heap.size, 1, none⟩ (.int .i64 0)).setCell ⟨w.heap.size, 2, none⟩ (.int .i64 0)).setCell ⟨w.heap.size, 3, none⟩ (.string ⟨#[]⟩)) = W4 at *
      have q0 := cell_at hq 0
      have q1 := cell_at hq 1
      have q2 := cell_at hq 2
      have q3 := cell_at hq 3
      refine bodyPost_ret (v := .tuple #[.agg #[.int .i64 0, .int .i64 0, .int .i64 0, .string ⟨#[]⟩], .bool false]) (by simp [results, Try.results36, go_sem, q0, q1, q2, q3]) rfl ⟨by rw [HE.out]; rfl, hm⟩
    | false =>
      have e1 : s.free k = some m := by unfold NetS.free; rw [HK.out]; simp [hc]
      have HE := hid e1
      clear e1 hc
      go_wp2_with fail
      have hq := set4 HW.out.2.2 (.int .i64 m.frm) (.int .i64 m.to) (.int .i64 m.kind) (.string m.body)
      have hm := mod4 HW.out.1 (.inr (Nat.le_refl _)) (.int .i64 m.frm) (.int .i64 m.to) (.int .i64 m.kind) (.string m.body)
      generalize ((((W3.setCell ⟨w.heap.size, 0, none⟩ (.int .i64 m.frm)).setCell ⟨w.heap.size, 1, none⟩ (.int .i64 m.to)).setCell ⟨w.heap.size, 2, none⟩ (.int .i64 m.kind)).setCell ⟨w.heap.size, 3, none⟩ (.string m.body)) = W4 at *
      have q0 := cell_at hq 0
      have q1 := cell_at hq 1
      have q2 := cell_at hq 2
      have q3 := cell_at hq 3
      refine bodyPost_ret (v := .tuple #[.agg #[.int .i64 m.frm, .int .i64 m.to, .int .i64 m.kind, .string m.body], .bool true]) (by simp [results, Try.results36, go_sem, q0, q1, q2, q3]) rfl ⟨by rw [HE.out]; rfl, hm⟩

end Go.Proofs.Ytbjgjagbepopfaa
