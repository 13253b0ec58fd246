/-
  The reference's net, walked: Copy, Look. No statement of a claim stands here; each contract names what it asks.
-/
import Derived.Test.YtbjgjagbepopfaaM3
set_option linter.unusedSimpArgs false
namespace Go.Proofs.Ytbjgjagbepopfaa
open Go Go.RowKit Go.ChangeMaps

/-- The message of a number, and the answer. -/
def lookR (s : NetS) (k : Int) : Msg × Int := match s.free k with | none => (Msg.zero, 300) | some m => (m, 0)

section
variable {B : Nat} {w : World} {y n : Nat} {s : NetS}
set_option maxRecDepth 20000 in
set_option maxHeartbeats 4000000 in
theorem rcopy_any (h : RefAt B w y n s) (hn : n ≤ 5000) (ho : s.Ok) (hb : s.sent ≤ 1000000) (hB : B ≤ w.heap.size) (k : Int) :
    Calls Try.prog 28 #[.pointer (some ⟨y, 0, none⟩), .int .i64 k] w (RefPost B w y n (.tuple #[.int .i64 (s.copy k).2.1, .int .i64 (s.copy k).2.2]) (s.copy k).1) := by
  obtain ⟨vl, vc, cl, dn, h, hcl⟩ := h
  have hlen : s.way.length ≤ 5000 := by have := ho.fits; have := ho.room; omega
  have hat := rat_any h (by omega) hlen ho.nodup k
  have H := hid h
  have HO := hid ho
  have HA := hid hat
  clear h ho hat
  go_enter Try.func28, Try.ntmps28
  go_upto_region 2 with (first
    | (go_at_call 42; refine HA.out.mono ?_; rintro e w1 ⟨v, rfl, hv, hm1⟩; have H1 := hid (And.intro hv hm1); clear hv hm1))
  have h1 := H.out.mod0 H1.out.2
  rcases H1.out.1 with ⟨rfl, hf⟩ | ⟨i, m, st, rfl, hi, hf⟩
  · have hs : s.copy k = (s, 0, 300) := by unfold NetS.copy; rw [hf]
    have HS := hid hs
    have HH := hid h1
    clear hs hf h1
    go_wp2_with fail
    go_ret2
    exact ⟨by rw [HS.out]; rfl, by rw [HS.out]; exact ⟨_, vc, cl, dn, HH.out, hcl⟩, .of0 H1.out.2⟩
  · have hs : s.copy k = s.put m := by unfold NetS.copy; rw [hf]
    have HS := hid hs
    have hil := (List.getElem?_eq_some_iff.1 hi).1
    have c6 := h1.all.2.2.2.2.2.2.1
    obtain ⟨g, c', rfl, hcells⟩ := h1.items.at (fun _ => rfl) hi
    have y1 : w1.cell? ⟨g, i * 5 + 1, none⟩ = some (.int .i64 m.frm) := hcells 1 _ rfl
    have y2 : w1.cell? ⟨g, i * 5 + 1 + 1, none⟩ = some (.int .i64 m.to) := hcells 2 _ rfl
    have y3 : w1.cell? ⟨g, i * 5 + 1 + 2, none⟩ = some (.int .i64 m.kind) := hcells 3 _ rfl
    have y4 : w1.cell? ⟨g, i * 5 + 1 + 3, none⟩ = some (.string m.body) := hcells 4 _ rfl
    have i0 : (0 : Int) ≤ (i : Int) := Int.natCast_nonneg _
    have i1 : (i : Int) < (s.way.length : Int) := by omega
    have hput := rput_any (w := w1) (n := n) ⟨_, vc, cl, dn, h1, hcl⟩ HO.out hb (by have := H1.out.2.size; omega) m
    have HPU := hid hput
    clear hs hf hcells hi hput h1
    go_wp2_with (first
      | (go_at_call 41; refine HPU.out.mono ?_; rintro e w4 ⟨rfl, h4, hm4⟩; have H4 := hid (And.intro h4 hm4); clear h4 hm4))
    go_ret2
    exact ⟨by rw [HS.out]; rfl, by rw [HS.out]; exact H4.out.1, (RMod.of0 H1.out.2).trans H4.out.2⟩

abbrev rzeroObj : Obj := .cells #[.int .i64 0, .int .i64 0, .int .i64 0, .string ⟨#[]⟩] 53 (0, 0)

set_option maxRecDepth 20000 in
set_option maxHeartbeats 4000000 in
theorem rlook_any (h : RefAt B w y n s) (hn : n ≤ 5000) (ho : s.Ok) (k : Int) :
    Calls Try.prog 26 #[.pointer (some ⟨y, 0, none⟩), .int .i64 k] w fun e w' => e = .returned (.tuple #[(lookR s k).1.v, .int .i64 (lookR s k).2]) ∧ Mod [] w w' := by
  obtain ⟨vl, vc, cl, dn, h, hcl⟩ := h
  have hlen : s.way.length ≤ 5000 := by have := ho.fits; have := ho.room; omega
  have hm0 : Mod [] w (w.alloc rzeroObj) := Mod.alloc (Mod.refl _ _) _
  have hz0 := get_new w rzeroObj
  have h0 := h.mod0 hm0
  have hat := rat_any h0 (by omega) hlen ho.nodup k
  have HA := hid hat
  have H0 := hid (And.intro h0 (And.intro hm0 hz0))
  clear h ho hat h0 hm0 hz0
  go_enter Try.func26, Try.ntmps26
  go_upto_region 2 with (first
    | (go_at_call 42; refine HA.out.mono ?_; rintro e w1 ⟨v, rfl, hv, hm1⟩; have H1 := hid (And.intro hv hm1); clear hv hm1))
  have h1 := H0.out.1.mod0 H1.out.2
  have hm1 : Mod [] w w1 := H0.out.2.1.trans H1.out.2
  have hz1 := H1.out.2.get H0.out.2.2 (by simp)
  have z0 := cell_at hz1 0
  have z1 := cell_at hz1 1
  have z2 := cell_at hz1 2
  have z3 := cell_at hz1 3
  have f0 := free_at hz1 0
  have f1 := free_at hz1 1
  have f2 := free_at hz1 2
  have f3 := free_at hz1 3
  have HW := hid (And.intro hm1 hz1)
  clear hm1 hz1
  rcases H1.out.1 with ⟨rfl, hf⟩ | ⟨i, m, st, rfl, hi, hf⟩
  · have hs : lookR s k = (Msg.zero, 300) := by unfold lookR; rw [hf]
    have HS := hid hs
    clear hs hf h1
    go_wp2_with fail
    have hq := set4 HW.out.2 (.int .i64 0) (.int .i64 0) (.int .i64 0) (.string ⟨#[]⟩)
    have hm := mod4 HW.out.1 (.inr (Nat.le_refl _)) (.int .i64 0) (.int .i64 0) (.int .i64 0) (.string ⟨#[]⟩)
    generalize ((((w1.setCell ⟨w.heap.size, 0, none⟩ (.int .i64 0)).setCell ⟨w.heap.size, 1, none⟩ (.int .i64 0)).setCell ⟨w.heap.size, 2, none⟩ (.int .i64 0)).setCell ⟨w.heap.size, 3, none⟩ (.string ⟨#[]⟩)) = W6 at *
    have q0 := cell_at hq 0
    have q1 := cell_at hq 1
    have q2 := cell_at hq 2
    have q3 := cell_at hq 3
    refine bodyPost_ret (v := .tuple #[.agg #[.int .i64 0, .int .i64 0, .int .i64 0, .string ⟨#[]⟩], .int .i64 300]) (by simp [results, Try.results26, go_sem, q0, q1, q2, q3]) rfl ⟨by rw [HS.out]; rfl, hm⟩
  · have hs : lookR s k = (m, 0) := by unfold lookR; rw [hf]
    have HS := hid hs
    have hil := (List.getElem?_eq_some_iff.1 hi).1
    have c6 := h1.all.2.2.2.2.2.2.1
    obtain ⟨g, c', rfl, hcells⟩ := h1.items.at (fun _ => rfl) hi
    have y1 : w1.cell? ⟨g, i * 5 + 1, none⟩ = some (.int .i64 m.frm) := hcells 1 _ rfl
    have y2 : w1.cell? ⟨g, i * 5 + 1 + 1, none⟩ = some (.int .i64 m.to) := hcells 2 _ rfl
    have y3 : w1.cell? ⟨g, i * 5 + 1 + 2, none⟩ = some (.int .i64 m.kind) := hcells 3 _ rfl
    have y4 : w1.cell? ⟨g, i * 5 + 1 + 3, none⟩ = some (.string m.body) := hcells 4 _ rfl
    have i0 : (0 : Int) ≤ (i : Int) := Int.natCast_nonneg _
    have i1 : (i : Int) < (s.way.length : Int) := by omega
    clear hs hf hcells hi h1
    go_wp2_with fail
    have hq := set4 HW.out.2 (.int .i64 m.frm) (.int .i64 m.to) (.int .i64 m.kind) (.string m.body)
    have hm := mod4 HW.out.1 (.inr (Nat.le_refl _)) (.int .i64 m.frm) (.int .i64 m.to) (.int .i64 m.kind) (.string m.body)
    generalize ((((w1.setCell ⟨w.heap.size, 0, none⟩ (.int .i64 m.frm)).setCell ⟨w.heap.size, 1, none⟩ (.int .i64 m.to)).setCell ⟨w.heap.size, 2, none⟩ (.int .i64 m.kind)).setCell ⟨w.heap.size, 3, none⟩ (.string m.body)) = W6 at *
    have q0 := cell_at hq 0
    have q1 := cell_at hq 1
    have q2 := cell_at hq 2
    have q3 := cell_at hq 3
    refine bodyPost_ret (v := .tuple #[.agg #[.int .i64 m.frm, .int .i64 m.to, .int .i64 m.kind, .string m.body], .int .i64 0]) (by simp [results, Try.results26, go_sem, q0, q1, q2, q3]) rfl ⟨by rw [HS.out]; rfl, hm⟩
end
end Go.Proofs.Ytbjgjagbepopfaa
