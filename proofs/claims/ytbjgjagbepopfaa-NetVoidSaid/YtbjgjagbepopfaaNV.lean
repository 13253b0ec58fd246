/-
  NetVoid, walked. No statement of a claim stands here; each contract names what it asks.
-/
import Derived.Test.YtbjgjagbepopfaaND
import Derived.Test.YtbjgjagbepopfaaNE
set_option linter.unusedSimpArgs false
namespace Go.Proofs.Ytbjgjagbepopfaa
open Go Go.RowKit Go.ChangeMaps

abbrev zeroNet : Obj := .cells #[.int .i64 0, .int .i64 0, .int .i64 0, .int .i64 0, .int .i64 0, .int .i64 0, .map none, .map none, .map none] 68 (0, 0)

structure VoidAt (w0 : World) (m : Msg) (g z : Nat) (W : World) : Prop where
  mod : Mod [] w0 W
  msg : W.heap[g]? = some (msgObj m)
  net : W.heap[z]? = some zeroNet
theorem VoidAt.step {w0 : World} {m : Msg} {g z : Nat} {W W' : World} (h : VoidAt w0 m g z W) (hm : Mod [] W W') : VoidAt w0 m g z W' := ⟨h.mod.trans hm, hm.get h.msg (by simp), hm.get h.net (by simp)⟩
theorem VoidAt.al {w0 : World} {m : Msg} {g z : Nat} {W : World} (h : VoidAt w0 m g z W) (o : Obj) : VoidAt w0 m g z (W.alloc o) := h.step ((Mod.refl _ _).alloc o)
theorem VoidAt.facts {w0 : World} {m : Msg} {g z : Nat} {W : World} (h : VoidAt w0 m g z W) : W.cell? ⟨g, 0, none⟩ = some (.int .i64 m.frm) ∧ W.cell? ⟨g, 1, none⟩ = some (.int .i64 m.to) ∧ W.cell? ⟨g, 2, none⟩ = some (.int .i64 m.kind) ∧ W.cell? ⟨g, 3, none⟩ = some (.string m.body) :=
  ⟨cell_at h.msg 0, cell_at h.msg 1, cell_at h.msg 2, cell_at h.msg 3⟩
theorem VoidAt.z6 {w0 : World} {m : Msg} {g z : Nat} {W : World} (h : VoidAt w0 m g z W) : W.cell? ⟨z, 6, none⟩ = some (.map none) := cell_at h.net 6

set_option maxRecDepth 20000 in
set_option maxHeartbeats 4000000 in
theorem void_any (w : World) (m : Msg) (k : Int) : Calls Try.prog 8 #[m.v, .int .i64 k] w fun e w' => e = .returned (.bool true) ∧ Mod [] w w' := by
  unfold Msg.v
  have hg := get_new w (msgObj m)
  have hm := (Mod.refl [] w).alloc (msgObj m)
  have HG := hid (And.intro hg hm)
  clear hg hm
  go_enter Try.func8, Try.ntmps8
  go_upto_region 5 with (first
    | (go_at_call 9; refine (works_any _).mono ?_; rintro e w1 ⟨rfl, hm1⟩; have H1 := hid hm1; clear hm1))
  have hv : VoidAt w m w.heap.size w1.heap.size (w1.alloc zeroNet) := ⟨(HG.out.2.trans H1.out).alloc _, get_alloc (H1.out.get HG.out.1 (by simp)) _, get_new _ _⟩
  clear HG H1
  generalize w1.alloc zeroNet = w2 at *
  generalize w1.heap.size = z at *
  generalize hgg : w.heap.size = g at *
  clear hgg
  obtain ⟨a0, a1, a2, a3⟩ := hv.facts
  have HV := hid hv
  clear hv
  go_upto_region 6 with (first
    | (go_at_call 13; refine (send_nil _ m).mono ?_; rintro e w3 ⟨rfl, hm3⟩; have HV3 := hid (HV.out.step hm3); clear hm3 HV))
  clear a0 a1 a2 a3
  obtain ⟨a0, a1, a2, a3⟩ := HV3.out.facts
  go_upto_region 7 with (first
    | (go_at_call 13; refine (send_zero _ z m HV3.out.z6).mono ?_; rintro e w4 ⟨rfl, hm4⟩; have HV4 := hid (HV3.out.step hm4); clear hm4 HV3))
  clear a0 a1 a2 a3
  go_upto_region 8 with (first
    | (go_at_call 15; refine (take_nil _ k).mono ?_; rintro e w5 ⟨rfl, hm5⟩; have HV5 := hid (HV4.out.step hm5); clear hm5 HV4))
  have hv6 := HV5.out.al (.cells #[.int .i64 0, .int .i64 0, .int .i64 0, .string ⟨#[]⟩] 29 (0, 0))
  generalize (w5.alloc (.cells #[.int .i64 0, .int .i64 0, .int .i64 0, .string ⟨#[]⟩] 29 (0, 0))) = w6 at *
  have HV6 := hid hv6
  clear hv6 HV5
  go_upto_region 9 with (first
    | (go_at_call 17; refine (copy_zero _ z k HV6.out.z6).mono ?_; rintro e w7 ⟨rfl, hm7⟩; have HV7 := hid (HV6.out.step hm7); clear hm7 HV6))
  go_upto_region 10 with (first
    | (go_at_call 14; refine (oldest_nil _ k).mono ?_; rintro e w8 ⟨rfl, hm8⟩; have HV8 := hid (HV7.out.step hm8); clear hm8 HV7))
  go_upto_region 11 with (first
    | (go_at_call 25; refine (lookm_nil _ k).mono ?_; rintro e w9 ⟨rfl, hm9⟩; have HV9 := hid (HV8.out.step hm9); clear hm9 HV8))
  have hv10 := HV9.out.al (.cells #[.int .i64 0, .int .i64 0, .int .i64 0, .string ⟨#[]⟩] 29 (0, 0))
  generalize (w9.alloc (.cells #[.int .i64 0, .int .i64 0, .int .i64 0, .string ⟨#[]⟩] 29 (0, 0))) = w10 at *
  have HV10 := hid hv10
  clear hv10 HV9
  go_upto_region 12 with (first
    | (go_at_call 20; refine (count_zero _ z HV10.out.z6).mono ?_; rintro e w11 ⟨rfl, hm11⟩; have HV11 := hid (HV10.out.step hm11); clear hm11 HV10))
  go_wp2_with fail
  refine (cut_nil _ k k true).mono ?_
  rintro e w12 ⟨rfl, hm12⟩
  have HV12 := hid (HV11.out.step hm12)
  clear hm12 HV11
  go_wp2_with fail
  refine (down_zero _ z k true HV12.out.z6).mono ?_
  rintro e w13 ⟨rfl, hm13⟩
  have HV13 := hid (HV12.out.step hm13)
  clear hm13 HV12
  go_wp2_with fail
  refine (waiting_nil _ k).mono ?_
  rintro e w14 ⟨rfl, hm14⟩
  have HV14 := hid (HV13.out.step hm14)
  clear hm14 HV13
  go_wp2_with fail
  refine (waiting_zero _ z k HV14.out.z6).mono ?_
  rintro e w15 ⟨rfl, hm15⟩
  have HV15 := hid (HV14.out.step hm15)
  clear hm15 HV14
  go_wp2_with fail
  go_ret
  exact ⟨rfl, HV15.out.mod⟩
end Go.Proofs.Ytbjgjagbepopfaa
