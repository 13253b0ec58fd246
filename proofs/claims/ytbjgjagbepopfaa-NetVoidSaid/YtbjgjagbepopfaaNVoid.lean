/-
  NetVoid: the given statement, out of its walk. No other statement stands here.
-/
import Derived.Test.YtbjgjagbepopfaaRows
import Derived.Test.YtbjgjagbepopfaaFrame
import Derived.Test.YtbjgjagbepopfaaNV
import Derived.Lib.SmallJoins
import Derived.ChangeMaps5
set_option linter.unusedSimpArgs false
namespace Go.Proofs.Ytbjgjagbepopfaa
open Go Go.RowKit Go.ChangeShapes Go.WideShapes Go.ChangeAt Go.ChangeMaps

set_option maxRecDepth 100000 in
/-- A message as an argument. -/
theorem open_msg {H : Type} {enc : TypeId × Value → H} {W : World} {base : Nat} {v : Value} {d : DataW H} {p : List MemPlace} (hv : Value.okWide Try.prog W .any base 29 v) (h : DataW.Trod enc Try.prog W 0 (fun _ => true) true 29 v d p) :
    ∃ m : Msg, v = m.v ∧ m.body.size ≤ maxLen := by
  obtain ⟨v0, v1, v2, v3, y0, y1, y2, y3, n, rfl, -, -, h0, h1, h2, h3⟩ := Go.Joins.open_agg4 (P := Try.prog) Try.underlying29 (by kernel_rfl) (by kernel_rfl) hv h
  obtain ⟨a, e0, -, -⟩ := DataW.trod_int (P := Try.prog) Try.underlying3 h0
  obtain ⟨b, e1, -, -⟩ := DataW.trod_int (P := Try.prog) Try.underlying3 h1
  obtain ⟨c, e2, -, -⟩ := DataW.trod_int (P := Try.prog) Try.underlying3 h2
  obtain ⟨s, e3, -, hs⟩ := DataW.trod_string (P := Try.prog) Try.underlying9 h3
  cases e0; cases e1; cases e2; cases e3
  exact ⟨⟨a, b, c, s⟩, rfl, hs⟩

theorem own : ownKnob Try.prog.godebug = none := by kernel_rfl
theorem laidOut : laidOutB Try.prog = true := by kernel_rfl

set_option maxRecDepth 100000 in
theorem netVoid_lifted (os : Os) (started : os.Started) (H : Type) (enc : TypeId × Value → H) :
    ReturnsInHanded {} Try.checked os 8 .any (Rows.netVoidSpec.pre6 enc Try.prog Try.f8 Rows.netVoidRow.domain false) (Rows.netVoidSpec.post enc Try.prog Try.f8 false true false false) := by
  refine returnsInHanded_of_change (C := Try.checked) own started (by kernel_rfl) Try.func8
    (ChangeSpec.witness6 (enc := enc) (C := Try.checked) false ⟨#[], #[.agg #[.int .i64 0, .int .i64 0, .int .i64 0, .string ⟨#[]⟩], .int .i64 0], []⟩ 8 (by kernel_rfl) (by kernel_rfl) (by kernel_rfl) (by kernel_rfl)) ?_
  intro W base args ds gs before hval hW _ _
  have hW' := hW
  obtain ⟨p, q, hA0, hV, rfl, hfz, hnd⟩ := hW
  obtain ⟨rfl, rfl⟩ := trodVars_none hV
  have hA : DataW.TrodAll enc Try.prog W 0 (fun _ => true) true Try.f8.params.toList args.toList ds p := hA0
  rw [Try.params8] at hA hval
  obtain ⟨v0, vs0, d0, ds0, p0, q0, hargs, rfl, rfl, h0, r0⟩ := trodAll_cons hA
  obtain ⟨v1, vs1, d1, ds1, p1, q1, rfl, rfl, rfl, h1, r1⟩ := trodAll_cons r0
  obtain ⟨rfl, rfl, rfl⟩ := trodAll_nil r1
  obtain rfl : args = #[v0, v1] := by cases args; simp_all
  obtain ⟨m, rfl, -⟩ := open_msg (hval 0 29 v0 rfl rfl) h0
  obtain ⟨k, rfl, -⟩ := open_int Try.underlying3 (hval 1 3 v1 rfl rfl) h1
  refine (void_any W m k).mono fun e W' ⟨he, hM⟩ => ?_
  subst he
  refine ⟨_, rfl, post_true (tb := 4) rfl laidOut ?_ rfl Try.underlying4 rfl hW' hM⟩
  rw [Try.params8]
  intro t ht
  simp only [List.mem_cons, List.not_mem_nil, or_false] at ht
  rcases ht with rfl | rfl
  · exact ⟨by kernel_rfl, of_decide_eq_true (by kernel_rfl)⟩
  · exact ⟨by kernel_rfl, of_decide_eq_true (by kernel_rfl)⟩

theorem netVoid_holds : Rows.NetVoidSaid :=
  OpenClaim.holds_of_wide 8 Try.f8 rfl rfl rfl rfl rfl rfl rfl ⟨rfl, rfl, rfl, rfl, rfl⟩ rfl rfl rfl rfl rfl (by kernel_rfl) Try.func8 (by kernel_rfl)
    (of_decide_eq_true (by kernel_rfl)) (by unfold Func.isWrapper; first | (rw [if_pos (by decide +kernel)]; kernel_rfl) | (rw [if_neg (by decide +kernel)]; exact ⟨rfl, rfl⟩))
    (fun os started H enc _ => netVoid_lifted os started H enc)
end Go.Proofs.Ytbjgjagbepopfaa
