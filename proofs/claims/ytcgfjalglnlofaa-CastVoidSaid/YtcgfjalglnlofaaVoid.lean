/-
  CastVoid: the given statement, out of its walk. No other statement stands here.
-/
import Derived.Test.YtcgfjalglnlofaaRows
import Derived.Test.YtcgfjalglnlofaaFrame
import Derived.Test.YtcgfjalglnlofaaCastD
namespace Go.Proofs.Ytcgfjalglnlofaa
open Go Go.RowKit Go.ChangeShapes Go.WideShapes Go.ChangeAt Go.ChangeMaps

theorem own : ownKnob Try.prog.godebug = none := by kernel_rfl
theorem laidOut : laidOutB Try.prog = true := by kernel_rfl

/-- A message as an argument. -/
theorem open_msg {H : Type} {enc : TypeId × Value → H} {W : World} {base : Nat} {v : Value} {d : DataW H} {p : List MemPlace} (hv : Value.okWide Try.prog W .any base 36 v) (h : DataW.Trod enc Try.prog W 0 (fun _ => true) true 36 v d p) :
    ∃ m : Msg, v = .agg m.cells.toArray ∧ m.val.size ≤ maxLen := by
  obtain ⟨v0, v1, v2, y0, y1, y2, n, rfl, -, -, h0, h1, h2⟩ := Go.Joins.open_agg3 (P := Try.prog) Try.underlying36 (by kernel_rfl) (by kernel_rfl) hv h
  obtain ⟨k, e0, -, -⟩ := DataW.trod_int (P := Try.prog) Try.underlying3 h0
  obtain ⟨f, e1, -, -⟩ := DataW.trod_int (P := Try.prog) Try.underlying3 h1
  obtain ⟨s, e2, -, hs⟩ := DataW.trod_string (P := Try.prog) Try.underlying9 h2
  cases e0; cases e1; cases e2
  exact ⟨⟨k, f, s⟩, rfl, hs⟩

set_option maxRecDepth 100000 in
theorem castVoid_lifted (os : Os) (started : os.Started) (H : Type) (enc : TypeId × Value → H) :
    ReturnsInHanded {} Try.checked os 8 .any (Rows.castVoidSpec.pre6 enc Try.prog Try.f8 Rows.castVoidRow.domain false) (Rows.castVoidSpec.post enc Try.prog Try.f8 false true false false) := by
  refine returnsInHanded_of_change (C := Try.checked) own started (by kernel_rfl) Try.func8
    (ChangeSpec.witness6 (enc := enc) (C := Try.checked) false ⟨#[], #[.agg #[.int .i64 0, .int .i64 0, .string ⟨#[]⟩]], []⟩ 8 (by kernel_rfl) (by kernel_rfl) (by kernel_rfl) (by kernel_rfl)) ?_
  intro W base args ds gs before hval hW _ _
  have hW' := hW
  obtain ⟨p, q, hA0, hV, rfl, hfz, hnd⟩ := hW
  obtain ⟨rfl, rfl⟩ := trodVars_none hV
  have hA : DataW.TrodAll enc Try.prog W 0 (fun _ => true) true Try.f8.params.toList args.toList ds p := hA0
  rw [Try.params8] at hA hval
  obtain ⟨v0, vs0, d0, ds0, p0, q0, hargs, rfl, rfl, h0, r0⟩ := trodAll_cons hA
  obtain ⟨rfl, rfl, rfl⟩ := trodAll_nil r0
  obtain rfl : args = #[v0] := by cases args; simp_all
  obtain ⟨m, rfl, -⟩ := open_msg (hval 0 36 v0 rfl rfl) h0
  refine (void_any W m).mono fun e W' ⟨he, hM⟩ => ?_
  subst he
  exact ⟨_, rfl, post_true (tb := 4) rfl laidOut (by rw [Try.params8]; intro t ht; simp at ht; subst ht; exact ⟨by kernel_rfl, of_decide_eq_true (by kernel_rfl)⟩) rfl Try.underlying4 rfl hW' hM⟩

theorem castVoid_holds : Rows.CastVoidSaid :=
  OpenClaim.holds_of_wide 8 Try.f8 rfl rfl rfl rfl rfl rfl rfl ⟨rfl, rfl, rfl, rfl, rfl⟩ rfl rfl rfl rfl rfl (by kernel_rfl) Try.func8 (by kernel_rfl)
    (of_decide_eq_true (by kernel_rfl)) (by unfold Func.isWrapper; first | (rw [if_pos (by decide +kernel)]; kernel_rfl) | (rw [if_neg (by decide +kernel)]; exact ⟨rfl, rfl⟩))
    (fun os started H enc _ => castVoid_lifted os started H enc)
end Go.Proofs.Ytcgfjalglnlofaa
